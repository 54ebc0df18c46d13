/-
  Soundness of the evaluator, third part: reading memory.
-/
import Derived.Test.YtacnbajcignacaaGreatSnd2
import Derived.Deep.MidRow
namespace Go.Proofs.YtacnbajcignacaaGreat
open Go.RowKit
set_option linter.unusedSimpArgs false
set_option linter.unusedVariables false

section
variable {P : Program}
theorem aggT_some {t : TypeId} {g : Bool} (h : aggT P t = some g) : ∃ d, P.underlying t = some d ∧ isAggD d = g := by
  obtain ⟨d, h1, h2⟩ := bnd_eq_some h
  injection h2 with h2
  exact ⟨d, h1, h2⟩
theorem isRow_of {d : TypeDesc} (h : isAggD d = true) : d.isRow = true := by cases d <;> simp_all [isAggD]
theorem info_of {t : TypeId} {d : TypeDesc} (h : P.underlying t = some d) : ∃ i, P.info? t = some i := by
  unfold Program.underlying at h
  cases e : P.info? t with
  | none => rw [e] at h; cases h
  | some i => exact ⟨i, rfl⟩
theorem size_of {t : TypeId} {d : TypeDesc} (h : P.underlying t = some d) : (P.info? t).map (·.size) = some (P.cellsOf t) := by
  obtain ⟨i, e⟩ := info_of h
  unfold Program.cellsOf; rw [e]; rfl
theorem run_load_cell (w : World) (b o : Nat) (t : TypeId) (d : TypeDesc) (u : Value) (hu : P.underlying t = some d) (hd : isAggD d = false) (hc : w.cell? ⟨b, o, none⟩ = some u) :
    (Instr.loadAt t (.pointer (some ⟨b, o, none⟩))).run P w = .ok u w := by
  have hagg : (isAgg t).run P w = .ok false w := by
    unfold isAgg
    rw [Sem.run_bind, run_underlying hu w]
    cases d <;> simp_all [isAggD]
  simp [Instr.loadAt, Instr.sureAddr, loadVar, Sem.run_bind, hagg, load, Sem.run, hc]
end
section
variable {P : Program} {c : Ctx} {s : S} {y : Lay} {a : Act} {w : World}
theorem At.kw (A : At c s y a w) : ∀ b o, c.K b o → w.heap[b]? = some o := c.hK w (St.dropL (St.dropL (St.dropL A.st)))
theorem At.zw (A : At c s y a w) : ∀ b o, (relOf c s y).Z b o → w.heap[b]? = some o := by
  intro b o ⟨p, hp, hb, ho⟩
  obtain ⟨x, hx, rfl⟩ := List.mem_map.1 hp
  have : snapP (y.w0 x.1) (y.F x.1) ∈ froPs y.w0 y.F s.fro ++ c.L := List.mem_append_left _ (List.mem_map.2 ⟨x, hx, rfl⟩)
  rw [(St.dropL (St.dropL A.st)).snap_at this b hb]; exact ho
theorem At.boxAt (A : At c s y a w) {b : Nat} {cs : List V} (h : look b s.box = some cs) : w.heap[y.bl b]? = some (.cells (y.us b) (y.T b) (0, 0)) ∧ RVs (relOf c s y) cs (y.us b).toList := by
  have m := look_mem h
  exact ⟨A.st.row_at (List.mem_append_left _ (List.mem_map.2 ⟨(b, cs), m, rfl⟩)), A.box b cs m⟩
theorem At.treeAt (A : At c s y a w) {p : Nat} {rows : List (List D)} (h : look p s.tree = some rows) : ∃ F, OwnD w (.l rows) (y.hd p) F :=
  A.st.own_at (List.mem_append_right _ (List.mem_append_left _ (List.mem_map.2 ⟨(p, rows), look_mem h, rfl⟩)))
theorem At.froAt (A : At c s y a w) {p : Nat} {rows : List (List D)} (h : look p s.fro = some rows) : RdD (relOf c s y).Z (.l rows) (y.hd p) := by
  have m := look_mem h
  exact (A.fro p rows m).rd fun b hb o e => ⟨p, List.mem_map.2 ⟨(p, rows), m, rfl⟩, hb, e⟩
theorem At.apart (A : At c s y a w) {p : Nat} {r1 r2 : List (List D)} (h1 : look p s.tree = some r1) (h2 : look p s.fro = some r2) : False := by
  have n := A.nt
  rw [List.map_append, List.nodup_append] at n
  exact n.2.2 p (List.mem_map.2 ⟨(p, r1), look_mem h1, rfl⟩) p (List.mem_map.2 ⟨(p, r2), look_mem h2, rfl⟩) rfl
theorem At.rows (A : At c s y a w) {v : V} {u : Value} {rows : List (List D)} (hv : RV (relOf c s y) v u) (h : s.rows v = some rows) : RdD (heapOf w) (.l rows) u := by
  cases v <;> simp only [S.rows] at h <;> try (cases h; done)
  case nil => injection h with h; subst h; rw [show u = _ from hv]; exact .nil none 0 (by omega) (fun _ => rfl)
  case lst o r => injection h with h; subst h; exact hv.1.mono A.kw
  case fz r => injection h with h; subst h; exact RdD.mono hv A.zw
  case own p =>
    rw [show u = _ from hv.2]
    cases e : look p s.tree with
    | some r =>
      rw [e] at h; simp only [orElse1] at h; injection h with h; subst h
      obtain ⟨F, o⟩ := A.treeAt e
      exact o.rd fun _ _ _ e => e
    | none =>
      rw [e] at h; simp only [orElse1] at h
      exact (A.froAt h).mono A.zw
/-- a row of a list, cell by cell -/
theorem At.cellsAt (A : At c s y a w) {base : V} {ub : Value} {rows : List (List D)} {i : Nat} {r : List D} (hv : RV (relOf c s y) base ub) (h : s.rows base = some rows) (hi : rows[i]? = some r) :
    ∃ cc b o T fr cs, ub = .slice (some ⟨b, o, none⟩) rows.length cc ∧ w.heap[b]? = some (.cells cs T fr) ∧ ∀ (j : Nat) (d : D) (v : V), r[j]? = some d → s.under base d = some v → ∃ u, cs[o + (i * r.length + j)]? = some u ∧ RV (relOf c s y) v u := by
  cases base <;> simp only [S.rows] at h <;> try (cases h; done)
  case nil => injection h with h; subst h; simp at hi
  case lst o' r' =>
    injection h with h; subst h
    obtain ⟨cc, b, o, T, fr, cs, h1, h2, h3⟩ := hv.1.at_ hi
    refine ⟨cc, b, o, T, fr, cs, h1, A.kw _ _ h2, fun j d v e1 e2 => ?_⟩
    obtain ⟨u, hu, hd⟩ := h3 j d e1
    refine ⟨u, hu, ?_⟩
    cases d <;> simp only [S.under] at e2 <;> (injection e2 with e2; subst e2)
    · exact hd.atom
    · exact ⟨hd, fun j h => by cases h⟩
  case fz r' =>
    injection h with h; subst h
    obtain ⟨cc, b, o, T, fr, cs, h1, h2, h3⟩ := RdD.at_ hv hi
    refine ⟨cc, b, o, T, fr, cs, h1, A.zw _ _ h2, fun j d v e1 e2 => ?_⟩
    obtain ⟨u, hu, hd⟩ := h3 j d e1
    refine ⟨u, hu, ?_⟩
    cases d <;> simp only [S.under] at e2 <;> (injection e2 with e2; subst e2)
    · exact hd.atom
    · exact hd
  case own p =>
    rw [show ub = _ from hv.2]
    cases e : look p s.tree with
    | some r' =>
      rw [e] at h; simp only [orElse1] at h; injection h with h; subst h
      obtain ⟨F, o⟩ := A.treeAt e
      obtain ⟨cc, b, o, T, fr, cs, h1, h2, h3⟩ := (o.rd (G := heapOf w) fun _ _ _ e => e).at_ hi
      refine ⟨cc, b, o, T, fr, cs, h1, h2, fun j d v e1 e2 => ?_⟩
      obtain ⟨u, hu, hd⟩ := h3 j d e1
      refine ⟨u, hu, ?_⟩
      cases d <;> simp only [S.under] at e2
      · injection e2 with e2; subst e2; exact hd.atom
      · obtain ⟨r2, k1, _⟩ := bnd_eq_some e2; exact (A.apart e k1).elim
    | none =>
      rw [e] at h; simp only [orElse1] at h
      obtain ⟨cc, b, o, T, fr, cs, h1, h2, h3⟩ := (A.froAt h).at_ hi
      refine ⟨cc, b, o, T, fr, cs, h1, A.zw _ _ h2, fun j d v e1 e2 => ?_⟩
      obtain ⟨u, hu, hd⟩ := h3 j d e1
      refine ⟨u, hu, ?_⟩
      cases d <;> simp only [S.under] at e2
      · injection e2 with e2; subst e2; exact hd.atom
      · obtain ⟨r2, k1, k2⟩ := bnd_eq_some e2; injection k2 with k2; subst k2; exact hd
theorem mapSome_get {α β : Type} {f : α → Option β} : ∀ {l : List α} {r : List β}, mapSome f l = some r → r.length = l.length ∧ ∀ (i : Nat) (x : α), l[i]? = some x → ∃ z, r[i]? = some z ∧ f x = some z
  | [], r, h => by simp only [mapSome] at h; injection h with h; subst h; exact ⟨rfl, fun i x e => by simp at e⟩
  | x :: l, r, h => by
    simp only [mapSome] at h
    obtain ⟨z, h1, h⟩ := bnd_eq_some h
    obtain ⟨q, h2, h⟩ := bnd_eq_some h
    injection h with h; subst h
    obtain ⟨k1, k2⟩ := mapSome_get h2
    refine ⟨by rw [List.length_cons, List.length_cons, k1], fun i x' e => ?_⟩
    cases i with
    | zero => simp at e; subst e; exact ⟨z, rfl, h1⟩
    | succ i => exact k2 i x' (by simpa using e)
theorem At.loadAt (A : At c s y a w) {t : TypeId} {vx v : V} {u0 : Value} (ex : RV (relOf c s y) vx u0) (h : s.load P t vx = some v) : ∃ u, (Instr.loadAt t u0).run P w = .ok u w ∧ RV (relOf c s y) v u := by
  have fin : ∀ u, (Instr.loadAt t u0).run P w = .ok u w → RV (relOf c s y) v u → ∃ u, (Instr.loadAt t u0).run P w = .ok u w ∧ RV (relOf c s y) v u := fun u hr hv => ⟨u, hr, hv⟩
  cases vx <;> simp only [S.load] at h <;> try (cases h; done)
  case ref b off =>
    obtain ⟨g, hg, h⟩ := bnd_eq_some h
    obtain ⟨cs, hcs, h⟩ := bnd_eq_some h
    obtain ⟨d, hu, hd⟩ := aggT_some hg
    obtain ⟨hb, hv⟩ := A.boxAt hcs
    rw [show u0 = _ from ex.2] at fin ⊢
    have cell : ∀ i, w.cell? ⟨y.bl b, i, none⟩ = (y.us b).toList[i]? := fun i => by rw [cell_of_row w _ i _ _ _ hb, Array.getElem?_toList]
    unfold span at h
    cases g with
    | true =>
      rw [if_pos rfl] at h
      obtain ⟨hle, h⟩ := grd_eq_some h
      injection h with h; subst h
      refine fin (.agg (((y.us b).toList.drop off).take (P.cellsOf t)).toArray) ?_ ⟨_, rfl, (hv.drop off).take _⟩
      refine run_loadAt_mid w _ _ t _ d (fun j u e => ?_) hu (isRow_of hd) ?_
      · refine (cell (off + j)).trans ?_
        rw [List.getElem?_take] at e
        split at e
        · rw [List.getElem?_drop] at e; exact e
        · cases e
      · rw [size_of hu, List.length_take, List.length_drop, hv.len]; congr 1; omega
    | false =>
      rw [if_neg (by simp)] at h
      obtain ⟨u, h1, h2⟩ := hv.get h
      exact fin u (run_load_cell w _ _ t d u hu hd ((cell off).trans h1)) h2
  case pe base k i off =>
    obtain ⟨g, hg, h⟩ := bnd_eq_some h
    obtain ⟨rows, hrows, h⟩ := bnd_eq_some h
    obtain ⟨r, hr, h⟩ := bnd_eq_some h
    obtain ⟨hk, h0⟩ := grd_eq_some h
    clear h
    obtain ⟨d, hu, hd⟩ := aggT_some hg
    obtain ⟨ub, e1, g', o', n', c', e2, e3, e4⟩ := ex
    obtain ⟨cc, b, q, T, fr, cs, h1, h2, h3⟩ := A.cellsAt e1 hrows hr
    rw [e2] at h1
    injection h1 with h1 _ _
    injection h1 with h1
    injection h1 with h1 h1' _
    subst h1; subst h1'; subst hk
    rw [e4] at fin ⊢
    have cell : ∀ j, w.cell? ⟨g', j, none⟩ = cs[j]? := fun j => cell_of_row w _ j _ _ _ h2
    have h := h0
    unfold S.loadRow at h
    cases g with
    | true =>
      rw [if_pos rfl] at h
      obtain ⟨hle, h⟩ := grd_eq_some h
      obtain ⟨vs, hvs, h⟩ := bnd_eq_some h
      injection h with h; subst h
      obtain ⟨m1, m2⟩ := mapSome_get hvs
      have hlen : ((r.drop off).take (P.cellsOf t)).length = P.cellsOf t := by rw [List.length_take, List.length_drop]; omega
      have key : ∀ j, j < P.cellsOf t → ∃ u v, cs[o' + (i * r.length + off) + j]? = some u ∧ vs[j]? = some v ∧ RV (relOf c s y) v u := by
        intro j hj
        have hd2 : ((r.drop off).take (P.cellsOf t))[j]? = some (r[off + j]'(by omega)) := by
          rw [List.getElem?_take, if_pos hj, List.getElem?_drop, List.getElem?_eq_getElem]
        obtain ⟨v, q1, q2⟩ := m2 j _ hd2
        obtain ⟨u, q3, q4⟩ := h3 (off + j) _ v (List.getElem?_eq_getElem (by omega)) q2
        exact ⟨u, v, by rw [show o' + (i * r.length + off) + j = o' + (i * r.length + (off + j)) by omega]; exact q3, q1, q4⟩
      refine fin (.agg ((List.range (P.cellsOf t)).map fun j => cs[o' + (i * r.length + off) + j]?.getD undef).toArray) ?_ ⟨_, rfl, RVs.of (by simp [m1, hlen]) fun j v u w1 w2 => ?_⟩
      · refine run_loadAt_mid w _ _ t _ d (fun j u e => ?_) hu (isRow_of hd) (by rw [size_of hu]; simp)
        rw [cell]
        have hj : j < P.cellsOf t := by have := (List.getElem?_eq_some_iff.1 e).1; simpa using this
        obtain ⟨u', v', k1, k2, k3⟩ := key j hj
        rw [List.getElem?_map, List.getElem?_range hj, Option.map_some, k1] at e
        rw [k1]; exact e
      · have hj : j < P.cellsOf t := by have := (List.getElem?_eq_some_iff.1 w1).1; rw [m1, hlen] at this; exact this
        obtain ⟨u', v', k1, k2, k3⟩ := key j hj
        rw [List.getElem?_map, List.getElem?_range hj, Option.map_some, k1] at w2
        rw [k2] at w1
        injection w1 with w1; injection w2 with w2
        subst w1
        have : u' = u := by simpa using w2
        subst this; exact k3
    | false =>
      rw [if_neg (by simp)] at h
      obtain ⟨dd, hdd, h⟩ := bnd_eq_some h
      obtain ⟨u, q1, q2⟩ := h3 off dd v hdd h
      exact fin u (run_load_cell w _ _ t d u hu hd (by rw [cell]; exact q1)) q2
theorem step_load {o : Oper} {t : TypeId} {x : Operand} (ho : o.op = .load t x) (hd' : dstOk c.n o.dst = true) {vx v : V} (hx : s.ev x = some vx) (h : s.load P t vx = some v) : Step P c o s (s.put o.dst v) := step_value hd' fun yy a w A => by
  obtain ⟨u, hr, hv⟩ := A.loadAt (A.ev hx) h
  refine ⟨u, ?_, hv⟩
  unfold execOp; simp only [ho]; rw [Sem.run_bind, hr]; rfl
end
end Go.Proofs.YtacnbajcignacaaGreat

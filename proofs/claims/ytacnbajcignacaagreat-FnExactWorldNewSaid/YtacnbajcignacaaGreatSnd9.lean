/-
  Soundness of the evaluator, ninth part: what goes into a new list, append.
-/
import Derived.Test.YtacnbajcignacaaGreatSnd8
import Derived.Deep.Upon
namespace Go.Proofs.YtacnbajcignacaaGreat
open Go.RowKit
set_option linter.unusedSimpArgs false
set_option linter.unusedVariables false

/-- more pieces beside -/
def Ctx.with (c : Ctx) (E : List Pc) : Ctx := { c with L := E ++ c.L, hK := fun w S => c.hK w (St.dropL S) }
section
variable {P : Program} {c : Ctx} {s : S} {y : Lay} {a : Act} {w : World}
/-- the pieces of a state -/
def Pcs (s : S) (y : Lay) : List Pc := boxPs y.bl y.T y.us s.box ++ (treePs y.hd s.tree ++ froPs y.w0 y.F s.fro)
theorem At.pcs (A : At c s y a w) : St c.W w (Pcs s y ++ c.L) := by
  have := A.st
  unfold Pcs
  rw [List.append_assoc, List.append_assoc]; exact this
theorem At.withL (A : At c s y a w) {w' : World} {L' : List Pc} (hK' : ∀ w, St c.W w L' → ∀ b o, c.K b o → w.heap[b]? = some o) (S : St c.W w' (Pcs s y ++ L')) : At { c with L := L', hK := hK' } s y a w' := by
  unfold Pcs at S
  rw [List.append_assoc, List.append_assoc] at S
  exact ⟨A.defers, A.size, S, A.env, A.box, A.fro, A.nb, A.nt, A.fix⟩
theorem At.push (A : At c s y a w) {x : Pc} (S : St c.W w (x :: (Pcs s y ++ c.L))) : At (c.with [x]) s y a w :=
  A.withL (L' := [x] ++ c.L) (Ctx.with c [x]).hK (S.perm (List.perm_middle).symm)
theorem At.pop {E : List Pc} (A : At (c.with E) s y a w) : At c s y a w := by
  have S : St c.W w (Pcs s y ++ (E ++ c.L)) := A.pcs
  have S2 : St c.W w (E ++ (Pcs s y ++ c.L)) := S.perm (by
    rw [← List.append_assoc, ← List.append_assoc]
    exact List.Perm.append_right _ List.perm_append_comm)
  exact A.withL (c := c.with E) (L' := c.L) c.hK (St.dropL S2)
theorem At.front {E : List Pc} (A : At (c.with E) s y a w) : St c.W w (E ++ (Pcs s y ++ c.L)) := by
  have S : St c.W w (Pcs s y ++ (E ++ c.L)) := A.pcs
  refine S.perm ?_
  rw [← List.append_assoc, ← List.append_assoc]
  exact List.Perm.append_right _ List.perm_append_comm
theorem pcs_kill (s : S) (y : Lay) (p : Nat) : Pcs (s.kill p) y = boxPs y.bl y.T y.us s.box ++ (treePs y.hd (drop1 p s.tree) ++ froPs y.w0 y.F s.fro) := by
  unfold Pcs
  show boxPs y.bl y.T y.us (killB p s.box) ++ _ = _
  rw [boxPs_killB]
  rfl
/-- the list p, ahead of the pieces -/
theorem At.out' (A : At c s y a w) {p : Nat} {rows : List (List D)} (hl : look p s.tree = some rows) : St c.W w (ownP (y.hd p) rows :: (Pcs (s.kill p) y ++ c.L)) := by
  have := A.out hl
  rw [pcs_kill, List.append_assoc, List.append_assoc]; exact this
theorem At.killed' (A : At c s y a w) {p : Nat} {w' : World} {L' : List Pc} (hK' : ∀ w, St c.W w L' → ∀ b o, c.K b o → w.heap[b]? = some o) (S : St c.W w' (Pcs (s.kill p) y ++ L')) {rows : List (List D)} (hl : look p s.tree = some rows) : At { c with L := L', hK := hK' } (s.kill p) y a w' := by
  rw [pcs_kill, List.append_assoc, List.append_assoc] at S
  exact A.killed hK' S (List.mem_map.2 ⟨_, look_mem hl, rfl⟩)
/-- a list goes out of the state, beside it -/
theorem At.take (A : At c s y a w) {p : Nat} {rows : List (List D)} (hl : look p s.tree = some rows) : At (c.with [ownP (y.hd p) rows]) (s.kill p) y a w :=
  A.killed' (L' := [ownP (y.hd p) rows] ++ c.L) (Ctx.with c _).hK ((A.out' hl).perm List.perm_middle.symm) hl

/-- a cell of a new list -/
def PV (y : Lay) : V → Value → Prop
  | .v x, u => u = x
  | .nil, u => u = .slice none 0 0
  | .own q, u => u = y.hd q
  | _, _ => True
theorem PV.of {v : V} {u : Value} (h : RV (relOf c s y) v u) : PV y v u := by
  cases v <;> first | exact trivial | exact h | exact h.2
theorem packRow_sound : ∀ {vs : List V} {us : List Value} {s s' : S} {ds : List D} {E : List Pc}, At (c.with E) s y a w → us.length = vs.length → (∀ (i : Nat) (v : V) (u : Value), vs[i]? = some v → us[i]? = some u → PV y v u) → packRow s vs = some (ds, s') →
    ∃ E', At (c.with (E' ++ E)) s' y a w ∧ E'.Perm (pcs ds us) ∧ ds.length = vs.length
  | [], us, s, s', ds, E, A, hl, _, h => by
    simp only [packRow] at h; injection h with h; injection h with h1 h2; subst h1; subst h2
    obtain rfl : us = [] := List.eq_nil_of_length_eq_zero hl
    exact ⟨[], A, List.Perm.refl _, rfl⟩
  | v :: r, [], s, s', ds, E, A, hl, _, h => by simp at hl
  | v :: r, u :: us, s, s', ds, E, A, hl, hp, h => by
    have hp0 := hp 0 v u rfl rfl
    have hpr : ∀ (i : Nat) (v' : V) (u' : Value), r[i]? = some v' → us[i]? = some u' → PV y v' u' := fun i v' u' e1 e2 => hp (i + 1) v' u' (by simpa using e1) (by simpa using e2)
    have fin : ∀ (d : D) (s1 : S) (A1 : At (c.with (dP d u :: E)) s1 y a w) (x : List D × S), packRow s1 r = some x → ∃ E', At (c.with (E' ++ E)) x.2 y a w ∧ E'.Perm (pcs (d :: x.1) (u :: us)) ∧ (d :: x.1).length = (v :: r).length := by
      intro d s1 A1 x hx
      obtain ⟨E', h1, h2, h3⟩ := packRow_sound (E := dP d u :: E) A1 (by simpa using hl) hpr hx
      refine ⟨E' ++ [dP d u], by rw [List.append_assoc]; exact h1, ?_, by rw [List.length_cons, List.length_cons, h3]⟩
      exact (List.perm_append_comm).trans (List.Perm.cons _ h2)
    have triv : ∀ (d : D) (o : OwnD w d u []) (x : List D × S), packRow s r = some x → ∃ E', At (c.with (E' ++ E)) x.2 y a w ∧ E'.Perm (pcs (d :: x.1) (u :: us)) ∧ (d :: x.1).length = (v :: r).length := fun d o x hx =>
      fin d s (At.push (c := c.with E) A (A.pcs.more (Ext.refl w) (h := dP d u) (F := []) o List.nodup_nil (fun b hb => by cases hb))) x hx
    cases v with
    | own p =>
      simp only [packRow] at h
      obtain ⟨rows, h1, h⟩ := bnd_eq_some h
      obtain ⟨x, h2, h⟩ := bnd_eq_some h
      injection h with h; injection h with h3 h4; subst h3; subst h4
      have hu : u = y.hd p := hp0
      subst hu
      exact fin (.l rows) (s.kill p) (At.take (c := c.with E) A h1) x h2
    | v x0 =>
      simp only [packRow, packV] at h
      obtain ⟨d, h1, h⟩ := bnd_eq_some h
      obtain ⟨x, h2, h⟩ := bnd_eq_some h
      injection h1 with h1; subst h1
      injection h with h; injection h with h3 h4; subst h3; subst h4
      have hu : u = x0 := hp0
      subst hu
      exact triv _ (.a u) x h2
    | nil =>
      simp only [packRow, packV] at h
      obtain ⟨d, h1, h⟩ := bnd_eq_some h
      obtain ⟨x, h2, h⟩ := bnd_eq_some h
      injection h1 with h1; subst h1
      injection h with h; injection h with h3 h4; subst h3; subst h4
      have hu : u = .slice none 0 0 := hp0
      subst hu
      exact triv _ .nil x h2
    | _ => simp only [packRow, packV] at h; obtain ⟨_, h1, _⟩ := bnd_eq_some h; cases h1
theorem packRows_sound {k : Nat} : ∀ {vs : List V} {us : List (List Value)} {s s' : S} {rows : List (List D)} {E : List Pc}, At (c.with E) s y a w → us.length = vs.length → (∀ (i : Nat) (v : V) (u : List Value), vs[i]? = some v → us[i]? = some u → v.cells.length = k ∧ u.length = k ∧ ∀ (j : Nat) (v' : V) (u' : Value), v.cells[j]? = some v' → u[j]? = some u' → PV y v' u') → packRows s vs = some (rows, s') →
    ∃ E', At (c.with (E' ++ E)) s' y a w ∧ E'.Perm (pcs rows.flatten us.flatten) ∧ rows.length = vs.length ∧ ∀ r ∈ rows, r.length = k
  | [], us, s, s', rows, E, A, hl, _, h => by
    simp only [packRows] at h; injection h with h; injection h with h1 h2; subst h1; subst h2
    obtain rfl : us = [] := List.eq_nil_of_length_eq_zero hl
    exact ⟨[], A, List.Perm.refl _, rfl, fun r hr => by cases hr⟩
  | v :: r, [], s, s', ds, E, A, hl, _, h => by simp at hl
  | v :: r, u :: us, s, s', rows, E, A, hl, hp, h => by
    obtain ⟨k1, k2, k3⟩ := hp 0 v u rfl rfl
    simp only [packRows] at h
    obtain ⟨x, h1, h⟩ := bnd_eq_some h
    obtain ⟨z, h2, h⟩ := bnd_eq_some h
    injection h with h; injection h with h3 h4; subst h3; subst h4
    obtain ⟨E1, a1, a2, a3⟩ := packRow_sound (s' := x.2) (ds := x.1) A (by rw [k1, k2]) k3 h1
    obtain ⟨E2, b1, b2, b3, b4⟩ := packRows_sound (s' := z.2) (rows := z.1) a1 (by simpa using hl) (fun i v' u' e1 e2 => hp (i + 1) v' u' (by simpa using e1) (by simpa using e2)) h2
    refine ⟨E2 ++ E1, by rw [List.append_assoc]; exact b1, ?_, by rw [List.length_cons, List.length_cons, b3], fun r' hr => ?_⟩
    · rw [List.flatten_cons, List.flatten_cons, pcs_app (by rw [a3, k1, k2])]
      exact List.perm_append_comm.trans (List.Perm.append a2 b2)
    · rcases List.mem_cons.1 hr with rfl | hr
      · rw [a3, k1]
      · exact b4 r' hr
theorem upto_zip {α : Type} {n : Nat} : ∀ {k : Nat} {ps : List (Nat × α)}, upto k n (ps.map (·.1)) = true → ps = ((ps.map (·.2)).zipIdx k).map (fun x => (x.2, x.1)) ∧ k + ps.length = n
  | k, [], h => by simp [upto] at h; exact ⟨rfl, by simpa using h⟩
  | k, (j, x) :: ps, h => by
    simp only [List.map_cons, upto, Bool.and_eq_true, decide_eq_true_eq] at h
    obtain ⟨rfl, h⟩ := h
    obtain ⟨h1, h2⟩ := upto_zip h
    refine ⟨?_, by rw [List.length_cons]; omega⟩
    rw [List.map_cons, List.zipIdx_cons, List.map_cons, ← h1]
theorem evPairs (A : At c s y a w) : ∀ {ps : List (Nat × Operand)} {vs : List (Nat × V)}, mapSome (evPair s) ps = some vs → vs.length = ps.length ∧ vs.map (·.1) = ps.map (·.1) ∧ ∀ (i : Nat) (v : V) (x : Nat × Operand), (vs.map (·.2))[i]? = some v → ps[i]? = some x → RV (relOf c s y) v (a.eval x.2)
  | [], vs, h => by simp only [mapSome] at h; injection h with h; subst h; exact ⟨rfl, rfl, fun i v x e => by simp at e⟩
  | x :: ps, vs, h => by
    simp only [mapSome] at h
    obtain ⟨v, h1, h⟩ := bnd_eq_some h
    obtain ⟨vs', h2, h⟩ := bnd_eq_some h
    injection h with h; subst h
    obtain ⟨k1, k2, k3⟩ := evPairs A h2
    unfold evPair at h1
    obtain ⟨v', h3, h1⟩ := bnd_eq_some h1
    injection h1 with h1; subst h1
    refine ⟨by rw [List.length_cons, List.length_cons, k1], by rw [List.map_cons, List.map_cons, k2], fun i v2 x2 e1 e2 => ?_⟩
    cases i with
    | zero => simp at e1 e2; subst e1; subst e2; exact A.ev h3
    | succ i => exact k3 i v2 x2 (by simpa using e1) (by simpa using e2)
theorem zeroOk_some {e : TypeId} (h : zeroOk P e = true) : ∃ i z, P.info? e = some i ∧ i.zero = some z ∧ z.cells.size = i.size ∧ 0 < i.size ∧ P.cellsOf e = i.size := by
  unfold zeroOk at h
  split at h
  · rename_i i hi
    split at h
    · rename_i z hz
      simp only [Bool.and_eq_true, decide_eq_true_eq] at h
      exact ⟨i, z, hi, hz, h.1, h.2, by unfold Program.cellsOf; rw [hi]; rfl⟩
    · cases h
  · cases h
theorem newTree_sound {E : List Pc} {dst : Option Nat} {s' : S} {rows : List (List D)} {u : Value} {w' : World} (A : At (c.with E) s y a w) (hd' : dstOk c.n dst = true) (h : s.newTree dst rows = some s') (S0 : St c.W w' (ownP u rows :: (Pcs s y ++ c.L))) : ∃ y', At c s' y' (a.put dst u) w' := by
  unfold S.newTree at h
  obtain ⟨t, ht, h⟩ := bnd_eq_some h
  obtain ⟨hf, h⟩ := grd_eq_some h
  injection h with h; subst h; subst ht
  have A0 : At c s y a w := A.pop
  refine ⟨_, A0.newTree hf hd' ?_⟩
  unfold Pcs at S0
  rw [List.append_assoc, List.append_assoc] at S0
  exact S0
theorem step_buildSlice {o : Oper} {t e : TypeId} {n : Nat} {ps : Array (Nat × Operand)} (ho : o.op = .buildSlice t n ps) (hd' : dstOk c.n o.dst = true) {vs : List (Nat × V)} {rows : List (List D)} {s1 s' : S} (hu : P.underlying t = some (.slice e)) (hvs : mapSome (evPair s) ps.toList = some vs)
    (hz : zeroOk P e = true) (hn : n * P.cellsOf e ≤ 16777216) (hup : upto 0 n (vs.map (·.1)) = true) (hc : ∀ v ∈ vs, v.2.cells.length = P.cellsOf e ∧ v.2.cells.all V.one = true) (hp : packRows s (vs.map (·.2)) = some (rows, s1)) (h : s1.newTree o.dst rows = some s') : Step P c o s s' := by
  intro a w G next Q kk
  obtain ⟨y, A⟩ := G
  obtain ⟨i, z, z1, z2, z3, z4, z5⟩ := zeroOk_some hz
  obtain ⟨q1, q2, q3⟩ := evPairs A hvs
  obtain ⟨u1, u2⟩ := upto_zip hup
  have hcells : ∀ (j : Nat) (v : V) (x : Nat × Operand), (vs.map (·.2))[j]? = some v → ps.toList[j]? = some x → v.cells.length = P.cellsOf e ∧ RVs (relOf c s y) v.cells (a.eval x.2).cells.toList := by
    intro j v x e1 e2
    rw [List.getElem?_map] at e1
    obtain ⟨v0, e3, rfl⟩ := Option.map_eq_some_iff.1 e1
    have hm := hc v0 (List.mem_of_getElem? e3)
    exact ⟨hm.1, (A.cells (q3 j v0.2 x (by rw [List.getElem?_map, e3]; rfl) e2) hm.2).1⟩
  have A0 : At (c.with []) s y a w := A
  obtain ⟨E, a1, a2, a3, a4⟩ := packRows_sound (k := P.cellsOf e) (vs := vs.map (·.2)) (us := ps.toList.map fun x => (a.eval x.2).cells.toList) A0 (by rw [List.length_map, List.length_map, q1]) (fun j v us' e1 e2 => by
    rw [List.getElem?_map] at e2
    obtain ⟨x, e3, rfl⟩ := Option.map_eq_some_iff.1 e2
    obtain ⟨m1, m2⟩ := hcells j v x e1 e3
    refine ⟨m1, by rw [m2.len, m1], fun j' v' u' f1 f2 => ?_⟩
    obtain ⟨u2, f3, f4⟩ := m2.get f1
    rw [f2] at f3; injection f3 with f3; subst f3
    exact PV.of f4) hp
  rw [List.append_nil] at a1
  have hlen : rows.length = n := by rw [a3, List.length_map]; omega
  have hflat : ∀ r ∈ (ps.toList.map fun x => (a.eval x.2).cells.toList), r.length = P.cellsOf e := by
    intro r hr
    obtain ⟨x, hx, rfl⟩ := List.mem_map.1 hr
    obtain ⟨j, e3⟩ := List.getElem?_of_mem hx
    have hj : j < (vs.map (·.2)).length := by rw [List.length_map, q1]; exact (List.getElem?_eq_some_iff.1 e3).1
    obtain ⟨m1, m2⟩ := hcells j _ x (List.getElem?_eq_getElem hj) e3
    rw [m2.len, m1]
  have hpn : ps.toList.length = n := by rw [← q1]; omega
  have hfl1 := flat_len rows a4
  have hfl2 := flat_len _ hflat
  rw [List.length_map, hpn] at hfl2
  have fin : ∀ cells : Array Value, cells.toList = (ps.toList.map fun x => (a.eval x.2).cells.toList).flatten → (Instr.buildSlice t n (ps.map fun (i, x) => (i, a.eval x))).run P w = .ok (.slice (some ⟨w.heap.size, 0, none⟩) n n) (w.alloc (.cells cells e)) → o.wp P a w next Q := by
    intro cells hcl hrun
    have hcs : cells.size = n * P.cellsOf e := by rw [← Array.length_toList, hcl, hfl2]
    have S := (a1.front).alloc cells e
    have S2 : St c.W (w.alloc (.cells cells e)) (rowP w.heap.size e cells :: (pcs rows.flatten (ps.toList.map fun x => (a.eval x.2).cells.toList).flatten ++ (Pcs s1 y ++ c.L))) := S.perm (List.Perm.cons _ (List.Perm.append_right _ a2))
    have S3 := S2.join (cc := n) (k := P.cellsOf e) (by rw [hfl1, hfl2, hlen]) (by omega) (by unfold maxLen; have := Nat.le_mul_of_pos_right n (show 0 < P.cellsOf e by rw [z5]; exact z4); omega) (by rw [z5]; exact z4) a4 hcs (fun e0 => by rw [e0] at hlen; simpa using hlen.symm) (by rw [hcl, hlen, List.take_of_length_le (by rw [hfl2]; exact Nat.le_refl _)])
    rw [hlen] at S3
    obtain ⟨y', A'⟩ := newTree_sound a1 hd' h S3
    refine op_value (u := .slice (some ⟨w.heap.size, 0, none⟩) n n) (w' := w.alloc (.cells cells e)) ?_ (kk _ _ ⟨y', A'⟩)
    unfold execOp; simp only [ho, Sem.run_bind, hrun]; rfl
  by_cases h0 : n = 0
  · subst h0
    have hpe : ps.toList = [] := List.eq_nil_of_length_eq_zero hpn
    refine fin #[] (by rw [hpe]; rfl) ?_
    have hps : ps = #[] := by apply Array.ext'; rw [hpe]
    subst hps
    simp [Instr.buildSlice, run_underlying hu, sizeOf, typeInfo, z1, Instr.fill, newRow]
    congr 2
    apply Array.eq_empty_of_size_eq_zero
    simp
  · have hus : (ps.map fun (i, x) => (i, a.eval x)).toList = (((ps.toList.map fun x => a.eval x.2)).zipIdx 0).map fun x => (x.2, x.1) := by
      have := (upto_zip (ps := ps.toList.map fun x => (x.1, a.eval x.2)) (k := 0) (n := n) (by rw [List.map_map]; rw [q2] at hup; exact hup)).1
      rw [Array.toList_map]
      rw [List.map_map] at this
      exact this
    obtain ⟨r, f1, f2, f3⟩ := Great.fill_dense (s := i.size) z4 (ps.toList.map fun x => a.eval x.2) 0 ((Array.range (n * i.size)).map (z.cells[· % z.cells.size]!)) (fun v hv => by
      obtain ⟨x, hx, rfl⟩ := List.mem_map.1 hv
      rw [← Array.length_toList, hflat _ (List.mem_map.2 ⟨x, hx, rfl⟩), z5]) (by simp [hpn])
    rw [← hus] at f1
    have hrs : r.size = n * i.size := by rw [f2]; simp
    have hrun := run_buildSlice (P := P) w t e n (ps.map fun (i, x) => (i, a.eval x)) r i z hu z1 z2 (by rw [← z5]; omega) (by have := Nat.mul_pos (Nat.pos_of_ne_zero h0) z4; omega) f1
    refine fin r ?_ hrun
    apply List.ext_getElem?
    intro m
    rw [Array.getElem?_toList]
    by_cases hm : m < n * i.size
    · rw [f3 m, if_pos ⟨by omega, by simpa [hpn] using hm⟩]
      have hdm := Nat.div_add_mod m i.size
      rw [Nat.mul_comm] at hdm
      have hd : m / i.size < n := Nat.div_lt_of_lt_mul (by rw [Nat.mul_comm]; exact hm)
      have hmod := Nat.mod_lt m z4
      rw [Nat.sub_zero, List.getElem?_map]
      have hps : m / i.size < ps.toList.length := by rw [hpn]; exact hd
      rw [List.getElem?_eq_getElem hps, Option.map_some, Option.bind_some]
      have hrow := hflat _ (List.mem_map.2 ⟨_, List.getElem_mem hps, rfl⟩)
      rw [z5] at hrow
      have hin : m % i.size < (a.eval (ps.toList[m / i.size]).2).cells.toList.length := by rw [hrow]; exact hmod
      have := flat_get (k := i.size) (ps.toList.map fun x => (a.eval x.2).cells.toList) (m / i.size) (m % i.size) _ _ (fun r hr => by rw [hflat r hr, z5]) (by rw [List.getElem?_map, List.getElem?_eq_getElem hps]; rfl) (List.getElem?_eq_getElem hin)
      rw [hdm] at this
      rw [this, ← Array.getElem?_toList, List.getElem?_eq_getElem hin]
    · rw [Array.getElem?_eq_none (by omega), List.getElem?_eq_none (by rw [hfl2, z5]; omega)]
end
end Go.Proofs.YtacnbajcignacaaGreat

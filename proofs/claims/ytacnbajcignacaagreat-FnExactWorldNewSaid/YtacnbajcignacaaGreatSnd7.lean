/-
  Soundness of the evaluator, seventh part: writing memory.
-/
import Derived.Test.YtacnbajcignacaaGreatSnd6
import Derived.Laws.CopyRow
namespace Go.Proofs.YtacnbajcignacaaGreat
open Go.RowKit
set_option linter.unusedSimpArgs false
set_option linter.unusedVariables false

theorem setAt_sound {ρ : Rel} : ∀ {vs : List V} {xs : List Value} {off : Nat} {cs : List V} {us : List Value}, RVs ρ vs xs → RVs ρ cs us → off + xs.length ≤ us.length → RVs ρ (setAt cs off vs) (us.take off ++ xs ++ us.drop (off + xs.length))
  | [], xs, off, cs, us, h, k, hl => by
    rw [show xs = [] from h]
    simpa [setAt] using k
  | v :: vs, xs, off, cs, us, h, k, hl => by
    obtain ⟨x, q, rfl, h2, h3⟩ := h
    have := setAt_sound (off := off + 1) h3 (k.set h2 off) (by simp at hl ⊢; omega)
    rw [list_seg_step us off x q (by simpa using hl)] at this
    exact this
section
variable {P : Program} {c : Ctx} {s : S} {y : Lay} {a : Act} {w : World}
/-- a variable turns -/
theorem At.turn (A : At c s y a w) {b : Nat} {cs cs' : List V} {us' : Array Value} {w' : World} (hl : look b s.box = some cs) (hv : RVs (relOf c s y) cs' us'.toList) (hh : w'.heap[y.bl b]? = some (.cells us' (y.T b) (0, 0))) (g : w.grownBy w' (some (y.bl b))) :
    At c { s with box := upd b cs' s.box } { y with us := fset y.us b us' } a w' := by
  obtain ⟨l1, l2, h1, h2, _⟩ := look_split hl
  have hk : (s.box.map (·.1)) = (l1.map (·.1)) ++ b :: (l2.map (·.1)) := by rw [h1]; simp
  have nb := A.nb
  rw [hk] at nb
  have n2 := List.nodup_cons.1 (List.perm_middle.nodup_iff.1 nb)
  have n1 : b ∉ l1.map (·.1) := fun h => n2.1 (List.mem_append_left _ h)
  have n3 : b ∉ l2.map (·.1) := fun h => n2.1 (List.mem_append_right _ h)
  have hsame : ∀ {l : List (Nat × List V)}, b ∉ l.map (·.1) → boxPs y.bl y.T (fset y.us b us') l = boxPs y.bl y.T y.us l := by
    intro l; induction l with
    | nil => intro _; rfl
    | cons x l ih =>
      intro h
      simp only [List.map_cons, List.mem_cons, not_or] at h
      unfold boxPs at ih ⊢
      rw [List.map_cons, List.map_cons, ih h.2, fset_ne _ _ (fun e => h.1 e.symm)]
  have le : (relOf c s y).le (relOf c { s with box := upd b cs' s.box } { y with us := fset y.us b us' }) :=
    ⟨fun _ _ h => h, fun _ _ h => h, rfl, fun b' h => ⟨by show b' ∈ (upd b cs' s.box).map (·.1); rw [upd_keys]; exact h, rfl⟩, fun p h => ⟨h, rfl⟩⟩
  refine ⟨A.defers, A.size, ?_, fun t' v e => (A.env t' v e).le le, fun b' cs1 h => ?_, A.fro, by show ((upd b cs' s.box).map (·.1)).Nodup; rw [upd_keys]; exact A.nb, A.nt, A.fix⟩
  · have S := A.st
    rw [h1] at S
    unfold boxPs at S
    rw [List.map_append, List.map_cons, List.append_assoc, List.cons_append] at S
    have S2 := (S.perm List.perm_middle).set hh g
    have S3 := S2.perm List.perm_middle.symm
    show St c.W w' (boxPs y.bl y.T (fset y.us b us') (upd b cs' s.box) ++ _)
    rw [h2 cs']
    have e : boxPs y.bl y.T (fset y.us b us') (l1 ++ (b, cs') :: l2) = boxPs y.bl y.T y.us l1 ++ rowP (y.bl b) (y.T b) us' :: boxPs y.bl y.T y.us l2 := by
      have e1 := hsame n1
      have e2 := hsame n3
      unfold boxPs at e1 e2 ⊢
      rw [List.map_append, List.map_cons, e1, e2]
      simp only [fset_self]
    rw [e, List.append_assoc, List.cons_append]
    exact S3
  · rcases mem_upd A.nb h with ⟨h3, h4⟩ | ⟨h3, h4⟩
    · subst h3; subst h4
      show RVs _ cs1 (fset y.us b' us' b').toList
      rw [fset_self]; exact hv.le le
    · show RVs _ cs1 (fset y.us b us' b').toList
      rw [fset_ne _ _ h3]; exact (A.box b' cs1 h4).le le
theorem run_storeAt_row {t : TypeId} {v : Value} {b off : Nat} {cur : Array Value} {T : TypeId} (hz : v.cells.size = P.cellsOf t) (hs : sizedT P t = true) (hh : w.heap[b]? = some (.cells cur T (0, 0))) (hl : off + v.cells.size ≤ cur.size) (h1 : ∀ x ∈ v.cells.toList, x.oneCell' = true) :
    (Instr.storeAt t (.pointer (some ⟨b, off, none⟩)) v).run P w = .ok () (w.setRow b (cur.toList.take off ++ v.cells.toList ++ cur.toList.drop (off + v.cells.size)).toArray) := by
  have hst := run_storeCells_at P b off T v.cells.toList 0 cur w hh (by simpa using hl) h1
  have hsz := run_sizeOf_some (P := P) (w := w) hs
  simp only [Nat.add_zero, Array.length_toList] at hst
  simp [Instr.storeAt, Instr.sureAddr, storeVar, hsz, hz, hst]
theorem step_storeBox {o : Oper} {t : TypeId} {x z : Operand} (ho : o.op = .store t x z) {b off : Nat} {v : V} {cs : List V} (hx : s.ev x = some (.ref b off)) (hv : s.ev z = some v) (hz : v.cells.length = P.cellsOf t) (hsz : sizedT P t = true) (h1 : v.cells.all V.one = true) (hl : look b s.box = some cs) (hle : off + v.cells.length ≤ cs.length) :
    Step P c o s ({ s with box := upd b (setAt cs off v.cells) s.box }.skip o.dst) := by
  intro a w G next Q k
  obtain ⟨y, A⟩ := G
  obtain ⟨hb, hr⟩ := A.boxAt hl
  have ex := (A.ev hx).2
  obtain ⟨ev, e1⟩ := A.cells (A.ev hv) h1
  have l1 := ev.len
  have l2 := hr.len
  rw [Array.length_toList] at l1 l2
  have hrun := run_storeAt_row (P := P) (off := off) (v := a.eval z) (by rw [l1]; exact hz) hsz hb (by rw [l1, l2]; exact hle) e1
  have A2 := A.turn (cs' := setAt cs off v.cells) (us' := ((y.us b).toList.take off ++ (a.eval z).cells.toList ++ (y.us b).toList.drop (off + (a.eval z).cells.size)).toArray) hl (by
    have := setAt_sound ev hr (off := off) (by rw [Array.length_toList, Array.length_toList, l1, l2]; exact hle)
    rw [Array.length_toList] at this
    exact this) (setRow_heap w _ _ _ _ _ hb) ⟨rfl, rfl, rfl, by simp, fun k _ hk => setRow_other w _ k _ (fun e => hk (by rw [e]))⟩
  refine op_skip ?_ (k _ _ ⟨_, A2.skip undef⟩)
  unfold execOp; simp only [ho, show a.eval x = _ from ex]
  rw [Sem.run_bind]
  have hrun' : (Instr.storeAt t (.pointer (some ⟨(relOf c s y).bl b, off, none⟩)) (a.eval z)).run P w = _ := hrun
  rw [hrun']; rfl
/-- a number goes into a list of the call's own -/
theorem OwnD.put {w : World} {rows : List (List D)} {g n cc : Nat} {F : List Nat} (h : OwnD w (.l rows) (.slice (some ⟨g, 0, none⟩) n cc) F) {i j : Nat} {r : List D} {x0 x : Value} (hi : rows[i]? = some r) (hj : r[j]? = some (.a x0)) {u : Value} (hu : u = x) :
    ∃ T cs, w.heap[g]? = some (.cells cs T (0, 0)) ∧ i * r.length + j < cs.size ∧ ∀ w' : World, ((w'.heap[g]? = some (.cells (cs.setIfInBounds (i * r.length + j) u) T (0, 0))) → (∀ b ∈ F, b ≠ g → w'.heap[b]? = w.heap[b]?) → F.Nodup → OwnD w' (.l (rows.set i (r.set j (.a x)))) (.slice (some ⟨g, 0, none⟩) n cc) F) := by
  subst hu
  cases h with
  | l _ _ _ _ k T cs us fs h1 h2 h3 h4 h5 h6 h00 h7 h8 h9 =>
    have hk : r.length = k := h5 r (List.mem_of_getElem? hi)
    have hjk : j < k := by rw [← hk]; exact (List.getElem?_eq_some_iff.1 hj).1
    have f := flat_get rows i j r _ h5 hi hj
    have hcs := h8 _ _ f
    have hsz : i * k + j < cs.size := (Array.getElem?_eq_some_iff.1 hcs).1
    refine ⟨T, cs, h7, by rw [hk]; exact hsz, fun w' hh hF hnd => ?_⟩
    rw [hk] at hh
    have hflat := flat_set rows i j r (.a u) h5 hi hjk
    have hlen : (rows.set i (r.set j (.a u))).flatten.length = rows.flatten.length := by rw [hflat, List.length_set]
    rw [← hlen]
    have hg := List.nodup_cons.1 hnd
    refine .l _ n cc g k T _ (fun m => if m = i * k + j then u else us m) fs (by rw [List.length_set]; exact h1) h2 h3 h4 (fun r' hr' => ?_) (by simpa using h6) (fun e => h00 (List.eq_nil_of_length_eq_zero (by have := congrArg List.length e; simpa using this))) hh (fun m d e => ?_) (fun m d e => ?_)
    · rcases List.mem_or_eq_of_mem_set hr' with hr' | hr'
      · exact h5 r' hr'
      · rw [hr', List.length_set]; exact hk
    · rw [hflat, List.getElem?_set] at e
      by_cases hm : i * k + j = m
      · subst hm; simp [hsz]
      · rw [if_neg hm] at e
        simp only [if_neg (fun e => hm e.symm : ¬ m = i * k + j)]
        rw [Array.getElem?_setIfInBounds_ne hm]
        exact h8 m d e
    · rw [hflat, List.getElem?_set] at e
      by_cases hm : i * k + j = m
      · subst hm
        rw [if_pos rfl] at e
        split at e
        · injection e with e; subst e
          simp only [if_true]
          have := h9 _ _ f
          have hnil : fs (i * k + j) = [] := by
            generalize fs (i * k + j) = F0 at this
            cases this; rfl
          rw [hnil]; exact .a u
        · cases e
      · rw [if_neg hm] at e
        simp only [if_neg (fun e => hm e.symm : ¬ m = i * k + j)]
        have hmF : ∀ b ∈ fs m, b ∈ (List.range rows.flatten.length).flatMap fs := fun b hb => List.mem_flatMap.2 ⟨m, List.mem_range.2 (List.getElem?_eq_some_iff.1 e).1, hb⟩
        exact (h9 m d e).st fun b hb => hF b (List.mem_cons_of_mem _ (hmF b hb)) fun e2 => hg.1 (by rw [← e2]; exact hmF b hb)
theorem At.own1 (A : At c s y a w) {p : Nat} {rows : List (List D)} (hl : look p s.tree = some rows) {w' : World} {rows' : List (List D)} (S : St c.W w' (ownP (y.hd p) rows' :: (boxPs y.bl y.T y.us s.box ++ (treePs y.hd (drop1 p s.tree) ++ (froPs y.w0 y.F s.fro ++ c.L))))) :
    At c { s with tree := upd p rows' s.tree } y a w' := by
  obtain ⟨l1, l2, h1, h2, h3⟩ := look_split hl
  have n := A.nt
  rw [List.map_append, List.nodup_append] at n
  have h3 := h3 n.1
  have le : (relOf c s y).le (relOf c { s with tree := upd p rows' s.tree } y) :=
    ⟨fun _ _ h => h, fun _ _ h => h, rfl, fun b' h => ⟨h, rfl⟩, fun q h => ⟨by
      show q ∈ (upd p rows' s.tree ++ s.fro).map (·.1)
      rw [List.map_append, upd_keys, ← List.map_append]; exact h, rfl⟩⟩
  refine ⟨A.defers, A.size, ?_, fun t' v e => (A.env t' v e).le le, fun b cs h => (A.box b cs h).le le, A.fro, A.nb, by
    show ((upd p rows' s.tree ++ s.fro).map (·.1)).Nodup
    rw [List.map_append, upd_keys, ← List.map_append]; exact A.nt, A.fix⟩
  show St c.W w' (boxPs y.bl y.T y.us s.box ++ (treePs y.hd (upd p rows' s.tree) ++ (froPs y.w0 y.F s.fro ++ c.L)))
  rw [h2 rows']
  rw [h3] at S
  refine S.perm ?_
  refine (List.perm_middle (l₁ := boxPs y.bl y.T y.us s.box) (l₂ := treePs y.hd (l1 ++ l2) ++ (froPs y.w0 y.F s.fro ++ c.L)) (a := ownP (y.hd p) rows')).symm.trans ?_
  refine List.Perm.append_left _ ?_
  rw [← List.cons_append]
  refine List.Perm.append_right _ ?_
  unfold treePs
  rw [List.map_append, List.map_append, List.map_cons]
  exact List.perm_middle.symm
theorem atom_some {v : V} {d : D} (h : v.atom = some d) : ∃ x, v = .v x ∧ d = .a x := by
  unfold V.atom at h
  split at h
  · injection h with h; subst h; exact ⟨_, rfl, rfl⟩
  · cases h
theorem step_storeOwn {o : Oper} {t : TypeId} {x z : Operand} (ho : o.op = .store t x z) {q i off k : Nat} {v : V} {d d0 : D} {rows : List (List D)} {r : List D} (hx : s.ev x = some (.pe (.own q) k i off)) (hv : s.ev z = some v) (hz : v.cells.length = P.cellsOf t) (hsz : sizedT P t = true)
    (hl : look q s.tree = some rows) (hat : v.atom = some d) (hr : rows[i]? = some r) (hd0 : r[off]? = some d0) (hk : r.length = k) (hf : flatD d0 = true) (h1 : oneD d = true) :
    Step P c o s ({ s with tree := upd q (rows.set i (r.set off d)) s.tree }.skip o.dst) := by
  intro a w G next Q kk
  obtain ⟨y, A⟩ := G
  obtain ⟨X, rfl, rfl⟩ := atom_some hat
  obtain ⟨ub, ⟨_, rfl⟩, g, o', n, cc, e1, e2, e3⟩ := A.ev hx
  have ez : a.eval z = X := A.ev hv
  have hX : X.oneCell' = true := h1
  cases d0 with
  | l _ => cases hf
  | a x0 =>
  have S := A.out hl
  have e1 : y.hd q = .slice (some ⟨g, o', none⟩) n cc := e1
  rw [e1] at S
  obtain ⟨F, hown, hnd, hbd, rest⟩ := S.open_
  have ho0 : o' = 0 := by
    have : OwnD w (.l rows) (.slice (some ⟨g, o', none⟩) n cc) F := hown
    cases this; rfl
  subst ho0
  have hgF : ∃ T0, F = g :: T0 := by
    have : OwnD w (.l rows) (.slice (some ⟨g, 0, none⟩) n cc) F := hown
    cases this; exact ⟨_, rfl⟩
  obtain ⟨T0, hF⟩ := hgF
  obtain ⟨T, cs, hh, hlt, hput⟩ := OwnD.put hown hr hd0 (u := X) rfl
  rw [hk] at hlt hput
  have hXc := one_of_v hX
  have hrun := run_storeAt_row (P := P) (t := t) (v := X) (off := i * k + off) (by rw [hXc]; exact hz) hsz hh (by rw [hXc]; exact hlt) (by rw [hXc]; simpa using hX)
  have earr : (cs.toList.take (i * k + off) ++ X.cells.toList ++ cs.toList.drop (i * k + off + X.cells.size)).toArray = cs.setIfInBounds (i * k + off) X := by
    rw [hXc]
    apply Array.ext'
    rw [Array.toList_setIfInBounds, List.set_eq_take_append_cons_drop, if_pos (by simpa using hlt)]
    simp
  rw [earr] at hrun
  have hset := setRow_heap w g cs (cs.setIfInBounds (i * k + off) X) T (0, 0) hh
  have hoth : ∀ b, b ≠ g → (w.setRow g (cs.setIfInBounds (i * k + off) X)).heap[b]? = w.heap[b]? := fun b hb => setRow_other w g b _ hb
  have A2 := A.own1 hl (rest (w.setRow g (cs.setIfInBounds (i * k + off) X)) (ownP (y.hd q) (rows.set i (r.set off (.a X)))) F rfl rfl rfl (by simp) (fun b hb hne => hoth b fun e => hne (by rw [e, hF]; exact List.mem_cons_self)) (by
    show OwnD _ _ (y.hd q) F
    rw [e1]
    exact hput _ hset (fun b _ hb => hoth b hb) hnd) hnd (fun b hb => ⟨.inl hb, by have := (hbd b hb).2; simpa using this⟩))
  refine op_skip ?_ (kk _ _ ⟨_, A2.skip undef⟩)
  unfold execOp; simp only [ho, e3, ez]
  rw [Sem.run_bind, Nat.zero_add, hrun]; rfl
end
end Go.Proofs.YtacnbajcignacaaGreat

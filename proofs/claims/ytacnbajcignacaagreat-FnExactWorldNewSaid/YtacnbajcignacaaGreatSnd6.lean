/-
  Soundness of the evaluator, sixth part: new variables, new lists, what is handed over.
-/
import Derived.Test.YtacnbajcignacaaGreatSnd5
namespace Go.Proofs.YtacnbajcignacaaGreat
open Go.RowKit
set_option linter.unusedSimpArgs false
set_option linter.unusedVariables false

def fset {α : Type} (f : Nat → α) (k : Nat) (x : α) : Nat → α := fun j => if j = k then x else f j
theorem fset_self {α : Type} (f : Nat → α) (k : Nat) (x : α) : fset f k x k = x := if_pos rfl
theorem fset_ne {α : Type} (f : Nat → α) {k j : Nat} (x : α) (h : j ≠ k) : fset f k x j = f j := if_neg h
theorem isNone_eq {α : Type} {x : Option α} (h : x.isNone = true) : x = none := by cases x with | none => rfl | some => cases h

/-! one cell -/
theorem one_of_v {x : Value} (h : x.oneCell' = true) : x.cells = #[x] := by cases x <;> first | rfl | cases h
section
variable {P : Program} {c : Ctx} {s : S} {y : Lay} {a : Act} {w : World}
theorem At.hdSlice (A : At c s y a w) {p : Nat} (h : p ∈ (s.tree ++ s.fro).map (·.1)) : ∃ B n k, y.hd p = .slice B n k := by
  obtain ⟨⟨q, rows⟩, hx, rfl⟩ := List.mem_map.1 h
  rcases List.mem_append.1 hx with hx | hx
  · obtain ⟨F, o⟩ := A.st.own_at (List.mem_append_right _ (List.mem_append_left _ (List.mem_map.2 ⟨_, hx, rfl⟩)))
    obtain ⟨B, k, e, _⟩ := (o.rd (G := heapOf w) fun _ _ _ e => e).len
    exact ⟨_, _, _, e⟩
  · obtain ⟨B, k, e, _⟩ := ((A.fro _ _ hx).rd (G := heapOf (y.w0 q)) fun _ _ _ e => e).len
    exact ⟨_, _, _, e⟩
theorem At.one (A : At c s y a w) {v : V} {u : Value} (h : RV (relOf c s y) v u) (o : v.one = true) : u.oneCell' = true := by
  cases v with
  | v x => rw [show u = x from h]; exact o
  | nil => rw [show u = _ from h]; rfl
  | lst o' rows => obtain ⟨B, k, e, _⟩ := h.1.len; rw [e]; rfl
  | own p => obtain ⟨B, n, k, e⟩ := A.hdSlice h.1; rw [h.2, show (relOf c s y).hd p = _ from e]; rfl
  | fz rows => obtain ⟨B, k, e, _⟩ := RdD.len (show RdD _ (.l rows) u from h); rw [e]; rfl
  | ref b off => rw [h.2]; rfl
  | pe base k i off => obtain ⟨ub, _, g, q, n, cc, _, _, e⟩ := h; rw [e]; rfl
  | agg cs => cases o
  | tup cs => cases o
  | fn f cs => obtain ⟨us, e, _⟩ := h; rw [e]; rfl
  | dead => cases o
/-- the cells of a value -/
theorem At.cells (A : At c s y a w) {v : V} {u : Value} (h : RV (relOf c s y) v u) (o : v.cells.all V.one = true) : RVs (relOf c s y) v.cells u.cells.toList ∧ ∀ x ∈ u.cells.toList, x.oneCell' = true := by
  by_cases hv : ∃ cs, v = .agg cs
  · obtain ⟨cs, rfl⟩ := hv
    obtain ⟨us, rfl, hs⟩ := h
    refine ⟨by simpa [V.cells, Value.cells] using hs, fun x hx => ?_⟩
    have hx : x ∈ us := by simpa [Value.cells] using hx
    obtain ⟨i, e⟩ := List.getElem?_of_mem hx
    have hl := hs.len
    have hi : i < cs.length := by rw [← hl]; exact (List.getElem?_eq_some_iff.1 e).1
    obtain ⟨u', e1, e2⟩ := hs.get (List.getElem?_eq_getElem hi)
    rw [e] at e1; injection e1 with e1; subst e1
    exact A.one e2 (List.all_eq_true.1 o _ (List.getElem_mem hi))
  · have hc : v.cells = [v] := by cases v <;> first | rfl | exact absurd ⟨_, rfl⟩ hv
    rw [hc] at o ⊢
    have ho : v.one = true := by simpa using o
    have h1 := A.one h ho
    rw [one_of_v h1]
    exact ⟨⟨u, [], rfl, h, rfl⟩, fun x hx => by simp at hx; subst hx; exact h1⟩

/-! new variables -/
theorem boxPs_fresh {bl : Nat → Nat} {T : Nat → TypeId} {us : Nat → Array Value} {k b : Nat} {T' : TypeId} {u' : Array Value} : ∀ {l : List (Nat × List V)}, k ∉ l.map (·.1) → boxPs (fset bl k b) (fset T k T') (fset us k u') l = boxPs bl T us l
  | [], _ => rfl
  | (j, x) :: r, h => by
    simp only [List.map_cons, List.mem_cons, not_or] at h
    unfold boxPs
    rw [List.map_cons, List.map_cons]
    have := boxPs_fresh (bl := bl) (T := T) (us := us) (b := b) (T' := T') (u' := u') h.2
    unfold boxPs at this
    rw [this]
    simp only [fset_ne _ _ (fun e => h.1 e.symm : j ≠ k)]
theorem treePs_fresh {hd : Nat → Value} {k : Nat} {u : Value} : ∀ {l : List (Nat × List (List D))}, k ∉ l.map (·.1) → treePs (fset hd k u) l = treePs hd l
  | [], _ => rfl
  | (j, x) :: r, h => by
    simp only [List.map_cons, List.mem_cons, not_or] at h
    unfold treePs
    rw [List.map_cons, List.map_cons]
    have := treePs_fresh (hd := hd) (u := u) h.2
    unfold treePs at this
    rw [this]
    simp only [fset_ne _ _ (fun e => h.1 e.symm : j ≠ k)]
theorem At.newBox (A : At c s y a w) {t : Nat} {cs : List V} {us : Array Value} {T : TypeId} (hf : look t s.box = none) (hv : RVs (relOf c s y) cs us.toList) (hd' : dstOk c.n (some t) = true) :
    At c { s with env := put t (.ref t 0) s.env, box := (t, cs) :: s.box } { y with bl := fset y.bl t w.heap.size, T := fset y.T t T, us := fset y.us t us } (a.put (some t) (.pointer (some ⟨w.heap.size, 0, none⟩))) (w.alloc (.cells us T)) := by
  have hn := look_none hf
  have le : (relOf c s y).le (relOf c { s with box := (t, cs) :: s.box } { y with bl := fset y.bl t w.heap.size, T := fset y.T t T, us := fset y.us t us }) :=
    ⟨fun _ _ h => h, fun _ _ h => h, rfl, fun b h => ⟨List.mem_cons_of_mem _ h, fset_ne _ _ fun e => hn (by rw [← e]; exact h)⟩, fun p h => ⟨h, rfl⟩⟩
  have A1 : At c { s with box := (t, cs) :: s.box } { y with bl := fset y.bl t w.heap.size, T := fset y.T t T, us := fset y.us t us } a (w.alloc (.cells us T)) := by
    refine ⟨A.defers, A.size, ?_, fun t' v e => (A.env t' v e).le le, fun b cs' h => ?_, A.fro, List.nodup_cons.2 ⟨hn, A.nb⟩, A.nt, A.fix.1, fun i h1 h2 => ⟨(fset_ne _ _ (by have := dstOk.lt hd'; have := A.fix.1; omega)).trans (A.fix.2 i h1 h2).1, (A.fix.2 i h1 h2).2⟩⟩
    · have S := A.st.alloc us T
      show St c.W _ ((rowP (fset y.bl t w.heap.size t) (fset y.T t T t) (fset y.us t us t) :: boxPs (fset y.bl t w.heap.size) (fset y.T t T) (fset y.us t us) s.box) ++ _)
      rw [fset_self, fset_self, fset_self, boxPs_fresh hn]
      exact S
    · rcases List.mem_cons.1 h with h | h
      · injection h with h1 h2; subst h1; subst h2
        show RVs _ cs' (fset y.us b us b).toList
        rw [fset_self]; exact hv.le le
      · show RVs _ cs' (fset y.us t us b).toList
        rw [fset_ne _ _ (fun e => hn (by rw [← e]; exact List.mem_map.2 ⟨_, h, rfl⟩))]
        exact (A.box b cs' h).le le
  exact A1.value (v := .ref t 0) ⟨List.mem_cons_self, by show _ = Value.pointer (some ⟨fset y.bl t w.heap.size t, 0, none⟩); rw [fset_self]⟩ hd'
/-- a new list of the call's own -/
theorem At.newTree (A : At c s y a w) {t : Nat} {rows : List (List D)} {u : Value} {w' : World} (hf : fresh s t = true) (hd' : dstOk c.n (some t) = true)
    (S : St c.W w' (ownP u rows :: (boxPs y.bl y.T y.us s.box ++ (treePs y.hd s.tree ++ (froPs y.w0 y.F s.fro ++ c.L))))) :
    At c { s with env := put t (.own t) s.env, tree := (t, rows) :: s.tree } { y with hd := fset y.hd t u } (a.put (some t) u) w' := by
  unfold fresh at hf
  rw [Bool.and_eq_true] at hf
  have hn1 := look_none (isNone_eq hf.1)
  have hn2 := look_none (isNone_eq hf.2)
  have hn : t ∉ (s.tree ++ s.fro).map (·.1) := by rw [List.map_append, List.mem_append]; exact fun h => h.elim hn1 hn2
  have le : (relOf c s y).le (relOf c { s with tree := (t, rows) :: s.tree } { y with hd := fset y.hd t u }) :=
    ⟨fun _ _ h => h, fun _ _ h => h, rfl, fun b h => ⟨h, rfl⟩, fun p h => ⟨List.mem_cons_of_mem _ h, fset_ne _ _ fun e => hn (by rw [← e]; exact h)⟩⟩
  have A1 : At c { s with tree := (t, rows) :: s.tree } { y with hd := fset y.hd t u } a w' := by
    refine ⟨A.defers, A.size, ?_, fun t' v e => (A.env t' v e).le le, fun b cs' h => (A.box b cs' h).le le, fun p rows' h => ?_, A.nb, List.nodup_cons.2 ⟨hn, A.nt⟩, A.fix.1, fun i h1 h2 => ⟨(A.fix.2 i h1 h2).1, (fset_ne _ _ (by have := dstOk.lt hd'; have := A.fix.1; omega)).trans (A.fix.2 i h1 h2).2⟩⟩
    · have S' : St c.W w' (boxPs y.bl y.T y.us s.box ++ (ownP u rows :: treePs y.hd s.tree ++ (froPs y.w0 y.F s.fro ++ c.L))) := S.perm (by
        rw [List.cons_append]
        exact (List.perm_middle).symm)
      show St c.W w' (boxPs y.bl y.T y.us s.box ++ (ownP (fset y.hd t u t) rows :: treePs (fset y.hd t u) s.tree ++ (froPs y.w0 y.F s.fro ++ c.L)))
      rw [fset_self, treePs_fresh hn1]; exact S'
    · show OwnD _ _ (fset y.hd t u p) _
      rw [fset_ne _ _ (fun e => hn2 (by rw [← e]; exact List.mem_map.2 ⟨_, h, rfl⟩))]
      exact A.fro p rows' h
  exact A1.value (v := .own t) ⟨List.mem_cons_self, by show u = fset y.hd t u t; rw [fset_self]⟩ hd'

/-! a list is no more -/
theorem killB_keys (p : Nat) : ∀ (l : List (Nat × List V)), (killB p l).map (·.1) = l.map (·.1)
  | [] => rfl
  | (i, z) :: r => by unfold killB; rw [List.map_cons, List.map_cons, killB_keys p r]
theorem boxPs_killB {bl : Nat → Nat} {T : Nat → TypeId} {us : Nat → Array Value} (p : Nat) : ∀ (l : List (Nat × List V)), boxPs bl T us (killB p l) = boxPs bl T us l
  | [] => rfl
  | (i, z) :: r => by
    have := boxPs_killB (bl := bl) (T := T) (us := us) p r
    unfold boxPs at this ⊢
    unfold killB; rw [List.map_cons, List.map_cons, this]
theorem look_killE (p t : Nat) : ∀ (l : List (Nat × V)), look t (killE p l) = (look t l).map fun v => if mentions p v = true then .dead else v
  | [] => rfl
  | (i, z) :: r => by
    unfold killE
    simp only [look]
    split
    · rfl
    · exact look_killE p t r
theorem killC_sound {ρ ρ' : Rel} {p : Nat} (hK : ρ'.K = ρ.K) (hZ : ∀ b o, ρ.Z b o → ρ'.Z b o) (hs : ρ'.src = ρ.src) (hb : ∀ b, ρ.Lb b → ρ'.Lb b ∧ ρ'.bl b = ρ.bl b) (ht : ∀ q, q ≠ p → ρ.Lt q → ρ'.Lt q ∧ ρ'.hd q = ρ.hd q) :
    ∀ {vs : List V} {us : List Value}, RVs ρ vs us → RVs ρ' (killC p vs) us
  | [], _, h => h
  | v :: _, _, h => by
    obtain ⟨u, q, h1, h2, h3⟩ := h
    refine ⟨u, q, h1, ?_, killC_sound hK hZ hs hb ht h3⟩
    cases e : mentions p v with
    | true => simp; trivial
    | false => simp; exact RV.less hK hZ hs hb ht e h2
theorem mem_killB {p b : Nat} {cs : List V} : ∀ {l : List (Nat × List V)}, (b, cs) ∈ killB p l → ∃ cs', (b, cs') ∈ l ∧ cs = killC p cs'
  | [], h => by cases h
  | (i, z) :: r, h => by
    unfold killB at h
    rcases List.mem_cons.1 h with h | h
    · injection h with h1 h2; subst h1; subst h2; exact ⟨z, List.mem_cons_self, rfl⟩
    · obtain ⟨cs', h1, h2⟩ := mem_killB h
      exact ⟨cs', List.mem_cons_of_mem _ h1, h2⟩
/-- the pieces, the list p first -/
theorem At.out (A : At c s y a w) {p : Nat} {rows : List (List D)} (hl : look p s.tree = some rows) :
    St c.W w (ownP (y.hd p) rows :: (boxPs y.bl y.T y.us s.box ++ (treePs y.hd (drop1 p s.tree) ++ (froPs y.w0 y.F s.fro ++ c.L)))) := by
  obtain ⟨l1, l2, h1, _, h3⟩ := look_split hl
  have n := A.nt
  rw [List.map_append, List.nodup_append] at n
  have h3 := h3 n.1
  refine A.st.perm ?_
  rw [h3]
  refine ((List.perm_middle (l₁ := boxPs y.bl y.T y.us s.box) (l₂ := treePs y.hd (l1 ++ l2) ++ (froPs y.w0 y.F s.fro ++ c.L)) (a := ownP (y.hd p) rows)).symm.trans ?_).symm
  refine List.Perm.append_left _ ?_
  rw [← List.cons_append]
  refine List.Perm.append_right _ ?_
  rw [h1]
  unfold treePs
  rw [List.map_append, List.map_append, List.map_cons]
  exact List.perm_middle.symm
theorem At.killed (A : At c s y a w) {p : Nat} {w' : World} {L' : List Pc} (hK' : ∀ w, St c.W w L' → ∀ b o, c.K b o → w.heap[b]? = some o) (S : St c.W w' (boxPs y.bl y.T y.us s.box ++ (treePs y.hd (drop1 p s.tree) ++ (froPs y.w0 y.F s.fro ++ L')))) (hp : p ∈ s.tree.map (·.1)) : At { c with L := L', hK := hK' } (s.kill p) y a w' := by
  have n := A.nt
  rw [List.map_append, List.nodup_append] at n
  have hmem : ∀ q, q ∈ (drop1 p s.tree).map (·.1) → q ∈ s.tree.map (·.1) ∧ q ≠ p := by
    intro q hq
    obtain ⟨⟨q', r⟩, hx, rfl⟩ := List.mem_map.1 hq
    have : ∀ {l : List (Nat × List (List D))}, (q', r) ∈ drop1 p l → (q', r) ∈ l ∧ q' ≠ p := by
      intro l; induction l with
      | nil => intro h; cases h
      | cons x l ih =>
        intro h
        obtain ⟨i, z⟩ := x
        unfold drop1 at h
        split at h
        · exact ⟨List.mem_cons_of_mem _ (ih h).1, (ih h).2⟩
        · rename_i hne
          rcases List.mem_cons.1 h with h | h
          · injection h with h1 h2; subst h1; subst h2; exact ⟨List.mem_cons_self, fun e => hne e.symm⟩
          · exact ⟨List.mem_cons_of_mem _ (ih h).1, (ih h).2⟩
    have := this hx
    exact ⟨List.mem_map.2 ⟨_, this.1, rfl⟩, this.2⟩
  have hkeep : ∀ q, q ≠ p → q ∈ s.tree.map (·.1) → q ∈ (drop1 p s.tree).map (·.1) := by
    intro q hq h
    obtain ⟨⟨q', r⟩, hx, rfl⟩ := List.mem_map.1 h
    have h2 := look_of_mem n.1 hx
    have : look q' (drop1 p s.tree) = some r := by rw [look_drop1, if_neg hq]; exact h2
    exact List.mem_map.2 ⟨_, look_mem this, rfl⟩
  have ht : ∀ q, q ≠ p → (relOf c s y).Lt q → (relOf c (s.kill p) y).Lt q ∧ (relOf c (s.kill p) y).hd q = (relOf c s y).hd q := by
    intro q hq h
    refine ⟨?_, rfl⟩
    have h : q ∈ (s.tree ++ s.fro).map (·.1) := h
    show q ∈ (drop1 p s.tree ++ s.fro).map (·.1)
    rw [List.map_append, List.mem_append] at h ⊢
    exact h.imp (hkeep q hq) _root_.id
  have hb : ∀ b, (relOf c s y).Lb b → (relOf c (s.kill p) y).Lb b ∧ (relOf c (s.kill p) y).bl b = (relOf c s y).bl b := by
    intro b h
    refine ⟨?_, rfl⟩
    show b ∈ (killB p s.box).map (·.1)
    rw [killB_keys]; exact h
  refine ⟨A.defers, A.size, ?_, fun t v e => ?_, fun b cs h => ?_, A.fro, ?_, ?_, A.fix⟩
  · show St c.W w' (boxPs y.bl y.T y.us (killB p s.box) ++ (treePs y.hd (drop1 p s.tree) ++ (froPs y.w0 y.F s.fro ++ L')))
    rw [boxPs_killB]; exact S
  · have e : look t (killE p s.env) = some v := e
    rw [look_killE] at e
    cases e2 : look t s.env with
    | none => rw [e2] at e; cases e
    | some v' =>
      rw [e2] at e; simp only [Option.map_some, Option.some.injEq] at e
      subst e
      cases e3 : mentions p v' with
      | true => simp; trivial
      | false => simp only [Bool.false_eq_true, if_false]; exact RV.less (ρ := relOf c s y) (ρ' := relOf c (s.kill p) y) rfl (fun _ _ h => h) rfl hb ht e3 (A.env t v' e2)
  · obtain ⟨cs', h1, rfl⟩ := mem_killB h
    exact killC_sound (ρ := relOf c s y) (ρ' := relOf c (s.kill p) y) rfl (fun _ _ h => h) rfl hb ht (A.box b cs' h1)
  · show ((killB p s.box).map (·.1)).Nodup
    rw [killB_keys]; exact A.nb
  · show ((drop1 p s.tree ++ s.fro).map (·.1)).Nodup
    rw [List.map_append, List.nodup_append]
    refine ⟨?_, n.2.1, fun x hx z hz => n.2.2 x (hmem x hx).1 z hz⟩
    obtain ⟨⟨q, r⟩, hx, rfl⟩ := List.mem_map.1 hp
    obtain ⟨l1, l2, e1, _, e3⟩ := look_split (look_of_mem n.1 hx)
    rw [e3 n.1, List.map_append]
    have n1 := n.1
    rw [e1, List.map_append, List.map_cons] at n1
    have n2 := List.perm_middle.nodup_iff.1 n1
    exact (List.nodup_cons.1 n2).2

/-! new variables: the operations -/
theorem step_box {o : Oper} {t : TypeId} {x : Operand} (ho : o.op = .box t x) (hd' : dstOk c.n o.dst = true) {v : V} {s' : S} (hx : s.ev x = some v) (h1 : v.cells.all V.one = true) (h : s.newBox o.dst v.cells = some s') : Step P c o s s' := by
  intro a w G next Q k
  obtain ⟨y, A⟩ := G
  unfold S.newBox at h
  obtain ⟨d, hd, h⟩ := bnd_eq_some h
  obtain ⟨hf, h⟩ := grd_eq_some h
  injection h with h; subst h
  rw [hd] at hd'
  have ex := A.cells (A.ev hx) h1
  have A' := A.newBox (T := t) (isNone_eq hf) ex.1 hd'
  refine op_value (u := .pointer (some ⟨w.heap.size, 0, none⟩)) (w' := w.alloc (.cells (a.eval x).cells t)) ?_ (k _ _ ⟨_, by rw [hd]; exact A'⟩)
  unfold execOp; simp only [ho]; simp [Instr.box, newVar, newRow]
theorem constV_cells {ρ : Rel} {z : Value} {v : V} (h : constV z = some v) : RVs ρ v.cells z.cells.toList := by
  have e := constV_sound (ρ := ρ) h
  unfold constV at h
  split at h <;> (try (cases h; done)) <;> (injection h with h; subst h)
  case _ => exact ⟨_, _, rfl, rfl, rfl⟩
  case _ => exact ⟨_, _, rfl, rfl, rfl⟩
  case _ => exact ⟨_, _, rfl, rfl, rfl⟩
  case _ => exact ⟨_, _, rfl, rfl, rfl⟩
  case _ => exact ⟨_, _, rfl, rfl, rfl⟩
  case _ =>
    obtain ⟨us, e1, e2⟩ := e
    injection e1 with e1
    show RVs ρ (List.map constC _) (_ : Array Value).toList
    have e3 : us = (us.toArray).toList := rfl
    rw [e3, ← e1] at e2
    exact e2
theorem zeroV_sound {t : TypeId} {cs : List V} (h : zeroV P t = some cs) : ∃ i z, P.info? t = some i ∧ i.zero = some z ∧ ∀ ρ : Rel, RVs ρ cs z.cells.toList := by
  unfold zeroV at h
  obtain ⟨i, h1, h⟩ := bnd_eq_some h
  obtain ⟨z, h2, h⟩ := bnd_eq_some h
  obtain ⟨v, h3, h⟩ := bnd_eq_some h
  injection h with h; subst h
  exact ⟨i, z, h1, h2, fun ρ => constV_cells h3⟩
theorem step_alloc {o : Oper} {t : TypeId} (ho : o.op = .alloc t) (hd' : dstOk c.n o.dst = true) {cs : List V} {s' : S} (hz : zeroV P t = some cs) (h : s.newBox o.dst cs = some s') : Step P c o s s' := by
  intro a w G next Q k
  obtain ⟨y, A⟩ := G
  unfold S.newBox at h
  obtain ⟨d, hd, h⟩ := bnd_eq_some h
  obtain ⟨hf, h⟩ := grd_eq_some h
  injection h with h; subst h
  rw [hd] at hd'
  obtain ⟨i, z, h1, h2, h3⟩ := zeroV_sound hz
  have A' := A.newBox (T := t) (isNone_eq hf) (h3 _) hd'
  refine op_value (u := .pointer (some ⟨w.heap.size, 0, none⟩)) (w' := w.alloc (.cells z.cells t)) ?_ (k _ _ ⟨_, by rw [hd]; exact A'⟩)
  unfold execOp; simp only [ho]; simp [Instr.alloc, zeroValue, typeInfo, h1, h2, newVar, newRow]
end
end Go.Proofs.YtacnbajcignacaaGreat

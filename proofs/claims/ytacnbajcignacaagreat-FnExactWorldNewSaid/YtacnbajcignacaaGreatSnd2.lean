/-
  Soundness of the evaluator, second part: operations that change no memory.
-/
import Derived.Test.YtacnbajcignacaaGreatSnd1
namespace Go.Proofs.YtacnbajcignacaaGreat
open Go.RowKit
set_option linter.unusedSimpArgs false
set_option linter.unusedVariables false

theorem relOf_put (c : Ctx) (s : S) (y : Lay) (d : Option Nat) (v : V) : relOf c (s.put d v) y = relOf c s y := by cases d <;> rfl
theorem relOf_skip (c : Ctx) (s : S) (y : Lay) (d : Option Nat) : relOf c (s.skip d) y = relOf c s y := by cases d <;> rfl
theorem put_size (a : Act) (d : Option Nat) (u : Value) : (a.put d u).tmps.size = a.tmps.size := by cases d <;> simp [Act.put]
theorem put_defers (a : Act) (d : Option Nat) (u : Value) : (a.put d u).defers = a.defers := by cases d <;> rfl
theorem put_get (a : Act) (d t : Nat) (u : Value) (h : d < a.tmps.size) : (a.put (some d) u).tmps.getD t undef = if t = d then u else a.tmps.getD t undef := by
  by_cases e : t = d
  · subst e; simp [Act.put, h]
  · rw [if_neg e]; simp [Act.put, Array.getElem?_setIfInBounds_ne (fun x => e x.symm)]
/-- the places that an operation names are there -/
def dstOk (n : Nat) (d : Option Nat) : Bool := match d with
  | some d => decide (d < n)
  | none => true
theorem dstOk.lt {n d : Nat} (h : dstOk n (some d) = true) : d < n := by simpa [dstOk] using h
section
variable {P : Program} {c : Ctx} {s : S} {y : Lay} {a : Act} {w : World}
theorem At.value (A : At c s y a w) {v : V} {u : Value} (h : RV (relOf c s y) v u) {d : Option Nat} (hd' : dstOk c.n d = true) : At c (s.put d v) y (a.put d u) w := by
  cases d with
  | none => exact A
  | some d =>
    refine ⟨A.defers, by rw [put_size]; exact A.size, A.st, fun t v' e => ?_, A.box, A.fro, A.nb, A.nt, A.fix⟩
    rw [relOf_put]
    have e : look t (put d v s.env) = some v' := e
    rw [look_put] at e
    rw [put_get _ _ _ _ (by rw [A.size]; exact dstOk.lt hd')]
    by_cases h2 : t = d
    · rw [if_pos h2] at e ⊢; injection e with e; subst e; exact h
    · rw [if_neg h2] at e ⊢; exact A.env t v' e
theorem At.skip (A : At c s y a w) (u : Value) {d : Option Nat} : At c (s.skip d) y (a.put d u) w := by
  cases d with
  | none => exact A
  | some d =>
    refine ⟨A.defers, by rw [put_size]; exact A.size, A.st, fun t v' e => ?_, A.box, A.fro, A.nb, A.nt, A.fix⟩
    rw [relOf_skip]
    have e : look t (drop1 d s.env) = some v' := e
    rw [look_drop1] at e
    by_cases h2 : t = d
    · rw [if_pos h2] at e; cases e
    · rw [if_neg h2] at e
      have : (a.put (some d) u).tmps.getD t undef = a.tmps.getD t undef := by simp [Act.put, Array.getElem?_setIfInBounds_ne (fun x => h2 x.symm)]
      rw [this]; exact A.env t v' e
theorem constC_sound {ρ : Rel} (x : Value) : RV ρ (constC x) x := by
  unfold constC
  split
  · rfl
  · rfl
theorem constV_sound {ρ : Rel} {x : Value} {v : V} (h : constV x = some v) : RV ρ v x := by
  unfold constV at h
  split at h <;> (try cases h) <;> (try rfl)
  rename_i cs
  refine ⟨cs.toList, by simp, ?_⟩
  refine RVs.of (by simp) fun i v u e1 e2 => ?_
  rw [List.getElem?_map, e2] at e1
  simp at e1; subst e1
  exact constC_sound u
theorem At.ev (A : At c s y a w) {x : Operand} {v : V} (h : s.ev x = some v) : RV (relOf c s y) v (a.eval x) := by
  cases x with
  | tmp t => exact A.env t v h
  | const x => exact constV_sound h
  | func f => simp only [S.ev] at h; injection h with h; subst h; exact ⟨[], rfl, rfl⟩
  | global g => cases h

/-- an operation takes states that s describes to such that s' describes -/
def Step (P : Program) (c : Ctx) (o : Oper) (s s' : S) : Prop :=
  ∀ (a : Act) (w : World), Good c s a w → ∀ (next : Act → World → Prop) (Q : Exit → Act → World → Prop), (∀ a' w', Good c s' a' w' → next a' w') → o.wp P a w next Q
theorem op_value {o : Oper} {u : Value} {w' : World} {next : Act → World → Prop} {Q : Exit → Act → World → Prop} (h : (execOp a.eval o).run P w = .ok (.value u) w') (k : next (a.put o.dst u) w') : o.wp P a w next Q := by
  unfold Oper.wp; rw [h]; exact k
theorem op_skip {o : Oper} {w' : World} {next : Act → World → Prop} {Q : Exit → Act → World → Prop} (h : (execOp a.eval o).run P w = .ok .skip w') (k : next (a.put o.dst undef) w') : o.wp P a w next Q := by
  unfold Oper.wp; rw [h]; exact k
/-- an operation that only computes -/
theorem step_value {o : Oper} {v : V} (hd' : dstOk c.n o.dst = true)
    (h : ∀ y a w, At c s y a w → ∃ u, (execOp a.eval o).run P w = .ok (.value u) w ∧ RV (relOf c s y) v u) : Step P c o s (s.put o.dst v) := by
  intro a w G next Q k
  obtain ⟨y, A⟩ := G
  obtain ⟨u, hr, hv⟩ := h y a w A
  exact op_value hr (k _ _ ⟨y, A.value hv hd'⟩)
theorem step_move {o : Oper} {x : Operand} (ho : o.op = .move x) (hd' : dstOk c.n o.dst = true) {v : V} (h : s.ev x = some v) : Step P c o s (s.put o.dst v) :=
  step_value hd' fun yy a w A => ⟨a.eval x, by unfold execOp; rw [ho]; rfl, A.ev h⟩
theorem step_assign {o : Oper} {x : Operand} (ho : o.op = .assign x) (hd' : dstOk c.n o.dst = true) {v : V} (h : s.ev x = some v) : Step P c o s (s.put o.dst v) :=
  step_value hd' fun yy a w A => ⟨a.eval x, by unfold execOp; rw [ho]; rfl, A.ev h⟩
theorem boolOf_some {v : V} {b : Bool} (h : boolOf v = some b) : v = .v (.bool b) := by
  unfold boolOf at h; split at h
  · injection h with h; subst h; rfl
  · cases h
theorem idxOf_some {v : V} {n : Int} (h : idxOf v = some n) : ∃ k, v = .v (.int k n) := by
  unfold idxOf at h; split at h
  · injection h with h; subst h; exact ⟨_, rfl⟩
  · cases h
theorem step_pick {o : Oper} {x y z : Operand} (ho : o.op = .pick x y z) (hd' : dstOk c.n o.dst = true) {b : Bool} {v : V} (hx : s.ev x = some (.v (.bool b))) (h : s.ev (if b then y else z) = some v) : Step P c o s (s.put o.dst v) :=
  step_value hd' fun yy a w A => by
    have e : a.eval x = .bool b := A.ev hx
    refine ⟨a.eval (if b then y else z), ?_, A.ev h⟩
    unfold execOp; rw [ho]
    simp only [e]
    cases b <;> rfl

theorem run_arith {op : BinOp} {k : IntKind} {x y : Int} {z : Value} (h : arith op k x y = some z) (h1 : op ≠ .shl) (h2 : op ≠ .shr) (t : TypeId) (X Y : Operand) (w : World) :
    (do eqGuard op t X Y (.int k x) (.int k y); binOp op t (.int k x) (.int k y) : Sem Value).run P w = .ok z w := by
  cases op <;> simp only [arith] at h <;> first
    | (exact absurd rfl h1)
    | (exact absurd rfl h2)
    | (cases h; done)
    | (injection h with h; subst h; simp [eqGuard, binOp, Op.intArith, Op.intBits, Op.intCmp]; done)
    | (obtain ⟨hy, h⟩ := grd_eq_some h; injection h with h; subst h; simp [eqGuard, binOp, Op.intDiv, hy]; done)
theorem run_binI {op : BinOp} {k k' : IntKind} {x y : Int} {z : Value} (h : binI op k k' x y = some z) (t : TypeId) (X Y : Operand) (w : World) :
    (do eqGuard op t X Y (.int k x) (.int k' y); binOp op t (.int k x) (.int k' y) : Sem Value).run P w = .ok z w := by
  unfold binI at h
  split at h
  · obtain ⟨hy, h⟩ := grd_eq_some h; injection h with h; subst h
    simp [eqGuard, binOp, Op.shift, show ¬ y < 0 by omega]
  · obtain ⟨hy, h⟩ := grd_eq_some h; injection h with h; subst h
    simp [eqGuard, binOp, Op.shift, show ¬ y < 0 by omega]
  · rename_i h1 h2
    obtain ⟨hk, h3⟩ := grd_eq_some h
    subst hk
    exact run_arith h3 (fun e => h1 e) (fun e => h2 e) t X Y w
theorem run_binS {op : BinOp} {x y : ByteArray} {z : Value} (h : binS op x y = some z) (t : TypeId) (X Y : Operand) (w : World) :
    (do eqGuard op t X Y (.string x) (.string y); binOp op t (.string x) (.string y) : Sem Value).run P w = .ok z w := by
  cases op <;> simp only [binS] at h <;> first
    | (cases h; done)
    | (injection h with h; subst h; simp [eqGuard, binOp, Op.stringOp]; done)
    | (obtain ⟨hy, h⟩ := grd_eq_some h; injection h with h; subst h; simp [eqGuard, binOp, Op.stringOp, IntKind.max, IntKind.bits, IntKind.signed]; omega)
theorem run_binB {op : BinOp} {x y : Bool} {z : Value} {d : TypeDesc} (h : binB op x y d = some z) (t : TypeId) (ht : P.underlying t = some d) (X Y : Operand) (w : World) :
    (do eqGuard op t X Y (.bool x) (.bool y); binOp op t (.bool x) (.bool y) : Sem Value).run P w = .ok z w := by
  have hg : eqGuard op t X Y (.bool x) (.bool y) = pure () := by cases op <;> rfl
  rw [hg]
  unfold binB at h
  split at h
  · split at h
    · injection h with h; subst h; exact run_eql_bool w t x y ht
    · injection h with h; subst h; exact run_neq_bool w t x y ht
    · cases h
  · cases h
theorem run_binP {op : BinOp} {a : Addr} {z : Value} {d : TypeDesc} (h : binP op d = some z) (t : TypeId) (ht : P.underlying t = some d) (X Y : Operand) (w : World) :
    (do eqGuard op t X Y (.pointer (some a)) (.pointer none); binOp op t (.pointer (some a)) (.pointer none) : Sem Value).run P w = .ok z w := by
  have hg : eqGuard op t X Y (.pointer (some a)) (.pointer none) = pure () := by cases op <;> rfl
  rw [hg]
  unfold binP at h
  split at h
  · rename_i e
    have hp : P.underlying t = some (.pointer (P.pointee t)) := by unfold Program.pointee; rw [ht]
    split at h
    · injection h with h; subst h; exact run_eql_pointer_nil w t (some a) hp
    · injection h with h; subst h; exact run_neq_pointer_nil w t (some a) hp
    · cases h
  · cases h
theorem step_bin {o : Oper} {op : BinOp} {t t' : TypeId} {x y : Operand} (ho : o.op = .binOp op t x y t') (hd' : dstOk c.n o.dst = true) {vx vy v : V} (hx : s.ev x = some vx) (hy : s.ev y = some vy) (h : bin P t op vx vy = some v) :
    Step P c o s (s.put o.dst v) := step_value hd' fun yy a w A => by
  have ex := A.ev hx
  have ey := A.ev hy
  suffices hh : ∃ z, (do eqGuard op t x y (a.eval x) (a.eval y); binOp op t (a.eval x) (a.eval y) : Sem Value).run P w = .ok z w ∧ v = .v z by
    obtain ⟨z, h1, rfl⟩ := hh
    refine ⟨z, ?_, rfl⟩
    unfold execOp; rw [ho]
    simp only [Sem.run_bind]
    rw [Sem.run_bind] at h1
    rw [h1]; rfl
  unfold bin at h
  split at h
  · obtain ⟨z, h1, h2⟩ := bnd_eq_some h
    injection h2 with h2
    rw [show a.eval x = _ from ex, show a.eval y = _ from ey]
    exact ⟨z, run_binI h1 t x y w, h2.symm⟩
  · obtain ⟨z, h1, h2⟩ := bnd_eq_some h
    injection h2 with h2
    rw [show a.eval x = _ from ex, show a.eval y = _ from ey]
    exact ⟨z, run_binS h1 t x y w, h2.symm⟩
  · obtain ⟨d, hd, h⟩ := bnd_eq_some h
    obtain ⟨z, h1, h2⟩ := bnd_eq_some h
    injection h2 with h2
    rw [show a.eval x = _ from ex, show a.eval y = _ from ey]
    exact ⟨z, run_binB h1 t hd x y w, h2.symm⟩
  · obtain ⟨d, hd, h⟩ := bnd_eq_some h
    obtain ⟨z, h1, h2⟩ := bnd_eq_some h
    injection h2 with h2
    rw [show a.eval x = _ from ex.2, show a.eval y = _ from ey]
    exact ⟨z, run_binP h1 t hd x y w, h2.symm⟩
  · cases h
theorem step_un {o : Oper} {op : UnOp} {t : TypeId} {x : Operand} (ho : o.op = .unOp op t x) (hd' : dstOk c.n o.dst = true) {vx v : V} (hx : s.ev x = some vx) (h : un op vx = some v) :
    Step P c o s (s.put o.dst v) := step_value hd' fun yy a w A => by
  have ex := A.ev hx
  unfold un at h
  split at h
  · split at h
    · injection h with h; subst h
      exact ⟨_, by unfold execOp; simp only [ho, show a.eval x = _ from ex]; simp [Op.unary, Op.intArith], rfl⟩
    · cases h
  · split at h
    · injection h with h; subst h
      exact ⟨_, by unfold execOp; simp only [ho, show a.eval x = _ from ex]; simp [Op.unary], rfl⟩
    · cases h
  · cases h
theorem step_extract {o : Oper} {x : Operand} {i : Nat} (ho : o.op = .extract x i) (hd' : dstOk c.n o.dst = true) {vx v : V} (hx : s.ev x = some vx) (h : tupAt i vx = some v) : Step P c o s (s.put o.dst v) := step_value hd' fun yy a w A => by
  have ex := A.ev hx
  unfold tupAt at h
  split at h
  · obtain ⟨us', e1, e2⟩ := ex
    obtain ⟨u, h1, h2⟩ := e2.get h
    exact ⟨u, by unfold execOp; simp only [ho, e1]; simp [Instr.extract, h1], h2⟩
  · cases h
theorem step_nilCheck {o : Oper} {x : Operand} (ho : o.op = .nilCheck x) (hd' : dstOk c.n o.dst = true) {vx v : V} (hx : s.ev x = some vx) (h : nilOk vx = some v) : Step P c o s (s.put o.dst v) := step_value hd' fun yy a w A => by
  have ex := A.ev hx
  unfold nilOk at h
  split at h
  · injection h with h; subst h
    exact ⟨_, by unfold execOp; simp only [ho, show a.eval x = _ from ex.2]; rfl, ex.1, rfl⟩
  · injection h with h; subst h
    obtain ⟨ub, h1, g, q, n, cc, h2, h3, h4⟩ := ex
    exact ⟨_, by unfold execOp; simp only [ho, h4]; rfl, ub, h1, g, q, n, cc, h2, h3, rfl⟩
  · cases h
end
end Go.Proofs.YtacnbajcignacaaGreat

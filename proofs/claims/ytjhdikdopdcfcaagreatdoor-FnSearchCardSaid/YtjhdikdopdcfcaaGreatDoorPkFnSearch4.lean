/- Part 4 of a proof in several texts (an abstract evaluator, what the functions compute). -/
import Derived.Test.YtjhdikdopdcfcaaGreatDoorPkFnSearch3
import Derived.Laws.StructEq
import Derived.Deep.MidRow
import Derived.Laws.BytesString
import Derived.Lib.ConvBytes
import Derived.Laws.CopyRow
import Derived.Great.BuildSlice
import Derived.Deep.Upon
namespace Go.Proofs.YtjhdikdopdcfcaaGreatDoor
open Go.RowKit
set_option linter.unusedSimpArgs false
set_option linter.unusedVariables false
theorem relOf_put (c : Ctx) (s : S) (y : Lay) (d : Option Nat) (v : V) : relOf c (s.put d v) y = relOf c s y := by cases d <;> rfl
theorem relOf_skip (c : Ctx) (s : S) (y : Lay) (d : Option Nat) : relOf c (s.skip d) y = relOf c s y := by cases d <;> rfl
theorem put_size (a : Act) (d : Option Nat) (u : Value) : (a.put d u).tmps.size = a.tmps.size := by cases d <;> simp [Act.put]
theorem put_get (a : Act) (d t : Nat) (u : Value) (h : d < a.tmps.size) : (a.put (some d) u).tmps.getD t undef = if t = d then u else a.tmps.getD t undef := by
  by_cases e : t = d
  · subst e; simp [Act.put, h]
  · rw [if_neg e]; simp [Act.put, Array.getElem?_setIfInBounds_ne (fun x => e x.symm)]
def dstOk (n : Nat) (d : Option Nat) : Bool := match d with
  | some d => decide (d < n)
  | none => true
theorem dstOk.lt {n d : Nat} (h : dstOk n (some d) = true) : d < n := by simpa [dstOk] using h
section
variable {P : Program} {c : Ctx} {s : S} {y : Lay} {a : Act} {w : World}
theorem At.value (A : At c s y a w) {v : V} {u : Value} (h : RV (relOf c s y) v u) {d : Option Nat} (hd' : dstOk c.n d = true) : At c (s.put d v) y (a.put d u) w := by
  cases d with
  | none => exact A
  | some d =>
    refine ⟨A.defers, by rw [put_size]; exact A.size, A.st, fun t v' e => ?_, A.box, A.fro, A.nb, A.nt, A.fix⟩
    rw [relOf_put]
    have e : look t (put d v s.env) = some v' := e
    rw [look_put] at e
    rw [put_get _ _ _ _ (by rw [A.size]; exact dstOk.lt hd')]
    by_cases h2 : t = d
    · rw [if_pos h2] at e ⊢; injection e with e; subst e; exact h
    · rw [if_neg h2] at e ⊢; exact A.env t v' e
theorem At.skip (A : At c s y a w) (u : Value) {d : Option Nat} : At c (s.skip d) y (a.put d u) w := by
  cases d with
  | none => exact A
  | some d =>
    refine ⟨A.defers, by rw [put_size]; exact A.size, A.st, fun t v' e => ?_, A.box, A.fro, A.nb, A.nt, A.fix⟩
    rw [relOf_skip]
    have e : look t (drop1 d s.env) = some v' := e
    rw [look_drop1] at e
    by_cases h2 : t = d
    · rw [if_pos h2] at e; cases e
    · rw [if_neg h2] at e
      have : (a.put (some d) u).tmps.getD t undef = a.tmps.getD t undef := by simp [Act.put, Array.getElem?_setIfInBounds_ne (fun x => h2 x.symm)]
      rw [this]; exact A.env t v' e
theorem constC_sound {ρ : Rel} (x : Value) : RV ρ (constC x) x := by
  unfold constC
  split
  · rfl
  · rfl
theorem constV_sound {ρ : Rel} {x : Value} {v : V} (h : constV x = some v) : RV ρ v x := by
  unfold constV at h
  split at h <;> (try cases h) <;> (try rfl)
  rename_i cs
  refine ⟨cs.toList, by simp, ?_⟩
  refine RVs.of (by simp) fun i v u e1 e2 => ?_
  rw [List.getElem?_map, e2] at e1
  simp at e1; subst e1
  exact constC_sound u
theorem At.ev (A : At c s y a w) {x : Operand} {v : V} (h : s.ev x = some v) : RV (relOf c s y) v (a.eval x) := by
  cases x with
  | tmp t => exact A.env t v h
  | const x => exact constV_sound h
  | func f => simp only [S.ev] at h; injection h with h; subst h; exact ⟨[], rfl, rfl⟩
  | global g => cases h
def Step (P : Program) (c : Ctx) (o : Oper) (s s' : S) : Prop :=
  ∀ (a : Act) (w : World), Good c s a w → ∀ (next : Act → World → Prop) (Q : Exit → Act → World → Prop), (∀ a' w', Good c s' a' w' → next a' w') → o.wp P a w next Q
theorem op_value {o : Oper} {u : Value} {w' : World} {next : Act → World → Prop} {Q : Exit → Act → World → Prop} (h : (execOp a.eval o).run P w = .ok (.value u) w') (k : next (a.put o.dst u) w') : o.wp P a w next Q := by
  unfold Oper.wp; rw [h]; exact k
theorem op_skip {o : Oper} {w' : World} {next : Act → World → Prop} {Q : Exit → Act → World → Prop} (h : (execOp a.eval o).run P w = .ok .skip w') (k : next (a.put o.dst undef) w') : o.wp P a w next Q := by
  unfold Oper.wp; rw [h]; exact k
theorem step_value {o : Oper} {v : V} (hd' : dstOk c.n o.dst = true)
    (h : ∀ y a w, At c s y a w → ∃ u, (execOp a.eval o).run P w = .ok (.value u) w ∧ RV (relOf c s y) v u) : Step P c o s (s.put o.dst v) := by
  intro a w G next Q k
  obtain ⟨y, A⟩ := G
  obtain ⟨u, hr, hv⟩ := h y a w A
  exact op_value hr (k _ _ ⟨y, A.value hv hd'⟩)
theorem step_move {o : Oper} {x : Operand} (ho : o.op = .move x) (hd' : dstOk c.n o.dst = true) {v : V} (h : s.ev x = some v) : Step P c o s (s.put o.dst v) :=
  step_value hd' fun yy a w A => ⟨a.eval x, by unfold execOp; rw [ho]; rfl, A.ev h⟩
theorem step_assign {o : Oper} {x : Operand} (ho : o.op = .assign x) (hd' : dstOk c.n o.dst = true) {v : V} (h : s.ev x = some v) : Step P c o s (s.put o.dst v) :=
  step_value hd' fun yy a w A => ⟨a.eval x, by unfold execOp; rw [ho]; rfl, A.ev h⟩
theorem boolOf_some {v : V} {b : Bool} (h : boolOf v = some b) : v = .v (.bool b) := by
  unfold boolOf at h; split at h
  · injection h with h; subst h; rfl
  · cases h
theorem idxOf_some {v : V} {n : Int} (h : idxOf v = some n) : ∃ k, v = .v (.int k n) := by
  unfold idxOf at h; split at h
  · injection h with h; subst h; exact ⟨_, rfl⟩
  · cases h
theorem step_pick {o : Oper} {x y z : Operand} (ho : o.op = .pick x y z) (hd' : dstOk c.n o.dst = true) {b : Bool} {v : V} (hx : s.ev x = some (.v (.bool b))) (h : s.ev (if b then y else z) = some v) : Step P c o s (s.put o.dst v) :=
  step_value hd' fun yy a w A => by
    have e : a.eval x = .bool b := A.ev hx
    refine ⟨a.eval (if b then y else z), ?_, A.ev h⟩
    unfold execOp; rw [ho]
    simp only [e]
    cases b <;> rfl
theorem run_arith {op : BinOp} {k : IntKind} {x y : Int} {z : Value} (h : arith op k x y = some z) (h1 : op ≠ .shl) (h2 : op ≠ .shr) (t : TypeId) (X Y : Operand) (w : World) :
    (do eqGuard op t X Y (.int k x) (.int k y); binOp op t (.int k x) (.int k y) : Sem Value).run P w = .ok z w := by
  cases op <;> simp only [arith] at h <;> first
    | (exact absurd rfl h1)
    | (exact absurd rfl h2)
    | (cases h; done)
    | (injection h with h; subst h; simp [eqGuard, binOp, Op.intArith, Op.intBits, Op.intCmp]; done)
    | (obtain ⟨hy, h⟩ := grd_eq_some h; injection h with h; subst h; simp [eqGuard, binOp, Op.intDiv, hy]; done)
theorem run_binI {op : BinOp} {k k' : IntKind} {x y : Int} {z : Value} (h : binI op k k' x y = some z) (t : TypeId) (X Y : Operand) (w : World) :
    (do eqGuard op t X Y (.int k x) (.int k' y); binOp op t (.int k x) (.int k' y) : Sem Value).run P w = .ok z w := by
  unfold binI at h
  split at h
  · obtain ⟨hy, h⟩ := grd_eq_some h; injection h with h; subst h
    simp [eqGuard, binOp, Op.shift, show ¬ y < 0 by omega]
  · obtain ⟨hy, h⟩ := grd_eq_some h; injection h with h; subst h
    simp [eqGuard, binOp, Op.shift, show ¬ y < 0 by omega]
  · rename_i h1 h2
    obtain ⟨hk, h3⟩ := grd_eq_some h
    subst hk
    exact run_arith h3 (fun e => h1 e) (fun e => h2 e) t X Y w
theorem run_binS {op : BinOp} {x y : ByteArray} {z : Value} (h : binS op x y = some z) (t : TypeId) (X Y : Operand) (w : World) :
    (do eqGuard op t X Y (.string x) (.string y); binOp op t (.string x) (.string y) : Sem Value).run P w = .ok z w := by
  cases op <;> simp only [binS] at h <;> first
    | (cases h; done)
    | (injection h with h; subst h; simp [eqGuard, binOp, Op.stringOp]; done)
    | (obtain ⟨hy, h⟩ := grd_eq_some h; injection h with h; subst h; simp [eqGuard, binOp, Op.stringOp, IntKind.max, IntKind.bits, IntKind.signed]; omega)
theorem run_binB {op : BinOp} {x y : Bool} {z : Value} {d : TypeDesc} (h : binB op x y d = some z) (t : TypeId) (ht : P.underlying t = some d) (X Y : Operand) (w : World) :
    (do eqGuard op t X Y (.bool x) (.bool y); binOp op t (.bool x) (.bool y) : Sem Value).run P w = .ok z w := by
  have hg : eqGuard op t X Y (.bool x) (.bool y) = pure () := by cases op <;> rfl
  rw [hg]
  unfold binB at h
  split at h
  · split at h
    · injection h with h; subst h; exact run_eql_bool w t x y ht
    · injection h with h; subst h; exact run_neq_bool w t x y ht
    · cases h
  · cases h
theorem run_binP {op : BinOp} {a : Addr} {z : Value} {d : TypeDesc} (h : binP op d = some z) (t : TypeId) (ht : P.underlying t = some d) (X Y : Operand) (w : World) :
    (do eqGuard op t X Y (.pointer (some a)) (.pointer none); binOp op t (.pointer (some a)) (.pointer none) : Sem Value).run P w = .ok z w := by
  have hg : eqGuard op t X Y (.pointer (some a)) (.pointer none) = pure () := by cases op <;> rfl
  rw [hg]
  unfold binP at h
  split at h
  · rename_i e
    have hp : P.underlying t = some (.pointer (P.pointee t)) := by unfold Program.pointee; rw [ht]
    split at h
    · injection h with h; subst h; exact run_eql_pointer_nil w t (some a) hp
    · injection h with h; subst h; exact run_neq_pointer_nil w t (some a) hp
    · cases h
  · cases h
theorem i64T_some {t : TypeId} (h : i64T P t = true) : P.underlying t = some (.int .i64) := by
  unfold i64T at h
  cases e : P.underlying t with
  | none => rw [e] at h; cases h
  | some d =>
    rw [e] at h
    simp only [Option.map_some, Option.getD_some] at h
    unfold i64D at h; split at h
    · rfl
    · cases h
theorem run_partI {t : TypeId} (h : i64T P t = true) {cs : Array Value} {n : Nat} {v : Value} (hv : cs[n]? = some v) (w : World) : (part t cs n).run P w = .ok v w := by
  have hagg : (isAgg t).run P w = .ok false w := by
    unfold isAgg
    rw [Sem.run_bind, run_underlying (i64T_some h)]
    rfl
  unfold part
  rw [Sem.run_bind, hagg]
  simp [Result.andThen, hv]
theorem run_eqFields (w : World) : ∀ (fs : List Field) (n : Nat) (ns ms : List Int) (xs ys : Array Value), flatFs P n fs = true → xs.toList.drop n = ns.map (Value.int .i64) → ys.toList.drop n = ms.map (Value.int .i64) → ns.length = fs.length → ms.length = fs.length → (Op.eqFields 9999 xs ys fs).run P w = .ok (ns == ms) w
  | [], n, ns, ms, xs, ys, _, _, _, h3, h4 => by
    have : ns = [] := List.eq_nil_of_length_eq_zero h3
    have : ms = [] := List.eq_nil_of_length_eq_zero h4
    subst ns; subst ms
    simp [Op.eqFields]
  | f :: fs, n, [], ms, xs, ys, _, _, _, h3, _ => by simp at h3
  | f :: fs, n, a :: ns, [], xs, ys, _, _, _, _, h4 => by simp at h4
  | f :: fs, n, a :: ns, b :: ms, xs, ys, h0, h1, h2, h3, h4 => by
    unfold flatFs at h0
    simp only [Bool.and_eq_true, bne_iff_ne, ne_eq, beq_iff_eq] at h0
    obtain ⟨⟨⟨k1, k2⟩, k3⟩, k4⟩ := h0
    have g : ∀ {zs : Array Value} {c : Int} {q : List Int}, zs.toList.drop n = (c :: q).map (Value.int .i64) → zs[n]? = some (.int .i64 c) ∧ zs.toList.drop (n + 1) = q.map (Value.int .i64) := by
      intro zs c q h
      have e1 : (zs.toList.drop n)[0]? = some (.int .i64 c) := by rw [h]; rfl
      have e2 : zs.toList.drop (n + 1) = (zs.toList.drop n).drop 1 := by rw [List.drop_drop]
      refine ⟨by simpa using e1, by rw [e2, h]; rfl⟩
    obtain ⟨g1, g2⟩ := g h1
    obtain ⟨g3, g4⟩ := g h2
    have ih := run_eqFields w fs (n + 1) ns ms xs ys k4 g2 g4 (by simpa using h3) (by simpa using h4)
    unfold Op.eqFields
    rw [if_pos k1, k2]
    simp only [Sem.run_bind, run_partI k3 g1, run_partI k3 g3, Result.andThen_ok, run_equalIn_int w 9998 f.type .i64 .i64 a b (i64T_some k3), Sem.run_ite]
    by_cases hab : a = b
    · subst hab; simp [ih]
    · simp [hab]
theorem intsEq_cons {cs ds : List V} {e : Bool} (h : intsEq cs ds = some e) : (cs = [] ∧ ds = [] ∧ e = true) ∨ ∃ a r b q e', cs = .v (.int .i64 a) :: r ∧ ds = .v (.int .i64 b) :: q ∧ intsEq r q = some e' ∧ e = (a == b && e') := by
  unfold intsEq at h
  split at h
  · injection h with h; exact .inl ⟨rfl, rfl, h.symm⟩
  · obtain ⟨e', h3, h⟩ := bnd_eq_some h
    injection h with h
    exact .inr ⟨_, _, _, _, e', rfl, rfl, h3, h.symm⟩
  · cases h
theorem intsEq_some {ρ : Rel} : ∀ {cs ds : List V} {e : Bool} {us vs : List Value}, intsEq cs ds = some e → RVs ρ cs us → RVs ρ ds vs → ∃ ns ms : List Int, us = ns.map (Value.int .i64) ∧ vs = ms.map (Value.int .i64) ∧ ns.length = cs.length ∧ ms.length = cs.length ∧ e = (ns == ms)
  | [], ds, e, us, vs, h, h1, h2 => by
    rcases intsEq_cons h with ⟨_, rfl, rfl⟩ | ⟨a, r, b, q, e', h3, _⟩
    · rw [show us = [] from h1, show vs = [] from h2]
      exact ⟨[], [], rfl, rfl, rfl, rfl, rfl⟩
    · cases h3
  | c :: cs, ds, e, us, vs, h, h1, h2 => by
    rcases intsEq_cons h with ⟨h3, _⟩ | ⟨a, r, b, q, e', h3, rfl, h4, rfl⟩
    · cases h3
    · injection h3 with e1 e3; subst e1; subst e3
      obtain ⟨u, us', rfl, hu, h1⟩ := h1
      obtain ⟨v, vs', rfl, hv, h2⟩ := h2
      obtain ⟨ns, ms, rfl, rfl, l1, l2, rfl⟩ := intsEq_some h4 h1 h2
      refine ⟨a :: ns, b :: ms, ?_, ?_, ?_, ?_, ?_⟩
      · rw [show u = _ from hu]; rfl
      · rw [show v = _ from hv]; rfl
      · simp [l1]
      · simp [l2]
      · rfl
theorem eqT_some {t : TypeId} {n : Nat} (h : eqT P t = some n) : P.underlying t = some (.struct (P.fieldsOf t)) ∧ flatFs P 0 (P.fieldsOf t).toList = true ∧ P.stoodInHeld t = false ∧ P.eqGuardType P.depth t = false ∧ (P.fieldsOf t).toList.length = n := by
  unfold eqT at h
  obtain ⟨d, h1, h⟩ := bnd_eq_some h
  obtain ⟨fs, h2, h⟩ := bnd_eq_some h
  obtain ⟨⟨h3, h4, h5⟩, h⟩ := grd_eq_some h
  injection h with h
  unfold structFs at h2
  split at h2
  · rename_i fs'
    injection h2 with h2; subst h2
    have : P.fieldsOf t = fs' := by unfold Program.fieldsOf; rw [h1]
    rw [this]
    exact ⟨h1, h3, h4, h5, h⟩
  · cases h2
theorem step_bin {o : Oper} {op : BinOp} {t t' : TypeId} {x y : Operand} (ho : o.op = .binOp op t x y t') (hd' : dstOk c.n o.dst = true) {vx vy v : V} (hx : s.ev x = some vx) (hy : s.ev y = some vy) (h : bin P t op vx vy = some v) :
    Step P c o s (s.put o.dst v) := step_value hd' fun yy a w A => by
  have ex := A.ev hx
  have ey := A.ev hy
  suffices hh : ∃ z, (do eqGuard op t x y (a.eval x) (a.eval y); binOp op t (a.eval x) (a.eval y) : Sem Value).run P w = .ok z w ∧ v = .v z by
    obtain ⟨z, h1, rfl⟩ := hh
    refine ⟨z, ?_, rfl⟩
    unfold execOp; rw [ho]
    simp only [Sem.run_bind]
    rw [Sem.run_bind] at h1
    rw [h1]; rfl
  unfold bin at h
  split at h
  · obtain ⟨z, h1, h2⟩ := bnd_eq_some h
    injection h2 with h2
    rw [show a.eval x = _ from ex, show a.eval y = _ from ey]
    exact ⟨z, run_binI h1 t x y w, h2.symm⟩
  · obtain ⟨z, h1, h2⟩ := bnd_eq_some h
    injection h2 with h2
    rw [show a.eval x = _ from ex, show a.eval y = _ from ey]
    exact ⟨z, run_binS h1 t x y w, h2.symm⟩
  · obtain ⟨d, hd, h⟩ := bnd_eq_some h
    obtain ⟨z, h1, h2⟩ := bnd_eq_some h
    injection h2 with h2
    rw [show a.eval x = _ from ex, show a.eval y = _ from ey]
    exact ⟨z, run_binB h1 t hd x y w, h2.symm⟩
  · obtain ⟨d, hd, h⟩ := bnd_eq_some h
    obtain ⟨z, h1, h2⟩ := bnd_eq_some h
    injection h2 with h2
    rw [show a.eval x = _ from ex.2, show a.eval y = _ from ey]
    exact ⟨z, run_binP h1 t hd x y w, h2.symm⟩
  · obtain ⟨n, hn, h⟩ := bnd_eq_some h
    obtain ⟨hl, h⟩ := grd_eq_some h
    obtain ⟨e, he, h⟩ := bnd_eq_some h
    obtain ⟨h1, h2, h3, h4, h5⟩ := eqT_some hn
    obtain ⟨us, e1, r1⟩ := ex
    obtain ⟨vs, e2, r2⟩ := ey
    obtain ⟨ns, ms, rfl, rfl, l1, l2, rfl⟩ := intsEq_some he r1 r2
    rw [e1, e2]
    have hr := run_eqFields (P := P) w (P.fieldsOf t).toList 0 ns ms (ns.map (Value.int .i64)).toArray (ms.map (Value.int .i64)).toArray h2 (by simp) (by simp) (by omega) (by omega)
    have hg := run_eqGuard_agg (P := P) w op t x y (ns.map (Value.int .i64)).toArray (ms.map (Value.int .i64)).toArray h4
    cases op <;> simp only [eqOp] at h <;> first | (cases h; done) | (injection h with h; subst h)
    · exact ⟨_, by rw [Sem.run_bind, hg, Result.andThen_ok, run_eql_struct, run_equalIn_agg w 9999 t _ _ h1 h3, hr]; rfl, rfl⟩
    · exact ⟨_, by rw [Sem.run_bind, hg, Result.andThen_ok, run_neq_struct, run_equalIn_agg w 9999 t _ _ h1 h3, hr]; rfl, rfl⟩
  · cases h
theorem step_un {o : Oper} {op : UnOp} {t : TypeId} {x : Operand} (ho : o.op = .unOp op t x) (hd' : dstOk c.n o.dst = true) {vx v : V} (hx : s.ev x = some vx) (h : un op vx = some v) :
    Step P c o s (s.put o.dst v) := step_value hd' fun yy a w A => by
  have ex := A.ev hx
  unfold un at h
  split at h
  · split at h
    · injection h with h; subst h
      exact ⟨_, by unfold execOp; simp only [ho, show a.eval x = _ from ex]; simp [Op.unary, Op.intArith], rfl⟩
    · cases h
  · split at h
    · injection h with h; subst h
      exact ⟨_, by unfold execOp; simp only [ho, show a.eval x = _ from ex]; simp [Op.unary], rfl⟩
    · cases h
  · cases h
theorem step_extract {o : Oper} {x : Operand} {i : Nat} (ho : o.op = .extract x i) (hd' : dstOk c.n o.dst = true) {vx v : V} (hx : s.ev x = some vx) (h : tupAt i vx = some v) : Step P c o s (s.put o.dst v) := step_value hd' fun yy a w A => by
  have ex := A.ev hx
  unfold tupAt at h
  split at h
  · obtain ⟨us', e1, e2⟩ := ex
    obtain ⟨u, h1, h2⟩ := e2.get h
    exact ⟨u, by unfold execOp; simp only [ho, e1]; simp [Instr.extract, h1], h2⟩
  · cases h
theorem step_nilCheck {o : Oper} {x : Operand} (ho : o.op = .nilCheck x) (hd' : dstOk c.n o.dst = true) {vx v : V} (hx : s.ev x = some vx) (h : nilOk vx = some v) : Step P c o s (s.put o.dst v) := step_value hd' fun yy a w A => by
  have ex := A.ev hx
  unfold nilOk at h
  split at h
  · injection h with h; subst h
    exact ⟨_, by unfold execOp; simp only [ho, show a.eval x = _ from ex.2]; rfl, ex.1, rfl⟩
  · injection h with h; subst h
    obtain ⟨ub, h1, g, q, n, cc, h2, h3, h4⟩ := ex
    exact ⟨_, by unfold execOp; simp only [ho, h4]; rfl, ub, h1, g, q, n, cc, h2, h3, rfl⟩
  · cases h
end
end Go.Proofs.YtjhdikdopdcfcaaGreatDoor
namespace Go.Proofs.YtjhdikdopdcfcaaGreatDoor
open Go.RowKit
set_option linter.unusedSimpArgs false
set_option linter.unusedVariables false
section
variable {P : Program}
theorem aggT_some {t : TypeId} {g : Bool} (h : aggT P t = some g) : ∃ d, P.underlying t = some d ∧ isAggD d = g := by
  obtain ⟨d, h1, h2⟩ := bnd_eq_some h
  injection h2 with h2
  exact ⟨d, h1, h2⟩
theorem isRow_of {d : TypeDesc} (h : isAggD d = true) : d.isRow = true := by cases d <;> simp_all [isAggD]
theorem info_of {t : TypeId} {d : TypeDesc} (h : P.underlying t = some d) : ∃ i, P.info? t = some i := by
  unfold Program.underlying at h
  cases e : P.info? t with
  | none => rw [e] at h; cases h
  | some i => exact ⟨i, rfl⟩
theorem size_of {t : TypeId} {d : TypeDesc} (h : P.underlying t = some d) : (P.info? t).map (·.size) = some (P.cellsOf t) := by
  obtain ⟨i, e⟩ := info_of h
  unfold Program.cellsOf; rw [e]; rfl
theorem run_load_cell (w : World) (b o : Nat) (t : TypeId) (d : TypeDesc) (u : Value) (hu : P.underlying t = some d) (hd : isAggD d = false) (hc : w.cell? ⟨b, o, none⟩ = some u) :
    (Instr.loadAt t (.pointer (some ⟨b, o, none⟩))).run P w = .ok u w := by
  have hagg : (isAgg t).run P w = .ok false w := by
    unfold isAgg
    rw [Sem.run_bind, run_underlying hu w]
    cases d <;> simp_all [isAggD]
  simp [Instr.loadAt, Instr.sureAddr, loadVar, Sem.run_bind, hagg, load, Sem.run, hc]
end
section
variable {P : Program} {c : Ctx} {s : S} {y : Lay} {a : Act} {w : World}
theorem At.kw (A : At c s y a w) : ∀ b o, c.K b o → w.heap[b]? = some o := c.hK w (St.dropL (St.dropL (St.dropL A.st)))
theorem At.zw (A : At c s y a w) : ∀ b o, (relOf c s y).Z b o → w.heap[b]? = some o := by
  intro b o ⟨p, hp, hb, ho⟩
  obtain ⟨x, hx, rfl⟩ := List.mem_map.1 hp
  have : snapP (y.w0 x.1) (y.F x.1) ∈ froPs y.w0 y.F s.fro ++ c.L := List.mem_append_left _ (List.mem_map.2 ⟨x, hx, rfl⟩)
  rw [(St.dropL (St.dropL A.st)).snap_at this b hb]; exact ho
theorem At.boxAt (A : At c s y a w) {b : Nat} {cs : List V} (h : look b s.box = some cs) : w.heap[y.bl b]? = some (.cells (y.us b) (y.T b) (0, 0)) ∧ RVs (relOf c s y) cs (y.us b).toList := by
  have m := look_mem h
  exact ⟨A.st.row_at (List.mem_append_left _ (List.mem_map.2 ⟨(b, cs), m, rfl⟩)), A.box b cs m⟩
theorem At.treeAt (A : At c s y a w) {p : Nat} {rows : List (List D)} (h : look p s.tree = some rows) : ∃ F, TreeD w rows (y.hd p) F :=
  A.st.tree_at (List.mem_append_right _ (List.mem_append_left _ (List.mem_map.2 ⟨(p, rows), look_mem h, rfl⟩)))
theorem At.froAt (A : At c s y a w) {p : Nat} {rows : List (List D)} (h : look p s.fro = some rows) : RdD (relOf c s y).Z (.l rows) (y.hd p).v := by
  have m := look_mem h
  exact (A.fro p rows m).own.rd fun b hb o e => ⟨p, List.mem_map.2 ⟨(p, rows), m, rfl⟩, hb, e⟩
theorem At.apart (A : At c s y a w) {p : Nat} {r1 r2 : List (List D)} (h1 : look p s.tree = some r1) (h2 : look p s.fro = some r2) : False := by
  have n := A.nt
  rw [List.map_append, List.nodup_append] at n
  exact n.2.2 p (List.mem_map.2 ⟨(p, r1), look_mem h1, rfl⟩) p (List.mem_map.2 ⟨(p, r2), look_mem h2, rfl⟩) rfl
theorem TreeD.inner {w : World} {rows : List (List D)} {h : Hd} {F : List Nat} (t : TreeD w rows h F) {i j : Nat} {r : List D} {rs : List (List D)} (hi : rows[i]? = some r) (hj : r[j]? = some (.l rs)) : ∃ F', OwnD w (.l rs) (h.cv (i * r.length + j)) F' ∧ ∀ b ∈ F', b ∈ F := by
  have o := t.own
  have hd := t.hd
  generalize h.v = u at o hd
  cases o with
  | nil => simp at hi
  | l _ n c g ob k T cs us fs h1 h2 h3 h4 h5 h6 h0 h7 h8 h9 =>
    have hk : r.length = k := h5 r (List.mem_of_getElem? hi)
    have f := flat_get rows i j r _ h5 hi hj
    have e := hd g ob n c cs T (0, 0) _ rs rfl h7 f
    rw [h8 _ _ f] at e
    injection e with e
    rw [hk, ← e]
    exact ⟨fs (i * k + j), h9 _ _ f, fun b hb => List.mem_cons_of_mem _ (List.mem_flatMap.2 ⟨_, List.mem_range.2 (List.getElem?_eq_some_iff.1 f).1, hb⟩)⟩
theorem rowsD_some {d : D} {rs : List (List D)} (h : rowsD d = some rs) : d = .l rs := by
  cases d <;> simp only [rowsD] at h
  · cases h
  · injection h with h; rw [h]
  · cases h
theorem inn_some {s : S} {p i j k : Nat} {rs : List (List D)} (h : s.rows (.inn p i j k) = some rs) : ∃ rows r, look p s.tree = some rows ∧ rows[i]? = some r ∧ r.length = k ∧ r[j]? = some (.l rs) := by
  simp only [S.rows] at h
  obtain ⟨rows, h1, h⟩ := bnd_eq_some h
  obtain ⟨r, h2, h⟩ := bnd_eq_some h
  obtain ⟨h3, h⟩ := grd_eq_some h
  obtain ⟨d, h4, h⟩ := bnd_eq_some h
  rw [rowsD_some h] at h4
  exact ⟨rows, r, h1, h2, h3, h4⟩
theorem At.innAt (A : At c s y a w) {p i j k : Nat} {u : Value} {rs : List (List D)} (hv : RV (relOf c s y) (.inn p i j k) u) (h : s.rows (.inn p i j k) = some rs) : ∃ F, OwnD w (.l rs) u F := by
  obtain ⟨rows, r, h1, h2, h3, h4⟩ := inn_some h
  obtain ⟨F, t⟩ := A.treeAt h1
  obtain ⟨F', o, _⟩ := t.inner h2 h4
  rw [h3] at o
  rw [show u = _ from hv.2.1]
  exact ⟨F', o⟩
theorem At.rows (A : At c s y a w) {v : V} {u : Value} {rows : List (List D)} (hv : RV (relOf c s y) v u) (h : s.rows v = some rows) : RdD (heapOf w) (.l rows) u := by
  have h9 := h
  cases v <;> simp only [S.rows] at h <;> try (cases h; done)
  case inn p i j k =>
    obtain ⟨F, o⟩ := A.innAt hv h9
    exact o.rd fun _ _ _ e => e
  case nil => injection h with h; subst h; rw [show u = _ from hv]; exact .nil none 0 (by omega) (fun _ => rfl)
  case lst o r => injection h with h; subst h; exact hv.1.mono A.kw
  case fz r => injection h with h; subst h; exact RdD.mono hv A.zw
  case own p =>
    rw [show u = _ from hv.2]
    cases e : look p s.tree with
    | some r =>
      rw [e] at h; simp only [orElse1] at h; injection h with h; subst h
      obtain ⟨F, o⟩ := A.treeAt e
      exact o.own.rd fun _ _ _ e => e
    | none =>
      rw [e] at h; simp only [orElse1] at h
      exact (A.froAt h).mono A.zw
theorem At.cellsAt (A : At c s y a w) {base : V} {ub : Value} {rows : List (List D)} {i : Nat} {r : List D} (hv : RV (relOf c s y) base ub) (h : s.rows base = some rows) (hi : rows[i]? = some r) :
    ∃ cc b o T fr cs, ub = .slice (some ⟨b, o, none⟩) rows.length cc ∧ w.heap[b]? = some (.cells cs T fr) ∧ ∀ (j : Nat) (d : D) (v : V), r[j]? = some d → s.under base r.length i j d = some v → ∃ u, cs[o + (i * r.length + j)]? = some u ∧ RV (relOf c s y) v u := by
  have h9 := h
  cases base <;> simp only [S.rows] at h <;> try (cases h; done)
  case inn p i2 j2 k2 =>
    obtain ⟨F, o'⟩ := A.innAt hv h9
    obtain ⟨cc, b, o, T, fr, cs, h1, h2, h3⟩ := (o'.rd (G := heapOf w) fun _ _ _ e => e).at_ hi
    refine ⟨cc, b, o, T, fr, cs, h1, h2, fun j d v e1 e2 => ?_⟩
    obtain ⟨u, hu, hd⟩ := h3 j d e1
    refine ⟨u, hu, ?_⟩
    cases d <;> simp only [S.under] at e2 <;> try (cases e2; done)
    injection e2 with e2; subst e2; exact hd.atom
  case nil => injection h with h; subst h; simp at hi
  case lst o' r' =>
    injection h with h; subst h
    obtain ⟨cc, b, o, T, fr, cs, h1, h2, h3⟩ := hv.1.at_ hi
    refine ⟨cc, b, o, T, fr, cs, h1, A.kw _ _ h2, fun j d v e1 e2 => ?_⟩
    obtain ⟨u, hu, hd⟩ := h3 j d e1
    refine ⟨u, hu, ?_⟩
    cases d <;> simp only [S.under] at e2 <;> (try (cases e2; done)) <;> (injection e2 with e2; subst e2)
    · exact hd.atom
    · exact ⟨hd, fun j h => by cases h⟩
  case fz r' =>
    injection h with h; subst h
    obtain ⟨cc, b, o, T, fr, cs, h1, h2, h3⟩ := RdD.at_ hv hi
    refine ⟨cc, b, o, T, fr, cs, h1, A.zw _ _ h2, fun j d v e1 e2 => ?_⟩
    obtain ⟨u, hu, hd⟩ := h3 j d e1
    refine ⟨u, hu, ?_⟩
    cases d <;> simp only [S.under] at e2 <;> (try (cases e2; done)) <;> (injection e2 with e2; subst e2)
    · exact hd.atom
    · exact hd
  case own p =>
    rw [show ub = _ from hv.2]
    cases e : look p s.tree with
    | some r' =>
      rw [e] at h; simp only [orElse1] at h; injection h with h; subst h
      obtain ⟨F, tr⟩ := A.treeAt e
      obtain ⟨cc, b, o, T, fr, cs, h1, h2, h3⟩ := (tr.own.rd (G := heapOf w) fun _ _ _ e => e).at_ hi
      refine ⟨cc, b, o, T, fr, cs, h1, h2, fun j d v e1 e2 => ?_⟩
      obtain ⟨u, hu, hd⟩ := h3 j d e1
      refine ⟨u, hu, ?_⟩
      cases d <;> simp only [S.under] at e2
      · injection e2 with e2; subst e2; exact hd.atom
      · cases e5 : look p s.fro with
        | some r2 => exact (A.apart e e5).elim
        | none =>
          rw [e5] at e2; simp only [underOwn] at e2
          injection e2 with e2; subst e2
          refine ⟨by show p ∈ (s.tree ++ s.fro).map (·.1); rw [List.map_append, List.mem_append]; exact .inl (List.mem_map.2 ⟨_, look_mem e, rfl⟩), ?_⟩
          suffices hh : u = (y.hd p).cv (i * r.length + j) from ⟨hh, by obtain ⟨A0, c0, e0, _⟩ := hd.len; rw [e0]; rfl⟩
          have hk : ∀ r2 ∈ r', r2.length = r.length := by
            have := tr.own
            rw [show (y.hd p).v = _ from h1] at this
            cases this with
            | nil => simp at hi
            | l _ _ _ _ _ k2 T2 cs2 us2 fs2 a1 a2 a3 a4 a5 => exact fun r2 hr2 => (a5 r2 hr2).trans (a5 r (List.mem_of_getElem? hi)).symm
          have f := flat_get r' i j r _ hk hi e1
          have := tr.hd b _ _ cc cs T fr _ _ h1 h2 f
          rw [hu] at this; injection this
      · cases e2
    | none =>
      rw [e] at h; simp only [orElse1] at h
      obtain ⟨cc, b, o, T, fr, cs, h1, h2, h3⟩ := (A.froAt h).at_ hi
      refine ⟨cc, b, o, T, fr, cs, h1, A.zw _ _ h2, fun j d v e1 e2 => ?_⟩
      obtain ⟨u, hu, hd⟩ := h3 j d e1
      refine ⟨u, hu, ?_⟩
      cases d <;> simp only [S.under] at e2
      · injection e2 with e2; subst e2; exact hd.atom
      · rw [h] at e2; simp only [underOwn] at e2; injection e2 with e2; subst e2; exact hd
      · cases e2
theorem mapSome_get {α β : Type} {f : α → Option β} : ∀ {l : List α} {r : List β}, mapSome f l = some r → r.length = l.length ∧ ∀ (i : Nat) (x : α), l[i]? = some x → ∃ z, r[i]? = some z ∧ f x = some z
  | [], r, h => by simp only [mapSome] at h; injection h with h; subst h; exact ⟨rfl, fun i x e => by simp at e⟩
  | x :: l, r, h => by
    simp only [mapSome] at h
    obtain ⟨z, h1, h⟩ := bnd_eq_some h
    obtain ⟨q, h2, h⟩ := bnd_eq_some h
    injection h with h; subst h
    obtain ⟨k1, k2⟩ := mapSome_get h2
    refine ⟨by rw [List.length_cons, List.length_cons, k1], fun i x' e => ?_⟩
    cases i with
    | zero => simp at e; subst e; exact ⟨z, rfl, h1⟩
    | succ i => exact k2 i x' (by simpa using e)
theorem underL_get {s : S} {base : V} {k i : Nat} : ∀ {l : List D} {j : Nat} {r : List V}, underL s base k i j l = some r → r.length = l.length ∧ ∀ (m : Nat) (d : D), l[m]? = some d → ∃ v, r[m]? = some v ∧ s.under base k i (j + m) d = some v
  | [], j, r, h => by simp only [underL] at h; injection h with h; subst h; exact ⟨rfl, fun m d e => by simp at e⟩
  | x :: l, j, r, h => by
    simp only [underL] at h
    obtain ⟨z, h1, h⟩ := bnd_eq_some h
    obtain ⟨q, h2, h⟩ := bnd_eq_some h
    injection h with h; subst h
    obtain ⟨k1, k2⟩ := underL_get h2
    refine ⟨by rw [List.length_cons, List.length_cons, k1], fun m d e => ?_⟩
    cases m with
    | zero => simp at e; subst e; exact ⟨z, rfl, h1⟩
    | succ m =>
      obtain ⟨v, e1, e2⟩ := k2 m d (by simpa using e)
      exact ⟨v, by simpa using e1, by rw [show j + (m + 1) = j + 1 + m by omega]; exact e2⟩
theorem At.loadAt (A : At c s y a w) {t : TypeId} {vx v : V} {u0 : Value} (ex : RV (relOf c s y) vx u0) (h : s.load P t vx = some v) : ∃ u, (Instr.loadAt t u0).run P w = .ok u w ∧ RV (relOf c s y) v u := by
  have fin : ∀ u, (Instr.loadAt t u0).run P w = .ok u w → RV (relOf c s y) v u → ∃ u, (Instr.loadAt t u0).run P w = .ok u w ∧ RV (relOf c s y) v u := fun u hr hv => ⟨u, hr, hv⟩
  cases vx <;> simp only [S.load] at h <;> try (cases h; done)
  case ref b off =>
    obtain ⟨g, hg, h⟩ := bnd_eq_some h
    obtain ⟨cs, hcs, h⟩ := bnd_eq_some h
    obtain ⟨d, hu, hd⟩ := aggT_some hg
    obtain ⟨hb, hv⟩ := A.boxAt hcs
    rw [show u0 = _ from ex.2] at fin ⊢
    have cell : ∀ i, w.cell? ⟨y.bl b, i, none⟩ = (y.us b).toList[i]? := fun i => by rw [cell_of_row w _ i _ _ _ hb, Array.getElem?_toList]
    unfold span at h
    cases g with
    | true =>
      rw [if_pos rfl] at h
      obtain ⟨hle, h⟩ := grd_eq_some h
      injection h with h; subst h
      refine fin (.agg (((y.us b).toList.drop off).take (P.cellsOf t)).toArray) ?_ ⟨_, rfl, (hv.drop off).take _⟩
      refine run_loadAt_mid w _ _ t _ d (fun j u e => ?_) hu (isRow_of hd) ?_
      · refine (cell (off + j)).trans ?_
        rw [List.getElem?_take] at e
        split at e
        · rw [List.getElem?_drop] at e; exact e
        · cases e
      · rw [size_of hu, List.length_take, List.length_drop, hv.len]; congr 1; omega
    | false =>
      rw [if_neg (by simp)] at h
      obtain ⟨u, h1, h2⟩ := hv.get h
      exact fin u (run_load_cell w _ _ t d u hu hd ((cell off).trans h1)) h2
  case pe base k i off =>
    obtain ⟨g, hg, h⟩ := bnd_eq_some h
    obtain ⟨rows, hrows, h⟩ := bnd_eq_some h
    obtain ⟨r, hr, h⟩ := bnd_eq_some h
    obtain ⟨hk, h0⟩ := grd_eq_some h
    clear h
    obtain ⟨d, hu, hd⟩ := aggT_some hg
    obtain ⟨ub, e1, g', o', n', c', e2, e3, e4⟩ := ex
    obtain ⟨cc, b, q, T, fr, cs, h1, h2, h3⟩ := A.cellsAt e1 hrows hr
    rw [e2] at h1
    injection h1 with h1 _ _
    injection h1 with h1
    injection h1 with h1 h1' _
    subst h1; subst h1'; subst hk
    rw [e4] at fin ⊢
    have cell : ∀ j, w.cell? ⟨g', j, none⟩ = cs[j]? := fun j => cell_of_row w _ j _ _ _ h2
    have h := h0
    unfold S.loadRow at h
    cases g with
    | true =>
      rw [if_pos rfl] at h
      obtain ⟨hle, h⟩ := grd_eq_some h
      obtain ⟨vs, hvs, h⟩ := bnd_eq_some h
      injection h with h; subst h
      obtain ⟨m1, m2⟩ := underL_get hvs
      have hlen : ((r.drop off).take (P.cellsOf t)).length = P.cellsOf t := by rw [List.length_take, List.length_drop]; omega
      have key : ∀ j, j < P.cellsOf t → ∃ u v, cs[o' + (i * r.length + off) + j]? = some u ∧ vs[j]? = some v ∧ RV (relOf c s y) v u := by
        intro j hj
        have hd2 : ((r.drop off).take (P.cellsOf t))[j]? = some (r[off + j]'(by omega)) := by
          rw [List.getElem?_take, if_pos hj, List.getElem?_drop, List.getElem?_eq_getElem]
        obtain ⟨v, q1, q2⟩ := m2 j _ hd2
        obtain ⟨u, q3, q4⟩ := h3 (off + j) _ v (List.getElem?_eq_getElem (by omega)) q2
        exact ⟨u, v, by rw [show o' + (i * r.length + off) + j = o' + (i * r.length + (off + j)) by omega]; exact q3, q1, q4⟩
      refine fin (.agg ((List.range (P.cellsOf t)).map fun j => cs[o' + (i * r.length + off) + j]?.getD undef).toArray) ?_ ⟨_, rfl, RVs.of (by simp [m1, hlen]) fun j v u w1 w2 => ?_⟩
      · refine run_loadAt_mid w _ _ t _ d (fun j u e => ?_) hu (isRow_of hd) (by rw [size_of hu]; simp)
        rw [cell]
        have hj : j < P.cellsOf t := by have := (List.getElem?_eq_some_iff.1 e).1; simpa using this
        obtain ⟨u', v', k1, k2, k3⟩ := key j hj
        rw [List.getElem?_map, List.getElem?_range hj, Option.map_some, k1] at e
        rw [k1]; exact e
      · have hj : j < P.cellsOf t := by have := (List.getElem?_eq_some_iff.1 w1).1; rw [m1, hlen] at this; exact this
        obtain ⟨u', v', k1, k2, k3⟩ := key j hj
        rw [List.getElem?_map, List.getElem?_range hj, Option.map_some, k1] at w2
        rw [k2] at w1
        injection w1 with w1; injection w2 with w2
        subst w1
        have : u' = u := by simpa using w2
        subst this; exact k3
    | false =>
      rw [if_neg (by simp)] at h
      obtain ⟨dd, hdd, h⟩ := bnd_eq_some h
      obtain ⟨u, q1, q2⟩ := h3 off dd v hdd h
      exact fin u (run_load_cell w _ _ t d u hu hd (by rw [cell]; exact q1)) q2
theorem step_load {o : Oper} {t : TypeId} {x : Operand} (ho : o.op = .load t x) (hd' : dstOk c.n o.dst = true) {vx v : V} (hx : s.ev x = some vx) (h : s.load P t vx = some v) : Step P c o s (s.put o.dst v) := step_value hd' fun yy a w A => by
  obtain ⟨u, hr, hv⟩ := A.loadAt (A.ev hx) h
  refine ⟨u, ?_, hv⟩
  unfold execOp; simp only [ho]; rw [Sem.run_bind, hr]; rfl
end
end Go.Proofs.YtjhdikdopdcfcaaGreatDoor
namespace Go.Proofs.YtjhdikdopdcfcaaGreatDoor
open Go.RowKit
set_option linter.unusedSimpArgs false
set_option linter.unusedVariables false
section
variable {P : Program} {c : Ctx} {s : S}
theorem addOff_sound {ρ : Rel} {v v' : V} {n : Nat} (h : addOff v n = some v') {u : Value} (hu : RV ρ v u) : ∃ b o, u = .pointer (some ⟨b, o, none⟩) ∧ RV ρ v' (.pointer (some ⟨b, o + n, none⟩)) := by
  unfold addOff at h
  split at h
  · injection h with h; subst h
    exact ⟨_, _, hu.2, hu.1, rfl⟩
  · injection h with h; subst h
    rename_i base k i off
    obtain ⟨ub, h1, g, o, n', c', h2, h3, h4⟩ := hu
    exact ⟨g, _, h4, ub, h1, g, o, n', c', h2, h3, by rw [show o + (i * k + (off + n)) = o + (i * k + off) + n by omega]⟩
  · cases h
theorem fieldOf_some {t : TypeId} {f off : Nat} {ft : TypeId} (h : fieldOf P t f = some (off, ft)) : ∃ fs fd, P.underlying t = some (.struct fs) ∧ fs[f]? = some fd ∧ fd.offset = off ∧ fd.type = ft ∧ P.cellsOf ft ≠ 0 := by
  unfold fieldOf at h
  obtain ⟨d, h1, h⟩ := bnd_eq_some h
  unfold fieldD at h
  split at h
  · obtain ⟨fd, h2, h⟩ := bnd_eq_some h
    obtain ⟨h3, h⟩ := grd_eq_some h
    injection h with h; injection h with e1 e2
    exact ⟨_, fd, h1, h2, e1, e2, by rw [← e2]; exact h3⟩
  · cases h
theorem step_fieldAddr {o : Oper} {t : TypeId} {x : Operand} {f : Nat} (ho : o.op = .fieldAddr t x f) (hd' : dstOk c.n o.dst = true) {vx v : V} {q : Nat × TypeId} (hx : s.ev x = some vx) (hf : fieldOf P t f = some q) (h : addOff vx q.1 = some v) :
    Step P c o s (s.put o.dst v) := step_value hd' fun yy a w A => by
  obtain ⟨off, ft⟩ := q
  obtain ⟨fs, fd, h1, h2, h3, h4, h5⟩ := fieldOf_some hf
  obtain ⟨b, oo, e1, e2⟩ := addOff_sound h (A.ev hx)
  refine ⟨_, ?_, e2⟩
  have hsz : P.cellsOf fd.type ≠ 0 := by rw [h4]; exact h5
  unfold Program.cellsOf at hsz
  cases hi : P.info? fd.type with
  | none => rw [hi] at hsz; simp at hsz
  | some i =>
    rw [hi] at hsz; simp at hsz
    unfold execOp; simp only [ho, e1]
    simp [Instr.fieldAt, run_underlying h1, h2, Instr.sureAddr, fieldPlace, sizeOf, typeInfo, hi, hsz, h3, Addr.add_mid]
theorem elemOfT_some {t : TypeId} {e : TypeId × Option Nat} (h : elemOfT P t = some e) : (∃ q, e = (q, none) ∧ P.underlying t = some (.slice q)) ∨ ∃ q n, e = (q, some n) ∧ P.underlying t = some (.array n q) := by
  unfold elemOfT at h
  obtain ⟨d, h1, h⟩ := bnd_eq_some h
  unfold elemD at h
  split at h
  · injection h with h; subst h; exact .inl ⟨_, rfl, h1⟩
  · injection h with h; subst h; exact .inr ⟨_, _, rfl, h1⟩
  · cases h
theorem run_sizeOf_some {t : TypeId} (h : sizedT P t = true) (w : World) : (sizeOf t).run P w = .ok (P.cellsOf t) w := by
  unfold sizedT at h
  cases hi : P.info? t with
  | none => rw [hi] at h; cases h
  | some i => simp [sizeOf, typeInfo, hi, Program.cellsOf]
theorem step_indexAddr {o : Oper} {t : TypeId} {x i : Operand} (ho : o.op = .indexAddr t x i) (hd' : dstOk c.n o.dst = true) {vx vi v : V} {n : Int} {e : TypeId × Option Nat} (hx : s.ev x = some vx) (hi : s.ev i = some vi) (hn : idxOf vi = some n) (he : elemOfT P t = some e)
    (h : indexAddrV P s vx n e.1 e.2 = some v) : Step P c o s (s.put o.dst v) := step_value hd' fun yy a w A => by
  obtain ⟨k, rfl⟩ := idxOf_some hn
  have hn : k = k := rfl
  have ei : a.eval i = .int k n := by have := A.ev hi; rw [show idxOf (.v (.int k n)) = some n from rfl] at *; exact this
  have ex := A.ev hx
  rcases elemOfT_some he with ⟨q, rfl, hu⟩ | ⟨q, m, rfl, hu⟩
  · simp only [indexAddrV] at h
    obtain ⟨rows, hr, h⟩ := bnd_eq_some h
    obtain ⟨⟨hz, h0, h1⟩, h⟩ := grd_eq_some h
    injection h with h; subst h
    obtain ⟨A', cc, e1, e2, e3, e4⟩ := (A.rows ex hr).len
    have hlt : n.toNat < rows.length := by omega
    obtain ⟨r, hrr⟩ : ∃ r, rows[n.toNat]? = some r := ⟨_, List.getElem?_eq_getElem hlt⟩
    obtain ⟨c2, b, oo, T, fr, cs, k1, k2, k3⟩ := A.cellsAt ex hr hrr
    have ha : A' = some ⟨b, oo, none⟩ := by rw [e1] at k1; injection k1
    refine ⟨.pointer (some ⟨b, oo + (n.toNat * P.cellsOf q + 0), none⟩), ?_, _, ex, b, oo, rows.length, cc, by rw [e1, ha], hlt, rfl⟩
    unfold execOp; simp only [ho, ei, e1, ha]
    simp [Instr.indexAt, asIntOf, run_underlying hu, h0, h1, run_sizeOf_some hz, Addr.add_mid]
  · simp only [indexAddrV] at h
    obtain ⟨⟨hz, h0, h1⟩, h⟩ := grd_eq_some h
    obtain ⟨b, oo, e1, e2⟩ := addOff_sound h ex
    refine ⟨_, ?_, e2⟩
    unfold execOp; simp only [ho, ei, e1]
    simp [Instr.indexAt, asIntOf, run_underlying hu, h0, h1, run_sizeOf_some hz, Addr.add_mid, Instr.sureAddr]
theorem part_sound {ρ : Rel} {cs : List V} {us : List Value} {off : Nat} {t : TypeId} {g : Bool} {v : V} (hv : RVs ρ cs us) (hg : aggT P t = some g) (h : span cs off (P.cellsOf t) g = some v) (w : World) : ∃ u, (part t us.toArray off).run P w = .ok u w ∧ RV ρ v u := by
  obtain ⟨d, hu, hd⟩ := aggT_some hg
  obtain ⟨i, hi⟩ := info_of hu
  unfold span at h
  have hagg : (isAgg t).run P w = .ok g w := by
    unfold isAgg
    rw [Sem.run_bind, run_underlying hu w]
    cases d <;> simp_all [isAggD]
  cases g with
  | true =>
    rw [if_pos rfl] at h
    obtain ⟨hle, h⟩ := grd_eq_some h
    injection h with h; subst h
    refine ⟨.agg (us.toArray.extract off (off + P.cellsOf t)), ?_, ((us.drop off).take (P.cellsOf t)), ?_, (hv.drop off).take _⟩
    · simp [part, hagg, sizeOf, typeInfo, hi, Program.cellsOf]
    · first | rfl | simp
  | false =>
    rw [if_neg (by simp)] at h
    obtain ⟨u, h1, h2⟩ := hv.get h
    exact ⟨u, by simp [part, hagg, h1], h2⟩
theorem step_field {o : Oper} {t : TypeId} {x : Operand} {f : Nat} (ho : o.op = .field t x f) (hd' : dstOk c.n o.dst = true) {cs : List V} {v : V} {q : Nat × TypeId} {g : Bool} (hx : s.ev x = some (.agg cs)) (hf : fieldOf P t f = some q) (hg : aggT P q.2 = some g) (h : span cs q.1 (P.cellsOf q.2) g = some v) :
    Step P c o s (s.put o.dst v) := step_value hd' fun yy a w A => by
  obtain ⟨off, ft⟩ := q
  obtain ⟨fs, fd, h1, h2, h3, h4, h5⟩ := fieldOf_some hf
  obtain ⟨us, e1, e2⟩ := A.ev hx
  obtain ⟨u, k1, k2⟩ := part_sound (P := P) e2 hg h w
  refine ⟨u, ?_, k2⟩
  unfold execOp; simp only [ho, e1]
  simp only at k1
  simp [Instr.field, run_underlying h1, h2, asAgg, h3, h4, k1]
theorem step_index {o : Oper} {t : TypeId} {x i : Operand} (ho : o.op = .index t x i) (hd' : dstOk c.n o.dst = true) {vx vi v : V} {n : Int} (hx : s.ev x = some vx) (hi : s.ev i = some vi) (hn : idxOf vi = some n) (h : indexV P t vx n = some v) : Step P c o s (s.put o.dst v) := step_value hd' fun yy a w A => by
  obtain ⟨k, rfl⟩ := idxOf_some hn
  have ei : a.eval i = .int k n := A.ev hi
  have ex := A.ev hx
  unfold indexV at h
  split at h
  · rename_i b
    obtain ⟨d, hu, h⟩ := bnd_eq_some h
    obtain ⟨⟨hs, h0, h1⟩, h⟩ := grd_eq_some h
    injection h with h; subst h
    have hd : d = .string := by unfold isStrD at hs; split at hs <;> first | rfl | cases hs
    subst hd
    have hlt : n.toNat < b.size := by omega
    refine ⟨_, ?_, rfl⟩
    unfold execOp; simp only [ho, ei, show a.eval x = _ from ex]
    have e1 : b[n.toNat]? = some (b[n.toNat]'hlt) := by simp [hlt]
    have e2 : b.toList[n.toNat]? = some (b[n.toNat]'hlt) := by
      rw [ByteArray.toList_eq]
      simp [hlt]
      rfl
    simp [Instr.index, asIntOf, run_underlying hu, h0, e1, e2]
  · rename_i cs
    obtain ⟨e, he, ha⟩ := bnd_eq_some h
    obtain ⟨m, hm, hb⟩ := bnd_eq_some ha
    obtain ⟨⟨hz, h0, h1⟩, hc⟩ := grd_eq_some hb
    obtain ⟨g, hg, hl⟩ := bnd_eq_some hc
    clear h ha hb hc
    rcases elemOfT_some he with ⟨q, rfl, hu⟩ | ⟨q, m', rfl, hu⟩
    · cases hm
    injection hm with hm; subst hm
    obtain ⟨us, e1, e2⟩ := ex
    obtain ⟨u, k1, k2⟩ := part_sound (P := P) e2 hg hl w
    refine ⟨u, ?_, k2⟩
    unfold execOp; simp only [ho, ei, e1]
    simp only at k1
    simp [Instr.index, asIntOf, run_underlying hu, h0, h1, run_sizeOf_some hz, k1]
  · cases h
theorem optV_some {ρ : Rel} {d n : Int} {x : Option V} (h : optV d x = some n) : (x = none ∧ n = d) ∨ ∃ k, x = some (.v (.int k n)) := by
  cases x with
  | none => simp only [optV] at h; injection h with h; exact .inl ⟨rfl, h.symm⟩
  | some v => obtain ⟨k, rfl⟩ := idxOf_some h; exact .inr ⟨k, rfl⟩
theorem evOptOp_some {x : Option Operand} {v : Option V} (h : evOptOp s x = some v) : (x = none ∧ v = none) ∨ ∃ y u, x = some y ∧ v = some u ∧ s.ev y = some u := by
  cases x with
  | none => simp only [evOptOp] at h; injection h with h; exact .inl ⟨rfl, h.symm⟩
  | some y => simp only [evOptOp] at h; obtain ⟨u, h1, h2⟩ := bnd_eq_some h; injection h2 with h2; exact .inr ⟨y, u, rfl, h2.symm, h1⟩
theorem bounds_sound {y : Lay} {a : Act} {w : World} (A : At c s y a w) {lo hi : Option Operand} {vl vh : Option V} {n cap : Nat} {p : Nat × Nat} (hlo : evOptOp s lo = some vl) (hhi : evOptOp s hi = some vh) (h : bounds n vl vh = some p) (hc : n ≤ cap) (isS : Bool) :
    p.1 ≤ p.2 ∧ p.2 ≤ n ∧ (Instr.sliceBounds isS n cap (lo.map a.eval) (hi.map a.eval) none).run P w = .ok (p.1, p.2, cap) w := by
  unfold bounds at h
  obtain ⟨l, h1, h⟩ := bnd_eq_some h
  obtain ⟨q, h2, h⟩ := bnd_eq_some h
  obtain ⟨⟨h3, h4, h5⟩, h⟩ := grd_eq_some h
  injection h with h; subst h
  refine ⟨by simp only; omega, by simp only; omega, ?_⟩
  rcases evOptOp_some hlo with ⟨rfl, rfl⟩ | ⟨xl, ul, rfl, rfl, el⟩ <;> rcases evOptOp_some hhi with ⟨rfl, rfl⟩ | ⟨xh, uh, rfl, rfl, eh⟩ <;>
    (rcases optV_some (ρ := relOf c s y) h1 with ⟨k1, rfl⟩ | ⟨kl, k1⟩ <;> first | (cases k1; done) | skip) <;>
    (rcases optV_some (ρ := relOf c s y) h2 with ⟨k2, rfl⟩ | ⟨kh, k2⟩ <;> first | (cases k2; done) | skip)
  · simp [Instr.sliceBounds]
  · injection k2 with k2; subst k2
    have e : a.eval xh = .int kh q := A.ev eh
    simp [Instr.sliceBounds, Instr.sliceBound, e, asIntOf, show 0 ≤ q by omega, show q ≤ (cap : Int) by omega]
  · injection k1 with k1; subst k1
    have e : a.eval xl = .int kl l := A.ev el
    simp [Instr.sliceBounds, Instr.sliceBound, e, asIntOf, h3, show l ≤ (n : Int) by omega]
  · injection k1 with k1; subst k1
    injection k2 with k2; subst k2
    have e : a.eval xl = .int kl l := A.ev el
    have e2 : a.eval xh = .int kh q := A.ev eh
    have e3 : (q.toNat : Int) = q := by omega
    simp [Instr.sliceBounds, Instr.sliceBound, e, e2, asIntOf, h3, show 0 ≤ q by omega, show q ≤ (cap : Int) by omega]
    intro hh; exfalso; rw [Int.max_def] at hh; split at hh <;> omega
theorem wid_spec {k : Nat} : ∀ {rows : List (List D)}, wid k rows = true → ∀ r ∈ rows, r.length = k
  | [], _, r, h => by cases h
  | x :: rows, e, r, h => by
    simp only [wid, Bool.and_eq_true, decide_eq_true_eq] at e
    rcases List.mem_cons.1 h with h | h
    · rw [h]; exact e.1.1
    · exact wid_spec e.2 r h
theorem wid_one {k : Nat} : ∀ {rows : List (List D)}, wid k rows = true → ∀ r ∈ rows, ∀ d ∈ r, oneD d = true
  | [], _, r, h => by cases h
  | x :: rows, e, r, h => by
    simp only [wid, Bool.and_eq_true, decide_eq_true_eq] at e
    rcases List.mem_cons.1 h with h | h
    · rw [h]; exact List.all_eq_true.1 e.1.2
    · exact wid_one e.2 r h
theorem flat_sub {α : Type} {k l m i : Nat} {rows : List (List α)} {d : α} (u : ∀ r ∈ rows, r.length = k) (hl : l ≤ rows.length) (e : ((rows.drop l).take m).flatten[i]? = some d) : rows.flatten[l * k + i]? = some d := by
  have h1 : rows = rows.take l ++ ((rows.drop l).take m ++ (rows.drop l).drop m) := by rw [List.take_append_drop, List.take_append_drop]
  have h2 : (rows.take l).flatten.length = l * k := by rw [flat_len _ (fun r h => u r (List.mem_of_mem_take h)), List.length_take]; congr 1; omega
  rw [h1, List.flatten_append, List.flatten_append, List.getElem?_append_right (by rw [h2]; omega), h2, show l * k + i - l * k = i by omega, List.getElem?_append_left (List.getElem?_eq_some_iff.1 e).1]
  exact e
theorem RdD.sub {G : Nat → Obj → Prop} {rows : List (List D)} {A : Option Addr} {n c k l h : Nat} (hr : RdD G (.l rows) (.slice A n c)) (hw : ∀ r ∈ rows, r.length = k) (h1 : l ≤ h) (h2 : h ≤ n) :
    RdD G (.l ((rows.drop l).take (h - l))) (.slice (if c = l then A else A.map (·.add (l * k))) (h - l) (c - l)) := by
  obtain ⟨A', c', e1, e2, e3, e4⟩ := hr.len
  injection e1 with e1 e5 e6
  subst e1; subst e5; subst e6
  by_cases hz : h - l = 0
  · rw [hz, List.take_zero]
    refine .nil _ _ (by omega) fun hn => ?_
    by_cases hc : c = l
    · omega
    · rw [if_neg hc] at hn
      cases A with
      | none => have := e4 rfl; omega
      | some a => cases hn
  · cases hr with
    | nil => simp at h2; omega
    | l _ n' c b o k' T fr cs us q1 q2 q3 q4 q5 q6 q7 q8 q9 =>
      have hk : k' = k := by
        cases rows with
        | nil => simp at h2; omega
        | cons r rs => rw [← q6 r (by simp), hw r (by simp)]
      subst hk
      have hcl : ¬ c = l := by omega
      rw [if_neg hcl, Option.map_some, Addr.add_mid]
      have hlen : ((rows.drop l).take (h - l)).length = h - l := by rw [List.length_take, List.length_drop]; omega
      refine .l _ (h - l) (c - l) b (o + l * k') k' T fr cs (fun i => us (l * k' + i)) hlen (by omega) (by omega) (by omega) q5 (fun r hr => q6 r (List.mem_of_mem_drop (List.mem_of_mem_take hr))) q7 (fun i d e => ?_) (fun i d e => ?_)
      · have := flat_sub q6 (by omega) e
        rw [show o + l * k' + i = o + (l * k' + i) by omega]
        exact q8 _ _ this
      · exact q9 _ _ (flat_sub q6 (by omega) e)
theorem step_slice {o : Oper} {t : TypeId} {x : Operand} {lo hi : Option Operand} (ho : o.op = .slice t x lo hi none) (hd' : dstOk c.n o.dst = true) {vx v : V} {vl vh : Option V} {d : TypeDesc} (hx : s.ev x = some vx) (hlo : evOptOp s lo = some vl) (hhi : evOptOp s hi = some vh) (hu : P.underlying t = some d)
    (h : sliceV P s vx vl vh d = some v) : Step P c o s (s.put o.dst v) := step_value hd' fun yy a w A => by
  have ex := A.ev hx
  unfold sliceV at h
  split at h
  · unfold sliceStr at h
    split at h
    · rename_i b
      obtain ⟨p, hp, h⟩ := bnd_eq_some h
      injection h with h; subst h
      obtain ⟨_, _, hb⟩ := bounds_sound (P := P) A hlo hhi hp (Nat.le_refl _) false
      refine ⟨_, ?_, rfl⟩
      unfold execOp; simp only [ho, show a.eval x = _ from ex]
      simp [Instr.sliceAt, Instr.slice, run_underlying hu, hb]
    · cases h
  · rename_i e
    obtain ⟨hz, h2⟩ := grd_eq_some h
    clear h
    have h := h2
    clear h2
    have key : ∀ (rows : List (List D)) (p : Nat × Nat) (u : Value), a.eval x = u → RdD (heapOf w) (.l rows) u → bounds rows.length vl vh = some p → ∃ A' n' c', u = .slice A' n' c' ∧ p.1 ≤ p.2 ∧ p.2 ≤ n' ∧
        (execOp a.eval o).run P w = .ok (.value (.slice (if c' = p.1 then A' else A'.map (·.add (p.1 * P.cellsOf e))) (p.2 - p.1) (c' - p.1))) w := by
      intro rows p u hu' hr hp
      obtain ⟨A', c', e1, e2, e3, e4⟩ := hr.len
      obtain ⟨b1, b2, hb⟩ := bounds_sound (P := P) A hlo hhi hp e2 true
      refine ⟨A', _, c', e1, b1, b2, ?_⟩
      unfold execOp; simp only [ho, hu', e1]
      simp [Instr.sliceAt, Instr.slice, run_underlying hu, hb, run_sizeOf_some hz]
    unfold sliceL at h
    split at h
    · obtain ⟨p, hp, h⟩ := bnd_eq_some h
      injection h with h; subst h
      obtain ⟨A', n', c', e1, b1, b2, hr⟩ := key [] p _ rfl (A.rows ex rfl) hp
      rw [show a.eval x = _ from ex] at e1
      injection e1 with e1 e2 e3
      subst e1; subst e2; subst e3
      refine ⟨_, hr, ?_⟩
      have : p.1 = 0 := by omega
      have h2 : p.2 = 0 := by omega
      rw [this, h2]; simp; rfl
    · rename_i o' rows
      unfold cutV at h
      obtain ⟨p, hp, h⟩ := bnd_eq_some h
      obtain ⟨hw, h⟩ := grd_eq_some h
      injection h with h; subst h
      obtain ⟨A', n', c', e1, b1, b2, hr⟩ := key rows p _ rfl (A.rows ex rfl) hp
      refine ⟨_, hr, ?_, fun j h => by cases h⟩
      have e3 := ex.1
      rw [e1] at e3
      exact e3.sub (wid_spec hw) b1 b2
    · rename_i rows
      unfold cutV at h
      obtain ⟨p, hp, h⟩ := bnd_eq_some h
      obtain ⟨hw, h⟩ := grd_eq_some h
      injection h with h; subst h
      obtain ⟨A', n', c', e1, b1, b2, hr⟩ := key rows p _ rfl (A.rows ex rfl) hp
      refine ⟨_, hr, ?_⟩
      have e3 : RdD _ _ _ := ex
      rw [e1] at e3
      exact e3.sub (wid_spec hw) b1 b2
    · rename_i q
      obtain ⟨rows, hq, h⟩ := bnd_eq_some h
      unfold cutV at h
      obtain ⟨p, hp, h⟩ := bnd_eq_some h
      obtain ⟨hw, h⟩ := grd_eq_some h
      injection h with h; subst h
      have e3 := A.froAt hq
      obtain ⟨A', n', c', e1, b1, b2, hr⟩ := key rows p _ ex.2 (e3.mono A.zw) hp
      refine ⟨_, hr, ?_⟩
      have e1 : (yy.hd q).v = _ := e1
      rw [e1] at e3
      exact e3.sub (wid_spec hw) b1 b2
    · cases h
  · cases h
end
end Go.Proofs.YtjhdikdopdcfcaaGreatDoor
namespace Go.Proofs.YtjhdikdopdcfcaaGreatDoor
open Go.RowKit
set_option linter.unusedSimpArgs false
set_option linter.unusedVariables false
section
variable {P : Program} {c : Ctx} {s : S}
theorem bytesOfRow_some {r : List D} {b : UInt8} (h : bytesOfRow r = some b) : ∃ n : Int, r = [.a (.int .u8 n)] ∧ b = UInt8.ofNat n.toNat := by
  unfold bytesOfRow at h
  split at h
  · injection h with h; exact ⟨_, rfl, h.symm⟩
  · cases h
theorem push_fold (l : List Int) : ∀ (r : ByteArray), l.foldl (fun r n => r.push (UInt8.ofNat n.toNat)) r = ⟨r.data ++ (l.map fun n => UInt8.ofNat n.toNat).toArray⟩ := by
  induction l with
  | nil => intro r; simp
  | cons x l ih => intro r; rw [List.foldl_cons, ih]; simp [ByteArray.push]
theorem bytes_rows {rows : List (List D)} {l : List UInt8} (h : mapSome bytesOfRow rows = some l) : ∃ ns : List Int, rows = ns.map (fun n => [.a (.int .u8 n)]) ∧ l = ns.map fun n => UInt8.ofNat n.toNat := by
  induction rows generalizing l with
  | nil => simp only [mapSome] at h; injection h with h; exact ⟨[], rfl, h.symm⟩
  | cons r rows ih =>
    simp only [mapSome] at h
    obtain ⟨b, h1, h⟩ := bnd_eq_some h
    obtain ⟨q, h2, h⟩ := bnd_eq_some h
    injection h with h
    obtain ⟨n, rfl, rfl⟩ := bytesOfRow_some h1
    obtain ⟨ns, rfl, rfl⟩ := ih h2
    exact ⟨n :: ns, rfl, h.symm⟩
theorem run_bytesOf {w : World} {rows : List (List D)} {l : List UInt8} {u : Value} (hr : RdD (heapOf w) (.l rows) u) (h : mapSome bytesOfRow rows = some l) : (Conv.bytesToString u).run P w = .ok (.string ⟨l.toArray⟩) w := by
  obtain ⟨ns, hrows, rfl⟩ := bytes_rows h
  clear h
  cases hr with
  | nil A c h1 h2 =>
    obtain rfl : ns = [] := by cases ns with | nil => rfl | cons => simp at hrows
    cases A with
    | none => simp [Conv.bytesToString]; rfl
    | some a =>
      have := run_bytesToString (P := P) w a 0 c [] (by simp [loadCells, loadCellsFrom])
      rw [this]; simp; rfl
  | l _ n c b o k T fr cs us q1 q2 q3 q4 q5 q6 q7 q8 q9 =>
    subst hrows
    have hk : k = 1 := by
      cases ns with
      | nil => simp at q1; omega
      | cons x ns => exact (q6 [.a (.int .u8 x)] (by simp)).symm
    subst hk
    have hn : n = ns.length := by rw [← q1, List.length_map]
    have hl : (loadCells ⟨b, o, none⟩ n).run P w = .ok (ns.map (Value.int .u8)).toArray w := by
      have := run_loadCells_list (P := P) w ⟨b, o, none⟩ (ns.map (Value.int .u8)) (fun j v hv => ?_)
      · rw [List.length_map, ← hn] at this; exact this
      · rw [Addr.add_mid, cell_of_row w b _ cs T fr q7]
        rw [List.getElem?_map] at hv
        obtain ⟨x, hx, rfl⟩ := Option.map_eq_some_iff.1 hv
        have e : (ns.map (fun n => [D.a (.int .u8 n)])).flatten[j]? = some (.a (.int .u8 x)) := by
          have := flat_get (k := 1) (ns.map (fun n => [D.a (.int .u8 n)])) j 0 [.a (.int .u8 x)] (.a (.int .u8 x)) q6 (by rw [List.getElem?_map, hx]; rfl) rfl
          rw [show j * 1 + 0 = j by omega] at this; exact this
        rw [q8 _ _ e, (q9 _ _ e).atom]
    rw [run_bytesToString (P := P) w _ n c ns hl, push_fold]
    simp
theorem step_convert {o : Oper} {t0 t : TypeId} {x : Operand} (ho : o.op = .convert t0 t x) (hd' : dstOk c.n o.dst = true) {vx v : V} {d0 d : TypeDesc} (hx : s.ev x = some vx) (h0 : P.underlying t0 = some d0) (h1 : P.underlying t = some d) (h : convD P s vx d0 d = some v) :
    Step P c o s (s.put o.dst v) := step_value hd' fun yy a w A => by
  have ex := A.ev hx
  have fin : ∀ u, (convert t0 t (a.eval x)).run P w = .ok u w → RV (relOf c s yy) v u → ∃ u, (execOp a.eval o).run P w = .ok (.value u) w ∧ RV (relOf c s yy) v u := by
    intro u hr hv
    refine ⟨u, ?_, hv⟩
    unfold execOp; simp only [ho]; rw [Sem.run_bind, hr]; rfl
  have bytes : bytesV P s vx d0 = some v → d = .string → (∀ u, a.eval x = u → (∃ A n c, u = .slice A n c)) → ∃ u, (execOp a.eval o).run P w = .ok (.value u) w ∧ RV (relOf c s yy) v u := by
    intro hb hd hsl
    subst hd
    unfold bytesV at hb
    obtain ⟨e, he, hb⟩ := bnd_eq_some hb
    obtain ⟨de, hde, hb⟩ := bnd_eq_some hb
    obtain ⟨hby, hb⟩ := grd_eq_some hb
    obtain ⟨rows, hrows, hb⟩ := bnd_eq_some hb
    obtain ⟨l, hl, hb⟩ := bnd_eq_some hb
    injection hb with hb; subst hb
    have hde2 : de = .int .u8 := by unfold isByteD at hby; split at hby <;> first | rfl | cases hby
    subst hde2
    have hd0 : d0 = .slice e := by unfold sliceElem at he; split at he <;> first | (injection he with he; subst he; rfl) | cases he
    subst hd0
    have hr := run_bytesOf (P := P) (A.rows ex hrows) hl
    obtain ⟨A', n', c', hu⟩ := hsl _ rfl
    refine fin _ ?_ rfl
    rw [hu] at hr ⊢
    simp [convert, run_underlying h0, run_underlying h1, run_underlying hde, hr]
  unfold convD at h
  split at h
  · obtain ⟨n, hn, h⟩ := bnd_eq_some h
    injection h with h; subst h
    obtain ⟨k, rfl⟩ := idxOf_some hn
    refine fin _ ?_ rfl
    rw [show a.eval x = _ from ex]
    simp [convert, run_underlying h0, run_underlying h1, Conv.intToInt]
  · split at h
    · injection h with h; subst h
      refine fin _ ?_ rfl
      rw [show a.eval x = _ from ex]
      simp [convert, run_underlying h0, run_underlying h1]
    · cases h
    · refine bytes h rfl fun u hu => ?_
      have h2 := h
      unfold bytesV at h2
      obtain ⟨e, he, h2⟩ := bnd_eq_some h2
      obtain ⟨de, hde, h2⟩ := bnd_eq_some h2
      obtain ⟨hby, h2⟩ := grd_eq_some h2
      obtain ⟨rows, hrows, h2⟩ := bnd_eq_some h2
      obtain ⟨A', c', e1, -⟩ := (A.rows ex hrows).len
      exact ⟨A', _, c', by rw [← hu]; exact e1⟩
  · cases h
end
end Go.Proofs.YtjhdikdopdcfcaaGreatDoor
namespace Go.Proofs.YtjhdikdopdcfcaaGreatDoor
open Go.RowKit
set_option linter.unusedSimpArgs false
set_option linter.unusedVariables false
def fset {α : Type} (f : Nat → α) (k : Nat) (x : α) : Nat → α := fun j => if j = k then x else f j
theorem fset_self {α : Type} (f : Nat → α) (k : Nat) (x : α) : fset f k x k = x := if_pos rfl
theorem fset_ne {α : Type} (f : Nat → α) {k j : Nat} (x : α) (h : j ≠ k) : fset f k x j = f j := if_neg h
theorem isNone_eq {α : Type} {x : Option α} (h : x.isNone = true) : x = none := by cases x with | none => rfl | some => cases h
theorem one_of_v {x : Value} (h : x.oneCell' = true) : x.cells = #[x] := by cases x <;> first | rfl | cases h
section
variable {P : Program} {c : Ctx} {s : S} {y : Lay} {a : Act} {w : World}
theorem At.hdSlice (A : At c s y a w) {p : Nat} (h : p ∈ (s.tree ++ s.fro).map (·.1)) : ∃ B n k, (y.hd p).v = .slice B n k := by
  obtain ⟨⟨q, rows⟩, hx, rfl⟩ := List.mem_map.1 h
  rcases List.mem_append.1 hx with hx | hx
  · obtain ⟨F, o⟩ := A.st.tree_at (List.mem_append_right _ (List.mem_append_left _ (List.mem_map.2 ⟨_, hx, rfl⟩)))
    obtain ⟨B, k, e, _⟩ := (o.own.rd (G := heapOf w) fun _ _ _ e => e).len
    exact ⟨_, _, _, e⟩
  · obtain ⟨B, k, e, _⟩ := ((A.fro _ _ hx).own.rd (G := heapOf (y.w0 q)) fun _ _ _ e => e).len
    exact ⟨_, _, _, e⟩
theorem At.one (A : At c s y a w) {v : V} {u : Value} (h : RV (relOf c s y) v u) (o : v.one = true) : u.oneCell' = true := by
  cases v with
  | v x => rw [show u = x from h]; exact o
  | nil => rw [show u = _ from h]; rfl
  | lst o' rows => obtain ⟨B, k, e, _⟩ := h.1.len; rw [e]; rfl
  | own p => obtain ⟨B, n, k, e⟩ := A.hdSlice h.1; rw [h.2, show ((relOf c s y).hd p).v = _ from e]; rfl
  | inn p i j k => exact h.2.2
  | fz rows => obtain ⟨B, k, e, _⟩ := RdD.len (show RdD _ (.l rows) u from h); rw [e]; rfl
  | ref b off => rw [h.2]; rfl
  | pe base k i off => obtain ⟨ub, _, g, q, n, cc, _, _, e⟩ := h; rw [e]; rfl
  | agg cs => cases o
  | tup cs => cases o
  | fn f cs => obtain ⟨us, e, _⟩ := h; rw [e]; rfl
  | mp es => obtain ⟨b, _, _, e, _⟩ := h; rw [e]; rfl
  | dead => cases o
theorem At.cells (A : At c s y a w) {v : V} {u : Value} (h : RV (relOf c s y) v u) (o : v.cells.all V.one = true) : RVs (relOf c s y) v.cells u.cells.toList ∧ ∀ x ∈ u.cells.toList, x.oneCell' = true := by
  by_cases hv : ∃ cs, v = .agg cs
  · obtain ⟨cs, rfl⟩ := hv
    obtain ⟨us, rfl, hs⟩ := h
    refine ⟨by simpa [V.cells, Value.cells] using hs, fun x hx => ?_⟩
    have hx : x ∈ us := by simpa [Value.cells] using hx
    obtain ⟨i, e⟩ := List.getElem?_of_mem hx
    have hl := hs.len
    have hi : i < cs.length := by rw [← hl]; exact (List.getElem?_eq_some_iff.1 e).1
    obtain ⟨u', e1, e2⟩ := hs.get (List.getElem?_eq_getElem hi)
    rw [e] at e1; injection e1 with e1; subst e1
    exact A.one e2 (List.all_eq_true.1 o _ (List.getElem_mem hi))
  · have hc : v.cells = [v] := by cases v <;> first | rfl | exact absurd ⟨_, rfl⟩ hv
    rw [hc] at o ⊢
    have ho : v.one = true := by simpa using o
    have h1 := A.one h ho
    rw [one_of_v h1]
    exact ⟨⟨u, [], rfl, h, rfl⟩, fun x hx => by simp at hx; subst hx; exact h1⟩
theorem boxPs_fresh {bl : Nat → Nat} {T : Nat → TypeId} {us : Nat → Array Value} {k b : Nat} {T' : TypeId} {u' : Array Value} : ∀ {l : List (Nat × List V)}, k ∉ l.map (·.1) → boxPs (fset bl k b) (fset T k T') (fset us k u') l = boxPs bl T us l
  | [], _ => rfl
  | (j, x) :: r, h => by
    simp only [List.map_cons, List.mem_cons, not_or] at h
    unfold boxPs
    rw [List.map_cons, List.map_cons]
    have := boxPs_fresh (bl := bl) (T := T) (us := us) (b := b) (T' := T') (u' := u') h.2
    unfold boxPs at this
    rw [this]
    simp only [fset_ne _ _ (fun e => h.1 e.symm : j ≠ k)]
theorem treePs_fresh {hd : Nat → Hd} {k : Nat} {u : Hd} : ∀ {l : List (Nat × List (List D))}, k ∉ l.map (·.1) → treePs (fset hd k u) l = treePs hd l
  | [], _ => rfl
  | (j, x) :: r, h => by
    simp only [List.map_cons, List.mem_cons, not_or] at h
    unfold treePs
    rw [List.map_cons, List.map_cons]
    have := treePs_fresh (hd := hd) (u := u) h.2
    unfold treePs at this
    rw [this]
    simp only [fset_ne _ _ (fun e => h.1 e.symm : j ≠ k)]
theorem At.newBox (A : At c s y a w) {t : Nat} {cs : List V} {us : Array Value} {T : TypeId} (hf : look t s.box = none) (hv : RVs (relOf c s y) cs us.toList) (hd' : dstOk c.n (some t) = true) :
    At c { s with env := put t (.ref t 0) s.env, box := (t, cs) :: s.box } { y with bl := fset y.bl t w.heap.size, T := fset y.T t T, us := fset y.us t us } (a.put (some t) (.pointer (some ⟨w.heap.size, 0, none⟩))) (w.alloc (.cells us T)) := by
  have hn := look_none hf
  have le : (relOf c s y).le (relOf c { s with box := (t, cs) :: s.box } { y with bl := fset y.bl t w.heap.size, T := fset y.T t T, us := fset y.us t us }) :=
    ⟨fun _ _ h => h, fun _ _ h => h, rfl, fun b h => ⟨List.mem_cons_of_mem _ h, fset_ne _ _ fun e => hn (by rw [← e]; exact h)⟩, fun p h => ⟨h, rfl⟩⟩
  have A1 : At c { s with box := (t, cs) :: s.box } { y with bl := fset y.bl t w.heap.size, T := fset y.T t T, us := fset y.us t us } a (w.alloc (.cells us T)) := by
    refine ⟨A.defers, A.size, ?_, fun t' v e => (A.env t' v e).le le, fun b cs' h => ?_, A.fro, List.nodup_cons.2 ⟨hn, A.nb⟩, A.nt, A.fix.1, fun i h1 h2 => ⟨(fset_ne _ _ (by have := dstOk.lt hd'; have := A.fix.1; omega)).trans (A.fix.2 i h1 h2).1, (A.fix.2 i h1 h2).2⟩⟩
    · have S := A.st.alloc us T
      show St c.W _ ((rowP (fset y.bl t w.heap.size t) (fset y.T t T t) (fset y.us t us t) :: boxPs (fset y.bl t w.heap.size) (fset y.T t T) (fset y.us t us) s.box) ++ _)
      rw [fset_self, fset_self, fset_self, boxPs_fresh hn]
      exact S
    · rcases List.mem_cons.1 h with h | h
      · injection h with h1 h2; subst h1; subst h2
        show RVs _ cs' (fset y.us b us b).toList
        rw [fset_self]; exact hv.le le
      · show RVs _ cs' (fset y.us t us b).toList
        rw [fset_ne _ _ (fun e => hn (by rw [← e]; exact List.mem_map.2 ⟨_, h, rfl⟩))]
        exact (A.box b cs' h).le le
  exact A1.value (v := .ref t 0) ⟨List.mem_cons_self, by show _ = Value.pointer (some ⟨fset y.bl t w.heap.size t, 0, none⟩); rw [fset_self]⟩ hd'
theorem At.newBoxAt (A : At c s y a w) {t b0 : Nat} {cs : List V} {us : Array Value} {T : TypeId} {w' : World} (hf : look t s.box = none) (S : St c.W w' (rowP b0 T us :: (boxPs y.bl y.T y.us s.box ++ (treePs y.hd s.tree ++ (froPs y.w0 y.F s.fro ++ c.L))))) (hv : RVs (relOf c s y) cs us.toList) (hd' : dstOk c.n (some t) = true) :
    At c { s with env := put t (.ref t 0) s.env, box := (t, cs) :: s.box } { y with bl := fset y.bl t b0, T := fset y.T t T, us := fset y.us t us } (a.put (some t) (.pointer (some ⟨b0, 0, none⟩))) w' := by
  have hn := look_none hf
  have le : (relOf c s y).le (relOf c { s with box := (t, cs) :: s.box } { y with bl := fset y.bl t b0, T := fset y.T t T, us := fset y.us t us }) :=
    ⟨fun _ _ h => h, fun _ _ h => h, rfl, fun b h => ⟨List.mem_cons_of_mem _ h, fset_ne _ _ fun e => hn (by rw [← e]; exact h)⟩, fun p h => ⟨h, rfl⟩⟩
  have A1 : At c { s with box := (t, cs) :: s.box } { y with bl := fset y.bl t b0, T := fset y.T t T, us := fset y.us t us } a w' := by
    refine ⟨A.defers, A.size, ?_, fun t' v e => (A.env t' v e).le le, fun b cs' h => ?_, A.fro, List.nodup_cons.2 ⟨hn, A.nb⟩, A.nt, A.fix.1, fun i h1 h2 => ⟨(fset_ne _ _ (by have := dstOk.lt hd'; have := A.fix.1; omega)).trans (A.fix.2 i h1 h2).1, (A.fix.2 i h1 h2).2⟩⟩
    · show St c.W _ ((rowP (fset y.bl t b0 t) (fset y.T t T t) (fset y.us t us t) :: boxPs (fset y.bl t b0) (fset y.T t T) (fset y.us t us) s.box) ++ _)
      rw [fset_self, fset_self, fset_self, boxPs_fresh hn]
      exact S
    · rcases List.mem_cons.1 h with h | h
      · injection h with h1 h2; subst h1; subst h2
        show RVs _ cs' (fset y.us b us b).toList
        rw [fset_self]; exact hv.le le
      · show RVs _ cs' (fset y.us t us b).toList
        rw [fset_ne _ _ (fun e => hn (by rw [← e]; exact List.mem_map.2 ⟨_, h, rfl⟩))]
        exact (A.box b cs' h).le le
  exact A1.value (v := .ref t 0) ⟨List.mem_cons_self, by show _ = Value.pointer (some ⟨fset y.bl t b0 t, 0, none⟩); rw [fset_self]⟩ hd'
theorem At.newTree (A : At c s y a w) {t : Nat} {rows : List (List D)} {u : Hd} {w' : World} (hf : fresh s t = true) (hd' : dstOk c.n (some t) = true)
    (S : St c.W w' (treeP u rows :: (boxPs y.bl y.T y.us s.box ++ (treePs y.hd s.tree ++ (froPs y.w0 y.F s.fro ++ c.L))))) :
    At c { s with env := put t (.own t) s.env, tree := (t, rows) :: s.tree } { y with hd := fset y.hd t u } (a.put (some t) u.v) w' := by
  unfold fresh at hf
  rw [Bool.and_eq_true] at hf
  have hn1 := look_none (isNone_eq hf.1)
  have hn2 := look_none (isNone_eq hf.2)
  have hn : t ∉ (s.tree ++ s.fro).map (·.1) := by rw [List.map_append, List.mem_append]; exact fun h => h.elim hn1 hn2
  have le : (relOf c s y).le (relOf c { s with tree := (t, rows) :: s.tree } { y with hd := fset y.hd t u }) :=
    ⟨fun _ _ h => h, fun _ _ h => h, rfl, fun b h => ⟨h, rfl⟩, fun p h => ⟨List.mem_cons_of_mem _ h, fset_ne _ _ fun e => hn (by rw [← e]; exact h)⟩⟩
  have A1 : At c { s with tree := (t, rows) :: s.tree } { y with hd := fset y.hd t u } a w' := by
    refine ⟨A.defers, A.size, ?_, fun t' v e => (A.env t' v e).le le, fun b cs' h => (A.box b cs' h).le le, fun p rows' h => ?_, A.nb, List.nodup_cons.2 ⟨hn, A.nt⟩, A.fix.1, fun i h1 h2 => ⟨(A.fix.2 i h1 h2).1, (fset_ne _ _ (by have := dstOk.lt hd'; have := A.fix.1; omega)).trans (A.fix.2 i h1 h2).2⟩⟩
    · have S' : St c.W w' (boxPs y.bl y.T y.us s.box ++ (treeP u rows :: treePs y.hd s.tree ++ (froPs y.w0 y.F s.fro ++ c.L))) := S.perm (by
        rw [List.cons_append]
        exact (List.perm_middle).symm)
      show St c.W w' (boxPs y.bl y.T y.us s.box ++ (treeP (fset y.hd t u t) rows :: treePs (fset y.hd t u) s.tree ++ (froPs y.w0 y.F s.fro ++ c.L)))
      rw [fset_self, treePs_fresh hn1]; exact S'
    · show TreeD _ _ (fset y.hd t u p) _
      rw [fset_ne _ _ (fun e => hn2 (by rw [← e]; exact List.mem_map.2 ⟨_, h, rfl⟩))]
      exact A.fro p rows' h
  exact A1.value (v := .own t) ⟨List.mem_cons_self, by show u.v = (fset y.hd t u t).v; rw [fset_self]⟩ hd'
theorem killB_keys (p : Nat) : ∀ (l : List (Nat × List V)), (killB p l).map (·.1) = l.map (·.1)
  | [] => rfl
  | (i, z) :: r => by unfold killB; rw [List.map_cons, List.map_cons, killB_keys p r]
theorem boxPs_killB {bl : Nat → Nat} {T : Nat → TypeId} {us : Nat → Array Value} (p : Nat) : ∀ (l : List (Nat × List V)), boxPs bl T us (killB p l) = boxPs bl T us l
  | [] => rfl
  | (i, z) :: r => by
    have := boxPs_killB (bl := bl) (T := T) (us := us) p r
    unfold boxPs at this ⊢
    unfold killB; rw [List.map_cons, List.map_cons, this]
theorem look_killE (p t : Nat) : ∀ (l : List (Nat × V)), look t (killE p l) = (look t l).map fun v => if mentions p v = true then .dead else v
  | [] => rfl
  | (i, z) :: r => by
    unfold killE
    simp only [look]
    split
    · rfl
    · exact look_killE p t r
theorem killC_sound {ρ ρ' : Rel} {p : Nat} (hK : ρ'.K = ρ.K) (hZ : ∀ b o, ρ.Z b o → ρ'.Z b o) (hs : ρ'.src = ρ.src) (hb : ∀ b, ρ.Lb b → ρ'.Lb b ∧ ρ'.bl b = ρ.bl b) (ht : ∀ q, q ≠ p → ρ.Lt q → ρ'.Lt q ∧ ρ'.hd q = ρ.hd q) :
    ∀ {vs : List V} {us : List Value}, RVs ρ vs us → RVs ρ' (killC p vs) us
  | [], _, h => h
  | v :: _, _, h => by
    obtain ⟨u, q, h1, h2, h3⟩ := h
    refine ⟨u, q, h1, ?_, killC_sound hK hZ hs hb ht h3⟩
    cases e : mentions p v with
    | true => simp; trivial
    | false => simp; exact RV.less hK hZ hs hb ht e h2
theorem mem_killB {p b : Nat} {cs : List V} : ∀ {l : List (Nat × List V)}, (b, cs) ∈ killB p l → ∃ cs', (b, cs') ∈ l ∧ cs = killC p cs'
  | [], h => by cases h
  | (i, z) :: r, h => by
    unfold killB at h
    rcases List.mem_cons.1 h with h | h
    · injection h with h1 h2; subst h1; subst h2; exact ⟨z, List.mem_cons_self, rfl⟩
    · obtain ⟨cs', h1, h2⟩ := mem_killB h
      exact ⟨cs', List.mem_cons_of_mem _ h1, h2⟩
theorem At.out (A : At c s y a w) {p : Nat} {rows : List (List D)} (hl : look p s.tree = some rows) :
    St c.W w (treeP (y.hd p) rows :: (boxPs y.bl y.T y.us s.box ++ (treePs y.hd (drop1 p s.tree) ++ (froPs y.w0 y.F s.fro ++ c.L)))) := by
  obtain ⟨l1, l2, h1, _, h3⟩ := look_split hl
  have n := A.nt
  rw [List.map_append, List.nodup_append] at n
  have h3 := h3 n.1
  refine A.st.perm ?_
  rw [h3]
  refine ((List.perm_middle (l₁ := boxPs y.bl y.T y.us s.box) (l₂ := treePs y.hd (l1 ++ l2) ++ (froPs y.w0 y.F s.fro ++ c.L)) (a := treeP (y.hd p) rows)).symm.trans ?_).symm
  refine List.Perm.append_left _ ?_
  rw [← List.cons_append]
  refine List.Perm.append_right _ ?_
  rw [h1]
  unfold treePs
  rw [List.map_append, List.map_append, List.map_cons]
  exact List.perm_middle.symm
theorem At.killed (A : At c s y a w) {p : Nat} {w' : World} {L' : List Pc} (hK' : ∀ w, St c.W w L' → ∀ b o, c.K b o → w.heap[b]? = some o) (S : St c.W w' (boxPs y.bl y.T y.us s.box ++ (treePs y.hd (drop1 p s.tree) ++ (froPs y.w0 y.F s.fro ++ L')))) (hp : p ∈ s.tree.map (·.1)) : At { c with L := L', hK := hK' } (s.kill p) y a w' := by
  have n := A.nt
  rw [List.map_append, List.nodup_append] at n
  have hmem : ∀ q, q ∈ (drop1 p s.tree).map (·.1) → q ∈ s.tree.map (·.1) ∧ q ≠ p := by
    intro q hq
    obtain ⟨⟨q', r⟩, hx, rfl⟩ := List.mem_map.1 hq
    have : ∀ {l : List (Nat × List (List D))}, (q', r) ∈ drop1 p l → (q', r) ∈ l ∧ q' ≠ p := by
      intro l; induction l with
      | nil => intro h; cases h
      | cons x l ih =>
        intro h
        obtain ⟨i, z⟩ := x
        unfold drop1 at h
        split at h
        · exact ⟨List.mem_cons_of_mem _ (ih h).1, (ih h).2⟩
        · rename_i hne
          rcases List.mem_cons.1 h with h | h
          · injection h with h1 h2; subst h1; subst h2; exact ⟨List.mem_cons_self, fun e => hne e.symm⟩
          · exact ⟨List.mem_cons_of_mem _ (ih h).1, (ih h).2⟩
    have := this hx
    exact ⟨List.mem_map.2 ⟨_, this.1, rfl⟩, this.2⟩
  have hkeep : ∀ q, q ≠ p → q ∈ s.tree.map (·.1) → q ∈ (drop1 p s.tree).map (·.1) := by
    intro q hq h
    obtain ⟨⟨q', r⟩, hx, rfl⟩ := List.mem_map.1 h
    have h2 := look_of_mem n.1 hx
    have : look q' (drop1 p s.tree) = some r := by rw [look_drop1, if_neg hq]; exact h2
    exact List.mem_map.2 ⟨_, look_mem this, rfl⟩
  have ht : ∀ q, q ≠ p → (relOf c s y).Lt q → (relOf c (s.kill p) y).Lt q ∧ (relOf c (s.kill p) y).hd q = (relOf c s y).hd q := by
    intro q hq h
    refine ⟨?_, rfl⟩
    have h : q ∈ (s.tree ++ s.fro).map (·.1) := h
    show q ∈ (drop1 p s.tree ++ s.fro).map (·.1)
    rw [List.map_append, List.mem_append] at h ⊢
    exact h.imp (hkeep q hq) _root_.id
  have hb : ∀ b, (relOf c s y).Lb b → (relOf c (s.kill p) y).Lb b ∧ (relOf c (s.kill p) y).bl b = (relOf c s y).bl b := by
    intro b h
    refine ⟨?_, rfl⟩
    show b ∈ (killB p s.box).map (·.1)
    rw [killB_keys]; exact h
  refine ⟨A.defers, A.size, ?_, fun t v e => ?_, fun b cs h => ?_, A.fro, ?_, ?_, A.fix⟩
  · show St c.W w' (boxPs y.bl y.T y.us (killB p s.box) ++ (treePs y.hd (drop1 p s.tree) ++ (froPs y.w0 y.F s.fro ++ L')))
    rw [boxPs_killB]; exact S
  · have e : look t (killE p s.env) = some v := e
    rw [look_killE] at e
    cases e2 : look t s.env with
    | none => rw [e2] at e; cases e
    | some v' =>
      rw [e2] at e; simp only [Option.map_some, Option.some.injEq] at e
      subst e
      cases e3 : mentions p v' with
      | true => simp; trivial
      | false => simp only [Bool.false_eq_true, if_false]; exact RV.less (ρ := relOf c s y) (ρ' := relOf c (s.kill p) y) rfl (fun _ _ h => h) rfl hb ht e3 (A.env t v' e2)
  · obtain ⟨cs', h1, rfl⟩ := mem_killB h
    exact killC_sound (ρ := relOf c s y) (ρ' := relOf c (s.kill p) y) rfl (fun _ _ h => h) rfl hb ht (A.box b cs' h1)
  · show ((killB p s.box).map (·.1)).Nodup
    rw [killB_keys]; exact A.nb
  · show ((drop1 p s.tree ++ s.fro).map (·.1)).Nodup
    rw [List.map_append, List.nodup_append]
    refine ⟨?_, n.2.1, fun x hx z hz => n.2.2 x (hmem x hx).1 z hz⟩
    obtain ⟨⟨q, r⟩, hx, rfl⟩ := List.mem_map.1 hp
    obtain ⟨l1, l2, e1, _, e3⟩ := look_split (look_of_mem n.1 hx)
    rw [e3 n.1, List.map_append]
    have n1 := n.1
    rw [e1, List.map_append, List.map_cons] at n1
    have n2 := List.perm_middle.nodup_iff.1 n1
    exact (List.nodup_cons.1 n2).2
theorem step_box {o : Oper} {t : TypeId} {x : Operand} (ho : o.op = .box t x) (hd' : dstOk c.n o.dst = true) {v : V} {s' : S} (hx : s.ev x = some v) (h1 : v.cells.all V.one = true) (h : s.newBox o.dst v.cells = some s') : Step P c o s s' := by
  intro a w G next Q k
  obtain ⟨y, A⟩ := G
  unfold S.newBox at h
  obtain ⟨d, hd, h⟩ := bnd_eq_some h
  obtain ⟨hf, h⟩ := grd_eq_some h
  injection h with h; subst h
  rw [hd] at hd'
  have ex := A.cells (A.ev hx) h1
  have A' := A.newBox (T := t) (isNone_eq hf) ex.1 hd'
  refine op_value (u := .pointer (some ⟨w.heap.size, 0, none⟩)) (w' := w.alloc (.cells (a.eval x).cells t)) ?_ (k _ _ ⟨_, by rw [hd]; exact A'⟩)
  unfold execOp; simp only [ho]; simp [Instr.box, newVar, newRow]
theorem constV_cells {ρ : Rel} {z : Value} {v : V} (h : constV z = some v) : RVs ρ v.cells z.cells.toList := by
  have e := constV_sound (ρ := ρ) h
  unfold constV at h
  split at h <;> (try (cases h; done)) <;> (injection h with h; subst h)
  case _ => exact ⟨_, _, rfl, rfl, rfl⟩
  case _ => exact ⟨_, _, rfl, rfl, rfl⟩
  case _ => exact ⟨_, _, rfl, rfl, rfl⟩
  case _ => exact ⟨_, _, rfl, rfl, rfl⟩
  case _ => exact ⟨_, _, rfl, rfl, rfl⟩
  case _ =>
    obtain ⟨us, e1, e2⟩ := e
    injection e1 with e1
    show RVs ρ (List.map constC _) (_ : Array Value).toList
    have e3 : us = (us.toArray).toList := rfl
    rw [e3, ← e1] at e2
    exact e2
theorem zeroV_sound {t : TypeId} {cs : List V} (h : zeroV P t = some cs) : ∃ i z, P.info? t = some i ∧ i.zero = some z ∧ ∀ ρ : Rel, RVs ρ cs z.cells.toList := by
  unfold zeroV at h
  obtain ⟨i, h1, h⟩ := bnd_eq_some h
  obtain ⟨z, h2, h⟩ := bnd_eq_some h
  obtain ⟨v, h3, h⟩ := bnd_eq_some h
  injection h with h; subst h
  exact ⟨i, z, h1, h2, fun ρ => constV_cells h3⟩
theorem step_alloc {o : Oper} {t : TypeId} (ho : o.op = .alloc t) (hd' : dstOk c.n o.dst = true) {cs : List V} {s' : S} (hz : zeroV P t = some cs) (h : s.newBox o.dst cs = some s') : Step P c o s s' := by
  intro a w G next Q k
  obtain ⟨y, A⟩ := G
  unfold S.newBox at h
  obtain ⟨d, hd, h⟩ := bnd_eq_some h
  obtain ⟨hf, h⟩ := grd_eq_some h
  injection h with h; subst h
  rw [hd] at hd'
  obtain ⟨i, z, h1, h2, h3⟩ := zeroV_sound hz
  have A' := A.newBox (T := t) (isNone_eq hf) (h3 _) hd'
  refine op_value (u := .pointer (some ⟨w.heap.size, 0, none⟩)) (w' := w.alloc (.cells z.cells t)) ?_ (k _ _ ⟨_, by rw [hd]; exact A'⟩)
  unfold execOp; simp only [ho]; simp [Instr.alloc, zeroValue, typeInfo, h1, h2, newVar, newRow]
end
end Go.Proofs.YtjhdikdopdcfcaaGreatDoor
namespace Go.Proofs.YtjhdikdopdcfcaaGreatDoor
open Go.RowKit
set_option linter.unusedSimpArgs false
set_option linter.unusedVariables false
theorem froPs_fresh' {w0 : Nat → World} {F : Nat → List Nat} {k : Nat} {u : World} {f : List Nat} : ∀ {l : List (Nat × List (List D))}, k ∉ l.map (·.1) → froPs (fset w0 k u) (fset F k f) l = froPs w0 F l
  | [], _ => rfl
  | (j, x) :: r, h => by
    simp only [List.map_cons, List.mem_cons, not_or] at h
    have := froPs_fresh' (w0 := w0) (F := F) (u := u) (f := f) h.2
    unfold froPs at this ⊢
    rw [List.map_cons, List.map_cons, this]
    simp only [fset_ne _ _ (fun e => h.1 e.symm : j ≠ k)]
theorem bytesWorld_ext (w : World) (e : TypeId) (b : ByteArray) : Ext w (Lib.bytesWorld w e b) :=
  ⟨rfl, rfl, rfl, by rw [Lib.bytesWorld_size]; omega, fun k hk => Lib.bytesWorld_at_old w e b k hk⟩
theorem rowsOfStr_flat (b : ByteArray) : (rowsOfStr b).flatten = b.data.toList.map fun c => D.a (.int .u8 (c.toNat : Int)) := by
  unfold rowsOfStr
  induction b.data.toList with
  | nil => rfl
  | cons x l ih => rw [List.map_cons, List.flatten_cons, ih]; rfl
theorem bytes_rd {w : World} {e : TypeId} {b : ByteArray} (hb : b.size ≤ 4611686018427387904) {G : Nat → Obj → Prop} (hG : ∀ o, (Lib.bytesWorld w e b).heap[w.heap.size]? = some o → G w.heap.size o) :
    RdD G (.l (rowsOfStr b)) (.slice (some ⟨w.heap.size, 0, none⟩) b.size (grownCap w b.size 0 e)) := by
  have h1 := grownCap_ge w b.size 0 e
  have h2 := grownCap_le_maxLen w b.size 0 e (by unfold maxLen; omega)
  unfold maxLen at h2
  have hs : b.size = b.data.toList.length := by simp
  by_cases h0 : b.size = 0
  · have : rowsOfStr b = [] := by
      unfold rowsOfStr
      rw [List.map_eq_nil_iff]
      exact List.eq_nil_of_length_eq_zero (by omega)
    rw [this, h0]
    exact .nil _ _ (by rw [h0] at h2; omega) (fun h => nomatch h)
  · refine .l (rowsOfStr b) b.size _ w.heap.size 0 1 e _ (Lib.bytesCells w e b) (fun i => .int .u8 ((b.data.toList.getD i 0).toNat : Int)) (by rw [rowsOfStr, List.length_map]; omega) (by omega) h1 (by omega) (by omega) (fun r hr => ?_) (hG _ (Lib.bytesWorld_at_new w e b)) (fun i d hd => ?_) (fun i d hd => ?_)
    · unfold rowsOfStr at hr
      obtain ⟨c, _, rfl⟩ := List.mem_map.1 hr
      rfl
    · rw [rowsOfStr_flat, List.getElem?_map] at hd
      obtain ⟨c, hc, rfl⟩ := Option.map_eq_some_iff.1 hd
      have hi : i < b.data.size := by simpa using (List.getElem?_eq_some_iff.1 hc).1
      rw [Nat.zero_add]
      unfold Lib.bytesCells
      rw [Array.getElem?_append_left (by simpa using hi)]
      simp only [Array.getElem?_map]
      have : b.data[i]? = some c := by simpa using hc
      rw [this, List.getD_eq_getElem?_getD, hc]
      rfl
    · rw [rowsOfStr_flat, List.getElem?_map] at hd
      obtain ⟨c, hc, rfl⟩ := Option.map_eq_some_iff.1 hd
      rw [List.getD_eq_getElem?_getD, hc]
      exact .a _
section
variable {P : Program} {c : Ctx} {s : S} {y : Lay} {a : Act} {w : World}
theorem At.froze (A : At c s y a w) {t : Nat} {e : TypeId} {b : ByteArray} (hb : b.size ≤ 4611686018427387904) (hf : fresh s t = true) (hd' : dstOk c.n (some t) = true) :
    Good c { s with env := put t (.fz (rowsOfStr b)) s.env, fro := (t, []) :: s.fro } (a.put (some t) (.slice (some ⟨w.heap.size, 0, none⟩) b.size (grownCap w b.size 0 e))) (Lib.bytesWorld w e b) := by
  unfold fresh at hf
  rw [Bool.and_eq_true] at hf
  have hn1 := look_none (isNone_eq hf.1)
  have hn2 := look_none (isNone_eq hf.2)
  have hn : t ∉ (s.tree ++ s.fro).map (·.1) := by rw [List.map_append, List.mem_append]; exact fun h => h.elim hn1 hn2
  have hx := bytesWorld_ext w e b
  have kk : ∀ n, n ∈ (s.tree ++ s.fro).map (·.1) → n ∈ (s.tree ++ (t, ([] : List (List D))) :: s.fro).map (·.1) := by
    intro n h
    rw [List.map_append, List.mem_append] at h ⊢
    exact h.elim .inl fun h => .inr (List.mem_cons_of_mem _ h)
  have le : (relOf c s y).le (relOf c { s with fro := (t, []) :: s.fro } { y with hd := fset y.hd t nilHd, w0 := fset y.w0 t (Lib.bytesWorld w e b), F := fset y.F t [w.heap.size] }) := by
    refine ⟨fun _ _ h => h, fun b' o ⟨q, h1, h2, h3⟩ => ?_, rfl, fun b h => ⟨h, rfl⟩, fun q h => ⟨kk q h, fset_ne _ _ fun e => hn (by rw [← e]; exact h)⟩⟩
    have hq : q ≠ t := fun e => hn2 (by rw [← e]; exact h1)
    exact ⟨q, List.mem_cons_of_mem _ h1, by show b' ∈ fset y.F t _ q; rw [fset_ne _ _ hq]; exact h2, by show (fset y.w0 t _ q).heap[b']? = some o; rw [fset_ne _ _ hq]; exact h3⟩
  have A1 : At c { s with fro := (t, []) :: s.fro } { y with hd := fset y.hd t nilHd, w0 := fset y.w0 t (Lib.bytesWorld w e b), F := fset y.F t [w.heap.size] } a (Lib.bytesWorld w e b) := by
    refine ⟨A.defers, A.size, ?_, fun t' v e => (A.env t' v e).le le, fun b cs h => (A.box b cs h).le le, fun q r h => ?_, A.nb, ?_, A.fix.1, fun i h1 h2 => ⟨(A.fix.2 i h1 h2).1, (fset_ne _ _ (by have := dstOk.lt hd'; have := A.fix.1; omega)).trans (A.fix.2 i h1 h2).2⟩⟩
    · have S1 : St c.W (Lib.bytesWorld w e b) (snapP (Lib.bytesWorld w e b) [w.heap.size] :: (boxPs y.bl y.T y.us s.box ++ (treePs y.hd s.tree ++ (froPs y.w0 y.F s.fro ++ c.L)))) :=
        A.st.more hx (h := snapP (Lib.bytesWorld w e b) [w.heap.size]) (F := [w.heap.size]) ⟨rfl, fun _ _ => rfl⟩ (by simp) (fun k hk => by simp only [List.mem_singleton] at hk; subst hk; rw [Lib.bytesWorld_size]; omega)
      show St c.W _ (boxPs y.bl y.T y.us s.box ++ (treePs (fset y.hd t nilHd) s.tree ++ ((snapP (fset y.w0 t (Lib.bytesWorld w e b) t) (fset y.F t [w.heap.size] t) :: froPs (fset y.w0 t (Lib.bytesWorld w e b)) (fset y.F t [w.heap.size]) s.fro) ++ c.L)))
      rw [fset_self, fset_self, froPs_fresh' hn2, treePs_fresh hn1]
      have q := (List.perm_middle (a := snapP (Lib.bytesWorld w e b) [w.heap.size]) (l₁ := boxPs y.bl y.T y.us s.box ++ treePs y.hd s.tree) (l₂ := froPs y.w0 y.F s.fro ++ c.L)).symm
      simp only [List.append_assoc, List.cons_append] at q ⊢ S1
      exact S1.perm q
    · show TreeD (fset y.w0 t _ q) _ (fset y.hd t nilHd q) (fset y.F t _ q)
      rcases List.mem_cons.1 h with h | h
      · injection h with h1 h2; subst h1; subst h2
        rw [fset_self, fset_self, fset_self]
        exact ⟨.nil none _, fun g ob n c cs T fr m r' e1 => by cases e1⟩
      · have hq : q ≠ t := fun e => hn2 (by rw [← e]; exact List.mem_map.2 ⟨_, h, rfl⟩)
        rw [fset_ne _ _ hq, fset_ne _ _ hq, fset_ne _ _ hq]; exact A.fro q r h
    · show ((s.tree ++ (t, []) :: s.fro).map (·.1)).Nodup
      have An := A.nt
      rw [List.map_append, List.nodup_append] at An ⊢
      refine ⟨An.1, List.nodup_cons.2 ⟨hn2, An.2.1⟩, fun x hx z hz e => ?_⟩
      subst e
      rcases List.mem_cons.1 hz with h | h
      · have h : x = t := h
        subst h
        exact hn1 hx
      · exact An.2.2 x hx x h rfl
  refine ⟨_, A1.value (v := .fz (rowsOfStr b)) ?_ hd'⟩
  refine bytes_rd hb fun o ho => ⟨t, List.mem_cons_self, ?_, ?_⟩
  · show w.heap.size ∈ fset y.F t _ t
    rw [fset_self]; exact List.mem_singleton_self _
  · show (fset y.w0 t _ t).heap[w.heap.size]? = some o
    rw [fset_self]; exact ho
theorem step_bytes {o : Oper} {t0 t : TypeId} {x : Operand} {s' : S} (ho : o.op = .convert t0 t x) (hd' : dstOk c.n o.dst = true) {vx : V} {d0 d : TypeDesc} (hx : s.ev x = some vx) (h0 : P.underlying t0 = some d0) (h1 : P.underlying t = some d) (h : convS P s o.dst vx d0 d = some s') : Step P c o s s' := by
  by_cases hs : ∃ e, d = .slice e
  · obtain ⟨e, rfl⟩ := hs
    simp only [convS] at h
    obtain ⟨de, he, h⟩ := bnd_eq_some h
    obtain ⟨hby, h⟩ := grd_eq_some h
    have hde2 : de = .int .u8 := by unfold isByteD at hby; split at hby <;> first | rfl | cases hby
    subst hde2
    have hv : ∃ b, vx = .v (.string b) := by
      unfold newBytes at h
      split at h
      · exact ⟨_, rfl⟩
      · cases h
    · obtain ⟨b, rfl⟩ := hv
      simp only [newBytes] at h
      obtain ⟨t', ht, h⟩ := bnd_eq_some h
      obtain ⟨⟨hf, hb⟩, h⟩ := grd_eq_some h
      injection h with h; subst h
      rw [ht] at hd'
      intro a w G next Q k
      obtain ⟨y, A⟩ := G
      have ex : a.eval x = .string b := A.ev hx
      refine op_value (u := .slice (some ⟨w.heap.size, 0, none⟩) b.size (grownCap w b.size 0 e)) (w' := Lib.bytesWorld w e b) ?_ (k _ _ ?_)
      · unfold execOp
        simp only [ho]
        rw [ex, Sem.run_bind, Lib.run_convert_string_bytes (P := P) w t0 t e b h0 h1 he]
        rfl
      · rw [ht]
        exact A.froze hb hf hd'
  · have hc : convS P s o.dst vx d0 d = bnd (convD P s vx d0 d) fun v => some (s.put o.dst v) := by
      cases d <;> first | rfl | exact absurd ⟨_, rfl⟩ hs
    rw [hc] at h
    obtain ⟨v, h2, h⟩ := bnd_eq_some h
    injection h with h; subst h
    exact step_convert ho hd' hx h0 h1 h2
end
end Go.Proofs.YtjhdikdopdcfcaaGreatDoor
namespace Go.Proofs.YtjhdikdopdcfcaaGreatDoor
open Go.RowKit
set_option linter.unusedSimpArgs false
set_option linter.unusedVariables false
theorem setAt_sound {ρ : Rel} : ∀ {vs : List V} {xs : List Value} {off : Nat} {cs : List V} {us : List Value}, RVs ρ vs xs → RVs ρ cs us → off + xs.length ≤ us.length → RVs ρ (setAt cs off vs) (us.take off ++ xs ++ us.drop (off + xs.length))
  | [], xs, off, cs, us, h, k, hl => by
    rw [show xs = [] from h]
    simpa [setAt] using k
  | v :: vs, xs, off, cs, us, h, k, hl => by
    obtain ⟨x, q, rfl, h2, h3⟩ := h
    have := setAt_sound (off := off + 1) h3 (k.set h2 off) (by simp at hl ⊢; omega)
    rw [list_seg_step us off x q (by simpa using hl)] at this
    exact this
section
variable {P : Program} {c : Ctx} {s : S} {y : Lay} {a : Act} {w : World}
theorem At.turn (A : At c s y a w) {b : Nat} {cs cs' : List V} {us' : Array Value} {w' : World} (hl : look b s.box = some cs) (hv : RVs (relOf c s y) cs' us'.toList) (hh : w'.heap[y.bl b]? = some (.cells us' (y.T b) (0, 0))) (g : w.grownBy w' (some (y.bl b))) :
    At c { s with box := upd b cs' s.box } { y with us := fset y.us b us' } a w' := by
  obtain ⟨l1, l2, h1, h2, _⟩ := look_split hl
  have hk : (s.box.map (·.1)) = (l1.map (·.1)) ++ b :: (l2.map (·.1)) := by rw [h1]; simp
  have nb := A.nb
  rw [hk] at nb
  have n2 := List.nodup_cons.1 (List.perm_middle.nodup_iff.1 nb)
  have n1 : b ∉ l1.map (·.1) := fun h => n2.1 (List.mem_append_left _ h)
  have n3 : b ∉ l2.map (·.1) := fun h => n2.1 (List.mem_append_right _ h)
  have hsame : ∀ {l : List (Nat × List V)}, b ∉ l.map (·.1) → boxPs y.bl y.T (fset y.us b us') l = boxPs y.bl y.T y.us l := by
    intro l; induction l with
    | nil => intro _; rfl
    | cons x l ih =>
      intro h
      simp only [List.map_cons, List.mem_cons, not_or] at h
      unfold boxPs at ih ⊢
      rw [List.map_cons, List.map_cons, ih h.2, fset_ne _ _ (fun e => h.1 e.symm)]
  have le : (relOf c s y).le (relOf c { s with box := upd b cs' s.box } { y with us := fset y.us b us' }) :=
    ⟨fun _ _ h => h, fun _ _ h => h, rfl, fun b' h => ⟨by show b' ∈ (upd b cs' s.box).map (·.1); rw [upd_keys]; exact h, rfl⟩, fun p h => ⟨h, rfl⟩⟩
  refine ⟨A.defers, A.size, ?_, fun t' v e => (A.env t' v e).le le, fun b' cs1 h => ?_, A.fro, by show ((upd b cs' s.box).map (·.1)).Nodup; rw [upd_keys]; exact A.nb, A.nt, A.fix⟩
  · have S := A.st
    rw [h1] at S
    unfold boxPs at S
    rw [List.map_append, List.map_cons, List.append_assoc, List.cons_append] at S
    have S2 := (S.perm List.perm_middle).set hh g
    have S3 := S2.perm List.perm_middle.symm
    show St c.W w' (boxPs y.bl y.T (fset y.us b us') (upd b cs' s.box) ++ _)
    rw [h2 cs']
    have e : boxPs y.bl y.T (fset y.us b us') (l1 ++ (b, cs') :: l2) = boxPs y.bl y.T y.us l1 ++ rowP (y.bl b) (y.T b) us' :: boxPs y.bl y.T y.us l2 := by
      have e1 := hsame n1
      have e2 := hsame n3
      unfold boxPs at e1 e2 ⊢
      rw [List.map_append, List.map_cons, e1, e2]
      simp only [fset_self]
    rw [e, List.append_assoc, List.cons_append]
    exact S3
  · rcases mem_upd A.nb h with ⟨h3, h4⟩ | ⟨h3, h4⟩
    · subst h3; subst h4
      show RVs _ cs1 (fset y.us b' us' b').toList
      rw [fset_self]; exact hv.le le
    · show RVs _ cs1 (fset y.us b us' b').toList
      rw [fset_ne _ _ h3]; exact (A.box b' cs1 h4).le le
theorem run_storeAt_row {t : TypeId} {v : Value} {b off : Nat} {cur : Array Value} {T : TypeId} (hz : v.cells.size = P.cellsOf t) (hs : sizedT P t = true) (hh : w.heap[b]? = some (.cells cur T (0, 0))) (hl : off + v.cells.size ≤ cur.size) (h1 : ∀ x ∈ v.cells.toList, x.oneCell' = true) :
    (Instr.storeAt t (.pointer (some ⟨b, off, none⟩)) v).run P w = .ok () (w.setRow b (cur.toList.take off ++ v.cells.toList ++ cur.toList.drop (off + v.cells.size)).toArray) := by
  have hst := run_storeCells_at P b off T v.cells.toList 0 cur w hh (by simpa using hl) h1
  have hsz := run_sizeOf_some (P := P) (w := w) hs
  simp only [Nat.add_zero, Array.length_toList] at hst
  simp [Instr.storeAt, Instr.sureAddr, storeVar, hsz, hz, hst]
theorem step_storeBox {o : Oper} {t : TypeId} {x z : Operand} (ho : o.op = .store t x z) {b off : Nat} {v : V} {cs : List V} (hx : s.ev x = some (.ref b off)) (hv : s.ev z = some v) (hz : v.cells.length = P.cellsOf t) (hsz : sizedT P t = true) (h1 : v.cells.all V.one = true) (hl : look b s.box = some cs) (hle : off + v.cells.length ≤ cs.length) :
    Step P c o s ({ s with box := upd b (setAt cs off v.cells) s.box }.skip o.dst) := by
  intro a w G next Q k
  obtain ⟨y, A⟩ := G
  obtain ⟨hb, hr⟩ := A.boxAt hl
  have ex := (A.ev hx).2
  obtain ⟨ev, e1⟩ := A.cells (A.ev hv) h1
  have l1 := ev.len
  have l2 := hr.len
  rw [Array.length_toList] at l1 l2
  have hrun := run_storeAt_row (P := P) (off := off) (v := a.eval z) (by rw [l1]; exact hz) hsz hb (by rw [l1, l2]; exact hle) e1
  have A2 := A.turn (cs' := setAt cs off v.cells) (us' := ((y.us b).toList.take off ++ (a.eval z).cells.toList ++ (y.us b).toList.drop (off + (a.eval z).cells.size)).toArray) hl (by
    have := setAt_sound ev hr (off := off) (by rw [Array.length_toList, Array.length_toList, l1, l2]; exact hle)
    rw [Array.length_toList] at this
    exact this) (setRow_heap w _ _ _ _ _ hb) ⟨rfl, rfl, rfl, by simp, fun k _ hk => setRow_other w _ k _ (fun e => hk (by rw [e]))⟩
  refine op_skip ?_ (k _ _ ⟨_, A2.skip undef⟩)
  unfold execOp; simp only [ho, show a.eval x = _ from ex]
  rw [Sem.run_bind]
  have hrun' : (Instr.storeAt t (.pointer (some ⟨(relOf c s y).bl b, off, none⟩)) (a.eval z)).run P w = _ := hrun
  rw [hrun']; rfl
theorem OwnD.put {w : World} {rows : List (List D)} {g o n cc : Nat} {F : List Nat} (h : OwnD w (.l rows) (.slice (some ⟨g, o, none⟩) n cc) F) {i j : Nat} {r : List D} {x0 x : Value} (hi : rows[i]? = some r) (hj : r[j]? = some (.a x0)) {u : Value} (hu : u = x) :
    ∃ T cs, w.heap[g]? = some (.cells cs T (0, 0)) ∧ o + (i * r.length + j) < cs.size ∧ ∀ w' : World, ((w'.heap[g]? = some (.cells (cs.setIfInBounds (o + (i * r.length + j)) u) T (0, 0))) → (∀ b ∈ F, b ≠ g → w'.heap[b]? = w.heap[b]?) → F.Nodup → OwnD w' (.l (rows.set i (r.set j (.a x)))) (.slice (some ⟨g, o, none⟩) n cc) F) := by
  subst hu
  cases h with
  | nil => simp at hi
  | l _ _ _ _ _ k T cs us fs h1 h2 h3 h4 h5 h6 h00 h7 h8 h9 =>
    have hk : r.length = k := h5 r (List.mem_of_getElem? hi)
    have hjk : j < k := by rw [← hk]; exact (List.getElem?_eq_some_iff.1 hj).1
    have f := flat_get rows i j r _ h5 hi hj
    have hcs := h8 _ _ f
    have hsz : o + (i * k + j) < cs.size := (Array.getElem?_eq_some_iff.1 hcs).1
    refine ⟨T, cs, h7, by rw [hk]; exact hsz, fun w' hh hF hnd => ?_⟩
    rw [hk] at hh
    have hflat := flat_set rows i j r (.a u) h5 hi hjk
    have hlen : (rows.set i (r.set j (.a u))).flatten.length = rows.flatten.length := by rw [hflat, List.length_set]
    rw [← hlen]
    have hg := List.nodup_cons.1 hnd
    refine .l _ n cc g o k T _ (fun m => if m = i * k + j then u else us m) fs (by rw [List.length_set]; exact h1) h2 h3 h4 (fun r' hr' => ?_) (by simpa using h6) (fun e => h00 (List.eq_nil_of_length_eq_zero (by have := congrArg List.length e; simpa using this))) hh (fun m d e => ?_) (fun m d e => ?_)
    · rcases List.mem_or_eq_of_mem_set hr' with hr' | hr'
      · exact h5 r' hr'
      · rw [hr', List.length_set]; exact hk
    · rw [hflat, List.getElem?_set] at e
      by_cases hm : i * k + j = m
      · subst hm; simp [hsz]
      · rw [if_neg hm] at e
        simp only [if_neg (fun e => hm e.symm : ¬ m = i * k + j)]
        rw [Array.getElem?_setIfInBounds_ne (by omega)]
        exact h8 m d e
    · rw [hflat, List.getElem?_set] at e
      by_cases hm : i * k + j = m
      · subst hm
        rw [if_pos rfl] at e
        split at e
        · injection e with e; subst e
          simp only [if_true]
          have := h9 _ _ f
          have hnil : fs (i * k + j) = [] := by
            generalize fs (i * k + j) = F0 at this
            cases this; rfl
          rw [hnil]; exact .a u
        · cases e
      · rw [if_neg hm] at e
        simp only [if_neg (fun e => hm e.symm : ¬ m = i * k + j)]
        have hmF : ∀ b ∈ fs m, b ∈ (List.range rows.flatten.length).flatMap fs := fun b hb => List.mem_flatMap.2 ⟨m, List.mem_range.2 (List.getElem?_eq_some_iff.1 e).1, hb⟩
        exact (h9 m d e).st fun b hb => hF b (List.mem_cons_of_mem _ (hmF b hb)) fun e2 => hg.1 (by rw [← e2]; exact hmF b hb)
theorem At.own1 (A : At c s y a w) {p : Nat} {rows : List (List D)} (hl : look p s.tree = some rows) {w' : World} {rows' : List (List D)} (S : St c.W w' (treeP (y.hd p) rows' :: (boxPs y.bl y.T y.us s.box ++ (treePs y.hd (drop1 p s.tree) ++ (froPs y.w0 y.F s.fro ++ c.L))))) :
    At c { s with tree := upd p rows' s.tree } y a w' := by
  obtain ⟨l1, l2, h1, h2, h3⟩ := look_split hl
  have n := A.nt
  rw [List.map_append, List.nodup_append] at n
  have h3 := h3 n.1
  have le : (relOf c s y).le (relOf c { s with tree := upd p rows' s.tree } y) :=
    ⟨fun _ _ h => h, fun _ _ h => h, rfl, fun b' h => ⟨h, rfl⟩, fun q h => ⟨by
      show q ∈ (upd p rows' s.tree ++ s.fro).map (·.1)
      rw [List.map_append, upd_keys, ← List.map_append]; exact h, rfl⟩⟩
  refine ⟨A.defers, A.size, ?_, fun t' v e => (A.env t' v e).le le, fun b cs h => (A.box b cs h).le le, A.fro, A.nb, by
    show ((upd p rows' s.tree ++ s.fro).map (·.1)).Nodup
    rw [List.map_append, upd_keys, ← List.map_append]; exact A.nt, A.fix⟩
  show St c.W w' (boxPs y.bl y.T y.us s.box ++ (treePs y.hd (upd p rows' s.tree) ++ (froPs y.w0 y.F s.fro ++ c.L)))
  rw [h2 rows']
  rw [h3] at S
  refine S.perm ?_
  refine (List.perm_middle (l₁ := boxPs y.bl y.T y.us s.box) (l₂ := treePs y.hd (l1 ++ l2) ++ (froPs y.w0 y.F s.fro ++ c.L)) (a := treeP (y.hd p) rows')).symm.trans ?_
  refine List.Perm.append_left _ ?_
  rw [← List.cons_append]
  refine List.Perm.append_right _ ?_
  unfold treePs
  rw [List.map_append, List.map_append, List.map_cons]
  exact List.perm_middle.symm
theorem atom_some {v : V} {d : D} (h : v.atom = some d) : ∃ x, v = .v x ∧ d = .a x := by
  unfold V.atom at h
  split at h
  · injection h with h; subst h; exact ⟨_, rfl, rfl⟩
  · cases h
theorem step_storeOwn {o : Oper} {t : TypeId} {x z : Operand} (ho : o.op = .store t x z) {q i off k : Nat} {v : V} {d d0 : D} {rows : List (List D)} {r : List D} (hx : s.ev x = some (.pe (.own q) k i off)) (hv : s.ev z = some v) (hz : v.cells.length = P.cellsOf t) (hsz : sizedT P t = true)
    (hl : look q s.tree = some rows) (hat : v.atom = some d) (hr : rows[i]? = some r) (hd0 : r[off]? = some d0) (hk : r.length = k) (hf : flatD d0 = true) (h1 : oneD d = true) :
    Step P c o s ({ s with tree := upd q (rows.set i (r.set off d)) s.tree }.skip o.dst) := by
  intro a w G next Q kk
  obtain ⟨y, A⟩ := G
  obtain ⟨X, rfl, rfl⟩ := atom_some hat
  obtain ⟨ub, ⟨_, rfl⟩, g, o', n, cc, e1, e2, e3⟩ := A.ev hx
  have ez : a.eval z = X := A.ev hv
  have hX : X.oneCell' = true := h1
  cases d0 with
  | l _ => cases hf
  | gone => cases hf
  | a x0 =>
  have S := A.out hl
  have e1 : (y.hd q).v = .slice (some ⟨g, o', none⟩) n cc := e1
  obtain ⟨F, htree, hnd, hbd, rest⟩ := S.open_
  have htree : TreeD w rows (y.hd q) F := htree
  have hown := htree.own
  rw [e1] at hown
  have hgF : ∃ T0, F = g :: T0 := by
    have : OwnD w (.l rows) (.slice (some ⟨g, o', none⟩) n cc) F := hown
    cases this with
    | nil => simp at hr
    | l => exact ⟨_, rfl⟩
  obtain ⟨T0, hF⟩ := hgF
  obtain ⟨T, cs, hh, hlt, hput⟩ := OwnD.put hown hr hd0 (u := X) rfl
  rw [hk] at hlt hput
  have hXc := one_of_v hX
  have hrun := run_storeAt_row (P := P) (t := t) (v := X) (off := o' + (i * k + off)) (by rw [hXc]; exact hz) hsz hh (by rw [hXc]; exact hlt) (by rw [hXc]; simpa using hX)
  have earr : (cs.toList.take (o' + (i * k + off)) ++ X.cells.toList ++ cs.toList.drop (o' + (i * k + off) + X.cells.size)).toArray = cs.setIfInBounds (o' + (i * k + off)) X := by
    rw [hXc]
    apply Array.ext'
    rw [Array.toList_setIfInBounds, List.set_eq_take_append_cons_drop, if_pos (by simpa using hlt)]
    simp
  rw [earr] at hrun
  have hset := setRow_heap w g cs (cs.setIfInBounds (o' + (i * k + off)) X) T (0, 0) hh
  have hoth : ∀ b, b ≠ g → (w.setRow g (cs.setIfInBounds (o' + (i * k + off)) X)).heap[b]? = w.heap[b]? := fun b hb => setRow_other w g b _ hb
  have A2 := A.own1 hl (rest (w.setRow g (cs.setIfInBounds (o' + (i * k + off)) X)) (treeP (y.hd q) (rows.set i (r.set off (.a X)))) F rfl rfl rfl (by simp) (fun b hb hne => hoth b fun e => hne (by rw [e, hF]; exact List.mem_cons_self)) (by
    show TreeD _ _ (y.hd q) F
    refine ⟨by rw [e1]; exact hput _ hset (fun b _ hb => hoth b hb) hnd, fun g2 ob2 n2 c2 cs2 T2 fr m r' q1 q2 q3 => ?_⟩
    rw [e1] at q1
    injection q1 with q1 _ _; injection q1 with q1; injection q1 with q1 qo _
    subst q1; subst qo
    have q2 : (w.setRow g (cs.setIfInBounds (o' + (i * k + off)) X)).heap[g]? = _ := q2
    rw [hset] at q2
    injection q2 with q2; injection q2 with q2 _ _
    subst q2
    have hrk : ∀ r ∈ rows, r.length = k := by
      cases hown with
      | nil => simp at hr
      | l _ _ _ _ _ k2 T2 cs2 us2 fs2 a1 a2 a3 a4 a5 =>
        intro r2 hr2
        rw [a5 r2 hr2, ← a5 r (List.mem_of_getElem? hr), hk]
    rw [flat_set rows i off r (.a X) hrk hr (by rw [← hk]; exact (List.getElem?_eq_some_iff.1 hd0).1), List.getElem?_set] at q3
    by_cases hm : i * k + off = m
    · subst hm; rw [if_pos rfl] at q3; split at q3 <;> cases q3
    · rw [if_neg hm] at q3
      rw [Array.getElem?_setIfInBounds_ne (by omega)]
      exact htree.hd g _ n cc cs T (0, 0) m r' e1 hh q3) hnd (fun b hb => ⟨.inl hb, by have := (hbd b hb).2; simpa using this⟩))
  refine op_skip ?_ (kk _ _ ⟨_, A2.skip undef⟩)
  unfold execOp; simp only [ho, e3, ez]
  rw [Sem.run_bind, hrun]; rfl
end
end Go.Proofs.YtjhdikdopdcfcaaGreatDoor
namespace Go.Proofs.YtjhdikdopdcfcaaGreatDoor
open Go.RowKit
set_option linter.unusedSimpArgs false
set_option linter.unusedVariables false
section
variable {P : Program} {c : Ctx} {s : S} {y : Lay} {a : Act} {w : World}
theorem places_of : ∀ {fs : List Field}, (fs.all fun f => sizedT P f.type) = true → ∃ places, fs.mapM (fun f => (P.info? f.type).map fun i => (f.offset, i.size)) = some places ∧ ∀ (i : Nat) (f : Field), fs[i]? = some f → places[i]? = some (f.offset, P.cellsOf f.type)
  | [], _ => ⟨[], rfl, fun i f h => by simp at h⟩
  | f :: fs, h => by
    simp only [List.all_cons, Bool.and_eq_true] at h
    obtain ⟨pl, h1, h2⟩ := places_of h.2
    obtain ⟨i, hi⟩ := Option.isSome_iff_exists.1 h.1
    refine ⟨(f.offset, i.size) :: pl, by simp [List.mapM_cons, hi, h1], fun j f' e => ?_⟩
    cases j with
    | zero => simp at e; subst e; simp [Program.cellsOf, hi]
    | succ j => simp at e ⊢; exact h2 j f' e
theorem put_cells {off : Nat} {vs cur : Array Value} (h : off + vs.size ≤ cur.size) : (vs.zipIdx.foldl (fun cs (x : Value × Nat) => cs.setIfInBounds (off + x.2) x.1) cur).toList = cur.toList.take off ++ vs.toList ++ cur.toList.drop (off + vs.size) := by
  obtain ⟨h1, h2⟩ := Great.foldl_set off vs.toList 0 cur
  have e : vs.zipIdx.foldl (fun cs (x : Value × Nat) => cs.setIfInBounds (off + x.2) x.1) cur = (vs.toList.zipIdx 0).foldl (fun cs (x : Value × Nat) => cs.setIfInBounds (off + x.2) x.1) cur := by
    rw [← Array.foldl_toList, Array.toList_zipIdx]
  rw [e]
  apply List.ext_getElem?
  intro k
  rw [Array.getElem?_toList, h2 k]
  simp only [Nat.add_zero, Array.length_toList]
  by_cases k1 : k < off
  · rw [if_neg (by omega), List.append_assoc, List.getElem?_append_left (by rw [List.length_take, Array.length_toList]; omega), List.getElem?_take, if_pos k1, Array.getElem?_toList]
  · by_cases k2 : k < off + vs.size
    · rw [if_pos (by omega), List.append_assoc, List.getElem?_append_right (by rw [List.length_take, Array.length_toList]; omega), List.length_take, Array.length_toList, Nat.min_eq_left (by omega), List.getElem?_append_left (by rw [Array.length_toList]; omega)]
    · rw [if_neg (by omega), List.getElem?_append_right (by rw [List.length_append, List.length_take, Array.length_toList, Array.length_toList]; omega), List.length_append, List.length_take, Array.length_toList, Array.length_toList, List.getElem?_drop, Array.getElem?_toList]
      congr 1; omega
theorem fillRow_sound (A : At c s y a w) {fs : Parts} {place : Nat → Option (Nat × Nat)} (hp : ∀ (i : Nat) (f : Nat × Nat), placeP P fs i = some f → place i = some f) :
    ∀ {ps : List (Nat × Operand)} {vs : List (Nat × V)} {cs cs' : List V} {us : Array Value}, mapSome (evPair s) ps = some vs → RVs (relOf c s y) cs us.toList → fillRow P fs cs vs = some cs' → ∃ us', Instr.fill place us (ps.map fun x => (x.1, a.eval x.2)) = some us' ∧ RVs (relOf c s y) cs' us'.toList
  | [], vs, cs, cs', us, h1, h2, h3 => by
    simp only [mapSome] at h1; injection h1 with h1; subst h1
    simp only [fillRow] at h3; injection h3 with h3; subst h3
    exact ⟨us, rfl, h2⟩
  | (i, x) :: ps, vs, cs, cs', us, h1, h2, h3 => by
    simp only [mapSome] at h1
    obtain ⟨⟨i', v⟩, h4, h1⟩ := bnd_eq_some h1
    obtain ⟨vs', h5, h1⟩ := bnd_eq_some h1
    injection h1 with h1; subst h1
    unfold evPair at h4
    obtain ⟨v', h6, h4⟩ := bnd_eq_some h4
    injection h4 with h4; injection h4 with h7 h8; subst h7; subst h8
    simp only [fillRow] at h3
    obtain ⟨f, hf, h3⟩ := bnd_eq_some h3
    obtain ⟨⟨hl, hle, ho⟩, h3⟩ := grd_eq_some h3
    obtain ⟨ec, -⟩ := A.cells (A.ev h6) ho
    have l1 := ec.len
    have l2 := h2.len
    rw [Array.length_toList] at l1 l2
    have hfit : f.1 + (a.eval x).cells.size ≤ us.size := by rw [l1, l2]; exact hle
    have := setAt_sound ec h2 (off := f.1) (by rw [Array.length_toList, Array.length_toList]; exact hfit)
    rw [Array.length_toList, ← put_cells hfit] at this
    obtain ⟨us', k1, k2⟩ := fillRow_sound A hp h5 this h3
    refine ⟨us', ?_, k2⟩
    simp only [List.map_cons]
    unfold Instr.fill
    have hpl : place i = some (f.1, f.2) := hp i f hf
    simp only [hpl]
    rw [if_neg (by simp only [Bool.or_eq_true, decide_eq_true_eq, not_or]; constructor
                   · simp [l1, hl]
                   · omega)]
    exact k1
theorem step_build {o : Oper} {t : TypeId} {ps : Array (Nat × Operand)} (ho : o.op = .build t ps) (hd' : dstOk c.n o.dst = true) {d : TypeDesc} {fs : Parts} {z cs : List V} {vs : List (Nat × V)} (hu : P.underlying t = some d) (hst : structD d = some fs) (hfo : fieldsOk P t = true) (hz : zeroV P t = some z) (hvs : mapSome (evPair s) ps.toList = some vs) (h : fillRow P fs z vs = some cs) :
    Step P c o s (s.put o.dst (.agg cs)) := step_value hd' fun yy a w A => by
  obtain ⟨i, z', h1, h2, h3⟩ := zeroV_sound hz
  unfold fieldsOk at hfo
  rw [hu] at hfo
  have fin : ∀ us' : Array Value, P.built t (ps.map fun (i, x) => (i, a.eval x)).toList = some us' → RVs (relOf c s yy) cs us'.toList → ∃ u, (execOp a.eval o).run P w = .ok (.value u) w ∧ RV (relOf c s yy) (.agg cs) u := fun us' hb k2 => by
    refine ⟨.agg us', ?_, us'.toList, by simp, k2⟩
    unfold execOp; simp only [ho, Sem.run_bind, run_build w t _ us' hb]
    rfl
  unfold structD at hst
  split at hst
  · rename_i fs0
    injection hst with hst; subst hst
    obtain ⟨places, p1, p2⟩ := places_of (P := P) (fs := fs0.toList) hfo
    obtain ⟨us', k1, k2⟩ := fillRow_sound A (place := (places.toArray[·]?)) (fun i f e => by
      obtain ⟨f0, e1, e2⟩ := bnd_eq_some e
      injection e2 with e2; subst e2
      have := p2 i f0 (by simpa using e1)
      simpa using this) hvs (h3 _) h
    refine fin us' ?_ k2
    unfold Program.built
    simp only [h1, hu, h2, p1]
    rw [Array.toList_map]
    exact k1
  · rename_i n0 e0
    injection hst with hst; subst hst
    obtain ⟨ie, hie⟩ := Option.isSome_iff_exists.1 (show (P.info? e0).isSome = true from hfo)
    have hc : P.cellsOf e0 = ie.size := by simp [Program.cellsOf, hie]
    obtain ⟨us', k1, k2⟩ := fillRow_sound A (place := fun i => some (i * ie.size, ie.size)) (fun i f e => by
      rw [← hc]; exact e) hvs (h3 _) h
    refine fin us' ?_ k2
    unfold Program.built
    simp only [h1, hu, h2, hie]
    rw [Array.toList_map]
    exact k1
  · cases hst
def dP (d : D) (u : Value) : Pc := ⟨fun w F => OwnD w d u F, fun h k => h.st k⟩
def pcs : List D → List Value → List Pc
  | d :: ds, u :: us => dP d u :: pcs ds us
  | _, _ => []
theorem pcs_app : ∀ {ds es : List D} {us vs : List Value}, us.length = ds.length → pcs (ds ++ es) (us ++ vs) = pcs ds us ++ pcs es vs
  | [], es, [], vs, _ => rfl
  | [], es, _ :: _, vs, h => by simp at h
  | d :: ds, es, [], vs, h => by simp at h
  | d :: ds, es, u :: us, vs, h => by
    simp only [List.cons_append, pcs]
    rw [pcs_app (by simpa using h)]
theorem Sep.pcsIn {w : World} {L : List Pc} : ∀ {ds : List D} {us : List Value} {F : List Nat}, us.length = ds.length → Sep w (pcs ds us ++ L) F →
    ∃ (fs : Nat → List Nat) (G : List Nat), F = (List.range ds.length).flatMap fs ++ G ∧ Sep w L G ∧ ∀ (i : Nat) (d : D) (u : Value), ds[i]? = some d → us[i]? = some u → OwnD w d u (fs i)
  | [], [], F, _, S => ⟨fun _ => [], F, rfl, S, fun i d u e => by simp at e⟩
  | [], _ :: _, F, h, _ => by simp at h
  | d :: ds, [], F, h, _ => by simp at h
  | d :: ds, u :: us, F, h, S => by
    obtain ⟨F1, G1, rfl, a, g⟩ := Sep.uncons S
    obtain ⟨fs, G, rfl, g2, h2⟩ := Sep.pcsIn (by simpa using h) g
    refine ⟨fun i => match i with | 0 => F1 | i + 1 => fs i, G, ?_, g2, fun i d' u' e1 e2 => ?_⟩
    · rw [List.length_cons, List.range_succ_eq_map, List.flatMap_cons, List.flatMap_map, List.append_assoc]
    · cases i with
      | zero => simp at e1 e2; subst e1; subst e2; exact a
      | succ i => exact h2 i d' u' (by simpa using e1) (by simpa using e2)
theorem Sep.pcsOf {w : World} {L : List Pc} : ∀ {ds : List D} {us : List Value} {fs : Nat → List Nat} {G : List Nat}, us.length = ds.length → Sep w L G → (∀ (i : Nat) (d : D) (u : Value), ds[i]? = some d → us[i]? = some u → OwnD w d u (fs i)) →
    Sep w (pcs ds us ++ L) ((List.range ds.length).flatMap fs ++ G)
  | [], [], fs, G, _, S, _ => S
  | [], _ :: _, _, _, h, _, _ => by simp at h
  | d :: ds, [], _, _, h, _, _ => by simp at h
  | d :: ds, u :: us, fs, G, h, S, k => by
    rw [List.length_cons, List.range_succ_eq_map, List.flatMap_cons, List.flatMap_map, List.append_assoc]
    exact Sep.cons (h := dP d u) (k 0 d u rfl rfl) (Sep.pcsOf (fs := fun i => fs (i + 1)) (by simpa using h) S fun i d' u' e1 e2 => k (i + 1) d' u' (by simpa using e1) (by simpa using e2))
theorem St.split {W w : World} {rows : List (List D)} {u : Value} {L : List Pc} (S : St W w (ownP u rows :: L)) :
    (rows = [] ∧ ∃ g c, u = .slice g 0 c ∧ (g = none → c = 0) ∧ c = 0 ∧ St W w L) ∨ ∃ (g o c k : Nat) (T : TypeId) (cs : Array Value) (us : List Value), rows ≠ [] ∧ u = .slice (some ⟨g, o, none⟩) rows.length c ∧ rows.length ≤ c ∧ c ≤ maxLen ∧ 0 < k ∧ (∀ r ∈ rows, r.length = k) ∧ cs.size = o + c * k ∧
      us.length = rows.flatten.length ∧ (cs.toList.drop o).take (rows.length * k) = us ∧ St W w (rowP g T cs :: (pcs rows.flatten us ++ L)) := by
  obtain ⟨F, s, n, hb⟩ := S.sep
  obtain ⟨F1, G, rfl, o, g⟩ := s.uncons
  have o : OwnD w (.l rows) u F1 := o
  by_cases hr : rows = []
  · subst hr
    left
    refine ⟨rfl, ?_⟩
    cases o with
    | nil A _ => exact ⟨A, 0, rfl, fun _ => rfl, rfl, S.drop⟩
    | l _ n' c g' ob k T cs us fs h1 h2 h3 h4 h5 h6 h00 h7 h8 h9 =>
      have hc := h00 rfl
      subst hc
      have : n' = 0 := by simpa using h1.symm
      subst this
      exact ⟨some ⟨g', ob, none⟩, 0, rfl, (fun h => nomatch h), rfl, S.drop⟩
  · right
    cases o with
    | nil => exact absurd rfl hr
    | l _ n' c g' ob k T cs us fs h1 h2 h3 h4 h5 h6 h00 h7 h8 h9 =>
      subst h1
      have hfl := flat_len rows h5
      have hck : rows.length * k ≤ cs.size - ob := by rw [h6, Nat.add_sub_cancel_left]; exact Nat.mul_le_mul_right _ h2
      have hlen : ((cs.toList.drop ob).take (rows.length * k)).length = rows.flatten.length := by rw [List.length_take, List.length_drop, Array.length_toList, hfl]; exact Nat.min_eq_left hck
      refine ⟨g', ob, c, k, T, cs, (cs.toList.drop ob).take (rows.length * k), hr, rfl, h2, h3, h4, h5, h6, hlen, rfl, S.ext, g' :: ((List.range rows.flatten.length).flatMap fs ++ G), ?_, by simpa using n, by simpa using hb⟩
      refine Sep.cons (h := rowP g' T cs) (F := [g']) ⟨rfl, h7⟩ (Sep.pcsOf hlen g fun i d u e1 e2 => ?_)
      have hi : i < rows.length * k := by rw [← hfl]; exact (List.getElem?_eq_some_iff.1 e1).1
      rw [List.getElem?_take, if_pos hi, List.getElem?_drop, Array.getElem?_toList, h8 i d e1] at e2
      injection e2 with e2; subst e2
      exact h9 i d e1
theorem St.join {W w : World} {rows : List (List D)} {g ob cc k : Nat} {T : TypeId} {cs : Array Value} {us : List Value} {L : List Pc} (S : St W w (rowP g T cs :: (pcs rows.flatten us ++ L))) (hl : us.length = rows.flatten.length) (h1 : rows.length ≤ cc) (h2 : cc ≤ maxLen) (h3 : 0 < k) (h4 : ∀ r ∈ rows, r.length = k) (h5 : cs.size = ob + cc * k)
    (h0 : rows = [] → cc = 0) (h6 : (cs.toList.drop ob).take (rows.length * k) = us) : St W w (ownP (.slice (some ⟨g, ob, none⟩) rows.length cc) rows :: L) := by
  obtain ⟨F, s, n, hb⟩ := S.sep
  obtain ⟨F1, G1, rfl, ⟨rfl, o⟩, g1⟩ := s.uncons
  obtain ⟨fs, G, rfl, g2, h7⟩ := Sep.pcsIn hl g1
  refine ⟨S.ext, (g :: (List.range rows.flatten.length).flatMap fs) ++ G, Sep.cons (h := ownP _ rows) ?_ g2, by simpa using n, by simpa using hb⟩
  have hfl := flat_len rows h4
  refine OwnD.l rows rows.length cc g ob k T cs (fun i => us[i]?.getD undef) fs rfl h1 h2 h3 h4 h5 h0 o (fun i d e => ?_) (fun i d e => ?_)
  · have hi := (List.getElem?_eq_some_iff.1 e).1
    have hi2 : i < us.length := by rw [hl]; exact hi
    have : us[i]? = cs[ob + i]? := by rw [← h6, List.getElem?_take, if_pos (by rw [← hfl]; exact hi), List.getElem?_drop, Array.getElem?_toList]
    rw [← this, List.getElem?_eq_getElem hi2]; rfl
  · have hi := (List.getElem?_eq_some_iff.1 e).1
    have hi2 : i < us.length := by rw [hl]; exact hi
    exact h7 i d _ e (by rw [List.getElem?_eq_getElem hi2]; rfl)
theorem St.atoms {W w : World} {L : List Pc} (S : St W w L) : ∀ {ds : List D} {us : List Value}, (∀ d ∈ ds, flatD d = true) → (∀ (i : Nat) (x : Value) (u : Value), ds[i]? = some (.a x) → us[i]? = some u → u = x) → St W w (pcs ds us ++ L)
  | [], us, _, _ => by cases us <;> exact S
  | _ :: _, [], _, _ => S
  | d :: ds, u :: us, h, k => by
    cases d with
    | l r => have := h (.l r) (by simp); cases this
    | gone => have := h .gone (by simp); cases this
    | a x =>
      have := k 0 x u rfl rfl
      subst this
      exact (St.atoms S (ds := ds) (us := us) (fun d hd => h d (by simp [hd])) fun i x' u' e1 e2 => k (i + 1) x' u' (by simpa using e1) (by simpa using e2)).more (Ext.refl w) (h := dP (.a u) u) (F := []) (.a u) List.nodup_nil (fun b hb => by cases hb)
end
end Go.Proofs.YtjhdikdopdcfcaaGreatDoor
namespace Go.Proofs.YtjhdikdopdcfcaaGreatDoor
open Go.RowKit
set_option linter.unusedSimpArgs false
set_option linter.unusedVariables false
def Ctx.with (c : Ctx) (E : List Pc) : Ctx := { c with L := E ++ c.L, hK := fun w S => c.hK w (St.dropL S) }
section
variable {P : Program} {c : Ctx} {s : S} {y : Lay} {a : Act} {w : World}
def Pcs (s : S) (y : Lay) : List Pc := boxPs y.bl y.T y.us s.box ++ (treePs y.hd s.tree ++ froPs y.w0 y.F s.fro)
theorem At.pcs (A : At c s y a w) : St c.W w (Pcs s y ++ c.L) := by
  have := A.st
  unfold Pcs
  rw [List.append_assoc, List.append_assoc]; exact this
theorem At.withL (A : At c s y a w) {w' : World} {L' : List Pc} (hK' : ∀ w, St c.W w L' → ∀ b o, c.K b o → w.heap[b]? = some o) (S : St c.W w' (Pcs s y ++ L')) : At { c with L := L', hK := hK' } s y a w' := by
  unfold Pcs at S
  rw [List.append_assoc, List.append_assoc] at S
  exact ⟨A.defers, A.size, S, A.env, A.box, A.fro, A.nb, A.nt, A.fix⟩
theorem At.push (A : At c s y a w) {x : Pc} (S : St c.W w (x :: (Pcs s y ++ c.L))) : At (c.with [x]) s y a w :=
  A.withL (L' := [x] ++ c.L) (Ctx.with c [x]).hK (S.perm (List.perm_middle).symm)
theorem At.pop {E : List Pc} (A : At (c.with E) s y a w) : At c s y a w := by
  have S : St c.W w (Pcs s y ++ (E ++ c.L)) := A.pcs
  have S2 : St c.W w (E ++ (Pcs s y ++ c.L)) := S.perm (by
    rw [← List.append_assoc, ← List.append_assoc]
    exact List.Perm.append_right _ List.perm_append_comm)
  exact A.withL (c := c.with E) (L' := c.L) c.hK (St.dropL S2)
theorem At.front {E : List Pc} (A : At (c.with E) s y a w) : St c.W w (E ++ (Pcs s y ++ c.L)) := by
  have S : St c.W w (Pcs s y ++ (E ++ c.L)) := A.pcs
  refine S.perm ?_
  rw [← List.append_assoc, ← List.append_assoc]
  exact List.Perm.append_right _ List.perm_append_comm
theorem pcs_kill (s : S) (y : Lay) (p : Nat) : Pcs (s.kill p) y = boxPs y.bl y.T y.us s.box ++ (treePs y.hd (drop1 p s.tree) ++ froPs y.w0 y.F s.fro) := by
  unfold Pcs
  show boxPs y.bl y.T y.us (killB p s.box) ++ _ = _
  rw [boxPs_killB]
  rfl
theorem At.out' (A : At c s y a w) {p : Nat} {rows : List (List D)} (hl : look p s.tree = some rows) : St c.W w (treeP (y.hd p) rows :: (Pcs (s.kill p) y ++ c.L)) := by
  have := A.out hl
  rw [pcs_kill, List.append_assoc, List.append_assoc]; exact this
theorem At.killed' (A : At c s y a w) {p : Nat} {w' : World} {L' : List Pc} (hK' : ∀ w, St c.W w L' → ∀ b o, c.K b o → w.heap[b]? = some o) (S : St c.W w' (Pcs (s.kill p) y ++ L')) {rows : List (List D)} (hl : look p s.tree = some rows) : At { c with L := L', hK := hK' } (s.kill p) y a w' := by
  rw [pcs_kill, List.append_assoc, List.append_assoc] at S
  exact A.killed hK' S (List.mem_map.2 ⟨_, look_mem hl, rfl⟩)
theorem At.take (A : At c s y a w) {p : Nat} {rows : List (List D)} (hl : look p s.tree = some rows) : At (c.with [ownP (y.hd p).v rows]) (s.kill p) y a w :=
  A.killed' (L' := [ownP (y.hd p).v rows] ++ c.L) (Ctx.with c _).hK ((A.out' hl).untree.perm List.perm_middle.symm) hl
def PV (y : Lay) : V → Value → Prop
  | .v x, u => u = x
  | .nil, u => u = .slice none 0 0
  | .own q, u => u = (y.hd q).v
  | .inn p i j k, u => u = (y.hd p).cv (i * k + j) ∧ u.oneCell' = true
  | _, _ => True
theorem PV.of {v : V} {u : Value} (h : RV (relOf c s y) v u) : PV y v u := by
  cases v <;> first | exact trivial | exact h | exact h.2
theorem packRow_sound : ∀ {vs : List V} {us : List Value} {s s' : S} {ds : List D} {E : List Pc}, At (c.with E) s y a w → us.length = vs.length → (∀ (i : Nat) (v : V) (u : Value), vs[i]? = some v → us[i]? = some u → PV y v u) → packRow s vs = some (ds, s') →
    ∃ E', At (c.with (E' ++ E)) s' y a w ∧ E'.Perm (pcs ds us) ∧ ds.length = vs.length
  | [], us, s, s', ds, E, A, hl, _, h => by
    simp only [packRow] at h; injection h with h; injection h with h1 h2; subst h1; subst h2
    obtain rfl : us = [] := List.eq_nil_of_length_eq_zero hl
    exact ⟨[], A, List.Perm.refl _, rfl⟩
  | v :: r, [], s, s', ds, E, A, hl, _, h => by simp at hl
  | v :: r, u :: us, s, s', ds, E, A, hl, hp, h => by
    have hp0 := hp 0 v u rfl rfl
    have hpr : ∀ (i : Nat) (v' : V) (u' : Value), r[i]? = some v' → us[i]? = some u' → PV y v' u' := fun i v' u' e1 e2 => hp (i + 1) v' u' (by simpa using e1) (by simpa using e2)
    have fin : ∀ (d : D) (s1 : S) (A1 : At (c.with (dP d u :: E)) s1 y a w) (x : List D × S), packRow s1 r = some x → ∃ E', At (c.with (E' ++ E)) x.2 y a w ∧ E'.Perm (pcs (d :: x.1) (u :: us)) ∧ (d :: x.1).length = (v :: r).length := by
      intro d s1 A1 x hx
      obtain ⟨E', h1, h2, h3⟩ := packRow_sound (E := dP d u :: E) A1 (by simpa using hl) hpr hx
      refine ⟨E' ++ [dP d u], by rw [List.append_assoc]; exact h1, ?_, by rw [List.length_cons, List.length_cons, h3]⟩
      exact (List.perm_append_comm).trans (List.Perm.cons _ h2)
    have triv : ∀ (d : D) (o : OwnD w d u []) (x : List D × S), packRow s r = some x → ∃ E', At (c.with (E' ++ E)) x.2 y a w ∧ E'.Perm (pcs (d :: x.1) (u :: us)) ∧ (d :: x.1).length = (v :: r).length := fun d o x hx =>
      fin d s (At.push (c := c.with E) A (A.pcs.more (Ext.refl w) (h := dP d u) (F := []) o List.nodup_nil (fun b hb => by cases hb))) x hx
    cases v with
    | own p =>
      simp only [packRow] at h
      obtain ⟨rows, h1, h⟩ := bnd_eq_some h
      obtain ⟨x, h2, h⟩ := bnd_eq_some h
      injection h with h; injection h with h3 h4; subst h3; subst h4
      have hu : u = (y.hd p).v := hp0
      subst hu
      exact fin (.l rows) (s.kill p) (At.take (c := c.with E) A h1) x h2
    | v x0 =>
      simp only [packRow, packV] at h
      obtain ⟨d, h1, h⟩ := bnd_eq_some h
      obtain ⟨x, h2, h⟩ := bnd_eq_some h
      injection h1 with h1; subst h1
      injection h with h; injection h with h3 h4; subst h3; subst h4
      have hu : u = x0 := hp0
      subst hu
      exact triv _ (.a u) x h2
    | nil =>
      simp only [packRow, packV] at h
      obtain ⟨d, h1, h⟩ := bnd_eq_some h
      obtain ⟨x, h2, h⟩ := bnd_eq_some h
      injection h1 with h1; subst h1
      injection h with h; injection h with h3 h4; subst h3; subst h4
      have hu : u = .slice none 0 0 := hp0
      subst hu
      exact triv _ (.nil none []) x h2
    | _ => simp only [packRow, packV] at h; obtain ⟨_, h1, _⟩ := bnd_eq_some h; cases h1
theorem packRows_sound {k : Nat} : ∀ {vs : List V} {us : List (List Value)} {s s' : S} {rows : List (List D)} {E : List Pc}, At (c.with E) s y a w → us.length = vs.length → (∀ (i : Nat) (v : V) (u : List Value), vs[i]? = some v → us[i]? = some u → v.cells.length = k ∧ u.length = k ∧ ∀ (j : Nat) (v' : V) (u' : Value), v.cells[j]? = some v' → u[j]? = some u' → PV y v' u') → packRows s vs = some (rows, s') →
    ∃ E', At (c.with (E' ++ E)) s' y a w ∧ E'.Perm (pcs rows.flatten us.flatten) ∧ rows.length = vs.length ∧ ∀ r ∈ rows, r.length = k
  | [], us, s, s', rows, E, A, hl, _, h => by
    simp only [packRows] at h; injection h with h; injection h with h1 h2; subst h1; subst h2
    obtain rfl : us = [] := List.eq_nil_of_length_eq_zero hl
    exact ⟨[], A, List.Perm.refl _, rfl, fun r hr => by cases hr⟩
  | v :: r, [], s, s', ds, E, A, hl, _, h => by simp at hl
  | v :: r, u :: us, s, s', rows, E, A, hl, hp, h => by
    obtain ⟨k1, k2, k3⟩ := hp 0 v u rfl rfl
    simp only [packRows] at h
    obtain ⟨x, h1, h⟩ := bnd_eq_some h
    obtain ⟨z, h2, h⟩ := bnd_eq_some h
    injection h with h; injection h with h3 h4; subst h3; subst h4
    obtain ⟨E1, a1, a2, a3⟩ := packRow_sound (s' := x.2) (ds := x.1) A (by rw [k1, k2]) k3 h1
    obtain ⟨E2, b1, b2, b3, b4⟩ := packRows_sound (s' := z.2) (rows := z.1) a1 (by simpa using hl) (fun i v' u' e1 e2 => hp (i + 1) v' u' (by simpa using e1) (by simpa using e2)) h2
    refine ⟨E2 ++ E1, by rw [List.append_assoc]; exact b1, ?_, by rw [List.length_cons, List.length_cons, b3], fun r' hr => ?_⟩
    · rw [List.flatten_cons, List.flatten_cons, pcs_app (by rw [a3, k1, k2])]
      exact List.perm_append_comm.trans (List.Perm.append a2 b2)
    · rcases List.mem_cons.1 hr with rfl | hr
      · rw [a3, k1]
      · exact b4 r' hr
theorem upto_zip {α : Type} {n : Nat} : ∀ {k : Nat} {ps : List (Nat × α)}, upto k n (ps.map (·.1)) = true → ps = ((ps.map (·.2)).zipIdx k).map (fun x => (x.2, x.1)) ∧ k + ps.length = n
  | k, [], h => by simp [upto] at h; exact ⟨rfl, by simpa using h⟩
  | k, (j, x) :: ps, h => by
    simp only [List.map_cons, upto, Bool.and_eq_true, decide_eq_true_eq] at h
    obtain ⟨rfl, h⟩ := h
    obtain ⟨h1, h2⟩ := upto_zip h
    refine ⟨?_, by rw [List.length_cons]; omega⟩
    rw [List.map_cons, List.zipIdx_cons, List.map_cons, ← h1]
theorem evPairs (A : At c s y a w) : ∀ {ps : List (Nat × Operand)} {vs : List (Nat × V)}, mapSome (evPair s) ps = some vs → vs.length = ps.length ∧ vs.map (·.1) = ps.map (·.1) ∧ ∀ (i : Nat) (v : V) (x : Nat × Operand), (vs.map (·.2))[i]? = some v → ps[i]? = some x → RV (relOf c s y) v (a.eval x.2)
  | [], vs, h => by simp only [mapSome] at h; injection h with h; subst h; exact ⟨rfl, rfl, fun i v x e => by simp at e⟩
  | x :: ps, vs, h => by
    simp only [mapSome] at h
    obtain ⟨v, h1, h⟩ := bnd_eq_some h
    obtain ⟨vs', h2, h⟩ := bnd_eq_some h
    injection h with h; subst h
    obtain ⟨k1, k2, k3⟩ := evPairs A h2
    unfold evPair at h1
    obtain ⟨v', h3, h1⟩ := bnd_eq_some h1
    injection h1 with h1; subst h1
    refine ⟨by rw [List.length_cons, List.length_cons, k1], by rw [List.map_cons, List.map_cons, k2], fun i v2 x2 e1 e2 => ?_⟩
    cases i with
    | zero => simp at e1 e2; subst e1; subst e2; exact A.ev h3
    | succ i => exact k3 i v2 x2 (by simpa using e1) (by simpa using e2)
theorem zeroOk_some {e : TypeId} (h : zeroOk P e = true) : ∃ i z, P.info? e = some i ∧ i.zero = some z ∧ z.cells.size = i.size ∧ 0 < i.size ∧ P.cellsOf e = i.size := by
  unfold zeroOk at h
  split at h
  · rename_i i hi
    split at h
    · rename_i z hz
      simp only [Bool.and_eq_true, decide_eq_true_eq] at h
      exact ⟨i, z, hi, hz, h.1, h.2, by unfold Program.cellsOf; rw [hi]; rfl⟩
    · cases h
  · cases h
theorem newTree_sound {E : List Pc} {dst : Option Nat} {s' : S} {rows : List (List D)} {u : Value} {w' : World} (A : At (c.with E) s y a w) (hd' : dstOk c.n dst = true) (h : s.newTree dst rows = some s') (S0 : St c.W w' (ownP u rows :: (Pcs s y ++ c.L))) : ∃ y', At c s' y' (a.put dst u) w' := by
  unfold S.newTree at h
  obtain ⟨t, ht, h⟩ := bnd_eq_some h
  obtain ⟨hf, h⟩ := grd_eq_some h
  injection h with h; subst h; subst ht
  have A0 : At c s y a w := A.pop
  obtain ⟨hh, rfl, S1⟩ := S0.tree
  refine ⟨_, A0.newTree hf hd' ?_⟩
  unfold Pcs at S1
  rw [List.append_assoc, List.append_assoc] at S1
  exact S1
theorem step_buildSlice {o : Oper} {t e : TypeId} {n : Nat} {ps : Array (Nat × Operand)} (ho : o.op = .buildSlice t n ps) (hd' : dstOk c.n o.dst = true) {vs : List (Nat × V)} {rows : List (List D)} {s1 s' : S} (hu : P.underlying t = some (.slice e)) (hvs : mapSome (evPair s) ps.toList = some vs)
    (hz : zeroOk P e = true) (hn : n * P.cellsOf e ≤ 16777216) (hup : upto 0 n (vs.map (·.1)) = true) (hc : ∀ v ∈ vs, v.2.cells.length = P.cellsOf e ∧ v.2.cells.all V.one = true) (hp : packRows s (vs.map (·.2)) = some (rows, s1)) (h : s1.newTree o.dst rows = some s') : Step P c o s s' := by
  intro a w G next Q kk
  obtain ⟨y, A⟩ := G
  obtain ⟨i, z, z1, z2, z3, z4, z5⟩ := zeroOk_some hz
  obtain ⟨q1, q2, q3⟩ := evPairs A hvs
  obtain ⟨u1, u2⟩ := upto_zip hup
  have hcells : ∀ (j : Nat) (v : V) (x : Nat × Operand), (vs.map (·.2))[j]? = some v → ps.toList[j]? = some x → v.cells.length = P.cellsOf e ∧ RVs (relOf c s y) v.cells (a.eval x.2).cells.toList := by
    intro j v x e1 e2
    rw [List.getElem?_map] at e1
    obtain ⟨v0, e3, rfl⟩ := Option.map_eq_some_iff.1 e1
    have hm := hc v0 (List.mem_of_getElem? e3)
    exact ⟨hm.1, (A.cells (q3 j v0.2 x (by rw [List.getElem?_map, e3]; rfl) e2) hm.2).1⟩
  have A0 : At (c.with []) s y a w := A
  obtain ⟨E, a1, a2, a3, a4⟩ := packRows_sound (k := P.cellsOf e) (vs := vs.map (·.2)) (us := ps.toList.map fun x => (a.eval x.2).cells.toList) A0 (by rw [List.length_map, List.length_map, q1]) (fun j v us' e1 e2 => by
    rw [List.getElem?_map] at e2
    obtain ⟨x, e3, rfl⟩ := Option.map_eq_some_iff.1 e2
    obtain ⟨m1, m2⟩ := hcells j v x e1 e3
    refine ⟨m1, by rw [m2.len, m1], fun j' v' u' f1 f2 => ?_⟩
    obtain ⟨u2, f3, f4⟩ := m2.get f1
    rw [f2] at f3; injection f3 with f3; subst f3
    exact PV.of f4) hp
  rw [List.append_nil] at a1
  have hlen : rows.length = n := by rw [a3, List.length_map]; omega
  have hflat : ∀ r ∈ (ps.toList.map fun x => (a.eval x.2).cells.toList), r.length = P.cellsOf e := by
    intro r hr
    obtain ⟨x, hx, rfl⟩ := List.mem_map.1 hr
    obtain ⟨j, e3⟩ := List.getElem?_of_mem hx
    have hj : j < (vs.map (·.2)).length := by rw [List.length_map, q1]; exact (List.getElem?_eq_some_iff.1 e3).1
    obtain ⟨m1, m2⟩ := hcells j _ x (List.getElem?_eq_getElem hj) e3
    rw [m2.len, m1]
  have hpn : ps.toList.length = n := by rw [← q1]; omega
  have hfl1 := flat_len rows a4
  have hfl2 := flat_len _ hflat
  rw [List.length_map, hpn] at hfl2
  have fin : ∀ cells : Array Value, cells.toList = (ps.toList.map fun x => (a.eval x.2).cells.toList).flatten → (Instr.buildSlice t n (ps.map fun (i, x) => (i, a.eval x))).run P w = .ok (.slice (some ⟨w.heap.size, 0, none⟩) n n) (w.alloc (.cells cells e)) → o.wp P a w next Q := by
    intro cells hcl hrun
    have hcs : cells.size = n * P.cellsOf e := by rw [← Array.length_toList, hcl, hfl2]
    have S := (a1.front).alloc cells e
    have S2 : St c.W (w.alloc (.cells cells e)) (rowP w.heap.size e cells :: (pcs rows.flatten (ps.toList.map fun x => (a.eval x.2).cells.toList).flatten ++ (Pcs s1 y ++ c.L))) := S.perm (List.Perm.cons _ (List.Perm.append_right _ a2))
    have S3 := S2.join (ob := 0) (cc := n) (k := P.cellsOf e) (by rw [hfl1, hfl2, hlen]) (by omega) (by unfold maxLen; have := Nat.le_mul_of_pos_right n (show 0 < P.cellsOf e by rw [z5]; exact z4); omega) (by rw [z5]; exact z4) a4 (by rw [Nat.zero_add]; exact hcs) (fun e0 => by rw [e0] at hlen; simpa using hlen.symm) (by rw [List.drop_zero, hcl, hlen, List.take_of_length_le (by rw [hfl2]; exact Nat.le_refl _)])
    rw [hlen] at S3
    obtain ⟨y', A'⟩ := newTree_sound a1 hd' h S3
    refine op_value (u := .slice (some ⟨w.heap.size, 0, none⟩) n n) (w' := w.alloc (.cells cells e)) ?_ (kk _ _ ⟨y', A'⟩)
    unfold execOp; simp only [ho, Sem.run_bind, hrun]; rfl
  by_cases h0 : n = 0
  · subst h0
    have hpe : ps.toList = [] := List.eq_nil_of_length_eq_zero hpn
    refine fin #[] (by rw [hpe]; rfl) ?_
    have hps : ps = #[] := by apply Array.ext'; rw [hpe]
    subst hps
    simp [Instr.buildSlice, run_underlying hu, sizeOf, typeInfo, z1, Instr.fill, newRow]
    congr 2
    apply Array.eq_empty_of_size_eq_zero
    simp
  · have hus : (ps.map fun (i, x) => (i, a.eval x)).toList = (((ps.toList.map fun x => a.eval x.2)).zipIdx 0).map fun x => (x.2, x.1) := by
      have := (upto_zip (ps := ps.toList.map fun x => (x.1, a.eval x.2)) (k := 0) (n := n) (by rw [List.map_map]; rw [q2] at hup; exact hup)).1
      rw [Array.toList_map]
      rw [List.map_map] at this
      exact this
    obtain ⟨r, f1, f2, f3⟩ := Great.fill_dense (s := i.size) z4 (ps.toList.map fun x => a.eval x.2) 0 ((Array.range (n * i.size)).map (z.cells[· % z.cells.size]!)) (fun v hv => by
      obtain ⟨x, hx, rfl⟩ := List.mem_map.1 hv
      rw [← Array.length_toList, hflat _ (List.mem_map.2 ⟨x, hx, rfl⟩), z5]) (by simp [hpn])
    rw [← hus] at f1
    have hrs : r.size = n * i.size := by rw [f2]; simp
    have hrun := run_buildSlice (P := P) w t e n (ps.map fun (i, x) => (i, a.eval x)) r i z hu z1 z2 (by rw [← z5]; omega) (by have := Nat.mul_pos (Nat.pos_of_ne_zero h0) z4; omega) f1
    refine fin r ?_ hrun
    apply List.ext_getElem?
    intro m
    rw [Array.getElem?_toList]
    by_cases hm : m < n * i.size
    · rw [f3 m, if_pos ⟨by omega, by simpa [hpn] using hm⟩]
      have hdm := Nat.div_add_mod m i.size
      rw [Nat.mul_comm] at hdm
      have hd : m / i.size < n := Nat.div_lt_of_lt_mul (by rw [Nat.mul_comm]; exact hm)
      have hmod := Nat.mod_lt m z4
      rw [Nat.sub_zero, List.getElem?_map]
      have hps : m / i.size < ps.toList.length := by rw [hpn]; exact hd
      rw [List.getElem?_eq_getElem hps, Option.map_some, Option.bind_some]
      have hrow := hflat _ (List.mem_map.2 ⟨_, List.getElem_mem hps, rfl⟩)
      rw [z5] at hrow
      have hin : m % i.size < (a.eval (ps.toList[m / i.size]).2).cells.toList.length := by rw [hrow]; exact hmod
      have := flat_get (k := i.size) (ps.toList.map fun x => (a.eval x.2).cells.toList) (m / i.size) (m % i.size) _ _ (fun r hr => by rw [hflat r hr, z5]) (by rw [List.getElem?_map, List.getElem?_eq_getElem hps]; rfl) (List.getElem?_eq_getElem hin)
      rw [hdm] at this
      rw [this, ← Array.getElem?_toList, List.getElem?_eq_getElem hin]
    · rw [Array.getElem?_eq_none (by omega), List.getElem?_eq_none (by rw [hfl2, z5]; omega)]
end
end Go.Proofs.YtjhdikdopdcfcaaGreatDoor

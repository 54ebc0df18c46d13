/-
  Soundness of the evaluator, twelfth part: one operation after the other; code.
-/
import Derived.Test.YtacnbajcignacaaGreatSnd11
import Derived.LoopN
namespace Go.Proofs.YtacnbajcignacaaGreat
open Go.RowKit
set_option linter.unusedSimpArgs false
set_option linter.unusedVariables false

/-- what is left to show of calls -/
def CallOk (P : Program) (G : List (FuncId × Bool × Mean)) : Prop := ∀ (c : Ctx) (s s' : S) (o : Oper) (cl : Call) (g : Operand) (args : List V) (f : FuncId × List V) (M : Bool × Mean), o.op = .call cl → cl.callee = .value g → mapSome s.ev cl.args.toList = some args → s.ev g = some (.fn f.1 f.2) → look f.1 G = some M → callV M.1 M.2 s o.dst (args ++ f.2) = some s' → dstOk c.n o.dst = true → Step P c o s s'
section
variable {P : Program} {c : Ctx} {s s' : S} {y : Lay} {a : Act} {w : World} {G : List (FuncId × Bool × Mean)}
theorem evPairs_all {vs : List (Nat × V)} {q : Nat × V → Bool} (h : vs.all q = true) : ∀ v ∈ vs, q v = true := List.all_eq_true.1 h
/-- an operation -/
theorem step_op (hC : CallOk P G) {o : Oper} (hd' : dstOk c.n o.dst = true) (h : evOp P G s o.dst o.op = some s') : Step P c o s s' := by
  generalize ho : o.op = q at h
  cases q <;> simp only [evOp] at h <;> try (cases h; done)
  case alloc t =>
    obtain ⟨cs, h1, h⟩ := bnd_eq_some h
    exact step_alloc ho hd' h1 h
  case box t x =>
    obtain ⟨v, h1, h⟩ := bnd_eq_some h
    obtain ⟨h2, h⟩ := grd_eq_some h
    exact step_box ho hd' h1 h2.2 h
  case build t ps =>
    obtain ⟨d, h1, h⟩ := bnd_eq_some h
    obtain ⟨fs, h2, h⟩ := bnd_eq_some h
    obtain ⟨h3, h⟩ := grd_eq_some h
    obtain ⟨z, h4, h⟩ := bnd_eq_some h
    obtain ⟨vs, h5, h⟩ := bnd_eq_some h
    obtain ⟨cs, h6, h⟩ := bnd_eq_some h
    injection h with h; subst h
    have : d = .struct fs := by unfold structD at h2; split at h2 <;> first | (injection h2 with h2; subst h2; rfl) | cases h2
    subst this
    exact step_build ho hd' h1 h3 h4 h5 h6
  case buildSlice t n ps =>
    obtain ⟨d, h1, h⟩ := bnd_eq_some h
    obtain ⟨e, h2, h⟩ := bnd_eq_some h
    obtain ⟨vs, h3, h⟩ := bnd_eq_some h
    obtain ⟨h4, h⟩ := grd_eq_some h
    obtain ⟨x, h5, h⟩ := bnd_eq_some h
    have : d = .slice e := by unfold sliceElem at h2; split at h2 <;> first | (injection h2 with h2; subst h2; rfl) | cases h2
    rw [this] at h1
    simp only [Bool.and_eq_true, decide_eq_true_eq] at h4
    obtain ⟨⟨⟨k1, k2⟩, k3⟩, k4⟩ := h4
    refine step_buildSlice ho hd' h1 h3 k1 k2 k3 (fun v hv => ?_) (rows := x.1) (s1 := x.2) h5 h
    have := List.all_eq_true.1 k4 v hv
    simp only [Bool.and_eq_true, decide_eq_true_eq] at this
    exact this
  case load t x =>
    obtain ⟨v, h1, h⟩ := bnd_eq_some h
    obtain ⟨u, h2, h⟩ := bnd_eq_some h
    injection h with h; subst h
    exact step_load ho hd' h1 h2
  case store t x z =>
    obtain ⟨p, h1, h⟩ := bnd_eq_some h
    obtain ⟨v, h2, h⟩ := bnd_eq_some h
    obtain ⟨s1, h3, h⟩ := bnd_eq_some h
    injection h with h; subst h
    unfold S.store at h3
    obtain ⟨⟨k1, k2⟩, h3⟩ := grd_eq_some h3
    split at h3
    · obtain ⟨cs, h4, h3⟩ := bnd_eq_some h3
      obtain ⟨⟨k3, k4⟩, h3⟩ := grd_eq_some h3
      injection h3 with h3; subst h3
      exact step_storeBox ho h1 h2 k2 k1 k4 h4 k3
    · obtain ⟨rows, h4, h3⟩ := bnd_eq_some h3
      obtain ⟨d, h5, h3⟩ := bnd_eq_some h3
      obtain ⟨r, h6, h3⟩ := bnd_eq_some h3
      obtain ⟨d0, h7, h3⟩ := bnd_eq_some h3
      obtain ⟨⟨k3, k4, k5⟩, h3⟩ := grd_eq_some h3
      injection h3 with h3; subst h3
      exact step_storeOwn ho h1 h2 k2 k1 h4 h5 h6 h7 k3 k4 k5
    · cases h3
  case nilCheck x =>
    obtain ⟨v, h1, h⟩ := bnd_eq_some h
    obtain ⟨u, h2, h⟩ := bnd_eq_some h
    injection h with h; subst h
    exact step_nilCheck ho hd' h1 h2
  case binOp op t x z t' =>
    obtain ⟨v, h1, h⟩ := bnd_eq_some h
    obtain ⟨u, h2, h⟩ := bnd_eq_some h
    obtain ⟨r, h3, h⟩ := bnd_eq_some h
    injection h with h; subst h
    exact step_bin ho hd' h1 h2 h3
  case unOp op t x =>
    obtain ⟨v, h1, h⟩ := bnd_eq_some h
    obtain ⟨r, h3, h⟩ := bnd_eq_some h
    injection h with h; subst h
    exact step_un ho hd' h1 h3
  case convert t0 t x =>
    obtain ⟨v, h1, h⟩ := bnd_eq_some h
    obtain ⟨d0, h2, h⟩ := bnd_eq_some h
    obtain ⟨d, h3, h⟩ := bnd_eq_some h
    obtain ⟨r, h4, h⟩ := bnd_eq_some h
    injection h with h; subst h
    exact step_convert ho hd' h1 h2 h3 h4
  case slice t x lo hi mx =>
    cases mx with
    | some m => cases h
    | none =>
    simp only [evOp] at h
    obtain ⟨v, h1, h⟩ := bnd_eq_some h
    obtain ⟨l, h2, h⟩ := bnd_eq_some h
    obtain ⟨hh, h3, h⟩ := bnd_eq_some h
    obtain ⟨d, h4, h⟩ := bnd_eq_some h
    obtain ⟨r, h5, h⟩ := bnd_eq_some h
    injection h with h; subst h
    exact step_slice ho hd' h1 h2 h3 h4 h5
  case fieldAddr t x f =>
    obtain ⟨v, h1, h⟩ := bnd_eq_some h
    obtain ⟨q, h2, h⟩ := bnd_eq_some h
    obtain ⟨r, h3, h⟩ := bnd_eq_some h
    injection h with h; subst h
    exact step_fieldAddr ho hd' h1 h2 h3
  case field t x f =>
    obtain ⟨v, h1, h⟩ := bnd_eq_some h
    obtain ⟨cs, h2, h⟩ := bnd_eq_some h
    obtain ⟨q, h3, h⟩ := bnd_eq_some h
    obtain ⟨g, h4, h⟩ := bnd_eq_some h
    obtain ⟨r, h5, h⟩ := bnd_eq_some h
    injection h with h; subst h
    have : v = .agg cs := by unfold aggOf at h2; split at h2 <;> first | (injection h2 with h2; subst h2; rfl) | cases h2
    subst this
    exact step_field ho hd' h1 h3 h4 h5
  case indexAddr t x i =>
    obtain ⟨v, h1, h⟩ := bnd_eq_some h
    obtain ⟨vi, h2, h⟩ := bnd_eq_some h
    obtain ⟨n, h3, h⟩ := bnd_eq_some h
    obtain ⟨e, h4, h⟩ := bnd_eq_some h
    obtain ⟨r, h5, h⟩ := bnd_eq_some h
    injection h with h; subst h
    exact step_indexAddr ho hd' h1 h2 h3 h4 h5
  case index t x i =>
    obtain ⟨v, h1, h⟩ := bnd_eq_some h
    obtain ⟨vi, h2, h⟩ := bnd_eq_some h
    obtain ⟨n, h3, h⟩ := bnd_eq_some h
    obtain ⟨r, h5, h⟩ := bnd_eq_some h
    injection h with h; subst h
    exact step_index ho hd' h1 h2 h3 h5
  case extract x i =>
    obtain ⟨v, h1, h⟩ := bnd_eq_some h
    obtain ⟨r, h5, h⟩ := bnd_eq_some h
    injection h with h; subst h
    exact step_extract ho hd' h1 h5
  case move x =>
    obtain ⟨v, h1, h⟩ := bnd_eq_some h
    injection h with h; subst h
    exact step_move ho hd' h1
  case assign x =>
    obtain ⟨v, h1, h⟩ := bnd_eq_some h
    injection h with h; subst h
    exact step_assign ho hd' h1
  case pick x y z =>
    obtain ⟨v, h1, h⟩ := bnd_eq_some h
    obtain ⟨b, h2, h⟩ := bnd_eq_some h
    obtain ⟨r, h5, h⟩ := bnd_eq_some h
    injection h with h; subst h
    rw [boolOf_some h2] at h1
    exact step_pick ho hd' h1 h5
  case call cl =>
    obtain ⟨args, h1, h⟩ := bnd_eq_some h
    unfold evCall at h
    split at h
    · rename_i b hb
      exact step_builtin ho hb hd' h1 h
    · rename_i g hg
      obtain ⟨v, h2, h⟩ := bnd_eq_some h
      obtain ⟨f, h3, h⟩ := bnd_eq_some h
      obtain ⟨M, h4, h⟩ := bnd_eq_some h
      have : v = .fn f.1 f.2 := by unfold fnOf at h3; split at h3 <;> first | (injection h3 with h3; subst h3; rfl) | cases h3
      rw [this] at h2
      exact hC c s s' o cl g args f M ho hg h1 h2 h4 h hd'
    · cases h
theorem wants_sound (A : At c s y a w) {ops : Array Oper} {o : Oper} {g : Bool} (h : s.wants ops o.guard = some g) : Region.wanted o (yielded ops a.tmps) = g := by
  unfold Region.wanted
  cases e : o.guard with
  | none => rw [e] at h; simp only [S.wants] at h; injection h
  | some jw =>
    obtain ⟨j, want⟩ := jw
    rw [e] at h
    simp only [S.wants] at h
    simp only
    cases hd : (ops[j]?).bind (·.dst) with
    | none =>
      rw [hd] at h; simp only [wantsAt] at h; injection h with h; subst h
      unfold yielded
      rw [hd]; cases want <;> rfl
    | some d =>
      rw [hd] at h; simp only [wantsAt] at h
      have hy : ∀ v u, look d s.env = some v → RV (relOf c s y) v u → (a.tmps.getD d undef) = u → True := fun _ _ _ _ _ => trivial
      unfold yielded
      rw [hd]
      simp only [Option.bind_some]
      cases hl : look d s.env with
      | none => rw [hl] at h; simp only [wantsV] at h; cases h
      | some v =>
        have hv := A.env d v hl
        rw [hl] at h
        unfold wantsV at h
        split at h
        · rename_i b e2
          injection e2 with e2; subst e2
          injection h with h; subst h
          have e3 : a.tmps.getD d undef = .bool b := hv
          cases e4 : a.tmps[d]? with
          | none => rw [Array.getD_eq_getD_getElem?, e4] at e3; cases e3
          | some u => rw [Array.getD_eq_getD_getElem?, e4] at e3; have e3 : u = .bool b := e3; subst e3; simp
        · rename_i e2
          injection e2 with e2; subst e2
          injection h with h; subst h
          obtain ⟨us, e5, e6⟩ := hv
          have e6 : us = [] := e6
          subst e6
          cases e4 : a.tmps[d]? with
          | none => cases want <;> rfl
          | some u => rw [Array.getD_eq_getD_getElem?, e4] at e5; have e5 : u = .tuple #[] := e5; subst e5; cases want <;> rfl
        · cases h
/-- the operations of a region, in the order of the text -/
theorem ops_sound (hC : CallOk P G) {ops : Array Oper} {Q : Exit → Act → World → Prop} : ∀ {l : List Oper} {s : S} {q : S} {a : Act} {w : World}, (∀ o ∈ l, dstOk c.n o.dst = true) → evOps P G ops l (.on s) = some (.on q) → Good c s a w → (∀ a w, Good c q a w → Q .normal a w) → wpList P ops Q l a w
  | [], s, q, a, w, _, h, g, k => by
    simp only [evOps] at h; injection h with h; injection h with h; subst h
    exact k a w g
  | o :: l, s, q, a, w, hd, h, g, k => by
    rw [evOps_cons] at h
    obtain ⟨gd, h1, h⟩ := bnd_eq_some h
    obtain ⟨y, A⟩ := g
    have hw := wants_sound A h1
    unfold wpList
    rw [hw]
    cases gd with
    | true =>
      rw [if_pos rfl] at h ⊢
      obtain ⟨q1, h2, h⟩ := bnd_eq_some h
      cases e : evOp P G s o.dst o.op with
      | none => rw [e] at h2; cases h2
      | some s1 =>
        rw [e, onQ_some] at h2; injection h2 with h2; subst h2
        exact .inl (step_op hC (hd o (by simp)) e a w ⟨y, A⟩ _ _ fun a' w' g' => ops_sound hC (fun o ho => hd o (by simp [ho])) h g' k)
    | false =>
      rw [if_neg (by simp)] at h ⊢
      obtain ⟨q1, h2, h⟩ := bnd_eq_some h
      rw [onQ_some] at h2; injection h2 with h2; subst h2
      exact ops_sound hC (fun o ho => hd o (by simp [ho])) h ⟨y, A.value (v := .tup []) ⟨[], rfl, rfl⟩ (hd o (by simp))⟩ k
end
end Go.Proofs.YtacnbajcignacaaGreat

/-
  Soundness of the evaluator, thirteenth part: code.
-/
import Derived.Test.YtacnbajcignacaaGreatDrw5
import Derived.Scope
namespace Go.Proofs.YtacnbajcignacaaGreat
open Go.RowKit
set_option linter.unusedSimpArgs false
set_option linter.unusedVariables false

def codeOk (gh : Ghost) (n : Nat) : Code → Bool
  | .region id ops d => ops.toList.all (fun o => dstOk n o.dst) && (!d || drawOk ops (gh.bars id))
  | .seq x y => codeOk gh n x && codeOk gh n y
  | .cond _ x y => codeOk gh n x && codeOk gh n y
  | .block _ x => codeOk gh n x
  | .loop x => codeOk gh n x
  | .scope x => codeOk gh n x
  | .skip => true
  | .label _ => true
  | .exit _ => true
  | .ret => true
  | _ => false
def GoodQ (c : Ctx) : Q → Act → World → Prop
  | .on s => Good c s
  | .off => fun _ _ => False
def exOf : Ex → Exit
  | .normal => .normal
  | .exit i => .exit i
  | .ret => .ret
/-- what is left to show of the marks of a run -/
structure MarksOk (gh : Ghost) : Prop where
  head : ∀ (c : Ctx) (id : Nat) (s s' : S), gh.head id s = some s' → ∀ a w, Good c s a w → Good c s' a w
  reg : ∀ (c : Ctx) (id : Nat) (s s' : S), gh.reg id s = some s' → ∀ a w, Good c s a w → Good c s' a w
section
variable {P : Program} {c : Ctx} {G : List (FuncId × Bool × Mean)} {gh : Ghost}
theorem evOps_on {ops : Array Oper} : ∀ (l : List Oper) (s : S), evOps P G ops l (.on s) ≠ some .off := by
  intro l; induction l with
  | nil => intro s h; simp only [evOps] at h; injection h with h; cases h
  | cons o l ih =>
    intro s h
    rw [evOps_cons] at h
    obtain ⟨gd, _, h⟩ := bnd_eq_some h
    split at h
    · obtain ⟨q, h4, h⟩ := bnd_eq_some h
      cases e : evOp P G s o.dst o.op with
      | none => rw [e] at h4; cases h4
      | some s1 => rw [e, onQ_some] at h4; injection h4 with h4; subst h4; exact ih _ h
    · obtain ⟨q, h4, h⟩ := bnd_eq_some h
      rw [onQ_some] at h4; injection h4 with h4; subst h4; exact ih _ h
theorem evDrw_on {ops : Array Oper} {bar : List Nat} : ∀ (l : List Oper) (i : Nat) (s : S), evDrw P G ops bar l i (.on s) ≠ some .off := by
  intro l; induction l with
  | nil => intro i s h; rw [evDrw_nil] at h; injection h with h; cases h
  | cons o l ih =>
    intro i s h
    rw [evDrw_cons] at h
    obtain ⟨gd, _, h⟩ := bnd_eq_some h
    split at h
    · obtain ⟨q, h4, h⟩ := bnd_eq_some h
      cases e : drwOp P G (bar.contains i) s o.dst o.op with
      | none => rw [e] at h4; cases h4
      | some s1 => rw [e, onQ_some] at h4; injection h4 with h4; subst h4; exact ih _ _ h
    · obtain ⟨q, h4, h⟩ := bnd_eq_some h
      rw [onQ_some] at h4; injection h4 with h4; subst h4; exact ih _ _ h
theorem headV_sound (hM : MarksOk gh) {id : Nat} {q q' : Q} (h : headV gh id q = some q') {a : Act} {w : World} (g : GoodQ c q a w) : GoodQ c q' a w := by
  cases q with
  | off => cases g
  | on s =>
    simp only [headV] at h
    cases e : gh.head id s with
    | none => rw [e] at h; cases h
    | some s1 => rw [e, onQ_some] at h; injection h with h; subst h; exact hM.head c id s s1 e a w g
theorem loop_sound {x : Code} {f : Q → Option (Ex × Q)} {id : Nat} {Q1 : Exit → Act → World → Prop} {r : Ex × Q} (hM : MarksOk gh) (hf : ∀ q, f q = seqV (evC P G gh x q) fun q => bnd (headV gh id q) fun q => some (.normal, q))
    (hx : ∀ (q : Q) (r : Ex × Q) (a : Act) (w : World) (Q2 : Exit → Act → World → Prop), evC P G gh x q = some r → GoodQ c q a w → (∀ a w, GoodQ c r.2 a w → Q2 (exOf r.1) a w) → x.wp P Q2 a w)
    (hk : ∀ a w, GoodQ c r.2 a w → Q1 (exOf r.1) a w) : ∀ (n : Nat) (q : Q) (a : Act) (w : World), rounds f n q = some r → GoodQ c q a w → Code.rounds P x Q1 n a w
  | 0, q, a, w, h, _ => by cases h
  | n + 1, q, a, w, h, g => by
    rw [rounds, hf] at h
    cases e : evC P G gh x q with
    | none => rw [e, seqV_none] at h; cases h
    | some r1 =>
      rw [e] at h
      obtain ⟨ex, q1⟩ := r1
      rw [rounds_succ]
      refine hx q (ex, q1) a w _ e g fun a' w' g' => ?_
      cases ex with
      | normal =>
        rw [seqV_normal] at h
        cases e2 : headV gh id q1 with
        | none => rw [e2, bnd_none] at h; cases h
        | some q2 =>
          rw [e2, bnd_some] at h
          exact loop_sound hM hf hx hk n q2 a' w' h (headV_sound hM e2 g')
      | exit i => rw [seqV_exit] at h; injection h with h; subst h; exact hk a' w' g'
      | ret => rw [seqV_ret] at h; injection h with h; subst h; exact hk a' w' g'
theorem code_sound (hC : CallOk P G) (hM : MarksOk gh) (hm : P.follows .mixedOrders = true) : ∀ (x : Code) (q : Q) (r : Ex × Q) (a : Act) (w : World) (Q1 : Exit → Act → World → Prop), codeOk gh c.n x = true → evC P G gh x q = some r → GoodQ c q a w → (∀ a w, GoodQ c r.2 a w → Q1 (exOf r.1) a w) → x.wp P Q1 a w
  | x, .off, r, a, w, Q1, _, h, g, k => g.elim
  | .skip, .on s, r, a, w, Q1, _, h, g, k => by
    rw [evC_skip] at h; injection h with h; subst h
    exact wp_skip (k a w g)
  | .label l, .on s, r, a, w, Q1, _, h, g, k => by
    rw [evC_label] at h; injection h with h; subst h
    exact wp_label (k a w g)
  | .exit i, .on s, r, a, w, Q1, _, h, g, k => by
    rw [evC_exit] at h; injection h with h; subst h
    exact wp_exit (k a w g)
  | .ret, .on s, r, a, w, Q1, _, h, g, k => by
    rw [evC_ret] at h; injection h with h; subst h
    exact wp_ret (k a w g)
  | .region id ops d, .on s, r, a, w, Q1, ho, h, g, k => by
    unfold codeOk at ho
    rw [Bool.and_eq_true] at ho
    obtain ⟨h1, ho⟩ := ho
    rw [evC_region] at h
    obtain ⟨q1, h2, h⟩ := bnd_eq_some h
    obtain ⟨q2, h3, h⟩ := bnd_eq_some h
    injection h with h; subst h
    cases e : gh.reg id s with
    | none => rw [e] at h2; cases h2
    | some s1 =>
      rw [e, onQ_some] at h2; injection h2 with h2; subst h2
      have h1 := List.all_eq_true.1 h1
      have g1 := hM.reg c id s s1 e a w g
      cases d with
      | false =>
        rw [regV_text] at h3
        cases q2 with
        | off => exact absurd h3 (evOps_on _ _)
        | on s2 => exact wp_region_list (ops_sound hC h1 h3 g1 k)
      | true =>
        rw [regV_any] at h3
        rw [Bool.not_true, Bool.false_or] at ho
        cases q2 with
        | off => exact absurd h3 (evDrw_on _ _ _)
        | on s2 => exact drw_sound hC hm ho h1 h3 g1 k
  | .seq x y, .on s, r, a, w, Q1, ho, h, g, k => by
    unfold codeOk at ho
    simp only [Bool.and_eq_true] at ho
    rw [evC_seq] at h
    cases e : evC P G gh x (.on s) with
    | none => rw [e, seqV_none] at h; cases h
    | some r1 =>
      rw [e] at h
      obtain ⟨ex, q1⟩ := r1
      refine wp_seq (code_sound hC hM hm x (.on s) (ex, q1) a w _ ho.1 e g fun a' w' g' => ?_)
      cases ex with
      | normal => rw [seqV_normal] at h; exact code_sound hC hM hm y q1 r a' w' Q1 ho.2 h g' k
      | exit i => rw [seqV_exit] at h; injection h with h; subst h; exact k a' w' g'
      | ret => rw [seqV_ret] at h; injection h with h; subst h; exact k a' w' g'
  | .cond cd x y, .on s, r, a, w, Q1, ho, h, g, k => by
    unfold codeOk at ho
    simp only [Bool.and_eq_true] at ho
    rw [evC_cond] at h
    obtain ⟨v, h1, h⟩ := bnd_eq_some h
    obtain ⟨b, h2, h⟩ := bnd_eq_some h
    rw [boolOf_some h2] at h1
    obtain ⟨y', A⟩ := g
    have hc : a.eval cd = .bool b := A.ev h1
    refine wp_cond hc ?_
    cases b with
    | true => exact code_sound hC hM hm x (.on s) r a w Q1 ho.1 h ⟨y', A⟩ k
    | false => exact code_sound hC hM hm y (.on s) r a w Q1 ho.2 h ⟨y', A⟩ k
  | .block id x, .on s, r, a, w, Q1, ho, h, g, k => by
    unfold codeOk at ho
    rw [evC_block] at h
    obtain ⟨r1, h1, h⟩ := bnd_eq_some h
    obtain ⟨ex, q1⟩ := r1
    refine wp_block (code_sound hC hM hm x (.on s) (ex, q1) a w _ ho h1 g fun a' w' g' => ?_)
    cases ex with
    | normal => simp only [blockV] at h; injection h with h; subst h; exact k a' w' g'
    | ret => simp only [blockV] at h; injection h with h; subst h; exact k a' w' g'
    | exit j =>
      simp only [blockV] at h
      by_cases hj : j = id
      · rw [if_pos hj] at h; injection h with h; subst h
        show Exit.inBlock id Q1 (.exit j) a' w'
        simp only [Exit.inBlock, if_pos hj]
        exact k a' w' g'
      · rw [if_neg hj] at h; injection h with h; subst h
        show Exit.inBlock id Q1 (.exit j) a' w'
        simp only [Exit.inBlock, if_neg hj]
        exact k a' w' g'
  | .scope x, .on s, r, a, w, Q1, ho, h, g, k => by
    unfold codeOk at ho
    rw [evC_scope] at h
    refine wp_scope_straight (code_sound hC hM hm x (.on s) r a w _ ho h g fun a' w' g' => ?_)
    have := k a' w' g'
    cases e : r.1 <;> rw [e] at this <;> exact this
  | .loop x, .on s, r, a, w, Q1, ho, h, g, k => by
    unfold codeOk at ho
    rw [evC_loop] at h
    obtain ⟨q1, h1, h⟩ := bnd_eq_some h
    obtain ⟨n, hn⟩ := loopV_some h
    have g1 : GoodQ c q1 a w := headV_sound hM (id := Code.first x) (q := .on s) (by rw [headV_on]; exact h1) g
    refine wp_loop_rounds n (loop_sound (G := G) (id := Code.first x) hM (fun q => rfl) (fun q r1 a w Q2 e g' k' => code_sound hC hM hm x q r1 a w Q2 ho e g' k') k n q1 a w hn g1)
  | .goto _, .on _, _, _, _, _, ho, _, _, _ => by cases ho
  | .rangeFunc .., .on _, _, _, _, _, ho, _, _, _ => by cases ho
  | .refuse .., .on _, _, _, _, _, ho, _, _, _ => by cases ho
end
end Go.Proofs.YtacnbajcignacaaGreat

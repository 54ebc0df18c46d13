/-
  Soundness of the evaluator: what it makes of a function is the function's contract.
-/
import Derived.Test.YtacnbajcignacaaGreatSnd25
namespace Go.Proofs.YtacnbajcignacaaGreat
open Go.RowKit
set_option linter.unusedSimpArgs false
set_option linter.unusedVariables false
/-- what is asked of a function's text -/
def fnOk (gh : Ghost) (fn : Func) : Bool := match fn.body with
  | some x => !(fn.name == "runtime.NumGoroutine") && decide (fn.ntmps ≤ 1000000) && codeOk gh fn.ntmps x
  | none => false
theorem sound {P : Program} {G : List (FuncId × Bool × Mean)} (gh : Ghost) {f : FuncId} {fn : Func} (hG : ∀ f M, look f G = some M → Sound P f M.2) (hm : P.follows .mixedOrders = true) (hf : P.funcs[f]? = some fn) (h : fnOk gh fn = true) : Sound P f (evFun P G gh f) := by
  unfold fnOk at h
  split at h
  · rename_i x hb
    simp only [Bool.and_eq_true, decide_eq_true_eq] at h
    exact fun_sound hG (marks_ok gh) hf hb (by simpa using h.1.1) h.1.2 h.2 hm
  · cases h
theorem none_sound {P : Program} : ∀ f M, look f ([] : List (FuncId × Bool × Mean)) = some M → Sound P f M.2 := fun _ _ h => by cases h
theorem cons_sound {P : Program} {f : FuncId} {m : Bool} {M : Mean} {G : List (FuncId × Bool × Mean)} (h : Sound P f M) (k : ∀ f M, look f G = some M → Sound P f M.2) : ∀ g N, look g ((f, m, M) :: G) = some N → Sound P g N.2 := by
  intro g N e
  simp only [look] at e
  split at e
  · rename_i e2; injection e with e; subst e2; subst e; exact h
  · exact k g N e
/-- a meaning that says nothing -/
theorem never {P : Program} {f : FuncId} {fn : Func} (hf : P.funcs[f]? = some fn) (h1 : (fn.name == "runtime.NumGoroutine") = false) (h2 : fn.body.isNone = false) : Sound P f fun _ _ _ => none :=
  ⟨⟨fn, hf, h1, h2⟩, fun _ _ _ _ _ h => by cases h⟩
end Go.Proofs.YtacnbajcignacaaGreat

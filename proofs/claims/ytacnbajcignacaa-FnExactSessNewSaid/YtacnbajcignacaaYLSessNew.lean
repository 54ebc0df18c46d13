/-
  FnExactSessNew: what the law's function computes.
-/
import Derived.Test.YtacnbajcignacaaYSess
import Derived.Test.YtacnbajcignacaaYEq
import Derived.Test.YtacnbajcignacaaYMark0
namespace Go.Proofs.Ytacnbajcignacaa
open Go.RowKit
set_option linter.unusedSimpArgs false
set_option linter.unusedVariables false
set_option maxHeartbeats 8000000
set_option maxRecDepth 100000
theorem E_lFnExactSessNew (vi : Bool) (w h room keep size : Int) : M_lFnExactSessNew [V.v (.bool vi), V.v (.int .i64 w), V.v (.int .i64 h), V.v (.int .i64 room), V.v (.int .i64 keep), V.v (.int .i64 size)] [] [] = some ⟨V.v (.bool true), [], []⟩ := by
  unfold M_lFnExactSessNew
  cases hs : sessNewOk w h room keep size
  · simp [Try.func5, Try.f5, E_sSessNew_no _ _ _ _ _ _ hs, E_iSessNew_no _ _ _ _ _ _ hs, E_leqSession, E0_lmarkSession, E0_lheldSession]
  · simp [Try.func5, Try.f5, E_sSessNew _ _ _ _ _ _ hs, E_iSessNew _ _ _ _ _ _ hs, E_leqSession, E0_lmarkSession, E0_lheldSession]
end Go.Proofs.Ytacnbajcignacaa

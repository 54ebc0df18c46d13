/-
  Out of a law's call: the given statement; how arguments are opened.
-/
import Derived.Test.YtacnbajcignacaaGreatRows
import Derived.Test.YtacnbajcignacaaGreatChecked
import Derived.Test.YtacnbajcignacaaGreatSnd27
import Derived.ProofKit
import Derived.OpenShut
import Derived.Handy
import Derived.ShutString
import Derived.ChangeOld
import Derived.Deep.Slices
namespace Go.Proofs.YtacnbajcignacaaGreat
open Go.ChangeShapes Go.WideShapes Go.ChangeAt Go.RowKit Go.Deep

theorem ownKnob_none : ownKnob Tryz.prog.godebug = none := by kernel_rfl
theorem laidOut_prog : laidOutB Tryz.prog = true := by kernel_rfl
theorem int_range {x : Int} (w : (Lit.int .i64 x).wf = true) : -9223372036854775808 ≤ x ∧ x ≤ 9223372036854775807 := by
  simpa [Lit.wf, IntKind.min, IntKind.max, IntKind.signed, IntKind.bits] using w
end Go.Proofs.YtacnbajcignacaaGreat

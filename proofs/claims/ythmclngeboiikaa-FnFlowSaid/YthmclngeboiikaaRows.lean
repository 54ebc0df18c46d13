/-
  No cell of these rows narrows 'for every input' (looked for: loops, veiled, ifaces, maps, wideKeys, modest, calm, conditions, laid).
  DERIVED. THE GIVEN ROWS OF THIS SEAT. 4 by the template 'for every input the law returns true; each argument reads behind the call as it read before'; 0 by the template 'total and deterministic' (their statements: YthmclngeboiikaaTotals.lean).
  GIVEN WITH THE SEED: the statements are not yours to turn. If you find one false, say at which input.
  Laid BY PROGRAM, IN A SANDBOX (cutbox-rows.mjs): the forced cells as the released guide's own fill.sh prints them over the translation c1e6cf0c930a6293… (all of the seat's roots in one cut). By AI agents, Wed Nov 11 2026. No macro, syntax, notation, axiom, sorry.
-/
import Derived.Test.YthmclngeboiikaaChecked
import GoSem.Claim
import GoSem.ClaimJoined
import GoSem.ClaimMapViews
import Derived.JoinedTies
import Derived.KernelRfl
namespace Go.Proofs.Ythmclngeboiikaa
/- THE CELL 'sum', in the pinned program and in every row, IS THE sha256 OF THE DUMP (.gsa) THAT YthmclngeboiikaaProg.lean LOADS. Nothing in Lean hashes anything: it is a label: what it is worth is what the hold of that sum in a sandbox is worth. -/
noncomputable def Try.pinned : Pinned := { name := "ythmclngeboiikaa", sum := "c1e6cf0c930a62937a897da344a4bd3773c50f9202aeda58b3e0405c0542ef78", checked := Try.checked }
namespace Rows
def none {H : Type} : Left H := { results := [], args := [] }

/-- 'laws.FnExactShown': WHATEVER THE INPUT: true; the input reads as it did. -/
def fnExactShownSpec : ChangeSpec := { name := "fnExactShown", fn := fun _ => fun
  | [d] => { results := [.lit (.bool true)], args := [d] }
  | _ => none }
def fnExactShownRow : OpenClaim := { program := "ythmclngeboiikaa", sum := "c1e6cf0c930a62937a897da344a4bd3773c50f9202aeda58b3e0405c0542ef78", func := "loop.example/g00600/laws.FnExactShown", spec := "fnExactShown", apart := false }
def FnExactShownSaid : Prop := fnExactShownRow.holds Try.pinned (OpenSpec.ofChange fnExactShownSpec)

/-- ITS FALSE NEIGHBOUR: 'it returns false'. Refute it at one input. -/
def fnExactShownWrong : ChangeSpec := { name := "fnExactShown", fn := fun _ => fun
  | [d] => { results := [.lit (.bool false)], args := [d] }
  | _ => none }
def FnExactShownWrongFalsely : Prop := fnExactShownRow.holds Try.pinned (OpenSpec.ofChange fnExactShownWrong)

/-- 'laws.FnExactFlow': WHATEVER THE INPUT: true; the input reads as it did. -/
def fnExactFlowSpec : ChangeSpec := { name := "fnExactFlow", fn := fun _ => fun
  | [d1, d2, d3, d4] => { results := [.lit (.bool true)], args := [d1, d2, d3, d4] }
  | _ => none }
def fnExactFlowRow : OpenClaim := { program := "ythmclngeboiikaa", sum := "c1e6cf0c930a62937a897da344a4bd3773c50f9202aeda58b3e0405c0542ef78", func := "loop.example/g00600/laws.FnExactFlow", spec := "fnExactFlow", apart := false }
def FnExactFlowSaid : Prop := fnExactFlowRow.holds Try.pinned (OpenSpec.ofChange fnExactFlowSpec)

/-- ITS FALSE NEIGHBOUR: 'it returns false'. Refute it at one input. -/
def fnExactFlowWrong : ChangeSpec := { name := "fnExactFlow", fn := fun _ => fun
  | [d1, d2, d3, d4] => { results := [.lit (.bool false)], args := [d1, d2, d3, d4] }
  | _ => none }
def FnExactFlowWrongFalsely : Prop := fnExactFlowRow.holds Try.pinned (OpenSpec.ofChange fnExactFlowWrong)

/-- 'laws.FnFlow': WHATEVER THE INPUT: true; the input reads as it did. -/
def fnFlowSpec : ChangeSpec := { name := "fnFlow", fn := fun _ => fun
  | [d] => { results := [.lit (.bool true)], args := [d] }
  | _ => none }
def fnFlowRow : OpenClaim := { program := "ythmclngeboiikaa", sum := "c1e6cf0c930a62937a897da344a4bd3773c50f9202aeda58b3e0405c0542ef78", func := "loop.example/g00600/laws.FnFlow", spec := "fnFlow", apart := false }
def FnFlowSaid : Prop := fnFlowRow.holds Try.pinned (OpenSpec.ofChange fnFlowSpec)

/-- ITS FALSE NEIGHBOUR: 'it returns false'. Refute it at one input. -/
def fnFlowWrong : ChangeSpec := { name := "fnFlow", fn := fun _ => fun
  | [d] => { results := [.lit (.bool false)], args := [d] }
  | _ => none }
def FnFlowWrongFalsely : Prop := fnFlowRow.holds Try.pinned (OpenSpec.ofChange fnFlowWrong)

/-- 'laws.FnExactDiffer': WHATEVER THE INPUT: true; the input reads as it did. -/
def fnExactDifferSpec : ChangeSpec := { name := "fnExactDiffer", fn := fun _ => fun
  | [d1, d2] => { results := [.lit (.bool true)], args := [d1, d2] }
  | _ => none }
def fnExactDifferRow : OpenClaim := { program := "ythmclngeboiikaa", sum := "c1e6cf0c930a62937a897da344a4bd3773c50f9202aeda58b3e0405c0542ef78", func := "loop.example/g00600/laws.FnExactDiffer", spec := "fnExactDiffer", apart := false }
def FnExactDifferSaid : Prop := fnExactDifferRow.holds Try.pinned (OpenSpec.ofChange fnExactDifferSpec)

/-- ITS FALSE NEIGHBOUR: 'it returns false'. Refute it at one input. -/
def fnExactDifferWrong : ChangeSpec := { name := "fnExactDiffer", fn := fun _ => fun
  | [d1, d2] => { results := [.lit (.bool false)], args := [d1, d2] }
  | _ => none }
def FnExactDifferWrongFalsely : Prop := fnExactDifferRow.holds Try.pinned (OpenSpec.ofChange fnExactDifferWrong)

/- THE SECOND FORM. 'bulk': how many values and letters a reading holds, each counted each time it is reached (what is shared counts as often as it is met; a slice's spare places count too). A statement '..UptoSaid' is the law's where the arguments, and the package variables that the reading takes, are together of bulk at most 1048576: NARROWER than '..Said'. Prove '..Said' where nothing that the law and all that it calls make is longer than what came in: it says more and counts as full. Else prove '..UptoSaid'. A law counts once. -/
mutual
def uptoBulk {H : Type} : DataW H → Nat
  | .lit (.string bytes) => bytes.length + 1
  | .lit _ => 1
  | .nil => 1
  | .ptr d => uptoBulk d + 1
  | .slice elems spare => uptoBulkAll elems + uptoBulkAll spare + 1
  | .agg parts => uptoBulkAll parts + 1
  | .iface _ d => uptoBulk d + 1
  | .map entries => uptoBulkEntries entries + 1
  | .held _ => 1
def uptoBulkAll {H : Type} : List (DataW H) → Nat
  | [] => 0
  | d :: r => uptoBulk d + uptoBulkAll r
def uptoBulkEntries {H : Type} : List (Lit × DataW H) → Nat
  | [] => 0
  | x :: r => uptoBulkEntry x + uptoBulkEntries r
def uptoBulkEntry {H : Type} : Lit × DataW H → Nat
  | (.string bytes, d) => bytes.length + uptoBulk d + 1
  | (_, d) => uptoBulk d + 1
 end
def uptoSmall : (H : Type) → List (DataW H) → Bool := fun _ ds => decide (uptoBulkAll ds ≤ 1048576)
def OpenSpec.upto (s : _root_.Go.ChangeSpec) : _root_.Go.OpenSpec := { _root_.Go.OpenSpec.ofChange s with cond := some uptoSmall }

/-- 'laws.FnExactShown', WHERE WHAT IT READS IS OF BULK AT MOST 1048576: true; the input reads as it did. -/
def fnExactShownUptoRow : OpenClaim := { program := "ythmclngeboiikaa", sum := "c1e6cf0c930a62937a897da344a4bd3773c50f9202aeda58b3e0405c0542ef78", func := "loop.example/g00600/laws.FnExactShown", spec := "fnExactShown", apart := false, narrowed := true }
def FnExactShownUptoSaid : Prop := fnExactShownUptoRow.holds Try.pinned (OpenSpec.upto fnExactShownSpec)

/-- 'laws.FnExactFlow', WHERE WHAT IT READS IS OF BULK AT MOST 1048576: true; the input reads as it did. -/
def fnExactFlowUptoRow : OpenClaim := { program := "ythmclngeboiikaa", sum := "c1e6cf0c930a62937a897da344a4bd3773c50f9202aeda58b3e0405c0542ef78", func := "loop.example/g00600/laws.FnExactFlow", spec := "fnExactFlow", apart := false, narrowed := true }
def FnExactFlowUptoSaid : Prop := fnExactFlowUptoRow.holds Try.pinned (OpenSpec.upto fnExactFlowSpec)

/-- 'laws.FnFlow', WHERE WHAT IT READS IS OF BULK AT MOST 1048576: true; the input reads as it did. -/
def fnFlowUptoRow : OpenClaim := { program := "ythmclngeboiikaa", sum := "c1e6cf0c930a62937a897da344a4bd3773c50f9202aeda58b3e0405c0542ef78", func := "loop.example/g00600/laws.FnFlow", spec := "fnFlow", apart := false, narrowed := true }
def FnFlowUptoSaid : Prop := fnFlowUptoRow.holds Try.pinned (OpenSpec.upto fnFlowSpec)

/-- 'laws.FnExactDiffer', WHERE WHAT IT READS IS OF BULK AT MOST 1048576: true; the input reads as it did. -/
def fnExactDifferUptoRow : OpenClaim := { program := "ythmclngeboiikaa", sum := "c1e6cf0c930a62937a897da344a4bd3773c50f9202aeda58b3e0405c0542ef78", func := "loop.example/g00600/laws.FnExactDiffer", spec := "fnExactDiffer", apart := false, narrowed := true }
def FnExactDifferUptoSaid : Prop := fnExactDifferUptoRow.holds Try.pinned (OpenSpec.upto fnExactDifferSpec)

end Rows
end Go.Proofs.Ythmclngeboiikaa

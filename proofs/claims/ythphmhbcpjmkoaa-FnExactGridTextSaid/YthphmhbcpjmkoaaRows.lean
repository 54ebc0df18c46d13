/-
  No cell of these rows narrows 'for every input' (looked for: loops, veiled, ifaces, maps, wideKeys, modest, calm, conditions, laid).
  DERIVED. THE GIVEN ROWS OF THIS SEAT. 4 by the template 'for every input the law returns true; each argument reads behind the call as it read before'; 0 by the template 'total and deterministic' (their statements: YthphmhbcpjmkoaaTotals.lean).
  GIVEN WITH THE SEED: the statements are not yours to turn. If you find one false, say at which input.
  Laid BY PROGRAM, IN A SANDBOX (cutbox-rows.mjs): the forced cells as the released guide's own fill.sh prints them over the translation 6ccf934b47f41f3e… (all of the seat's roots in one cut). By AI agents, Wed Nov 11 2026. No macro, syntax, notation, axiom, sorry.
-/
import Derived.Test.YthphmhbcpjmkoaaChecked
import GoSem.Claim
import GoSem.ClaimJoined
import GoSem.ClaimMapViews
import Derived.JoinedTies
import Derived.KernelRfl
namespace Go.Proofs.Ythphmhbcpjmkoaa
/- THE CELL 'sum', in the pinned program and in every row, IS THE sha256 OF THE DUMP (.gsa) THAT YthphmhbcpjmkoaaProg.lean LOADS. Nothing in Lean hashes anything: it is a label: what it is worth is what the hold of that sum in a sandbox is worth. -/
noncomputable def Try.pinned : Pinned := { name := "ythphmhbcpjmkoaa", sum := "6ccf934b47f41f3e83e294a4b4a9f895f882e5e46b36f722dcc7655d7f98d80b", checked := Try.checked }
namespace Rows
def none {H : Type} : Left H := { results := [], args := [] }

/-- 'laws.FnExactDiffer': WHATEVER THE INPUT: true; the input reads as it did. -/
def fnExactDifferSpec : ChangeSpec := { name := "fnExactDiffer", fn := fun _ => fun
  | [d1, d2] => { results := [.lit (.bool true)], args := [d1, d2] }
  | _ => none }
def fnExactDifferRow : OpenClaim := { program := "ythphmhbcpjmkoaa", sum := "6ccf934b47f41f3e83e294a4b4a9f895f882e5e46b36f722dcc7655d7f98d80b", func := "loop.example/g00600/laws.FnExactDiffer", spec := "fnExactDiffer", apart := false }
def FnExactDifferSaid : Prop := fnExactDifferRow.holds Try.pinned (OpenSpec.ofChange fnExactDifferSpec)

/-- ITS FALSE NEIGHBOUR: 'it returns false'. Refute it at one input. -/
def fnExactDifferWrong : ChangeSpec := { name := "fnExactDiffer", fn := fun _ => fun
  | [d1, d2] => { results := [.lit (.bool false)], args := [d1, d2] }
  | _ => none }
def FnExactDifferWrongFalsely : Prop := fnExactDifferRow.holds Try.pinned (OpenSpec.ofChange fnExactDifferWrong)

/-- 'laws.FnExactPaintOk': WHATEVER THE INPUT: true; the input reads as it did. -/
def fnExactPaintOkSpec : ChangeSpec := { name := "fnExactPaintOk", fn := fun _ => fun
  | [d] => { results := [.lit (.bool true)], args := [d] }
  | _ => none }
def fnExactPaintOkRow : OpenClaim := { program := "ythphmhbcpjmkoaa", sum := "6ccf934b47f41f3e83e294a4b4a9f895f882e5e46b36f722dcc7655d7f98d80b", func := "loop.example/g00600/laws.FnExactPaintOk", spec := "fnExactPaintOk", apart := false }
def FnExactPaintOkSaid : Prop := fnExactPaintOkRow.holds Try.pinned (OpenSpec.ofChange fnExactPaintOkSpec)

/-- ITS FALSE NEIGHBOUR: 'it returns false'. Refute it at one input. -/
def fnExactPaintOkWrong : ChangeSpec := { name := "fnExactPaintOk", fn := fun _ => fun
  | [d] => { results := [.lit (.bool false)], args := [d] }
  | _ => none }
def FnExactPaintOkWrongFalsely : Prop := fnExactPaintOkRow.holds Try.pinned (OpenSpec.ofChange fnExactPaintOkWrong)

/-- 'laws.FnExactPaintNew': WHATEVER THE INPUT: true; the input reads as it did. -/
def fnExactPaintNewSpec : ChangeSpec := { name := "fnExactPaintNew", fn := fun _ => fun
  | [d1, d2] => { results := [.lit (.bool true)], args := [d1, d2] }
  | _ => none }
def fnExactPaintNewRow : OpenClaim := { program := "ythphmhbcpjmkoaa", sum := "6ccf934b47f41f3e83e294a4b4a9f895f882e5e46b36f722dcc7655d7f98d80b", func := "loop.example/g00600/laws.FnExactPaintNew", spec := "fnExactPaintNew", apart := false }
def FnExactPaintNewSaid : Prop := fnExactPaintNewRow.holds Try.pinned (OpenSpec.ofChange fnExactPaintNewSpec)

/-- ITS FALSE NEIGHBOUR: 'it returns false'. Refute it at one input. -/
def fnExactPaintNewWrong : ChangeSpec := { name := "fnExactPaintNew", fn := fun _ => fun
  | [d1, d2] => { results := [.lit (.bool false)], args := [d1, d2] }
  | _ => none }
def FnExactPaintNewWrongFalsely : Prop := fnExactPaintNewRow.holds Try.pinned (OpenSpec.ofChange fnExactPaintNewWrong)

/-- 'laws.FnExactGridText': WHATEVER THE INPUT: true; the input reads as it did. -/
def fnExactGridTextSpec : ChangeSpec := { name := "fnExactGridText", fn := fun _ => fun
  | [d] => { results := [.lit (.bool true)], args := [d] }
  | _ => none }
def fnExactGridTextRow : OpenClaim := { program := "ythphmhbcpjmkoaa", sum := "6ccf934b47f41f3e83e294a4b4a9f895f882e5e46b36f722dcc7655d7f98d80b", func := "loop.example/g00600/laws.FnExactGridText", spec := "fnExactGridText", inPlace := ["internal/abi.NoEscape", "internal/bytealg.MakeNoZero"], apart := false }
def FnExactGridTextSaid : Prop := fnExactGridTextRow.holds Try.pinned (OpenSpec.ofChange fnExactGridTextSpec)

/-- ITS FALSE NEIGHBOUR: 'it returns false'. Refute it at one input. -/
def fnExactGridTextWrong : ChangeSpec := { name := "fnExactGridText", fn := fun _ => fun
  | [d] => { results := [.lit (.bool false)], args := [d] }
  | _ => none }
def FnExactGridTextWrongFalsely : Prop := fnExactGridTextRow.holds Try.pinned (OpenSpec.ofChange fnExactGridTextWrong)

/- THE SECOND FORM. 'bulk': how many values and letters a reading holds, each counted each time it is reached (what is shared counts as often as it is met; a slice's spare places count too). A statement '..UptoSaid' is the law's where the arguments, and the package variables that the reading takes, are together of bulk at most 1048576: NARROWER than '..Said'. Prove '..Said' where nothing that the law and all that it calls make is longer than what came in: it says more and counts as full. Else prove '..UptoSaid'. A law counts once. -/
mutual
def uptoBulk {H : Type} : DataW H → Nat
  | .lit (.string bytes) => bytes.length + 1
  | .lit _ => 1
  | .nil => 1
  | .ptr d => uptoBulk d + 1
  | .slice elems spare => uptoBulkAll elems + uptoBulkAll spare + 1
  | .agg parts => uptoBulkAll parts + 1
  | .iface _ d => uptoBulk d + 1
  | .map entries => uptoBulkEntries entries + 1
  | .held _ => 1
def uptoBulkAll {H : Type} : List (DataW H) → Nat
  | [] => 0
  | d :: r => uptoBulk d + uptoBulkAll r
def uptoBulkEntries {H : Type} : List (Lit × DataW H) → Nat
  | [] => 0
  | x :: r => uptoBulkEntry x + uptoBulkEntries r
def uptoBulkEntry {H : Type} : Lit × DataW H → Nat
  | (.string bytes, d) => bytes.length + uptoBulk d + 1
  | (_, d) => uptoBulk d + 1
 end
def uptoSmall : (H : Type) → List (DataW H) → Bool := fun _ ds => decide (uptoBulkAll ds ≤ 1048576)
def OpenSpec.upto (s : _root_.Go.ChangeSpec) : _root_.Go.OpenSpec := { _root_.Go.OpenSpec.ofChange s with cond := some uptoSmall }

/-- 'laws.FnExactDiffer', WHERE WHAT IT READS IS OF BULK AT MOST 1048576: true; the input reads as it did. -/
def fnExactDifferUptoRow : OpenClaim := { program := "ythphmhbcpjmkoaa", sum := "6ccf934b47f41f3e83e294a4b4a9f895f882e5e46b36f722dcc7655d7f98d80b", func := "loop.example/g00600/laws.FnExactDiffer", spec := "fnExactDiffer", apart := false, narrowed := true }
def FnExactDifferUptoSaid : Prop := fnExactDifferUptoRow.holds Try.pinned (OpenSpec.upto fnExactDifferSpec)

/-- 'laws.FnExactPaintOk', WHERE WHAT IT READS IS OF BULK AT MOST 1048576: true; the input reads as it did. -/
def fnExactPaintOkUptoRow : OpenClaim := { program := "ythphmhbcpjmkoaa", sum := "6ccf934b47f41f3e83e294a4b4a9f895f882e5e46b36f722dcc7655d7f98d80b", func := "loop.example/g00600/laws.FnExactPaintOk", spec := "fnExactPaintOk", apart := false, narrowed := true }
def FnExactPaintOkUptoSaid : Prop := fnExactPaintOkUptoRow.holds Try.pinned (OpenSpec.upto fnExactPaintOkSpec)

/-- 'laws.FnExactPaintNew', WHERE WHAT IT READS IS OF BULK AT MOST 1048576: true; the input reads as it did. -/
def fnExactPaintNewUptoRow : OpenClaim := { program := "ythphmhbcpjmkoaa", sum := "6ccf934b47f41f3e83e294a4b4a9f895f882e5e46b36f722dcc7655d7f98d80b", func := "loop.example/g00600/laws.FnExactPaintNew", spec := "fnExactPaintNew", apart := false, narrowed := true }
def FnExactPaintNewUptoSaid : Prop := fnExactPaintNewUptoRow.holds Try.pinned (OpenSpec.upto fnExactPaintNewSpec)

/-- 'laws.FnExactGridText', WHERE WHAT IT READS IS OF BULK AT MOST 1048576: true; the input reads as it did. -/
def fnExactGridTextUptoRow : OpenClaim := { program := "ythphmhbcpjmkoaa", sum := "6ccf934b47f41f3e83e294a4b4a9f895f882e5e46b36f722dcc7655d7f98d80b", func := "loop.example/g00600/laws.FnExactGridText", spec := "fnExactGridText", inPlace := ["internal/abi.NoEscape", "internal/bytealg.MakeNoZero"], apart := false, narrowed := true }
def FnExactGridTextUptoSaid : Prop := fnExactGridTextUptoRow.holds Try.pinned (OpenSpec.upto fnExactGridTextSpec)

end Rows
end Go.Proofs.Ythphmhbcpjmkoaa

/-
  No cell of these rows narrows 'for every input' (looked for: loops, veiled, ifaces, maps, wideKeys, modest, calm, conditions, laid).
  DERIVED. THE GIVEN ROWS OF THIS SEAT. 3 by the template 'for every input the law returns true; each argument reads behind the call as it read before'; 0 by the template 'total and deterministic' (their statements: YtlpdjhiggpblcaaGreatTotals.lean).
  GIVEN WITH THE SEED: the statements are not yours to turn. If you find one false, say at which input.
  Laid BY PROGRAM, IN A SANDBOX (cutbox-rows.mjs): the forced cells as the released guide's own fill.sh prints them over the translation 5959dc106c4bb15c… (all of the seat's roots in one cut). By AI agents, Wed Nov 11 2026. No macro, syntax, notation, axiom, sorry.
-/
import Derived.Test.YtlpdjhiggpblcaaGreatChecked
import GoSem.Claim
import GoSem.ClaimJoined
import GoSem.ClaimMapViews
import Derived.JoinedTies
import Derived.KernelRfl
namespace Go.Proofs.YtlpdjhiggpblcaaGreat
/- THE CELL 'sum', in the pinned program and in every row, IS THE sha256 OF THE DUMP (.gsa) THAT YtlpdjhiggpblcaaGreatProg.lean LOADS. Nothing in Lean hashes anything: it is a label: what it is worth is what the hold of that sum in a sandbox is worth. -/
noncomputable def Tryz.pinned : Pinned := { name := "ytlpdjhiggpblcaagreat", sum := "5959dc106c4bb15c8fb013a2e05a01b209acede5d7752ca1831ecce700454c4c", checked := Tryz.checked }
namespace Rows
def none {H : Type} : Left H := { results := [], args := [] }

/-- 'laws.FnEdOk': WHATEVER THE INPUT: true; the input reads as it did. -/
def fnEdOkSpec : ChangeSpec := { name := "fnEdOk", fn := fun _ => fun
  | [d] => { results := [.lit (.bool true)], args := [d] }
  | _ => none }
def fnEdOkRow : OpenClaim := { program := "ytlpdjhiggpblcaagreat", sum := "5959dc106c4bb15c8fb013a2e05a01b209acede5d7752ca1831ecce700454c4c", func := "loop.example/g00600/laws.FnEdOk", spec := "fnEdOk", inPlace := ["internal/bytealg.IndexByteString", "internal/bytealg.IndexString"], unfollowed := true, recurses := true, named := ["internal/bytealg.MaxLen"], apart := false }
def FnEdOkSaid : Prop := fnEdOkRow.holds Tryz.pinned (OpenSpec.ofChange fnEdOkSpec)

/-- ITS FALSE NEIGHBOUR: 'it returns false'. Refute it at one input. -/
def fnEdOkWrong : ChangeSpec := { name := "fnEdOk", fn := fun _ => fun
  | [d] => { results := [.lit (.bool false)], args := [d] }
  | _ => none }
def FnEdOkWrongFalsely : Prop := fnEdOkRow.holds Tryz.pinned (OpenSpec.ofChange fnEdOkWrong)

/-- 'laws.FnExactEdKey': WHATEVER THE INPUT: true; the input reads as it did. -/
def fnExactEdKeySpec : ChangeSpec := { name := "fnExactEdKey", fn := fun _ => fun
  | [d1, d2, d3] => { results := [.lit (.bool true)], args := [d1, d2, d3] }
  | _ => none }
def fnExactEdKeyRow : OpenClaim := { program := "ytlpdjhiggpblcaagreat", sum := "5959dc106c4bb15c8fb013a2e05a01b209acede5d7752ca1831ecce700454c4c", func := "loop.example/g00600/laws.FnExactEdKey", spec := "fnExactEdKey", inPlace := ["internal/bytealg.IndexByteString", "internal/bytealg.IndexString"], unfollowed := true, recurses := true, named := ["internal/bytealg.MaxLen"], apart := false }
def FnExactEdKeySaid : Prop := fnExactEdKeyRow.holds Tryz.pinned (OpenSpec.ofChange fnExactEdKeySpec)

/-- ITS FALSE NEIGHBOUR: 'it returns false'. Refute it at one input. -/
def fnExactEdKeyWrong : ChangeSpec := { name := "fnExactEdKey", fn := fun _ => fun
  | [d1, d2, d3] => { results := [.lit (.bool false)], args := [d1, d2, d3] }
  | _ => none }
def FnExactEdKeyWrongFalsely : Prop := fnExactEdKeyRow.holds Tryz.pinned (OpenSpec.ofChange fnExactEdKeyWrong)

/-- 'laws.FnExactEdKeys': WHATEVER THE INPUT: true; the input reads as it did. -/
def fnExactEdKeysSpec : ChangeSpec := { name := "fnExactEdKeys", fn := fun _ => fun
  | [d1, d2, d3] => { results := [.lit (.bool true)], args := [d1, d2, d3] }
  | _ => none }
def fnExactEdKeysRow : OpenClaim := { program := "ytlpdjhiggpblcaagreat", sum := "5959dc106c4bb15c8fb013a2e05a01b209acede5d7752ca1831ecce700454c4c", func := "loop.example/g00600/laws.FnExactEdKeys", spec := "fnExactEdKeys", inPlace := ["internal/bytealg.IndexByteString", "internal/bytealg.IndexString"], unfollowed := true, recurses := true, named := ["internal/bytealg.MaxLen"], apart := false }
def FnExactEdKeysSaid : Prop := fnExactEdKeysRow.holds Tryz.pinned (OpenSpec.ofChange fnExactEdKeysSpec)

/-- ITS FALSE NEIGHBOUR: 'it returns false'. Refute it at one input. -/
def fnExactEdKeysWrong : ChangeSpec := { name := "fnExactEdKeys", fn := fun _ => fun
  | [d1, d2, d3] => { results := [.lit (.bool false)], args := [d1, d2, d3] }
  | _ => none }
def FnExactEdKeysWrongFalsely : Prop := fnExactEdKeysRow.holds Tryz.pinned (OpenSpec.ofChange fnExactEdKeysWrong)

/- THE SECOND FORM. 'bulk': how many values and letters a reading holds, each counted each time it is reached (what is shared counts as often as it is met; a slice's spare places count too). A statement '..UptoSaid' is the law's where the arguments, and the package variables that the reading takes, are together of bulk at most 1048576: NARROWER than '..Said'. Prove '..Said' where nothing that the law and all that it calls make is longer than what came in: it says more and counts as full. Else prove '..UptoSaid'. A law counts once. -/
mutual
def uptoBulk {H : Type} : DataW H → Nat
  | .lit (.string bytes) => bytes.length + 1
  | .lit _ => 1
  | .nil => 1
  | .ptr d => uptoBulk d + 1
  | .slice elems spare => uptoBulkAll elems + uptoBulkAll spare + 1
  | .agg parts => uptoBulkAll parts + 1
  | .iface _ d => uptoBulk d + 1
  | .map entries => uptoBulkEntries entries + 1
  | .held _ => 1
def uptoBulkAll {H : Type} : List (DataW H) → Nat
  | [] => 0
  | d :: r => uptoBulk d + uptoBulkAll r
def uptoBulkEntries {H : Type} : List (Lit × DataW H) → Nat
  | [] => 0
  | x :: r => uptoBulkEntry x + uptoBulkEntries r
def uptoBulkEntry {H : Type} : Lit × DataW H → Nat
  | (.string bytes, d) => bytes.length + uptoBulk d + 1
  | (_, d) => uptoBulk d + 1
 end
def uptoSmall : (H : Type) → List (DataW H) → Bool := fun _ ds => decide (uptoBulkAll ds ≤ 1048576)
def OpenSpec.upto (s : _root_.Go.ChangeSpec) : _root_.Go.OpenSpec := { _root_.Go.OpenSpec.ofChange s with cond := some uptoSmall }

/-- 'laws.FnEdOk', WHERE WHAT IT READS IS OF BULK AT MOST 1048576: true; the input reads as it did. -/
def fnEdOkUptoRow : OpenClaim := { program := "ytlpdjhiggpblcaagreat", sum := "5959dc106c4bb15c8fb013a2e05a01b209acede5d7752ca1831ecce700454c4c", func := "loop.example/g00600/laws.FnEdOk", spec := "fnEdOk", inPlace := ["internal/bytealg.IndexByteString", "internal/bytealg.IndexString"], unfollowed := true, recurses := true, named := ["internal/bytealg.MaxLen"], apart := false, narrowed := true }
def FnEdOkUptoSaid : Prop := fnEdOkUptoRow.holds Tryz.pinned (OpenSpec.upto fnEdOkSpec)

/-- 'laws.FnExactEdKey', WHERE WHAT IT READS IS OF BULK AT MOST 1048576: true; the input reads as it did. -/
def fnExactEdKeyUptoRow : OpenClaim := { program := "ytlpdjhiggpblcaagreat", sum := "5959dc106c4bb15c8fb013a2e05a01b209acede5d7752ca1831ecce700454c4c", func := "loop.example/g00600/laws.FnExactEdKey", spec := "fnExactEdKey", inPlace := ["internal/bytealg.IndexByteString", "internal/bytealg.IndexString"], unfollowed := true, recurses := true, named := ["internal/bytealg.MaxLen"], apart := false, narrowed := true }
def FnExactEdKeyUptoSaid : Prop := fnExactEdKeyUptoRow.holds Tryz.pinned (OpenSpec.upto fnExactEdKeySpec)

/-- 'laws.FnExactEdKeys', WHERE WHAT IT READS IS OF BULK AT MOST 1048576: true; the input reads as it did. -/
def fnExactEdKeysUptoRow : OpenClaim := { program := "ytlpdjhiggpblcaagreat", sum := "5959dc106c4bb15c8fb013a2e05a01b209acede5d7752ca1831ecce700454c4c", func := "loop.example/g00600/laws.FnExactEdKeys", spec := "fnExactEdKeys", inPlace := ["internal/bytealg.IndexByteString", "internal/bytealg.IndexString"], unfollowed := true, recurses := true, named := ["internal/bytealg.MaxLen"], apart := false, narrowed := true }
def FnExactEdKeysUptoSaid : Prop := fnExactEdKeysUptoRow.holds Tryz.pinned (OpenSpec.upto fnExactEdKeysSpec)

end Rows
end Go.Proofs.YtlpdjhiggpblcaaGreat

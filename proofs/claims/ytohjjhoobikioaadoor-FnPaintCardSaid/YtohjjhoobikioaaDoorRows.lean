/-
  NARROWER THAN 'FOR EVERY INPUT', by the rows' own cells (each row's printed sentence says how): FnExactEventText: laid · FnExactScriptText: laid · FnLean: laid · FnExactDiff: laid · FnExactFull: laid · FnDiff: laid · FnExactPaintTo: laid · FnExactPaintAll: laid · FnFullScreen: laid · FnPaint: laid.
  DERIVED. THE GIVEN ROWS OF THIS SEAT. 10 by the template 'for every input the law returns true; each argument reads behind the call as it read before'; 0 by the template 'total and deterministic' (their statements: YtohjjhoobikioaaDoorTotals.lean).
  GIVEN WITH THE SEED: the statements are not yours to turn. If you find one false, say at which input.
  Laid BY PROGRAM, IN A SANDBOX (cutbox-rows.mjs): the forced cells as the released guide's own fill.sh prints them over the translation c36c69cf265d2fef… (all of the seat's roots in one cut). By AI agents, Wed Nov 11 2026. No macro, syntax, notation, axiom, sorry.
-/
import Derived.Test.YtohjjhoobikioaaDoorChecked
import GoSem.Claim
import GoSem.ClaimJoined
import GoSem.ClaimMapViews
import Derived.JoinedTies
import Derived.KernelRfl
namespace Go.Proofs.YtohjjhoobikioaaDoor
/- THE CELL 'sum', in the pinned program and in every row, IS THE sha256 OF THE DUMP (.gsa) THAT YtohjjhoobikioaaDoorProg.lean LOADS. Nothing in Lean hashes anything: it is a label: what it is worth is what the hold of that sum in a sandbox is worth. -/
noncomputable def Tryd.pinned : Pinned := { name := "ytohjjhoobikioaadoor", sum := "c36c69cf265d2fef81b17e4ce8dc1b37b147c0bac5c33c3ab8aff1244a6bdf1c", checked := Tryd.checked }
namespace Rows
def none {H : Type} : Left H := { results := [], args := [] }

/- WHAT THE LISTED PACKAGE-LEVEL VARIABLES READ AS WHEN THE CALL BEGINS. Each datum BY PROGRAM (the guide's laid-datum.mjs) off the statement by which the dump's own 'gosem.cut.vars' lays the variable. In a bare row this is a premise. The card (YtohjjhoobikioaaDoorCards.lean) ties it to the program's text. -/
def laid_math_bits_deBruijn32tab {H : Type} : DataW H := .agg [.lit (.int .u8 0), .lit (.int .u8 1), .lit (.int .u8 28), .lit (.int .u8 2), .lit (.int .u8 29), .lit (.int .u8 14), .lit (.int .u8 24), .lit (.int .u8 3), .lit (.int .u8 30), .lit (.int .u8 22), .lit (.int .u8 20), .lit (.int .u8 15), .lit (.int .u8 25), .lit (.int .u8 17), .lit (.int .u8 4), .lit (.int .u8 8), .lit (.int .u8 31), .lit (.int .u8 27), .lit (.int .u8 13), .lit (.int .u8 23), .lit (.int .u8 21), .lit (.int .u8 19), .lit (.int .u8 16), .lit (.int .u8 7), .lit (.int .u8 26), .lit (.int .u8 12), .lit (.int .u8 18), .lit (.int .u8 6), .lit (.int .u8 11), .lit (.int .u8 5), .lit (.int .u8 10), .lit (.int .u8 9)]
def laid_math_bits_deBruijn64tab {H : Type} : DataW H := .agg [.lit (.int .u8 0), .lit (.int .u8 1), .lit (.int .u8 56), .lit (.int .u8 2), .lit (.int .u8 57), .lit (.int .u8 49), .lit (.int .u8 28), .lit (.int .u8 3), .lit (.int .u8 61), .lit (.int .u8 58), .lit (.int .u8 42), .lit (.int .u8 50), .lit (.int .u8 38), .lit (.int .u8 29), .lit (.int .u8 17), .lit (.int .u8 4), .lit (.int .u8 62), .lit (.int .u8 47), .lit (.int .u8 59), .lit (.int .u8 36), .lit (.int .u8 45), .lit (.int .u8 43), .lit (.int .u8 51), .lit (.int .u8 22), .lit (.int .u8 53), .lit (.int .u8 39), .lit (.int .u8 33), .lit (.int .u8 30), .lit (.int .u8 24), .lit (.int .u8 18), .lit (.int .u8 12), .lit (.int .u8 5), .lit (.int .u8 63), .lit (.int .u8 55), .lit (.int .u8 48), .lit (.int .u8 27), .lit (.int .u8 60), .lit (.int .u8 41), .lit (.int .u8 37), .lit (.int .u8 16), .lit (.int .u8 46), .lit (.int .u8 35), .lit (.int .u8 44), .lit (.int .u8 21), .lit (.int .u8 52), .lit (.int .u8 32), .lit (.int .u8 23), .lit (.int .u8 11), .lit (.int .u8 54), .lit (.int .u8 26), .lit (.int .u8 40), .lit (.int .u8 15), .lit (.int .u8 34), .lit (.int .u8 20), .lit (.int .u8 31), .lit (.int .u8 10), .lit (.int .u8 25), .lit (.int .u8 14), .lit (.int .u8 19), .lit (.int .u8 9), .lit (.int .u8 13), .lit (.int .u8 8), .lit (.int .u8 7), .lit (.int .u8 6)]
def laid_internal_strconv_uint64pow10 {H : Type} : DataW H := .agg [.lit (.int .u64 1), .lit (.int .u64 10), .lit (.int .u64 100), .lit (.int .u64 1000), .lit (.int .u64 10000), .lit (.int .u64 100000), .lit (.int .u64 1000000), .lit (.int .u64 10000000), .lit (.int .u64 100000000), .lit (.int .u64 1000000000), .lit (.int .u64 10000000000), .lit (.int .u64 100000000000), .lit (.int .u64 1000000000000), .lit (.int .u64 10000000000000), .lit (.int .u64 100000000000000), .lit (.int .u64 1000000000000000), .lit (.int .u64 10000000000000000), .lit (.int .u64 100000000000000000), .lit (.int .u64 1000000000000000000), .lit (.int .u64 10000000000000000000)]

/-- 'laws.FnExactEventText': WHATEVER THE INPUT: true; the input reads as it did. -/
def fnExactEventTextSpec : ChangeSpec := { name := "fnExactEventText", fn := fun _ => fun
  | [d] => { results := [.lit (.bool true)], args := [d] }
  | _ => none }
def fnExactEventTextRow : OpenClaim := { program := "ytohjjhoobikioaadoor", sum := "c36c69cf265d2fef81b17e4ce8dc1b37b147c0bac5c33c3ab8aff1244a6bdf1c", func := "loop.example/g00600/laws.FnExactEventText", spec := "fnExactEventText", recurses := true, named := ["internal/strconv.uint64pow10", "math/bits.deBruijn32tab", "math/bits.deBruijn64tab"], apart := false, laid := [("math/bits.deBruijn32tab", laid_math_bits_deBruijn32tab), ("math/bits.deBruijn64tab", laid_math_bits_deBruijn64tab), ("internal/strconv.uint64pow10", laid_internal_strconv_uint64pow10)] }
def FnExactEventTextSaid : Prop := fnExactEventTextRow.holds Tryd.pinned (OpenSpec.ofChange fnExactEventTextSpec)

/-- ITS FALSE NEIGHBOUR: 'it returns false'. Refute it at one input. -/
def fnExactEventTextWrong : ChangeSpec := { name := "fnExactEventText", fn := fun _ => fun
  | [d] => { results := [.lit (.bool false)], args := [d] }
  | _ => none }
def FnExactEventTextWrongFalsely : Prop := fnExactEventTextRow.holds Tryd.pinned (OpenSpec.ofChange fnExactEventTextWrong)

/-- 'laws.FnExactScriptText': WHATEVER THE INPUT: true; the input reads as it did. -/
def fnExactScriptTextSpec : ChangeSpec := { name := "fnExactScriptText", fn := fun _ => fun
  | [d] => { results := [.lit (.bool true)], args := [d] }
  | _ => none }
def fnExactScriptTextRow : OpenClaim := { program := "ytohjjhoobikioaadoor", sum := "c36c69cf265d2fef81b17e4ce8dc1b37b147c0bac5c33c3ab8aff1244a6bdf1c", func := "loop.example/g00600/laws.FnExactScriptText", spec := "fnExactScriptText", recurses := true, named := ["internal/strconv.uint64pow10", "math/bits.deBruijn32tab", "math/bits.deBruijn64tab"], apart := false, laid := [("math/bits.deBruijn32tab", laid_math_bits_deBruijn32tab), ("math/bits.deBruijn64tab", laid_math_bits_deBruijn64tab), ("internal/strconv.uint64pow10", laid_internal_strconv_uint64pow10)] }
def FnExactScriptTextSaid : Prop := fnExactScriptTextRow.holds Tryd.pinned (OpenSpec.ofChange fnExactScriptTextSpec)

/-- ITS FALSE NEIGHBOUR: 'it returns false'. Refute it at one input. -/
def fnExactScriptTextWrong : ChangeSpec := { name := "fnExactScriptText", fn := fun _ => fun
  | [d] => { results := [.lit (.bool false)], args := [d] }
  | _ => none }
def FnExactScriptTextWrongFalsely : Prop := fnExactScriptTextRow.holds Tryd.pinned (OpenSpec.ofChange fnExactScriptTextWrong)

/-- 'laws.FnLean': WHATEVER THE INPUT: true; the input reads as it did. -/
def fnLeanSpec : ChangeSpec := { name := "fnLean", fn := fun _ => fun
  | [d] => { results := [.lit (.bool true)], args := [d] }
  | _ => none }
def fnLeanRow : OpenClaim := { program := "ytohjjhoobikioaadoor", sum := "c36c69cf265d2fef81b17e4ce8dc1b37b147c0bac5c33c3ab8aff1244a6bdf1c", func := "loop.example/g00600/laws.FnLean", spec := "fnLean", unfollowed := true, recurses := true, named := ["internal/strconv.uint64pow10", "math/bits.deBruijn32tab", "math/bits.deBruijn64tab"], apart := false, laid := [("math/bits.deBruijn32tab", laid_math_bits_deBruijn32tab), ("math/bits.deBruijn64tab", laid_math_bits_deBruijn64tab), ("internal/strconv.uint64pow10", laid_internal_strconv_uint64pow10)] }
def FnLeanSaid : Prop := fnLeanRow.holds Tryd.pinned (OpenSpec.ofChange fnLeanSpec)

/-- ITS FALSE NEIGHBOUR: 'it returns false'. Refute it at one input. -/
def fnLeanWrong : ChangeSpec := { name := "fnLean", fn := fun _ => fun
  | [d] => { results := [.lit (.bool false)], args := [d] }
  | _ => none }
def FnLeanWrongFalsely : Prop := fnLeanRow.holds Tryd.pinned (OpenSpec.ofChange fnLeanWrong)

/-- 'laws.FnExactDiff': WHATEVER THE INPUT: true; the input reads as it did. -/
def fnExactDiffSpec : ChangeSpec := { name := "fnExactDiff", fn := fun _ => fun
  | [d1, d2] => { results := [.lit (.bool true)], args := [d1, d2] }
  | _ => none }
def fnExactDiffRow : OpenClaim := { program := "ytohjjhoobikioaadoor", sum := "c36c69cf265d2fef81b17e4ce8dc1b37b147c0bac5c33c3ab8aff1244a6bdf1c", func := "loop.example/g00600/laws.FnExactDiff", spec := "fnExactDiff", unfollowed := true, recurses := true, named := ["internal/strconv.uint64pow10", "math/bits.deBruijn32tab", "math/bits.deBruijn64tab"], apart := false, laid := [("math/bits.deBruijn32tab", laid_math_bits_deBruijn32tab), ("math/bits.deBruijn64tab", laid_math_bits_deBruijn64tab), ("internal/strconv.uint64pow10", laid_internal_strconv_uint64pow10)] }
def FnExactDiffSaid : Prop := fnExactDiffRow.holds Tryd.pinned (OpenSpec.ofChange fnExactDiffSpec)

/-- ITS FALSE NEIGHBOUR: 'it returns false'. Refute it at one input. -/
def fnExactDiffWrong : ChangeSpec := { name := "fnExactDiff", fn := fun _ => fun
  | [d1, d2] => { results := [.lit (.bool false)], args := [d1, d2] }
  | _ => none }
def FnExactDiffWrongFalsely : Prop := fnExactDiffRow.holds Tryd.pinned (OpenSpec.ofChange fnExactDiffWrong)

/-- 'laws.FnExactFull': WHATEVER THE INPUT: true; the input reads as it did. -/
def fnExactFullSpec : ChangeSpec := { name := "fnExactFull", fn := fun _ => fun
  | [d] => { results := [.lit (.bool true)], args := [d] }
  | _ => none }
def fnExactFullRow : OpenClaim := { program := "ytohjjhoobikioaadoor", sum := "c36c69cf265d2fef81b17e4ce8dc1b37b147c0bac5c33c3ab8aff1244a6bdf1c", func := "loop.example/g00600/laws.FnExactFull", spec := "fnExactFull", unfollowed := true, recurses := true, named := ["internal/strconv.uint64pow10", "math/bits.deBruijn32tab", "math/bits.deBruijn64tab"], apart := false, laid := [("math/bits.deBruijn32tab", laid_math_bits_deBruijn32tab), ("math/bits.deBruijn64tab", laid_math_bits_deBruijn64tab), ("internal/strconv.uint64pow10", laid_internal_strconv_uint64pow10)] }
def FnExactFullSaid : Prop := fnExactFullRow.holds Tryd.pinned (OpenSpec.ofChange fnExactFullSpec)

/-- ITS FALSE NEIGHBOUR: 'it returns false'. Refute it at one input. -/
def fnExactFullWrong : ChangeSpec := { name := "fnExactFull", fn := fun _ => fun
  | [d] => { results := [.lit (.bool false)], args := [d] }
  | _ => none }
def FnExactFullWrongFalsely : Prop := fnExactFullRow.holds Tryd.pinned (OpenSpec.ofChange fnExactFullWrong)

/-- 'laws.FnDiff': WHATEVER THE INPUT: true; the input reads as it did. -/
def fnDiffSpec : ChangeSpec := { name := "fnDiff", fn := fun _ => fun
  | [d] => { results := [.lit (.bool true)], args := [d] }
  | _ => none }
def fnDiffRow : OpenClaim := { program := "ytohjjhoobikioaadoor", sum := "c36c69cf265d2fef81b17e4ce8dc1b37b147c0bac5c33c3ab8aff1244a6bdf1c", func := "loop.example/g00600/laws.FnDiff", spec := "fnDiff", unfollowed := true, recurses := true, named := ["internal/strconv.uint64pow10", "math/bits.deBruijn32tab", "math/bits.deBruijn64tab"], apart := false, laid := [("math/bits.deBruijn32tab", laid_math_bits_deBruijn32tab), ("math/bits.deBruijn64tab", laid_math_bits_deBruijn64tab), ("internal/strconv.uint64pow10", laid_internal_strconv_uint64pow10)] }
def FnDiffSaid : Prop := fnDiffRow.holds Tryd.pinned (OpenSpec.ofChange fnDiffSpec)

/-- ITS FALSE NEIGHBOUR: 'it returns false'. Refute it at one input. -/
def fnDiffWrong : ChangeSpec := { name := "fnDiff", fn := fun _ => fun
  | [d] => { results := [.lit (.bool false)], args := [d] }
  | _ => none }
def FnDiffWrongFalsely : Prop := fnDiffRow.holds Tryd.pinned (OpenSpec.ofChange fnDiffWrong)

/-- 'laws.FnExactPaintTo': WHATEVER THE INPUT: true; the input reads as it did. -/
def fnExactPaintToSpec : ChangeSpec := { name := "fnExactPaintTo", fn := fun _ => fun
  | [d1, d2] => { results := [.lit (.bool true)], args := [d1, d2] }
  | _ => none }
def fnExactPaintToRow : OpenClaim := { program := "ytohjjhoobikioaadoor", sum := "c36c69cf265d2fef81b17e4ce8dc1b37b147c0bac5c33c3ab8aff1244a6bdf1c", func := "loop.example/g00600/laws.FnExactPaintTo", spec := "fnExactPaintTo", unfollowed := true, recurses := true, named := ["internal/strconv.uint64pow10", "math/bits.deBruijn32tab", "math/bits.deBruijn64tab"], apart := false, laid := [("math/bits.deBruijn32tab", laid_math_bits_deBruijn32tab), ("math/bits.deBruijn64tab", laid_math_bits_deBruijn64tab), ("internal/strconv.uint64pow10", laid_internal_strconv_uint64pow10)] }
def FnExactPaintToSaid : Prop := fnExactPaintToRow.holds Tryd.pinned (OpenSpec.ofChange fnExactPaintToSpec)

/-- ITS FALSE NEIGHBOUR: 'it returns false'. Refute it at one input. -/
def fnExactPaintToWrong : ChangeSpec := { name := "fnExactPaintTo", fn := fun _ => fun
  | [d1, d2] => { results := [.lit (.bool false)], args := [d1, d2] }
  | _ => none }
def FnExactPaintToWrongFalsely : Prop := fnExactPaintToRow.holds Tryd.pinned (OpenSpec.ofChange fnExactPaintToWrong)

/-- 'laws.FnExactPaintAll': WHATEVER THE INPUT: true; the input reads as it did. -/
def fnExactPaintAllSpec : ChangeSpec := { name := "fnExactPaintAll", fn := fun _ => fun
  | [d1, d2] => { results := [.lit (.bool true)], args := [d1, d2] }
  | _ => none }
def fnExactPaintAllRow : OpenClaim := { program := "ytohjjhoobikioaadoor", sum := "c36c69cf265d2fef81b17e4ce8dc1b37b147c0bac5c33c3ab8aff1244a6bdf1c", func := "loop.example/g00600/laws.FnExactPaintAll", spec := "fnExactPaintAll", unfollowed := true, recurses := true, named := ["internal/strconv.uint64pow10", "math/bits.deBruijn32tab", "math/bits.deBruijn64tab"], apart := false, laid := [("math/bits.deBruijn32tab", laid_math_bits_deBruijn32tab), ("math/bits.deBruijn64tab", laid_math_bits_deBruijn64tab), ("internal/strconv.uint64pow10", laid_internal_strconv_uint64pow10)] }
def FnExactPaintAllSaid : Prop := fnExactPaintAllRow.holds Tryd.pinned (OpenSpec.ofChange fnExactPaintAllSpec)

/-- ITS FALSE NEIGHBOUR: 'it returns false'. Refute it at one input. -/
def fnExactPaintAllWrong : ChangeSpec := { name := "fnExactPaintAll", fn := fun _ => fun
  | [d1, d2] => { results := [.lit (.bool false)], args := [d1, d2] }
  | _ => none }
def FnExactPaintAllWrongFalsely : Prop := fnExactPaintAllRow.holds Tryd.pinned (OpenSpec.ofChange fnExactPaintAllWrong)

/-- 'laws.FnFullScreen': WHATEVER THE INPUT: true; the input reads as it did. -/
def fnFullScreenSpec : ChangeSpec := { name := "fnFullScreen", fn := fun _ => fun
  | [d] => { results := [.lit (.bool true)], args := [d] }
  | _ => none }
def fnFullScreenRow : OpenClaim := { program := "ytohjjhoobikioaadoor", sum := "c36c69cf265d2fef81b17e4ce8dc1b37b147c0bac5c33c3ab8aff1244a6bdf1c", func := "loop.example/g00600/laws.FnFullScreen", spec := "fnFullScreen", unfollowed := true, recurses := true, named := ["internal/strconv.uint64pow10", "math/bits.deBruijn32tab", "math/bits.deBruijn64tab"], apart := false, laid := [("math/bits.deBruijn32tab", laid_math_bits_deBruijn32tab), ("math/bits.deBruijn64tab", laid_math_bits_deBruijn64tab), ("internal/strconv.uint64pow10", laid_internal_strconv_uint64pow10)] }
def FnFullScreenSaid : Prop := fnFullScreenRow.holds Tryd.pinned (OpenSpec.ofChange fnFullScreenSpec)

/-- ITS FALSE NEIGHBOUR: 'it returns false'. Refute it at one input. -/
def fnFullScreenWrong : ChangeSpec := { name := "fnFullScreen", fn := fun _ => fun
  | [d] => { results := [.lit (.bool false)], args := [d] }
  | _ => none }
def FnFullScreenWrongFalsely : Prop := fnFullScreenRow.holds Tryd.pinned (OpenSpec.ofChange fnFullScreenWrong)

/-- 'laws.FnPaint': WHATEVER THE INPUT: true; the input reads as it did. -/
def fnPaintSpec : ChangeSpec := { name := "fnPaint", fn := fun _ => fun
  | [d] => { results := [.lit (.bool true)], args := [d] }
  | _ => none }
def fnPaintRow : OpenClaim := { program := "ytohjjhoobikioaadoor", sum := "c36c69cf265d2fef81b17e4ce8dc1b37b147c0bac5c33c3ab8aff1244a6bdf1c", func := "loop.example/g00600/laws.FnPaint", spec := "fnPaint", unfollowed := true, recurses := true, named := ["internal/strconv.uint64pow10", "math/bits.deBruijn32tab", "math/bits.deBruijn64tab"], apart := false, laid := [("math/bits.deBruijn32tab", laid_math_bits_deBruijn32tab), ("math/bits.deBruijn64tab", laid_math_bits_deBruijn64tab), ("internal/strconv.uint64pow10", laid_internal_strconv_uint64pow10)] }
def FnPaintSaid : Prop := fnPaintRow.holds Tryd.pinned (OpenSpec.ofChange fnPaintSpec)

/-- ITS FALSE NEIGHBOUR: 'it returns false'. Refute it at one input. -/
def fnPaintWrong : ChangeSpec := { name := "fnPaint", fn := fun _ => fun
  | [d] => { results := [.lit (.bool false)], args := [d] }
  | _ => none }
def FnPaintWrongFalsely : Prop := fnPaintRow.holds Tryd.pinned (OpenSpec.ofChange fnPaintWrong)

/- THE SECOND FORM. 'bulk': how many values and letters a reading holds, each counted each time it is reached (what is shared counts as often as it is met; a slice's spare places count too). A statement '..UptoSaid' is the law's where the arguments, and the package variables that the reading takes, are together of bulk at most 1048576: NARROWER than '..Said'. Prove '..Said' where nothing that the law and all that it calls make is longer than what came in: it says more and counts as full. Else prove '..UptoSaid'. A law counts once. -/
mutual
def uptoBulk {H : Type} : DataW H → Nat
  | .lit (.string bytes) => bytes.length + 1
  | .lit _ => 1
  | .nil => 1
  | .ptr d => uptoBulk d + 1
  | .slice elems spare => uptoBulkAll elems + uptoBulkAll spare + 1
  | .agg parts => uptoBulkAll parts + 1
  | .iface _ d => uptoBulk d + 1
  | .map entries => uptoBulkEntries entries + 1
  | .held _ => 1
def uptoBulkAll {H : Type} : List (DataW H) → Nat
  | [] => 0
  | d :: r => uptoBulk d + uptoBulkAll r
def uptoBulkEntries {H : Type} : List (Lit × DataW H) → Nat
  | [] => 0
  | x :: r => uptoBulkEntry x + uptoBulkEntries r
def uptoBulkEntry {H : Type} : Lit × DataW H → Nat
  | (.string bytes, d) => bytes.length + uptoBulk d + 1
  | (_, d) => uptoBulk d + 1
 end
def uptoSmall : (H : Type) → List (DataW H) → Bool := fun _ ds => decide (uptoBulkAll ds ≤ 1048576)
def OpenSpec.upto (s : _root_.Go.ChangeSpec) : _root_.Go.OpenSpec := { _root_.Go.OpenSpec.ofChange s with cond := some uptoSmall }

/-- 'laws.FnExactEventText', WHERE WHAT IT READS IS OF BULK AT MOST 1048576: true; the input reads as it did. -/
def fnExactEventTextUptoRow : OpenClaim := { program := "ytohjjhoobikioaadoor", sum := "c36c69cf265d2fef81b17e4ce8dc1b37b147c0bac5c33c3ab8aff1244a6bdf1c", func := "loop.example/g00600/laws.FnExactEventText", spec := "fnExactEventText", recurses := true, named := ["internal/strconv.uint64pow10", "math/bits.deBruijn32tab", "math/bits.deBruijn64tab"], apart := false, laid := [("math/bits.deBruijn32tab", laid_math_bits_deBruijn32tab), ("math/bits.deBruijn64tab", laid_math_bits_deBruijn64tab), ("internal/strconv.uint64pow10", laid_internal_strconv_uint64pow10)], narrowed := true }
def FnExactEventTextUptoSaid : Prop := fnExactEventTextUptoRow.holds Tryd.pinned (OpenSpec.upto fnExactEventTextSpec)

/-- 'laws.FnExactScriptText', WHERE WHAT IT READS IS OF BULK AT MOST 1048576: true; the input reads as it did. -/
def fnExactScriptTextUptoRow : OpenClaim := { program := "ytohjjhoobikioaadoor", sum := "c36c69cf265d2fef81b17e4ce8dc1b37b147c0bac5c33c3ab8aff1244a6bdf1c", func := "loop.example/g00600/laws.FnExactScriptText", spec := "fnExactScriptText", recurses := true, named := ["internal/strconv.uint64pow10", "math/bits.deBruijn32tab", "math/bits.deBruijn64tab"], apart := false, laid := [("math/bits.deBruijn32tab", laid_math_bits_deBruijn32tab), ("math/bits.deBruijn64tab", laid_math_bits_deBruijn64tab), ("internal/strconv.uint64pow10", laid_internal_strconv_uint64pow10)], narrowed := true }
def FnExactScriptTextUptoSaid : Prop := fnExactScriptTextUptoRow.holds Tryd.pinned (OpenSpec.upto fnExactScriptTextSpec)

/-- 'laws.FnLean', WHERE WHAT IT READS IS OF BULK AT MOST 1048576: true; the input reads as it did. -/
def fnLeanUptoRow : OpenClaim := { program := "ytohjjhoobikioaadoor", sum := "c36c69cf265d2fef81b17e4ce8dc1b37b147c0bac5c33c3ab8aff1244a6bdf1c", func := "loop.example/g00600/laws.FnLean", spec := "fnLean", unfollowed := true, recurses := true, named := ["internal/strconv.uint64pow10", "math/bits.deBruijn32tab", "math/bits.deBruijn64tab"], apart := false, laid := [("math/bits.deBruijn32tab", laid_math_bits_deBruijn32tab), ("math/bits.deBruijn64tab", laid_math_bits_deBruijn64tab), ("internal/strconv.uint64pow10", laid_internal_strconv_uint64pow10)], narrowed := true }
def FnLeanUptoSaid : Prop := fnLeanUptoRow.holds Tryd.pinned (OpenSpec.upto fnLeanSpec)

/-- 'laws.FnExactDiff', WHERE WHAT IT READS IS OF BULK AT MOST 1048576: true; the input reads as it did. -/
def fnExactDiffUptoRow : OpenClaim := { program := "ytohjjhoobikioaadoor", sum := "c36c69cf265d2fef81b17e4ce8dc1b37b147c0bac5c33c3ab8aff1244a6bdf1c", func := "loop.example/g00600/laws.FnExactDiff", spec := "fnExactDiff", unfollowed := true, recurses := true, named := ["internal/strconv.uint64pow10", "math/bits.deBruijn32tab", "math/bits.deBruijn64tab"], apart := false, laid := [("math/bits.deBruijn32tab", laid_math_bits_deBruijn32tab), ("math/bits.deBruijn64tab", laid_math_bits_deBruijn64tab), ("internal/strconv.uint64pow10", laid_internal_strconv_uint64pow10)], narrowed := true }
def FnExactDiffUptoSaid : Prop := fnExactDiffUptoRow.holds Tryd.pinned (OpenSpec.upto fnExactDiffSpec)

/-- 'laws.FnExactFull', WHERE WHAT IT READS IS OF BULK AT MOST 1048576: true; the input reads as it did. -/
def fnExactFullUptoRow : OpenClaim := { program := "ytohjjhoobikioaadoor", sum := "c36c69cf265d2fef81b17e4ce8dc1b37b147c0bac5c33c3ab8aff1244a6bdf1c", func := "loop.example/g00600/laws.FnExactFull", spec := "fnExactFull", unfollowed := true, recurses := true, named := ["internal/strconv.uint64pow10", "math/bits.deBruijn32tab", "math/bits.deBruijn64tab"], apart := false, laid := [("math/bits.deBruijn32tab", laid_math_bits_deBruijn32tab), ("math/bits.deBruijn64tab", laid_math_bits_deBruijn64tab), ("internal/strconv.uint64pow10", laid_internal_strconv_uint64pow10)], narrowed := true }
def FnExactFullUptoSaid : Prop := fnExactFullUptoRow.holds Tryd.pinned (OpenSpec.upto fnExactFullSpec)

/-- 'laws.FnDiff', WHERE WHAT IT READS IS OF BULK AT MOST 1048576: true; the input reads as it did. -/
def fnDiffUptoRow : OpenClaim := { program := "ytohjjhoobikioaadoor", sum := "c36c69cf265d2fef81b17e4ce8dc1b37b147c0bac5c33c3ab8aff1244a6bdf1c", func := "loop.example/g00600/laws.FnDiff", spec := "fnDiff", unfollowed := true, recurses := true, named := ["internal/strconv.uint64pow10", "math/bits.deBruijn32tab", "math/bits.deBruijn64tab"], apart := false, laid := [("math/bits.deBruijn32tab", laid_math_bits_deBruijn32tab), ("math/bits.deBruijn64tab", laid_math_bits_deBruijn64tab), ("internal/strconv.uint64pow10", laid_internal_strconv_uint64pow10)], narrowed := true }
def FnDiffUptoSaid : Prop := fnDiffUptoRow.holds Tryd.pinned (OpenSpec.upto fnDiffSpec)

/-- 'laws.FnExactPaintTo', WHERE WHAT IT READS IS OF BULK AT MOST 1048576: true; the input reads as it did. -/
def fnExactPaintToUptoRow : OpenClaim := { program := "ytohjjhoobikioaadoor", sum := "c36c69cf265d2fef81b17e4ce8dc1b37b147c0bac5c33c3ab8aff1244a6bdf1c", func := "loop.example/g00600/laws.FnExactPaintTo", spec := "fnExactPaintTo", unfollowed := true, recurses := true, named := ["internal/strconv.uint64pow10", "math/bits.deBruijn32tab", "math/bits.deBruijn64tab"], apart := false, laid := [("math/bits.deBruijn32tab", laid_math_bits_deBruijn32tab), ("math/bits.deBruijn64tab", laid_math_bits_deBruijn64tab), ("internal/strconv.uint64pow10", laid_internal_strconv_uint64pow10)], narrowed := true }
def FnExactPaintToUptoSaid : Prop := fnExactPaintToUptoRow.holds Tryd.pinned (OpenSpec.upto fnExactPaintToSpec)

/-- 'laws.FnExactPaintAll', WHERE WHAT IT READS IS OF BULK AT MOST 1048576: true; the input reads as it did. -/
def fnExactPaintAllUptoRow : OpenClaim := { program := "ytohjjhoobikioaadoor", sum := "c36c69cf265d2fef81b17e4ce8dc1b37b147c0bac5c33c3ab8aff1244a6bdf1c", func := "loop.example/g00600/laws.FnExactPaintAll", spec := "fnExactPaintAll", unfollowed := true, recurses := true, named := ["internal/strconv.uint64pow10", "math/bits.deBruijn32tab", "math/bits.deBruijn64tab"], apart := false, laid := [("math/bits.deBruijn32tab", laid_math_bits_deBruijn32tab), ("math/bits.deBruijn64tab", laid_math_bits_deBruijn64tab), ("internal/strconv.uint64pow10", laid_internal_strconv_uint64pow10)], narrowed := true }
def FnExactPaintAllUptoSaid : Prop := fnExactPaintAllUptoRow.holds Tryd.pinned (OpenSpec.upto fnExactPaintAllSpec)

/-- 'laws.FnFullScreen', WHERE WHAT IT READS IS OF BULK AT MOST 1048576: true; the input reads as it did. -/
def fnFullScreenUptoRow : OpenClaim := { program := "ytohjjhoobikioaadoor", sum := "c36c69cf265d2fef81b17e4ce8dc1b37b147c0bac5c33c3ab8aff1244a6bdf1c", func := "loop.example/g00600/laws.FnFullScreen", spec := "fnFullScreen", unfollowed := true, recurses := true, named := ["internal/strconv.uint64pow10", "math/bits.deBruijn32tab", "math/bits.deBruijn64tab"], apart := false, laid := [("math/bits.deBruijn32tab", laid_math_bits_deBruijn32tab), ("math/bits.deBruijn64tab", laid_math_bits_deBruijn64tab), ("internal/strconv.uint64pow10", laid_internal_strconv_uint64pow10)], narrowed := true }
def FnFullScreenUptoSaid : Prop := fnFullScreenUptoRow.holds Tryd.pinned (OpenSpec.upto fnFullScreenSpec)

/-- 'laws.FnPaint', WHERE WHAT IT READS IS OF BULK AT MOST 1048576: true; the input reads as it did. -/
def fnPaintUptoRow : OpenClaim := { program := "ytohjjhoobikioaadoor", sum := "c36c69cf265d2fef81b17e4ce8dc1b37b147c0bac5c33c3ab8aff1244a6bdf1c", func := "loop.example/g00600/laws.FnPaint", spec := "fnPaint", unfollowed := true, recurses := true, named := ["internal/strconv.uint64pow10", "math/bits.deBruijn32tab", "math/bits.deBruijn64tab"], apart := false, laid := [("math/bits.deBruijn32tab", laid_math_bits_deBruijn32tab), ("math/bits.deBruijn64tab", laid_math_bits_deBruijn64tab), ("internal/strconv.uint64pow10", laid_internal_strconv_uint64pow10)], narrowed := true }
def FnPaintUptoSaid : Prop := fnPaintUptoRow.holds Tryd.pinned (OpenSpec.upto fnPaintSpec)

end Rows
end Go.Proofs.YtohjjhoobikioaaDoor

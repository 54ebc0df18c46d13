/-
  DERIVED. GIVEN WITH THE SEED: THE CARDS: each row of YtjhdikdopdcfcaaGreatDoorRows.lean that lists a variable, with what it lists TIED to the program's text (the seventh form; the later family's looks); each row that meets fmt, with fmt's text TOLD by the authors' own Lean function (tested against real Go, not proved from fmt's source: count such statements apart). THE CARD IS WHAT COUNTS. Prove the row's statement (the work); the ties are given (YtjhdikdopdcfcaaGreatDoorTie.lean); close each card by the builder's one call (the guide's Derived/Test/ToyasCard.lean, 'card_holds'). Laid BY PROGRAM, IN A SANDBOX (cutbox-door.mjs). By AI agents, Wed Nov 11 2026. No macro, syntax, notation, axiom, sorry.
-/
import Derived.Test.YtjhdikdopdcfcaaGreatDoorRows
import GoSem.ClaimSeven
namespace Go.Proofs.YtjhdikdopdcfcaaGreatDoor
namespace Rows

/-- THE TIED CARD OF 'laws.FnUndoKey'. -/
def fnUndoKeyCard : Claim7 := { stood := { row := fnUndoKeyRow, standIns := [], harness := (true, "ba73ef8f3ed86be03f0bec309c8ff9356b41ebe1f9beb12e43904e5a699e5a7b"), looks := false }, kinds := [], alts := [], laidByText := true, laidKinds := [.data, .pinned], laidTests := true, laidLooks := .later }
def FnUndoKeyCardSaid : Prop := Claim7.holds Tryz.pinned (.plain (OpenSpec.ofChange fnUndoKeySpec)) fnUndoKeyCard

/-- THE TIED CARD OF 'laws.FnSearch'. -/
def fnSearchCard : Claim7 := { stood := { row := fnSearchRow, standIns := [], harness := (true, "ba73ef8f3ed86be03f0bec309c8ff9356b41ebe1f9beb12e43904e5a699e5a7b"), looks := false }, kinds := [], alts := [], laidByText := true, laidKinds := [.data, .pinned], laidTests := true, laidLooks := .later }
def FnSearchCardSaid : Prop := Claim7.holds Tryz.pinned (.plain (OpenSpec.ofChange fnSearchSpec)) fnSearchCard

/-- THE SECOND FORM's CARD OF 'laws.FnUndoKey'. -/
def fnUndoKeyUptoCard : Claim7 := { stood := { row := fnUndoKeyUptoRow, standIns := [], harness := (true, "ba73ef8f3ed86be03f0bec309c8ff9356b41ebe1f9beb12e43904e5a699e5a7b"), looks := false }, kinds := [], alts := [], laidByText := true, laidKinds := [.data, .pinned], laidTests := true, laidLooks := .later }
def FnUndoKeyUptoCardSaid : Prop := Claim7.holds Tryz.pinned (.plain (OpenSpec.upto fnUndoKeySpec)) fnUndoKeyUptoCard

/-- THE SECOND FORM's CARD OF 'laws.FnSearch'. -/
def fnSearchUptoCard : Claim7 := { stood := { row := fnSearchUptoRow, standIns := [], harness := (true, "ba73ef8f3ed86be03f0bec309c8ff9356b41ebe1f9beb12e43904e5a699e5a7b"), looks := false }, kinds := [], alts := [], laidByText := true, laidKinds := [.data, .pinned], laidTests := true, laidLooks := .later }
def FnSearchUptoCardSaid : Prop := Claim7.holds Tryz.pinned (.plain (OpenSpec.upto fnSearchSpec)) fnSearchUptoCard
end Rows
end Go.Proofs.YtjhdikdopdcfcaaGreatDoor

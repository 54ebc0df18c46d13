/-
  DERIVED. GIVEN WITH THE SEED: THE CARDS: each row of YtnmneoekpikpkaaGreatDoorRows.lean that lists a variable, with what it lists TIED to the program's text (the seventh form; the later family's looks); each row that meets fmt, with fmt's text TOLD by the authors' own Lean function (tested against real Go, not proved from fmt's source: count such statements apart). THE CARD IS WHAT COUNTS. Prove the row's statement (the work); the ties are given (YtnmneoekpikpkaaGreatDoorTie.lean); close each card by the builder's one call (the guide's Derived/Test/ToyasCard.lean, 'card_holds'). Laid BY PROGRAM, IN A SANDBOX (cutbox-door.mjs). By AI agents, Wed Nov 11 2026. No macro, syntax, notation, axiom, sorry.
-/
import Derived.Test.YtnmneoekpikpkaaGreatDoorRows
import GoSem.ClaimSeven
namespace Go.Proofs.YtnmneoekpikpkaaGreatDoor
namespace Rows

/-- THE TIED CARD OF 'laws.FnUndoKey'. -/
def fnUndoKeyCard : Claim7 := { stood := { row := fnUndoKeyRow, standIns := [], harness := (true, "bcbdf0f4404623b66a5e69c7fbd61a0451c51e9fbc5890c5de6f4d0bafc0f499"), looks := false }, kinds := [], alts := [], laidByText := true, laidKinds := [.data, .pinned], laidTests := true, laidLooks := .later }
def FnUndoKeyCardSaid : Prop := Claim7.holds Tryz.pinned (.plain (OpenSpec.ofChange fnUndoKeySpec)) fnUndoKeyCard

/-- THE TIED CARD OF 'laws.FnNav'. -/
def fnNavCard : Claim7 := { stood := { row := fnNavRow, standIns := [], harness := (true, "bcbdf0f4404623b66a5e69c7fbd61a0451c51e9fbc5890c5de6f4d0bafc0f499"), looks := false }, kinds := [], alts := [], laidByText := true, laidKinds := [.data, .pinned], laidTests := true, laidLooks := .later }
def FnNavCardSaid : Prop := Claim7.holds Tryz.pinned (.plain (OpenSpec.ofChange fnNavSpec)) fnNavCard

/-- THE TIED CARD OF 'laws.FnSearch'. -/
def fnSearchCard : Claim7 := { stood := { row := fnSearchRow, standIns := [], harness := (true, "bcbdf0f4404623b66a5e69c7fbd61a0451c51e9fbc5890c5de6f4d0bafc0f499"), looks := false }, kinds := [], alts := [], laidByText := true, laidKinds := [.data, .pinned], laidTests := true, laidLooks := .later }
def FnSearchCardSaid : Prop := Claim7.holds Tryz.pinned (.plain (OpenSpec.ofChange fnSearchSpec)) fnSearchCard

/-- THE TIED CARD OF 'laws.FnViChange'. -/
def fnViChangeCard : Claim7 := { stood := { row := fnViChangeRow, standIns := [], harness := (true, "bcbdf0f4404623b66a5e69c7fbd61a0451c51e9fbc5890c5de6f4d0bafc0f499"), looks := false }, kinds := [], alts := [], laidByText := true, laidKinds := [.data, .pinned], laidTests := true, laidLooks := .later }
def FnViChangeCardSaid : Prop := Claim7.holds Tryz.pinned (.plain (OpenSpec.ofChange fnViChangeSpec)) fnViChangeCard

/-- THE TIED CARD OF 'laws.FnViLine'. -/
def fnViLineCard : Claim7 := { stood := { row := fnViLineRow, standIns := [], harness := (true, "bcbdf0f4404623b66a5e69c7fbd61a0451c51e9fbc5890c5de6f4d0bafc0f499"), looks := false }, kinds := [], alts := [], laidByText := true, laidKinds := [.data, .pinned], laidTests := true, laidLooks := .later }
def FnViLineCardSaid : Prop := Claim7.holds Tryz.pinned (.plain (OpenSpec.ofChange fnViLineSpec)) fnViLineCard

/-- THE SECOND FORM's CARD OF 'laws.FnUndoKey'. -/
def fnUndoKeyUptoCard : Claim7 := { stood := { row := fnUndoKeyUptoRow, standIns := [], harness := (true, "bcbdf0f4404623b66a5e69c7fbd61a0451c51e9fbc5890c5de6f4d0bafc0f499"), looks := false }, kinds := [], alts := [], laidByText := true, laidKinds := [.data, .pinned], laidTests := true, laidLooks := .later }
def FnUndoKeyUptoCardSaid : Prop := Claim7.holds Tryz.pinned (.plain (OpenSpec.upto fnUndoKeySpec)) fnUndoKeyUptoCard

/-- THE SECOND FORM's CARD OF 'laws.FnNav'. -/
def fnNavUptoCard : Claim7 := { stood := { row := fnNavUptoRow, standIns := [], harness := (true, "bcbdf0f4404623b66a5e69c7fbd61a0451c51e9fbc5890c5de6f4d0bafc0f499"), looks := false }, kinds := [], alts := [], laidByText := true, laidKinds := [.data, .pinned], laidTests := true, laidLooks := .later }
def FnNavUptoCardSaid : Prop := Claim7.holds Tryz.pinned (.plain (OpenSpec.upto fnNavSpec)) fnNavUptoCard

/-- THE SECOND FORM's CARD OF 'laws.FnSearch'. -/
def fnSearchUptoCard : Claim7 := { stood := { row := fnSearchUptoRow, standIns := [], harness := (true, "bcbdf0f4404623b66a5e69c7fbd61a0451c51e9fbc5890c5de6f4d0bafc0f499"), looks := false }, kinds := [], alts := [], laidByText := true, laidKinds := [.data, .pinned], laidTests := true, laidLooks := .later }
def FnSearchUptoCardSaid : Prop := Claim7.holds Tryz.pinned (.plain (OpenSpec.upto fnSearchSpec)) fnSearchUptoCard

/-- THE SECOND FORM's CARD OF 'laws.FnViChange'. -/
def fnViChangeUptoCard : Claim7 := { stood := { row := fnViChangeUptoRow, standIns := [], harness := (true, "bcbdf0f4404623b66a5e69c7fbd61a0451c51e9fbc5890c5de6f4d0bafc0f499"), looks := false }, kinds := [], alts := [], laidByText := true, laidKinds := [.data, .pinned], laidTests := true, laidLooks := .later }
def FnViChangeUptoCardSaid : Prop := Claim7.holds Tryz.pinned (.plain (OpenSpec.upto fnViChangeSpec)) fnViChangeUptoCard

/-- THE SECOND FORM's CARD OF 'laws.FnViLine'. -/
def fnViLineUptoCard : Claim7 := { stood := { row := fnViLineUptoRow, standIns := [], harness := (true, "bcbdf0f4404623b66a5e69c7fbd61a0451c51e9fbc5890c5de6f4d0bafc0f499"), looks := false }, kinds := [], alts := [], laidByText := true, laidKinds := [.data, .pinned], laidTests := true, laidLooks := .later }
def FnViLineUptoCardSaid : Prop := Claim7.holds Tryz.pinned (.plain (OpenSpec.upto fnViLineSpec)) fnViLineUptoCard
end Rows
end Go.Proofs.YtnmneoekpikpkaaGreatDoor

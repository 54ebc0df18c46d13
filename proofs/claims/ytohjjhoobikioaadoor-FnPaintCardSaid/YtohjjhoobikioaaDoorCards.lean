/-
  DERIVED. GIVEN WITH THE SEED: THE CARDS: each row of YtohjjhoobikioaaDoorRows.lean that lists a variable, with what it lists TIED to the program's text (the seventh form; the later family's looks); each row that meets fmt, with fmt's text TOLD by the authors' own Lean function (tested against real Go, not proved from fmt's source: count such statements apart). THE CARD IS WHAT COUNTS. Prove the row's statement (the work); the ties are given (YtohjjhoobikioaaDoorTie.lean); close each card by the builder's one call (the guide's Derived/Test/ToyasCard.lean, 'card_holds'). Laid BY PROGRAM, IN A SANDBOX (cutbox-door.mjs). By AI agents, Wed Nov 11 2026. No macro, syntax, notation, axiom, sorry.
-/
import Derived.Test.YtohjjhoobikioaaDoorRows
import GoSem.ClaimSeven
namespace Go.Proofs.YtohjjhoobikioaaDoor
namespace Rows

/-- THE TIED CARD OF 'laws.FnExactEventText'. -/
def fnExactEventTextCard : Claim7 := { stood := { row := fnExactEventTextRow, standIns := [], harness := (true, "9f5b8d769802e23be2b9447b47f6d2737d179980574a8d8ed208bd3e312f3500"), looks := false }, kinds := [], alts := [], laidByText := true, laidKinds := [.data, .data, .data], laidTests := true, laidLooks := .later }
def FnExactEventTextCardSaid : Prop := Claim7.holds Tryd.pinned (.plain (OpenSpec.ofChange fnExactEventTextSpec)) fnExactEventTextCard

/-- THE TIED CARD OF 'laws.FnExactScriptText'. -/
def fnExactScriptTextCard : Claim7 := { stood := { row := fnExactScriptTextRow, standIns := [], harness := (true, "9f5b8d769802e23be2b9447b47f6d2737d179980574a8d8ed208bd3e312f3500"), looks := false }, kinds := [], alts := [], laidByText := true, laidKinds := [.data, .data, .data], laidTests := true, laidLooks := .later }
def FnExactScriptTextCardSaid : Prop := Claim7.holds Tryd.pinned (.plain (OpenSpec.ofChange fnExactScriptTextSpec)) fnExactScriptTextCard

/-- THE TIED CARD OF 'laws.FnLean'. -/
def fnLeanCard : Claim7 := { stood := { row := fnLeanRow, standIns := [], harness := (true, "9f5b8d769802e23be2b9447b47f6d2737d179980574a8d8ed208bd3e312f3500"), looks := false }, kinds := [], alts := [], laidByText := true, laidKinds := [.data, .data, .data], laidTests := true, laidLooks := .later }
def FnLeanCardSaid : Prop := Claim7.holds Tryd.pinned (.plain (OpenSpec.ofChange fnLeanSpec)) fnLeanCard

/-- THE TIED CARD OF 'laws.FnExactDiff'. -/
def fnExactDiffCard : Claim7 := { stood := { row := fnExactDiffRow, standIns := [], harness := (true, "9f5b8d769802e23be2b9447b47f6d2737d179980574a8d8ed208bd3e312f3500"), looks := false }, kinds := [], alts := [], laidByText := true, laidKinds := [.data, .data, .data], laidTests := true, laidLooks := .later }
def FnExactDiffCardSaid : Prop := Claim7.holds Tryd.pinned (.plain (OpenSpec.ofChange fnExactDiffSpec)) fnExactDiffCard

/-- THE TIED CARD OF 'laws.FnExactFull'. -/
def fnExactFullCard : Claim7 := { stood := { row := fnExactFullRow, standIns := [], harness := (true, "9f5b8d769802e23be2b9447b47f6d2737d179980574a8d8ed208bd3e312f3500"), looks := false }, kinds := [], alts := [], laidByText := true, laidKinds := [.data, .data, .data], laidTests := true, laidLooks := .later }
def FnExactFullCardSaid : Prop := Claim7.holds Tryd.pinned (.plain (OpenSpec.ofChange fnExactFullSpec)) fnExactFullCard

/-- THE TIED CARD OF 'laws.FnDiff'. -/
def fnDiffCard : Claim7 := { stood := { row := fnDiffRow, standIns := [], harness := (true, "9f5b8d769802e23be2b9447b47f6d2737d179980574a8d8ed208bd3e312f3500"), looks := false }, kinds := [], alts := [], laidByText := true, laidKinds := [.data, .data, .data], laidTests := true, laidLooks := .later }
def FnDiffCardSaid : Prop := Claim7.holds Tryd.pinned (.plain (OpenSpec.ofChange fnDiffSpec)) fnDiffCard

/-- THE TIED CARD OF 'laws.FnExactPaintTo'. -/
def fnExactPaintToCard : Claim7 := { stood := { row := fnExactPaintToRow, standIns := [], harness := (true, "9f5b8d769802e23be2b9447b47f6d2737d179980574a8d8ed208bd3e312f3500"), looks := false }, kinds := [], alts := [], laidByText := true, laidKinds := [.data, .data, .data], laidTests := true, laidLooks := .later }
def FnExactPaintToCardSaid : Prop := Claim7.holds Tryd.pinned (.plain (OpenSpec.ofChange fnExactPaintToSpec)) fnExactPaintToCard

/-- THE TIED CARD OF 'laws.FnExactPaintAll'. -/
def fnExactPaintAllCard : Claim7 := { stood := { row := fnExactPaintAllRow, standIns := [], harness := (true, "9f5b8d769802e23be2b9447b47f6d2737d179980574a8d8ed208bd3e312f3500"), looks := false }, kinds := [], alts := [], laidByText := true, laidKinds := [.data, .data, .data], laidTests := true, laidLooks := .later }
def FnExactPaintAllCardSaid : Prop := Claim7.holds Tryd.pinned (.plain (OpenSpec.ofChange fnExactPaintAllSpec)) fnExactPaintAllCard

/-- THE TIED CARD OF 'laws.FnFullScreen'. -/
def fnFullScreenCard : Claim7 := { stood := { row := fnFullScreenRow, standIns := [], harness := (true, "9f5b8d769802e23be2b9447b47f6d2737d179980574a8d8ed208bd3e312f3500"), looks := false }, kinds := [], alts := [], laidByText := true, laidKinds := [.data, .data, .data], laidTests := true, laidLooks := .later }
def FnFullScreenCardSaid : Prop := Claim7.holds Tryd.pinned (.plain (OpenSpec.ofChange fnFullScreenSpec)) fnFullScreenCard

/-- THE TIED CARD OF 'laws.FnPaint'. -/
def fnPaintCard : Claim7 := { stood := { row := fnPaintRow, standIns := [], harness := (true, "9f5b8d769802e23be2b9447b47f6d2737d179980574a8d8ed208bd3e312f3500"), looks := false }, kinds := [], alts := [], laidByText := true, laidKinds := [.data, .data, .data], laidTests := true, laidLooks := .later }
def FnPaintCardSaid : Prop := Claim7.holds Tryd.pinned (.plain (OpenSpec.ofChange fnPaintSpec)) fnPaintCard

/-- THE SECOND FORM's CARD OF 'laws.FnExactEventText'. -/
def fnExactEventTextUptoCard : Claim7 := { stood := { row := fnExactEventTextUptoRow, standIns := [], harness := (true, "9f5b8d769802e23be2b9447b47f6d2737d179980574a8d8ed208bd3e312f3500"), looks := false }, kinds := [], alts := [], laidByText := true, laidKinds := [.data, .data, .data], laidTests := true, laidLooks := .later }
def FnExactEventTextUptoCardSaid : Prop := Claim7.holds Tryd.pinned (.plain (OpenSpec.upto fnExactEventTextSpec)) fnExactEventTextUptoCard

/-- THE SECOND FORM's CARD OF 'laws.FnExactScriptText'. -/
def fnExactScriptTextUptoCard : Claim7 := { stood := { row := fnExactScriptTextUptoRow, standIns := [], harness := (true, "9f5b8d769802e23be2b9447b47f6d2737d179980574a8d8ed208bd3e312f3500"), looks := false }, kinds := [], alts := [], laidByText := true, laidKinds := [.data, .data, .data], laidTests := true, laidLooks := .later }
def FnExactScriptTextUptoCardSaid : Prop := Claim7.holds Tryd.pinned (.plain (OpenSpec.upto fnExactScriptTextSpec)) fnExactScriptTextUptoCard

/-- THE SECOND FORM's CARD OF 'laws.FnLean'. -/
def fnLeanUptoCard : Claim7 := { stood := { row := fnLeanUptoRow, standIns := [], harness := (true, "9f5b8d769802e23be2b9447b47f6d2737d179980574a8d8ed208bd3e312f3500"), looks := false }, kinds := [], alts := [], laidByText := true, laidKinds := [.data, .data, .data], laidTests := true, laidLooks := .later }
def FnLeanUptoCardSaid : Prop := Claim7.holds Tryd.pinned (.plain (OpenSpec.upto fnLeanSpec)) fnLeanUptoCard

/-- THE SECOND FORM's CARD OF 'laws.FnExactDiff'. -/
def fnExactDiffUptoCard : Claim7 := { stood := { row := fnExactDiffUptoRow, standIns := [], harness := (true, "9f5b8d769802e23be2b9447b47f6d2737d179980574a8d8ed208bd3e312f3500"), looks := false }, kinds := [], alts := [], laidByText := true, laidKinds := [.data, .data, .data], laidTests := true, laidLooks := .later }
def FnExactDiffUptoCardSaid : Prop := Claim7.holds Tryd.pinned (.plain (OpenSpec.upto fnExactDiffSpec)) fnExactDiffUptoCard

/-- THE SECOND FORM's CARD OF 'laws.FnExactFull'. -/
def fnExactFullUptoCard : Claim7 := { stood := { row := fnExactFullUptoRow, standIns := [], harness := (true, "9f5b8d769802e23be2b9447b47f6d2737d179980574a8d8ed208bd3e312f3500"), looks := false }, kinds := [], alts := [], laidByText := true, laidKinds := [.data, .data, .data], laidTests := true, laidLooks := .later }
def FnExactFullUptoCardSaid : Prop := Claim7.holds Tryd.pinned (.plain (OpenSpec.upto fnExactFullSpec)) fnExactFullUptoCard

/-- THE SECOND FORM's CARD OF 'laws.FnDiff'. -/
def fnDiffUptoCard : Claim7 := { stood := { row := fnDiffUptoRow, standIns := [], harness := (true, "9f5b8d769802e23be2b9447b47f6d2737d179980574a8d8ed208bd3e312f3500"), looks := false }, kinds := [], alts := [], laidByText := true, laidKinds := [.data, .data, .data], laidTests := true, laidLooks := .later }
def FnDiffUptoCardSaid : Prop := Claim7.holds Tryd.pinned (.plain (OpenSpec.upto fnDiffSpec)) fnDiffUptoCard

/-- THE SECOND FORM's CARD OF 'laws.FnExactPaintTo'. -/
def fnExactPaintToUptoCard : Claim7 := { stood := { row := fnExactPaintToUptoRow, standIns := [], harness := (true, "9f5b8d769802e23be2b9447b47f6d2737d179980574a8d8ed208bd3e312f3500"), looks := false }, kinds := [], alts := [], laidByText := true, laidKinds := [.data, .data, .data], laidTests := true, laidLooks := .later }
def FnExactPaintToUptoCardSaid : Prop := Claim7.holds Tryd.pinned (.plain (OpenSpec.upto fnExactPaintToSpec)) fnExactPaintToUptoCard

/-- THE SECOND FORM's CARD OF 'laws.FnExactPaintAll'. -/
def fnExactPaintAllUptoCard : Claim7 := { stood := { row := fnExactPaintAllUptoRow, standIns := [], harness := (true, "9f5b8d769802e23be2b9447b47f6d2737d179980574a8d8ed208bd3e312f3500"), looks := false }, kinds := [], alts := [], laidByText := true, laidKinds := [.data, .data, .data], laidTests := true, laidLooks := .later }
def FnExactPaintAllUptoCardSaid : Prop := Claim7.holds Tryd.pinned (.plain (OpenSpec.upto fnExactPaintAllSpec)) fnExactPaintAllUptoCard

/-- THE SECOND FORM's CARD OF 'laws.FnFullScreen'. -/
def fnFullScreenUptoCard : Claim7 := { stood := { row := fnFullScreenUptoRow, standIns := [], harness := (true, "9f5b8d769802e23be2b9447b47f6d2737d179980574a8d8ed208bd3e312f3500"), looks := false }, kinds := [], alts := [], laidByText := true, laidKinds := [.data, .data, .data], laidTests := true, laidLooks := .later }
def FnFullScreenUptoCardSaid : Prop := Claim7.holds Tryd.pinned (.plain (OpenSpec.upto fnFullScreenSpec)) fnFullScreenUptoCard

/-- THE SECOND FORM's CARD OF 'laws.FnPaint'. -/
def fnPaintUptoCard : Claim7 := { stood := { row := fnPaintUptoRow, standIns := [], harness := (true, "9f5b8d769802e23be2b9447b47f6d2737d179980574a8d8ed208bd3e312f3500"), looks := false }, kinds := [], alts := [], laidByText := true, laidKinds := [.data, .data, .data], laidTests := true, laidLooks := .later }
def FnPaintUptoCardSaid : Prop := Claim7.holds Tryd.pinned (.plain (OpenSpec.upto fnPaintSpec)) fnPaintUptoCard
end Rows
end Go.Proofs.YtohjjhoobikioaaDoor

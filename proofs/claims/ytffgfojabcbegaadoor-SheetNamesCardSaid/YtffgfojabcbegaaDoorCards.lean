/-
  DERIVED. GIVEN WITH THE SEED: THE CARDS: each row of YtffgfojabcbegaaDoorRows.lean that lists a variable, with what it lists TIED to the program's text (the seventh form; the later family's looks); each row that meets fmt, with fmt's text TOLD by the authors' own Lean function (tested against real Go, not proved from fmt's source: count such statements apart). THE CARD IS WHAT COUNTS. Prove the row's statement (the work); the ties are given (YtffgfojabcbegaaDoorTie.lean); close each card by the builder's one call (the guide's Derived/Test/ToyasCard.lean, 'card_holds'). Laid BY PROGRAM, IN A SANDBOX (cutbox-door.mjs). By AI agents, Wed Nov 11 2026. No macro, syntax, notation, axiom, sorry.
-/
import Derived.Test.YtffgfojabcbegaaDoorRows
import GoSem.ClaimSeven
namespace Go.Proofs.YtffgfojabcbegaaDoor
namespace Rows

/-- THE TIED CARD OF 'layoverlaw11.SheetDecodes'. -/
def sheetDecodesCard : Claim7 := { stood := { row := sheetDecodesRow, standIns := [], harness := (true, "f42ff35ad03286dc4d7fa4dc3786a06193a5f3a1d175d81ba6a54327e06bae88"), looks := true }, kinds := [], alts := [], laidByText := true, laidKinds := [.data, .pinned], laidTests := true, laidLooks := .later }
def SheetDecodesCardSaid : Prop := Claim7.holds Tryd.pinned (.plain (OpenSpec.ofChange sheetDecodesSpec)) sheetDecodesCard

/-- THE TIED CARD OF 'layoverlaw11.SheetBack'. -/
def sheetBackCard : Claim7 := { stood := { row := sheetBackRow, standIns := [], harness := (true, "f42ff35ad03286dc4d7fa4dc3786a06193a5f3a1d175d81ba6a54327e06bae88"), looks := true }, kinds := [], alts := [], laidByText := true, laidKinds := [.data, .pinned], laidTests := true, laidLooks := .later }
def SheetBackCardSaid : Prop := Claim7.holds Tryd.pinned (.plain (OpenSpec.ofChange sheetBackSpec)) sheetBackCard

/-- THE TIED CARD OF 'layoverlaw11.SheetSpoilt'. -/
def sheetSpoiltCard : Claim7 := { stood := { row := sheetSpoiltRow, standIns := [], harness := (true, "f42ff35ad03286dc4d7fa4dc3786a06193a5f3a1d175d81ba6a54327e06bae88"), looks := true }, kinds := [], alts := [], laidByText := true, laidKinds := [.data, .pinned], laidTests := true, laidLooks := .later }
def SheetSpoiltCardSaid : Prop := Claim7.holds Tryd.pinned (.plain (OpenSpec.ofChange sheetSpoiltSpec)) sheetSpoiltCard

/-- THE TIED CARD OF 'layoverlaw11.SheetNames'. -/
def sheetNamesCard : Claim7 := { stood := { row := sheetNamesRow, standIns := [], harness := (true, "f42ff35ad03286dc4d7fa4dc3786a06193a5f3a1d175d81ba6a54327e06bae88"), looks := true }, kinds := [], alts := [], laidByText := true, laidKinds := [.data, .pinned], laidTests := true, laidLooks := .later }
def SheetNamesCardSaid : Prop := Claim7.holds Tryd.pinned (.plain (OpenSpec.ofChange sheetNamesSpec)) sheetNamesCard

/-- THE SECOND FORM's CARD OF 'layoverlaw11.SheetDecodes'. -/
def sheetDecodesUptoCard : Claim7 := { stood := { row := sheetDecodesUptoRow, standIns := [], harness := (true, "f42ff35ad03286dc4d7fa4dc3786a06193a5f3a1d175d81ba6a54327e06bae88"), looks := true }, kinds := [], alts := [], laidByText := true, laidKinds := [.data, .pinned], laidTests := true, laidLooks := .later }
def SheetDecodesUptoCardSaid : Prop := Claim7.holds Tryd.pinned (.plain (OpenSpec.upto sheetDecodesSpec)) sheetDecodesUptoCard

/-- THE SECOND FORM's CARD OF 'layoverlaw11.SheetBack'. -/
def sheetBackUptoCard : Claim7 := { stood := { row := sheetBackUptoRow, standIns := [], harness := (true, "f42ff35ad03286dc4d7fa4dc3786a06193a5f3a1d175d81ba6a54327e06bae88"), looks := true }, kinds := [], alts := [], laidByText := true, laidKinds := [.data, .pinned], laidTests := true, laidLooks := .later }
def SheetBackUptoCardSaid : Prop := Claim7.holds Tryd.pinned (.plain (OpenSpec.upto sheetBackSpec)) sheetBackUptoCard

/-- THE SECOND FORM's CARD OF 'layoverlaw11.SheetSpoilt'. -/
def sheetSpoiltUptoCard : Claim7 := { stood := { row := sheetSpoiltUptoRow, standIns := [], harness := (true, "f42ff35ad03286dc4d7fa4dc3786a06193a5f3a1d175d81ba6a54327e06bae88"), looks := true }, kinds := [], alts := [], laidByText := true, laidKinds := [.data, .pinned], laidTests := true, laidLooks := .later }
def SheetSpoiltUptoCardSaid : Prop := Claim7.holds Tryd.pinned (.plain (OpenSpec.upto sheetSpoiltSpec)) sheetSpoiltUptoCard

/-- THE SECOND FORM's CARD OF 'layoverlaw11.SheetNames'. -/
def sheetNamesUptoCard : Claim7 := { stood := { row := sheetNamesUptoRow, standIns := [], harness := (true, "f42ff35ad03286dc4d7fa4dc3786a06193a5f3a1d175d81ba6a54327e06bae88"), looks := true }, kinds := [], alts := [], laidByText := true, laidKinds := [.data, .pinned], laidTests := true, laidLooks := .later }
def SheetNamesUptoCardSaid : Prop := Claim7.holds Tryd.pinned (.plain (OpenSpec.upto sheetNamesSpec)) sheetNamesUptoCard
end Rows
end Go.Proofs.YtffgfojabcbegaaDoor

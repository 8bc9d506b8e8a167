/-
  DERIVED. GIVEN WITH THE SEED: THE CARDS: each row of YtalophngappkhaaGreatDoorRows.lean that lists a variable, with what it lists TIED to the program's text (the seventh form; the later family's looks); each row that meets fmt, with fmt's text TOLD by the authors' own Lean function (tested against real Go, not proved from fmt's source: count such statements apart). THE CARD IS WHAT COUNTS. Prove the row's statement (the work); the ties are given (YtalophngappkhaaGreatDoorTie.lean); close each card by the builder's one call (the guide's Derived/Test/ToyasCard.lean, 'card_holds'). Laid BY PROGRAM, IN A SANDBOX (cutbox-door.mjs). By AI agents, Wed Nov 11 2026. No macro, syntax, notation, axiom, sorry.
-/
import Derived.Test.YtalophngappkhaaGreatDoorRows
import GoSem.ClaimSeven
namespace Go.Proofs.YtalophngappkhaaGreatDoor
namespace Rows

/-- THE TIED CARD OF 'quantumlaw12.MergeSmall'. -/
def mergeSmallCard : Claim7 := { stood := { row := mergeSmallRow, standIns := [], harness := (true, "2cad4a9c863d8bb2cda3a78f7cb842e6b02f1ec4d37135a89e2ec8899f4dc0bb"), looks := true }, kinds := [], alts := [], laidByText := true, laidKinds := [.widerDeep, .data, .data], laidTests := true, laidLooks := .later }
def MergeSmallCardSaid : Prop := Claim7.holds Tryz.pinned (.plain (OpenSpec.ofChange mergeSmallSpec)) mergeSmallCard

/-- THE TIED CARD OF 'quantumlaw12.MergeWrong'. -/
def mergeWrongCard : Claim7 := { stood := { row := mergeWrongRow, standIns := [], harness := (true, "2cad4a9c863d8bb2cda3a78f7cb842e6b02f1ec4d37135a89e2ec8899f4dc0bb"), looks := true }, kinds := [], alts := [], laidByText := true, laidKinds := [.widerDeep, .data, .data], laidTests := true, laidLooks := .later }
def MergeWrongCardSaid : Prop := Claim7.holds Tryz.pinned (.plain (OpenSpec.ofChange mergeWrongSpec)) mergeWrongCard

/-- THE TIED CARD OF 'quantumlaw12.MergeAfter'. -/
def mergeAfterCard : Claim7 := { stood := { row := mergeAfterRow, standIns := [], harness := (true, "2cad4a9c863d8bb2cda3a78f7cb842e6b02f1ec4d37135a89e2ec8899f4dc0bb"), looks := true }, kinds := [], alts := [], laidByText := true, laidKinds := [.widerDeep, .data, .data], laidTests := true, laidLooks := .later }
def MergeAfterCardSaid : Prop := Claim7.holds Tryz.pinned (.plain (OpenSpec.ofChange mergeAfterSpec)) mergeAfterCard

/-- THE TIED CARD OF 'quantumlaw12.MergeLost'. -/
def mergeLostCard : Claim7 := { stood := { row := mergeLostRow, standIns := [], harness := (true, "2cad4a9c863d8bb2cda3a78f7cb842e6b02f1ec4d37135a89e2ec8899f4dc0bb"), looks := true }, kinds := [], alts := [], laidByText := true, laidKinds := [.widerDeep, .data, .data], laidTests := true, laidLooks := .later }
def MergeLostCardSaid : Prop := Claim7.holds Tryz.pinned (.plain (OpenSpec.ofChange mergeLostSpec)) mergeLostCard

/-- THE TIED CARD OF 'quantumlaw12.MergeWhole'. -/
def mergeWholeCard : Claim7 := { stood := { row := mergeWholeRow, standIns := [], harness := (true, "2cad4a9c863d8bb2cda3a78f7cb842e6b02f1ec4d37135a89e2ec8899f4dc0bb"), looks := true }, kinds := [], alts := [], laidByText := true, laidKinds := [.widerDeep, .data, .data], laidTests := true, laidLooks := .later }
def MergeWholeCardSaid : Prop := Claim7.holds Tryz.pinned (.plain (OpenSpec.ofChange mergeWholeSpec)) mergeWholeCard

/-- THE TIED CARD OF 'quantumlaw12.MergeTells'. -/
def mergeTellsCard : Claim7 := { stood := { row := mergeTellsRow, standIns := [], harness := (true, "2cad4a9c863d8bb2cda3a78f7cb842e6b02f1ec4d37135a89e2ec8899f4dc0bb"), looks := true }, kinds := [], alts := [], laidByText := true, laidKinds := [.widerDeep, .data, .data], laidTests := true, laidLooks := .later }
def MergeTellsCardSaid : Prop := Claim7.holds Tryz.pinned (.plain (OpenSpec.ofChange mergeTellsSpec)) mergeTellsCard

/-- THE TIED CARD OF 'quantumlaw12.MergeAsks'. -/
def mergeAsksCard : Claim7 := { stood := { row := mergeAsksRow, standIns := [], harness := (true, "2cad4a9c863d8bb2cda3a78f7cb842e6b02f1ec4d37135a89e2ec8899f4dc0bb"), looks := true }, kinds := [], alts := [], laidByText := true, laidKinds := [.widerDeep, .data, .data], laidTests := true, laidLooks := .later }
def MergeAsksCardSaid : Prop := Claim7.holds Tryz.pinned (.plain (OpenSpec.ofChange mergeAsksSpec)) mergeAsksCard

/-- THE TIED CARD OF 'quantumlaw12.MergeTwice'. -/
def mergeTwiceCard : Claim7 := { stood := { row := mergeTwiceRow, standIns := [], harness := (true, "2cad4a9c863d8bb2cda3a78f7cb842e6b02f1ec4d37135a89e2ec8899f4dc0bb"), looks := true }, kinds := [], alts := [], laidByText := true, laidKinds := [.widerDeep, .data, .data], laidTests := true, laidLooks := .later }
def MergeTwiceCardSaid : Prop := Claim7.holds Tryz.pinned (.plain (OpenSpec.ofChange mergeTwiceSpec)) mergeTwiceCard

/-- THE TIED CARD OF 'quantumlaw12.MergeSplits'. -/
def mergeSplitsCard : Claim7 := { stood := { row := mergeSplitsRow, standIns := [], harness := (true, "2cad4a9c863d8bb2cda3a78f7cb842e6b02f1ec4d37135a89e2ec8899f4dc0bb"), looks := true }, kinds := [], alts := [], laidByText := true, laidKinds := [.widerDeep, .data, .data], laidTests := true, laidLooks := .later }
def MergeSplitsCardSaid : Prop := Claim7.holds Tryz.pinned (.plain (OpenSpec.ofChange mergeSplitsSpec)) mergeSplitsCard

/-- THE TIED CARD OF 'quantumlaw12.MergeRows'. -/
def mergeRowsCard : Claim7 := { stood := { row := mergeRowsRow, standIns := [], harness := (true, "2cad4a9c863d8bb2cda3a78f7cb842e6b02f1ec4d37135a89e2ec8899f4dc0bb"), looks := true }, kinds := [], alts := [], laidByText := true, laidKinds := [.widerDeep, .data, .data], laidTests := true, laidLooks := .later }
def MergeRowsCardSaid : Prop := Claim7.holds Tryz.pinned (.plain (OpenSpec.ofChange mergeRowsSpec)) mergeRowsCard

/-- THE SECOND FORM's CARD OF 'quantumlaw12.MergeSmall'. -/
def mergeSmallUptoCard : Claim7 := { stood := { row := mergeSmallUptoRow, standIns := [], harness := (true, "2cad4a9c863d8bb2cda3a78f7cb842e6b02f1ec4d37135a89e2ec8899f4dc0bb"), looks := true }, kinds := [], alts := [], laidByText := true, laidKinds := [.widerDeep, .data, .data], laidTests := true, laidLooks := .later }
def MergeSmallUptoCardSaid : Prop := Claim7.holds Tryz.pinned (.plain (OpenSpec.upto mergeSmallSpec)) mergeSmallUptoCard

/-- THE SECOND FORM's CARD OF 'quantumlaw12.MergeWrong'. -/
def mergeWrongUptoCard : Claim7 := { stood := { row := mergeWrongUptoRow, standIns := [], harness := (true, "2cad4a9c863d8bb2cda3a78f7cb842e6b02f1ec4d37135a89e2ec8899f4dc0bb"), looks := true }, kinds := [], alts := [], laidByText := true, laidKinds := [.widerDeep, .data, .data], laidTests := true, laidLooks := .later }
def MergeWrongUptoCardSaid : Prop := Claim7.holds Tryz.pinned (.plain (OpenSpec.upto mergeWrongSpec)) mergeWrongUptoCard

/-- THE SECOND FORM's CARD OF 'quantumlaw12.MergeAfter'. -/
def mergeAfterUptoCard : Claim7 := { stood := { row := mergeAfterUptoRow, standIns := [], harness := (true, "2cad4a9c863d8bb2cda3a78f7cb842e6b02f1ec4d37135a89e2ec8899f4dc0bb"), looks := true }, kinds := [], alts := [], laidByText := true, laidKinds := [.widerDeep, .data, .data], laidTests := true, laidLooks := .later }
def MergeAfterUptoCardSaid : Prop := Claim7.holds Tryz.pinned (.plain (OpenSpec.upto mergeAfterSpec)) mergeAfterUptoCard

/-- THE SECOND FORM's CARD OF 'quantumlaw12.MergeLost'. -/
def mergeLostUptoCard : Claim7 := { stood := { row := mergeLostUptoRow, standIns := [], harness := (true, "2cad4a9c863d8bb2cda3a78f7cb842e6b02f1ec4d37135a89e2ec8899f4dc0bb"), looks := true }, kinds := [], alts := [], laidByText := true, laidKinds := [.widerDeep, .data, .data], laidTests := true, laidLooks := .later }
def MergeLostUptoCardSaid : Prop := Claim7.holds Tryz.pinned (.plain (OpenSpec.upto mergeLostSpec)) mergeLostUptoCard

/-- THE SECOND FORM's CARD OF 'quantumlaw12.MergeWhole'. -/
def mergeWholeUptoCard : Claim7 := { stood := { row := mergeWholeUptoRow, standIns := [], harness := (true, "2cad4a9c863d8bb2cda3a78f7cb842e6b02f1ec4d37135a89e2ec8899f4dc0bb"), looks := true }, kinds := [], alts := [], laidByText := true, laidKinds := [.widerDeep, .data, .data], laidTests := true, laidLooks := .later }
def MergeWholeUptoCardSaid : Prop := Claim7.holds Tryz.pinned (.plain (OpenSpec.upto mergeWholeSpec)) mergeWholeUptoCard

/-- THE SECOND FORM's CARD OF 'quantumlaw12.MergeTells'. -/
def mergeTellsUptoCard : Claim7 := { stood := { row := mergeTellsUptoRow, standIns := [], harness := (true, "2cad4a9c863d8bb2cda3a78f7cb842e6b02f1ec4d37135a89e2ec8899f4dc0bb"), looks := true }, kinds := [], alts := [], laidByText := true, laidKinds := [.widerDeep, .data, .data], laidTests := true, laidLooks := .later }
def MergeTellsUptoCardSaid : Prop := Claim7.holds Tryz.pinned (.plain (OpenSpec.upto mergeTellsSpec)) mergeTellsUptoCard

/-- THE SECOND FORM's CARD OF 'quantumlaw12.MergeAsks'. -/
def mergeAsksUptoCard : Claim7 := { stood := { row := mergeAsksUptoRow, standIns := [], harness := (true, "2cad4a9c863d8bb2cda3a78f7cb842e6b02f1ec4d37135a89e2ec8899f4dc0bb"), looks := true }, kinds := [], alts := [], laidByText := true, laidKinds := [.widerDeep, .data, .data], laidTests := true, laidLooks := .later }
def MergeAsksUptoCardSaid : Prop := Claim7.holds Tryz.pinned (.plain (OpenSpec.upto mergeAsksSpec)) mergeAsksUptoCard

/-- THE SECOND FORM's CARD OF 'quantumlaw12.MergeTwice'. -/
def mergeTwiceUptoCard : Claim7 := { stood := { row := mergeTwiceUptoRow, standIns := [], harness := (true, "2cad4a9c863d8bb2cda3a78f7cb842e6b02f1ec4d37135a89e2ec8899f4dc0bb"), looks := true }, kinds := [], alts := [], laidByText := true, laidKinds := [.widerDeep, .data, .data], laidTests := true, laidLooks := .later }
def MergeTwiceUptoCardSaid : Prop := Claim7.holds Tryz.pinned (.plain (OpenSpec.upto mergeTwiceSpec)) mergeTwiceUptoCard

/-- THE SECOND FORM's CARD OF 'quantumlaw12.MergeSplits'. -/
def mergeSplitsUptoCard : Claim7 := { stood := { row := mergeSplitsUptoRow, standIns := [], harness := (true, "2cad4a9c863d8bb2cda3a78f7cb842e6b02f1ec4d37135a89e2ec8899f4dc0bb"), looks := true }, kinds := [], alts := [], laidByText := true, laidKinds := [.widerDeep, .data, .data], laidTests := true, laidLooks := .later }
def MergeSplitsUptoCardSaid : Prop := Claim7.holds Tryz.pinned (.plain (OpenSpec.upto mergeSplitsSpec)) mergeSplitsUptoCard

/-- THE SECOND FORM's CARD OF 'quantumlaw12.MergeRows'. -/
def mergeRowsUptoCard : Claim7 := { stood := { row := mergeRowsUptoRow, standIns := [], harness := (true, "2cad4a9c863d8bb2cda3a78f7cb842e6b02f1ec4d37135a89e2ec8899f4dc0bb"), looks := true }, kinds := [], alts := [], laidByText := true, laidKinds := [.widerDeep, .data, .data], laidTests := true, laidLooks := .later }
def MergeRowsUptoCardSaid : Prop := Claim7.holds Tryz.pinned (.plain (OpenSpec.upto mergeRowsSpec)) mergeRowsUptoCard
end Rows
end Go.Proofs.YtalophngappkhaaGreatDoor

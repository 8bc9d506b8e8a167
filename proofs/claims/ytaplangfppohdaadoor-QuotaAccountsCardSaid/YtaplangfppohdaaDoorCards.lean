/-
  DERIVED. GIVEN WITH THE SEED: THE CARDS: each row of YtaplangfppohdaaDoorRows.lean that lists a variable, with what it lists TIED to the program's text (the seventh form; the later family's looks); each row that meets fmt, with fmt's text TOLD by the authors' own Lean function (tested against real Go, not proved from fmt's source: count such statements apart). THE CARD IS WHAT COUNTS. Prove the row's statement (the work); the ties are given (YtaplangfppohdaaDoorTie.lean); close each card by the builder's one call (the guide's Derived/Test/ToyasCard.lean, 'card_holds'). Laid BY PROGRAM, IN A SANDBOX (cutbox-door.mjs). By AI agents, Wed Nov 11 2026. No macro, syntax, notation, axiom, sorry.
-/
import Derived.Test.YtaplangfppohdaaDoorRows
import GoSem.ClaimSeven
namespace Go.Proofs.YtaplangfppohdaaDoor
namespace Rows

/-- THE TIED CARD OF 'quantumlaw28.QuotaDebts'. -/
def quotaDebtsCard : Claim7 := { stood := { row := quotaDebtsRow, standIns := [], harness := (true, "2ba7aedd8121dabf27f71876269d8d081215cac266dc04a4a754a666088c067c"), looks := true }, kinds := [], alts := [], laidByText := true, laidKinds := [.widerDeep], laidTests := true, laidLooks := .later }
def QuotaDebtsCardSaid : Prop := Claim7.holds Tryd.pinned (.plain (OpenSpec.ofChange quotaDebtsSpec)) quotaDebtsCard

/-- THE TIED CARD OF 'quantumlaw28.QuotaTells'. -/
def quotaTellsCard : Claim7 := { stood := { row := quotaTellsRow, standIns := [], harness := (true, "2ba7aedd8121dabf27f71876269d8d081215cac266dc04a4a754a666088c067c"), looks := true }, kinds := [], alts := [], laidByText := true, laidKinds := [.widerDeep], laidTests := true, laidLooks := .later }
def QuotaTellsCardSaid : Prop := Claim7.holds Tryd.pinned (.plain (OpenSpec.ofChange quotaTellsSpec)) quotaTellsCard

/-- THE TIED CARD OF 'quantumlaw28.QuotaGroups'. -/
def quotaGroupsCard : Claim7 := { stood := { row := quotaGroupsRow, standIns := [], harness := (true, "2ba7aedd8121dabf27f71876269d8d081215cac266dc04a4a754a666088c067c"), looks := true }, kinds := [], alts := [], laidByText := true, laidKinds := [.widerDeep], laidTests := true, laidLooks := .later }
def QuotaGroupsCardSaid : Prop := Claim7.holds Tryd.pinned (.plain (OpenSpec.ofChange quotaGroupsSpec)) quotaGroupsCard

/-- THE TIED CARD OF 'quantumlaw28.QuotaWrong'. -/
def quotaWrongCard : Claim7 := { stood := { row := quotaWrongRow, standIns := [], harness := (true, "2ba7aedd8121dabf27f71876269d8d081215cac266dc04a4a754a666088c067c"), looks := true }, kinds := [], alts := [], laidByText := true, laidKinds := [.widerDeep], laidTests := true, laidLooks := .later }
def QuotaWrongCardSaid : Prop := Claim7.holds Tryd.pinned (.plain (OpenSpec.ofChange quotaWrongSpec)) quotaWrongCard

/-- THE TIED CARD OF 'quantumlaw28.QuotaAccounts'. -/
def quotaAccountsCard : Claim7 := { stood := { row := quotaAccountsRow, standIns := [], harness := (true, "2ba7aedd8121dabf27f71876269d8d081215cac266dc04a4a754a666088c067c"), looks := true }, kinds := [], alts := [], laidByText := true, laidKinds := [.widerDeep], laidTests := true, laidLooks := .later }
def QuotaAccountsCardSaid : Prop := Claim7.holds Tryd.pinned (.plain (OpenSpec.ofChange quotaAccountsSpec)) quotaAccountsCard

/-- THE TIED CARD OF 'quantumlaw28.QuotaSpreads'. -/
def quotaSpreadsCard : Claim7 := { stood := { row := quotaSpreadsRow, standIns := [], harness := (true, "2ba7aedd8121dabf27f71876269d8d081215cac266dc04a4a754a666088c067c"), looks := true }, kinds := [], alts := [], laidByText := true, laidKinds := [.widerDeep], laidTests := true, laidLooks := .later }
def QuotaSpreadsCardSaid : Prop := Claim7.holds Tryd.pinned (.plain (OpenSpec.ofChange quotaSpreadsSpec)) quotaSpreadsCard

/-- THE TIED CARD OF 'quantumlaw28.QuotaSums'. -/
def quotaSumsCard : Claim7 := { stood := { row := quotaSumsRow, standIns := [], harness := (true, "2ba7aedd8121dabf27f71876269d8d081215cac266dc04a4a754a666088c067c"), looks := true }, kinds := [], alts := [], laidByText := true, laidKinds := [.widerDeep], laidTests := true, laidLooks := .later }
def QuotaSumsCardSaid : Prop := Claim7.holds Tryd.pinned (.plain (OpenSpec.ofChange quotaSumsSpec)) quotaSumsCard

/-- THE TIED CARD OF 'quantumlaw28.QuotaOver'. -/
def quotaOverCard : Claim7 := { stood := { row := quotaOverRow, standIns := [], harness := (true, "2ba7aedd8121dabf27f71876269d8d081215cac266dc04a4a754a666088c067c"), looks := true }, kinds := [], alts := [], laidByText := true, laidKinds := [.widerDeep], laidTests := true, laidLooks := .later }
def QuotaOverCardSaid : Prop := Claim7.holds Tryd.pinned (.plain (OpenSpec.ofChange quotaOverSpec)) quotaOverCard

/-- THE SECOND FORM's CARD OF 'quantumlaw28.QuotaDebts'. -/
def quotaDebtsUptoCard : Claim7 := { stood := { row := quotaDebtsUptoRow, standIns := [], harness := (true, "2ba7aedd8121dabf27f71876269d8d081215cac266dc04a4a754a666088c067c"), looks := true }, kinds := [], alts := [], laidByText := true, laidKinds := [.widerDeep], laidTests := true, laidLooks := .later }
def QuotaDebtsUptoCardSaid : Prop := Claim7.holds Tryd.pinned (.plain (OpenSpec.upto quotaDebtsSpec)) quotaDebtsUptoCard

/-- THE SECOND FORM's CARD OF 'quantumlaw28.QuotaTells'. -/
def quotaTellsUptoCard : Claim7 := { stood := { row := quotaTellsUptoRow, standIns := [], harness := (true, "2ba7aedd8121dabf27f71876269d8d081215cac266dc04a4a754a666088c067c"), looks := true }, kinds := [], alts := [], laidByText := true, laidKinds := [.widerDeep], laidTests := true, laidLooks := .later }
def QuotaTellsUptoCardSaid : Prop := Claim7.holds Tryd.pinned (.plain (OpenSpec.upto quotaTellsSpec)) quotaTellsUptoCard

/-- THE SECOND FORM's CARD OF 'quantumlaw28.QuotaGroups'. -/
def quotaGroupsUptoCard : Claim7 := { stood := { row := quotaGroupsUptoRow, standIns := [], harness := (true, "2ba7aedd8121dabf27f71876269d8d081215cac266dc04a4a754a666088c067c"), looks := true }, kinds := [], alts := [], laidByText := true, laidKinds := [.widerDeep], laidTests := true, laidLooks := .later }
def QuotaGroupsUptoCardSaid : Prop := Claim7.holds Tryd.pinned (.plain (OpenSpec.upto quotaGroupsSpec)) quotaGroupsUptoCard

/-- THE SECOND FORM's CARD OF 'quantumlaw28.QuotaWrong'. -/
def quotaWrongUptoCard : Claim7 := { stood := { row := quotaWrongUptoRow, standIns := [], harness := (true, "2ba7aedd8121dabf27f71876269d8d081215cac266dc04a4a754a666088c067c"), looks := true }, kinds := [], alts := [], laidByText := true, laidKinds := [.widerDeep], laidTests := true, laidLooks := .later }
def QuotaWrongUptoCardSaid : Prop := Claim7.holds Tryd.pinned (.plain (OpenSpec.upto quotaWrongSpec)) quotaWrongUptoCard

/-- THE SECOND FORM's CARD OF 'quantumlaw28.QuotaAccounts'. -/
def quotaAccountsUptoCard : Claim7 := { stood := { row := quotaAccountsUptoRow, standIns := [], harness := (true, "2ba7aedd8121dabf27f71876269d8d081215cac266dc04a4a754a666088c067c"), looks := true }, kinds := [], alts := [], laidByText := true, laidKinds := [.widerDeep], laidTests := true, laidLooks := .later }
def QuotaAccountsUptoCardSaid : Prop := Claim7.holds Tryd.pinned (.plain (OpenSpec.upto quotaAccountsSpec)) quotaAccountsUptoCard

/-- THE SECOND FORM's CARD OF 'quantumlaw28.QuotaSpreads'. -/
def quotaSpreadsUptoCard : Claim7 := { stood := { row := quotaSpreadsUptoRow, standIns := [], harness := (true, "2ba7aedd8121dabf27f71876269d8d081215cac266dc04a4a754a666088c067c"), looks := true }, kinds := [], alts := [], laidByText := true, laidKinds := [.widerDeep], laidTests := true, laidLooks := .later }
def QuotaSpreadsUptoCardSaid : Prop := Claim7.holds Tryd.pinned (.plain (OpenSpec.upto quotaSpreadsSpec)) quotaSpreadsUptoCard

/-- THE SECOND FORM's CARD OF 'quantumlaw28.QuotaSums'. -/
def quotaSumsUptoCard : Claim7 := { stood := { row := quotaSumsUptoRow, standIns := [], harness := (true, "2ba7aedd8121dabf27f71876269d8d081215cac266dc04a4a754a666088c067c"), looks := true }, kinds := [], alts := [], laidByText := true, laidKinds := [.widerDeep], laidTests := true, laidLooks := .later }
def QuotaSumsUptoCardSaid : Prop := Claim7.holds Tryd.pinned (.plain (OpenSpec.upto quotaSumsSpec)) quotaSumsUptoCard

/-- THE SECOND FORM's CARD OF 'quantumlaw28.QuotaOver'. -/
def quotaOverUptoCard : Claim7 := { stood := { row := quotaOverUptoRow, standIns := [], harness := (true, "2ba7aedd8121dabf27f71876269d8d081215cac266dc04a4a754a666088c067c"), looks := true }, kinds := [], alts := [], laidByText := true, laidKinds := [.widerDeep], laidTests := true, laidLooks := .later }
def QuotaOverUptoCardSaid : Prop := Claim7.holds Tryd.pinned (.plain (OpenSpec.upto quotaOverSpec)) quotaOverUptoCard
end Rows
end Go.Proofs.YtaplangfppohdaaDoor

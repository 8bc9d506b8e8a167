/-
  NARROWER THAN 'FOR EVERY INPUT', by the rows' own cells (each row's printed sentence says how): QuotaDebts: laid · QuotaTells: laid · QuotaGroups: laid · QuotaWrong: laid · QuotaAccounts: laid · QuotaSpreads: laid · QuotaSums: laid · QuotaOver: laid.
  DERIVED. THE GIVEN ROWS OF THIS SEAT. 8 by the template 'for every input the law returns true; each argument reads behind the call as it read before'; 0 by the template 'total and deterministic' (their statements: YtaplangfppohdaaDoorTotals.lean).
  GIVEN WITH THE SEED: the statements are not yours to turn. If you find one false, say at which input.
  Laid BY PROGRAM, IN A SANDBOX (cutbox-rows.mjs): the forced cells as the released guide's own fill.sh prints them over the translation cde33e7728c180fd… (all of the seat's roots in one cut). By AI agents, Wed Nov 11 2026. No macro, syntax, notation, axiom, sorry.
-/
import Derived.Test.YtaplangfppohdaaDoorChecked
import GoSem.Claim
import GoSem.ClaimJoined
import GoSem.ClaimMapViews
import Derived.JoinedTies
import Derived.KernelRfl
namespace Go.Proofs.YtaplangfppohdaaDoor
/- THE CELL 'sum', in the pinned program and in every row, IS THE sha256 OF THE DUMP (.gsa) THAT YtaplangfppohdaaDoorProg.lean LOADS. Nothing in Lean hashes anything: it is a label: what it is worth is what the hold of that sum in a sandbox is worth. -/
noncomputable def Tryd.pinned : Pinned := { name := "ytaplangfppohdaadoor", sum := "cde33e7728c180fd97f96244370f7ee47bbc4b9fdfe47f32d3718844f941ddce", checked := Tryd.checked }
namespace Rows
def none {H : Type} : Left H := { results := [], args := [] }

/- WHAT THE LISTED PACKAGE-LEVEL VARIABLES READ AS WHEN THE CALL BEGINS. Each datum BY PROGRAM (the guide's laid-datum.mjs) off the statement by which the dump's own 'gosem.cut.vars' lays the variable. In a bare row this is a premise. The card (YtaplangfppohdaaDoorCards.lean) ties it to the program's text. -/
def laid_quantum_event_uses {H : Type} : DataW H := .agg [.nil, .slice [.lit (.int .i64 0), .lit (.int .i64 1), .lit (.int .i64 3), .lit (.int .i64 5)] [], .slice [.lit (.int .i64 0)] [], .slice [.lit (.int .i64 6)] [], .slice [.lit (.int .i64 6)] [], .slice [.lit (.int .i64 4), .lit (.int .i64 6)] [], .slice [.lit (.int .i64 6)] [], .slice [.lit (.int .i64 0), .lit (.int .i64 3)] [], .slice [.lit (.int .i64 1), .lit (.int .i64 3)] [], .slice [.lit (.int .i64 0), .lit (.int .i64 2)] [], .slice [.lit (.int .i64 6)] []]

/-- 'quantumlaw28.QuotaDebts': WHATEVER THE INPUT: true; the input reads as it did. -/
def quotaDebtsSpec : ChangeSpec := { name := "quotaDebts", fn := fun _ => fun
  | [d1, d2, d3] => { results := [.lit (.bool true)], args := [d1, d2, d3] }
  | _ => none }
def quotaDebtsRow : OpenClaim := { program := "ytaplangfppohdaadoor", sum := "cde33e7728c180fd97f96244370f7ee47bbc4b9fdfe47f32d3718844f941ddce", func := "quantum/quantumlaw28.QuotaDebts", spec := "quotaDebts", unfollowed := true, recurses := true, named := ["quantum/event.uses"], plainKeys := false, apart := false, laid := [("quantum/event.uses", laid_quantum_event_uses)] }
def QuotaDebtsSaid : Prop := quotaDebtsRow.holds Tryd.pinned (OpenSpec.ofChange quotaDebtsSpec)

/-- ITS FALSE NEIGHBOUR: 'it returns false'. Refute it at one input. -/
def quotaDebtsWrong : ChangeSpec := { name := "quotaDebts", fn := fun _ => fun
  | [d1, d2, d3] => { results := [.lit (.bool false)], args := [d1, d2, d3] }
  | _ => none }
def QuotaDebtsWrongFalsely : Prop := quotaDebtsRow.holds Tryd.pinned (OpenSpec.ofChange quotaDebtsWrong)

/-- 'quantumlaw28.QuotaTells': WHATEVER THE INPUT: true; the input reads as it did. -/
def quotaTellsSpec : ChangeSpec := { name := "quotaTells", fn := fun _ => fun
  | [d1, d2, d3, d4, d5, d6] => { results := [.lit (.bool true)], args := [d1, d2, d3, d4, d5, d6] }
  | _ => none }
def quotaTellsRow : OpenClaim := { program := "ytaplangfppohdaadoor", sum := "cde33e7728c180fd97f96244370f7ee47bbc4b9fdfe47f32d3718844f941ddce", func := "quantum/quantumlaw28.QuotaTells", spec := "quotaTells", unfollowed := true, recurses := true, named := ["quantum/event.uses"], plainKeys := false, apart := false, laid := [("quantum/event.uses", laid_quantum_event_uses)] }
def QuotaTellsSaid : Prop := quotaTellsRow.holds Tryd.pinned (OpenSpec.ofChange quotaTellsSpec)

/-- ITS FALSE NEIGHBOUR: 'it returns false'. Refute it at one input. -/
def quotaTellsWrong : ChangeSpec := { name := "quotaTells", fn := fun _ => fun
  | [d1, d2, d3, d4, d5, d6] => { results := [.lit (.bool false)], args := [d1, d2, d3, d4, d5, d6] }
  | _ => none }
def QuotaTellsWrongFalsely : Prop := quotaTellsRow.holds Tryd.pinned (OpenSpec.ofChange quotaTellsWrong)

/-- 'quantumlaw28.QuotaGroups': WHATEVER THE INPUT: true; the input reads as it did. -/
def quotaGroupsSpec : ChangeSpec := { name := "quotaGroups", fn := fun _ => fun
  | [d1, d2, d3, d4] => { results := [.lit (.bool true)], args := [d1, d2, d3, d4] }
  | _ => none }
def quotaGroupsRow : OpenClaim := { program := "ytaplangfppohdaadoor", sum := "cde33e7728c180fd97f96244370f7ee47bbc4b9fdfe47f32d3718844f941ddce", func := "quantum/quantumlaw28.QuotaGroups", spec := "quotaGroups", unfollowed := true, recurses := true, named := ["quantum/event.uses"], plainKeys := false, apart := false, laid := [("quantum/event.uses", laid_quantum_event_uses)] }
def QuotaGroupsSaid : Prop := quotaGroupsRow.holds Tryd.pinned (OpenSpec.ofChange quotaGroupsSpec)

/-- ITS FALSE NEIGHBOUR: 'it returns false'. Refute it at one input. -/
def quotaGroupsWrong : ChangeSpec := { name := "quotaGroups", fn := fun _ => fun
  | [d1, d2, d3, d4] => { results := [.lit (.bool false)], args := [d1, d2, d3, d4] }
  | _ => none }
def QuotaGroupsWrongFalsely : Prop := quotaGroupsRow.holds Tryd.pinned (OpenSpec.ofChange quotaGroupsWrong)

/-- 'quantumlaw28.QuotaWrong': WHATEVER THE INPUT: true; the input reads as it did. -/
def quotaWrongSpec : ChangeSpec := { name := "quotaWrong", fn := fun _ => fun
  | [d1, d2, d3, d4] => { results := [.lit (.bool true)], args := [d1, d2, d3, d4] }
  | _ => none }
def quotaWrongRow : OpenClaim := { program := "ytaplangfppohdaadoor", sum := "cde33e7728c180fd97f96244370f7ee47bbc4b9fdfe47f32d3718844f941ddce", func := "quantum/quantumlaw28.QuotaWrong", spec := "quotaWrong", unfollowed := true, recurses := true, named := ["quantum/event.uses"], plainKeys := false, apart := false, laid := [("quantum/event.uses", laid_quantum_event_uses)] }
def QuotaWrongSaid : Prop := quotaWrongRow.holds Tryd.pinned (OpenSpec.ofChange quotaWrongSpec)

/-- ITS FALSE NEIGHBOUR: 'it returns false'. Refute it at one input. -/
def quotaWrongWrong : ChangeSpec := { name := "quotaWrong", fn := fun _ => fun
  | [d1, d2, d3, d4] => { results := [.lit (.bool false)], args := [d1, d2, d3, d4] }
  | _ => none }
def QuotaWrongWrongFalsely : Prop := quotaWrongRow.holds Tryd.pinned (OpenSpec.ofChange quotaWrongWrong)

/-- 'quantumlaw28.QuotaAccounts': WHATEVER THE INPUT: true; the input reads as it did. -/
def quotaAccountsSpec : ChangeSpec := { name := "quotaAccounts", fn := fun _ => fun
  | [d1, d2, d3, d4] => { results := [.lit (.bool true)], args := [d1, d2, d3, d4] }
  | _ => none }
def quotaAccountsRow : OpenClaim := { program := "ytaplangfppohdaadoor", sum := "cde33e7728c180fd97f96244370f7ee47bbc4b9fdfe47f32d3718844f941ddce", func := "quantum/quantumlaw28.QuotaAccounts", spec := "quotaAccounts", unfollowed := true, recurses := true, named := ["quantum/event.uses"], plainKeys := false, apart := false, laid := [("quantum/event.uses", laid_quantum_event_uses)] }
def QuotaAccountsSaid : Prop := quotaAccountsRow.holds Tryd.pinned (OpenSpec.ofChange quotaAccountsSpec)

/-- ITS FALSE NEIGHBOUR: 'it returns false'. Refute it at one input. -/
def quotaAccountsWrong : ChangeSpec := { name := "quotaAccounts", fn := fun _ => fun
  | [d1, d2, d3, d4] => { results := [.lit (.bool false)], args := [d1, d2, d3, d4] }
  | _ => none }
def QuotaAccountsWrongFalsely : Prop := quotaAccountsRow.holds Tryd.pinned (OpenSpec.ofChange quotaAccountsWrong)

/-- 'quantumlaw28.QuotaSpreads': WHATEVER THE INPUT: true; the input reads as it did. -/
def quotaSpreadsSpec : ChangeSpec := { name := "quotaSpreads", fn := fun _ => fun
  | [d1, d2, d3, d4] => { results := [.lit (.bool true)], args := [d1, d2, d3, d4] }
  | _ => none }
def quotaSpreadsRow : OpenClaim := { program := "ytaplangfppohdaadoor", sum := "cde33e7728c180fd97f96244370f7ee47bbc4b9fdfe47f32d3718844f941ddce", func := "quantum/quantumlaw28.QuotaSpreads", spec := "quotaSpreads", unfollowed := true, recurses := true, named := ["quantum/event.uses"], plainKeys := false, apart := false, laid := [("quantum/event.uses", laid_quantum_event_uses)] }
def QuotaSpreadsSaid : Prop := quotaSpreadsRow.holds Tryd.pinned (OpenSpec.ofChange quotaSpreadsSpec)

/-- ITS FALSE NEIGHBOUR: 'it returns false'. Refute it at one input. -/
def quotaSpreadsWrong : ChangeSpec := { name := "quotaSpreads", fn := fun _ => fun
  | [d1, d2, d3, d4] => { results := [.lit (.bool false)], args := [d1, d2, d3, d4] }
  | _ => none }
def QuotaSpreadsWrongFalsely : Prop := quotaSpreadsRow.holds Tryd.pinned (OpenSpec.ofChange quotaSpreadsWrong)

/-- 'quantumlaw28.QuotaSums': WHATEVER THE INPUT: true; the input reads as it did. -/
def quotaSumsSpec : ChangeSpec := { name := "quotaSums", fn := fun _ => fun
  | [d1, d2, d3, d4, d5] => { results := [.lit (.bool true)], args := [d1, d2, d3, d4, d5] }
  | _ => none }
def quotaSumsRow : OpenClaim := { program := "ytaplangfppohdaadoor", sum := "cde33e7728c180fd97f96244370f7ee47bbc4b9fdfe47f32d3718844f941ddce", func := "quantum/quantumlaw28.QuotaSums", spec := "quotaSums", unfollowed := true, recurses := true, named := ["quantum/event.uses"], plainKeys := false, apart := false, laid := [("quantum/event.uses", laid_quantum_event_uses)] }
def QuotaSumsSaid : Prop := quotaSumsRow.holds Tryd.pinned (OpenSpec.ofChange quotaSumsSpec)

/-- ITS FALSE NEIGHBOUR: 'it returns false'. Refute it at one input. -/
def quotaSumsWrong : ChangeSpec := { name := "quotaSums", fn := fun _ => fun
  | [d1, d2, d3, d4, d5] => { results := [.lit (.bool false)], args := [d1, d2, d3, d4, d5] }
  | _ => none }
def QuotaSumsWrongFalsely : Prop := quotaSumsRow.holds Tryd.pinned (OpenSpec.ofChange quotaSumsWrong)

/-- 'quantumlaw28.QuotaOver': WHATEVER THE INPUT: true; the input reads as it did. -/
def quotaOverSpec : ChangeSpec := { name := "quotaOver", fn := fun _ => fun
  | [d1, d2, d3, d4, d5] => { results := [.lit (.bool true)], args := [d1, d2, d3, d4, d5] }
  | _ => none }
def quotaOverRow : OpenClaim := { program := "ytaplangfppohdaadoor", sum := "cde33e7728c180fd97f96244370f7ee47bbc4b9fdfe47f32d3718844f941ddce", func := "quantum/quantumlaw28.QuotaOver", spec := "quotaOver", unfollowed := true, recurses := true, named := ["quantum/event.uses"], plainKeys := false, apart := false, laid := [("quantum/event.uses", laid_quantum_event_uses)] }
def QuotaOverSaid : Prop := quotaOverRow.holds Tryd.pinned (OpenSpec.ofChange quotaOverSpec)

/-- ITS FALSE NEIGHBOUR: 'it returns false'. Refute it at one input. -/
def quotaOverWrong : ChangeSpec := { name := "quotaOver", fn := fun _ => fun
  | [d1, d2, d3, d4, d5] => { results := [.lit (.bool false)], args := [d1, d2, d3, d4, d5] }
  | _ => none }
def QuotaOverWrongFalsely : Prop := quotaOverRow.holds Tryd.pinned (OpenSpec.ofChange quotaOverWrong)

/- THE SECOND FORM. 'bulk': how many values and letters a reading holds, each counted each time it is reached (what is shared counts as often as it is met; a slice's spare places count too). A statement '..UptoSaid' is the law's where the arguments, and the package variables that the reading takes, are together of bulk at most 1048576: NARROWER than '..Said'. Prove '..Said' where nothing that the law and all that it calls make is longer than what came in: it says more and counts as full. Else prove '..UptoSaid'. A law counts once. -/
mutual
def uptoBulk {H : Type} : DataW H → Nat
  | .lit (.string bytes) => bytes.length + 1
  | .lit _ => 1
  | .nil => 1
  | .ptr d => uptoBulk d + 1
  | .slice elems spare => uptoBulkAll elems + uptoBulkAll spare + 1
  | .agg parts => uptoBulkAll parts + 1
  | .iface _ d => uptoBulk d + 1
  | .map entries => uptoBulkEntries entries + 1
  | .held _ => 1
def uptoBulkAll {H : Type} : List (DataW H) → Nat
  | [] => 0
  | d :: r => uptoBulk d + uptoBulkAll r
def uptoBulkEntries {H : Type} : List (Lit × DataW H) → Nat
  | [] => 0
  | x :: r => uptoBulkEntry x + uptoBulkEntries r
def uptoBulkEntry {H : Type} : Lit × DataW H → Nat
  | (.string bytes, d) => bytes.length + uptoBulk d + 1
  | (_, d) => uptoBulk d + 1
 end
def uptoSmall : (H : Type) → List (DataW H) → Bool := fun _ ds => decide (uptoBulkAll ds ≤ 1048576)
def OpenSpec.upto (s : _root_.Go.ChangeSpec) : _root_.Go.OpenSpec := { _root_.Go.OpenSpec.ofChange s with cond := some uptoSmall }

/-- 'quantumlaw28.QuotaDebts', WHERE WHAT IT READS IS OF BULK AT MOST 1048576: true; the input reads as it did. -/
def quotaDebtsUptoRow : OpenClaim := { program := "ytaplangfppohdaadoor", sum := "cde33e7728c180fd97f96244370f7ee47bbc4b9fdfe47f32d3718844f941ddce", func := "quantum/quantumlaw28.QuotaDebts", spec := "quotaDebts", unfollowed := true, recurses := true, named := ["quantum/event.uses"], plainKeys := false, apart := false, laid := [("quantum/event.uses", laid_quantum_event_uses)], narrowed := true }
def QuotaDebtsUptoSaid : Prop := quotaDebtsUptoRow.holds Tryd.pinned (OpenSpec.upto quotaDebtsSpec)

/-- 'quantumlaw28.QuotaTells', WHERE WHAT IT READS IS OF BULK AT MOST 1048576: true; the input reads as it did. -/
def quotaTellsUptoRow : OpenClaim := { program := "ytaplangfppohdaadoor", sum := "cde33e7728c180fd97f96244370f7ee47bbc4b9fdfe47f32d3718844f941ddce", func := "quantum/quantumlaw28.QuotaTells", spec := "quotaTells", unfollowed := true, recurses := true, named := ["quantum/event.uses"], plainKeys := false, apart := false, laid := [("quantum/event.uses", laid_quantum_event_uses)], narrowed := true }
def QuotaTellsUptoSaid : Prop := quotaTellsUptoRow.holds Tryd.pinned (OpenSpec.upto quotaTellsSpec)

/-- 'quantumlaw28.QuotaGroups', WHERE WHAT IT READS IS OF BULK AT MOST 1048576: true; the input reads as it did. -/
def quotaGroupsUptoRow : OpenClaim := { program := "ytaplangfppohdaadoor", sum := "cde33e7728c180fd97f96244370f7ee47bbc4b9fdfe47f32d3718844f941ddce", func := "quantum/quantumlaw28.QuotaGroups", spec := "quotaGroups", unfollowed := true, recurses := true, named := ["quantum/event.uses"], plainKeys := false, apart := false, laid := [("quantum/event.uses", laid_quantum_event_uses)], narrowed := true }
def QuotaGroupsUptoSaid : Prop := quotaGroupsUptoRow.holds Tryd.pinned (OpenSpec.upto quotaGroupsSpec)

/-- 'quantumlaw28.QuotaWrong', WHERE WHAT IT READS IS OF BULK AT MOST 1048576: true; the input reads as it did. -/
def quotaWrongUptoRow : OpenClaim := { program := "ytaplangfppohdaadoor", sum := "cde33e7728c180fd97f96244370f7ee47bbc4b9fdfe47f32d3718844f941ddce", func := "quantum/quantumlaw28.QuotaWrong", spec := "quotaWrong", unfollowed := true, recurses := true, named := ["quantum/event.uses"], plainKeys := false, apart := false, laid := [("quantum/event.uses", laid_quantum_event_uses)], narrowed := true }
def QuotaWrongUptoSaid : Prop := quotaWrongUptoRow.holds Tryd.pinned (OpenSpec.upto quotaWrongSpec)

/-- 'quantumlaw28.QuotaAccounts', WHERE WHAT IT READS IS OF BULK AT MOST 1048576: true; the input reads as it did. -/
def quotaAccountsUptoRow : OpenClaim := { program := "ytaplangfppohdaadoor", sum := "cde33e7728c180fd97f96244370f7ee47bbc4b9fdfe47f32d3718844f941ddce", func := "quantum/quantumlaw28.QuotaAccounts", spec := "quotaAccounts", unfollowed := true, recurses := true, named := ["quantum/event.uses"], plainKeys := false, apart := false, laid := [("quantum/event.uses", laid_quantum_event_uses)], narrowed := true }
def QuotaAccountsUptoSaid : Prop := quotaAccountsUptoRow.holds Tryd.pinned (OpenSpec.upto quotaAccountsSpec)

/-- 'quantumlaw28.QuotaSpreads', WHERE WHAT IT READS IS OF BULK AT MOST 1048576: true; the input reads as it did. -/
def quotaSpreadsUptoRow : OpenClaim := { program := "ytaplangfppohdaadoor", sum := "cde33e7728c180fd97f96244370f7ee47bbc4b9fdfe47f32d3718844f941ddce", func := "quantum/quantumlaw28.QuotaSpreads", spec := "quotaSpreads", unfollowed := true, recurses := true, named := ["quantum/event.uses"], plainKeys := false, apart := false, laid := [("quantum/event.uses", laid_quantum_event_uses)], narrowed := true }
def QuotaSpreadsUptoSaid : Prop := quotaSpreadsUptoRow.holds Tryd.pinned (OpenSpec.upto quotaSpreadsSpec)

/-- 'quantumlaw28.QuotaSums', WHERE WHAT IT READS IS OF BULK AT MOST 1048576: true; the input reads as it did. -/
def quotaSumsUptoRow : OpenClaim := { program := "ytaplangfppohdaadoor", sum := "cde33e7728c180fd97f96244370f7ee47bbc4b9fdfe47f32d3718844f941ddce", func := "quantum/quantumlaw28.QuotaSums", spec := "quotaSums", unfollowed := true, recurses := true, named := ["quantum/event.uses"], plainKeys := false, apart := false, laid := [("quantum/event.uses", laid_quantum_event_uses)], narrowed := true }
def QuotaSumsUptoSaid : Prop := quotaSumsUptoRow.holds Tryd.pinned (OpenSpec.upto quotaSumsSpec)

/-- 'quantumlaw28.QuotaOver', WHERE WHAT IT READS IS OF BULK AT MOST 1048576: true; the input reads as it did. -/
def quotaOverUptoRow : OpenClaim := { program := "ytaplangfppohdaadoor", sum := "cde33e7728c180fd97f96244370f7ee47bbc4b9fdfe47f32d3718844f941ddce", func := "quantum/quantumlaw28.QuotaOver", spec := "quotaOver", unfollowed := true, recurses := true, named := ["quantum/event.uses"], plainKeys := false, apart := false, laid := [("quantum/event.uses", laid_quantum_event_uses)], narrowed := true }
def QuotaOverUptoSaid : Prop := quotaOverUptoRow.holds Tryd.pinned (OpenSpec.upto quotaOverSpec)

end Rows
end Go.Proofs.YtaplangfppohdaaDoor

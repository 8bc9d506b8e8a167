/-
  No cell of these rows narrows 'for every input' (looked for: loops, veiled, ifaces, maps, wideKeys, modest, calm, conditions, laid).
  DERIVED. THE GIVEN ROWS OF THIS SEAT. 7 by the template 'for every input the law returns true; each argument reads behind the call as it read before'; 0 by the template 'total and deterministic' (their statements: YtkkmmbmjpfecdaaTotals.lean).
  GIVEN WITH THE SEED: the statements are not yours to turn. If you find one false, say at which input.
  Laid BY PROGRAM, IN A SANDBOX (cutbox-rows.mjs): the forced cells as the released guide's own fill.sh prints them over the translation 4ec885c939b2a2e2… (all of the seat's roots in one cut). By AI agents, Wed Nov 11 2026. No macro, syntax, notation, axiom, sorry.
-/
import Derived.Test.YtkkmmbmjpfecdaaChecked
import GoSem.Claim
import GoSem.ClaimJoined
import GoSem.ClaimMapViews
import Derived.JoinedTies
import Derived.KernelRfl
namespace Go.Proofs.Ytkkmmbmjpfecdaa
/- THE CELL 'sum', in the pinned program and in every row, IS THE sha256 OF THE DUMP (.gsa) THAT YtkkmmbmjpfecdaaProg.lean LOADS. Nothing in Lean hashes anything: it is a label: what it is worth is what the hold of that sum in a sandbox is worth. -/
noncomputable def Try.pinned : Pinned := { name := "ytkkmmbmjpfecdaa", sum := "4ec885c939b2a2e2ad0b48171384df0b3521e37f340156694b8f2ea964886eb4", checked := Try.checked }
namespace Rows
def none {H : Type} : Left H := { results := [], args := [] }

/-- 'quantumlaw19.GroupMeets': WHATEVER THE INPUT: true; the input reads as it did. -/
def groupMeetsSpec : ChangeSpec := { name := "groupMeets", fn := fun _ => fun
  | [d1, d2, d3, d4] => { results := [.lit (.bool true)], args := [d1, d2, d3, d4] }
  | _ => none }
def groupMeetsRow : OpenClaim := { program := "ytkkmmbmjpfecdaa", sum := "4ec885c939b2a2e2ad0b48171384df0b3521e37f340156694b8f2ea964886eb4", func := "quantum/quantumlaw19.GroupMeets", spec := "groupMeets", unfollowed := true, recurses := true, apart := false }
def GroupMeetsSaid : Prop := groupMeetsRow.holds Try.pinned (OpenSpec.ofChange groupMeetsSpec)

/-- ITS FALSE NEIGHBOUR: 'it returns false'. Refute it at one input. -/
def groupMeetsWrong : ChangeSpec := { name := "groupMeets", fn := fun _ => fun
  | [d1, d2, d3, d4] => { results := [.lit (.bool false)], args := [d1, d2, d3, d4] }
  | _ => none }
def GroupMeetsWrongFalsely : Prop := groupMeetsRow.holds Try.pinned (OpenSpec.ofChange groupMeetsWrong)

/-- 'quantumlaw19.GroupTells': WHATEVER THE INPUT: true; the input reads as it did. -/
def groupTellsSpec : ChangeSpec := { name := "groupTells", fn := fun _ => fun
  | [d1, d2, d3, d4] => { results := [.lit (.bool true)], args := [d1, d2, d3, d4] }
  | _ => none }
def groupTellsRow : OpenClaim := { program := "ytkkmmbmjpfecdaa", sum := "4ec885c939b2a2e2ad0b48171384df0b3521e37f340156694b8f2ea964886eb4", func := "quantum/quantumlaw19.GroupTells", spec := "groupTells", unfollowed := true, recurses := true, apart := false }
def GroupTellsSaid : Prop := groupTellsRow.holds Try.pinned (OpenSpec.ofChange groupTellsSpec)

/-- ITS FALSE NEIGHBOUR: 'it returns false'. Refute it at one input. -/
def groupTellsWrong : ChangeSpec := { name := "groupTells", fn := fun _ => fun
  | [d1, d2, d3, d4] => { results := [.lit (.bool false)], args := [d1, d2, d3, d4] }
  | _ => none }
def GroupTellsWrongFalsely : Prop := groupTellsRow.holds Try.pinned (OpenSpec.ofChange groupTellsWrong)

/-- 'quantumlaw19.GroupSmall': WHATEVER THE INPUT: true; the input reads as it did. -/
def groupSmallSpec : ChangeSpec := { name := "groupSmall", fn := fun _ => fun
  | [] => { results := [.lit (.bool true)], args := [] }
  | _ => none }
def groupSmallRow : OpenClaim := { program := "ytkkmmbmjpfecdaa", sum := "4ec885c939b2a2e2ad0b48171384df0b3521e37f340156694b8f2ea964886eb4", func := "quantum/quantumlaw19.GroupSmall", spec := "groupSmall", unfollowed := true, recurses := true, apart := false }
def GroupSmallSaid : Prop := groupSmallRow.holds Try.pinned (OpenSpec.ofChange groupSmallSpec)

/-- ITS FALSE NEIGHBOUR: 'it returns false'. Refute it at one input. -/
def groupSmallWrong : ChangeSpec := { name := "groupSmall", fn := fun _ => fun
  | [] => { results := [.lit (.bool false)], args := [] }
  | _ => none }
def GroupSmallWrongFalsely : Prop := groupSmallRow.holds Try.pinned (OpenSpec.ofChange groupSmallWrong)

/-- 'quantumlaw19.GroupAdds': WHATEVER THE INPUT: true; the input reads as it did. -/
def groupAddsSpec : ChangeSpec := { name := "groupAdds", fn := fun _ => fun
  | [d1, d2, d3] => { results := [.lit (.bool true)], args := [d1, d2, d3] }
  | _ => none }
def groupAddsRow : OpenClaim := { program := "ytkkmmbmjpfecdaa", sum := "4ec885c939b2a2e2ad0b48171384df0b3521e37f340156694b8f2ea964886eb4", func := "quantum/quantumlaw19.GroupAdds", spec := "groupAdds", unfollowed := true, recurses := true, apart := false }
def GroupAddsSaid : Prop := groupAddsRow.holds Try.pinned (OpenSpec.ofChange groupAddsSpec)

/-- ITS FALSE NEIGHBOUR: 'it returns false'. Refute it at one input. -/
def groupAddsWrong : ChangeSpec := { name := "groupAdds", fn := fun _ => fun
  | [d1, d2, d3] => { results := [.lit (.bool false)], args := [d1, d2, d3] }
  | _ => none }
def GroupAddsWrongFalsely : Prop := groupAddsRow.holds Try.pinned (OpenSpec.ofChange groupAddsWrong)

/-- 'quantumlaw19.GroupWrong': WHATEVER THE INPUT: true; the input reads as it did. -/
def groupWrongSpec : ChangeSpec := { name := "groupWrong", fn := fun _ => fun
  | [d1, d2, d3, d4] => { results := [.lit (.bool true)], args := [d1, d2, d3, d4] }
  | _ => none }
def groupWrongRow : OpenClaim := { program := "ytkkmmbmjpfecdaa", sum := "4ec885c939b2a2e2ad0b48171384df0b3521e37f340156694b8f2ea964886eb4", func := "quantum/quantumlaw19.GroupWrong", spec := "groupWrong", unfollowed := true, recurses := true, apart := false }
def GroupWrongSaid : Prop := groupWrongRow.holds Try.pinned (OpenSpec.ofChange groupWrongSpec)

/-- ITS FALSE NEIGHBOUR: 'it returns false'. Refute it at one input. -/
def groupWrongWrong : ChangeSpec := { name := "groupWrong", fn := fun _ => fun
  | [d1, d2, d3, d4] => { results := [.lit (.bool false)], args := [d1, d2, d3, d4] }
  | _ => none }
def GroupWrongWrongFalsely : Prop := groupWrongRow.holds Try.pinned (OpenSpec.ofChange groupWrongWrong)

/-- 'quantumlaw19.GroupOrder': WHATEVER THE INPUT: true; the input reads as it did. -/
def groupOrderSpec : ChangeSpec := { name := "groupOrder", fn := fun _ => fun
  | [d1, d2] => { results := [.lit (.bool true)], args := [d1, d2] }
  | _ => none }
def groupOrderRow : OpenClaim := { program := "ytkkmmbmjpfecdaa", sum := "4ec885c939b2a2e2ad0b48171384df0b3521e37f340156694b8f2ea964886eb4", func := "quantum/quantumlaw19.GroupOrder", spec := "groupOrder", unfollowed := true, recurses := true, apart := false }
def GroupOrderSaid : Prop := groupOrderRow.holds Try.pinned (OpenSpec.ofChange groupOrderSpec)

/-- ITS FALSE NEIGHBOUR: 'it returns false'. Refute it at one input. -/
def groupOrderWrong : ChangeSpec := { name := "groupOrder", fn := fun _ => fun
  | [d1, d2] => { results := [.lit (.bool false)], args := [d1, d2] }
  | _ => none }
def GroupOrderWrongFalsely : Prop := groupOrderRow.holds Try.pinned (OpenSpec.ofChange groupOrderWrong)

/-- 'quantumlaw19.GroupTree': WHATEVER THE INPUT: true; the input reads as it did. -/
def groupTreeSpec : ChangeSpec := { name := "groupTree", fn := fun _ => fun
  | [d1, d2] => { results := [.lit (.bool true)], args := [d1, d2] }
  | _ => none }
def groupTreeRow : OpenClaim := { program := "ytkkmmbmjpfecdaa", sum := "4ec885c939b2a2e2ad0b48171384df0b3521e37f340156694b8f2ea964886eb4", func := "quantum/quantumlaw19.GroupTree", spec := "groupTree", unfollowed := true, recurses := true, apart := false }
def GroupTreeSaid : Prop := groupTreeRow.holds Try.pinned (OpenSpec.ofChange groupTreeSpec)

/-- ITS FALSE NEIGHBOUR: 'it returns false'. Refute it at one input. -/
def groupTreeWrong : ChangeSpec := { name := "groupTree", fn := fun _ => fun
  | [d1, d2] => { results := [.lit (.bool false)], args := [d1, d2] }
  | _ => none }
def GroupTreeWrongFalsely : Prop := groupTreeRow.holds Try.pinned (OpenSpec.ofChange groupTreeWrong)

/- THE SECOND FORM. 'bulk': how many values and letters a reading holds, each counted each time it is reached (what is shared counts as often as it is met; a slice's spare places count too). A statement '..UptoSaid' is the law's where the arguments, and the package variables that the reading takes, are together of bulk at most 1048576: NARROWER than '..Said'. Prove '..Said' where nothing that the law and all that it calls make is longer than what came in: it says more and counts as full. Else prove '..UptoSaid'. A law counts once. -/
mutual
def uptoBulk {H : Type} : DataW H → Nat
  | .lit (.string bytes) => bytes.length + 1
  | .lit _ => 1
  | .nil => 1
  | .ptr d => uptoBulk d + 1
  | .slice elems spare => uptoBulkAll elems + uptoBulkAll spare + 1
  | .agg parts => uptoBulkAll parts + 1
  | .iface _ d => uptoBulk d + 1
  | .map entries => uptoBulkEntries entries + 1
  | .held _ => 1
def uptoBulkAll {H : Type} : List (DataW H) → Nat
  | [] => 0
  | d :: r => uptoBulk d + uptoBulkAll r
def uptoBulkEntries {H : Type} : List (Lit × DataW H) → Nat
  | [] => 0
  | x :: r => uptoBulkEntry x + uptoBulkEntries r
def uptoBulkEntry {H : Type} : Lit × DataW H → Nat
  | (.string bytes, d) => bytes.length + uptoBulk d + 1
  | (_, d) => uptoBulk d + 1
 end
def uptoSmall : (H : Type) → List (DataW H) → Bool := fun _ ds => decide (uptoBulkAll ds ≤ 1048576)
def OpenSpec.upto (s : _root_.Go.ChangeSpec) : _root_.Go.OpenSpec := { _root_.Go.OpenSpec.ofChange s with cond := some uptoSmall }

/-- 'quantumlaw19.GroupMeets', WHERE WHAT IT READS IS OF BULK AT MOST 1048576: true; the input reads as it did. -/
def groupMeetsUptoRow : OpenClaim := { program := "ytkkmmbmjpfecdaa", sum := "4ec885c939b2a2e2ad0b48171384df0b3521e37f340156694b8f2ea964886eb4", func := "quantum/quantumlaw19.GroupMeets", spec := "groupMeets", unfollowed := true, recurses := true, apart := false, narrowed := true }
def GroupMeetsUptoSaid : Prop := groupMeetsUptoRow.holds Try.pinned (OpenSpec.upto groupMeetsSpec)

/-- 'quantumlaw19.GroupTells', WHERE WHAT IT READS IS OF BULK AT MOST 1048576: true; the input reads as it did. -/
def groupTellsUptoRow : OpenClaim := { program := "ytkkmmbmjpfecdaa", sum := "4ec885c939b2a2e2ad0b48171384df0b3521e37f340156694b8f2ea964886eb4", func := "quantum/quantumlaw19.GroupTells", spec := "groupTells", unfollowed := true, recurses := true, apart := false, narrowed := true }
def GroupTellsUptoSaid : Prop := groupTellsUptoRow.holds Try.pinned (OpenSpec.upto groupTellsSpec)

/-- 'quantumlaw19.GroupSmall', WHERE WHAT IT READS IS OF BULK AT MOST 1048576: true; the input reads as it did. -/
def groupSmallUptoRow : OpenClaim := { program := "ytkkmmbmjpfecdaa", sum := "4ec885c939b2a2e2ad0b48171384df0b3521e37f340156694b8f2ea964886eb4", func := "quantum/quantumlaw19.GroupSmall", spec := "groupSmall", unfollowed := true, recurses := true, apart := false, narrowed := true }
def GroupSmallUptoSaid : Prop := groupSmallUptoRow.holds Try.pinned (OpenSpec.upto groupSmallSpec)

/-- 'quantumlaw19.GroupAdds', WHERE WHAT IT READS IS OF BULK AT MOST 1048576: true; the input reads as it did. -/
def groupAddsUptoRow : OpenClaim := { program := "ytkkmmbmjpfecdaa", sum := "4ec885c939b2a2e2ad0b48171384df0b3521e37f340156694b8f2ea964886eb4", func := "quantum/quantumlaw19.GroupAdds", spec := "groupAdds", unfollowed := true, recurses := true, apart := false, narrowed := true }
def GroupAddsUptoSaid : Prop := groupAddsUptoRow.holds Try.pinned (OpenSpec.upto groupAddsSpec)

/-- 'quantumlaw19.GroupWrong', WHERE WHAT IT READS IS OF BULK AT MOST 1048576: true; the input reads as it did. -/
def groupWrongUptoRow : OpenClaim := { program := "ytkkmmbmjpfecdaa", sum := "4ec885c939b2a2e2ad0b48171384df0b3521e37f340156694b8f2ea964886eb4", func := "quantum/quantumlaw19.GroupWrong", spec := "groupWrong", unfollowed := true, recurses := true, apart := false, narrowed := true }
def GroupWrongUptoSaid : Prop := groupWrongUptoRow.holds Try.pinned (OpenSpec.upto groupWrongSpec)

/-- 'quantumlaw19.GroupOrder', WHERE WHAT IT READS IS OF BULK AT MOST 1048576: true; the input reads as it did. -/
def groupOrderUptoRow : OpenClaim := { program := "ytkkmmbmjpfecdaa", sum := "4ec885c939b2a2e2ad0b48171384df0b3521e37f340156694b8f2ea964886eb4", func := "quantum/quantumlaw19.GroupOrder", spec := "groupOrder", unfollowed := true, recurses := true, apart := false, narrowed := true }
def GroupOrderUptoSaid : Prop := groupOrderUptoRow.holds Try.pinned (OpenSpec.upto groupOrderSpec)

/-- 'quantumlaw19.GroupTree', WHERE WHAT IT READS IS OF BULK AT MOST 1048576: true; the input reads as it did. -/
def groupTreeUptoRow : OpenClaim := { program := "ytkkmmbmjpfecdaa", sum := "4ec885c939b2a2e2ad0b48171384df0b3521e37f340156694b8f2ea964886eb4", func := "quantum/quantumlaw19.GroupTree", spec := "groupTree", unfollowed := true, recurses := true, apart := false, narrowed := true }
def GroupTreeUptoSaid : Prop := groupTreeUptoRow.holds Try.pinned (OpenSpec.upto groupTreeSpec)

end Rows
end Go.Proofs.Ytkkmmbmjpfecdaa

/-
  NARROWER THAN 'FOR EVERY INPUT', by the rows' own cells (each row's printed sentence says how): MergeSmall: laid · MergeWrong: laid · MergeAfter: laid · MergeLost: laid · MergeWhole: laid · MergeTells: laid · MergeAsks: laid · MergeTwice: laid · MergeSplits: laid · MergeRows: laid.
  DERIVED. THE GIVEN ROWS OF THIS SEAT. 10 by the template 'for every input the law returns true; each argument reads behind the call as it read before'; 0 by the template 'total and deterministic' (their statements: YtalophngappkhaaGreatDoorTotals.lean).
  GIVEN WITH THE SEED: the statements are not yours to turn. If you find one false, say at which input.
  Laid BY PROGRAM, IN A SANDBOX (cutbox-rows.mjs): the forced cells as the released guide's own fill.sh prints them over the translation 5892d09a104a122c… (all of the seat's roots in one cut). By AI agents, Wed Nov 11 2026. No macro, syntax, notation, axiom, sorry.
-/
import Derived.Test.YtalophngappkhaaGreatDoorChecked
import GoSem.Claim
import GoSem.ClaimJoined
import GoSem.ClaimMapViews
import Derived.JoinedTies
import Derived.KernelRfl
namespace Go.Proofs.YtalophngappkhaaGreatDoor
/- THE CELL 'sum', in the pinned program and in every row, IS THE sha256 OF THE DUMP (.gsa) THAT YtalophngappkhaaGreatDoorProg.lean LOADS. Nothing in Lean hashes anything: it is a label: what it is worth is what the hold of that sum in a sandbox is worth. -/
noncomputable def Tryz.pinned : Pinned := { name := "ytalophngappkhaagreatdoor", sum := "5892d09a104a122c81642325058875232fa5bf7cfa47269da938ade61fb29a32", checked := Tryz.checked }
namespace Rows
def none {H : Type} : Left H := { results := [], args := [] }

/- WHAT THE LISTED PACKAGE-LEVEL VARIABLES READ AS WHEN THE CALL BEGINS. Each datum BY PROGRAM (the guide's laid-datum.mjs) off the statement by which the dump's own 'gosem.cut.vars' lays the variable. In a bare row this is a premise. The card (YtalophngappkhaaGreatDoorCards.lean) ties it to the program's text. -/
def laid_quantum_event_uses {H : Type} : DataW H := .agg [.nil, .slice [.lit (.int .i64 0), .lit (.int .i64 1), .lit (.int .i64 3), .lit (.int .i64 5)] [], .slice [.lit (.int .i64 0)] [], .slice [.lit (.int .i64 6)] [], .slice [.lit (.int .i64 6)] [], .slice [.lit (.int .i64 4), .lit (.int .i64 6)] [], .slice [.lit (.int .i64 6)] [], .slice [.lit (.int .i64 0), .lit (.int .i64 3)] [], .slice [.lit (.int .i64 1), .lit (.int .i64 3)] [], .slice [.lit (.int .i64 0), .lit (.int .i64 2)] [], .slice [.lit (.int .i64 6)] []]
def laid_quantum_crc_halves {H : Type} : DataW H := .agg [.lit (.int .u32 0), .lit (.int .u32 498536548), .lit (.int .u32 997073096), .lit (.int .u32 651767980), .lit (.int .u32 1994146192), .lit (.int .u32 1802195444), .lit (.int .u32 1303535960), .lit (.int .u32 1342533948), .lit (.int .u32 3988292384), .lit (.int .u32 4027552580), .lit (.int .u32 3604390888), .lit (.int .u32 3412177804), .lit (.int .u32 2607071920), .lit (.int .u32 2262029012), .lit (.int .u32 2685067896), .lit (.int .u32 3183342108)]
def laid_quantum_block_magic {H : Type} : DataW H := .agg [.lit (.int .u8 113), .lit (.int .u8 116)]

/-- 'quantumlaw12.MergeSmall': WHATEVER THE INPUT: true; the input reads as it did. -/
def mergeSmallSpec : ChangeSpec := { name := "mergeSmall", fn := fun _ => fun
  | [] => { results := [.lit (.bool true)], args := [] }
  | _ => none }
def mergeSmallRow : OpenClaim := { program := "ytalophngappkhaagreatdoor", sum := "5892d09a104a122c81642325058875232fa5bf7cfa47269da938ade61fb29a32", func := "quantum/quantumlaw12.MergeSmall", spec := "mergeSmall", unfollowed := true, recurses := true, named := ["quantum/block.magic", "quantum/event.uses", "quantum/crc.halves"], apart := false, laid := [("quantum/event.uses", laid_quantum_event_uses), ("quantum/crc.halves", laid_quantum_crc_halves), ("quantum/block.magic", laid_quantum_block_magic)] }
def MergeSmallSaid : Prop := mergeSmallRow.holds Tryz.pinned (OpenSpec.ofChange mergeSmallSpec)

/-- ITS FALSE NEIGHBOUR: 'it returns false'. Refute it at one input. -/
def mergeSmallWrong : ChangeSpec := { name := "mergeSmall", fn := fun _ => fun
  | [] => { results := [.lit (.bool false)], args := [] }
  | _ => none }
def MergeSmallWrongFalsely : Prop := mergeSmallRow.holds Tryz.pinned (OpenSpec.ofChange mergeSmallWrong)

/-- 'quantumlaw12.MergeWrong': WHATEVER THE INPUT: true; the input reads as it did. -/
def mergeWrongSpec : ChangeSpec := { name := "mergeWrong", fn := fun _ => fun
  | [d1, d2, d3, d4, d5] => { results := [.lit (.bool true)], args := [d1, d2, d3, d4, d5] }
  | _ => none }
def mergeWrongRow : OpenClaim := { program := "ytalophngappkhaagreatdoor", sum := "5892d09a104a122c81642325058875232fa5bf7cfa47269da938ade61fb29a32", func := "quantum/quantumlaw12.MergeWrong", spec := "mergeWrong", inPlace := ["slices.overlaps[quantum/block.Block]"], unfollowed := true, recurses := true, named := ["quantum/block.magic", "quantum/event.uses", "quantum/crc.halves"], apart := false, laid := [("quantum/event.uses", laid_quantum_event_uses), ("quantum/crc.halves", laid_quantum_crc_halves), ("quantum/block.magic", laid_quantum_block_magic)] }
def MergeWrongSaid : Prop := mergeWrongRow.holds Tryz.pinned (OpenSpec.ofChange mergeWrongSpec)

/-- ITS FALSE NEIGHBOUR: 'it returns false'. Refute it at one input. -/
def mergeWrongWrong : ChangeSpec := { name := "mergeWrong", fn := fun _ => fun
  | [d1, d2, d3, d4, d5] => { results := [.lit (.bool false)], args := [d1, d2, d3, d4, d5] }
  | _ => none }
def MergeWrongWrongFalsely : Prop := mergeWrongRow.holds Tryz.pinned (OpenSpec.ofChange mergeWrongWrong)

/-- 'quantumlaw12.MergeAfter': WHATEVER THE INPUT: true; the input reads as it did. -/
def mergeAfterSpec : ChangeSpec := { name := "mergeAfter", fn := fun _ => fun
  | [d1, d2, d3, d4] => { results := [.lit (.bool true)], args := [d1, d2, d3, d4] }
  | _ => none }
def mergeAfterRow : OpenClaim := { program := "ytalophngappkhaagreatdoor", sum := "5892d09a104a122c81642325058875232fa5bf7cfa47269da938ade61fb29a32", func := "quantum/quantumlaw12.MergeAfter", spec := "mergeAfter", unfollowed := true, recurses := true, named := ["quantum/block.magic", "quantum/event.uses", "quantum/crc.halves"], apart := false, laid := [("quantum/event.uses", laid_quantum_event_uses), ("quantum/crc.halves", laid_quantum_crc_halves), ("quantum/block.magic", laid_quantum_block_magic)] }
def MergeAfterSaid : Prop := mergeAfterRow.holds Tryz.pinned (OpenSpec.ofChange mergeAfterSpec)

/-- ITS FALSE NEIGHBOUR: 'it returns false'. Refute it at one input. -/
def mergeAfterWrong : ChangeSpec := { name := "mergeAfter", fn := fun _ => fun
  | [d1, d2, d3, d4] => { results := [.lit (.bool false)], args := [d1, d2, d3, d4] }
  | _ => none }
def MergeAfterWrongFalsely : Prop := mergeAfterRow.holds Tryz.pinned (OpenSpec.ofChange mergeAfterWrong)

/-- 'quantumlaw12.MergeLost': WHATEVER THE INPUT: true; the input reads as it did. -/
def mergeLostSpec : ChangeSpec := { name := "mergeLost", fn := fun _ => fun
  | [d1, d2, d3, d4] => { results := [.lit (.bool true)], args := [d1, d2, d3, d4] }
  | _ => none }
def mergeLostRow : OpenClaim := { program := "ytalophngappkhaagreatdoor", sum := "5892d09a104a122c81642325058875232fa5bf7cfa47269da938ade61fb29a32", func := "quantum/quantumlaw12.MergeLost", spec := "mergeLost", unfollowed := true, recurses := true, named := ["quantum/block.magic", "quantum/event.uses", "quantum/crc.halves"], apart := false, laid := [("quantum/event.uses", laid_quantum_event_uses), ("quantum/crc.halves", laid_quantum_crc_halves), ("quantum/block.magic", laid_quantum_block_magic)] }
def MergeLostSaid : Prop := mergeLostRow.holds Tryz.pinned (OpenSpec.ofChange mergeLostSpec)

/-- ITS FALSE NEIGHBOUR: 'it returns false'. Refute it at one input. -/
def mergeLostWrong : ChangeSpec := { name := "mergeLost", fn := fun _ => fun
  | [d1, d2, d3, d4] => { results := [.lit (.bool false)], args := [d1, d2, d3, d4] }
  | _ => none }
def MergeLostWrongFalsely : Prop := mergeLostRow.holds Tryz.pinned (OpenSpec.ofChange mergeLostWrong)

/-- 'quantumlaw12.MergeWhole': WHATEVER THE INPUT: true; the input reads as it did. -/
def mergeWholeSpec : ChangeSpec := { name := "mergeWhole", fn := fun _ => fun
  | [d1, d2, d3, d4] => { results := [.lit (.bool true)], args := [d1, d2, d3, d4] }
  | _ => none }
def mergeWholeRow : OpenClaim := { program := "ytalophngappkhaagreatdoor", sum := "5892d09a104a122c81642325058875232fa5bf7cfa47269da938ade61fb29a32", func := "quantum/quantumlaw12.MergeWhole", spec := "mergeWhole", unfollowed := true, recurses := true, named := ["quantum/block.magic", "quantum/event.uses", "quantum/crc.halves"], apart := false, laid := [("quantum/event.uses", laid_quantum_event_uses), ("quantum/crc.halves", laid_quantum_crc_halves), ("quantum/block.magic", laid_quantum_block_magic)] }
def MergeWholeSaid : Prop := mergeWholeRow.holds Tryz.pinned (OpenSpec.ofChange mergeWholeSpec)

/-- ITS FALSE NEIGHBOUR: 'it returns false'. Refute it at one input. -/
def mergeWholeWrong : ChangeSpec := { name := "mergeWhole", fn := fun _ => fun
  | [d1, d2, d3, d4] => { results := [.lit (.bool false)], args := [d1, d2, d3, d4] }
  | _ => none }
def MergeWholeWrongFalsely : Prop := mergeWholeRow.holds Tryz.pinned (OpenSpec.ofChange mergeWholeWrong)

/-- 'quantumlaw12.MergeTells': WHATEVER THE INPUT: true; the input reads as it did. -/
def mergeTellsSpec : ChangeSpec := { name := "mergeTells", fn := fun _ => fun
  | [d1, d2] => { results := [.lit (.bool true)], args := [d1, d2] }
  | _ => none }
def mergeTellsRow : OpenClaim := { program := "ytalophngappkhaagreatdoor", sum := "5892d09a104a122c81642325058875232fa5bf7cfa47269da938ade61fb29a32", func := "quantum/quantumlaw12.MergeTells", spec := "mergeTells", unfollowed := true, recurses := true, named := ["quantum/block.magic", "quantum/event.uses", "quantum/crc.halves"], apart := false, laid := [("quantum/event.uses", laid_quantum_event_uses), ("quantum/crc.halves", laid_quantum_crc_halves), ("quantum/block.magic", laid_quantum_block_magic)] }
def MergeTellsSaid : Prop := mergeTellsRow.holds Tryz.pinned (OpenSpec.ofChange mergeTellsSpec)

/-- ITS FALSE NEIGHBOUR: 'it returns false'. Refute it at one input. -/
def mergeTellsWrong : ChangeSpec := { name := "mergeTells", fn := fun _ => fun
  | [d1, d2] => { results := [.lit (.bool false)], args := [d1, d2] }
  | _ => none }
def MergeTellsWrongFalsely : Prop := mergeTellsRow.holds Tryz.pinned (OpenSpec.ofChange mergeTellsWrong)

/-- 'quantumlaw12.MergeAsks': WHATEVER THE INPUT: true; the input reads as it did. -/
def mergeAsksSpec : ChangeSpec := { name := "mergeAsks", fn := fun _ => fun
  | [d1, d2] => { results := [.lit (.bool true)], args := [d1, d2] }
  | _ => none }
def mergeAsksRow : OpenClaim := { program := "ytalophngappkhaagreatdoor", sum := "5892d09a104a122c81642325058875232fa5bf7cfa47269da938ade61fb29a32", func := "quantum/quantumlaw12.MergeAsks", spec := "mergeAsks", unfollowed := true, recurses := true, named := ["quantum/block.magic", "quantum/event.uses", "quantum/crc.halves"], apart := false, laid := [("quantum/event.uses", laid_quantum_event_uses), ("quantum/crc.halves", laid_quantum_crc_halves), ("quantum/block.magic", laid_quantum_block_magic)] }
def MergeAsksSaid : Prop := mergeAsksRow.holds Tryz.pinned (OpenSpec.ofChange mergeAsksSpec)

/-- ITS FALSE NEIGHBOUR: 'it returns false'. Refute it at one input. -/
def mergeAsksWrong : ChangeSpec := { name := "mergeAsks", fn := fun _ => fun
  | [d1, d2] => { results := [.lit (.bool false)], args := [d1, d2] }
  | _ => none }
def MergeAsksWrongFalsely : Prop := mergeAsksRow.holds Tryz.pinned (OpenSpec.ofChange mergeAsksWrong)

/-- 'quantumlaw12.MergeTwice': WHATEVER THE INPUT: true; the input reads as it did. -/
def mergeTwiceSpec : ChangeSpec := { name := "mergeTwice", fn := fun _ => fun
  | [d1, d2, d3, d4] => { results := [.lit (.bool true)], args := [d1, d2, d3, d4] }
  | _ => none }
def mergeTwiceRow : OpenClaim := { program := "ytalophngappkhaagreatdoor", sum := "5892d09a104a122c81642325058875232fa5bf7cfa47269da938ade61fb29a32", func := "quantum/quantumlaw12.MergeTwice", spec := "mergeTwice", unfollowed := true, recurses := true, named := ["quantum/block.magic", "quantum/event.uses", "quantum/crc.halves"], apart := false, laid := [("quantum/event.uses", laid_quantum_event_uses), ("quantum/crc.halves", laid_quantum_crc_halves), ("quantum/block.magic", laid_quantum_block_magic)] }
def MergeTwiceSaid : Prop := mergeTwiceRow.holds Tryz.pinned (OpenSpec.ofChange mergeTwiceSpec)

/-- ITS FALSE NEIGHBOUR: 'it returns false'. Refute it at one input. -/
def mergeTwiceWrong : ChangeSpec := { name := "mergeTwice", fn := fun _ => fun
  | [d1, d2, d3, d4] => { results := [.lit (.bool false)], args := [d1, d2, d3, d4] }
  | _ => none }
def MergeTwiceWrongFalsely : Prop := mergeTwiceRow.holds Tryz.pinned (OpenSpec.ofChange mergeTwiceWrong)

/-- 'quantumlaw12.MergeSplits': WHATEVER THE INPUT: true; the input reads as it did. -/
def mergeSplitsSpec : ChangeSpec := { name := "mergeSplits", fn := fun _ => fun
  | [d1, d2, d3] => { results := [.lit (.bool true)], args := [d1, d2, d3] }
  | _ => none }
def mergeSplitsRow : OpenClaim := { program := "ytalophngappkhaagreatdoor", sum := "5892d09a104a122c81642325058875232fa5bf7cfa47269da938ade61fb29a32", func := "quantum/quantumlaw12.MergeSplits", spec := "mergeSplits", unfollowed := true, recurses := true, named := ["quantum/block.magic", "quantum/event.uses", "quantum/crc.halves"], apart := false, laid := [("quantum/event.uses", laid_quantum_event_uses), ("quantum/crc.halves", laid_quantum_crc_halves), ("quantum/block.magic", laid_quantum_block_magic)] }
def MergeSplitsSaid : Prop := mergeSplitsRow.holds Tryz.pinned (OpenSpec.ofChange mergeSplitsSpec)

/-- ITS FALSE NEIGHBOUR: 'it returns false'. Refute it at one input. -/
def mergeSplitsWrong : ChangeSpec := { name := "mergeSplits", fn := fun _ => fun
  | [d1, d2, d3] => { results := [.lit (.bool false)], args := [d1, d2, d3] }
  | _ => none }
def MergeSplitsWrongFalsely : Prop := mergeSplitsRow.holds Tryz.pinned (OpenSpec.ofChange mergeSplitsWrong)

/-- 'quantumlaw12.MergeRows': WHATEVER THE INPUT: true; the input reads as it did. -/
def mergeRowsSpec : ChangeSpec := { name := "mergeRows", fn := fun _ => fun
  | [d] => { results := [.lit (.bool true)], args := [d] }
  | _ => none }
def mergeRowsRow : OpenClaim := { program := "ytalophngappkhaagreatdoor", sum := "5892d09a104a122c81642325058875232fa5bf7cfa47269da938ade61fb29a32", func := "quantum/quantumlaw12.MergeRows", spec := "mergeRows", unfollowed := true, recurses := true, named := ["quantum/block.magic", "quantum/event.uses", "quantum/crc.halves"], apart := false, laid := [("quantum/event.uses", laid_quantum_event_uses), ("quantum/crc.halves", laid_quantum_crc_halves), ("quantum/block.magic", laid_quantum_block_magic)] }
def MergeRowsSaid : Prop := mergeRowsRow.holds Tryz.pinned (OpenSpec.ofChange mergeRowsSpec)

/-- ITS FALSE NEIGHBOUR: 'it returns false'. Refute it at one input. -/
def mergeRowsWrong : ChangeSpec := { name := "mergeRows", fn := fun _ => fun
  | [d] => { results := [.lit (.bool false)], args := [d] }
  | _ => none }
def MergeRowsWrongFalsely : Prop := mergeRowsRow.holds Tryz.pinned (OpenSpec.ofChange mergeRowsWrong)

/- THE SECOND FORM. 'bulk': how many values and letters a reading holds, each counted each time it is reached (what is shared counts as often as it is met; a slice's spare places count too). A statement '..UptoSaid' is the law's where the arguments, and the package variables that the reading takes, are together of bulk at most 1048576: NARROWER than '..Said'. Prove '..Said' where nothing that the law and all that it calls make is longer than what came in: it says more and counts as full. Else prove '..UptoSaid'. A law counts once. -/
mutual
def uptoBulk {H : Type} : DataW H → Nat
  | .lit (.string bytes) => bytes.length + 1
  | .lit _ => 1
  | .nil => 1
  | .ptr d => uptoBulk d + 1
  | .slice elems spare => uptoBulkAll elems + uptoBulkAll spare + 1
  | .agg parts => uptoBulkAll parts + 1
  | .iface _ d => uptoBulk d + 1
  | .map entries => uptoBulkEntries entries + 1
  | .held _ => 1
def uptoBulkAll {H : Type} : List (DataW H) → Nat
  | [] => 0
  | d :: r => uptoBulk d + uptoBulkAll r
def uptoBulkEntries {H : Type} : List (Lit × DataW H) → Nat
  | [] => 0
  | x :: r => uptoBulkEntry x + uptoBulkEntries r
def uptoBulkEntry {H : Type} : Lit × DataW H → Nat
  | (.string bytes, d) => bytes.length + uptoBulk d + 1
  | (_, d) => uptoBulk d + 1
 end
def uptoSmall : (H : Type) → List (DataW H) → Bool := fun _ ds => decide (uptoBulkAll ds ≤ 1048576)
def OpenSpec.upto (s : _root_.Go.ChangeSpec) : _root_.Go.OpenSpec := { _root_.Go.OpenSpec.ofChange s with cond := some uptoSmall }

/-- 'quantumlaw12.MergeSmall', WHERE WHAT IT READS IS OF BULK AT MOST 1048576: true; the input reads as it did. -/
def mergeSmallUptoRow : OpenClaim := { program := "ytalophngappkhaagreatdoor", sum := "5892d09a104a122c81642325058875232fa5bf7cfa47269da938ade61fb29a32", func := "quantum/quantumlaw12.MergeSmall", spec := "mergeSmall", unfollowed := true, recurses := true, named := ["quantum/block.magic", "quantum/event.uses", "quantum/crc.halves"], apart := false, laid := [("quantum/event.uses", laid_quantum_event_uses), ("quantum/crc.halves", laid_quantum_crc_halves), ("quantum/block.magic", laid_quantum_block_magic)], narrowed := true }
def MergeSmallUptoSaid : Prop := mergeSmallUptoRow.holds Tryz.pinned (OpenSpec.upto mergeSmallSpec)

/-- 'quantumlaw12.MergeWrong', WHERE WHAT IT READS IS OF BULK AT MOST 1048576: true; the input reads as it did. -/
def mergeWrongUptoRow : OpenClaim := { program := "ytalophngappkhaagreatdoor", sum := "5892d09a104a122c81642325058875232fa5bf7cfa47269da938ade61fb29a32", func := "quantum/quantumlaw12.MergeWrong", spec := "mergeWrong", inPlace := ["slices.overlaps[quantum/block.Block]"], unfollowed := true, recurses := true, named := ["quantum/block.magic", "quantum/event.uses", "quantum/crc.halves"], apart := false, laid := [("quantum/event.uses", laid_quantum_event_uses), ("quantum/crc.halves", laid_quantum_crc_halves), ("quantum/block.magic", laid_quantum_block_magic)], narrowed := true }
def MergeWrongUptoSaid : Prop := mergeWrongUptoRow.holds Tryz.pinned (OpenSpec.upto mergeWrongSpec)

/-- 'quantumlaw12.MergeAfter', WHERE WHAT IT READS IS OF BULK AT MOST 1048576: true; the input reads as it did. -/
def mergeAfterUptoRow : OpenClaim := { program := "ytalophngappkhaagreatdoor", sum := "5892d09a104a122c81642325058875232fa5bf7cfa47269da938ade61fb29a32", func := "quantum/quantumlaw12.MergeAfter", spec := "mergeAfter", unfollowed := true, recurses := true, named := ["quantum/block.magic", "quantum/event.uses", "quantum/crc.halves"], apart := false, laid := [("quantum/event.uses", laid_quantum_event_uses), ("quantum/crc.halves", laid_quantum_crc_halves), ("quantum/block.magic", laid_quantum_block_magic)], narrowed := true }
def MergeAfterUptoSaid : Prop := mergeAfterUptoRow.holds Tryz.pinned (OpenSpec.upto mergeAfterSpec)

/-- 'quantumlaw12.MergeLost', WHERE WHAT IT READS IS OF BULK AT MOST 1048576: true; the input reads as it did. -/
def mergeLostUptoRow : OpenClaim := { program := "ytalophngappkhaagreatdoor", sum := "5892d09a104a122c81642325058875232fa5bf7cfa47269da938ade61fb29a32", func := "quantum/quantumlaw12.MergeLost", spec := "mergeLost", unfollowed := true, recurses := true, named := ["quantum/block.magic", "quantum/event.uses", "quantum/crc.halves"], apart := false, laid := [("quantum/event.uses", laid_quantum_event_uses), ("quantum/crc.halves", laid_quantum_crc_halves), ("quantum/block.magic", laid_quantum_block_magic)], narrowed := true }
def MergeLostUptoSaid : Prop := mergeLostUptoRow.holds Tryz.pinned (OpenSpec.upto mergeLostSpec)

/-- 'quantumlaw12.MergeWhole', WHERE WHAT IT READS IS OF BULK AT MOST 1048576: true; the input reads as it did. -/
def mergeWholeUptoRow : OpenClaim := { program := "ytalophngappkhaagreatdoor", sum := "5892d09a104a122c81642325058875232fa5bf7cfa47269da938ade61fb29a32", func := "quantum/quantumlaw12.MergeWhole", spec := "mergeWhole", unfollowed := true, recurses := true, named := ["quantum/block.magic", "quantum/event.uses", "quantum/crc.halves"], apart := false, laid := [("quantum/event.uses", laid_quantum_event_uses), ("quantum/crc.halves", laid_quantum_crc_halves), ("quantum/block.magic", laid_quantum_block_magic)], narrowed := true }
def MergeWholeUptoSaid : Prop := mergeWholeUptoRow.holds Tryz.pinned (OpenSpec.upto mergeWholeSpec)

/-- 'quantumlaw12.MergeTells', WHERE WHAT IT READS IS OF BULK AT MOST 1048576: true; the input reads as it did. -/
def mergeTellsUptoRow : OpenClaim := { program := "ytalophngappkhaagreatdoor", sum := "5892d09a104a122c81642325058875232fa5bf7cfa47269da938ade61fb29a32", func := "quantum/quantumlaw12.MergeTells", spec := "mergeTells", unfollowed := true, recurses := true, named := ["quantum/block.magic", "quantum/event.uses", "quantum/crc.halves"], apart := false, laid := [("quantum/event.uses", laid_quantum_event_uses), ("quantum/crc.halves", laid_quantum_crc_halves), ("quantum/block.magic", laid_quantum_block_magic)], narrowed := true }
def MergeTellsUptoSaid : Prop := mergeTellsUptoRow.holds Tryz.pinned (OpenSpec.upto mergeTellsSpec)

/-- 'quantumlaw12.MergeAsks', WHERE WHAT IT READS IS OF BULK AT MOST 1048576: true; the input reads as it did. -/
def mergeAsksUptoRow : OpenClaim := { program := "ytalophngappkhaagreatdoor", sum := "5892d09a104a122c81642325058875232fa5bf7cfa47269da938ade61fb29a32", func := "quantum/quantumlaw12.MergeAsks", spec := "mergeAsks", unfollowed := true, recurses := true, named := ["quantum/block.magic", "quantum/event.uses", "quantum/crc.halves"], apart := false, laid := [("quantum/event.uses", laid_quantum_event_uses), ("quantum/crc.halves", laid_quantum_crc_halves), ("quantum/block.magic", laid_quantum_block_magic)], narrowed := true }
def MergeAsksUptoSaid : Prop := mergeAsksUptoRow.holds Tryz.pinned (OpenSpec.upto mergeAsksSpec)

/-- 'quantumlaw12.MergeTwice', WHERE WHAT IT READS IS OF BULK AT MOST 1048576: true; the input reads as it did. -/
def mergeTwiceUptoRow : OpenClaim := { program := "ytalophngappkhaagreatdoor", sum := "5892d09a104a122c81642325058875232fa5bf7cfa47269da938ade61fb29a32", func := "quantum/quantumlaw12.MergeTwice", spec := "mergeTwice", unfollowed := true, recurses := true, named := ["quantum/block.magic", "quantum/event.uses", "quantum/crc.halves"], apart := false, laid := [("quantum/event.uses", laid_quantum_event_uses), ("quantum/crc.halves", laid_quantum_crc_halves), ("quantum/block.magic", laid_quantum_block_magic)], narrowed := true }
def MergeTwiceUptoSaid : Prop := mergeTwiceUptoRow.holds Tryz.pinned (OpenSpec.upto mergeTwiceSpec)

/-- 'quantumlaw12.MergeSplits', WHERE WHAT IT READS IS OF BULK AT MOST 1048576: true; the input reads as it did. -/
def mergeSplitsUptoRow : OpenClaim := { program := "ytalophngappkhaagreatdoor", sum := "5892d09a104a122c81642325058875232fa5bf7cfa47269da938ade61fb29a32", func := "quantum/quantumlaw12.MergeSplits", spec := "mergeSplits", unfollowed := true, recurses := true, named := ["quantum/block.magic", "quantum/event.uses", "quantum/crc.halves"], apart := false, laid := [("quantum/event.uses", laid_quantum_event_uses), ("quantum/crc.halves", laid_quantum_crc_halves), ("quantum/block.magic", laid_quantum_block_magic)], narrowed := true }
def MergeSplitsUptoSaid : Prop := mergeSplitsUptoRow.holds Tryz.pinned (OpenSpec.upto mergeSplitsSpec)

/-- 'quantumlaw12.MergeRows', WHERE WHAT IT READS IS OF BULK AT MOST 1048576: true; the input reads as it did. -/
def mergeRowsUptoRow : OpenClaim := { program := "ytalophngappkhaagreatdoor", sum := "5892d09a104a122c81642325058875232fa5bf7cfa47269da938ade61fb29a32", func := "quantum/quantumlaw12.MergeRows", spec := "mergeRows", unfollowed := true, recurses := true, named := ["quantum/block.magic", "quantum/event.uses", "quantum/crc.halves"], apart := false, laid := [("quantum/event.uses", laid_quantum_event_uses), ("quantum/crc.halves", laid_quantum_crc_halves), ("quantum/block.magic", laid_quantum_block_magic)], narrowed := true }
def MergeRowsUptoSaid : Prop := mergeRowsUptoRow.holds Tryz.pinned (OpenSpec.upto mergeRowsSpec)

end Rows
end Go.Proofs.YtalophngappkhaaGreatDoor

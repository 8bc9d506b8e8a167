/-
  No cell of these rows narrows 'for every input' (looked for: loops, veiled, ifaces, maps, wideKeys, modest, calm, conditions, laid).
  DERIVED. THE GIVEN ROWS OF THIS SEAT. 9 by the template 'for every input the law returns true; each argument reads behind the call as it read before'; 0 by the template 'total and deterministic' (their statements: YtenngfkgfdogjaaTotals.lean).
  GIVEN WITH THE SEED: the statements are not yours to turn. If you find one false, say at which input.
  Laid BY PROGRAM, IN A SANDBOX (cutbox-rows.mjs): the forced cells as the released guide's own fill.sh prints them over the translation 1245bc7896d4f15a… (all of the seat's roots in one cut). By AI agents, Wed Nov 11 2026. No macro, syntax, notation, axiom, sorry.
-/
import Derived.Test.YtenngfkgfdogjaaChecked
import GoSem.Claim
import GoSem.ClaimJoined
import GoSem.ClaimMapViews
import Derived.JoinedTies
import Derived.KernelRfl
namespace Go.Proofs.Ytenngfkgfdogjaa
/- THE CELL 'sum', in the pinned program and in every row, IS THE sha256 OF THE DUMP (.gsa) THAT YtenngfkgfdogjaaProg.lean LOADS. Nothing in Lean hashes anything: it is a label: what it is worth is what the hold of that sum in a sandbox is worth. -/
noncomputable def Try.pinned : Pinned := { name := "ytenngfkgfdogjaa", sum := "1245bc7896d4f15abc6dc2382fd59ca86c2e005bebcf2db0ee1cf55298b170fb", checked := Try.checked }
namespace Rows
def none {H : Type} : Left H := { results := [], args := [] }

/-- 'quantumlaw21.EntityLess': WHATEVER THE INPUT: true; the input reads as it did. -/
def entityLessSpec : ChangeSpec := { name := "entityLess", fn := fun _ => fun
  | [d1, d2] => { results := [.lit (.bool true)], args := [d1, d2] }
  | _ => none }
def entityLessRow : OpenClaim := { program := "ytenngfkgfdogjaa", sum := "1245bc7896d4f15abc6dc2382fd59ca86c2e005bebcf2db0ee1cf55298b170fb", func := "quantum/quantumlaw21.EntityLess", spec := "entityLess", unfollowed := true, recurses := true, apart := false }
def EntityLessSaid : Prop := entityLessRow.holds Try.pinned (OpenSpec.ofChange entityLessSpec)

/-- ITS FALSE NEIGHBOUR: 'it returns false'. Refute it at one input. -/
def entityLessWrong : ChangeSpec := { name := "entityLess", fn := fun _ => fun
  | [d1, d2] => { results := [.lit (.bool false)], args := [d1, d2] }
  | _ => none }
def EntityLessWrongFalsely : Prop := entityLessRow.holds Try.pinned (OpenSpec.ofChange entityLessWrong)

/-- 'quantumlaw21.EntityOrder': WHATEVER THE INPUT: true; the input reads as it did. -/
def entityOrderSpec : ChangeSpec := { name := "entityOrder", fn := fun _ => fun
  | [d1, d2, d3, d4, d5, d6] => { results := [.lit (.bool true)], args := [d1, d2, d3, d4, d5, d6] }
  | _ => none }
def entityOrderRow : OpenClaim := { program := "ytenngfkgfdogjaa", sum := "1245bc7896d4f15abc6dc2382fd59ca86c2e005bebcf2db0ee1cf55298b170fb", func := "quantum/quantumlaw21.EntityOrder", spec := "entityOrder", unfollowed := true, recurses := true, apart := false }
def EntityOrderSaid : Prop := entityOrderRow.holds Try.pinned (OpenSpec.ofChange entityOrderSpec)

/-- ITS FALSE NEIGHBOUR: 'it returns false'. Refute it at one input. -/
def entityOrderWrong : ChangeSpec := { name := "entityOrder", fn := fun _ => fun
  | [d1, d2, d3, d4, d5, d6] => { results := [.lit (.bool false)], args := [d1, d2, d3, d4, d5, d6] }
  | _ => none }
def EntityOrderWrongFalsely : Prop := entityOrderRow.holds Try.pinned (OpenSpec.ofChange entityOrderWrong)

/-- 'quantumlaw21.EntityFloors': WHATEVER THE INPUT: true; the input reads as it did. -/
def entityFloorsSpec : ChangeSpec := { name := "entityFloors", fn := fun _ => fun
  | [d1, d2, d3, d4] => { results := [.lit (.bool true)], args := [d1, d2, d3, d4] }
  | _ => none }
def entityFloorsRow : OpenClaim := { program := "ytenngfkgfdogjaa", sum := "1245bc7896d4f15abc6dc2382fd59ca86c2e005bebcf2db0ee1cf55298b170fb", func := "quantum/quantumlaw21.EntityFloors", spec := "entityFloors", unfollowed := true, recurses := true, apart := false }
def EntityFloorsSaid : Prop := entityFloorsRow.holds Try.pinned (OpenSpec.ofChange entityFloorsSpec)

/-- ITS FALSE NEIGHBOUR: 'it returns false'. Refute it at one input. -/
def entityFloorsWrong : ChangeSpec := { name := "entityFloors", fn := fun _ => fun
  | [d1, d2, d3, d4] => { results := [.lit (.bool false)], args := [d1, d2, d3, d4] }
  | _ => none }
def EntityFloorsWrongFalsely : Prop := entityFloorsRow.holds Try.pinned (OpenSpec.ofChange entityFloorsWrong)

/-- 'quantumlaw21.EntityFilled': WHATEVER THE INPUT: true; the input reads as it did. -/
def entityFilledSpec : ChangeSpec := { name := "entityFilled", fn := fun _ => fun
  | [d1, d2, d3, d4, d5] => { results := [.lit (.bool true)], args := [d1, d2, d3, d4, d5] }
  | _ => none }
def entityFilledRow : OpenClaim := { program := "ytenngfkgfdogjaa", sum := "1245bc7896d4f15abc6dc2382fd59ca86c2e005bebcf2db0ee1cf55298b170fb", func := "quantum/quantumlaw21.EntityFilled", spec := "entityFilled", unfollowed := true, recurses := true, apart := false }
def EntityFilledSaid : Prop := entityFilledRow.holds Try.pinned (OpenSpec.ofChange entityFilledSpec)

/-- ITS FALSE NEIGHBOUR: 'it returns false'. Refute it at one input. -/
def entityFilledWrong : ChangeSpec := { name := "entityFilled", fn := fun _ => fun
  | [d1, d2, d3, d4, d5] => { results := [.lit (.bool false)], args := [d1, d2, d3, d4, d5] }
  | _ => none }
def EntityFilledWrongFalsely : Prop := entityFilledRow.holds Try.pinned (OpenSpec.ofChange entityFilledWrong)

/-- 'quantumlaw21.EntityWalk': WHATEVER THE INPUT: true; the input reads as it did. -/
def entityWalkSpec : ChangeSpec := { name := "entityWalk", fn := fun _ => fun
  | [d1, d2, d3, d4, d5] => { results := [.lit (.bool true)], args := [d1, d2, d3, d4, d5] }
  | _ => none }
def entityWalkRow : OpenClaim := { program := "ytenngfkgfdogjaa", sum := "1245bc7896d4f15abc6dc2382fd59ca86c2e005bebcf2db0ee1cf55298b170fb", func := "quantum/quantumlaw21.EntityWalk", spec := "entityWalk", unfollowed := true, recurses := true, apart := false }
def EntityWalkSaid : Prop := entityWalkRow.holds Try.pinned (OpenSpec.ofChange entityWalkSpec)

/-- ITS FALSE NEIGHBOUR: 'it returns false'. Refute it at one input. -/
def entityWalkWrong : ChangeSpec := { name := "entityWalk", fn := fun _ => fun
  | [d1, d2, d3, d4, d5] => { results := [.lit (.bool false)], args := [d1, d2, d3, d4, d5] }
  | _ => none }
def EntityWalkWrongFalsely : Prop := entityWalkRow.holds Try.pinned (OpenSpec.ofChange entityWalkWrong)

/-- 'quantumlaw21.EntityWrong': WHATEVER THE INPUT: true; the input reads as it did. -/
def entityWrongSpec : ChangeSpec := { name := "entityWrong", fn := fun _ => fun
  | [d1, d2, d3, d4, d5] => { results := [.lit (.bool true)], args := [d1, d2, d3, d4, d5] }
  | _ => none }
def entityWrongRow : OpenClaim := { program := "ytenngfkgfdogjaa", sum := "1245bc7896d4f15abc6dc2382fd59ca86c2e005bebcf2db0ee1cf55298b170fb", func := "quantum/quantumlaw21.EntityWrong", spec := "entityWrong", unfollowed := true, recurses := true, apart := false }
def EntityWrongSaid : Prop := entityWrongRow.holds Try.pinned (OpenSpec.ofChange entityWrongSpec)

/-- ITS FALSE NEIGHBOUR: 'it returns false'. Refute it at one input. -/
def entityWrongWrong : ChangeSpec := { name := "entityWrong", fn := fun _ => fun
  | [d1, d2, d3, d4, d5] => { results := [.lit (.bool false)], args := [d1, d2, d3, d4, d5] }
  | _ => none }
def EntityWrongWrongFalsely : Prop := entityWrongRow.holds Try.pinned (OpenSpec.ofChange entityWrongWrong)

/-- 'quantumlaw21.EntityTells': WHATEVER THE INPUT: true; the input reads as it did. -/
def entityTellsSpec : ChangeSpec := { name := "entityTells", fn := fun _ => fun
  | [d1, d2, d3, d4] => { results := [.lit (.bool true)], args := [d1, d2, d3, d4] }
  | _ => none }
def entityTellsRow : OpenClaim := { program := "ytenngfkgfdogjaa", sum := "1245bc7896d4f15abc6dc2382fd59ca86c2e005bebcf2db0ee1cf55298b170fb", func := "quantum/quantumlaw21.EntityTells", spec := "entityTells", unfollowed := true, recurses := true, apart := false }
def EntityTellsSaid : Prop := entityTellsRow.holds Try.pinned (OpenSpec.ofChange entityTellsSpec)

/-- ITS FALSE NEIGHBOUR: 'it returns false'. Refute it at one input. -/
def entityTellsWrong : ChangeSpec := { name := "entityTells", fn := fun _ => fun
  | [d1, d2, d3, d4] => { results := [.lit (.bool false)], args := [d1, d2, d3, d4] }
  | _ => none }
def EntityTellsWrongFalsely : Prop := entityTellsRow.holds Try.pinned (OpenSpec.ofChange entityTellsWrong)

/-- 'quantumlaw21.EntitySmall': WHATEVER THE INPUT: true; the input reads as it did. -/
def entitySmallSpec : ChangeSpec := { name := "entitySmall", fn := fun _ => fun
  | [] => { results := [.lit (.bool true)], args := [] }
  | _ => none }
def entitySmallRow : OpenClaim := { program := "ytenngfkgfdogjaa", sum := "1245bc7896d4f15abc6dc2382fd59ca86c2e005bebcf2db0ee1cf55298b170fb", func := "quantum/quantumlaw21.EntitySmall", spec := "entitySmall", unfollowed := true, recurses := true, apart := false }
def EntitySmallSaid : Prop := entitySmallRow.holds Try.pinned (OpenSpec.ofChange entitySmallSpec)

/-- ITS FALSE NEIGHBOUR: 'it returns false'. Refute it at one input. -/
def entitySmallWrong : ChangeSpec := { name := "entitySmall", fn := fun _ => fun
  | [] => { results := [.lit (.bool false)], args := [] }
  | _ => none }
def EntitySmallWrongFalsely : Prop := entitySmallRow.holds Try.pinned (OpenSpec.ofChange entitySmallWrong)

/-- 'quantumlaw21.EntityLoads': WHATEVER THE INPUT: true; the input reads as it did. -/
def entityLoadsSpec : ChangeSpec := { name := "entityLoads", fn := fun _ => fun
  | [d1, d2, d3, d4] => { results := [.lit (.bool true)], args := [d1, d2, d3, d4] }
  | _ => none }
def entityLoadsRow : OpenClaim := { program := "ytenngfkgfdogjaa", sum := "1245bc7896d4f15abc6dc2382fd59ca86c2e005bebcf2db0ee1cf55298b170fb", func := "quantum/quantumlaw21.EntityLoads", spec := "entityLoads", unfollowed := true, recurses := true, apart := false }
def EntityLoadsSaid : Prop := entityLoadsRow.holds Try.pinned (OpenSpec.ofChange entityLoadsSpec)

/-- ITS FALSE NEIGHBOUR: 'it returns false'. Refute it at one input. -/
def entityLoadsWrong : ChangeSpec := { name := "entityLoads", fn := fun _ => fun
  | [d1, d2, d3, d4] => { results := [.lit (.bool false)], args := [d1, d2, d3, d4] }
  | _ => none }
def EntityLoadsWrongFalsely : Prop := entityLoadsRow.holds Try.pinned (OpenSpec.ofChange entityLoadsWrong)

/- THE SECOND FORM. 'bulk': how many values and letters a reading holds, each counted each time it is reached (what is shared counts as often as it is met; a slice's spare places count too). A statement '..UptoSaid' is the law's where the arguments, and the package variables that the reading takes, are together of bulk at most 1048576: NARROWER than '..Said'. Prove '..Said' where nothing that the law and all that it calls make is longer than what came in: it says more and counts as full. Else prove '..UptoSaid'. A law counts once. -/
mutual
def uptoBulk {H : Type} : DataW H → Nat
  | .lit (.string bytes) => bytes.length + 1
  | .lit _ => 1
  | .nil => 1
  | .ptr d => uptoBulk d + 1
  | .slice elems spare => uptoBulkAll elems + uptoBulkAll spare + 1
  | .agg parts => uptoBulkAll parts + 1
  | .iface _ d => uptoBulk d + 1
  | .map entries => uptoBulkEntries entries + 1
  | .held _ => 1
def uptoBulkAll {H : Type} : List (DataW H) → Nat
  | [] => 0
  | d :: r => uptoBulk d + uptoBulkAll r
def uptoBulkEntries {H : Type} : List (Lit × DataW H) → Nat
  | [] => 0
  | x :: r => uptoBulkEntry x + uptoBulkEntries r
def uptoBulkEntry {H : Type} : Lit × DataW H → Nat
  | (.string bytes, d) => bytes.length + uptoBulk d + 1
  | (_, d) => uptoBulk d + 1
 end
def uptoSmall : (H : Type) → List (DataW H) → Bool := fun _ ds => decide (uptoBulkAll ds ≤ 1048576)
def OpenSpec.upto (s : _root_.Go.ChangeSpec) : _root_.Go.OpenSpec := { _root_.Go.OpenSpec.ofChange s with cond := some uptoSmall }

/-- 'quantumlaw21.EntityLess', WHERE WHAT IT READS IS OF BULK AT MOST 1048576: true; the input reads as it did. -/
def entityLessUptoRow : OpenClaim := { program := "ytenngfkgfdogjaa", sum := "1245bc7896d4f15abc6dc2382fd59ca86c2e005bebcf2db0ee1cf55298b170fb", func := "quantum/quantumlaw21.EntityLess", spec := "entityLess", unfollowed := true, recurses := true, apart := false, narrowed := true }
def EntityLessUptoSaid : Prop := entityLessUptoRow.holds Try.pinned (OpenSpec.upto entityLessSpec)

/-- 'quantumlaw21.EntityOrder', WHERE WHAT IT READS IS OF BULK AT MOST 1048576: true; the input reads as it did. -/
def entityOrderUptoRow : OpenClaim := { program := "ytenngfkgfdogjaa", sum := "1245bc7896d4f15abc6dc2382fd59ca86c2e005bebcf2db0ee1cf55298b170fb", func := "quantum/quantumlaw21.EntityOrder", spec := "entityOrder", unfollowed := true, recurses := true, apart := false, narrowed := true }
def EntityOrderUptoSaid : Prop := entityOrderUptoRow.holds Try.pinned (OpenSpec.upto entityOrderSpec)

/-- 'quantumlaw21.EntityFloors', WHERE WHAT IT READS IS OF BULK AT MOST 1048576: true; the input reads as it did. -/
def entityFloorsUptoRow : OpenClaim := { program := "ytenngfkgfdogjaa", sum := "1245bc7896d4f15abc6dc2382fd59ca86c2e005bebcf2db0ee1cf55298b170fb", func := "quantum/quantumlaw21.EntityFloors", spec := "entityFloors", unfollowed := true, recurses := true, apart := false, narrowed := true }
def EntityFloorsUptoSaid : Prop := entityFloorsUptoRow.holds Try.pinned (OpenSpec.upto entityFloorsSpec)

/-- 'quantumlaw21.EntityFilled', WHERE WHAT IT READS IS OF BULK AT MOST 1048576: true; the input reads as it did. -/
def entityFilledUptoRow : OpenClaim := { program := "ytenngfkgfdogjaa", sum := "1245bc7896d4f15abc6dc2382fd59ca86c2e005bebcf2db0ee1cf55298b170fb", func := "quantum/quantumlaw21.EntityFilled", spec := "entityFilled", unfollowed := true, recurses := true, apart := false, narrowed := true }
def EntityFilledUptoSaid : Prop := entityFilledUptoRow.holds Try.pinned (OpenSpec.upto entityFilledSpec)

/-- 'quantumlaw21.EntityWalk', WHERE WHAT IT READS IS OF BULK AT MOST 1048576: true; the input reads as it did. -/
def entityWalkUptoRow : OpenClaim := { program := "ytenngfkgfdogjaa", sum := "1245bc7896d4f15abc6dc2382fd59ca86c2e005bebcf2db0ee1cf55298b170fb", func := "quantum/quantumlaw21.EntityWalk", spec := "entityWalk", unfollowed := true, recurses := true, apart := false, narrowed := true }
def EntityWalkUptoSaid : Prop := entityWalkUptoRow.holds Try.pinned (OpenSpec.upto entityWalkSpec)

/-- 'quantumlaw21.EntityWrong', WHERE WHAT IT READS IS OF BULK AT MOST 1048576: true; the input reads as it did. -/
def entityWrongUptoRow : OpenClaim := { program := "ytenngfkgfdogjaa", sum := "1245bc7896d4f15abc6dc2382fd59ca86c2e005bebcf2db0ee1cf55298b170fb", func := "quantum/quantumlaw21.EntityWrong", spec := "entityWrong", unfollowed := true, recurses := true, apart := false, narrowed := true }
def EntityWrongUptoSaid : Prop := entityWrongUptoRow.holds Try.pinned (OpenSpec.upto entityWrongSpec)

/-- 'quantumlaw21.EntityTells', WHERE WHAT IT READS IS OF BULK AT MOST 1048576: true; the input reads as it did. -/
def entityTellsUptoRow : OpenClaim := { program := "ytenngfkgfdogjaa", sum := "1245bc7896d4f15abc6dc2382fd59ca86c2e005bebcf2db0ee1cf55298b170fb", func := "quantum/quantumlaw21.EntityTells", spec := "entityTells", unfollowed := true, recurses := true, apart := false, narrowed := true }
def EntityTellsUptoSaid : Prop := entityTellsUptoRow.holds Try.pinned (OpenSpec.upto entityTellsSpec)

/-- 'quantumlaw21.EntitySmall', WHERE WHAT IT READS IS OF BULK AT MOST 1048576: true; the input reads as it did. -/
def entitySmallUptoRow : OpenClaim := { program := "ytenngfkgfdogjaa", sum := "1245bc7896d4f15abc6dc2382fd59ca86c2e005bebcf2db0ee1cf55298b170fb", func := "quantum/quantumlaw21.EntitySmall", spec := "entitySmall", unfollowed := true, recurses := true, apart := false, narrowed := true }
def EntitySmallUptoSaid : Prop := entitySmallUptoRow.holds Try.pinned (OpenSpec.upto entitySmallSpec)

/-- 'quantumlaw21.EntityLoads', WHERE WHAT IT READS IS OF BULK AT MOST 1048576: true; the input reads as it did. -/
def entityLoadsUptoRow : OpenClaim := { program := "ytenngfkgfdogjaa", sum := "1245bc7896d4f15abc6dc2382fd59ca86c2e005bebcf2db0ee1cf55298b170fb", func := "quantum/quantumlaw21.EntityLoads", spec := "entityLoads", unfollowed := true, recurses := true, apart := false, narrowed := true }
def EntityLoadsUptoSaid : Prop := entityLoadsUptoRow.holds Try.pinned (OpenSpec.upto entityLoadsSpec)

end Rows
end Go.Proofs.Ytenngfkgfdogjaa

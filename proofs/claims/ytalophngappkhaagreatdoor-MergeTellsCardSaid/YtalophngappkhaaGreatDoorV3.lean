/- How the arguments of the outright laws read: the numbers that events are made of | quantumlaw12.Trace | quantumlaw12.sameAs, where both are the same | quantumlaw12.Cut, in plain words | What a cut trace is merged to, in plain words: how many numbers the gaps have | What a cut trace is merged to, in plain words | quantumlaw12.Trace: the walk | quantumlaw12.Cut: what its walk keeps | slices.Concat, slices.Clone at blocks | The contract of slices.Reverse at a slice of structs, laid by the kit's tool: that the program holds the text of the library | slices.Reverse at blocks; quantumlaw12.turned | quantumlaw12.turned | Maps whose count of entries is known. -/
import Derived.Test.YtalophngappkhaaGreatDoorZ3
import Derived.Test.YtalophngappkhaaGreatDoorV2
import Derived.Deep.DeepCutAuto
import Derived.Test.YtalophngappkhaaGreatDoorV1
import Derived.Test.YtalophngappkhaaGreatDoorZ10
import Derived.Lib.AppendZerosOnto
import Derived.Deep.CutBlock
import Derived.Shelf.SlGeneric
import Derived.Shelf.SlicesQ.Reverse
import Derived.Ground.SlgnProg
import Derived.Test.YtalophngappkhaaGreatDoorRows
import Derived.Test.YtalophngappkhaaGreatDoorZ4
import Derived.StillTailTactics
import Derived.Maps.Views
set_option linter.unusedVariables false
set_option linter.unusedSimpArgs false
set_option linter.unusedSectionVars false
namespace Go.Proofs.YtalophngappkhaaGreatDoor
open Go Go.RowKit Go.Shelf Go.Deep Go.ChangeShapes Go.WideShapes

section
variable {H : Type} {encd : TypeId × Value → H} {P : Program} {w : World} {base : Nat} {spare : Nat → Bool} {held : Bool}
/-- A struct of one cell a field. -/
theorem flat_one {t : TypeId} {fs : Array Field} {n : Nat} {cs : List Value} {x : DataW H × List MemPlace} (ht : P.underlying t = some (.struct fs)) (ct : P.cellsOf t = fs.size)
    (hf : (fs.toList.zipIdx.all fun (f, i) => f.offset == i && P.cellsOf f.type == 1) = true)
    (h : DataW.trod encd P w base spare held n t cs = some x) : cs.length = fs.size ∧ ∃ m, ∀ (i : Nat) (f : Field) (c : Value), fs[i]? = some f → cs[i]? = some c → ∃ y, DataW.trod encd P w base spare held m f.type [c] = some y := by
  obtain ⟨xs, m, _, hx, hcl, hxl, he⟩ := DataW.trod_struct ht h
  refine ⟨by omega, m, fun i f c hi hc => ?_⟩
  have h1 := List.all_eq_true.1 hf (f, i) (by
    rw [List.mem_zipIdx_iff_getElem?]
    simpa using hi)
  simp only [Bool.and_eq_true, beq_iff_eq] at h1
  have h2 := he i f hi
  obtain ⟨hil, hcv⟩ := List.getElem?_eq_some_iff.1 hc
  have h3 : (cs.drop i).take 1 = [c] := by
    rw [List.drop_eq_getElem_cons hil, hcv]; rfl
  rw [h1.1, h1.2, h3] at h2
  exact ⟨_, h2.trans (List.getElem?_eq_getElem (show i < xs.length by omega)) |>.trans rfl⟩
theorem wf_u8_ {z : Int} (h : (Lit.int .u8 z).wf = true) : 0 ≤ z ∧ z ≤ 255 := by simpa [Lit.wf, IntKind.min, IntKind.max, IntKind.signed, IntKind.bits] using h
theorem wf_u64_ {z : Int} (h : (Lit.int .u64 z).wf = true) : 0 ≤ z ∧ z ≤ 18446744073709551615 := by simpa [Lit.wf, IntKind.min, IntKind.max, IntKind.signed, IntKind.bits] using h
theorem wf_i64_ {z : Int} (h : (Lit.int .i64 z).wf = true) : -9223372036854775808 ≤ z ∧ z ≤ 9223372036854775807 := by simpa [Lit.wf, IntKind.min, IntKind.max, IntKind.signed, IntKind.bits] using h
end
end Go.Proofs.YtalophngappkhaaGreatDoor
namespace Go.Proofs.YtalophngappkhaaGreatDoor
open Go Go.RowKit Go.Shelf
attribute [local go_sem] Oper.semAt_some

end Go.Proofs.YtalophngappkhaaGreatDoor
namespace Go.Proofs.YtalophngappkhaaGreatDoor
open Go Go.RowKit Go.Shelf
attribute [local go_sem] Oper.semAt_some

end Go.Proofs.YtalophngappkhaaGreatDoor
namespace Go.Proofs.YtalophngappkhaaGreatDoor
open Go Go.RowKit Go.Shelf

end Go.Proofs.YtalophngappkhaaGreatDoor
namespace Go.Proofs.YtalophngappkhaaGreatDoor
open Go Go.RowKit Go.Shelf

end Go.Proofs.YtalophngappkhaaGreatDoor
namespace Go.Proofs.YtalophngappkhaaGreatDoor
open Go Go.RowKit Go.Shelf

end Go.Proofs.YtalophngappkhaaGreatDoor
namespace Go.Proofs.YtalophngappkhaaGreatDoor
open Go Go.RowKit Go.Shelf
attribute [local go_sem] Oper.semAt_some

end Go.Proofs.YtalophngappkhaaGreatDoor
namespace Go.Proofs.YtalophngappkhaaGreatDoor
open Go Go.RowKit Go.Shelf

/-- A slice as three numbers. -/
abbrev Sl3 := Option Addr × Nat × Nat
def slV (x : Sl3) : Value := .slice x.1 x.2.1 x.2.2
/-- Blocks whose events are slices. -/
def encSb (x : Sl3 × Bck) : List Value := [.int .u8 x.2.kind, .int .u8 x.2.cpu, .int .i64 x.2.lost, .int .i64 x.2.next, slV x.1]
theorem encSb_len (x : Sl3 × Bck) : (encSb x).length = 5 := rfl
theorem encSb_one : ∀ x, ∀ u ∈ encSb x, u.oneCell' = true := by
  intro x u hu
  simp only [encSb, slV, List.mem_cons, List.not_mem_nil, or_false] at hu
  rcases hu with rfl | rfl | rfl | rfl | rfl <;> rfl
def sbV (x : Sl3 × Bck) : Value × Bck := (slV x.1, x.2)
theorem EV.sb {w : World} {v : Value} {xs : List (Sl3 × Bck)} (h : EV encSb 5 w v xs) : EV encBk 5 w v (xs.map sbV) := EV.recode h (by rw [List.map_map]; rfl)
theorem sb_snd (xs : List (Sl3 × Bck)) : (xs.map sbV).map Prod.snd = xs.map Prod.snd := by rw [List.map_map]; rfl
end Go.Proofs.YtalophngappkhaaGreatDoor
namespace Go.Proofs.YtalophngappkhaaGreatDoor
open Go Go.RowKit Go.Shelf
attribute [local go_sem] Oper.semAt_some
end Go.Proofs.YtalophngappkhaaGreatDoor
namespace Go.Proofs
open Go.Shelf
end Go.Proofs
namespace Go.Proofs.YtalophngappkhaaGreatDoor
open Go Go.RowKit Go.Shelf Go.Sort
attribute [local go_sem] Oper.semAt_some

instance : Inhabited Bck := ⟨⟨0, 0, 0, 0, []⟩⟩
end Go.Proofs.YtalophngappkhaaGreatDoor
namespace Go.Proofs.YtalophngappkhaaGreatDoor
open Go Go.RowKit Go.Shelf
attribute [local go_sem] Oper.semAt_some

end Go.Proofs.YtalophngappkhaaGreatDoor
namespace Go.Proofs.YtalophngappkhaaGreatDoor
open Go Go.RowKit Go.Maps

section
variable {P : Program} {k e t : TypeId} {w w' : World} {b c : Nat} {F : Lit → Option Value}
variable {ops : Array Oper} {rest : List Oper} {o : Oper} {a : Act} {Q : Exit → Act → World → Prop}
end
end Go.Proofs.YtalophngappkhaaGreatDoor

/- How an event reads that came in. -/
import Derived.Test.YtalophngappkhaaGreatDoorSzd
set_option linter.unusedVariables false
set_option linter.unusedSimpArgs false
set_option linter.unusedSectionVars false
namespace Go.Proofs.YtalophngappkhaaGreatDoor
open Go Go.RowKit Go.Shelf Go.Deep Go.ChangeShapes Go.WideShapes

section
variable {H : Type} {encd : TypeId × Value → H} {w : World} {base : Nat} {spare : Nat → Bool} {held : Bool}
set_option maxRecDepth 100000 in
theorem ev_cellsX {n : Nat} {cs : List Value} {x : DataW H × List MemPlace} (h : DataW.trod encd Tryz.prog w base spare held n 28 cs = some x) : ∃ t : Ev, cs = encE t ∧ EvOk t := by
  obtain ⟨hl, m, hm⟩ := flat_one Tryz.underlying28 (by kernel_rfl) (by kernel_rfl) h
  match cs, hl with
  | [c0, c1, c2, c3, c4, c5, c6, c7, c8, c9, c10], _ =>
    obtain ⟨y0, t0⟩ := hm 0 _ _ rfl rfl
    obtain ⟨y1, t1⟩ := hm 1 _ _ rfl rfl
    obtain ⟨y2, t2⟩ := hm 2 _ _ rfl rfl
    obtain ⟨y3, t3⟩ := hm 3 _ _ rfl rfl
    obtain ⟨y4, t4⟩ := hm 4 _ _ rfl rfl
    obtain ⟨y5, t5⟩ := hm 5 _ _ rfl rfl
    obtain ⟨y6, t6⟩ := hm 6 _ _ rfl rfl
    obtain ⟨y7, t7⟩ := hm 7 _ _ rfl rfl
    obtain ⟨y8, t8⟩ := hm 8 _ _ rfl rfl
    obtain ⟨y9, t9⟩ := hm 9 _ _ rfl rfl
    obtain ⟨y10, t10⟩ := hm 10 _ _ rfl rfl
    obtain ⟨z0, e0, _, w0⟩ := DataW.trod_int Tryz.underlying3 t0
    obtain ⟨z1, e1, _, w1⟩ := DataW.trod_int Tryz.underlying3 t1
    obtain ⟨z2, e2, _, w2⟩ := DataW.trod_int Tryz.underlying5 t2
    obtain ⟨z3, e3, _, w3⟩ := DataW.trod_int Tryz.underlying5 t3
    obtain ⟨z4, e4, _, w4⟩ := DataW.trod_int Tryz.underlying3 t4
    obtain ⟨z5, e5, _, w5⟩ := DataW.trod_int Tryz.underlying3 t5
    obtain ⟨z6, e6, _, w6⟩ := DataW.trod_int Tryz.underlying3 t6
    obtain ⟨z7, e7, _, w7⟩ := DataW.trod_int Tryz.underlying3 t7
    obtain ⟨z8, e8, _, w8⟩ := DataW.trod_int Tryz.underlying3 t8
    obtain ⟨z9, e9, _, w9⟩ := DataW.trod_int Tryz.underlying26 t9
    obtain ⟨z10, e10, _, w10⟩ := DataW.trod_int Tryz.underlying3 t10
    cases e0; cases e1; cases e2; cases e3; cases e4; cases e5; cases e6; cases e7; cases e8; cases e9; cases e10
    exact ⟨⟨z0, z1, z2, z3, z4, z5, z6, z7, z8, z9, z10⟩, rfl, ⟨wf_u8_ w2, wf_u8_ w3, wf_u64_ w9, wf_i64_ w0, wf_i64_ w1, wf_i64_ w4, wf_i64_ w5, wf_i64_ w6, wf_i64_ w7, wf_i64_ w8, wf_i64_ w10⟩⟩
end
end Go.Proofs.YtalophngappkhaaGreatDoor

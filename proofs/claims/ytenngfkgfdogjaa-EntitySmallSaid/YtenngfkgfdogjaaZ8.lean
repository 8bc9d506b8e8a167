/- The second closure of entity.members, over the cells that it reads: c. -/
import Derived.Test.YtenngfkgfdogjaaZ5
set_option linter.unusedVariables false
set_option linter.unusedSimpArgs false
set_option linter.unusedSectionVars false
namespace Go.Proofs.Ytenngfkgfdogjaa
open Go Go.RowKit Go.Shelf
attribute [local go_sem] Oper.semAt_some

set_option maxRecDepth 100000 in
set_option maxHeartbeats 8000000 in
theorem mem2_c (w : World) (x n G : Nat) (cpu g p v : Int) (b : Bool) (cn : Nat) (Bs Bc Bg Bf bs os br or_ bg og bb ob cs cr cg cb : Nat)
    (hx : x < G) (hG : G ≤ 100000) (hc0 : 0 ≤ cpu) (hcn : cpu.toNat = cn) (hc1 : cpu < (n : Int)) 
    (a6 : w.cell? ⟨Bs, 6, none⟩ = some (.slice (some ⟨bs, os, none⟩) G cs)) (a2 : w.cell? ⟨Bs, 2, none⟩ = some (.slice (some ⟨bg, og, none⟩) G cg)) (ac : w.cell? ⟨Bc, 0, none⟩ = some (.int .i64 cpu)) (ag : w.cell? ⟨Bg, 0, none⟩ = some (.int .i64 g)) (af : w.cell? ⟨Bf, 0, none⟩ = some (.slice (some ⟨bb, ob, none⟩) G cb))
    (ar : w.cell? ⟨bs, os + x, none⟩ = some (.slice (some ⟨br, or_, none⟩) n cr)) (av : w.cell? ⟨br, or_ + cn * 3, none⟩ = some (.int .u64 v)) (ap : w.cell? ⟨bg, og + x * 2, none⟩ = some (.int .i64 p)) (ab : w.cell? ⟨bb, ob + x, none⟩ = some (.bool b)) (h0 : 0 < x) (hp : p = g) :
    Calls Try.prog 85 #[.int .i64 (x : Int), .pointer (some ⟨Bs, 0, none⟩), .pointer (some ⟨Bc, 0, none⟩), .pointer (some ⟨Bg, 0, none⟩), .pointer (some ⟨Bf, 0, none⟩)] w
      fun e w' => e = .returned (.tuple #[.agg #[.int .u64 v, .bool true, .int .i64 (x : Int)], .bool (decide (0 < x) && decide (p = g) && b)]) ∧ Below w.heap.size w w' := by
  have bB := bel_alloc w (.cells #[.int .u64 0, .bool false, .int .i64 0] 24)
  have l1 := cell_lt a6
  have l2 := cell_lt ac
  have l3 := cell_lt ag
  have l4 := cell_lt af
  have l5 := cell_lt ar
  have l6 := cell_lt av
  have l7 := cell_lt ap
  have l8 := cell_lt ab
  dsimp only at l1 l2 l3 l4 l5 l6 l7 l8
  have a6 := below_cell bB a6
  have a2 := below_cell bB a2
  have ac := below_cell bB ac
  have ag := below_cell bB ag
  have af := below_cell bB af
  have ar := below_cell bB ar
  have av := below_cell bB av
  have ap := below_cell bB ap
  have ab := below_cell bB ab
  have hX := heap_alloc_new w (.cells #[.int .u64 0, .bool false, .int .i64 0] 24)
  obtain ⟨Y, hYe⟩ : ∃ Y, w.heap.size = Y := ⟨_, rfl⟩
  rw [hYe] at l1 l2 l3 l4 l5 l6 l7 l8 hX
  have HB := Lib.hid bB
  go_enter Try.func85, Try.ntmps85
  go_wp2_with fail
  (try simp only [hYe])
  generalize w.alloc (.cells #[.int .u64 0, .bool false, .int .i64 0] 24) = w1 at a6 a2 ac ag af ar av ap ab hX HB ⊢
  have y0 : w1.cell? ⟨Y, 0, none⟩ = some (.int .u64 0) := cell_of_row w1 Y 0 _ _ _ hX
  have y1 : w1.cell? ⟨Y, 1, none⟩ = some (.bool false) := cell_of_row w1 Y 1 _ _ _ hX
  have y2 : w1.cell? ⟨Y, 2, none⟩ = some (.int .i64 0) := cell_of_row w1 Y 2 _ _ _ hX
  have z0 : w1.frozen? ⟨Y, 0, none⟩ = false := by simp [World.frozen?, hX]
  have z1 : w1.frozen? ⟨Y, 1, none⟩ = false := by simp [World.frozen?, hX]
  have z2 : w1.frozen? ⟨Y, 2, none⟩ = false := by simp [World.frozen?, hX]
  have n1 : ¬ Bs = Y := by omega
  have n2 : ¬ Bc = Y := by omega
  have n3 : ¬ Bg = Y := by omega
  have n4 : ¬ Bf = Y := by omega
  have n5 : ¬ bs = Y := by omega
  have n6 : ¬ br = Y := by omega
  have n7 : ¬ bg = Y := by omega
  have n8 : ¬ bb = Y := by omega
  have m1 : ¬ Y = Bs := by omega
  have m2 : ¬ Y = Bc := by omega
  have m3 : ¬ Y = Bg := by omega
  have m4 : ¬ Y = Bf := by omega
  have m5 : ¬ Y = bs := by omega
  have m6 : ¬ Y = br := by omega
  have m7 : ¬ Y = bg := by omega
  have m8 : ¬ Y = bb := by omega
  have hYw := Lib.hid (show w.heap.size ≤ Y by omega)
  have x0 : (0 : Int) ≤ (x : Int) := by omega
  have x1 : (x : Int) < (G : Int) := by omega
  clear l1 l2 l3 l4 l5 l6 l7 l8 hX bB hYe
  have hd : decide ((0 : Int) < (x : Int)) = true := by simp [h0]
  have hd' : decide (0 < x) = true := by simp [h0]
  have hpd : (p == g) = true := by simp [hp]
  have HV := Lib.hid (show (decide (0 < x) && decide (p = g) && b) = b by rw [hd', decide_eq_true hp]; simp)
  clear hp
  go_region
  clear a6 a2 ac ag af ar av ap ab z0 z1 z2 n1 n2 n3 n4 n5 n6 n7 n8 m1 m2 m3 m4 m5 m6 m7 m8 x0 x1
  have q0 : (((w1.setCell ⟨Y, 0, none⟩ (.int .u64 v)).setCell ⟨Y, 1, none⟩ (.bool true)).setCell ⟨Y, 2, none⟩ (.int .i64 (x : Int))).drew.cell? ⟨Y, 0, none⟩ = some (.int .u64 v) := by go_simp
  have q1 : (((w1.setCell ⟨Y, 0, none⟩ (.int .u64 v)).setCell ⟨Y, 1, none⟩ (.bool true)).setCell ⟨Y, 2, none⟩ (.int .i64 (x : Int))).drew.cell? ⟨Y, 1, none⟩ = some (.bool true) := by go_simp
  have q2 : (((w1.setCell ⟨Y, 0, none⟩ (.int .u64 v)).setCell ⟨Y, 1, none⟩ (.bool true)).setCell ⟨Y, 2, none⟩ (.int .i64 (x : Int))).drew.cell? ⟨Y, 2, none⟩ = some (.int .i64 (x : Int)) := by go_simp
  have B2 := Lib.hid (show Below w.heap.size w (((w1.setCell ⟨Y, 0, none⟩ (.int .u64 v)).setCell ⟨Y, 1, none⟩ (.bool true)).setCell ⟨Y, 2, none⟩ (.int .i64 (x : Int))).drew from below_drew (((HB.out.setCell (p := ⟨Y, 0, none⟩) hYw.out _).setCell (p := ⟨Y, 1, none⟩) hYw.out _).setCell (p := ⟨Y, 2, none⟩) hYw.out _))
  generalize (((w1.setCell ⟨Y, 0, none⟩ (.int .u64 v)).setCell ⟨Y, 1, none⟩ (.bool true)).setCell ⟨Y, 2, none⟩ (.int .i64 (x : Int))).drew = w2 at q0 q1 q2 B2 ⊢
  clear y0 y1 y2
  go_wp2
  have hl := load_ky q0 q1 q2
  refine bodyPost_ret (v := .tuple #[.agg #[.int .u64 v, .bool true, .int .i64 (x : Int)], .bool b]) ((results_cell_tmp rfl _ _ _).trans ?_) rfl ⟨by rw [HV.out], B2.out⟩
  simp [hl, asAddr, Result.andThen]
end Go.Proofs.Ytenngfkgfdogjaa

/- quantumlaw06.Made: the walk. -/
import Derived.Test.YtalophngappkhaaGreatDoorZ25
import Derived.Deep.DeepCutAuto
set_option linter.unusedVariables false
set_option linter.unusedSimpArgs false
set_option linter.unusedSectionVars false
namespace Go.Proofs.YtalophngappkhaaGreatDoor
open Go Go.RowKit Go.Shelf
attribute [local go_sem] Oper.semAt_some

def s6A (x : S6) : Value := .agg #[.int .u8 x.kind, .int .u8 x.cpu, .int .u32 x.seq, .int .u32 x.time, .int .u32 x.task, .int .u32 x.grp, .int .u32 x.tgt, .int .u32 x.wt, .int .u32 x.ticks, .int .u32 x.got, .int .u64 x.mask]
def encS6 (x : S6) : List Value := [.int .u8 x.kind, .int .u8 x.cpu, .int .u32 x.seq, .int .u32 x.time, .int .u32 x.task, .int .u32 x.grp, .int .u32 x.tgt, .int .u32 x.wt, .int .u32 x.ticks, .int .u32 x.got, .int .u64 x.mask]
theorem encS6_len (x : S6) : (encS6 x).length = 11 := rfl
/-- What lies in memory: the numbers, the result's cell, the event. -/
structure M6 (w W : World) (A B E : Nat) (x : S6) (e : Ev) : Prop where
  bel : Below w.heap.size w W
  ord : w.heap.size ≤ A ∧ A < B ∧ B < E
  xs : W.heap[A]? = some (.cells (encS6 x).toArray 80 (0, 0))
  rb : W.heap[B]? = some (.cells (encE ev0).toArray 28 (0, 0))
  eb : W.heap[E]? = some (.cells (encE e).toArray 28 (0, 0))
namespace M6
variable {w W W' : World} {A B E : Nat} {x : S6} {e : Ev}
theorem xc (h : M6 w W A B E x e) (j : Nat) (u : Value) (hu : (encS6 x)[j]? = some u) : W.cell? ⟨A, j, none⟩ = some u := by
  rw [cell_of_row W A j _ _ _ h.xs]; simpa using hu
theorem ec (h : M6 w W A B E x e) (j : Nat) (u : Value) (hu : (encE e)[j]? = some u) : W.cell? ⟨E, j, none⟩ = some u := by
  rw [cell_of_row W E j _ _ _ h.eb]; simpa using hu
theorem rc (h : M6 w W A B E x e) (j : Nat) (u : Value) (hu : (encE ev0)[j]? = some u) : W.cell? ⟨B, j, none⟩ = some u := by
  rw [cell_of_row W B j _ _ _ h.rb]; simpa using hu
theorem ef (h : M6 w W A B E x e) (j : Nat) : W.frozen? ⟨E, j, none⟩ = false := frozen_of_row W E j _ _ h.eb
theorem rf (h : M6 w W A B E x e) (j : Nat) : W.frozen? ⟨B, j, none⟩ = false := frozen_of_row W B j _ _ h.rb
theorem below (h : M6 w W A B E x e) (hb : Below W.heap.size W W') : M6 w W' A B E x e :=
  ⟨bstep h.bel hb, h.ord, (hb.block A (Array.getElem?_eq_some_iff.1 h.xs).1).trans h.xs, (hb.block B (Array.getElem?_eq_some_iff.1 h.rb).1).trans h.rb, (hb.block E (Array.getElem?_eq_some_iff.1 h.eb).1).trans h.eb⟩
theorem set (h : M6 w W A B E x e) (j : Nat) (u : Value) (e' : Ev) (he : (encE e').toArray = (encE e).toArray.setIfInBounds j u) : M6 w (W.setCell ⟨E, j, none⟩ u) A B E x e' := by
  have ho := h.ord
  have hm := Mod.setCell (a := W) (p := ⟨E, j, none⟩) (T := fun k => k = E) u rfl
  exact ⟨h.bel.trans (hm.below (B := w.heap.size) (fun k hk t => by omega) h.bel.size), h.ord, (Below.heap_setCell _ _ _ _ (by simp; omega)).trans h.xs, (Below.heap_setCell _ _ _ _ (by simp; omega)).trans h.rb, by rw [he]; exact heap_setCell_same W E j _ _ u h.eb⟩
end M6
theorem m6_new (w : World) (x : S6) (e : Ev) : M6 w (((w.alloc (.cells (encS6 x).toArray 80)).alloc (.cells (encE ev0).toArray 28)).alloc (.cells (encE e).toArray 28)) w.heap.size (w.heap.size + 1) (w.heap.size + 1 + 1) x e := by
  obtain ⟨w1, e1⟩ : ∃ w1, w.alloc (.cells (encS6 x).toArray 80) = w1 := ⟨_, rfl⟩
  have h1 := heap_alloc_new w (.cells (encS6 x).toArray 80)
  have b1 := bel_alloc w (.cells (encS6 x).toArray 80)
  have s1 : w1.heap.size = w.heap.size + 1 := by rw [← e1]; simp
  rw [e1] at h1 b1 ⊢
  obtain ⟨w2, e2⟩ : ∃ w2, w1.alloc (.cells (encE ev0).toArray 28) = w2 := ⟨_, rfl⟩
  have h2 := heap_alloc_new w1 (.cells (encE ev0).toArray 28)
  have b2 := bel_alloc w1 (.cells (encE ev0).toArray 28)
  have s2 : w2.heap.size = w.heap.size + 1 + 1 := by rw [← e2]; simp; omega
  rw [e2] at h2 b2 ⊢
  have h3 := heap_alloc_new w2 (.cells (encE e).toArray 28)
  have b3 := bel_alloc w2 (.cells (encE e).toArray 28)
  rw [s1] at h2
  rw [s2] at h3
  exact ⟨bstep (bstep b1 b2) b3, ⟨by omega, by omega, by omega⟩, (b3.block _ (by omega)).trans ((b2.block _ (by omega)).trans h1), (b3.block _ (by omega)).trans h2, h3⟩
def ev1 (x : S6) (m : Int) (a b c d : Bool) : Ev := { x.base with task := if a then x.ta else 0, grp := if b then x.grp % 256 else 0, wt := if c then x.we else 0, mask := if d then m else 0 }
def ev9 (x : S6) (a b : Bool) : Ev := { x.base with task := if a then x.ta else 0, «to» := if b then (x.cpu % 64 + 1 + x.tgt % 63) % 64 else 0 }
theorem ev_store {W : World} {B : Nat} (a e : Ev) (h : W.heap[B]? = some (.cells (encE a).toArray 28 (0, 0))) :
    (((((((((((W.setCell ⟨B, 0, none⟩ (.int .i64 e.seq)).setCell ⟨B, 1, none⟩ (.int .i64 e.time)).setCell ⟨B, 2, none⟩ (.int .u8 e.cpu)).setCell ⟨B, 3, none⟩ (.int .u8 e.kind)).setCell ⟨B, 4, none⟩ (.int .i64 e.task)).setCell ⟨B, 5, none⟩ (.int .i64 e.grp)).setCell ⟨B, 6, none⟩ (.int .i64 e.to)).setCell ⟨B, 7, none⟩ (.int .i64 e.wt)).setCell ⟨B, 8, none⟩ (.int .i64 e.ticks)).setCell ⟨B, 9, none⟩ (.int .u64 e.mask)).setCell ⟨B, 10, none⟩ (.int .i64 e.got)).heap[B]? = some (.cells (encE e).toArray 28 (0, 0)) ∧ Mod (fun k => k = B) W (((((((((((W.setCell ⟨B, 0, none⟩ (.int .i64 e.seq)).setCell ⟨B, 1, none⟩ (.int .i64 e.time)).setCell ⟨B, 2, none⟩ (.int .u8 e.cpu)).setCell ⟨B, 3, none⟩ (.int .u8 e.kind)).setCell ⟨B, 4, none⟩ (.int .i64 e.task)).setCell ⟨B, 5, none⟩ (.int .i64 e.grp)).setCell ⟨B, 6, none⟩ (.int .i64 e.to)).setCell ⟨B, 7, none⟩ (.int .i64 e.wt)).setCell ⟨B, 8, none⟩ (.int .i64 e.ticks)).setCell ⟨B, 9, none⟩ (.int .u64 e.mask)).setCell ⟨B, 10, none⟩ (.int .i64 e.got)) := by
  obtain ⟨W0, hw0⟩ : ∃ w, W.setCell ⟨B, 0, none⟩ (.int .i64 e.seq) = w := ⟨_, rfl⟩
  have h0 : W0.heap[B]? = some (.cells #[.int .i64 e.seq, .int .i64 a.time, .int .u8 a.cpu, .int .u8 a.kind, .int .i64 a.task, .int .i64 a.grp, .int .i64 a.to, .int .i64 a.wt, .int .i64 a.ticks, .int .u64 a.mask, .int .i64 a.got] 28 (0, 0)) := by rw [← hw0]; exact heap_setCell_same _ B 0 _ _ (.int .i64 e.seq) h
  have m0 : Mod (fun k => k = B) W W0 := by rw [← hw0]; exact Mod.setCell (p := ⟨B, 0, none⟩) _ rfl
  rw [hw0]
  obtain ⟨W1, hw1⟩ : ∃ w, W0.setCell ⟨B, 1, none⟩ (.int .i64 e.time) = w := ⟨_, rfl⟩
  have h1 : W1.heap[B]? = some (.cells #[.int .i64 e.seq, .int .i64 e.time, .int .u8 a.cpu, .int .u8 a.kind, .int .i64 a.task, .int .i64 a.grp, .int .i64 a.to, .int .i64 a.wt, .int .i64 a.ticks, .int .u64 a.mask, .int .i64 a.got] 28 (0, 0)) := by rw [← hw1]; exact heap_setCell_same _ B 1 _ _ (.int .i64 e.time) h0
  have m1 : Mod (fun k => k = B) W0 W1 := by rw [← hw1]; exact Mod.setCell (p := ⟨B, 1, none⟩) _ rfl
  rw [hw1]
  obtain ⟨W2, hw2⟩ : ∃ w, W1.setCell ⟨B, 2, none⟩ (.int .u8 e.cpu) = w := ⟨_, rfl⟩
  have h2 : W2.heap[B]? = some (.cells #[.int .i64 e.seq, .int .i64 e.time, .int .u8 e.cpu, .int .u8 a.kind, .int .i64 a.task, .int .i64 a.grp, .int .i64 a.to, .int .i64 a.wt, .int .i64 a.ticks, .int .u64 a.mask, .int .i64 a.got] 28 (0, 0)) := by rw [← hw2]; exact heap_setCell_same _ B 2 _ _ (.int .u8 e.cpu) h1
  have m2 : Mod (fun k => k = B) W1 W2 := by rw [← hw2]; exact Mod.setCell (p := ⟨B, 2, none⟩) _ rfl
  rw [hw2]
  obtain ⟨W3, hw3⟩ : ∃ w, W2.setCell ⟨B, 3, none⟩ (.int .u8 e.kind) = w := ⟨_, rfl⟩
  have h3 : W3.heap[B]? = some (.cells #[.int .i64 e.seq, .int .i64 e.time, .int .u8 e.cpu, .int .u8 e.kind, .int .i64 a.task, .int .i64 a.grp, .int .i64 a.to, .int .i64 a.wt, .int .i64 a.ticks, .int .u64 a.mask, .int .i64 a.got] 28 (0, 0)) := by rw [← hw3]; exact heap_setCell_same _ B 3 _ _ (.int .u8 e.kind) h2
  have m3 : Mod (fun k => k = B) W2 W3 := by rw [← hw3]; exact Mod.setCell (p := ⟨B, 3, none⟩) _ rfl
  rw [hw3]
  obtain ⟨W4, hw4⟩ : ∃ w, W3.setCell ⟨B, 4, none⟩ (.int .i64 e.task) = w := ⟨_, rfl⟩
  have h4 : W4.heap[B]? = some (.cells #[.int .i64 e.seq, .int .i64 e.time, .int .u8 e.cpu, .int .u8 e.kind, .int .i64 e.task, .int .i64 a.grp, .int .i64 a.to, .int .i64 a.wt, .int .i64 a.ticks, .int .u64 a.mask, .int .i64 a.got] 28 (0, 0)) := by rw [← hw4]; exact heap_setCell_same _ B 4 _ _ (.int .i64 e.task) h3
  have m4 : Mod (fun k => k = B) W3 W4 := by rw [← hw4]; exact Mod.setCell (p := ⟨B, 4, none⟩) _ rfl
  rw [hw4]
  obtain ⟨W5, hw5⟩ : ∃ w, W4.setCell ⟨B, 5, none⟩ (.int .i64 e.grp) = w := ⟨_, rfl⟩
  have h5 : W5.heap[B]? = some (.cells #[.int .i64 e.seq, .int .i64 e.time, .int .u8 e.cpu, .int .u8 e.kind, .int .i64 e.task, .int .i64 e.grp, .int .i64 a.to, .int .i64 a.wt, .int .i64 a.ticks, .int .u64 a.mask, .int .i64 a.got] 28 (0, 0)) := by rw [← hw5]; exact heap_setCell_same _ B 5 _ _ (.int .i64 e.grp) h4
  have m5 : Mod (fun k => k = B) W4 W5 := by rw [← hw5]; exact Mod.setCell (p := ⟨B, 5, none⟩) _ rfl
  rw [hw5]
  obtain ⟨W6, hw6⟩ : ∃ w, W5.setCell ⟨B, 6, none⟩ (.int .i64 e.to) = w := ⟨_, rfl⟩
  have h6 : W6.heap[B]? = some (.cells #[.int .i64 e.seq, .int .i64 e.time, .int .u8 e.cpu, .int .u8 e.kind, .int .i64 e.task, .int .i64 e.grp, .int .i64 e.to, .int .i64 a.wt, .int .i64 a.ticks, .int .u64 a.mask, .int .i64 a.got] 28 (0, 0)) := by rw [← hw6]; exact heap_setCell_same _ B 6 _ _ (.int .i64 e.to) h5
  have m6 : Mod (fun k => k = B) W5 W6 := by rw [← hw6]; exact Mod.setCell (p := ⟨B, 6, none⟩) _ rfl
  rw [hw6]
  obtain ⟨W7, hw7⟩ : ∃ w, W6.setCell ⟨B, 7, none⟩ (.int .i64 e.wt) = w := ⟨_, rfl⟩
  have h7 : W7.heap[B]? = some (.cells #[.int .i64 e.seq, .int .i64 e.time, .int .u8 e.cpu, .int .u8 e.kind, .int .i64 e.task, .int .i64 e.grp, .int .i64 e.to, .int .i64 e.wt, .int .i64 a.ticks, .int .u64 a.mask, .int .i64 a.got] 28 (0, 0)) := by rw [← hw7]; exact heap_setCell_same _ B 7 _ _ (.int .i64 e.wt) h6
  have m7 : Mod (fun k => k = B) W6 W7 := by rw [← hw7]; exact Mod.setCell (p := ⟨B, 7, none⟩) _ rfl
  rw [hw7]
  obtain ⟨W8, hw8⟩ : ∃ w, W7.setCell ⟨B, 8, none⟩ (.int .i64 e.ticks) = w := ⟨_, rfl⟩
  have h8 : W8.heap[B]? = some (.cells #[.int .i64 e.seq, .int .i64 e.time, .int .u8 e.cpu, .int .u8 e.kind, .int .i64 e.task, .int .i64 e.grp, .int .i64 e.to, .int .i64 e.wt, .int .i64 e.ticks, .int .u64 a.mask, .int .i64 a.got] 28 (0, 0)) := by rw [← hw8]; exact heap_setCell_same _ B 8 _ _ (.int .i64 e.ticks) h7
  have m8 : Mod (fun k => k = B) W7 W8 := by rw [← hw8]; exact Mod.setCell (p := ⟨B, 8, none⟩) _ rfl
  rw [hw8]
  obtain ⟨W9, hw9⟩ : ∃ w, W8.setCell ⟨B, 9, none⟩ (.int .u64 e.mask) = w := ⟨_, rfl⟩
  have h9 : W9.heap[B]? = some (.cells #[.int .i64 e.seq, .int .i64 e.time, .int .u8 e.cpu, .int .u8 e.kind, .int .i64 e.task, .int .i64 e.grp, .int .i64 e.to, .int .i64 e.wt, .int .i64 e.ticks, .int .u64 e.mask, .int .i64 a.got] 28 (0, 0)) := by rw [← hw9]; exact heap_setCell_same _ B 9 _ _ (.int .u64 e.mask) h8
  have m9 : Mod (fun k => k = B) W8 W9 := by rw [← hw9]; exact Mod.setCell (p := ⟨B, 9, none⟩) _ rfl
  rw [hw9]
  obtain ⟨W10, hw10⟩ : ∃ w, W9.setCell ⟨B, 10, none⟩ (.int .i64 e.got) = w := ⟨_, rfl⟩
  have h10 : W10.heap[B]? = some (.cells #[.int .i64 e.seq, .int .i64 e.time, .int .u8 e.cpu, .int .u8 e.kind, .int .i64 e.task, .int .i64 e.grp, .int .i64 e.to, .int .i64 e.wt, .int .i64 e.ticks, .int .u64 e.mask, .int .i64 e.got] 28 (0, 0)) := by rw [← hw10]; exact heap_setCell_same _ B 10 _ _ (.int .i64 e.got) h9
  have m10 : Mod (fun k => k = B) W9 W10 := by rw [← hw10]; exact Mod.setCell (p := ⟨B, 10, none⟩) _ rfl
  rw [hw10]
  exact ⟨h10, ((((((((((m0.trans m1).trans m2).trans m3).trans m4).trans m5).trans m6).trans m7).trans m8).trans m9).trans m10)⟩
set_option maxRecDepth 100000 in
set_option maxHeartbeats 3200000 in
theorem made6_walk (w : World) (x : S6) (h : S6Ok x) :
    Calls Tryz.prog 54 #[s6A x] w fun r w' => (∃ m, r = .returned (evA (made6 x m)) ∧ (0 ≤ m ∧ m ≤ 18446744073709551615) ∧ (x.kind % 10 = 0 → m.toNat / 2 ^ (x.cpu % 64).toNat % 2 = 1)) ∧ Below w.heap.size w w' := by
  have HX := Lib.hid h
  obtain ⟨h1, h2, h3, h4, h5, h6, h7, h8, h9, h10, h11⟩ := h
  have y1 : IntKind.i64.wrap x.seq = x.seq := IntWalk.i64_in _ (by omega)
  have y2 : IntKind.i64.wrap x.time = x.time := IntWalk.i64_in _ (by omega)
  have y3 : IntKind.i64.wrap x.task = x.task := IntWalk.i64_in _ (by omega)
  have y4 : IntKind.i64.wrap x.wt = x.wt := IntWalk.i64_in _ (by omega)
  have y5 : IntKind.i64.wrap x.got = x.got := IntWalk.i64_in _ (by omega)
  unfold s6A
  go_enter Tryz.func54, Tryz.ntmps54
  go_upto_region 2 with fail
  have hm := m6_new w x x.base
  unfold encS6 encE S6.base ev0 at hm
  dsimp only at hm
  generalize ((w.alloc (.cells #[.int .u8 x.kind, .int .u8 x.cpu, .int .u32 x.seq, .int .u32 x.time, .int .u32 x.task, .int .u32 x.grp, .int .u32 x.tgt, .int .u32 x.wt, .int .u32 x.ticks, .int .u32 x.got, .int .u64 x.mask] 80)).alloc (.cells #[.int .i64 0, .int .i64 0, .int .u8 0, .int .u8 0, .int .i64 0, .int .i64 0, .int .i64 0, .int .i64 0, .int .i64 0, .int .u64 0, .int .i64 0] 28)).alloc (.cells #[.int .i64 (1 + x.seq), .int .i64 x.time, .int .u8 (x.cpu % 64), .int .u8 (1 + x.kind % 10), .int .i64 0, .int .i64 0, .int .i64 0, .int .i64 0, .int .i64 0, .int .u64 0, .int .i64 0] 28) = w1 at hm ⊢
  have hm : M6 w w1 w.heap.size (w.heap.size + 1) (w.heap.size + 1 + 1) x x.base := hm
  generalize w.heap.size + 1 = B at hm ⊢
  have HM := Lib.hid hm
  clear hm
  have hm : True := trivial
  obtain ⟨A, hA⟩ : ∃ A, w.heap.size = A := ⟨_, rfl⟩
  have HA := Lib.hid hA
  rw [hA] at HM ⊢
  clear hA hm
  have g4 := HM.out.xc 4 _ rfl
  have g7 := HM.out.xc 7 _ rfl
  have g9 := HM.out.xc 9 _ rfl
  go_wp2_with fail
  go_quiet (fail)
  clear g4 g7 g9
  have HM1 := Lib.hid (HM.out.below (below_drewN (Below.refl _ _) nq))
  generalize w1.drewN nq = w2 at HM1 ⊢
  obtain ⟨E, hE⟩ : ∃ E, B + 1 = E := ⟨_, rfl⟩
  rw [hE] at HM1 ⊢
  clear HM hE
  have e3 := HM1.out.ec 3 _ rfl
  unfold S6.base at e3
  dsimp only at e3
  obtain ⟨kk, hkk⟩ : ∃ kk, 1 + x.kind % 10 = kk := ⟨_, rfl⟩
  have HK := Lib.hid hkk
  rw [hkk] at e3 ⊢
  go_upto_block 0 with fail
  clear e3
  go_cut [] (fun wx => ∃ m, (0 ≤ m ∧ m ≤ 18446744073709551615) ∧ (x.kind % 10 = 0 → m.toNat / 2 ^ (x.cpu % 64).toNat % 2 = 1) ∧ M6 w wx A B E x (made6 x m))
  case first =>
    have hks : kk = 1 ∨ kk = 2 ∨ kk = 3 ∨ kk = 4 ∨ kk = 5 ∨ kk = 6 ∨ kk = 7 ∨ kk = 8 ∨ kk = 9 ∨ kk = 10 := by omega
    have HW := Lib.hid (And.intro (HM1.out.ec) (HM1.out.xc))
    rcases hks with rfl | rfl | rfl | rfl | rfl | rfl | rfl | rfl | rfl | rfl
    · obtain ⟨sx, rfl⟩ : ∃ sx, sx = x := ⟨_, rfl⟩
      have h2' : (1 : Int) + sx.kind % 10 = 1 := hkk
      clear hkk
      obtain ⟨MM, hMM⟩ : ∃ MM : Int, bits BinOp.or IntKind.u64 sx.mask (2 ^ (sx.cpu % 64).toNat) = MM := ⟨_, rfl⟩
      have HMB := Lib.hid (show (0 ≤ MM ∧ MM ≤ 18446744073709551615) ∧ MM.toNat / 2 ^ (sx.cpu % 64).toNat % 2 = 1 from by rw [← hMM]; exact or_bit _ _ (by omega))
      have HS9 := Lib.hid (show M6 w w2.drew A B E sx (ev1 sx MM false false false false) from (HM1.out.below (below_drew (Below.refl _ _))))
      have z10 : IntKind.u64.wrap ((2 : Int) ^ (sx.cpu % 64).toNat) = 2 ^ (sx.cpu % 64).toNat := pow_u64 _ (by omega)
      have z3 : IntKind.i64.wrap sx.grp = sx.grp := IntWalk.i64_in _ (by omega)
      have z4 : sx.grp.tmod 256 = sx.grp % 256 := Int.tmod_eq_emod_of_nonneg (by omega)
      go_wp2_with fail
      refine wp_region_dag (by kernel_rfl) 20 rfl (fun i => i == 13 || i == 15 || i == 17 || i == 19) (fun x => ⟨#[.agg #[.int .u8 sx.kind, .int .u8 sx.cpu, .int .u32 sx.seq, .int .u32 sx.time, .int .u32 sx.task, .int .u32 sx.grp, .int .u32 sx.tgt, .int .u32 sx.wt, .int .u32 sx.ticks, .int .u32 sx.got, .int .u64 sx.mask], .pointer (some ⟨A, 0, none⟩), .pointer (some ⟨B, 0, none⟩), .pointer (some ⟨E, 0, none⟩), .int .i64 (1 + sx.task % 65535), .int .i64 (1 + sx.wt % 65536), .int .i64 (1 + sx.got % 65535), .pointer (some ⟨A, 2, none⟩), .int .u32 sx.seq, .int .i64 sx.seq, .int .i64 (1 + sx.seq), .pointer (some ⟨A, 3, none⟩), .int .u32 sx.time, .int .i64 sx.time, .pointer (some ⟨A, 1, none⟩), .int .u8 sx.cpu, .int .u8 (sx.cpu % 64), .pointer (some ⟨A, 0, none⟩), .int .u8 sx.kind, .int .u8 (sx.kind % 10), .int .u8 1, .agg #[.int .i64 (1 + sx.seq), .int .i64 sx.time, .int .u8 (sx.cpu % 64), .int .u8 1, .int .i64 0, .int .i64 0, .int .i64 0, .int .i64 0, .int .i64 0, .int .u64 0, .int .i64 0], .pointer (some ⟨A, 4, none⟩), .int .u32 sx.task, .int .i64 sx.task, .int .i64 (sx.task % 65535), .int .i64 (1 + sx.task % 65535), .pointer (some ⟨A, 7, none⟩), .int .u32 sx.wt, .int .i64 sx.wt, .int .i64 (sx.wt % 65536), .int .i64 (1 + sx.wt % 65536), .pointer (some ⟨A, 9, none⟩), .int .u32 sx.got, .int .i64 sx.got, .int .i64 (sx.got % 65535), .int .i64 (1 + sx.got % 65535), .pointer (some ⟨E, 3, none⟩), .int .u8 1, undef, undef, .bool true, .bool true, x 0, x 1, x 2, x 3, x 4, x 5, x 6, x 7, x 8, x 9, x 10, x 11, x 12, x 14, x 16, x 18, undef, undef, undef, undef, undef, undef, undef, undef, undef, undef, undef, undef, undef, undef, undef, undef, undef, undef, undef, undef, undef, undef, undef, undef, undef, undef, undef, undef, undef, undef, undef, undef, undef, undef, undef, undef, undef, undef, undef, undef, undef, undef, undef, undef, undef, undef, undef, undef, undef, undef, undef], []⟩) (fun iF vF => match iF with | 0 => vF = .int .i64 (1 + sx.task % 65535) | 1 => vF = .pointer (some ⟨A, 5, none⟩) | 2 => vF = .int .u32 sx.grp | 3 => vF = .int .i64 sx.grp | 4 => vF = .int .i64 (sx.grp % 256) | 5 => vF = .int .i64 (1 + sx.wt % 65536) | 6 => vF = .pointer (some ⟨A, 10, none⟩) | 7 => vF = .int .u64 sx.mask | 8 => vF = .pointer (some ⟨E, 2, none⟩) | 9 => vF = .int .u8 (sx.cpu % 64) | 10 => vF = .int .u64 (2 ^ (sx.cpu % 64).toNat : Int) | 11 => vF = .int .u64 MM | 12 => vF = .pointer (some ⟨E, 4, none⟩) | 14 => vF = .pointer (some ⟨E, 5, none⟩) | 16 => vF = .pointer (some ⟨E, 7, none⟩) | 18 => vF = .pointer (some ⟨E, 9, none⟩) | _ => True)
        (fun d x W => M6 w W A B E sx (ev1 sx MM (d 13) (d 15) (d 17) (d 19))) ?hB (by kernel_rfl) (by kernel_rfl) ?hpure ?hmem ?hend (fun i => (#[undef, undef, undef, undef, undef, undef, undef, undef, undef, undef, undef, undef, undef, undef, undef, undef, undef, undef, undef, undef] : Array Value).getD i undef) rfl ?hstart
      case hstart =>
        try dsimp only
        exact HS9.out
      case hB =>
        intro d d' x i v W hi hm h
        have g13 : ¬ 13 = i := by rintro rfl; exact absurd (show true = false from hi) (by simp)
        have e13 : d' 13 = d 13 := hm 13 rfl
        have g15 : ¬ 15 = i := by rintro rfl; exact absurd (show true = false from hi) (by simp)
        have e15 : d' 15 = d 15 := hm 15 rfl
        have g17 : ¬ 17 = i := by rintro rfl; exact absurd (show true = false from hi) (by simp)
        have e17 : d' 17 = d 17 := hm 17 rfl
        have g19 : ¬ 19 = i := by rintro rfl; exact absurd (show true = false from hi) (by simp)
        have e19 : d' 19 = d 19 := hm 19 rfl
        try dsimp only at h ⊢
        first | rw [upd_ne g13, upd_ne g15, upd_ne g17, upd_ne g19, e13, e15, e17, e19] | simp only [upd_ne g13, upd_ne g15, upd_ne g17, upd_ne g19, e13, e15, e17, e19]
        exact h
      case hpure =>
        intro iF o hi hnm ho d x W hB hd hdn hnd hcl Kq hK
        rcases (show iF = 0 ∨ iF = 1 ∨ iF = 2 ∨ iF = 3 ∨ iF = 4 ∨ iF = 5 ∨ iF = 6 ∨ iF = 7 ∨ iF = 8 ∨ iF = 9 ∨ iF = 10 ∨ iF = 11 ∨ iF = 12 ∨ iF = 13 ∨ iF = 14 ∨ iF = 15 ∨ iF = 16 ∨ iF = 17 ∨ iF = 18 ∨ iF = 19 by omega) with rfl | rfl | rfl | rfl | rfl | rfl | rfl | rfl | rfl | rfl | rfl | rfl | rfl | rfl | rfl | rfl | rfl | rfl | rfl | rfl
        · obtain rfl := Option.some.inj ho
          clear ho hd hdn hnd hcl hB hnm hi
          simp only [upd, reduceIte, Nat.reduceEqDiff] at hK
          try dsimp only
          go_simp
          exact hK _ rfl
        · obtain rfl := Option.some.inj ho
          clear ho hd hdn hnd hcl hB hnm hi
          simp only [upd, reduceIte, Nat.reduceEqDiff] at hK
          try dsimp only
          go_simp
          exact hK _ rfl
        · obtain rfl := Option.some.inj ho
          have e1 : x 1 = .pointer (some ⟨A, 5, none⟩) := hd 1 (by kernel_rfl) (by kernel_rfl)
          have q2 := hB.xc 5 _ rfl
          clear ho hd hdn hnd hcl hB hnm hi
          simp only [upd, reduceIte, Nat.reduceEqDiff, e1] at hK
          try dsimp only
          go_simp
          exact hK _ rfl
        · obtain rfl := Option.some.inj ho
          have e2 : x 2 = .int .u32 sx.grp := hd 2 (by kernel_rfl) (by kernel_rfl)
          clear ho hd hdn hnd hcl hB hnm hi
          simp only [upd, reduceIte, Nat.reduceEqDiff, e2] at hK
          try dsimp only
          go_simp
          exact hK _ rfl
        · obtain rfl := Option.some.inj ho
          have e3 : x 3 = .int .i64 sx.grp := hd 3 (by kernel_rfl) (by kernel_rfl)
          clear ho hd hdn hnd hcl hB hnm hi
          simp only [upd, reduceIte, Nat.reduceEqDiff, e3] at hK
          try dsimp only
          go_simp
          exact hK _ rfl
        · obtain rfl := Option.some.inj ho
          clear ho hd hdn hnd hcl hB hnm hi
          simp only [upd, reduceIte, Nat.reduceEqDiff] at hK
          try dsimp only
          go_simp
          exact hK _ rfl
        · obtain rfl := Option.some.inj ho
          clear ho hd hdn hnd hcl hB hnm hi
          simp only [upd, reduceIte, Nat.reduceEqDiff] at hK
          try dsimp only
          go_simp
          exact hK _ rfl
        · obtain rfl := Option.some.inj ho
          have e6 : x 6 = .pointer (some ⟨A, 10, none⟩) := hd 6 (by kernel_rfl) (by kernel_rfl)
          have q2 := hB.xc 10 _ rfl
          clear ho hd hdn hnd hcl hB hnm hi
          simp only [upd, reduceIte, Nat.reduceEqDiff, e6] at hK
          try dsimp only
          go_simp
          exact hK _ rfl
        · obtain rfl := Option.some.inj ho
          clear ho hd hdn hnd hcl hB hnm hi
          simp only [upd, reduceIte, Nat.reduceEqDiff] at hK
          try dsimp only
          go_simp
          exact hK _ rfl
        · obtain rfl := Option.some.inj ho
          have e8 : x 8 = .pointer (some ⟨E, 2, none⟩) := hd 8 (by kernel_rfl) (by kernel_rfl)
          have q2 := hB.ec 2 _ rfl
          unfold ev1 at q2
          dsimp only at q2
          clear ho hd hdn hnd hcl hB hnm hi
          simp only [upd, reduceIte, Nat.reduceEqDiff, e8] at hK
          try dsimp only
          go_simp
          exact hK _ rfl
        · obtain rfl := Option.some.inj ho
          have e9 : x 9 = .int .u8 (sx.cpu % 64) := hd 9 (by kernel_rfl) (by kernel_rfl)
          clear ho hd hdn hnd hcl hB hnm hi
          simp only [upd, reduceIte, Nat.reduceEqDiff, e9] at hK
          try dsimp only
          go_simp
          exact hK _ rfl
        · obtain rfl := Option.some.inj ho
          have e7 : x 7 = .int .u64 sx.mask := hd 7 (by kernel_rfl) (by kernel_rfl)
          have e10 : x 10 = .int .u64 (2 ^ (sx.cpu % 64).toNat : Int) := hd 10 (by kernel_rfl) (by kernel_rfl)
          clear ho hd hdn hnd hcl hB hnm hi
          simp only [upd, reduceIte, Nat.reduceEqDiff, e7, e10] at hK
          try dsimp only
          go_simp
          exact hK _ rfl
        · obtain rfl := Option.some.inj ho
          clear ho hd hdn hnd hcl hB hnm hi
          simp only [upd, reduceIte, Nat.reduceEqDiff] at hK
          try dsimp only
          go_simp
          exact hK _ rfl
        · exact absurd (show true = false from hnm) (by simp)
        · obtain rfl := Option.some.inj ho
          clear ho hd hdn hnd hcl hB hnm hi
          simp only [upd, reduceIte, Nat.reduceEqDiff] at hK
          try dsimp only
          go_simp
          exact hK _ rfl
        · exact absurd (show true = false from hnm) (by simp)
        · obtain rfl := Option.some.inj ho
          clear ho hd hdn hnd hcl hB hnm hi
          simp only [upd, reduceIte, Nat.reduceEqDiff] at hK
          try dsimp only
          go_simp
          exact hK _ rfl
        · exact absurd (show true = false from hnm) (by simp)
        · obtain rfl := Option.some.inj ho
          clear ho hd hdn hnd hcl hB hnm hi
          simp only [upd, reduceIte, Nat.reduceEqDiff] at hK
          try dsimp only
          go_simp
          exact hK _ rfl
        · exact absurd (show true = false from hnm) (by simp)
      case hmem =>
        intro iF o hi hmm ho d d' x W hB hd hdn hnd hdi hdi' hdm hcl Kq hK
        rcases (show iF = 0 ∨ iF = 1 ∨ iF = 2 ∨ iF = 3 ∨ iF = 4 ∨ iF = 5 ∨ iF = 6 ∨ iF = 7 ∨ iF = 8 ∨ iF = 9 ∨ iF = 10 ∨ iF = 11 ∨ iF = 12 ∨ iF = 13 ∨ iF = 14 ∨ iF = 15 ∨ iF = 16 ∨ iF = 17 ∨ iF = 18 ∨ iF = 19 by omega) with rfl | rfl | rfl | rfl | rfl | rfl | rfl | rfl | rfl | rfl | rfl | rfl | rfl | rfl | rfl | rfl | rfl | rfl | rfl | rfl
        · exact absurd (show false = true from hmm) (by simp)
        · exact absurd (show false = true from hmm) (by simp)
        · exact absurd (show false = true from hmm) (by simp)
        · exact absurd (show false = true from hmm) (by simp)
        · exact absurd (show false = true from hmm) (by simp)
        · exact absurd (show false = true from hmm) (by simp)
        · exact absurd (show false = true from hmm) (by simp)
        · exact absurd (show false = true from hmm) (by simp)
        · exact absurd (show false = true from hmm) (by simp)
        · exact absurd (show false = true from hmm) (by simp)
        · exact absurd (show false = true from hmm) (by simp)
        · exact absurd (show false = true from hmm) (by simp)
        · exact absurd (show false = true from hmm) (by simp)
        · obtain rfl := Option.some.inj ho
          have e0 : x 0 = .int .i64 (1 + sx.task % 65535) := hd 0 (by kernel_rfl) (by kernel_rfl)
          have e12 : x 12 = .pointer (some ⟨E, 4, none⟩) := hd 12 (by kernel_rfl) (by kernel_rfl)
          have dm15 : d' 15 = d 15 := hdm 15 (by omega)
          have dm17 : d' 17 = d 17 := hdm 17 (by omega)
          have dm19 : d' 19 = d 19 := hdm 19 (by omega)
          have q := hB.ec 4 _ rfl
          have f := hB.ef 4
          rw [hdi] at hB
          clear ho hd hdn hnd hcl hmm
          simp only [upd, reduceIte, Nat.reduceEqDiff, e0, e12] at hK
          try dsimp only
          go_simp
          refine hK undef _ ?_
          try dsimp only
          rw [dm15, dm17, dm19, hdi']
          exact hB.set 4 _ _ rfl
        · exact absurd (show false = true from hmm) (by simp)
        · obtain rfl := Option.some.inj ho
          have e4 : x 4 = .int .i64 (sx.grp % 256) := hd 4 (by kernel_rfl) (by kernel_rfl)
          have e14 : x 14 = .pointer (some ⟨E, 5, none⟩) := hd 14 (by kernel_rfl) (by kernel_rfl)
          have dm13 : d' 13 = d 13 := hdm 13 (by omega)
          have dm17 : d' 17 = d 17 := hdm 17 (by omega)
          have dm19 : d' 19 = d 19 := hdm 19 (by omega)
          have q := hB.ec 5 _ rfl
          have f := hB.ef 5
          rw [hdi] at hB
          clear ho hd hdn hnd hcl hmm
          simp only [upd, reduceIte, Nat.reduceEqDiff, e4, e14] at hK
          try dsimp only
          go_simp
          refine hK undef _ ?_
          try dsimp only
          rw [dm13, dm17, dm19, hdi']
          exact hB.set 5 _ _ rfl
        · exact absurd (show false = true from hmm) (by simp)
        · obtain rfl := Option.some.inj ho
          have e5 : x 5 = .int .i64 (1 + sx.wt % 65536) := hd 5 (by kernel_rfl) (by kernel_rfl)
          have e16 : x 16 = .pointer (some ⟨E, 7, none⟩) := hd 16 (by kernel_rfl) (by kernel_rfl)
          have dm13 : d' 13 = d 13 := hdm 13 (by omega)
          have dm15 : d' 15 = d 15 := hdm 15 (by omega)
          have dm19 : d' 19 = d 19 := hdm 19 (by omega)
          have q := hB.ec 7 _ rfl
          have f := hB.ef 7
          rw [hdi] at hB
          clear ho hd hdn hnd hcl hmm
          simp only [upd, reduceIte, Nat.reduceEqDiff, e5, e16] at hK
          try dsimp only
          go_simp
          refine hK undef _ ?_
          try dsimp only
          rw [dm13, dm15, dm19, hdi']
          exact hB.set 7 _ _ rfl
        · exact absurd (show false = true from hmm) (by simp)
        · obtain rfl := Option.some.inj ho
          have e11 : x 11 = .int .u64 MM := hd 11 (by kernel_rfl) (by kernel_rfl)
          have e18 : x 18 = .pointer (some ⟨E, 9, none⟩) := hd 18 (by kernel_rfl) (by kernel_rfl)
          have dm13 : d' 13 = d 13 := hdm 13 (by omega)
          have dm15 : d' 15 = d 15 := hdm 15 (by omega)
          have dm17 : d' 17 = d 17 := hdm 17 (by omega)
          have q := hB.ec 9 _ rfl
          have f := hB.ef 9
          rw [hdi] at hB
          clear ho hd hdn hnd hcl hmm
          simp only [upd, reduceIte, Nat.reduceEqDiff, e11, e18] at hK
          try dsimp only
          go_simp
          refine hK undef _ ?_
          try dsimp only
          rw [dm13, dm15, dm17, hdi']
          exact hB.set 9 _ _ rfl
      case hend =>
        intro d x W hall hB hd
        have h13 := hall 13 (by omega)
        have h15 := hall 15 (by omega)
        have h17 := hall 17 (by omega)
        have h19 := hall 19 (by omega)
        rw [h13, h15, h17, h19] at hB
        have HMF := Lib.hid hB
        clear hd hall hB h13 h15 h17 h19
        try dsimp only
        generalize x 0 = z0
        generalize x 1 = z1
        generalize x 2 = z2
        generalize x 3 = z3
        generalize x 4 = z4
        generalize x 5 = z5
        generalize x 6 = z6
        generalize x 7 = z7
        generalize x 8 = z8
        generalize x 9 = z9
        generalize x 10 = z10
        generalize x 11 = z11
        generalize x 12 = z12
        generalize x 14 = z14
        generalize x 16 = z16
        generalize x 18 = z18
        go_wp2
        go_meet
        refine ⟨MM, HMB.out.1, fun _ => HMB.out.2, ?_⟩
        have hh := HMF.out
        rw [show ev1 sx MM true true true true = made6 sx MM from by unfold made6; dsimp only; rw [if_pos (by have := HK.out; omega)]; rfl] at hh
        exact hh
    · clear hkk
      have e4 := HM1.out.ec 4 _ rfl
      have f4 := HM1.out.ef 4
      go_wp2
      go_meet
      refine ⟨0, by omega, fun h => by have := HK.out; omega, ?_⟩
      refine M6.set HM1.out 4 _ (made6 x 0) ?_
      · unfold made6 S6.base S6.ta S6.we S6.go
        rw [if_neg (by have := HK.out; omega), if_pos (by have := HK.out; omega)]
        first
        | rfl
        | trace_state
    · clear hkk
      have e10 := HM1.out.ec 10 _ rfl
      have f10 := HM1.out.ef 10
      go_wp2
      go_meet
      refine ⟨0, by omega, fun h => by have := HK.out; omega, ?_⟩
      refine M6.set HM1.out 10 _ (made6 x 0) ?_
      · unfold made6 S6.base S6.ta S6.we S6.go
        rw [if_neg (by have := HK.out; omega), if_neg (by have := HK.out; omega), if_neg (by have := HK.out; omega), if_neg (by have := HK.out; omega), if_neg (by have := HK.out; omega), if_neg (by have := HK.out; omega), if_neg (by have := HK.out; omega)]
        first
        | rfl
        | trace_state
    · clear hkk
      have e10 := HM1.out.ec 10 _ rfl
      have f10 := HM1.out.ef 10
      go_wp2
      go_meet
      refine ⟨0, by omega, fun h => by have := HK.out; omega, ?_⟩
      refine M6.set HM1.out 10 _ (made6 x 0) ?_
      · unfold made6 S6.base S6.ta S6.we S6.go
        rw [if_neg (by have := HK.out; omega), if_neg (by have := HK.out; omega), if_neg (by have := HK.out; omega), if_neg (by have := HK.out; omega), if_neg (by have := HK.out; omega), if_neg (by have := HK.out; omega), if_neg (by have := HK.out; omega)]
        first
        | rfl
        | trace_state
    · clear hkk
      have g8 := HM1.out.xc 8 _ rfl
      have e8 := HM1.out.ec 8 _ rfl
      have f8 := HM1.out.ef 8
      have e10 := HM1.out.ec 10 _ rfl
      have f10 := HM1.out.ef 10
      go_wp2
      go_meet
      refine ⟨0, by omega, fun h => by have := HK.out; omega, ?_⟩
      refine M6.set (M6.set HM1.out 8 _ { x.base with ticks := max x.ticks 1 } ?_) 10 _ (made6 x 0) ?_
      · rfl
      · unfold made6 S6.base S6.ta S6.we S6.go
        rw [if_neg (by have := HK.out; omega), if_neg (by have := HK.out; omega), if_pos (by have := HK.out; omega)]
        first
        | rfl
        | trace_state
    · clear hkk
      have e10 := HM1.out.ec 10 _ rfl
      have f10 := HM1.out.ef 10
      go_wp2
      go_meet
      refine ⟨0, by omega, fun h => by have := HK.out; omega, ?_⟩
      refine M6.set HM1.out 10 _ (made6 x 0) ?_
      · unfold made6 S6.base S6.ta S6.we S6.go
        rw [if_neg (by have := HK.out; omega), if_neg (by have := HK.out; omega), if_neg (by have := HK.out; omega), if_pos (by have := HK.out; omega)]
        first
        | rfl
        | trace_state
    · clear hkk
      have e4 := HM1.out.ec 4 _ rfl
      have f4 := HM1.out.ef 4
      have e7 := HM1.out.ec 7 _ rfl
      have f7 := HM1.out.ef 7
      go_wp2
      go_meet
      refine ⟨0, by omega, fun h => by have := HK.out; omega, ?_⟩
      refine M6.set (M6.set HM1.out 4 _ { x.base with task := x.ta } ?_) 7 _ (made6 x 0) ?_
      · rfl
      · unfold made6 S6.base S6.ta S6.we S6.go
        rw [if_neg (by have := HK.out; omega), if_neg (by have := HK.out; omega), if_neg (by have := HK.out; omega), if_neg (by have := HK.out; omega), if_pos (by have := HK.out; omega)]
        first
        | rfl
        | trace_state
    · clear hkk
      have g5 := HM1.out.xc 5 _ rfl
      have e5 := HM1.out.ec 5 _ rfl
      have f5 := HM1.out.ef 5
      have e7 := HM1.out.ec 7 _ rfl
      have f7 := HM1.out.ef 7
      go_wp2
      go_meet
      refine ⟨0, by omega, fun h => by have := HK.out; omega, ?_⟩
      refine M6.set (M6.set HM1.out 5 _ { x.base with grp := 1 + x.grp % 255 } ?_) 7 _ (made6 x 0) ?_
      · rfl
      · unfold made6 S6.base S6.ta S6.we S6.go
        rw [if_neg (by have := HK.out; omega), if_neg (by have := HK.out; omega), if_neg (by have := HK.out; omega), if_neg (by have := HK.out; omega), if_neg (by have := HK.out; omega), if_pos (by have := HK.out; omega)]
        first
        | rfl
        | trace_state
    · obtain ⟨sx, rfl⟩ : ∃ sx, sx = x := ⟨_, rfl⟩
      have h2' : (1 : Int) + sx.kind % 10 = 9 := hkk
      clear hkk
      have HS9 := Lib.hid (show M6 w w2.drew A B E sx (ev9 sx false false) from (HM1.out.below (below_drew (Below.refl _ _))))
      have z3 : IntKind.i64.wrap (sx.cpu % 64) = sx.cpu % 64 := IntWalk.i64_in _ (by omega)
      have z4 : IntKind.i64.wrap (sx.cpu % 64 + 1) = sx.cpu % 64 + 1 := IntWalk.i64_in _ (by omega)
      have z7 : IntKind.i64.wrap sx.tgt = sx.tgt := IntWalk.i64_in _ (by omega)
      have z8 : sx.tgt.tmod 63 = sx.tgt % 63 := Int.tmod_eq_emod_of_nonneg (by omega)
      have z9 : IntKind.i64.wrap (sx.cpu % 64 + 1 + sx.tgt % 63) = sx.cpu % 64 + 1 + sx.tgt % 63 := IntWalk.i64_in _ (by omega)
      have z10 : (sx.cpu % 64 + 1 + sx.tgt % 63).tmod 64 = (sx.cpu % 64 + 1 + sx.tgt % 63) % 64 := Int.tmod_eq_emod_of_nonneg (by omega)
      go_wp2_with fail
      refine wp_region_dag (by kernel_rfl) 15 rfl (fun i => i == 12 || i == 14) (fun x => ⟨#[.agg #[.int .u8 sx.kind, .int .u8 sx.cpu, .int .u32 sx.seq, .int .u32 sx.time, .int .u32 sx.task, .int .u32 sx.grp, .int .u32 sx.tgt, .int .u32 sx.wt, .int .u32 sx.ticks, .int .u32 sx.got, .int .u64 sx.mask], .pointer (some ⟨A, 0, none⟩), .pointer (some ⟨B, 0, none⟩), .pointer (some ⟨E, 0, none⟩), .int .i64 (1 + sx.task % 65535), .int .i64 (1 + sx.wt % 65536), .int .i64 (1 + sx.got % 65535), .pointer (some ⟨A, 2, none⟩), .int .u32 sx.seq, .int .i64 sx.seq, .int .i64 (1 + sx.seq), .pointer (some ⟨A, 3, none⟩), .int .u32 sx.time, .int .i64 sx.time, .pointer (some ⟨A, 1, none⟩), .int .u8 sx.cpu, .int .u8 (sx.cpu % 64), .pointer (some ⟨A, 0, none⟩), .int .u8 sx.kind, .int .u8 (sx.kind % 10), .int .u8 9, .agg #[.int .i64 (1 + sx.seq), .int .i64 sx.time, .int .u8 (sx.cpu % 64), .int .u8 9, .int .i64 0, .int .i64 0, .int .i64 0, .int .i64 0, .int .i64 0, .int .u64 0, .int .i64 0], .pointer (some ⟨A, 4, none⟩), .int .u32 sx.task, .int .i64 sx.task, .int .i64 (sx.task % 65535), .int .i64 (1 + sx.task % 65535), .pointer (some ⟨A, 7, none⟩), .int .u32 sx.wt, .int .i64 sx.wt, .int .i64 (sx.wt % 65536), .int .i64 (1 + sx.wt % 65536), .pointer (some ⟨A, 9, none⟩), .int .u32 sx.got, .int .i64 sx.got, .int .i64 (sx.got % 65535), .int .i64 (1 + sx.got % 65535), .pointer (some ⟨E, 3, none⟩), .int .u8 9, undef, undef, .bool false, .bool false, undef, undef, undef, undef, undef, undef, undef, undef, undef, undef, undef, undef, undef, undef, undef, undef, .bool false, .bool false, undef, undef, .bool false, .bool false, undef, undef, undef, undef, undef, undef, undef, undef, .bool false, .bool false, undef, undef, undef, .bool false, .bool false, undef, undef, undef, undef, .bool false, .bool false, undef, undef, undef, undef, undef, undef, undef, undef, .bool true, .bool true, x 0, x 1, x 2, x 3, x 4, x 5, x 6, x 7, x 8, x 9, x 10, x 11, x 13, undef], []⟩) (fun iF vF => match iF with | 0 => vF = .int .i64 (1 + sx.task % 65535) | 1 => vF = .pointer (some ⟨E, 2, none⟩) | 2 => vF = .int .u8 (sx.cpu % 64) | 3 => vF = .int .i64 (sx.cpu % 64) | 4 => vF = .int .i64 (sx.cpu % 64 + 1) | 5 => vF = .pointer (some ⟨A, 6, none⟩) | 6 => vF = .int .u32 sx.tgt | 7 => vF = .int .i64 sx.tgt | 8 => vF = .int .i64 (sx.tgt % 63) | 9 => vF = .int .i64 (sx.cpu % 64 + 1 + sx.tgt % 63) | 10 => vF = .int .i64 ((sx.cpu % 64 + 1 + sx.tgt % 63) % 64) | 11 => vF = .pointer (some ⟨E, 4, none⟩) | 13 => vF = .pointer (some ⟨E, 6, none⟩) | _ => True)
        (fun d x W => M6 w W A B E sx (ev9 sx (d 12) (d 14))) ?hB (by kernel_rfl) (by kernel_rfl) ?hpure ?hmem ?hend (fun i => (#[undef, undef, undef, undef, undef, undef, undef, undef, undef, undef, undef, undef, undef, undef, undef] : Array Value).getD i undef) rfl ?hstart
      case hstart =>
        try dsimp only
        exact HS9.out
      case hB =>
        intro d d' x i v W hi hm h
        have g12 : ¬ 12 = i := by rintro rfl; exact absurd (show true = false from hi) (by simp)
        have e12 : d' 12 = d 12 := hm 12 rfl
        have g14 : ¬ 14 = i := by rintro rfl; exact absurd (show true = false from hi) (by simp)
        have e14 : d' 14 = d 14 := hm 14 rfl
        try dsimp only at h ⊢
        first | rw [upd_ne g12, upd_ne g14, e12, e14] | simp only [upd_ne g12, upd_ne g14, e12, e14]
        exact h
      case hpure =>
        intro iF o hi hnm ho d x W hB hd hdn hnd hcl Kq hK
        rcases (show iF = 0 ∨ iF = 1 ∨ iF = 2 ∨ iF = 3 ∨ iF = 4 ∨ iF = 5 ∨ iF = 6 ∨ iF = 7 ∨ iF = 8 ∨ iF = 9 ∨ iF = 10 ∨ iF = 11 ∨ iF = 12 ∨ iF = 13 ∨ iF = 14 by omega) with rfl | rfl | rfl | rfl | rfl | rfl | rfl | rfl | rfl | rfl | rfl | rfl | rfl | rfl | rfl
        · obtain rfl := Option.some.inj ho
          clear ho hd hdn hnd hcl hB hnm hi
          simp only [upd, reduceIte, Nat.reduceEqDiff] at hK
          try dsimp only
          go_simp
          exact hK _ rfl
        · obtain rfl := Option.some.inj ho
          clear ho hd hdn hnd hcl hB hnm hi
          simp only [upd, reduceIte, Nat.reduceEqDiff] at hK
          try dsimp only
          go_simp
          exact hK _ rfl
        · obtain rfl := Option.some.inj ho
          have e1 : x 1 = .pointer (some ⟨E, 2, none⟩) := hd 1 (by kernel_rfl) (by kernel_rfl)
          have q2 := hB.ec 2 _ rfl
          unfold ev9 at q2
          dsimp only at q2
          clear ho hd hdn hnd hcl hB hnm hi
          simp only [upd, reduceIte, Nat.reduceEqDiff, e1] at hK
          try dsimp only
          go_simp
          exact hK _ rfl
        · obtain rfl := Option.some.inj ho
          have e2 : x 2 = .int .u8 (sx.cpu % 64) := hd 2 (by kernel_rfl) (by kernel_rfl)
          clear ho hd hdn hnd hcl hB hnm hi
          simp only [upd, reduceIte, Nat.reduceEqDiff, e2] at hK
          try dsimp only
          go_simp
          exact hK _ rfl
        · obtain rfl := Option.some.inj ho
          have e3 : x 3 = .int .i64 (sx.cpu % 64) := hd 3 (by kernel_rfl) (by kernel_rfl)
          clear ho hd hdn hnd hcl hB hnm hi
          simp only [upd, reduceIte, Nat.reduceEqDiff, e3] at hK
          try dsimp only
          go_simp
          exact hK _ rfl
        · obtain rfl := Option.some.inj ho
          clear ho hd hdn hnd hcl hB hnm hi
          simp only [upd, reduceIte, Nat.reduceEqDiff] at hK
          try dsimp only
          go_simp
          exact hK _ rfl
        · obtain rfl := Option.some.inj ho
          have e5 : x 5 = .pointer (some ⟨A, 6, none⟩) := hd 5 (by kernel_rfl) (by kernel_rfl)
          have q6 := hB.xc 6 _ rfl
          clear ho hd hdn hnd hcl hB hnm hi
          simp only [upd, reduceIte, Nat.reduceEqDiff, e5] at hK
          try dsimp only
          go_simp
          exact hK _ rfl
        · obtain rfl := Option.some.inj ho
          have e6 : x 6 = .int .u32 sx.tgt := hd 6 (by kernel_rfl) (by kernel_rfl)
          clear ho hd hdn hnd hcl hB hnm hi
          simp only [upd, reduceIte, Nat.reduceEqDiff, e6] at hK
          try dsimp only
          go_simp
          exact hK _ rfl
        · obtain rfl := Option.some.inj ho
          have e7 : x 7 = .int .i64 sx.tgt := hd 7 (by kernel_rfl) (by kernel_rfl)
          clear ho hd hdn hnd hcl hB hnm hi
          simp only [upd, reduceIte, Nat.reduceEqDiff, e7] at hK
          try dsimp only
          go_simp
          exact hK _ rfl
        · obtain rfl := Option.some.inj ho
          have e4 : x 4 = .int .i64 (sx.cpu % 64 + 1) := hd 4 (by kernel_rfl) (by kernel_rfl)
          have e8 : x 8 = .int .i64 (sx.tgt % 63) := hd 8 (by kernel_rfl) (by kernel_rfl)
          clear ho hd hdn hnd hcl hB hnm hi
          simp only [upd, reduceIte, Nat.reduceEqDiff, e4, e8] at hK
          try dsimp only
          go_simp
          exact hK _ rfl
        · obtain rfl := Option.some.inj ho
          have e9 : x 9 = .int .i64 (sx.cpu % 64 + 1 + sx.tgt % 63) := hd 9 (by kernel_rfl) (by kernel_rfl)
          clear ho hd hdn hnd hcl hB hnm hi
          simp only [upd, reduceIte, Nat.reduceEqDiff, e9] at hK
          try dsimp only
          go_simp
          exact hK _ rfl
        · obtain rfl := Option.some.inj ho
          clear ho hd hdn hnd hcl hB hnm hi
          simp only [upd, reduceIte, Nat.reduceEqDiff] at hK
          try dsimp only
          go_simp
          exact hK _ rfl
        · exact absurd (show true = false from hnm) (by simp)
        · obtain rfl := Option.some.inj ho
          clear ho hd hdn hnd hcl hB hnm hi
          simp only [upd, reduceIte, Nat.reduceEqDiff] at hK
          try dsimp only
          go_simp
          exact hK _ rfl
        · exact absurd (show true = false from hnm) (by simp)
      case hmem =>
        intro iF o hi hmm ho d d' x W hB hd hdn hnd hdi hdi' hdm hcl Kq hK
        rcases (show iF = 0 ∨ iF = 1 ∨ iF = 2 ∨ iF = 3 ∨ iF = 4 ∨ iF = 5 ∨ iF = 6 ∨ iF = 7 ∨ iF = 8 ∨ iF = 9 ∨ iF = 10 ∨ iF = 11 ∨ iF = 12 ∨ iF = 13 ∨ iF = 14 by omega) with rfl | rfl | rfl | rfl | rfl | rfl | rfl | rfl | rfl | rfl | rfl | rfl | rfl | rfl | rfl
        · exact absurd (show false = true from hmm) (by simp)
        · exact absurd (show false = true from hmm) (by simp)
        · exact absurd (show false = true from hmm) (by simp)
        · exact absurd (show false = true from hmm) (by simp)
        · exact absurd (show false = true from hmm) (by simp)
        · exact absurd (show false = true from hmm) (by simp)
        · exact absurd (show false = true from hmm) (by simp)
        · exact absurd (show false = true from hmm) (by simp)
        · exact absurd (show false = true from hmm) (by simp)
        · exact absurd (show false = true from hmm) (by simp)
        · exact absurd (show false = true from hmm) (by simp)
        · exact absurd (show false = true from hmm) (by simp)
        · obtain rfl := Option.some.inj ho
          have e0 : x 0 = .int .i64 (1 + sx.task % 65535) := hd 0 (by kernel_rfl) (by kernel_rfl)
          have e11 : x 11 = .pointer (some ⟨E, 4, none⟩) := hd 11 (by kernel_rfl) (by kernel_rfl)
          have dm14 : d' 14 = d 14 := hdm 14 (by omega)
          have q := hB.ec 4 _ rfl
          have f := hB.ef 4
          rw [hdi] at hB
          clear ho hd hdn hnd hcl hmm
          simp only [upd, reduceIte, Nat.reduceEqDiff, e0, e11] at hK
          try dsimp only
          go_simp
          refine hK undef _ ?_
          try dsimp only
          rw [dm14, hdi']
          exact hB.set 4 _ _ rfl
        · exact absurd (show false = true from hmm) (by simp)
        · obtain rfl := Option.some.inj ho
          have e10 : x 10 = .int .i64 ((sx.cpu % 64 + 1 + sx.tgt % 63) % 64) := hd 10 (by kernel_rfl) (by kernel_rfl)
          have e13 : x 13 = .pointer (some ⟨E, 6, none⟩) := hd 13 (by kernel_rfl) (by kernel_rfl)
          have dm12 : d' 12 = d 12 := hdm 12 (by omega)
          have q := hB.ec 6 _ rfl
          have f := hB.ef 6
          rw [hdi] at hB
          clear ho hd hdn hnd hcl hmm
          simp only [upd, reduceIte, Nat.reduceEqDiff, e10, e13] at hK
          try dsimp only
          go_simp
          refine hK undef _ ?_
          try dsimp only
          rw [dm12, hdi']
          exact hB.set 6 _ _ rfl
      case hend =>
        intro d x W hall hB hd
        have h12 := hall 12 (by omega)
        have h14 := hall 14 (by omega)
        rw [h12, h14] at hB
        have HMF := Lib.hid hB
        clear hd hall hB h12 h14
        try dsimp only
        generalize x 0 = z0
        generalize x 1 = z1
        generalize x 2 = z2
        generalize x 3 = z3
        generalize x 4 = z4
        generalize x 5 = z5
        generalize x 6 = z6
        generalize x 7 = z7
        generalize x 8 = z8
        generalize x 9 = z9
        generalize x 10 = z10
        generalize x 11 = z11
        generalize x 13 = z13
        go_wp2
        go_meet
        refine ⟨0, by omega, fun h => by have := HK.out; omega, ?_⟩
        have hh := HMF.out
        rw [show ev9 sx true true = made6 sx 0 from by unfold made6; dsimp only; rw [if_neg (by have := HK.out; omega), if_neg (by have := HK.out; omega), if_neg (by have := HK.out; omega), if_neg (by have := HK.out; omega), if_neg (by have := HK.out; omega), if_neg (by have := HK.out; omega), if_pos (by have := HK.out; omega)]; rfl] at hh
        exact hh
    · clear hkk
      have e10 := HM1.out.ec 10 _ rfl
      have f10 := HM1.out.ef 10
      go_wp2
      go_meet
      refine ⟨0, by omega, fun h => by have := HK.out; omega, ?_⟩
      refine M6.set HM1.out 10 _ (made6 x 0) ?_
      · unfold made6 S6.base S6.ta S6.we S6.go
        rw [if_neg (by have := HK.out; omega), if_neg (by have := HK.out; omega), if_neg (by have := HK.out; omega), if_neg (by have := HK.out; omega), if_neg (by have := HK.out; omega), if_neg (by have := HK.out; omega), if_neg (by have := HK.out; omega)]
        first
        | rfl
        | trace_state
  case rest =>
    obtain ⟨m, hm1, hm2, hm⟩ := hcut
    have HB := Lib.hid (And.intro hm1 hm2)
    obtain ⟨e, he⟩ : ∃ e, made6 x m = e := ⟨_, rfl⟩
    have HEQ := Lib.hid he
    rw [he] at hm
    clear he
    have hst := ev_store ev0 e hm.rb
    have HST := Lib.hid hst
    have HMM := Lib.hid hm
    have HB0 := Lib.hid (show w.heap.size ≤ B by have := hm.ord; omega)
    have c0 := hm.ec 0 _ rfl
    have r0 := hm.rc 0 _ rfl
    have f0 := hm.rf 0
    have c1 := hm.ec 1 _ rfl
    have r1 := hm.rc 1 _ rfl
    have f1 := hm.rf 1
    have c2 := hm.ec 2 _ rfl
    have r2 := hm.rc 2 _ rfl
    have f2 := hm.rf 2
    have c3 := hm.ec 3 _ rfl
    have r3 := hm.rc 3 _ rfl
    have f3 := hm.rf 3
    have c4 := hm.ec 4 _ rfl
    have r4 := hm.rc 4 _ rfl
    have f4 := hm.rf 4
    have c5 := hm.ec 5 _ rfl
    have r5 := hm.rc 5 _ rfl
    have f5 := hm.rf 5
    have c6 := hm.ec 6 _ rfl
    have r6 := hm.rc 6 _ rfl
    have f6 := hm.rf 6
    have c7 := hm.ec 7 _ rfl
    have r7 := hm.rc 7 _ rfl
    have f7 := hm.rf 7
    have c8 := hm.ec 8 _ rfl
    have r8 := hm.rc 8 _ rfl
    have f8 := hm.rf 8
    have c9 := hm.ec 9 _ rfl
    have r9 := hm.rc 9 _ rfl
    have f9 := hm.rf 9
    have c10 := hm.ec 10 _ rfl
    have r10 := hm.rc 10 _ rfl
    have f10 := hm.rf 10
    clear hst hm hm1 hm2
    go_wp2
    refine bodyPost_ret (v := evA e) (results_cell1 rfl _ _ _ rfl (load_ev (e := e) HST.out.1)) rfl ⟨⟨m, by rw [HEQ.out], HB.out.1, HB.out.2⟩, ?_⟩
    exact HMM.out.bel.trans (HST.out.2.below (B := w.heap.size) (fun k hk t => by have := HB0.out; omega) HMM.out.bel.size)
end Go.Proofs.YtalophngappkhaaGreatDoor

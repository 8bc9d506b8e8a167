/- The law's own check of the chapter's examples (awake): it returns true. -/
import Derived.Test.YtkkmmbmjpfecdaaGrf
namespace Go.Proofs.Ytkkmmbmjpfecdaa
open Go.RowKit Go.Shelf

theorem EV.newL {α : Type} {enc : α → List Value} {k : Nat} {e : TypeId} {w : World} {xs : List α} {c n : Nat} {cs : Array Value} (hk : ∀ x, (enc x).length = k) (hcs : cs.toList = xs.flatMap enc) (hn : xs.length = n) (hc : n ≤ c) :
    EV enc k (w.alloc (.cells cs e)) (.slice (some ⟨w.heap.size, 0, none⟩) n c) xs := by
  subst hn
  refine EV.mk (fun i y hy j u hu => ?_) hc
  have h1 := flat_get hk xs i y hy j u hu
  rw [← hcs] at h1
  have := cell_of_row (w.alloc (.cells cs e)) w.heap.size (i * k + j) cs e (0, 0) (heap_alloc_new w _)
  simp only [Nat.zero_add]
  rw [this]; simpa using h1

def exG : List (Int × Int) := [(0, 1), (0, 5), (0, 7), (1, 1), (2, 2), (3, 9)]
def exB : List (Int × Int) := [(0, 1), (0, 5), (0, 7), (1, 1), (2, 2), (6, 9)]
theorem ex_len : exG.length = 6 := rfl

set_option maxHeartbeats 400000 in
theorem example_ok (w : World) : Calls Try.prog 30 #[] w fun e w' => ∃ r, e = .returned r ∧ OV encG 2 38 w.heap.size w' r exG ∧ Below w.heap.size w w' := by
  go_enter Try.func30, Try.ntmps30
  go_wp2
  go_ret
  exact ⟨_, rfl, OV.lit (xs := exG) w _ 6 (Nat.le_refl _) (by unfold maxLen; omega) rfl rfl rfl, (Below.refl _ _).alloc (Nat.le_refl _) _⟩

section
variable (w : World) (v : Value) (hv : EV encG 2 w v exG)
include hv
theorem aw_path : Calls Try.prog 13 #[v, .int .i64 5] w fun e w' => ∃ r, e = .returned (.tuple #[r, .int .i64 0]) ∧ OV encI 1 3 w.heap.size w' r [5, 3, 1, 0] ∧ Below w.heap.size w w' :=
  path_ok w v exG 5 hv (by decide)
theorem aw_depth : Calls Try.prog 23 #[v, .int .i64 5] w fun e w' => e = .returned (.tuple #[.int .i64 3, .int .i64 0]) ∧ Below w.heap.size w w' :=
  depthF_ok w v exG 5 hv (by decide)
theorem aw_under : Calls Try.prog 25 #[v, .int .i64 1] w fun e w' => ∃ r, e = .returned (.tuple #[r, .int .i64 0]) ∧ OV encI 1 3 w.heap.size w' r [1, 3, 5] ∧ Below w.heap.size w w' :=
  under_ok w v exG 1 hv (by decide)
theorem aw_children : Calls Try.prog 24 #[v, .int .i64 0] w fun e w' => ∃ r, e = .returned (.tuple #[r, .int .i64 0]) ∧ OV encI 1 3 w.heap.size w' r [1, 2] ∧ Below w.heap.size w w' :=
  children_ok w v exG 0 hv (by decide)
theorem aw_order : Calls Try.prog 26 #[v] w fun e w' => ∃ r, e = .returned (.tuple #[r, .int .i64 0]) ∧ OV encI 1 3 w.heap.size w' r [0, 1, 3, 5, 2, 4] ∧ Below w.heap.size w w' :=
  order_ok w v exG hv (by decide)
theorem aw_meet1 (m : Nat) (hm : w.heap.size = m) : Calls Try.prog 12 #[v, .slice (some ⟨m, 0, none⟩) 2 2] (w.alloc (.cells #[.int .i64 5, .int .i64 3] 3)) fun e w' => e = .returned (.tuple #[.int .i64 3, .int .i64 0]) ∧ Below w.heap.size w w' := hm ▸
  (meet_ok _ v _ exG [5, 3] (hv.below ((Below.refl _ _).alloc (Nat.le_refl _) _)) (EV.newL encI_len rfl rfl (Nat.le_refl _)) (by decide) (by decide)).mono fun e w' h => ⟨h.1, ((Below.refl _ w).alloc (Nat.le_refl _) _).trans (h.2.mono (by simp))⟩
theorem aw_meet2 (m : Nat) (hm : w.heap.size = m) : Calls Try.prog 12 #[v, .slice (some ⟨m, 0, none⟩) 2 2] (w.alloc (.cells #[.int .i64 5, .int .i64 4] 3)) fun e w' => e = .returned (.tuple #[.int .i64 0, .int .i64 0]) ∧ Below w.heap.size w w' := hm ▸
  (meet_ok _ v _ exG [5, 4] (hv.below ((Below.refl _ _).alloc (Nat.le_refl _) _)) (EV.newL encI_len rfl rfl (Nat.le_refl _)) (by decide) (by decide)).mono fun e w' h => ⟨h.1, ((Below.refl _ w).alloc (Nat.le_refl _) _).trans (h.2.mono (by simp))⟩
theorem aw_meet3 (m : Nat) (hm : w.heap.size = m) : Calls Try.prog 12 #[v, .slice (some ⟨m, 0, none⟩) 1 1] (w.alloc (.cells #[.int .i64 5] 3)) fun e w' => e = .returned (.tuple #[.int .i64 5, .int .i64 0]) ∧ Below w.heap.size w w' := hm ▸
  (meet_ok _ v _ exG [5] (hv.below ((Below.refl _ _).alloc (Nat.le_refl _) _)) (EV.newL encI_len rfl rfl (Nat.le_refl _)) (by decide) (by decide)).mono fun e w' h => ⟨h.1, ((Below.refl _ w).alloc (Nat.le_refl _) _).trans (h.2.mono (by simp))⟩
end

/-- slices.Equal of a slice and a literal, as the walk meets it. -/
theorem eq_lit (w : World) (r : Value) (xs ys : List Int) (n m : Nat) (cs : Array Value) (h : EV encI 1 w r xs) (hm : w.heap.size = m) (hcs : cs.toList = ys.flatMap encI) (hn : ys.length = n) (hx : xs.length ≤ 1000) (hy : n ≤ 1000) (he : xs = ys) :
    Calls Try.prog 15 #[r, .slice (some ⟨m, 0, none⟩) n n] (w.alloc (.cells cs 3)) fun e w' => e = .returned (.bool true) ∧ Below w.heap.size w w' := by
  subst hm; subst he
  refine (equal_int _ r _ xs xs (h.below ((Below.refl _ _).alloc (Nat.le_refl _) _)) (EV.newL encI_len hcs hn (Nat.le_refl _)) (by omega) (by omega)).mono ?_
  rintro e w' ⟨rfl, q, rfl⟩
  exact ⟨by simp, below_drewN ((Below.refl _ w).alloc (Nat.le_refl _) _) _⟩

set_option maxRecDepth 100000 in
set_option maxHeartbeats 4000000 in
theorem awake_ok (w : World) : Calls Try.prog 10 #[] w fun e w' => e = .returned (.bool true) ∧ Below w.heap.size w w' := by
  go_enter Try.func10, Try.ntmps10
  go_wp2_with fail
  refine (example_ok w).mono ?_
  rintro e w1 ⟨v, rfl, o1, b1⟩
  have l1 := o1.ev encG_len
  have O1 := Lib.hid o1
  have s1 := b1.size
  clear o1
  go_wp2_with fail
  refine (aw_path w1 v l1).mono ?_
  rintro e w2 ⟨r1, rfl, p1, b2⟩
  have l2 := l1.below b2
  have B2 := b2
  have q1 := p1.ev encI_len
  clear p1 l1 b2
  go_wp2_with fail
  refine (aw_depth w2 v l2).mono ?_
  rintro e w3 ⟨rfl, b3⟩
  have l3 := l2.below b3
  have B3 := B2.trans (b3.mono B2.size)
  have q1 := q1.below b3
  clear l2 b3 B2
  go_wp2_with fail
  refine (aw_under w3 v l3).mono ?_
  rintro e w4 ⟨r2, rfl, p2, b4⟩
  have l4 := l3.below b4
  have B4 := B3.trans (b4.mono B3.size)
  have q1 := q1.below b4
  have q2 := p2.ev encI_len
  clear p2 l3 b4 B3
  go_wp2_with fail
  refine (aw_children w4 v l4).mono ?_
  rintro e w5 ⟨r3, rfl, p3, b5⟩
  have l5 := l4.below b5
  have B5 := B4.trans (b5.mono B4.size)
  have q1 := q1.below b5
  have q2 := q2.below b5
  have q3 := p3.ev encI_len
  clear p3 l4 b5 B4
  go_wp2_with fail
  refine (aw_order w5 v l5).mono ?_
  rintro e w6 ⟨r4, rfl, p4, b6⟩
  have l6 := l5.below b6
  have B6 := B5.trans (b6.mono B5.size)
  have q1 := q1.below b6
  have q2 := q2.below b6
  have q3 := q3.below b6
  have q4 := p4.ev encI_len
  clear p4 l5 b6 B5
  go_wp2_with fail
  refine (aw_meet1 w6 v l6 _ rfl).mono ?_
  rintro e w7 ⟨rfl, b7⟩
  have l7 := l6.below b7
  have B7 := B6.trans (b7.mono B6.size)
  have q1 := q1.below b7
  have q2 := q2.below b7
  have q3 := q3.below b7
  have q4 := q4.below b7
  clear l6 b7 B6
  go_wp2_with fail
  refine (aw_meet2 w7 v l7 _ rfl).mono ?_
  rintro e w8 ⟨rfl, b8⟩
  have l8 := l7.below b8
  have B8 := B7.trans (b8.mono B7.size)
  have q1 := q1.below b8
  have q2 := q2.below b8
  have q3 := q3.below b8
  have q4 := q4.below b8
  clear l7 b8 B7
  go_wp2_with fail
  refine (aw_meet3 w8 v l8 _ rfl).mono ?_
  rintro e w9 ⟨rfl, b9⟩
  have B9 := B8.trans (b9.mono B8.size)
  have q1 := q1.below b9
  have q2 := q2.below b9
  have q3 := q3.below b9
  have q4 := q4.below b9
  clear l8 b9 B8
  go_wp2_with fail
  refine (eq_lit w9 r1 _ [5, 3, 1, 0] 4 _ _ q1 rfl rfl rfl (by decide) (by decide) rfl).mono ?_
  rintro e w10 ⟨rfl, b10⟩
  have B10 := B9.trans (b10.mono B9.size)
  have q2 := q2.below b10
  have q3 := q3.below b10
  have q4 := q4.below b10
  clear q1 b10 B9
  go_wp2_with fail
  refine (eq_lit w10 r2 _ [1, 3, 5] 3 _ _ q2 rfl rfl rfl (by decide) (by decide) rfl).mono ?_
  rintro e w11 ⟨rfl, b11⟩
  have B11 := B10.trans (b11.mono B10.size)
  have q3 := q3.below b11
  have q4 := q4.below b11
  clear q2 b11 B10
  go_wp2_with fail
  refine (eq_lit w11 r3 _ [1, 2] 2 _ _ q3 rfl rfl rfl (by decide) (by decide) rfl).mono ?_
  rintro e w12 ⟨rfl, b12⟩
  have B12 := B11.trans (b12.mono B11.size)
  have q4 := q4.below b12
  clear q3 b12 B11
  go_wp2_with fail
  refine (eq_lit w12 r4 _ [0, 1, 3, 5, 2, 4] 6 _ _ q4 rfl rfl rfl (by decide) (by decide) rfl).mono ?_
  rintro e w13 ⟨rfl, b13⟩
  have B13 := B12.trans (b13.mono B12.size)
  have o13 := O1.out.below B13
  clear q4 b13 B12 O1
  obtain ⟨g, cap, hv, hg1, hg2⟩ := o13.form (by decide)
  rw [ex_len] at hv
  subst hv
  have c13 : w13.cell? ⟨g, 10, none⟩ = some (.int .i64 3) := (World.ownsRow.cellAt o13 10 (by decide)).trans rfl
  have f13 : w13.frozen? ⟨g, 10, none⟩ = false := World.ownsRow.frozenAt o13 10
  have st := World.ownsRow.stored o13 10 (.int .i64 6)
  have o14 : OV encG 2 38 w.heap.size (w13.setCell ⟨g, 10, none⟩ (.int .i64 6)) (.slice (some ⟨g, 0, none⟩) 6 cap) exB := st.1
  have C14 := Lib.hid (check_ok _ _ exB (o14.ev encG_len) (by decide))
  have b14 : Below w.heap.size w (w13.setCell ⟨g, 10, none⟩ (.int .i64 6)) := (b1.trans (B13.mono s1)).setCell hg1 _
  have B14 := Lib.hid b14
  clear st o14 o13 B13 b1 b14
  go_wp2_with fail
  refine C14.out.mono ?_
  rintro e w14 ⟨rfl, b15⟩
  have B15 := B14.out.trans (b15.mono B14.out.size)
  clear b15 B14 C14
  rw [show checkG exB = (5, 191) from by decide]
  go_wp2
  go_ret
  exact ⟨rfl, B15⟩
end Go.Proofs.Ytkkmmbmjpfecdaa

/- slices.Equal at the reference's events and runs. -/
import Derived.Test.YtalophngappkhaaGreatDoorNra
set_option linter.unusedVariables false
set_option linter.unusedSimpArgs false
set_option linter.unusedSectionVars false
namespace Go.Proofs.YtalophngappkhaaGreatDoor
open Go Go.RowKit Go.Shelf
attribute [local go_sem] Oper.semAt_some
set_option maxHeartbeats 1000000 in
theorem equal_rrun (w : World) (v1 v2 : Value) (xs ys : List (Int × Int)) (h1 : EV encP 2 w v1 xs) (h2 : EV encP 2 w v2 ys) (b1 : xs.length ≤ 1000000000) (b2 : ys.length ≤ 1000000000) :
    Calls Tryz.prog 77 #[v1, v2] w fun e w' => e = .returned (.bool (xs == ys)) ∧ ∃ n, w.drewN n = w' := by
  by_cases hl : xs.length = ys.length
  · rcases Nat.eq_zero_or_pos xs.length with h0 | h0
    · obtain rfl : xs = [] := List.eq_nil_of_length_eq_zero h0
      obtain rfl : ys = [] := List.eq_nil_of_length_eq_zero (by simpa using hl.symm)
      obtain ⟨A, c, rfl⟩ := h1.shape
      obtain ⟨A', c', rfl⟩ := h2.shape
      clear h1 h2 hl h0 b1 b2
      go_enter Tryz.func77, Tryz.ntmps77
      go_wp2
      refine wp_loop_rounds 1 ?_
      rw [rounds_succ]
      go_wp2
      go_ret
      exact ⟨rfl, 0, rfl⟩
    · obtain ⟨b, off, c, rfl, hc, r1⟩ := h1.row h0
      obtain ⟨b', off', c', rfl, hc', r2⟩ := h2.row (hl ▸ h0)
      rw [← hl]
      have R1 := Lib.hid r1; have R2 := Lib.hid r2; have HL := Lib.hid hl
      clear r1 r2 hl h1 h2
      go_enter Tryz.func77, Tryz.ntmps77
      go_wp2
      go_loopg [13] xs.length (fun k i wr => ∃ j : Nat, j + k = xs.length ∧ i = .int .i64 j ∧ (∃ n, w.drewN n = wr) ∧ xs.take j = ys.take j)
      case atStart => exact ⟨0, by omega, rfl, ⟨0, rfl⟩, rfl⟩
      case round =>
        obtain ⟨j, hj, rfl, ⟨n, rfl⟩, ht⟩ := hrel
        have HT := Lib.hid ht
        have HJ := Lib.hid hj
        clear ht hj
        by_cases hlt : j < xs.length
        · obtain ⟨⟨p, q⟩, hx⟩ : ∃ x, xs[j]? = some x := ⟨_, List.getElem?_eq_getElem hlt⟩
          obtain ⟨⟨p', q'⟩, hy⟩ : ∃ x, ys[j]? = some x := ⟨_, List.getElem?_eq_getElem (HL.out ▸ hlt)⟩
          obtain ⟨c1, c2⟩ := R1.out.prs hx
          obtain ⟨d1, d2⟩ := R2.out.prs hy
          dsimp only at c1 c2 d1 d2
          have HX := Lib.hid hx
          have HY := Lib.hid hy
          clear hx hy
          by_cases he : p = p'
          · subst he
            by_cases he : q = q'
            · subst he
              go_wp2
              go_quiet (fail)
              go_wp2
              go_roundg (gk - 1)
              case measure => have := HJ.out; omega
              case rel => exact ⟨j + 1, by have := HJ.out; omega, by go_num, (by first | exact ⟨_, rfl⟩ | exact dn2 _ _ _), take_eq_step' HT.out HX.out HY.out⟩
            · have hne : (q == q') = false := by simp [he]
              have HE := Lib.hid he
              clear he
              go_wp2
              go_quiet (fail)
              go_wp2
              go_ret
              exact ⟨ret_bool (beq_ne_of_get HX.out HY.out (fun e => HE.out (by injection e))).symm, (by first | exact ⟨_, rfl⟩ | exact dn2 _ _ _)⟩
          · have hne : (p == p') = false := by simp [he]
            have HE := Lib.hid he
            clear he
            go_wp2
            go_quiet (fail)
            go_wp2
            go_ret
            exact ⟨ret_bool (beq_ne_of_get HX.out HY.out (fun e => HE.out (by injection e))).symm, (by first | exact ⟨_, rfl⟩ | exact dn2 _ _ _)⟩
        · have hj : j = xs.length := by have := HJ.out; omega
          have e : (xs == ys) = true := by
            have := HT.out
            rw [List.take_of_length_le (by omega), List.take_of_length_le (by have := HL.out; omega)] at this
            simp [this]
          have E := Lib.hid e
          clear e hj
          go_wp2
          go_ret
          exact ⟨ret_bool E.out.symm, n, rfl⟩
  · obtain ⟨A, c, rfl⟩ := h1.shape
    obtain ⟨A', c', rfl⟩ := h2.shape
    have hne : ((xs.length : Int) != ys.length) = true := by simp; omega
    have e : (xs == ys) = false := by simp; rintro rfl; exact hl rfl
    have E := Lib.hid e
    clear h1 h2 e hl
    go_enter Tryz.func77, Tryz.ntmps77
    go_wp2
    go_ret
    exact ⟨ret_bool E.out.symm, 0, rfl⟩
theorem equal_rrun_same (w : World) (r1 r2 : Value) (xs : List (Int × Int)) (h1 : EV encP 2 w r1 xs) (h2 : EV encP 2 w r2 xs) (b : xs.length ≤ 1000000000) :
    Calls Tryz.prog 77 #[r1, r2] w fun e w' => e = .returned (.bool true) ∧ Below w.heap.size w w' := by
  refine (equal_rrun w r1 r2 xs xs h1 h2 b b).mono ?_
  rintro e w' ⟨rfl, q, rfl⟩
  exact ⟨by simp, below_drewN (Below.refl _ _) _⟩
set_option maxHeartbeats 1600000 in
theorem eq_rev (w : World) (v1 v2 : Value) (xs : List (Ev)) (h1 : EV encE 11 w v1 xs) (h2 : EV encE 11 w v2 xs) (b1 : xs.length ≤ 17592186044416) :
    Calls Tryz.prog 46 #[v1, v2] w fun e w' => e = .returned (.bool true) ∧ Below w.heap.size w w' := by
  rcases Nat.eq_zero_or_pos xs.length with h0 | h0
  · obtain rfl : xs = [] := List.eq_nil_of_length_eq_zero h0
    obtain ⟨A, c, rfl⟩ := h1.shape
    obtain ⟨A', c', rfl⟩ := h2.shape
    clear h1 h2 h0 b1
    go_enter Tryz.func46, Tryz.ntmps46
    go_wp2
    refine wp_loop_rounds 1 ?_
    rw [rounds_succ]
    go_wp2
    go_ret
    exact ⟨rfl, Below.refl _ _⟩
  · obtain ⟨b, off, c, rfl, hc, r1⟩ := h1.row h0
    obtain ⟨b', off', c', rfl, hc', r2⟩ := h2.row h0
    have R1 := Lib.hid r1; have R2 := Lib.hid r2
    obtain ⟨L, hL⟩ : ∃ L, xs.length = L := ⟨_, rfl⟩
    have HL := Lib.hid hL
    rw [hL] at b1 hc hc' ⊢
    clear r1 r2 h1 h2 h0 hL
    go_enter Tryz.func46, Tryz.ntmps46
    go_wp2
    go_loopg [13] L (fun k i wr => ∃ j : Nat, j + k = L ∧ i = .int .i64 j ∧ (∃ n, w.drewN n = wr))
    case atStart => exact ⟨0, by omega, rfl, ⟨0, rfl⟩⟩
    case round =>
      obtain ⟨j, hj, rfl, ⟨n, rfl⟩⟩ := hrel
      have HJ := Lib.hid hj
      clear hj
      by_cases hlt : j < L
      · obtain ⟨x, hx⟩ : ∃ x, xs[j]? = some x := ⟨_, List.getElem?_eq_getElem (by rw [HL.out]; exact hlt)⟩
        obtain ⟨c0, c1, c2, c3, c4, c5, c6, c7, c8, c9, c10⟩ := R1.out.ev hx; obtain ⟨d0, d1, d2, d3, d4, d5, d6, d7, d8, d9, d10⟩ := R2.out.ev hx
        clear hx
        go_wp2
        go_quiet (fail)
        go_wp2
        go_roundg (gk - 1)
        case measure => have := HJ.out; omega
        case rel => exact ⟨j + 1, by have := HJ.out; omega, by go_num, (by first | exact ⟨_, rfl⟩ | exact dn2 _ _ _)⟩
      · go_wp2
        go_ret
        exact ⟨rfl, below_drewN (Below.refl _ _) _⟩
end Go.Proofs.YtalophngappkhaaGreatDoor

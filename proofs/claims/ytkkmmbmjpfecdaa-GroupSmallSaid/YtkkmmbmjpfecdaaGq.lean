/- The contract of slices.Equal at groups. -/
import Derived.Test.YtkkmmbmjpfecdaaGrf
namespace Go.Proofs.Ytkkmmbmjpfecdaa
open Go.RowKit Go.Shelf

set_option maxHeartbeats 1000000 in
theorem equal_grp (w : World) (v1 v2 : Value) (xs ys : List (Int × Int)) (h1 : EV encG 2 w v1 xs) (h2 : EV encG 2 w v2 ys) (b1 : xs.length ≤ 1000000000) (b2 : ys.length ≤ 1000000000) :
    Calls Try.prog 21 #[v1, v2] w fun e w' => e = .returned (.bool (xs == ys)) ∧ ∃ n, w.drewN n = w' := by
  by_cases hl : xs.length = ys.length
  · rcases Nat.eq_zero_or_pos xs.length with h0 | h0
    · obtain rfl : xs = [] := List.eq_nil_of_length_eq_zero h0
      obtain rfl : ys = [] := List.eq_nil_of_length_eq_zero (by simpa using hl.symm)
      obtain ⟨A, c, rfl⟩ := h1.shape
      obtain ⟨A', c', rfl⟩ := h2.shape
      clear h1 h2 hl h0 b1 b2
      go_enter Try.func21, Try.ntmps21
      go_wp2
      refine wp_loop_rounds 1 ?_
      rw [rounds_succ]
      go_wp2
      go_ret
      exact ⟨rfl, 0, rfl⟩
    · obtain ⟨b, off, c, rfl, hc, r1⟩ := h1.row h0
      obtain ⟨b', off', c', rfl, hc', r2⟩ := h2.row (hl ▸ h0)
      rw [← hl]
      have R1 := Lib.hid r1; have R2 := Lib.hid r2; have HL := Lib.hid hl
      clear r1 r2 hl h1 h2
      go_enter Try.func21, Try.ntmps21
      go_wp2
      go_loopg [13] xs.length (fun k i wr => ∃ j : Nat, j + k = xs.length ∧ i = .int .i64 j ∧ (∃ n, w.drewN n = wr) ∧ xs.take j = ys.take j)
      case atStart => exact ⟨0, by omega, rfl, ⟨0, rfl⟩, rfl⟩
      case round =>
        obtain ⟨j, hj, rfl, ⟨n, rfl⟩, ht⟩ := hrel
        have HT := Lib.hid ht
        have HJ := Lib.hid hj
        clear ht hj
        by_cases hlt : j < xs.length
        · obtain ⟨⟨p, q⟩, hx⟩ : ∃ x, xs[j]? = some x := ⟨_, List.getElem?_eq_getElem hlt⟩
          obtain ⟨⟨p', q'⟩, hy⟩ : ∃ x, ys[j]? = some x := ⟨_, List.getElem?_eq_getElem (HL.out ▸ hlt)⟩
          obtain ⟨c1, c2⟩ := R1.out.grp hx
          obtain ⟨d1, d2⟩ := R2.out.grp hy
          dsimp only at c1 c2 d1 d2
          have HX := Lib.hid hx
          have HY := Lib.hid hy
          clear hx hy
          by_cases he : p = p'
          · subst he
            by_cases he : q = q'
            · subst he
              go_wp2
              go_quiet (fail)
              go_wp2
              go_roundg (gk - 1)
              case measure => have := HJ.out; omega
              case rel => exact ⟨j + 1, by have := HJ.out; omega, by go_num, (by first | exact ⟨_, rfl⟩ | exact dn2 _ _ _), take_eq_step' HT.out HX.out HY.out⟩
            · have hne : (q == q') = false := by simp [he]
              have HE := Lib.hid he
              clear he
              go_wp2
              go_quiet (fail)
              go_wp2
              go_ret
              exact ⟨ret_bool (beq_ne_of_get HX.out HY.out (fun e => HE.out (by injection e))).symm, (by first | exact ⟨_, rfl⟩ | exact dn2 _ _ _)⟩
          · have hne : (p == p') = false := by simp [he]
            have HE := Lib.hid he
            clear he
            go_wp2
            go_quiet (fail)
            go_wp2
            go_ret
            exact ⟨ret_bool (beq_ne_of_get HX.out HY.out (fun e => HE.out (by injection e))).symm, (by first | exact ⟨_, rfl⟩ | exact dn2 _ _ _)⟩
        · have hj : j = xs.length := by have := HJ.out; omega
          have e : (xs == ys) = true := by
            have := HT.out
            rw [List.take_of_length_le (by omega), List.take_of_length_le (by have := HL.out; omega)] at this
            simp [this]
          have E := Lib.hid e
          clear e hj
          go_wp2
          go_ret
          exact ⟨ret_bool E.out.symm, n, rfl⟩
  · obtain ⟨A, c, rfl⟩ := h1.shape
    obtain ⟨A', c', rfl⟩ := h2.shape
    have hne : ((xs.length : Int) != ys.length) = true := by simp; omega
    have e : (xs == ys) = false := by simp; rintro rfl; exact hl rfl
    have E := Lib.hid e
    clear h1 h2 e hl
    go_enter Try.func21, Try.ntmps21
    go_wp2
    go_ret
    exact ⟨ret_bool E.out.symm, 0, rfl⟩
end Go.Proofs.Ytkkmmbmjpfecdaa

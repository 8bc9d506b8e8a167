/- The reference: Has, Count. -/
import Derived.Test.YtofjgcbjpmgkdaaSr
set_option linter.unusedVariables false
set_option linter.unusedSimpArgs false
set_option linter.unusedSectionVars false
namespace Go.Proofs.Ytofjgcbjpmgkdaa
open Go.RowKit Go.Shelf

theorem rerr_right {l : List (Int × Int)} (h : rightB l = true) : rerr [l] = 0 := by rw [rerr_one, h]; rfl
theorem rerr_wrong {l : List (Int × Int)} (h : rightB l = false) : rerr [l] = 90 := by rw [rerr_one, h]; rfl

set_option maxHeartbeats 1000000 in
theorem rHas_ok (w : World) (v : Value) (l : List (Int × Int)) (n : Int) (hv : EV encP 2 w v l) (hlen : l.length ≤ 100000000) :
    Calls Try.prog 54 #[v, .int .i64 n] w fun e w' => e = .returned (.tuple #[.bool (hasV l n), .int .i64 (rerr [l])]) ∧ Below w.heap.size w w' := by
  obtain ⟨A, c, rfl⟩ := hv.shape
  have RT := Lib.hid (rright_ok w _ l hv (by omega))
  cases hr : rightB l with
  | false =>
    have hh : hasV l n = false := by unfold hasV; rw [rerr_wrong hr]; rfl
    rw [rerr_wrong hr, hh]
    rw [hr] at RT
    clear hv hr hh
    go_enter Try.func54, Try.ntmps54
    go_wp2_with fail
    refine RT.out.mono ?_
    rintro e w2 ⟨rfl, b2⟩
    go_wp2
    go_ret2
    exact ⟨rfl, b2⟩
  | true =>
    have hc := (right_iff.1 hr).2
    have hh : hasV l n = hasR l n := by unfold hasV; rw [rerr_right hr]; rfl
    have RH := Lib.hid (fun (w2 : World) (h : Below w.heap.size w w2) => (rhas_ok w2 _ l n (hv.below h) (by omega) hc).mono (fun e w' h' => (show e = .returned (.bool (hasR l n)) ∧ Below w2.heap.size w2 w' from ⟨h'.1, by obtain ⟨k, rfl⟩ := h'.2; exact below_drewN (Below.refl _ _) _⟩)))
    rw [rerr_right hr, hh]
    rw [hr] at RT
    clear hv hr hh hc
    go_enter Try.func54, Try.ntmps54
    go_wp2_with fail
    refine RT.out.mono ?_
    rintro e w2 ⟨rfl, b2⟩
    have R2 := Lib.hid (RH.out w2 b2)
    have hsz := b2.size
    have B2 := Lib.hid b2
    clear RH RT b2
    go_wp2_with fail
    refine R2.out.mono ?_
    rintro e w3 ⟨rfl, b3⟩
    have b3 := B2.out.trans (b3.mono hsz)
    go_wp2
    go_ret2
    exact ⟨rfl, b3⟩

set_option maxHeartbeats 1000000 in
theorem rcount_ok (w : World) (v : Value) (l : List (Int × Int)) (hv : EV encP 2 w v l) (hlen : l.length ≤ 100000000) :
    Calls Try.prog 53 #[v] w fun e w' => e = .returned (.tuple #[.int .i64 (cntV l), .int .i64 (rerr [l])]) ∧ Below w.heap.size w w' := by
  obtain ⟨A, c, rfl⟩ := hv.shape
  have RT := Lib.hid (rright_ok w _ l hv (by omega))
  cases hr : rightB l with
  | false =>
    have hh : cntV l = 0 := by unfold cntV; rw [rerr_wrong hr]; rfl
    rw [rerr_wrong hr, hh]
    rw [hr] at RT
    clear hv hr hh
    go_enter Try.func53, Try.ntmps53
    go_wp2_with fail
    refine RT.out.mono ?_
    rintro e w2 ⟨rfl, b2⟩
    go_wp2
    go_ret2
    exact ⟨rfl, b2⟩
  | true =>
    have hh : cntV l = cntR l := by unfold cntV; rw [rerr_right hr]; rfl
    have RC := Lib.hid (right_iff.1 hr).2
    have HV := Lib.hid hv
    rw [rerr_right hr, hh]
    rw [hr] at RT
    obtain ⟨cV, hcV⟩ : ∃ x, cntR l = x := ⟨_, rfl⟩
    rw [hcV]
    have HC := Lib.hid hcV
    clear hv hr hh hcV
    go_enter Try.func53, Try.ntmps53
    go_wp2_with fail
    refine RT.out.mono ?_
    rintro e w2 ⟨rfl, b2⟩
    have B2 := Lib.hid b2
    clear RT b2
    go_wp2_with fail
    go_loopg [4, 5] l.length (fun k n i wr => ∃ (j : Nat), j + k = l.length ∧ i = .int .i64 j ∧ n = .int .i64 (cntR (l.take j)) ∧ Below w.heap.size w wr)
    case atStart => exact ⟨0, by omega, rfl, by simp [cntR], B2.out⟩
    case round =>
      obtain ⟨j, hj, rfl, rfl, hb⟩ := hrel
      have HJ := Lib.hid hj
      have HB := Lib.hid hb
      have hsz := hb.size
      clear hj hb
      by_cases hlt : j < l.length
      · obtain ⟨bb, ob, cb, hvb, -, rb⟩ := HV.out.row (by omega)
        simp only [Value.slice.injEq] at hvb
        obtain ⟨rfl, -, rfl⟩ := hvb
        obtain ⟨⟨p, q⟩, hr⟩ : ∃ r, l[j]? = some r := ⟨_, List.getElem?_eq_getElem hlt⟩
        obtain ⟨x0, x1⟩ := (rb.below HB.out).prs hr
        dsimp only at x0 x1
        have HR := Lib.hid (cnt_take hr)
        obtain ⟨z, hz⟩ : ∃ z, cntR (l.take j) = z := ⟨_, rfl⟩
        rw [hz] at HR ⊢
        have HW := Lib.hid (show wrap64 (z + q) = cntR (l.take (j + 1)) from by
          have h2 := cnt_take_le RC.out (j + 1)
          rw [HR.out] at h2 ⊢
          dsimp only at h2 ⊢
          exact IntWalk.wrap64_in _ (by omega))
        clear hr rb hz
        go_wp2
        go_roundg (gk - 1)
        case measure => have := HJ.out; omega
        case rel => exact ⟨j + 1, by have := HJ.out; omega, by go_num, congrArg (Value.int .i64) HW.out, HB.out⟩
      · have E := Lib.hid (show cntR (l.take j) = cV from by rw [List.take_of_length_le (by omega)]; exact HC.out)
        obtain ⟨z, hz⟩ : ∃ z, cntR (l.take j) = z := ⟨_, rfl⟩
        rw [hz] at E ⊢
        clear hz
        go_wp2
        go_ret2
        exact ⟨ret_two E.out rfl, HB.out⟩
end Go.Proofs.Ytofjgcbjpmgkdaa

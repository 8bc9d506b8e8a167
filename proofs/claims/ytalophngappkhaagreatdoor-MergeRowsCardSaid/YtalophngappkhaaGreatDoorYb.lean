/- The reference of layer 6: a field within its limits. -/
import Derived.Test.YtalophngappkhaaGreatDoorYa
set_option linter.unusedVariables false
set_option linter.unusedSimpArgs false
set_option linter.unusedSectionVars false
namespace Go.Proofs.YtalophngappkhaaGreatDoor
open Go.RowKit Go.Shelf
attribute [local go_sem] Oper.semAt_some

theorem evp_newT (w : World) (e : Ev) (t : TypeId) : EvP (w.alloc (.cells #[.int .i64 e.seq, .int .i64 e.time, .int .u8 e.cpu, .int .u8 e.kind, .int .i64 e.task, .int .i64 e.grp, .int .i64 e.to, .int .i64 e.wt, .int .i64 e.ticks, .int .u64 e.mask, .int .i64 e.got] t)) w.heap.size e := by
  intro j u hu
  rw [World.cell?_alloc_at (hn := by simp)]
  simpa [encE] using hu
set_option maxHeartbeats 3200000 in
theorem r6within_ok (w : World) (i : Nat) (e : Ev) (ho : EvOk e) (hc : e.cpu < 64) (hi : i < 7) :
    Calls Tryz.prog 129 #[evA e, .int .i64 i] w fun r w' => r = .returned (.bool (withinE e i)) ∧ Below w.heap.size w w' := by
  have HE := Lib.hid (within_eq ho hi)
  have HF := Lib.hid (fun W => r6field_ok W i e ho hi)
  have HO := Lib.hid ho
  have HC := Lib.hid hc
  have hvb : 0 ≤ valV e i ∧ valV e i ≤ 18446744073709551615 := by unfold valV; omega
  have hkd := ho.kind
  have hcd := ho.cpu
  have HA := Lib.hid (fun o => ((Below.refl w.heap.size w).alloc (Nat.le_refl _) o))
  have HP := Lib.hid (evp_newT w e 96)
  clear ho hc
  unfold evA at HF ⊢
  go_enter Tryz.func129, Tryz.ntmps129
  go_wp2_with fail
  refine (HF.out _).mono ?_
  rintro r w1 ⟨rfl, hb⟩
  have HB := Lib.hid ((HA.out _).trans (hb.mono (HA.out _).size))
  have h1 := HP.out.below hb HP.out.lt
  have c2 := h1.c2
  have c3 := h1.c3
  clear HF HA hb h1 HP
  cases hok : okV e i with
  | false =>
    go_wp2
    go_ret
    exact ⟨by rw [HE.out, hok]; rfl, HB.out⟩
  | true =>
  rw [hok, Bool.true_and] at HE
  have HOK := Lib.hid hok
  clear hok
  have hd : i = 0 ∨ i = 1 ∨ i = 2 ∨ i = 3 ∨ i = 4 ∨ i = 5 ∨ i = 6 := by omega
  clear hi
  rcases hd with rfl | rfl | rfl | rfl | rfl | rfl | rfl
  · go_wp2
    all_goals
      go_ret
      refine ⟨ret_bool ?_, HB.out⟩
      rw [HE.out, Bool.eq_iff_iff]
      simp [loF, hiF, spF]
      omega
  · by_cases h8 : e.kind = 8
    · rw [h8] at c3
      go_wp2
      all_goals
        go_ret
        refine ⟨ret_bool ?_, HB.out⟩
        rw [HE.out, Bool.eq_iff_iff]
        simp [loF, hiF, spF, h8]
        omega
    · have h8' : (e.kind == 8) = false := by simp [h8]
      have h8'' : decide (e.kind = 8) = false := by simp [h8]
      go_wp2
      all_goals
        go_ret
        refine ⟨ret_bool ?_, HB.out⟩
        rw [HE.out, Bool.eq_iff_iff]
        simp [loF, hiF, spF, h8]
        omega
  · have hto : valV e 2 = e.to := by
      have h1 := HOK.out
      have h2 := HO.out.to
      simp only [okV, fieldV, decide_eq_true_eq] at h1
      simp only [valV, fieldV]
      simp at h1
      omega
    rw [hto] at hvb HE ⊢
    have hw : e.cpu % 18446744073709551616 = e.cpu := by omega
    have hw2 : IntKind.u64.wrap e.cpu = e.cpu := hw
    go_wp2
    all_goals
      go_ret
      refine ⟨ret_bool ?_, HB.out⟩
      rw [HE.out, Bool.eq_iff_iff]
      simp [loF, hiF, spF]
      omega
  · go_wp2
    all_goals
      go_ret
      refine ⟨ret_bool ?_, HB.out⟩
      rw [HE.out, Bool.eq_iff_iff]
      simp [loF, hiF, spF]
      omega
  · go_wp2
    all_goals
      go_ret
      refine ⟨ret_bool ?_, HB.out⟩
      rw [HE.out, Bool.eq_iff_iff]
      simp [loF, hiF, spF]
      omega
  · obtain ⟨m, hm⟩ : ∃ m : Nat, valV e 5 = m := ⟨(valV e 5).toNat, by omega⟩
    obtain ⟨K, hK⟩ : ∃ K : Nat, e.cpu = K := ⟨e.cpu.toNat, by omega⟩
    have hmm : e.mask.toNat = m := by
      have := HO.out.mask
      simp only [valV, fieldV] at hm
      omega
    have HRS := Lib.hid (show withinE e 5 = decide (m / 2 ^ K % 2 = 1) from by rw [← hmm, show K = e.cpu.toNat by omega]; rfl)
    have hK64 : K < 64 := by have := HC.out; omega
    have hm64 : m ≤ 18446744073709551615 := by omega
    rw [hK] at c2
    have C2 := Lib.hid c2
    rw [hm]
    clear hmm hm hvb HE HOK HC c2 c3
    go_upto_region 16 with fail
    go_wp2
    go_loopg [5, 7] K (fun k n i wr => ∃ j : Nat, j + k = K ∧ i = .int .u8 j ∧ n = .int .u64 ((m / 2 ^ j : Nat) : Int) ∧ wr = w1)
    case atStart => exact ⟨0, by omega, rfl, by simp, rfl⟩
    case round =>
      obtain ⟨j, hj, rfl, rfl, rfl⟩ := hrel
      have c2 := C2.out
      have hd : m / 2 ^ j ≤ m := Nat.div_le_self _ _
      by_cases hlt : j < K
      · have hs : m / 2 ^ (j + 1) = m / 2 ^ j / 2 := by rw [Nat.pow_succ, Nat.div_div_eq_div_mul]
        have HS := Lib.hid hs
        generalize m / 2 ^ j = q at hd HS ⊢
        clear hs
        go_wp2
        go_roundg (gk - 1)
        case measure => omega
        case rel => exact ⟨j + 1, by omega, by go_num, by rw [HS.out]; go_num, rfl⟩
      · obtain rfl : K = j := by omega
        generalize m / 2 ^ K = q at hd HRS ⊢
        go_wp2
        go_ret
        refine ⟨ret_bool ?_, HB.out⟩
        rw [HRS.out, Bool.eq_iff_iff]
        simp
        omega
  · by_cases h5 : e.kind = 5
    · rw [h5] at c3
      go_wp2
      all_goals
        go_ret
        refine ⟨ret_bool ?_, HB.out⟩
        rw [HE.out, Bool.eq_iff_iff]
        simp [loF, hiF, spF, h5]
        omega
    · by_cases h6 : e.kind = 6
      · rw [h6] at c3
        go_wp2
        all_goals
          go_ret
          refine ⟨ret_bool ?_, HB.out⟩
          rw [HE.out, Bool.eq_iff_iff]
          simp [loF, hiF, spF, h6]
          omega
      · have h5' : (e.kind == 5) = false := by simp [h5]
        have h6' : (e.kind == 6) = false := by simp [h6]
        go_wp2
        all_goals
          go_ret
          refine ⟨ret_bool ?_, HB.out⟩
          rw [HE.out, Bool.eq_iff_iff]
          simp [loF, hiF, spF, h5, h6]
          omega
end Go.Proofs.YtalophngappkhaaGreatDoor

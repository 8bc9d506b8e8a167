/- The reference of layer 6: a field, its limits, which kinds have it; what is wrong with an event | The reference of layer 6: a field within its limits | The reference of layer 6: what is wrong with an event. -/
import Derived.Test.YtalophngappkhaaGreatDoorV2
import Derived.Test.YtalophngappkhaaGreatDoorV3
set_option linter.unusedVariables false
set_option linter.unusedSimpArgs false
set_option linter.unusedSectionVars false
namespace Go.Proofs.YtalophngappkhaaGreatDoor
open Go.RowKit Go.Shelf
attribute [local go_sem] Oper.semAt_some

set_option maxHeartbeats 800000 in
theorem r6field_ok (w : World) (i : Nat) (e : Ev) (ho : EvOk e) (hi : i < 7) :
  Calls Tryz.prog 130 #[evA e, .int .i64 i] w fun r w' => r = .returned (.tuple #[.int .u64 (valV e i), .bool (okV e i)]) ∧ Below w.heap.size w w' := by
 have hd : i = 0 ∨ i = 1 ∨ i = 2 ∨ i = 3 ∨ i = 4 ∨ i = 5 ∨ i = 6 := by omega
 have HO := Lib.hid ho
 have HA := Lib.hid (fun o => ((Below.refl w.heap.size w).alloc (Nat.le_refl _) o))
 have HB := Lib.hid (fun o o2 => ((Below.refl w.heap.size w).alloc (Nat.le_refl _) o).alloc (by simp) o2)
 clear ho hi
 unfold evA
 rcases hd with rfl | rfl | rfl | rfl | rfl | rfl | rfl
 case inr.inr.inr.inr.inr.inl =>
  go_enter Tryz.func130, Tryz.ntmps130
  go_wp2
  go_ret2
  have ho := HO.out
  obtain ⟨⟨a1, a2⟩, ⟨a3, a4⟩, ⟨a5, a6⟩, ⟨a7, a8⟩, ⟨a9, a10⟩, ⟨a11, a12⟩, ⟨a13, a14⟩, ⟨a15, a16⟩, ⟨a17, a18⟩, ⟨a19, a20⟩, ⟨a21, a22⟩⟩ := ho
  refine ⟨?_, HA.out _⟩
  simp [valV, okV, fieldV]
  omega
 all_goals
  go_enter Tryz.func130, Tryz.ntmps130
  go_wp2
  go_quiet (fail)
  go_wp2
  go_ret2
  have ho := HO.out
  obtain ⟨⟨a1, a2⟩, ⟨a3, a4⟩, ⟨a5, a6⟩, ⟨a7, a8⟩, ⟨a9, a10⟩, ⟨a11, a12⟩, ⟨a13, a14⟩, ⟨a15, a16⟩, ⟨a17, a18⟩, ⟨a19, a20⟩, ⟨a21, a22⟩⟩ := ho
  refine ⟨?_, ?_⟩
  ·simp [valV, okV, fieldV, wrapU]
  ·exact below_drewN (HB.out _ _) _

def hasF (k : Int) (i : Nat) : Bool := (usesK k.toNat).contains i
set_option maxHeartbeats 1600000 in
theorem r6has_ok (w : World) (k : Int) (i : Nat) (hk : 0 ≤ k ∧ k ≤ 10) (hi : i < 7) :
  Calls Tryz.prog 128 #[.int .u8 k, .int .i64 i] w fun r w' => r = .returned (.bool (hasF k i)) ∧ w' = w := by
 have hd : i = 0 ∨ i = 1 ∨ i = 2 ∨ i = 3 ∨ i = 4 ∨ i = 5 ∨ i = 6 := by omega
 have hkd : k = 0 ∨ k = 1 ∨ k = 2 ∨ k = 3 ∨ k = 4 ∨ k = 5 ∨ k = 6 ∨ k = 7 ∨ k = 8 ∨ k = 9 ∨ k = 10 := by omega
 clear hi hk
 rcases hkd with rfl | rfl | rfl | rfl | rfl | rfl | rfl | rfl | rfl | rfl | rfl <;> rcases hd with rfl | rfl | rfl | rfl | rfl | rfl | rfl
 all_goals
  go_enter Tryz.func128, Tryz.ntmps128
  go_wp2
  go_ret
  exact ⟨by rfl, rfl⟩
set_option maxHeartbeats 1600000 in
theorem r6name_ok (w : World) (k : Int) (hk : 0 ≤ k ∧ k ≤ 255) :
  Calls Tryz.prog 127 #[.int .u8 k] w fun r w' => (∃ s, r = .returned (.string s) ∧ s.toList.isEmpty = decide (k = 0 ∨ 10 < k)) ∧ Below w.heap.size w w' := by
 by_cases h : 10 < k
 ·go_enter Tryz.func127, Tryz.ntmps127
  go_wp2
  go_ret
  exact ⟨⟨_, rfl, by rw [show decide (k = 0 ∨ 10 < k) = true from by simp [h]]; kernel_rfl⟩, Below.refl _ _⟩
 ·have hkd : k = 0 ∨ k = 1 ∨ k = 2 ∨ k = 3 ∨ k = 4 ∨ k = 5 ∨ k = 6 ∨ k = 7 ∨ k = 8 ∨ k = 9 ∨ k = 10 := by omega
  have HA := Lib.hid (fun o => ((Below.refl w.heap.size w).alloc (Nat.le_refl _) o))
  clear hk h
  rcases hkd with rfl | rfl | rfl | rfl | rfl | rfl | rfl | rfl | rfl | rfl | rfl
  all_goals
   go_enter Tryz.func127, Tryz.ntmps127
   go_wp2
   go_ret
   exact ⟨⟨_, rfl, by kernel_rfl⟩, HA.out _⟩
end Go.Proofs.YtalophngappkhaaGreatDoor
namespace Go.Proofs.YtalophngappkhaaGreatDoor
open Go.RowKit Go.Shelf
attribute [local go_sem] Oper.semAt_some

theorem evp_newT (w : World) (e : Ev) (t : TypeId) : EvP (w.alloc (.cells #[.int .i64 e.seq, .int .i64 e.time, .int .u8 e.cpu, .int .u8 e.kind, .int .i64 e.task, .int .i64 e.grp, .int .i64 e.to, .int .i64 e.wt, .int .i64 e.ticks, .int .u64 e.mask, .int .i64 e.got] t)) w.heap.size e := by
 intro j u hu
 rw [World.cell?_alloc_at (hn := by simp)]
 simpa [encE] using hu
set_option maxHeartbeats 3200000 in
theorem r6within_ok (w : World) (i : Nat) (e : Ev) (ho : EvOk e) (hc : e.cpu < 64) (hi : i < 7) :
  Calls Tryz.prog 129 #[evA e, .int .i64 i] w fun r w' => r = .returned (.bool (withinE e i)) ∧ Below w.heap.size w w' := by
 have HE := Lib.hid (within_eq ho hi)
 have HF := Lib.hid (fun W => r6field_ok W i e ho hi)
 have HO := Lib.hid ho
 have HC := Lib.hid hc
 have hvb : 0 ≤ valV e i ∧ valV e i ≤ 18446744073709551615 := by unfold valV; omega
 have hkd := ho.kind
 have hcd := ho.cpu
 have HA := Lib.hid (fun o => ((Below.refl w.heap.size w).alloc (Nat.le_refl _) o))
 have HP := Lib.hid (evp_newT w e 96)
 clear ho hc
 unfold evA at HF ⊢
 go_enter Tryz.func129, Tryz.ntmps129
 go_wp2_with fail
 refine (HF.out _).mono ?_
 rintro r w1 ⟨rfl, hb⟩
 have HB := Lib.hid ((HA.out _).trans (hb.mono (HA.out _).size))
 have h1 := HP.out.below hb HP.out.lt
 have c2 := h1.c2
 have c3 := h1.c3
 clear HF HA hb h1 HP
 cases hok : okV e i with
 | false =>
  go_wp2
  go_ret
  exact ⟨by rw [HE.out, hok]; rfl, HB.out⟩
 | true =>
 rw [hok, Bool.true_and] at HE
 have HOK := Lib.hid hok
 clear hok
 have hd : i = 0 ∨ i = 1 ∨ i = 2 ∨ i = 3 ∨ i = 4 ∨ i = 5 ∨ i = 6 := by omega
 clear hi
 rcases hd with rfl | rfl | rfl | rfl | rfl | rfl | rfl
 ·go_wp2
  all_goals
   go_ret
   refine ⟨ret_bool ?_, HB.out⟩
   rw [HE.out, Bool.eq_iff_iff]
   simp [loF, hiF, spF]
   omega
 ·by_cases h8 : e.kind = 8
  ·rw [h8] at c3
   go_wp2
   all_goals
    go_ret
    refine ⟨ret_bool ?_, HB.out⟩
    rw [HE.out, Bool.eq_iff_iff]
    simp [loF, hiF, spF, h8]
    omega
  ·have h8' : (e.kind == 8) = false := by simp [h8]
   have h8'' : decide (e.kind = 8) = false := by simp [h8]
   go_wp2
   all_goals
    go_ret
    refine ⟨ret_bool ?_, HB.out⟩
    rw [HE.out, Bool.eq_iff_iff]
    simp [loF, hiF, spF, h8]
    omega
 ·have hto : valV e 2 = e.to := by
   have h1 := HOK.out
   have h2 := HO.out.to
   simp only [okV, fieldV, decide_eq_true_eq] at h1
   simp only [valV, fieldV]
   simp at h1
   omega
  rw [hto] at hvb HE ⊢
  have hw : e.cpu % 18446744073709551616 = e.cpu := by omega
  have hw2 : IntKind.u64.wrap e.cpu = e.cpu := hw
  go_wp2
  all_goals
   go_ret
   refine ⟨ret_bool ?_, HB.out⟩
   rw [HE.out, Bool.eq_iff_iff]
   simp [loF, hiF, spF]
   omega
 ·go_wp2
  all_goals
   go_ret
   refine ⟨ret_bool ?_, HB.out⟩
   rw [HE.out, Bool.eq_iff_iff]
   simp [loF, hiF, spF]
   omega
 ·go_wp2
  all_goals
   go_ret
   refine ⟨ret_bool ?_, HB.out⟩
   rw [HE.out, Bool.eq_iff_iff]
   simp [loF, hiF, spF]
   omega
 ·obtain ⟨m, hm⟩ : ∃ m : Nat, valV e 5 = m := ⟨(valV e 5).toNat, by omega⟩
  obtain ⟨K, hK⟩ : ∃ K : Nat, e.cpu = K := ⟨e.cpu.toNat, by omega⟩
  have hmm : e.mask.toNat = m := by
   have := HO.out.mask
   simp only [valV, fieldV] at hm
   omega
  have HRS := Lib.hid (show withinE e 5 = decide (m / 2 ^ K % 2 = 1) from by rw [← hmm, show K = e.cpu.toNat by omega]; rfl)
  have hK64 : K < 64 := by have := HC.out; omega
  have hm64 : m ≤ 18446744073709551615 := by omega
  rw [hK] at c2
  have C2 := Lib.hid c2
  rw [hm]
  clear hmm hm hvb HE HOK HC c2 c3
  go_upto_region 16 with fail
  go_wp2
  go_loopg [5, 7] K (fun k n i wr => ∃ j : Nat, j + k = K ∧ i = .int .u8 j ∧ n = .int .u64 ((m / 2 ^ j : Nat) : Int) ∧ wr = w1)
  case atStart => exact ⟨0, by omega, rfl, by simp, rfl⟩
  case round =>
   obtain ⟨j, hj, rfl, rfl, rfl⟩ := hrel
   have c2 := C2.out
   have hd : m / 2 ^ j ≤ m := Nat.div_le_self _ _
   by_cases hlt : j < K
   ·have hs : m / 2 ^ (j + 1) = m / 2 ^ j / 2 := by rw [Nat.pow_succ, Nat.div_div_eq_div_mul]
    have HS := Lib.hid hs
    generalize m / 2 ^ j = q at hd HS ⊢
    clear hs
    go_wp2
    go_roundg (gk - 1)
    case measure => omega
    case rel => exact ⟨j + 1, by omega, by go_num, by rw [HS.out]; go_num, rfl⟩
   ·obtain rfl : K = j := by omega
    generalize m / 2 ^ K = q at hd HRS ⊢
    go_wp2
    go_ret
    refine ⟨ret_bool ?_, HB.out⟩
    rw [HRS.out, Bool.eq_iff_iff]
    simp
    omega
 ·by_cases h5 : e.kind = 5
  ·rw [h5] at c3
   go_wp2
   all_goals
    go_ret
    refine ⟨ret_bool ?_, HB.out⟩
    rw [HE.out, Bool.eq_iff_iff]
    simp [loF, hiF, spF, h5]
    omega
  ·by_cases h6 : e.kind = 6
   ·rw [h6] at c3
    go_wp2
    all_goals
     go_ret
     refine ⟨ret_bool ?_, HB.out⟩
     rw [HE.out, Bool.eq_iff_iff]
     simp [loF, hiF, spF, h6]
     omega
   ·have h5' : (e.kind == 5) = false := by simp [h5]
    have h6' : (e.kind == 6) = false := by simp [h6]
    go_wp2
    all_goals
     go_ret
     refine ⟨ret_bool ?_, HB.out⟩
     rw [HE.out, Bool.eq_iff_iff]
     simp [loF, hiF, spF, h5, h6]
     omega
end Go.Proofs.YtalophngappkhaaGreatDoor
namespace Go.Proofs.YtalophngappkhaaGreatDoor
open Go.RowKit Go.Shelf
attribute [local go_sem] Oper.semAt_some

set_option maxHeartbeats 3200000 in
theorem r6check_ok (w : World) (e : Ev) (ho : EvOk e) :
  Calls Tryz.prog 102 #[evA e] w fun r w' => r = .returned (.int .i64 (chkEv e)) ∧ Below w.heap.size w w' := by
 have HN := Lib.hid (fun W => r6name_ok W e.kind ho.kind)
 have HF := Lib.hid (fun W (i : Nat) (hi : i < 7) => r6field_ok W i e ho hi)
 have HWI := Lib.hid (fun W (i : Nat) (hi : i < 7) (hc : e.cpu < 64) => r6within_ok W i e ho hc hi)
 have HH := Lib.hid (fun W (i : Nat) (hi : i < 7) (hk : 0 ≤ e.kind ∧ e.kind ≤ 10) => r6has_ok W e.kind i hk hi)
 have HO := Lib.hid ho
 have hkd := ho.kind
 have hcd := ho.cpu
 have HA := Lib.hid (fun o => ((Below.refl w.heap.size w).alloc (Nat.le_refl _) o))
 have HP := Lib.hid (evp_newT w e 96)
 clear ho
 unfold evA at HF HWI ⊢
 go_enter Tryz.func102, Tryz.ntmps102
 go_upto_region 1 with fail
 obtain ⟨B, hB⟩ : ∃ B, w.heap.size = B := ⟨_, rfl⟩
 have h1 := HP.out
 have hbb := HA.out (.cells #[.int .i64 e.seq, .int .i64 e.time, .int .u8 e.cpu, .int .u8 e.kind, .int .i64 e.task, .int .i64 e.grp, .int .i64 e.to, .int .i64 e.wt, .int .i64 e.ticks, .int .u64 e.mask, .int .i64 e.got] 96)
 have HBL := Lib.hid (show w.heap.size ≤ B from by omega)
 generalize w.alloc (.cells #[.int .i64 e.seq, .int .i64 e.time, .int .u8 e.cpu, .int .u8 e.kind, .int .i64 e.task, .int .i64 e.grp, .int .i64 e.to, .int .i64 e.wt, .int .i64 e.ticks, .int .u64 e.mask, .int .i64 e.got] 96) = w1 at h1 hbb ⊢
 rw [hB] at h1 ⊢
 have HB1 := Lib.hid hbb
 have HP1 := Lib.hid h1
 have c3 := h1.c3
 clear HA HP hB h1 hbb
 go_wp2_with fail
 refine (HN.out _).mono ?_
 rintro r w2 ⟨⟨s, rfl, hs⟩, hb⟩
 have hs2 := hs
 have HB2 := Lib.hid (HB1.out.trans (hb.mono HB1.out.size))
 have HP2 := Lib.hid (HP1.out.below hb HP1.out.lt)
 clear HN hs hb HB1 HP1 c3
 by_cases k0 : e.kind = 0 ∨ 10 < e.kind
 ·rw [show decide (e.kind = 0 ∨ 10 < e.kind) = true from by simpa using k0] at hs2
  go_wp2
  go_ret
  exact ⟨ret_int (by rw [chkEv, if_pos k0]), HB2.out⟩
 rw [show decide (e.kind = 0 ∨ 10 < e.kind) = false from by simpa using k0] at hs2
 have HK := Lib.hid k0
 have hkk : 0 ≤ e.kind ∧ e.kind ≤ 10 := by omega
 have c0 := HP2.out.c0
 have c1 := HP2.out.c1
 have c2 := HP2.out.c2
 clear k0
 by_cases hlim : e.seq < 1 ∨ 281474976710656 < e.seq ∨ e.time < 0 ∨ 281474976710656 < e.time ∨ 64 ≤ e.cpu
 ·have HL := Lib.hid (show chkEv e = 61 from by rw [chkEv, if_neg HK.out, if_pos hlim])
  clear HK
  go_wp2
  all_goals first | (go_ret; exact ⟨ret_int HL.out.symm, HB2.out⟩) | omega
 have HB := Lib.hid hlim
 have hcpu : e.cpu < 64 := by omega
 have a1 : 1 ≤ e.seq := by omega
 have a2 : e.seq ≤ 281474976710656 := by omega
 have a3 : 0 ≤ e.time := by omega
 have a4 : e.time ≤ 281474976710656 := by omega
 clear hlim
 go_upto_region 5 with fail
 go_wp2
 clear a1 a2 a3 a4 hs2
 go_loopg [3] 7 (fun k i wr => ∃ j : Nat, j + k = 7 ∧ i = .int .i64 j ∧ (∀ q, q < j → hasF e.kind q = true → withinE e q = true) ∧ Below w.heap.size w wr ∧ EvP wr B e)
 case atStart => exact ⟨0, by omega, rfl, fun q hq => by omega, HB2.out, HP2.out⟩
 case round =>
  obtain ⟨j, hj, rfl, ha, hb, hp⟩ := hrel
  have HJ := Lib.hid hj
  have HAL := Lib.hid ha
  have HBW := Lib.hid hb
  have HPW := Lib.hid hp
  have c0 := hp.c0
  have c1 := hp.c1
  have c2 := hp.c2
  have c3 := hp.c3
  have c4 := hp.c4
  have c5 := hp.c5
  have c6 := hp.c6
  have c7 := hp.c7
  have c8 := hp.c8
  have c9 := hp.c9
  have c10 := hp.c10
  clear hj ha hb hp
  by_cases hlt : j < 7
  ·go_wp2_with fail
   refine (HH.out _ j hlt hkk).mono ?_
   rintro r w3 ⟨rfl, rfl⟩
   cases hh : hasF e.kind j with
   | false =>
    go_wp2
    go_roundg (gk - 1)
    case measure => have := HJ.out; omega
    case rel =>
     refine ⟨j + 1, by have := HJ.out; omega, by go_num, fun q hq hy => ?_, HBW.out, HPW.out⟩
     rcases Nat.lt_or_ge q j with h | h
     ·exact HAL.out q h hy
     ·obtain rfl : q = j := by omega
      rw [hh] at hy; cases hy
   | true =>
    have HHH := Lib.hid hh
    clear hh
    go_wp2_with fail
    refine (HWI.out _ j hlt hcpu).mono ?_
    rintro r w4 ⟨rfl, hb4⟩
    have HB4 := Lib.hid (HBW.out.trans (hb4.mono HBW.out.size))
    have HP4 := Lib.hid (HPW.out.below hb4 HPW.out.lt)
    clear hb4
    cases hw : withinE e j with
    | false =>
     go_wp2
     go_ret
     refine ⟨ret_int ?_, HB4.out⟩
     rw [chkEv, if_neg HK.out, if_neg HB.out, if_pos]
     rw [List.all_eq_false]
     exact ⟨j, by have := HHH.out; unfold hasF at this; simpa using this, by rw [hw]; simp⟩
    | true =>
     have HWW := Lib.hid hw
     clear hw
     go_wp2
     go_roundg (gk - 1)
     case measure => have := HJ.out; omega
     case rel =>
      refine ⟨j + 1, by have := HJ.out; omega, by go_num, fun q hq hy => ?_, HB4.out, HP4.out⟩
      rcases Nat.lt_or_ge q j with h | h
      ·exact HAL.out q h hy
      ·obtain rfl : q = j := by omega
       exact HWW.out
  ·obtain rfl : j = 7 := by have := HJ.out; omega
   have hall : (usesK e.kind.toNat).all (withinE e) = true := by
    rw [List.all_eq_true]
    intro x hx
    obtain ⟨q, hq, hqx⟩ := List.getElem_of_mem hx
    exact HAL.out x (usesK_lt (List.getElem?_eq_some_iff.2 ⟨hq, hqx⟩)) (by unfold hasF; simpa using hx)
   have HALL := Lib.hid hall
   clear hall HAL HJ hlt
   go_wp2
   go_loopg [4] 7 (fun k i wr => ∃ j : Nat, j + k = 7 ∧ i = .int .i64 j ∧ (∀ q, q < j → fieldV e q ≠ 0 → hasF e.kind q = true) ∧ Below w.heap.size w wr ∧ EvP wr B e)
   case atStart => exact ⟨0, by omega, rfl, fun q hq => by omega, HBW.out, HPW.out⟩
   clear HBW HPW c0 c1 c2 c3 c4 c5 c6 c7 c8 c9 c10
   case round =>
    obtain ⟨j, hj, rfl, ha, hb, hp⟩ := hrel
    have HJ := Lib.hid hj
    have HAL := Lib.hid ha
    have HBW := Lib.hid hb
    have HPW := Lib.hid hp
    have c0 := hp.c0
    have c1 := hp.c1
    have c2 := hp.c2
    have c3 := hp.c3
    have c4 := hp.c4
    have c5 := hp.c5
    have c6 := hp.c6
    have c7 := hp.c7
    have c8 := hp.c8
    have c9 := hp.c9
    have c10 := hp.c10
    clear hj ha hb hp
    by_cases hlt : j < 7
    ·go_wp2_with fail
     refine (HF.out _ j hlt).mono ?_
     rintro r w3 ⟨rfl, hb3⟩
     have HB3 := Lib.hid (HBW.out.trans (hb3.mono HBW.out.size))
     have HP3 := Lib.hid (HPW.out.below hb3 HPW.out.lt)
     have c3 := HP3.out.c3
     clear hb3
     go_wp2_with fail
     refine (HH.out _ j hlt hkk).mono ?_
     rintro r w4 ⟨rfl, rfl⟩
     by_cases h0 : valV e j = 0
     ·have h0' : (valV e j != 0) = false := by simp [h0]
      have hf := Lib.hid (show fieldV e j = 0 from val_zero HO.out h0)
      rw [h0]
      cases hh : hasF e.kind j
      all_goals
       go_wp2
       go_roundg (gk - 1)
       case measure => have := HJ.out; omega
       case rel =>
        refine ⟨j + 1, by have := HJ.out; omega, by go_num, fun q hq hy => ?_, HB3.out, HP3.out⟩
        rcases Nat.lt_or_ge q j with h | h
        ·exact HAL.out q h hy
        ·obtain rfl : q = j := by omega
         exact absurd hf.out hy
     ·have h0' : (valV e j != 0) = true := by simp [h0]
      have h0'' : decide (valV e j = 0) = false := by simp [h0]
      cases hh : hasF e.kind j with
      | false =>
       go_wp2
       go_ret
       refine ⟨ret_int ?_, HB3.out⟩
       rw [chkEv, if_neg HK.out, if_neg HB.out, if_neg (by rw [HALL.out]; simp), if_pos]
       rw [List.any_eq_true]
       exact ⟨j, List.mem_range.2 hlt, by unfold hasF at hh; rw [hh]; simp; exact fun h => h0 (zero_val h)⟩
      | true =>
       have HCN := Lib.hid hh
       clear hh
       go_wp2
       go_roundg (gk - 1)
       case measure => have := HJ.out; omega
       case rel =>
        refine ⟨j + 1, by have := HJ.out; omega, by go_num, fun q hq hy => ?_, HB3.out, HP3.out⟩
        rcases Nat.lt_or_ge q j with h | h
        ·exact HAL.out q h hy
        ·obtain rfl : q = j := by omega
         exact HCN.out
    ·obtain rfl : j = 7 := by have := HJ.out; omega
     have hnone : ¬ (List.range 7).any (fun i => decide (fieldV e i ≠ 0) && !(usesK e.kind.toNat).contains i) = true := by
      rw [List.any_eq_true]
      rintro ⟨x, hx, h2⟩
      simp only [Bool.and_eq_true, decide_eq_true_eq, Bool.not_eq_true'] at h2
      have := HAL.out x (List.mem_range.1 hx) h2.1
      unfold hasF at this
      rw [this] at h2
      cases h2.2
     go_wp2
     go_ret
     exact ⟨ret_int (by rw [chkEv, if_neg HK.out, if_neg HB.out, if_neg (by rw [HALL.out]; simp), if_neg hnone]), HBW.out⟩
end Go.Proofs.YtalophngappkhaaGreatDoor

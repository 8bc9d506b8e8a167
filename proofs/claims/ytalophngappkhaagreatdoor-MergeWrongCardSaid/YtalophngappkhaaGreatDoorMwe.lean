/- MergeWrong: the walk. -/
import Derived.Test.YtalophngappkhaaGreatDoorMwd
import Derived.Test.YtalophngappkhaaGreatDoorZ28
import Derived.Test.YtalophngappkhaaGreatDoorZ30
import Derived.Test.YtalophngappkhaaGreatDoorZ27
set_option linter.unusedVariables false
set_option linter.unusedSimpArgs false
set_option linter.unusedSectionVars false
namespace Go.Proofs.YtalophngappkhaaGreatDoor
open Go Go.RowKit Go.Shelf
attribute [local go_sem] Oper.semAt_some
namespace BkBox
variable {w w' : World} {X : Nat} {b : Bck} {v : Value}
theorem frz (h : BkBox w X b v) (i : Nat) : w.frozen? ⟨X, i, none⟩ = false := frozen_of_row w X i _ _ h.cell
theorem set0 (h : BkBox w X b v) (u : Int) : BkBox (w.setCell ⟨X, 0, none⟩ (.int .u8 u)) X { b with kind := u } v := ⟨heap_setCell_same w X 0 _ _ _ h.cell⟩
theorem set1 (h : BkBox w X b v) (u : Int) : BkBox (w.setCell ⟨X, 1, none⟩ (.int .u8 u)) X { b with cpu := u } v := ⟨heap_setCell_same w X 1 _ _ _ h.cell⟩
theorem set2 (h : BkBox w X b v) (u : Int) : BkBox (w.setCell ⟨X, 2, none⟩ (.int .i64 u)) X { b with lost := u } v := ⟨heap_setCell_same w X 2 _ _ _ h.cell⟩
theorem set3 (h : BkBox w X b v) (u : Int) : BkBox (w.setCell ⟨X, 3, none⟩ (.int .i64 u)) X { b with next := u } v := ⟨heap_setCell_same w X 3 _ _ _ h.cell⟩
theorem set4 (h : BkBox w X b v) (u : Value) : BkBox (w.setCell ⟨X, 4, none⟩ u) X b u := ⟨heap_setCell_same w X 4 _ _ _ h.cell⟩
theorem setE (h : BkBox w X b v) (l : List Ev) : BkBox w X { b with evs := l } v := ⟨h.cell⟩
end BkBox
set_option maxRecDepth 100000 in
set_option maxHeartbeats 6400000 in
theorem wrong_walk (w : World) (v : Value) (xs : List S6) (size at_ way n : Int) (hx : S6Arg w v xs) (hU : LaidAt w) (s1 : 0 ≤ size ∧ size ≤ 255) (m1 : 0 ≤ at_ ∧ at_ ≤ 255) (f1 : 0 ≤ way ∧ way ≤ 255) (hn : -9223372036854775808 ≤ n ∧ n ≤ 9223372036854775807) :
    Calls Tryz.prog 4 #[v, .int .u8 size, .int .u8 at_, .int .u8 way, .int .i64 n] w fun r w' => r = .returned (.bool true) ∧ Below w.heap.size w w' := by
  have HX := Lib.hid hx
  have HU := Lib.hid hU
  have HAW := Lib.hid (awake_ok w hU)
  have HS := Lib.hid s1
  have HM := Lib.hid m1
  have HF := Lib.hid f1
  have HN := Lib.hid hn
  obtain ⟨A, c, hA⟩ := hx.1.shape
  subst hA
  obtain ⟨nx0, hnx0⟩ : ∃ nx0, xs.length = nx0 := ⟨_, rfl⟩
  rw [hnx0] at HX ⊢
  have HLX := Lib.hid hnx0
  clear hx hU s1 m1 f1 hn hnx0
  go_enter Tryz.func4, Tryz.ntmps4
  go_wp2_with fail
  refine HAW.out.mono ?_
  rintro r w1 ⟨rfl, b1⟩
  have HB1 := Lib.hid b1
  have HX1 := Lib.hid (HX.out.below b1)
  clear HAW b1
  go_wp2_with fail
  refine (trace_ok w1 _ xs HX1.out.1 HX1.out.2.1 (by have := HX1.out.2.2; omega)).mono ?_
  rintro r w3 ⟨vt, tr, rfl, o3, ht, hlen, b3⟩
  have HT := Lib.hid ht
  have HTV := Lib.hid (o3.ev encE_len)
  have HB3 := Lib.hid (bstep HB1.out b3)
  clear HX1 HB1 b3 o3 ht hlen
  obtain ⟨At, ct, hAt⟩ := HTV.out.shape
  obtain ⟨nt, hnt⟩ : ∃ nt, tr.length = nt := ⟨_, rfl⟩
  rw [hnt] at hAt
  subst hAt
  have hn40 : nt ≤ 40 := by rw [← hnt]; exact HT.out.len
  clear hnt
  go_wp2_with fail
  refine (cut_ok w3 _ tr size 0 HTV.out HT.out HS.out.1 HS.out.2 (by omega) (by omega)).mono ?_
  rintro r w4 ⟨vc, bs, nx, rfl, hcp⟩
  have HB4 := Lib.hid (bstep HB3.out hcp.bel)
  have HTV4 := Lib.hid (HTV.out.below hcp.bel)
  have HCP := Lib.hid hcp
  clear HTV HB3 hcp
  have hll := HCP.out.len HT.out
  obtain ⟨p, hp⟩ : ∃ p, bs.length = p := ⟨_, rfl⟩
  rw [hp] at hll
  have HL := Lib.hid hll
  have hp40 := hll.2
  obtain ⟨cb, co, cc, hvc, hcc, _⟩ := HCP.out.ev.row (by rw [hll.1]; omega)
  subst hvc
  rw [hll.1] at HCP hcc ⊢
  clear hll hp
  have HA := Lib.hid (bel_alloc w4 (.cells #[.int .u8 1, .int .u8 3, .int .i64 0, .int .i64 0, .slice none 0 0] 24))
  have HG := Lib.hid (show BkBox (w4.alloc (.cells #[.int .u8 1, .int .u8 3, .int .i64 0, .int .i64 0, .slice none 0 0] 24)) w4.heap.size ⟨1, 3, 0, 0, []⟩ (.slice none 0 0) from BkBox.new w4 ⟨1, 3, 0, 0, []⟩ (.slice none 0 0))
  go_upto_region 6 with fail
  obtain ⟨GB, hGB⟩ : ∃ GB, w4.heap.size = GB := ⟨_, rfl⟩
  rw [hGB] at HG ⊢
  have HGB := Lib.hid hGB
  clear hGB
  generalize w4.alloc (.cells #[.int .u8 1, .int .u8 3, .int .i64 0, .int .i64 0, .slice none 0 0] 24) = w5 at HA HG ⊢
  have hf1 := HF.out.1
  have hf2 := HF.out.2
  obtain ⟨y, hy⟩ : ∃ y, way % 4 = y := ⟨_, rfl⟩
  have HY := Lib.hid (show y = 0 ∨ y = 1 ∨ y = 2 ∨ y = 3 by omega)
  go_upto_block 0 with fail
  rw [hy]
  clear hy hf1 hf2
  go_cut [] (fun wz => ∃ (wq : World) (sl : Sl3) (bx : Bck), wq = wz ∧ BadB bx ∧ BkBox wq GB bx (slV sl) ∧ EV encE 11 wq (slV sl) bx.evs ∧ Below w4.heap.size w4 wq)
  case first =>
    have f0 := HG.out.frz 0
    have f1 := HG.out.frz 1
    have f2 := HG.out.frz 2
    have f3 := HG.out.frz 3
    have f4 := HG.out.frz 4
    have g0 := HG.out.c0
    have g1 := HG.out.c1
    have g2 := HG.out.c2
    have g3 := HG.out.c3
    have g4 := HG.out.c4
    dsimp only at g0 g1 g2 g3
    have hn1 := HN.out.1
    have hn2 := HN.out.2
    have hm1 := HM.out.1
    have hm2 := HM.out.2
    have HMS := Lib.hid (show ∀ (W W' : World), Below w4.heap.size w4 W → Mod (fun j => j = GB) W W' → Below w4.heap.size w4 W' from fun W W' h m => h.trans (m.below (B := w4.heap.size) (fun k hk e => by have := HGB.out; omega) h.size))
    rcases HY.out with rfl | rfl | rfl | rfl
    · clear hm1 hm2
      go_wp2
      go_meet
      exact ⟨_, (none, 0, 0), ⟨1, 3, min n 0, 0, []⟩, rfl, bad_lost _ (by omega) (by omega), HG.out.set2 _, EV.nil _ _, HMS.out _ _ HA.out (Mod.setCell _ rfl)⟩
    · obtain ⟨kk, hkk⟩ : ∃ kk, IntKind.u8.wrap (3 + at_) = kk := ⟨_, rfl⟩
      have HKK := Lib.hid (show 0 ≤ kk ∧ kk ≤ 255 by rw [← hkk, wrap_u8]; omega)
      go_wp2
      go_meet
      exact ⟨_, (none, 0, 0), ⟨kk, 3, 0, 0, []⟩, rfl, bad_kind _ HKK.out.1 HKK.out.2, HG.out.set0 _, EV.nil _ _, HMS.out _ _ HA.out (Mod.setCell _ rfl)⟩
    · have HGS := Lib.hid (((((HG.out.set0 2).set1 0).set2 0).set3 (min n 0)).set4 (.slice none 0 0))
      have HMO := Lib.hid (HMS.out _ _ HA.out (((((Mod.setCell (a := w5) (p := ⟨GB, 0, none⟩) (T := fun j => j = GB) (.int .u8 2) rfl).trans (Mod.setCell (p := ⟨GB, 1, none⟩) (T := fun j => j = GB) (.int .u8 0) rfl)).trans (Mod.setCell (p := ⟨GB, 2, none⟩) (T := fun j => j = GB) (.int .i64 0) rfl)).trans (Mod.setCell (p := ⟨GB, 3, none⟩) (T := fun j => j = GB) (.int .i64 (min n 0)) rfl)).trans (Mod.setCell (p := ⟨GB, 4, none⟩) (T := fun j => j = GB) (.slice none 0 0) rfl)))
      have HBD := Lib.hid (bad_end (min n 0) (by omega) (by omega))
      clear hm1 hm2 hn1 hn2
      go_wp2
      go_meet
      exact ⟨_, (none, 0, 0), ⟨2, 0, 0, min n 0, []⟩, rfl, HBD.out, HGS.out, EV.nil _ _, HMO.out⟩
    · clear hm1 hm2 hn1 hn2 f0 f1 f2 f3 f4 g0 g1 g2 g3 g4
      have HAL := Lib.hid (bel_alloc w5 (.cells #[.int .i64 0, .int .i64 0, .int .u8 3, .int .u8 6, .int .i64 0, .int .i64 0, .int .i64 0, .int .i64 0, .int .i64 0, .int .u64 0, .int .i64 0] 28))
      have HG2 := Lib.hid (HG.out.below HAL.out)
      have HO2 := Lib.hid (show OV encE 11 28 w5.heap.size (w5.alloc (.cells #[.int .i64 0, .int .i64 0, .int .u8 3, .int .u8 6, .int .i64 0, .int .i64 0, .int .i64 0, .int .i64 0, .int .i64 0, .int .u64 0, .int .i64 0] 28)) (.slice (some ⟨w5.heap.size, 0, none⟩) 1 1) [pickE 0 3] from OV.lit w5 _ 1 (Nat.le_refl _) (by unfold maxLen; omega) rfl rfl rfl)
      have HGS := Lib.hid ((HG2.out.set4 (.slice (some ⟨w5.heap.size, 0, none⟩) 1 1)).setE [pickE 0 3])
      have HMD := Lib.hid (Mod.setCell (a := w5.alloc (.cells #[.int .i64 0, .int .i64 0, .int .u8 3, .int .u8 6, .int .i64 0, .int .i64 0, .int .i64 0, .int .i64 0, .int .i64 0, .int .u64 0, .int .i64 0] 28)) (p := ⟨GB, 4, none⟩) (T := fun j => j = GB) (.slice (some ⟨w5.heap.size, 0, none⟩) 1 1) rfl)
      have HO3 := Lib.hid (HO2.out.six HG2.out.cell (by decide) HMD.out)
      have HMO := Lib.hid (HMS.out _ _ (bstep HA.out HAL.out) HMD.out)
      have f4 := HG2.out.frz 4
      have g4 := HG2.out.c4
      go_wp2
      go_meet
      exact ⟨_, (some ⟨w5.heap.size, 0, none⟩, 1, 1), ⟨1, 3, 0, 0, [pickE 0 3]⟩, rfl, bad_evs, HGS.out, HO3.out.ev encE_len, HMO.out⟩
  case rest =>
    obtain ⟨w6, sl, bx, rfl, hbad, hbox, hbe, hb6⟩ := hcut
    have HBAD := Lib.hid hbad
    have HBOX := Lib.hid hbox
    have HBE := Lib.hid hbe
    have HCP6 := Lib.hid (HCP.out.below hb6)
    have HTV6 := Lib.hid (HTV4.out.below hb6)
    have HB6 := Lib.hid (bstep HB4.out hb6)
    clear hbad hbox hbe hb6 HG HA HGB
    have hm1 := HM.out.1
    have hm2 := HM.out.2
    have hz0 := Int.emod_nonneg at_ (show (p : Int) + 1 + 1 ≠ 0 by omega)
    have hz1 := Int.emod_lt_of_pos at_ (show (0 : Int) < (p : Int) + 1 + 1 by omega)
    have hz2 : ¬ (p : Int) + 1 + 1 = 0 := by omega
    obtain ⟨k, hk⟩ : ∃ k : Nat, at_ % ((p : Int) + 1 + 1) = (k : Int) := ⟨(at_ % ((p : Int) + 1 + 1)).toNat, by omega⟩
    have HK := Lib.hid (show k ≤ p + 1 by omega)
    have HKE := Lib.hid hk
    have c0 := HBOX.out.c0
    have c1 := HBOX.out.c1
    have c2 := HBOX.out.c2
    have c3 := HBOX.out.c3
    have c4 := HBOX.out.c4
    obtain ⟨As, ns, cs⟩ := sl
    unfold slV at c4
    go_upto_region 15 with fail
    try rw [HKE.out]
    clear hk hz0 hz1 hz2 hm1 hm2
    have HCK := Lib.hid (bcheck_ok w6 bx (.slice As ns cs) HBAD.out.ok HBE.out (by have := HBAD.out.len; omega) (HU.out.below HB6.out))
    rw [HBAD.out.chk] at HCK
    unfold blkA at HCK
    go_cut [15] (fun a wz => ∃ wq, wq = wz ∧ a = .int .i64 107 ∧ Below w6.heap.size w6 wq)
    case first =>
      go_wp2_with fail
      refine HCK.out.mono ?_
      rintro r w7 ⟨rfl, b7⟩
      have HB7 := Lib.hid b7
      clear c0 c1 c2 c3 c4 b7
      go_wp2
      go_meet
      exact ⟨_, rfl, rfl, HB7.out⟩
    case rest =>
      obtain ⟨w7, rfl, rfl, b7⟩ := hcut
      have hcp := HCP6.out.below b7
      exact (‹∀ (a : Act) (w : World), Code.wp _ _ _ a w → _› : ∀ (a : Act) (w : World), _ → _) _ _ (wrong_t16 w w7 At nt ct GB cb co p cc k (As, ns, cs) tr bs bx nx n HT.out HL.out HCP6.out.cut hcp.ev hcp.evs' (HU.out.below (bstep HB6.out b7)) (HTV6.out.below b7) HN.out HBAD.out (HBOX.out.below b7) (HBE.out.below b7) HK.out (bstep HB6.out b7))
end Go.Proofs.YtalophngappkhaaGreatDoor

/- MergeLost: the walk. -/
import Derived.Test.YtalophngappkhaaGreatDoorLo2
import Derived.Test.YtalophngappkhaaGreatDoorZ28
import Derived.Test.YtalophngappkhaaGreatDoorZ30
import Derived.Test.YtalophngappkhaaGreatDoorZ27
import Derived.StillTailTactics
set_option linter.unusedVariables false
set_option linter.unusedSimpArgs false
set_option linter.unusedSectionVars false
namespace Go.Proofs.YtalophngappkhaaGreatDoor
open Go Go.RowKit Go.Shelf
attribute [local go_sem] Oper.semAt_some

set_option maxRecDepth 100000 in
set_option maxHeartbeats 6400000 in
theorem lost_walk (w : World) (v : Value) (xs : List S6) (size more which : Int) (hx : S6Arg w v xs) (hU : LaidAt w) (s1 : 0 ≤ size ∧ size ≤ 255) (m1 : 0 ≤ more ∧ more ≤ 255) (f1 : 0 ≤ which ∧ which ≤ 255) :
    Calls Tryz.prog 6 #[v, .int .u8 size, .int .u8 more, .int .u8 which] w fun r w' => r = .returned (.bool true) ∧ Below w.heap.size w w' := by
  have HX := Lib.hid hx
  have HU := Lib.hid hU
  have HAW := Lib.hid (awake_ok w hU)
  have HS := Lib.hid s1
  have HM := Lib.hid m1
  have HF := Lib.hid f1
  clear hx hU s1 m1 f1
  go_enter Tryz.func6, Tryz.ntmps6
  go_wp2_with fail
  refine HAW.out.mono ?_
  rintro r w1 ⟨rfl, b1⟩
  have HB1 := Lib.hid b1
  have HX1 := Lib.hid (HX.out.below b1)
  clear HAW HX b1
  go_wp2_with fail
  refine (trace_ok w1 v xs HX1.out.1 HX1.out.2.1 HX1.out.2.2).mono ?_
  rintro r w2 ⟨vt, tr, rfl, o2, ht, hlen, b2⟩
  have HT := Lib.hid ht
  have HTV := Lib.hid (o2.ev encE_len)
  have HB2 := Lib.hid (bstep HB1.out b2)
  clear HX1 HB1 b2 o2 ht hlen
  go_wp2_with fail
  refine (cut_ok w2 vt tr size more HTV.out HT.out HS.out.1 HS.out.2 HM.out.1 HM.out.2).mono ?_
  rintro r w3 ⟨vc, bs, nx, rfl, hcp⟩
  have HTV3 := Lib.hid (HTV.out.below hcp.bel)
  have HB3 := Lib.hid (bstep HB2.out hcp.bel)
  have HCP := Lib.hid hcp
  clear HTV HB2 hcp
  have hll := HCP.out.len HT.out
  obtain ⟨p, hp⟩ : ∃ p, bs.length = p := ⟨_, rfl⟩
  rw [hp] at hll
  have HL := Lib.hid hll
  have HP := Lib.hid hp
  have hp40 := hll.2
  obtain ⟨cb, co, cc, hvc, hcc, hcr⟩ := HCP.out.ev.row (by rw [hll.1]; omega)
  subst hvc
  rw [hll.1] at HCP hcc ⊢
  have HCR := Lib.hid hcr
  have HCC := Lib.hid hcc
  have hf1 := HF.out.1
  have hf2 := HF.out.2
  have hz1 := Int.emod_nonneg which (show ((p : Int) + 1) ≠ 0 by omega)
  have hz2 := Int.emod_lt_of_pos which (show (0 : Int) < (p : Int) + 1 by omega)
  have hz3 : ¬ ((p : Int) + 1) = 0 := by omega
  obtain ⟨k, hk⟩ : ∃ k : Nat, which % ((p : Int) + 1) = (k : Int) := ⟨(which % ((p : Int) + 1)).toNat, by omega⟩
  have hkp : k ≤ p := by omega
  clear hll hp hcr
  go_upto_region 6 with fail
  try rw [hk]
  have HK := Lib.hid hkp
  clear hk hz1 hz2 hz3 hf1 hf2
  obtain ⟨x, hxx⟩ : ∃ x, (CutP.all bs nx)[k]? = some x := ⟨_, List.getElem?_eq_getElem (by rw [HL.out.1]; omega)⟩
  have HXX := Lib.hid hxx
  obtain ⟨g0, g1, g2, g3, g4⟩ := HCR.out.sb hxx
  have hkl : k < p + 1 := by omega
  unfold slV at g4
  have HA := Lib.hid (bel_alloc w3 (.cells #[.int .u8 x.2.kind, .int .u8 x.2.cpu, .int .i64 x.2.lost, .int .i64 x.2.next, .slice x.1.1 x.1.2.1 x.1.2.2] 24))
  have HGB := Lib.hid (show BkBox (w3.alloc (.cells #[.int .u8 x.2.kind, .int .u8 x.2.cpu, .int .i64 x.2.lost, .int .i64 x.2.next, .slice x.1.1 x.1.2.1 x.1.2.2] 24)) w3.heap.size x.2 (.slice x.1.1 x.1.2.1 x.1.2.2) from BkBox.new w3 x.2 _)
  clear hxx
  go_upto_region 7 with fail
  clear g0 g1 g2 g3 g4
  generalize w3.alloc (.cells #[.int .u8 x.2.kind, .int .u8 x.2.cpu, .int .i64 x.2.lost, .int .i64 x.2.next, .slice x.1.1 x.1.2.1 x.1.2.2] 24) = w4 at HA HGB ⊢
  generalize w3.heap.size = GB at HGB ⊢
  have HTV4 := Lib.hid (HTV3.out.below HA.out)
  have HB4 := Lib.hid (bstep HB3.out HA.out)
  have HCP4 := Lib.hid (HCP.out.below HA.out)
  have HGE4 := Lib.hid (show EV encE 11 w4 (.slice x.1.1 x.1.2.1 x.1.2.2) x.2.evs from HCP4.out.evs' x (List.mem_of_getElem? HXX.out))
  clear HTV3 HB3 HA HCR
  obtain ⟨M, hM, hres⟩ := HCP.out.cut.mrg HT.out (List.Perm.refl _)
  have HMW := Lib.hid hM
  obtain ⟨lost, hlost⟩ : ∃ lost, lostB ((bs.map Prod.snd) ++ [bkE nx]) = lost := ⟨_, rfl⟩
  have he := hM.eq
  rw [hlost] at he
  obtain ⟨G, hG⟩ : ∃ G, gapsOf tr nx = G := ⟨_, rfl⟩
  rw [hG] at he
  subst he
  have HRES := Lib.hid (show ∀ m c, MrgRes ((CutP.all bs nx).map Prod.snd) m c → _ from fun m c h => hres m c (by rwa [cut_all_snd] at h))
  have HLO := Lib.hid hlost
  clear hM hres hlost hG
  go_cut [13, 14] (fun a b wz => ∃ wq X A1 n1 c1 A2 c2 A3 n3 c3, wq = wz ∧ a = .pointer (some ⟨X, 0, none⟩) ∧ b = .int .i64 0 ∧ MB2 wq X (.slice A1 n1 c1) (.slice A2 0 c2) (.slice A3 n3 c3) tr [] G lost nx false ∧ Below w4.heap.size w4 wq)
  case first =>
    go_wp2_with fail
    refine (blocks_sb w4 _ (CutP.all bs nx) HCP4.out.ev HCP4.out.evs' (HCP4.out.good HT.out) (by rw [HL.out.1]; omega) (HU.out.below HB4.out) _ 0 HRES.out).mono ?_
    rintro r w5 ⟨A1, n1, c1, A2, n2, c2, A3, n3, c3, rfl, o1, o2, o3, b5⟩
    have hn2 := (o2.ev encI_len).nlen
    dsimp only at o1 o2 o3 hn2 ⊢
    obtain rfl : n2 = 0 := hn2
    have HMX := Lib.hid (show MB2 (w5.alloc (.cells #[.slice A1 n1 c1, .slice A2 0 c2, .slice A3 n3 c3, .int .i64 lost, .int .i64 nx, .bool false] 39)) w5.heap.size (.slice A1 n1 c1) (.slice A2 0 c2) (.slice A3 n3 c3) tr [] G lost nx false from
      ⟨MgBox.new w5 _ _ _ _ _ _, (o1.ev encE_len).below (bel_alloc _ _), (o2.ev encI_len).below (bel_alloc _ _), (o3.ev encP_len).below (bel_alloc _ _)⟩)
    have HB6 := Lib.hid (b5.trans ((bel_alloc w5 (.cells #[.slice A1 n1 c1, .slice A2 0 c2, .slice A3 n3 c3, .int .i64 lost, .int .i64 nx, .bool false] 39)).mono b5.size))
    clear o1 o2 o3 b5
    unfold mgA
    go_wp2
    go_meet
    exact ⟨_, _, A1, n1, c1, A2, c2, A3, n3, c3, rfl, rfl, rfl, HMX.out, HB6.out⟩
  case rest =>
    obtain ⟨w6, X, A1, n1, c1, A2, c2, A3, n3, c3, rfl, rfl, rfl, hmx, b6⟩ := hcut
    obtain ⟨R, G2, lost2, nx2, opn, hls⟩ := lsr_of HT.out HCP.out.cut (k := k) (by rw [List.length_map, HP.out]; exact HK.out)
    have hcp6 := HCP4.out.below b6
    have hmw := HMW.out
    rw [HLO.out] at hmw
    exact (‹∀ (a : Act) (w : World), Code.wp _ _ _ a w → _› : ∀ (a : Act) (w : World), _ → _) _ _ (lost_t8 w w6 X GB cb co p cc k n1 c1 c2 n3 c3 A1 A2 A3 vt tr R bs x G G2 lost nx lost2 nx2 opn HT.out HL.out HP.out HCP.out.cut hcp6.ev hcp6.evs' HCC.out HK.out HXX.out (HGB.out.below b6) hmx hmw HLO.out hls (HTV4.out.below b6) (HU.out.below (bstep HB4.out b6)) (bstep HB4.out b6))
end Go.Proofs.YtalophngappkhaaGreatDoor

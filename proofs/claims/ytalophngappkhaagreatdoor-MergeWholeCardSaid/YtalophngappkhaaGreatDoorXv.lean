/- MergeWhole: the walk. -/
import Derived.Test.YtalophngappkhaaGreatDoorXu
set_option linter.unusedVariables false
set_option linter.unusedSimpArgs false
set_option linter.unusedSectionVars false
namespace Go.Proofs.YtalophngappkhaaGreatDoor
open Go Go.RowKit Go.Shelf
attribute [local go_sem] Oper.semAt_some

set_option maxRecDepth 100000 in
set_option maxHeartbeats 6400000 in
theorem whole_walk (w : World) (v : Value) (xs : List S6) (size more by_ : Int) (hx : S6Arg w v xs) (hU : LaidAt w) (s1 : 0 ≤ size ∧ size ≤ 255) (m1 : 0 ≤ more ∧ more ≤ 255) (f1 : 0 ≤ by_ ∧ by_ ≤ 255) :
    Calls Tryz.prog 7 #[v, .int .u8 size, .int .u8 more, .int .u8 by_] w fun r w' => r = .returned (.bool true) ∧ Below w.heap.size w w' := by
  have HX := Lib.hid hx
  have HU := Lib.hid hU
  have HAW := Lib.hid (awake_ok w hU)
  have HS := Lib.hid s1
  have HM := Lib.hid m1
  have HF := Lib.hid f1
  clear hx hU s1 m1 f1
  go_enter Tryz.func7, Tryz.ntmps7
  go_wp2_with fail
  refine HAW.out.mono ?_
  rintro r w1 ⟨rfl, b1⟩
  have HB1 := Lib.hid b1
  have HX1 := Lib.hid (HX.out.below b1)
  clear HAW HX b1
  go_wp2_with fail
  refine (trace_ok w1 v xs HX1.out.1 HX1.out.2.1 HX1.out.2.2).mono ?_
  rintro r w2 ⟨vt, tr, rfl, o2, ht, hlen, b2⟩
  have HT := Lib.hid ht
  have HTV := Lib.hid (o2.ev encE_len)
  have HB2 := Lib.hid (bstep HB1.out b2)
  clear HX1 HB1 b2 o2 ht hlen
  go_wp2_with fail
  refine (cut_ok w2 vt tr size more HTV.out HT.out HS.out.1 HS.out.2 HM.out.1 HM.out.2).mono ?_
  rintro r w3 ⟨vc, bs, nx, rfl, hcp⟩
  have HTV3 := Lib.hid (HTV.out.below hcp.bel)
  have HB3 := Lib.hid (bstep HB2.out hcp.bel)
  have HCP := Lib.hid hcp
  clear HTV HB2 hcp
  have hll := HCP.out.len HT.out
  obtain ⟨p, hp⟩ : ∃ p, bs.length = p := ⟨_, rfl⟩
  rw [hp] at hll
  have HL := Lib.hid hll
  have hp40 := hll.2
  obtain ⟨cb, co, cc, hvc, hcc, hcr⟩ := HCP.out.ev.row (by rw [hll.1]; omega)
  subst hvc
  rw [hll.1] at HCP hcc ⊢
  have HCR := Lib.hid hcr
  have HCC := Lib.hid hcc
  have hlast : (CutP.all bs nx)[p]? = some ((none, 0, 0), bkE nx) := by unfold CutP.all; rw [← hp]; simp
  have HLAST := Lib.hid hlast
  have hlo : ∀ x ∈ CutP.all bs nx, 0 ≤ x.2.lost ∧ x.2.lost ≤ 2 := fun x hx => by
    rcases List.mem_append.1 hx with hx | hx
    · exact (HCP.out.cut.blk x.2 (List.mem_map.2 ⟨x, hx, rfl⟩)).lost
    · simp only [List.mem_cons, List.not_mem_nil, or_false] at hx
      subst hx; exact ⟨Int.le_refl 0, show (0 : Int) ≤ 2 by omega⟩
  have HLO := Lib.hid hlo
  clear hll hp hcc hcr hlast hlo
  go_upto_block 0 with fail
  go_cut [11] (fun s wz => ∃ wq, wq = wz ∧ s = .int .i64 (lostB ((CutP.all bs nx).map Prod.snd)) ∧ Below w3.heap.size w3 wq)
  case first =>
    go_wp2
    go_loopg [11, 28] (p + 1) (fun k s i wr => ∃ j : Nat, j + k = p + 1 ∧ i = .int .i64 j ∧ (∃ S : Int, s = .int .i64 S ∧ S = lostB (((CutP.all bs nx).take j).map Prod.snd) ∧ 0 ≤ S ∧ S ≤ 2 * (j : Int)) ∧ Below w3.heap.size w3 wr)
    case atStart => exact ⟨0, by omega, rfl, ⟨0, rfl, rfl, by omega, by omega⟩, Below.refl _ _⟩
    case round =>
      obtain ⟨j, hj, rfl, ⟨S, rfl, hS, hS1, hS2⟩, hb⟩ := hrel
      have HJ := Lib.hid hj
      have HSS := Lib.hid hS
      have HS2 := Lib.hid hS2
      have HBR := Lib.hid hb
      clear hj hS hb
      by_cases hlt : j < p + 1
      · obtain ⟨x, hxx⟩ : ∃ x, (CutP.all bs nx)[j]? = some x := ⟨_, List.getElem?_eq_getElem (by rw [HL.out.1]; exact hlt)⟩
        obtain ⟨g0, g1, g2, g3, g4⟩ := ((HCR.out.below HBR.out).sb hxx)
        have hxl := HLO.out x (List.mem_of_getElem? hxx)
        have HTK := Lib.hid (lost_take hxx)
        have hl1 := hxl.1
        have hl2 := hxl.2
        have hcl : p + 1 ≤ cc := HCC.out
        unfold slV at g4
        have HA := Lib.hid (bel_alloc wr (.cells #[.int .u8 x.2.kind, .int .u8 x.2.cpu, .int .i64 x.2.lost, .int .i64 x.2.next, .slice x.1.1 x.1.2.1 x.1.2.2] 24))
        have HC2 := Lib.hid (show (wr.alloc (.cells #[.int .u8 x.2.kind, .int .u8 x.2.cpu, .int .i64 x.2.lost, .int .i64 x.2.next, .slice x.1.1 x.1.2.1 x.1.2.2] 24)).cell? ⟨wr.heap.size, 2, none⟩ = some (.int .i64 x.2.lost) from cell_of_row _ _ 2 _ _ (0, 0) (heap_alloc_new wr _))
        clear hxx hxl
        go_upto_region 9 with fail
        clear g0 g1 g2 g3 g4
        generalize wr.alloc (.cells #[.int .u8 x.2.kind, .int .u8 x.2.cpu, .int .i64 x.2.lost, .int .i64 x.2.next, .slice x.1.1 x.1.2.1 x.1.2.2] 24) = wa at HA HC2 ⊢
        generalize wr.heap.size = B at HC2 ⊢
        have c2 := HC2.out
        go_wp2
        go_roundg (p + 1 - (j + 1))
        case measure => have := HJ.out; omega
        case rel => exact ⟨j + 1, by have := HJ.out; omega, by go_num, ⟨S + x.2.lost, rfl, by rw [HTK.out, HSS.out], by omega, by have := HS2.out; push_cast; omega⟩, bstep HBR.out HA.out⟩
      · obtain rfl : p + 1 = j := by have := HJ.out; omega
        have HTA := Lib.hid (show (CutP.all bs nx).take (p + 1) = CutP.all bs nx from List.take_of_length_le (Nat.le_of_eq HL.out.1))
        go_wp2
        go_meet
        exact ⟨_, rfl, by rw [HSS.out, HTA.out], HBR.out⟩
  case rest =>
    obtain ⟨w4, rfl, rfl, b4⟩ := hcut
    have HTV4 := Lib.hid (HTV3.out.below b4)
    have HB4 := Lib.hid (bstep HB3.out b4)
    have HCP4 := Lib.hid (HCP.out.below b4)
    have HCR4 := Lib.hid (HCR.out.below b4)
    clear HTV3 HB3 HCR b4
    go_wp2_with fail
    refine (turned_ok w4 _ (CutP.all bs nx) by_ HCP4.out.ev (by rw [HL.out.1]; omega) (by rw [HL.out.1]; omega) HF.out.1 HF.out.2).mono ?_
    rintro r w5 ⟨v5, ys, rfl, o5, hp5, b5⟩
    have HTV5 := Lib.hid (HTV4.out.below b5)
    have HB5 := Lib.hid (bstep HB4.out b5)
    have HCP5 := Lib.hid (HCP4.out.below b5)
    have HCR5 := Lib.hid (HCR4.out.below b5)
    have HO5 := Lib.hid (o5.ev encSb_len)
    have HP5 := Lib.hid hp5
    clear HTV4 HB4 HCP4 HCR4 o5 hp5 b5
    have hpm : (ys.map Prod.snd).Perm ((bs.map Prod.snd) ++ [bkE nx]) := by rw [← cut_all_snd]; exact HP5.out.map _
    obtain ⟨M1, hM1, hres1⟩ := HCP.out.cut.mrg HT.out hpm
    obtain ⟨M2, hM2, hres2⟩ := HCP.out.cut.mrg HT.out (List.Perm.refl _)
    rw [← cut_all_snd] at hres2 hM2
    have hll : lostB (ys.map Prod.snd) = lostB ((CutP.all bs nx).map Prod.snd) := by rw [cut_all_snd]; exact lostB_perm hpm
    rw [hll] at hM1
    obtain ⟨lost, hlost⟩ : ∃ lost, lostB ((CutP.all bs nx).map Prod.snd) = lost := ⟨_, rfl⟩
    rw [hlost] at hM1 hM2 ⊢
    obtain ⟨G, hG⟩ : ∃ G, gapsOf tr nx = G := ⟨_, rfl⟩
    have e1 := hM1.eq
    have e2 := hM2.eq
    rw [hG] at e1 e2
    subst e1
    subst e2
    have HW := Lib.hid hM1
    have HR1 := Lib.hid hres1
    have HR2 := Lib.hid hres2
    clear hpm hM1 hM2 hres1 hres2 hll hlost hG
    go_wp2_with fail
    refine (blocks_sb w5 v5 ys HO5.out (fun x hx => HCP5.out.evs' x (HP5.out.mem_iff.1 hx)) (fun x hx => HCP5.out.good HT.out x (HP5.out.mem_iff.1 hx)) (by rw [HP5.out.length_eq, HL.out.1]; omega) (HU.out.below HB5.out) _ 0 HR1.out).mono ?_
    rintro r w6 ⟨A1, n1, c1, A2, n2, c2, A3, n3, c3, rfl, o1, o2, o3, b6⟩
    have hn2 := (o2.ev encI_len).nlen
    dsimp only at o1 o2 o3 hn2 ⊢
    obtain rfl : n2 = 0 := hn2
    have HMX := Lib.hid (show MB2 (w6.alloc (.cells #[.slice A1 n1 c1, .slice A2 0 c2, .slice A3 n3 c3, .int .i64 lost, .int .i64 nx, .bool false] 39)) w6.heap.size (.slice A1 n1 c1) (.slice A2 0 c2) (.slice A3 n3 c3) tr [] G lost nx false from
      ⟨MgBox.new w6 _ _ _ _ _ _, (o1.ev encE_len).below (bel_alloc _ _), (o2.ev encI_len).below (bel_alloc _ _), (o3.ev encP_len).below (bel_alloc _ _)⟩)
    have hb7 := b6.trans ((bel_alloc w6 (.cells #[.slice A1 n1 c1, .slice A2 0 c2, .slice A3 n3 c3, .int .i64 lost, .int .i64 nx, .bool false] 39)).mono b6.size)
    have HTV7 := Lib.hid (HTV5.out.below hb7)
    have HB7 := Lib.hid (bstep HB5.out hb7)
    have HCP7 := Lib.hid (HCP5.out.below hb7)
    have HCR7 := Lib.hid (HCR5.out.below hb7)
    clear HTV5 HB5 HCP5 HCR5 o1 o2 o3 b6 hb7
    unfold mgA
    go_upto_region 12 with fail
    generalize w6.alloc (.cells #[.slice A1 n1 c1, .slice A2 0 c2, .slice A3 n3 c3, .int .i64 lost, .int .i64 nx, .bool false] 39) = w7 at HMX HTV7 HB7 HCP7 HCR7 ⊢
    generalize w6.heap.size = X at HMX ⊢
    go_cut [16, 17] (fun a b wz => ∃ wq Y E1 m1 d1 E2 d2 E3 m3 d3, wq = wz ∧ a = .pointer (some ⟨Y, 0, none⟩) ∧ b = .int .i64 0 ∧ MB2 wq Y (.slice E1 m1 d1) (.slice E2 0 d2) (.slice E3 m3 d3) tr [] G lost nx false ∧ Below w7.heap.size w7 wq)
    case first =>
      go_wp2_with fail
      refine (blocks_sb w7 _ (CutP.all bs nx) HCP7.out.ev HCP7.out.evs' (HCP7.out.good HT.out) (by rw [HL.out.1]; omega) (HU.out.below HB7.out) _ 0 HR2.out).mono ?_
      rintro r w8 ⟨E1, m1, d1, E2, m2, d2, E3, m3, d3, rfl, o1, o2, o3, b8⟩
      have hn2 := (o2.ev encI_len).nlen
      dsimp only at o1 o2 o3 hn2 ⊢
      obtain rfl : m2 = 0 := hn2
      have HMY := Lib.hid (show MB2 (w8.alloc (.cells #[.slice E1 m1 d1, .slice E2 0 d2, .slice E3 m3 d3, .int .i64 lost, .int .i64 nx, .bool false] 39)) w8.heap.size (.slice E1 m1 d1) (.slice E2 0 d2) (.slice E3 m3 d3) tr [] G lost nx false from
        ⟨MgBox.new w8 _ _ _ _ _ _, (o1.ev encE_len).below (bel_alloc _ _), (o2.ev encI_len).below (bel_alloc _ _), (o3.ev encP_len).below (bel_alloc _ _)⟩)
      have HB8 := Lib.hid (b8.trans ((bel_alloc w8 (.cells #[.slice E1 m1 d1, .slice E2 0 d2, .slice E3 m3 d3, .int .i64 lost, .int .i64 nx, .bool false] 39)).mono b8.size))
      clear o1 o2 o3 b8
      unfold mgA
      go_wp2
      go_meet
      exact ⟨_, _, E1, m1, d1, E2, d2, E3, m3, d3, rfl, rfl, rfl, HMY.out, HB8.out⟩
    case rest =>
      obtain ⟨w9, Y, E1, m1, d1, E2, d2, E3, m3, d3, rfl, rfl, rfl, hy, b9⟩ := hcut
      have hcell := ((HCR7.out.below b9).sb HLAST.out).2.2.2.1
      refine (‹∀ (a : Act) (w : World), Code.wp _ _ _ a w → _› : ∀ (a : Act) (w : World), _ → _) _ _ (whole_t13 w _ X Y cb co p cc n1 c1 c2 n3 c3 m1 d1 d2 m3 d3 A1 A2 A3 E1 E2 E3 vt tr G lost nx (HMX.out.below b9) hy (HTV7.out.below b9) ⟨HW.out.srt, HW.out.can, HW.out.has, HW.out.cnt, HW.out.rng.2, HW.out.len.1, HW.out.len.2, HW.out.right⟩ hcell (by omega) HCC.out (bstep HB7.out b9))
end Go.Proofs.YtalophngappkhaaGreatDoor

/- MergeLost: a block of events is missing. -/
import Derived.Test.YtalophngappkhaaGreatDoorXx
import Derived.Test.YtalophngappkhaaGreatDoorZ29
set_option linter.unusedVariables false
set_option linter.unusedSimpArgs false
set_option linter.unusedSectionVars false
namespace Go.Proofs.YtalophngappkhaaGreatDoor
open Go Go.RowKit Go.Shelf
attribute [local go_sem] Oper.semAt_some

set_option maxRecDepth 100000 in
set_option maxHeartbeats 6400000 in
theorem lost_t9_mid (w wc : World) (X Y GB n1 c1 c2 n3 c3 m1 d1 d2 m3 d3 : Nat) (A1 A2 A3 E1 E2 E3 : Option Addr) (vt vg : Value) (tr : List Ev) (G G2 : List (Int × Int)) (b : Bck) (lost nx lost2 : Int) {u0 u1 u2 u3 u4 u5 u6 u7 u8 u10 u11 u17 u18 u19 u20 u21 u22 u23 u24 u25 u26 u27 u28 u29 u30 u31 u32 u33 u34 u35 u36 u37 u38 u39 u40 u41 u42 u43 u44 u45 u46 u47 u48 u49 u50 u51 u52 u53 u54 u55 u56 u57 u58 u59 u60 u61 u62 u63 u64 u65 u66 u67 u68 u69 u70 u71 u72 u73 u74 u75 u76 u77 u78 u79 u80 u81 u82 u83 u84 u85 u86 u87 u88 u89 u90 u91 u92 u93 u94 u95 u96 u97 u98 u99 u100 u101 u102 u103 u104 u105 u106 u107 u108 u109 u110 u111 u112 u113 u114 u115 u116 u117 u118 u119 u120 u121 u122 u123 u124 u125 u126 u127 u128 u129 u130 u131 u132 u133 u134 u135 u136 u137 u138 u139 u140 u141 u142 u143 u144 u145 u146 u147 u148 u149 u150 u151 u152 u153 u154 u155 u156 u157 u158 u159 u160 u161 u162 u163 u164 u165 u166 u167 u168 u169 u170 u171 u172 u173 u174 u175 u176 u177 u178 u179 u180 u181 : Value}
    (h : LoW wc X Y GB (.slice A1 n1 c1) (.slice A2 0 c2) (.slice A3 n3 c3) (.slice E1 m1 d1) (.slice E2 0 d2) (.slice E3 m3 d3) vt vg tr (leftL tr b) G G2 b lost nx lost2 nx false) (ht : Tr tr) (hk : b.kind = 1) (hbl : b.evs.length ≤ 6)
    (hlo : lost2 = lost - b.lost) (hl : 0 ≤ lost ∧ lost ≤ 1000) (hl2 : 0 ≤ b.lost ∧ b.lost ≤ 2)
    (hw : Srt (leftL tr b) (nx - 1) ∧ Can 0 G2 ∧ (∀ n, hasR G2 n = decide (1 ≤ n ∧ n < nx ∧ n ∉ seqsL (leftL tr b))) ∧ cntR G2 + (leftL tr b).length = nx - 1 ∧ nx ≤ 1000 ∧ (leftL tr b).length ≤ 1000 ∧ G2.length ≤ 1000 ∧ rightB G2 = true)
    (hg : Can 0 G ∧ rightB G = true ∧ (∀ n, hasR G n = decide (1 ≤ n ∧ n < nx ∧ n ∉ seqsL tr)) ∧ G.length ≤ 1000 ∧ (∀ e ∈ tr, e.seq < nx)) (hb : Below w.heap.size w wc) :
    Code.wp Tryz.prog (tailR Tryz.f6 9) (bodyPost Tryz.prog Tryz.f6 fun r w' => r = .returned (.bool true) ∧ Below w.heap.size w w')
      ⟨#[u0, u1, u2, u3, u4, u5, u6, u7, u8, vt, u10, u11, .pointer (some ⟨GB, 0, none⟩), .pointer (some ⟨X, 0, none⟩), .int .i64 0, .pointer (some ⟨Y, 0, none⟩), .int .i64 0, u17, u18, u19, u20, u21, u22, u23, u24, u25, u26, u27, u28, u29, u30, u31, u32, u33, u34, u35, u36, u37, u38, u39, u40, u41, u42, u43, u44, u45, u46, u47, u48, u49, u50, u51, u52, u53, u54, u55, u56, u57, u58, u59, u60, u61, u62, u63, u64, u65, u66, u67, u68, u69, u70, u71, u72, u73, u74, u75, u76, u77, u78, u79, u80, u81, u82, u83, u84, u85, u86, u87, u88, u89, u90, u91, u92, u93, u94, u95, u96, u97, u98, u99, u100, u101, u102, u103, u104, u105, u106, u107, u108, u109, u110, u111, u112, u113, u114, u115, u116, u117, u118, u119, u120, u121, u122, u123, u124, u125, u126, u127, u128, u129, u130, u131, u132, u133, u134, u135, u136, u137, u138, u139, u140, u141, u142, u143, u144, u145, u146, u147, u148, u149, u150, u151, u152, u153, u154, u155, u156, u157, u158, u159, u160, u161, u162, u163, u164, u165, u166, u167, u168, u169, u170, u171, u172, u173, u174, u175, u176, u177, u178, u179, u180, u181], []⟩ wc := by
  conv => arg 2; whnf
  conv => arg 4; dsimp only
  have HL := Lib.hid h
  have HB := Lib.hid hb
  have HT := Lib.hid ht
  have HN := Lib.hid (numbers_ok wc _ (.slice E2 0 d2) _ (leftL tr b) G2 lost2 nx false h.hy.ee h.hy.eg hw.1 hw.2.1 hw.2.2.1 hw.2.2.2.1 hw.2.2.2.2.1 hw.2.2.2.2.2.1 hw.2.2.2.2.2.2.1)
  have HW := Lib.hid hw
  have HG := Lib.hid hg
  have HBL := Lib.hid hbl
  have hl1 := hl.1
  have hl2' := hl.2
  have hb1 := hl2.1
  have hb2 := hl2.2
  unfold mgA at HN
  clear h hb ht hw hg hl hl2 hbl
  have y0 := HL.out.hy.box.c0
  have y1 := HL.out.hy.box.c1
  have y2 := HL.out.hy.box.c2
  have y3 := HL.out.hy.box.c3
  have y4 := HL.out.hy.box.c4
  have y5 := HL.out.hy.box.c5
  have hm1 : -2 ≤ lost2 := by omega
  have hm2 : lost2 ≤ 1000 := by omega
  have HLO := Lib.hid hlo
  have HK := Lib.hid hk
  clear hlo hk
  go_wp2_with fail
  refine HN.out.mono ?_
  rintro r w1 ⟨rfl, b1⟩
  have HL1 := Lib.hid (HL.out.below b1)
  have HB1 := Lib.hid (bstep HB.out b1)
  clear HL HB HN b1 y0 y1 y2 y3 y4 y5
  have y3 := HL1.out.hy.box.c3
  have x3 := HL1.out.hx.box.c3
  have g2 := HL1.out.gb.c2
  have g0 := HL1.out.gb.c0
  rw [HK.out] at g0
  have z1 : IntKind.i64.wrap (lost - b.lost) = lost2 := by rw [HLO.out]; exact IntWalk.i64_in _ (by omega)
  have z2 : wrap64 (lost - b.lost) = lost2 := by rw [HLO.out]; exact IntWalk.wrap64_in _ (by omega)
  obtain ⟨At, ct, hAt⟩ := HL1.out.tv.shape
  subst hAt
  obtain ⟨n, hn⟩ : ∃ n, tr.length = n := ⟨_, rfl⟩
  have HLN := Lib.hid (show tr.length = n ∧ n ≤ 40 from ⟨hn, by have := HT.out.len; omega⟩)
  have HEVT := Lib.hid (show EV encE 11 w1 (.slice At n ct) tr by rw [← hn]; exact HL1.out.tv)
  rw [hn]
  have hn40 := HLN.out.2
  have HGE := Lib.hid HL1.out.ge
  clear hn
  go_upto_block 0 with fail
  clear y3 x3 g2 g0 z1 z2
  go_cut [20, 21] (fun vl vm wz => ∃ wq, wq = wz ∧ OV encE 11 28 w1.heap.size wq vl (leftL tr b) ∧ OV encI 1 3 w1.heap.size wq vm (seqsL (goneL tr b)) ∧ Below w1.heap.size w1 wq)
  case first =>
    go_wp2
    go_loopg [20, 21, 123] n (fun k vl vm i wr => ∃ j : Nat, j + k = n ∧ i = .int .i64 j ∧ OV encE 11 28 w1.heap.size wr vl (leftL (tr.take j) b) ∧ OV encI 1 3 w1.heap.size wr vm (seqsL (goneL (tr.take j) b)) ∧ Below w1.heap.size w1 wr)
    case atStart => exact ⟨0, by omega, rfl, OV.nil _ _, OV.nil _ _, Below.refl _ _⟩
    case round =>
      obtain ⟨j, hj, rfl, ho, hm, hb⟩ := hrel
      have HJ := Lib.hid hj
      have HO := Lib.hid ho
      have HM := Lib.hid hm
      have HBR := Lib.hid hb
      clear hj ho hm hb
      by_cases hjl : j < n
      · obtain ⟨bb, off, c', hsl, hcc, hr⟩ := (HEVT.out.below HBR.out).row (by rw [HLN.out.1]; omega)
        rw [HLN.out.1] at hsl
        cases hsl
        obtain ⟨e, hev⟩ : ∃ e, tr[j]? = some e := ⟨_, List.getElem?_eq_getElem (by rw [HLN.out.1]; exact hjl)⟩
        obtain ⟨g0, g1, g2, g3, g4, g5, g6, g7, g8, g9, g10⟩ := hr.ev hev
        have HTK := Lib.hid (left_take b hev)
        have HLL := Lib.hid (show (leftL (tr.take j) b).length ≤ 40 ∧ (seqsL (goneL (tr.take j) b)).length ≤ 40 from by
          have h1 := List.length_filter_le (fun e => decide (e ∉ b.evs)) (tr.take j)
          have h2 := List.length_filter_le (fun e => decide (e ∈ b.evs)) (tr.take j)
          rw [List.length_take] at h1 h2
          unfold leftL seqsL goneL
          rw [List.length_map]
          have := HLN.out
          omega)
        have HEV := Lib.hid (evp_new wr e)
        have HA := Lib.hid (bel_alloc wr (.cells #[.int .i64 e.seq, .int .i64 e.time, .int .u8 e.cpu, .int .u8 e.kind, .int .i64 e.task, .int .i64 e.grp, .int .i64 e.to, .int .i64 e.wt, .int .i64 e.ticks, .int .u64 e.mask, .int .i64 e.got] 28))
        clear hr hcc hev
        go_upto_region 22 with fail
        have h1 := HEV.out
        have h2 := HA.out
        clear HEV HA g0 g1 g2 g3 g4 g5 g6 g7 g8 g9 g10
        generalize wr.alloc (.cells #[.int .i64 e.seq, .int .i64 e.time, .int .u8 e.cpu, .int .u8 e.kind, .int .i64 e.task, .int .i64 e.grp, .int .i64 e.to, .int .i64 e.wt, .int .i64 e.ticks, .int .u64 e.mask, .int .i64 e.got] 28) = wa at h1 h2 ⊢
        generalize wr.heap.size = B at h1 ⊢
        have HEV := Lib.hid h1
        have HB2 := Lib.hid (bstep HBR.out h2)
        have HO2 := Lib.hid (HO.out.below h2)
        have HM2 := Lib.hid (HM.out.below h2)
        have g4 := (HL1.out.gb.below HB2.out).c4
        have HCN := Lib.hid (contains_ev wa vg b.evs e (HGE.out.below HB2.out) (by have := HBL.out; omega))
        unfold evA at HCN
        clear h1 h2 HBR HO HM
        obtain ⟨e0, e1, e2, e3, e4, e5, e6, e7, e8, e9⟩ : _ ∧ _ ∧ _ ∧ _ ∧ _ ∧ _ ∧ _ ∧ _ ∧ _ ∧ _ := ⟨HEV.out.c0, HEV.out.c1, HEV.out.c2, HEV.out.c3, HEV.out.c4, HEV.out.c5, HEV.out.c6, HEV.out.c7, HEV.out.c8, HEV.out.c9⟩
        have e10 := HEV.out.c10
        go_wp2_with fail
        refine HCN.out.mono ?_
        rintro r w3 ⟨rfl, b3⟩
        have HB3 := Lib.hid (bstep HB2.out b3)
        have HO3 := Lib.hid (HO2.out.below b3)
        have HM3 := Lib.hid (HM2.out.below b3)
        have HEV3 := Lib.hid (HEV.out.below b3 (cell_lt HEV.out.c0))
        clear HCN HB2 HO2 HM2 HEV b3 e0 e1 e2 e3 e4 e5 e6 e7 e8 e9 e10 g4
        by_cases hin : e ∈ b.evs
        · have hd : decide (e ∈ b.evs) = true := decide_eq_true hin
          have HT1 := Lib.hid (show leftL (tr.take (j + 1)) b = leftL (tr.take j) b by rw [HTK.out.1, if_pos hin, List.append_nil])
          have HT2 := Lib.hid (show seqsL (goneL (tr.take (j + 1)) b) = seqsL (goneL (tr.take j) b) ++ [e.seq] by rw [HTK.out.2, if_pos hin])
          rw [hd]
          clear hin hd HTK
          have e0 := HEV3.out.c0
          go_wp2_with (at_builtin; refine wpList_app elemI encI_len encI_one rfl _ _ rfl _ _ rfl rfl (HM3.out.alloc _) (EV.newL (xs := [e.seq]) (n := 1) (c := 1) encI_len rfl rfl (Nat.le_refl _)) ?q1 ?q2 ?_)
          case q1 => have := HLL.out.2; simp; omega
          case q2 => have := HB3.out.size; simp; omega
          intro v' w8 o8 g8
          have hal := bel_alloc w3 (.cells #[.int .i64 e.seq] 3)
          have HM8 := Lib.hid o8
          have HO8 := Lib.hid ((HO3.out.below hal).keep g8 ((HO3.out.below hal).ne (HM3.out.below hal) (by decide)))
          have HB8 := Lib.hid ((bstep HB3.out hal).grown g8 (bstep HB3.out hal).size (fun g q => (HM3.out.block g q).1))
          clear o8 g8 hal e0
          go_wp2
          go_roundg (n - (j + 1))
          case measure => have := HJ.out; omega
          case rel => exact ⟨j + 1, by have := HJ.out; omega, by go_num, by rw [HT1.out]; exact HO8.out, by rw [HT2.out]; exact HM8.out, HB8.out⟩
        · have hd : decide (e ∈ b.evs) = false := decide_eq_false hin
          have HT1 := Lib.hid (show leftL (tr.take (j + 1)) b = leftL (tr.take j) b ++ [e] by rw [HTK.out.1, if_neg hin])
          have HT2 := Lib.hid (show seqsL (goneL (tr.take (j + 1)) b) = seqsL (goneL (tr.take j) b) by rw [HTK.out.2, if_neg hin, List.append_nil])
          rw [hd]
          clear hin hd HTK
          obtain ⟨e0, e1, e2, e3, e4, e5, e6, e7, e8, e9⟩ : _ ∧ _ ∧ _ ∧ _ ∧ _ ∧ _ ∧ _ ∧ _ ∧ _ ∧ _ := ⟨HEV3.out.c0, HEV3.out.c1, HEV3.out.c2, HEV3.out.c3, HEV3.out.c4, HEV3.out.c5, HEV3.out.c6, HEV3.out.c7, HEV3.out.c8, HEV3.out.c9⟩
          have e10 := HEV3.out.c10
          go_wp2_with (at_builtin; refine wpList_app elemE encE_len encE_one rfl _ _ rfl _ _ rfl rfl (HO3.out.alloc _) (EV.newL (xs := [e]) (n := 1) (c := 1) encE_len rfl rfl (Nat.le_refl _)) ?q1 ?q2 ?_)
          case q1 => have := HLL.out.1; simp; omega
          case q2 => have := HB3.out.size; simp; omega
          intro v' w8 o8 g8
          have hal := bel_alloc w3 (.cells #[.int .i64 e.seq, .int .i64 e.time, .int .u8 e.cpu, .int .u8 e.kind, .int .i64 e.task, .int .i64 e.grp, .int .i64 e.to, .int .i64 e.wt, .int .i64 e.ticks, .int .u64 e.mask, .int .i64 e.got] 28)
          have HO8 := Lib.hid o8
          have HM8 := Lib.hid ((HM3.out.below hal).keep g8 ((HM3.out.below hal).ne (HO3.out.below hal) (by decide)))
          have HB8 := Lib.hid ((bstep HB3.out hal).grown g8 (bstep HB3.out hal).size (fun g q => (HO3.out.block g q).1))
          clear o8 g8 hal e0 e1 e2 e3 e4 e5 e6 e7 e8 e9 e10
          go_wp2
          go_roundg (n - (j + 1))
          case measure => have := HJ.out; omega
          case rel => exact ⟨j + 1, by have := HJ.out; omega, by go_num, by rw [HT1.out]; exact HO8.out, by rw [HT2.out]; exact HM8.out, HB8.out⟩
      · obtain rfl : n = j := by have := HJ.out; omega
        have HTA := Lib.hid (show tr.take n = tr from List.take_of_length_le (Nat.le_of_eq HLN.out.1))
        go_wp2
        go_meet
        exact ⟨_, rfl, by rw [← HTA.out]; exact HO.out, by rw [← HTA.out]; exact HM.out, HBR.out⟩
  case rest =>
    obtain ⟨w2, rfl, ho, hm, b2⟩ := hcut
    have hL2 := HL1.out.below b2
    have hs := HT.out.srt'
    have hll : (goneL tr b).length ≤ tr.length := List.length_filter_le _ _
    refine (‹∀ (a : Act) (w : World), Code.wp _ _ _ a w → _› : ∀ (a : Act) (w : World), _ → _) _ _ (lost_t26 w w2 X Y n1 c1 c2 n3 c3 m1 d1 d2 m3 d3 A1 A2 A3 E1 E2 E3 _ _ (leftL tr b) tr (seqsL (goneL tr b)) G G2 lost lost2 nx hL2.hx hL2.hy (ho.ev encE_len) (hm.ev encI_len) HW.out.2.2.2.2.2.1 (by unfold seqsL; rw [List.length_map]; have := HLN.out; omega) HG.out.2.2.2.1 HW.out.2.2.2.2.2.2.1
      (lost_union hs (by have := HLN.out; omega) HG.out.2.2.2.2 HG.out.1 HG.out.2.1 HG.out.2.2.1 HW.out.2.1 HW.out.2.2.1) (bstep HB1.out b2))
end Go.Proofs.YtalophngappkhaaGreatDoor

/- MergeLost: its ends. -/
import Derived.Test.YtalophngappkhaaGreatDoorXw
import Derived.Test.YtalophngappkhaaGreatDoorXu
set_option linter.unusedVariables false
set_option linter.unusedSimpArgs false
set_option linter.unusedSectionVars false
namespace Go.Proofs.YtalophngappkhaaGreatDoor
open Go Go.RowKit Go.Shelf
attribute [local go_sem] Oper.semAt_some

set_option maxRecDepth 100000 in
set_option maxHeartbeats 6400000 in
theorem lost_t26 (w wc : World) (X Y n1 c1 c2 n3 c3 m1 d1 d2 m3 d3 : Nat) (A1 A2 A3 E1 E2 E3 : Option Addr) (vl vm : Value) (R tr : List Ev) (ms : List Int) (G G2 : List (Int × Int)) (lost lost2 nx : Int) {u0 u1 u2 u3 u4 u5 u6 u7 u8 u9 u10 u11 u12 u14 u16 u17 u18 u19 u22 u23 u24 u25 u26 u27 u28 u29 u30 u31 u32 u33 u34 u35 u36 u37 u38 u39 u40 u41 u42 u43 u44 u45 u46 u47 u48 u49 u50 u51 u52 u53 u54 u55 u56 u57 u58 u59 u60 u61 u62 u63 u64 u65 u66 u67 u68 u69 u70 u71 u72 u73 u74 u75 u76 u77 u78 u79 u80 u81 u82 u83 u84 u85 u86 u87 u88 u89 u90 u91 u92 u93 u94 u95 u96 u97 u98 u99 u100 u101 u102 u103 u104 u105 u106 u107 u108 u109 u110 u111 u112 u113 u114 u115 u116 u117 u118 u119 u120 u121 u122 u123 u124 u125 u126 u127 u128 u129 u130 u131 u132 u133 u134 u135 u136 u137 u138 u139 u140 u141 u142 u143 u144 u145 u146 u147 u148 u149 u150 u151 u152 u153 u154 u155 u156 u157 u158 u159 u160 u161 u162 u163 u164 u165 u166 u167 u168 u169 u170 u171 u172 u173 u174 u175 u176 u177 u178 u179 u180 u181 : Value}
    (hx : MB2 wc X (.slice A1 n1 c1) (.slice A2 0 c2) (.slice A3 n3 c3) tr [] G lost nx false) (hy : MB2 wc Y (.slice E1 m1 d1) (.slice E2 0 d2) (.slice E3 m3 d3) R [] G2 lost2 nx false)
    (hl : EV encE 11 wc vl R) (hm : EV encI 1 wc vm ms) (lR : R.length ≤ 1000) (lM : ms.length ≤ 1000) (lG : G.length ≤ 1000) (lG2 : G2.length ≤ 1000)
    (hf : ofE ms = 0 ∧ rerr [ofL ms, G] = 0 ∧ bothL tkU (ofL ms) G = G2 ∧ (ofL ms).length ≤ 65536) (hb : Below w.heap.size w wc) :
    Code.wp Tryz.prog (tailR Tryz.f6 26) (bodyPost Tryz.prog Tryz.f6 fun r w' => r = .returned (.bool true) ∧ Below w.heap.size w w')
      ⟨#[u0, u1, u2, u3, u4, u5, u6, u7, u8, u9, u10, u11, u12, .pointer (some ⟨X, 0, none⟩), u14, .pointer (some ⟨Y, 0, none⟩), u16, u17, u18, u19, vl, vm, u22, u23, u24, u25, u26, u27, u28, u29, u30, u31, u32, u33, u34, u35, u36, u37, u38, u39, u40, u41, u42, u43, u44, u45, u46, u47, u48, u49, u50, u51, u52, u53, u54, u55, u56, u57, u58, u59, u60, u61, u62, u63, u64, u65, u66, u67, u68, u69, u70, u71, u72, u73, u74, u75, u76, u77, u78, u79, u80, u81, u82, u83, u84, u85, u86, u87, u88, u89, u90, u91, u92, u93, u94, u95, u96, u97, u98, u99, u100, u101, u102, u103, u104, u105, u106, u107, u108, u109, u110, u111, u112, u113, u114, u115, u116, u117, u118, u119, u120, u121, u122, u123, u124, u125, u126, u127, u128, u129, u130, u131, u132, u133, u134, u135, u136, u137, u138, u139, u140, u141, u142, u143, u144, u145, u146, u147, u148, u149, u150, u151, u152, u153, u154, u155, u156, u157, u158, u159, u160, u161, u162, u163, u164, u165, u166, u167, u168, u169, u170, u171, u172, u173, u174, u175, u176, u177, u178, u179, u180, u181], []⟩ wc := by
  conv => arg 2; whnf
  conv => arg 4; dsimp only
  have HX := Lib.hid hx
  have HY := Lib.hid hy
  have HL := Lib.hid hl
  have HB := Lib.hid hb
  have HLR := Lib.hid (And.intro lR lG2)
  have HO := Lib.hid (of_ok wc vm ms hm (by omega))
  rw [hf.1] at HO
  have HU := Lib.hid (fun (W : World) (v1 v2 : Value) (h1 : EV encP 2 W v1 (ofL ms)) (h2 : EV encP 2 W v2 G) => union_ok W v1 v2 (ofL ms) G h1 h2 (by have := hf.2.2.2; omega) (by omega))
  rw [hf.2.1, if_pos rfl, hf.2.2.1] at HU
  clear hx hy hl hm hf hb lR lM lG lG2
  go_wp2_with fail
  refine HO.out.mono ?_
  rintro r w1 ⟨a, b, rfl, o1, o2, b1⟩
  have HX1 := Lib.hid (HX.out.below b1)
  have HY1 := Lib.hid (HY.out.below b1)
  have HL1 := Lib.hid (HL.out.below b1)
  have HB1 := Lib.hid (bstep HB.out b1)
  have HO1 := Lib.hid (o1.ev encP_len)
  clear HO HX HY HL HB o1 o2 b1
  have c2 := HX1.out.box.c2
  go_wp2_with fail
  refine (HU.out w1 a _ HO1.out HX1.out.eg).mono ?_
  rintro r w2 ⟨v2, rfl, o2, b2⟩
  have HX2 := Lib.hid (HX1.out.below b2)
  have HY2 := Lib.hid (HY1.out.below b2)
  have HL2 := Lib.hid (HL1.out.below b2)
  have HB2 := Lib.hid (bstep HB1.out b2)
  have HO2 := Lib.hid (o2.ev encP_len)
  clear HU HX1 HY1 HL1 HB1 HO1 o2 b2 c2
  have y5 := HY2.out.box.c5
  have y4 := HY2.out.box.c4
  have x4 := HX2.out.box.c4
  have y0 := HY2.out.box.c0
  go_wp2_with fail
  refine (eq_ev w2 _ vl R HY2.out.ee HL2.out (by have := HLR.out.1; omega)).mono ?_
  rintro r w3 ⟨rfl, b3⟩
  have HY3 := Lib.hid (HY2.out.below b3)
  have HO3 := Lib.hid (HO2.out.below b3)
  have HB3 := Lib.hid (bstep HB2.out b3)
  clear HX2 HY2 HL2 HB2 HO2 b3 y5 y4 x4 y0
  have y2 := HY3.out.box.c2
  go_wp2_with fail
  refine (eq_run w3 _ v2 G2 HY3.out.eg HO3.out (by have := HLR.out.2; omega)).mono ?_
  rintro r w4 ⟨rfl, b4⟩
  have HB4 := Lib.hid (bstep HB3.out b4)
  clear b4 y2
  go_wp2
  go_ret
  exact ⟨rfl, HB4.out⟩
/-- What is known behind both calls of Blocks. -/
structure LoW (wc : World) (X Y GB : Nat) (v1 v2 v3 u1 u2 u3 vt vg : Value) (tr R : List Ev) (G G2 : List (Int × Int)) (b : Bck) (lost nx lost2 nx2 : Int) (opn : Bool) : Prop where
  hx : MB2 wc X v1 v2 v3 tr [] G lost nx false
  hy : MB2 wc Y u1 u2 u3 R [] G2 lost2 nx2 opn
  gb : BkBox wc GB b vg
  ge : EV encE 11 wc vg b.evs
  tv : EV encE 11 wc vt tr
theorem LoW.below {wc w' : World} {X Y GB : Nat} {v1 v2 v3 u1 u2 u3 vt vg : Value} {tr R : List Ev} {G G2 : List (Int × Int)} {b : Bck} {lost nx lost2 nx2 : Int} {opn : Bool} (h : LoW wc X Y GB v1 v2 v3 u1 u2 u3 vt vg tr R G G2 b lost nx lost2 nx2 opn) (hb : Below wc.heap.size wc w') :
    LoW w' X Y GB v1 v2 v3 u1 u2 u3 vt vg tr R G G2 b lost nx lost2 nx2 opn := ⟨h.hx.below hb, h.hy.below hb, h.gb.below hb, h.ge.below hb, h.tv.below hb⟩
set_option maxRecDepth 100000 in
set_option maxHeartbeats 6400000 in
theorem lost_t9_end (w wc : World) (X Y GB n1 c1 c2 n3 c3 m1 d1 d2 m3 d3 : Nat) (A1 A2 A3 E1 E2 E3 : Option Addr) (vt vg : Value) (tr : List Ev) (G G2 : List (Int × Int)) (lost nx nx2 k : Int) {u0 u1 u2 u3 u4 u5 u6 u7 u8 u10 u11 u17 u18 u19 u20 u21 u22 u23 u24 u25 u26 u27 u28 u29 u30 u31 u32 u33 u34 u35 u36 u37 u38 u39 u40 u41 u42 u43 u44 u45 u46 u47 u48 u49 u50 u51 u52 u53 u54 u55 u56 u57 u58 u59 u60 u61 u62 u63 u64 u65 u66 u67 u68 u69 u70 u71 u72 u73 u74 u75 u76 u77 u78 u79 u80 u81 u82 u83 u84 u85 u86 u87 u88 u89 u90 u91 u92 u93 u94 u95 u96 u97 u98 u99 u100 u101 u102 u103 u104 u105 u106 u107 u108 u109 u110 u111 u112 u113 u114 u115 u116 u117 u118 u119 u120 u121 u122 u123 u124 u125 u126 u127 u128 u129 u130 u131 u132 u133 u134 u135 u136 u137 u138 u139 u140 u141 u142 u143 u144 u145 u146 u147 u148 u149 u150 u151 u152 u153 u154 u155 u156 u157 u158 u159 u160 u161 u162 u163 u164 u165 u166 u167 u168 u169 u170 u171 u172 u173 u174 u175 u176 u177 u178 u179 u180 u181 : Value}
    (h : LoW wc X Y GB (.slice A1 n1 c1) (.slice A2 0 c2) (.slice A3 n3 c3) (.slice E1 m1 d1) (.slice E2 0 d2) (.slice E3 m3 d3) vt vg tr tr G G2 (bkE k) lost nx lost nx2 true) (ht : Tr tr) (hn : nx2 = lastS tr + 1)
    (hw : Srt tr (nx2 - 1) ∧ Can 0 G2 ∧ (∀ n, hasR G2 n = decide (1 ≤ n ∧ n < nx2 ∧ n ∉ seqsL tr)) ∧ cntR G2 + tr.length = nx2 - 1 ∧ nx2 ≤ 1000 ∧ tr.length ≤ 1000 ∧ G2.length ≤ 1000 ∧ rightB G2 = true) (hl : 0 ≤ lost ∧ lost ≤ 1000) (hb : Below w.heap.size w wc) :
    Code.wp Tryz.prog (tailR Tryz.f6 9) (bodyPost Tryz.prog Tryz.f6 fun r w' => r = .returned (.bool true) ∧ Below w.heap.size w w')
      ⟨#[u0, u1, u2, u3, u4, u5, u6, u7, u8, vt, u10, u11, .pointer (some ⟨GB, 0, none⟩), .pointer (some ⟨X, 0, none⟩), .int .i64 0, .pointer (some ⟨Y, 0, none⟩), .int .i64 0, u17, u18, u19, u20, u21, u22, u23, u24, u25, u26, u27, u28, u29, u30, u31, u32, u33, u34, u35, u36, u37, u38, u39, u40, u41, u42, u43, u44, u45, u46, u47, u48, u49, u50, u51, u52, u53, u54, u55, u56, u57, u58, u59, u60, u61, u62, u63, u64, u65, u66, u67, u68, u69, u70, u71, u72, u73, u74, u75, u76, u77, u78, u79, u80, u81, u82, u83, u84, u85, u86, u87, u88, u89, u90, u91, u92, u93, u94, u95, u96, u97, u98, u99, u100, u101, u102, u103, u104, u105, u106, u107, u108, u109, u110, u111, u112, u113, u114, u115, u116, u117, u118, u119, u120, u121, u122, u123, u124, u125, u126, u127, u128, u129, u130, u131, u132, u133, u134, u135, u136, u137, u138, u139, u140, u141, u142, u143, u144, u145, u146, u147, u148, u149, u150, u151, u152, u153, u154, u155, u156, u157, u158, u159, u160, u161, u162, u163, u164, u165, u166, u167, u168, u169, u170, u171, u172, u173, u174, u175, u176, u177, u178, u179, u180, u181], []⟩ wc := by
  conv => arg 2; whnf
  conv => arg 4; dsimp only
  have HL := Lib.hid h
  have HB := Lib.hid hb
  have HT := Lib.hid ht
  have HN := Lib.hid (numbers_ok wc _ (.slice E2 0 d2) _ tr G2 lost nx2 true h.hy.ee h.hy.eg hw.1 hw.2.1 hw.2.2.1 hw.2.2.2.1 hw.2.2.2.2.1 hw.2.2.2.2.2.1 hw.2.2.2.2.2.2.1)
  have HW := Lib.hid hw
  have hl1 := hl.1
  have hl2 := hl.2
  have hnx := lastS_le ht
  have hq1 : 1 ≤ nx2 := by omega
  have hq2 : nx2 ≤ 1000 := hw.2.2.2.2.1
  have HNX := Lib.hid hn
  unfold mgA at HN
  clear h hb ht hw hl hn hnx
  have y0 := HL.out.hy.box.c0
  have y1 := HL.out.hy.box.c1
  have y2 := HL.out.hy.box.c2
  have y3 := HL.out.hy.box.c3
  have y4 := HL.out.hy.box.c4
  have y5 := HL.out.hy.box.c5
  go_wp2_with fail
  refine HN.out.mono ?_
  rintro r w1 ⟨rfl, b1⟩
  have HL1 := Lib.hid (HL.out.below b1)
  have HB1 := Lib.hid (bstep HB.out b1)
  clear HL HB HN b1 y0 y1 y2 y3 y4 y5
  have y3 := HL1.out.hy.box.c3
  have x3 := HL1.out.hx.box.c3
  have g2 : w1.cell? ⟨GB, 2, none⟩ = some (.int .i64 0) := HL1.out.gb.c2
  have g0 : w1.cell? ⟨GB, 0, none⟩ = some (.int .u8 2) := HL1.out.gb.c0
  obtain ⟨At, ct, hAt⟩ := HL1.out.tv.shape
  subst hAt
  obtain ⟨L, hL⟩ : ∃ L, tr.length = L := ⟨_, rfl⟩
  have HLN := Lib.hid hL
  have HEVT := Lib.hid (show EV encE 11 w1 (.slice At L ct) tr by rw [← hL]; exact HL1.out.tv)
  rw [hL]
  obtain ⟨bl, hbl⟩ : ∃ bl, decide (0 < L) = bl := ⟨_, rfl⟩
  have hbl' : decide ((0 : Int) < (L : Int)) = bl := by rw [← hbl]; exact decide_eq_decide.2 (by omega)
  have HBL := Lib.hid hbl
  clear hL
  go_upto_if 88 with fail
  go_cut [17] (fun x wz => x = .int .i64 nx2 ∧ w1 = wz)
  case first =>
    cases bl with
    | false =>
      have h0 : L = 0 := by have := of_decide_eq_false HBL.out; omega
      have hls : lastS tr = 0 := by rw [List.eq_nil_of_length_eq_zero (HLN.out.trans h0)]; rfl
      have HLS := Lib.hid hls
      clear h0 hls hbl hbl'
      go_wp2
      go_meet
      exact ⟨by rw [HNX.out, HLS.out]; rfl, rfl⟩
    | true =>
      have h0 : 0 < L := of_decide_eq_true HBL.out
      obtain ⟨b, off, c', hsl, hcc, hr⟩ := HEVT.out.row (by rw [HLN.out]; omega)
      rw [HLN.out] at hsl
      cases hsl
      obtain ⟨p, hp⟩ : ∃ p, L = p + 1 := ⟨L - 1, by omega⟩
      obtain ⟨e, hev⟩ : ∃ e, tr[p]? = some e := ⟨_, List.getElem?_eq_getElem (by rw [HLN.out]; omega)⟩
      have hls := lastS_at (HLN.out.trans hp) hev
      have z0 := (hr.ev hev).1
      have hle := lastS_le HT.out
      rw [hls] at hle
      have HLS := Lib.hid hls
      have hle1 := hle.1
      have hle2 := hle.2.1
      have hp1 : (L : Int) - 1 = (p : Int) := by omega
      have hpl : p < L := by omega
      have hlen := HW.out.2.2.2.2.2.1
      rw [HLN.out] at hlen
      have HP := Lib.hid hp
      clear hr hcc hev hls hle hp h0 hbl hbl'
      go_wp2
      go_meet
      exact ⟨by rw [HNX.out, HLS.out], rfl⟩
  case rest =>
    obtain ⟨rfl, rfl⟩ := hcut
    clear y3 x3 g2 g0 hbl hbl'
    have hfr := frs_open HW.out.2.2.2.2.2.2.2 HW.out.2.1 hq1 hq2
    have HF := Lib.hid (first_ok w1 (.slice E1 m1 d1) (.slice E2 0 d2) (.slice E3 m3 d3) lost nx2 nx2 true G2 HL1.out.hy.eg (by have := HW.out.2.2.2.2.2.2.1; omega))
    rw [hfr] at HF
    unfold mgA at HF
    clear hfr
    have y0 := HL1.out.hy.box.c0
    have y1 := HL1.out.hy.box.c1
    have y2 := HL1.out.hy.box.c2
    have y3 := HL1.out.hy.box.c3
    have y4 := HL1.out.hy.box.c4
    have y5 := HL1.out.hy.box.c5
    go_wp2_with fail
    refine HF.out.mono ?_
    rintro r w2 ⟨rfl, b2⟩
    have HL2 := Lib.hid (HL1.out.below b2)
    have HEV2 := Lib.hid (HEVT.out.below b2)
    have HB2 := Lib.hid (bstep HB1.out b2)
    clear HF HL1 HB1 HEVT b2 y0 y1 y2 y3 y4 y5
    have y0 := HL2.out.hy.box.c0
    have y4 := HL2.out.hy.box.c4
    have y5 := HL2.out.hy.box.c5
    go_wp2_with fail
    refine (eq_ev w2 _ _ tr HL2.out.hy.ee HEV2.out (by have := HW.out.2.2.2.2.2.1; omega)).mono ?_
    rintro r w3 ⟨rfl, b3⟩
    have HB3 := Lib.hid (bstep HB2.out b3)
    clear b3 y0 y4 y5
    go_wp2
    go_ret
    exact ⟨rfl, HB3.out⟩
end Go.Proofs.YtalophngappkhaaGreatDoor

/- MergeTwice: what is merged twice. -/
import Derived.Test.YtalophngappkhaaGreatDoorMte
import Derived.Test.YtalophngappkhaaGreatDoorXu
set_option linter.unusedVariables false
set_option linter.unusedSimpArgs false
set_option linter.unusedSectionVars false
namespace Go.Proofs.YtalophngappkhaaGreatDoor
open Go Go.RowKit Go.Shelf
attribute [local go_sem] Oper.semAt_some

/-- What is known behind both calls of Blocks. -/
structure TmW (w0 wc : World) (GB X Y cb co p cc : Nat) (sl : Sl3) (v1 v2 v3 u1 u2 u3 vw : Value) (tr : List Ev) (bs : List (Sl3 × Bck)) (b : Bck) (G : List (Int × Int)) (lost lost2 nx : Int) : Prop where
  ev : EV encSb 5 w0 (.slice (some ⟨cb, co, none⟩) (p + 1) cc) (CutP.all bs nx)
  evs : ∀ y ∈ CutP.all bs nx, EV encE 11 w0 (slV y.1) y.2.evs
  la : LaidAt w0
  gb : BkBox w0 GB b (slV sl)
  ge : EV encE 11 w0 (slV sl) b.evs
  hx : MB2 w0 X v1 v2 v3 tr [] G lost nx false
  bel : Below w0.heap.size w0 wc
  yge : w0.heap.size ≤ Y
  box : MgBox wc Y u1 u2 u3 lost2 nx false
  o1 : OV encE 11 28 w0.heap.size wc u1 tr
  o2 : OV encI 1 3 w0.heap.size wc u2 (seqsL b.evs)
  o3 : OV encP 2 34 w0.heap.size wc u3 G
  ow : OV encI 1 3 w0.heap.size wc vw (seqsL b.evs)
theorem TmW.below {w0 wc w' : World} {GB X Y cb co p cc : Nat} {sl : Sl3} {v1 v2 v3 u1 u2 u3 vw : Value} {tr : List Ev} {bs : List (Sl3 × Bck)} {b : Bck} {G : List (Int × Int)} {lost lost2 nx : Int} (h : TmW w0 wc GB X Y cb co p cc sl v1 v2 v3 u1 u2 u3 vw tr bs b G lost lost2 nx) (hb : Below wc.heap.size wc w') :
    TmW w0 w' GB X Y cb co p cc sl v1 v2 v3 u1 u2 u3 vw tr bs b G lost lost2 nx :=
  ⟨h.ev, h.evs, h.la, h.gb, h.ge, h.hx, bstep h.bel hb, h.yge, h.box.below hb, h.o1.below hb, h.o2.below hb, h.o3.below hb, h.ow.below hb⟩
set_option maxRecDepth 100000 in
set_option maxHeartbeats 6400000 in
theorem twice_t14 (w w0 wc : World) (GB X Y cb co p cc n1 c1 c2 n3 c3 m1 d1 m2 d2 m3 d3 : Nat) (A1 A2 A3 E1 E2 E3 : Option Addr) (vw : Value) (sl : Sl3) (tr : List Ev) (bs : List (Sl3 × Bck)) (b : Bck) (G : List (Int × Int)) (lost lost2 nx way : Int) {u0 u1 u2 u4 u5 u6 u7 u8 u9 u17 u18 u19 u20 u21 u22 u23 u24 u25 u26 u27 u28 u29 u30 u31 u32 u33 u34 u35 u36 u37 u38 u39 u40 u41 u42 u43 u44 u45 u46 u47 u48 u49 u50 u51 u52 u53 u54 u55 u56 u57 u58 u59 u60 u61 u62 u63 u64 u65 u66 u67 u68 u69 u70 u71 u72 u73 u74 u75 u76 u77 u78 u79 u80 u81 u82 u83 u84 u85 u86 u87 u88 u89 u90 u91 u92 u93 u94 u95 u96 u97 u98 u99 u100 u101 u102 u103 u104 u105 u106 u107 u108 u109 u110 u111 u112 u113 u114 u115 u116 u117 u118 u119 u120 u121 u122 u123 u124 u125 u126 u127 u128 u129 u130 u131 u132 u133 u134 u135 u136 u137 u138 u139 u140 u141 u142 u143 u144 u145 u146 u147 u148 u149 u150 u151 u152 u153 u154 u155 u156 u157 u158 u159 u160 u161 u162 u163 u164 u165 : Value}
    (hT : Tr tr) (hL : (CutP.all bs nx).length = p + 1 ∧ p ≤ 40) (hC : CutR tr (bs.map Prod.snd) nx) (h : TmW w0 wc GB X Y cb co p cc sl (.slice A1 n1 c1) (.slice A2 0 c2) (.slice A3 n3 c3) (.slice E1 m1 d1) (.slice E2 m2 d2) (.slice E3 m3 d3) vw tr bs b G lost lost2 nx)
    (hbm : b ∈ bs.map Prod.snd) (hwy : 0 ≤ way ∧ way ≤ 255) (hlo : lost2 = lost + b.lost) (hl : 0 ≤ lost ∧ lost ≤ 1000) (hl2 : 0 ≤ b.lost ∧ b.lost ≤ 2) (lG : G.length ≤ 1000) (hb : Below w.heap.size w w0) :
    Code.wp Tryz.prog (tailR Tryz.f10 14) (bodyPost Tryz.prog Tryz.f10 fun r w' => r = .returned (.bool true) ∧ Below w.heap.size w w')
      ⟨#[u0, u1, u2, .int .u8 way, u4, u5, u6, u7, u8, u9, .slice (some ⟨cb, co, none⟩) (p + 1) cc, .pointer (some ⟨GB, 0, none⟩), .pointer (some ⟨X, 0, none⟩), .int .i64 0, .pointer (some ⟨Y, 0, none⟩), .int .i64 0, vw, u17, u18, u19, u20, u21, u22, u23, u24, u25, u26, u27, u28, u29, u30, u31, u32, u33, u34, u35, u36, u37, u38, u39, u40, u41, u42, u43, u44, u45, u46, u47, u48, u49, u50, u51, u52, u53, u54, u55, u56, u57, u58, u59, u60, u61, u62, u63, u64, u65, u66, u67, u68, u69, u70, u71, u72, u73, u74, u75, u76, u77, u78, u79, u80, u81, u82, u83, u84, u85, u86, u87, u88, u89, u90, u91, u92, u93, u94, u95, u96, u97, u98, u99, u100, u101, u102, u103, u104, u105, u106, u107, u108, u109, u110, u111, u112, u113, u114, u115, u116, u117, u118, u119, u120, u121, u122, u123, u124, u125, u126, u127, u128, u129, u130, u131, u132, u133, u134, u135, u136, u137, u138, u139, u140, u141, u142, u143, u144, u145, u146, u147, u148, u149, u150, u151, u152, u153, u154, u155, u156, u157, u158, u159, u160, u161, u162, u163, u164, u165], []⟩ wc := by
  conv => arg 2; whnf
  conv => arg 4; dsimp only
  have HT := Lib.hid hT
  have HL := Lib.hid hL
  have HC := Lib.hid hC
  have H := Lib.hid h
  have HBM := Lib.hid hbm
  have HWY := Lib.hid hwy
  have HLO := Lib.hid hlo
  have HLG := Lib.hid lG
  have HB := Lib.hid hb
  have HCL := Lib.hid (hC.blk b hbm).len.2
  have hl1 := hl.1
  have hl2' := hl.2
  have hb1 := hl2.1
  have hb2 := hl2.2
  have y1 := h.box.c1
  have HEQ := Lib.hid (eq_int wc (.slice E2 m2 d2) vw (seqsL b.evs) (h.o2.ev encI_len) (h.ow.ev encI_len) (by unfold seqsL; rw [List.length_map]; have := HCL.out; omega))
  clear hT hL hC h hbm hwy hlo hl hl2 lG hb
  go_wp2_with fail
  refine HEQ.out.mono ?_
  rintro r w1 ⟨rfl, b1⟩
  have H1 := Lib.hid (H.out.below b1)
  clear HEQ H y1 b1
  have h1 := H1.out
  have y1 := h1.box.c1
  have y3 := h1.box.c3
  have x3 := (h1.hx.box.below h1.bel).c3
  have g2 := (h1.gb.below h1.bel).c2
  have z1 : IntKind.i64.wrap (lost + b.lost) = lost2 := by rw [HLO.out]; exact IntWalk.i64_in _ (by omega)
  have z2 : wrap64 (lost + b.lost) = lost2 := by rw [HLO.out]; exact IntWalk.wrap64_in _ (by omega)
  have f1 := h1.box.frz 1
  have f3 := h1.box.frz 3
  have hmd := (Mod.setCell (a := w1) (p := ⟨Y, 1, none⟩) (T := fun k => k = Y) (.slice none 0 0) rfl).trans (Mod.setCell (p := ⟨Y, 3, none⟩) (T := fun k => k = Y) (.int .i64 lost) rfl)
  have HY2 := Lib.hid (show MB2 ((w1.setCell ⟨Y, 1, none⟩ (.slice none 0 0)).setCell ⟨Y, 3, none⟩ (.int .i64 lost)) Y (.slice E1 m1 d1) (.slice none 0 0) (.slice E3 m3 d3) tr [] G lost nx false from
    ⟨(h1.box.set1 _).set3 _, (h1.o1.six h1.box.cell (by decide) hmd).ev encE_len, EV.nil _ _, (h1.o3.six h1.box.cell (by decide) hmd).ev encP_len⟩)
  have hyg := h1.yge
  have HB2 := Lib.hid (h1.bel.trans (hmd.below (B := w0.heap.size) (fun k hk t => by omega) h1.bel.size))
  clear h1 hmd hyg
  go_upto_region 16 with fail
  go_region
  have HX := Lib.hid (show Below w0.heap.size w0 _ ∧ MB2 _ Y _ _ _ tr [] G lost nx false from ⟨HB2.out, HY2.out⟩)
  clear y1 y3 x3 g2 z1 z2 f1 f3 HB2 HY2
  generalize (w1.setCell ⟨Y, 1, none⟩ (.slice none 0 0)).setCell ⟨Y, 3, none⟩ (.int .i64 lost) = wm at HX ⊢
  have HX := Lib.hid (show Below w0.heap.size w0 wm.drew ∧ MB2 wm.drew Y _ _ _ tr [] G lost nx false from ⟨below_drew HX.out.1, ⟨⟨HX.out.2.box.cell⟩, HX.out.2.ee, HX.out.2.et, HX.out.2.eg⟩⟩)
  generalize wm.drew = w2 at HX ⊢
  have hy := HX.out.2
  have hx := H1.out.hx.below HX.out.1
  have HSA := Lib.hid (same_ok w2 _ _ _ _ _ _ tr [] G lost nx false hy.ee hy.et hy.eg hx.ee hx.et hx.eg (by have := HT.out.len; omega) (by simp) (by have := HLG.out; omega))
  unfold mgA at HSA
  have y0 := hy.box.c0
  have y1 := hy.box.c1
  have y2 := hy.box.c2
  have y3 := hy.box.c3
  have y4 := hy.box.c4
  have y5 := hy.box.c5
  have x0 := hx.box.c0
  have x1 := hx.box.c1
  have x2 := hx.box.c2
  have x3 := hx.box.c3
  have x4 := hx.box.c4
  have x5 := hx.box.c5
  clear hy hx
  go_wp2_with fail
  refine HSA.out.mono ?_
  rintro r w3 ⟨rfl, b3⟩
  have HB3 := Lib.hid (bstep HX.out.1 b3)
  clear HSA HX y0 y1 y2 y3 y4 y5 x0 x1 x2 x3 x4 x5 b3
  go_upto_if 104 with fail
  go_cut [] (fun wz => w3 = wz)
  case first =>
    go_wp2
    go_meet
    rfl
  case rest =>
    obtain rfl := hcut
    have h1 := H1.out
    exact (‹∀ (a : Act) (w : World), Code.wp _ _ _ a w → _› : ∀ (a : Act) (w : World), _ → _) _ _ (twice_t19 w w3 GB cb co p cc sl tr bs b nx way HT.out HL.out HC.out (h1.ev.below HB3.out) (fun y hy => (h1.evs y hy).below HB3.out) (h1.la.below HB3.out) HBM.out (h1.gb.below HB3.out) (h1.ge.below HB3.out) HWY.out (bstep HB.out HB3.out))
end Go.Proofs.YtalophngappkhaaGreatDoor

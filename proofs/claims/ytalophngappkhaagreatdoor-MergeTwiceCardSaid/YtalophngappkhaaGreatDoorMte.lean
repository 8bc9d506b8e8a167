/- MergeTwice: the conflict is made. -/
import Derived.Test.YtalophngappkhaaGreatDoorMtd
set_option linter.unusedVariables false
set_option linter.unusedSimpArgs false
set_option linter.unusedSectionVars false
namespace Go.Proofs.YtalophngappkhaaGreatDoor
open Go Go.RowKit Go.Shelf
attribute [local go_sem] Oper.semAt_some

set_option maxRecDepth 100000 in
set_option maxHeartbeats 6400000 in
theorem twice_t19 (w wc : World) (GB cb co p cc : Nat) (sl : Sl3) (tr : List Ev) (bs : List (Sl3 × Bck)) (b : Bck) (nx way : Int) {u0 u1 u2 u4 u5 u6 u7 u8 u9 u12 u13 u14 u15 u16 u17 u18 u19 u20 u21 u22 u23 u24 u25 u26 u27 u28 u29 u30 u31 u32 u33 u34 u35 u36 u37 u38 u39 u40 u41 u42 u43 u44 u45 u46 u47 u48 u49 u50 u51 u52 u53 u54 u55 u56 u57 u58 u59 u60 u61 u62 u63 u64 u65 u66 u67 u68 u69 u70 u71 u72 u73 u74 u75 u76 u77 u78 u79 u80 u81 u82 u83 u84 u85 u86 u87 u88 u89 u90 u91 u92 u93 u94 u95 u96 u97 u98 u99 u100 u101 u102 u103 u104 u105 u106 u107 u108 u109 u110 u111 u112 u113 u114 u115 u116 u117 u118 u119 u120 u121 u122 u123 u124 u125 u126 u127 u128 u129 u130 u131 u132 u133 u134 u135 u136 u137 u138 u139 u140 u141 u142 u143 u144 u145 u146 u147 u148 u149 u150 u151 u152 u153 u154 u155 u156 u157 u158 u159 u160 u161 u162 u163 u164 u165 : Value}
    (hT : Tr tr) (hL : (CutP.all bs nx).length = p + 1 ∧ p ≤ 40) (hC : CutR tr (bs.map Prod.snd) nx) (hev : EV encSb 5 wc (.slice (some ⟨cb, co, none⟩) (p + 1) cc) (CutP.all bs nx)) (hevs : ∀ y ∈ CutP.all bs nx, EV encE 11 wc (slV y.1) y.2.evs) (hla : LaidAt wc)
    (hbm : b ∈ bs.map Prod.snd) (hg : BkBox wc GB b (slV sl)) (hge : EV encE 11 wc (slV sl) b.evs) (hwy : 0 ≤ way ∧ way ≤ 255) (hb : Below w.heap.size w wc) :
    Code.wp Tryz.prog (tailR Tryz.f10 19) (bodyPost Tryz.prog Tryz.f10 fun r w' => r = .returned (.bool true) ∧ Below w.heap.size w w')
      ⟨#[u0, u1, u2, .int .u8 way, u4, u5, u6, u7, u8, u9, .slice (some ⟨cb, co, none⟩) (p + 1) cc, .pointer (some ⟨GB, 0, none⟩), u12, u13, u14, u15, u16, u17, u18, u19, u20, u21, u22, u23, u24, u25, u26, u27, u28, u29, u30, u31, u32, u33, u34, u35, u36, u37, u38, u39, u40, u41, u42, u43, u44, u45, u46, u47, u48, u49, u50, u51, u52, u53, u54, u55, u56, u57, u58, u59, u60, u61, u62, u63, u64, u65, u66, u67, u68, u69, u70, u71, u72, u73, u74, u75, u76, u77, u78, u79, u80, u81, u82, u83, u84, u85, u86, u87, u88, u89, u90, u91, u92, u93, u94, u95, u96, u97, u98, u99, u100, u101, u102, u103, u104, u105, u106, u107, u108, u109, u110, u111, u112, u113, u114, u115, u116, u117, u118, u119, u120, u121, u122, u123, u124, u125, u126, u127, u128, u129, u130, u131, u132, u133, u134, u135, u136, u137, u138, u139, u140, u141, u142, u143, u144, u145, u146, u147, u148, u149, u150, u151, u152, u153, u154, u155, u156, u157, u158, u159, u160, u161, u162, u163, u164, u165], []⟩ wc := by
  conv => arg 2; whnf
  conv => arg 4; dsimp only
  have HT := Lib.hid hT
  have HL := Lib.hid hL
  have HC := Lib.hid hC
  have HEV := Lib.hid hev
  have HES := Lib.hid hevs
  have HLA := Lib.hid hla
  have HBM := Lib.hid hbm
  have HG := Lib.hid hg
  have HGE := Lib.hid hge
  have HWY := Lib.hid hwy
  have HB := Lib.hid hb
  have hcb := (hC.blk b hbm)
  have HCB := Lib.hid hcb
  have hw1 := hwy.1
  have hw2 := hwy.2
  obtain ⟨As, ns, cs⟩ := sl
  unfold slV at HG HGE
  have c0 := hg.c0
  have c1 := hg.c1
  have c2 := hg.c2
  have c3 := hg.c3
  have c4 := HG.out.c4
  have HA := Lib.hid (bel_alloc wc (.cells #[.int .u8 b.kind, .int .u8 b.cpu, .int .i64 b.lost, .int .i64 b.next, .slice As ns cs] 24))
  have HBX := Lib.hid (show BkBox (wc.alloc (.cells #[.int .u8 b.kind, .int .u8 b.cpu, .int .i64 b.lost, .int .i64 b.next, .slice As ns cs] 24)) wc.heap.size b (.slice As ns cs) from BkBox.new wc b _)
  clear hT hL hC hev hevs hla hbm hg hge hwy hb hcb
  go_upto_region 20 with fail
  generalize wc.alloc (.cells #[.int .u8 b.kind, .int .u8 b.cpu, .int .i64 b.lost, .int .i64 b.next, .slice As ns cs] 24) = w1 at HA HBX ⊢
  obtain ⟨BB, hBB⟩ : ∃ BB, wc.heap.size = BB := ⟨_, rfl⟩
  have HBB := Lib.hid hBB
  rw [hBB] at HBX ⊢
  clear hBB c0 c1 c2 c3 c4
  have c4 := (HG.out.below HA.out).c4
  go_wp2_with fail
  refine (clone_ev w1 (.slice As ns cs) b.evs (HGE.out.below HA.out) (by have := HCB.out.len; omega)).mono ?_
  rintro r w2 ⟨v2, rfl, o2, b2⟩
  have HBX2 := Lib.hid (HBX.out.below b2)
  have HO2 := Lib.hid (o2.base_le HA.out.size)
  have HB2 := Lib.hid (bstep HA.out b2)
  clear c4 HBX o2 b2 HA
  have hpos := HCB.out.len.1
  obtain ⟨g, cap, hv2, hg1, hg2⟩ := HO2.out.form hpos
  obtain ⟨m, hm⟩ : ∃ m, b.evs.length = m := ⟨_, rfl⟩
  have HMM := Lib.hid hm
  rw [hm] at hv2 hpos
  subst hv2
  have hm6 : m ≤ 6 := by rw [← hm]; exact HCB.out.len.2
  have c4 := HBX2.out.c4
  have f4 : w2.frozen? ⟨BB, 4, none⟩ = false := frozen_of_row w2 BB 4 _ _ HBX2.out.cell
  have hne : g ≠ BB := fun e => by
    obtain ⟨_, hrow⟩ := HO2.out
    rcases hrow with ⟨h0, _⟩ | ⟨g', cap', cur, h0, _, hg', _⟩
    · cases h0
    · simp only [Value.slice.injEq, Option.some.injEq, Addr.mk.injEq, and_true] at h0
      obtain ⟨rfl, _⟩ := h0
      rw [e, HBX2.out.cell] at hg'
      cases hg'
  have hmd := Mod.setCell (a := w2) (p := ⟨BB, 4, none⟩) (T := fun k => k = BB) (.slice (some ⟨g, 0, none⟩) m cap) rfl
  have HBX3 := Lib.hid (show BkBox (w2.setCell ⟨BB, 4, none⟩ (.slice (some ⟨g, 0, none⟩) m cap)) BB b (.slice (some ⟨g, 0, none⟩) m cap) from ⟨heap_setCell_same w2 BB 4 _ _ _ HBX2.out.cell⟩)
  have HO3 := Lib.hid (HO2.out.mod hmd (fun k hk t => by
    simp only [Value.ownBlock, Option.some.injEq] at hk
    exact hne (hk.trans t)))
  have HB3 := Lib.hid (HB2.out.trans (hmd.below (B := wc.heap.size) (fun k hk t => by have := HBB.out; omega) HB2.out.size))
  clear hm hg1 hg2 hne hmd
  go_upto_region 21 with fail
  clear c4 f4 HBX2 HO2 HB2
  generalize w2.setCell ⟨BB, 4, none⟩ (.slice (some ⟨g, 0, none⟩) m cap) = w3 at HBX3 HO3 HB3 ⊢
  have c4 := HBX3.out.c4
  have hz1 := Int.emod_nonneg way (show (m : Int) ≠ 0 by omega)
  have hz2 := Int.emod_lt_of_pos way (show (0 : Int) < (m : Int) by omega)
  have hz3 : ¬ (m : Int) = 0 := by omega
  have hz4 : ¬ m = 0 := by omega
  obtain ⟨i, hi⟩ : ∃ i : Nat, way % (m : Int) = (i : Int) := ⟨(way % (m : Int)).toNat, by omega⟩
  have him : i < m := by omega
  go_cut [20] (fun v wz => w3 = wz ∧ v = .int .i64 (i : Nat))
  case first =>
    go_wp2
    try rw [hi]
    go_meet
    first | exact ⟨rfl, rfl⟩ | exact ⟨rfl, by rw [hi]⟩
  case rest =>
    obtain ⟨rfl, rfl⟩ := hcut
    obtain ⟨e, he⟩ : ∃ e, b.evs[i]? = some e := ⟨_, List.getElem?_eq_getElem (by rw [HMM.out]; exact him)⟩
    exact (‹∀ (a : Act) (w : World), Code.wp _ _ _ a w → _› : ∀ (a : Act) (w : World), _ → _) _ _ (twice_t22 w wc w3 BB cb co p cc g m cap i tr bs b e nx way HT.out HL.out HC.out ⟨HEV.out, HES.out, HLA.out, HB3.out, HBX3.out, HO3.out, HMM.out, he⟩ HBM.out HWY.out him hm6 HB.out)
end Go.Proofs.YtalophngappkhaaGreatDoor

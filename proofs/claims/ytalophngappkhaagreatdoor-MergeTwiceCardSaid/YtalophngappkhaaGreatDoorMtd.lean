/- MergeTwice: the event that is put in. -/
import Derived.Test.YtalophngappkhaaGreatDoorMtc
set_option linter.unusedVariables false
set_option linter.unusedSimpArgs false
set_option linter.unusedSectionVars false
namespace Go.Proofs.YtalophngappkhaaGreatDoor
open Go Go.RowKit Go.Shelf
attribute [local go_sem] Oper.semAt_some

theorem wake_chg {tr : List Ev} (ht : Tr tr) {b : Bck} (hb : CutB tr b) {i : Nat} {e : Ev} (he : b.evs[i]? = some e) {ta : Int} (h1 : 1 ≤ ta ∧ ta ≤ 1000) (hne : wakeE e.seq e.time b.cpu ta ≠ e) : Chg1 b i e (wakeE e.seq e.time b.cpu ta) := by
  have hm := hb.sub.mem (List.mem_of_getElem? he)
  have hk := ht.ok e hm
  have hl := ht.len
  have := hb.cpu
  have := wake_ok (s := e.seq) (t := e.time) (c := b.cpu) (ta := ta) (by omega) (by omega) (by omega) (by omega)
  exact ⟨he, hne, rfl, rfl, rfl, this.1, this.2⟩
set_option maxRecDepth 100000 in
set_option maxHeartbeats 6400000 in
theorem twice_t23 (w w0 wc : World) (BB X cb co p cc g m cap i : Nat) (tr : List Ev) (bs : List (Sl3 × Bck)) (b : Bck) (e : Ev) (nx way : Int) {u0 u1 u2 u3 u4 u5 u6 u7 u8 u9 u11 u12 u13 u14 u15 u16 u17 u18 u22 u23 u24 u25 u26 u27 u28 u29 u30 u31 u32 u33 u34 u35 u36 u37 u38 u39 u40 u41 u42 u43 u44 u45 u46 u47 u48 u49 u50 u51 u52 u53 u54 u55 u56 u57 u58 u59 u60 u61 u62 u63 u64 u65 u66 u67 u68 u69 u70 u71 u72 u73 u74 u75 u76 u77 u78 u79 u80 u81 u82 u83 u84 u85 u86 u87 u88 u89 u90 u91 u92 u93 u94 u95 u96 u97 u98 u99 u100 u101 u102 u103 u104 u105 u106 u107 u108 u109 u110 u111 u112 u113 u114 u115 u116 u117 u118 u119 u120 u121 u122 u123 u124 u125 u126 u127 u128 u129 u130 u131 u132 u133 u134 u135 u136 u137 u138 u139 u140 u141 u142 u143 u144 u145 u146 u147 u148 u149 u150 u151 u152 u153 u154 u155 u156 u157 u158 u159 u160 u161 u162 u163 u164 u165 : Value}
    (hT : Tr tr) (hL : (CutP.all bs nx).length = p + 1 ∧ p ≤ 40) (hC : CutR tr (bs.map Prod.snd) nx) (h : TwW w0 wc BB cb co p cc g m cap i bs nx b e) (hbm : b ∈ bs.map Prod.snd) (hx : EB wc X (wakeE e.seq e.time b.cpu (1 + way))) (hX : w0.heap.size ≤ X) (hgX : g ≠ X ∧ BB ≠ X) (hwy : 0 ≤ way ∧ way ≤ 255) (him : i < m) (hm : m ≤ 6) (hb : Below w.heap.size w w0) :
    Code.wp Tryz.prog (tailR Tryz.f10 23) (bodyPost Tryz.prog Tryz.f10 fun r w' => r = .returned (.bool true) ∧ Below w.heap.size w w')
      ⟨#[u0, u1, u2, u3, u4, u5, u6, u7, u8, u9, .slice (some ⟨cb, co, none⟩) (p + 1) cc, u11, u12, u13, u14, u15, u16, u17, u18, .pointer (some ⟨BB, 0, none⟩), .int .i64 (i : Nat), .pointer (some ⟨X, 0, none⟩), u22, u23, u24, u25, u26, u27, u28, u29, u30, u31, u32, u33, u34, u35, u36, u37, u38, u39, u40, u41, u42, u43, u44, u45, u46, u47, u48, u49, u50, u51, u52, u53, u54, u55, u56, u57, u58, u59, u60, u61, u62, u63, u64, u65, u66, u67, u68, u69, u70, u71, u72, u73, u74, u75, u76, u77, u78, u79, u80, u81, u82, u83, u84, u85, u86, u87, u88, u89, u90, u91, u92, u93, u94, u95, u96, u97, u98, u99, u100, u101, u102, u103, u104, u105, u106, u107, u108, u109, u110, u111, u112, u113, u114, u115, u116, u117, u118, u119, u120, u121, u122, u123, u124, u125, u126, u127, u128, u129, u130, u131, u132, u133, u134, u135, u136, u137, u138, u139, u140, u141, u142, u143, u144, u145, u146, u147, u148, u149, u150, u151, u152, u153, u154, u155, u156, u157, u158, u159, u160, u161, u162, u163, u164, u165], []⟩ wc := by
  conv => arg 2; whnf
  conv => arg 4; dsimp only
  have HT := Lib.hid hT
  have HL := Lib.hid hL
  have HC := Lib.hid hC
  have H := Lib.hid h
  have HBM := Lib.hid hbm
  have HX := Lib.hid hx
  have HXS := Lib.hid (And.intro hX hgX)
  have HB := Lib.hid hb
  obtain ⟨b0, hb0, hb0e⟩ := List.mem_map.1 hbm
  have hcb := hC.blk b hbm
  have HCB := Lib.hid hcb
  have HAT := Lib.hid h.at_
  have hw1 := hwy.1
  have hw2 := hwy.2
  have c4 := h.box.c4
  obtain ⟨x, hxe⟩ : ∃ x, wakeE e.seq e.time b.cpu (1 + way) = x := ⟨_, rfl⟩
  have HXE := Lib.hid hxe
  rw [hxe] at hx HX
  have x0 := hx.c 0 _ rfl
  have x1 := hx.c 1 _ rfl
  have x2 := hx.c 2 _ rfl
  have x3 := hx.c 3 _ rfl
  have x4 := hx.c 4 _ rfl
  have x5 := hx.c 5 _ rfl
  have x6 := hx.c 6 _ rfl
  have x7 := hx.c 7 _ rfl
  have x8 := hx.c 8 _ rfl
  have x9 := hx.c 9 _ rfl
  have x10 := hx.c 10 _ rfl
  obtain ⟨b1, o1, cp1, hs1, hcp, hr1⟩ := (h.own.ev encE_len).row (by rw [h.len]; omega)
  simp only [Value.slice.injEq, Option.some.injEq, Addr.mk.injEq, and_true] at hs1
  obtain ⟨⟨rfl, rfl⟩, _, rfl⟩ := hs1
  obtain ⟨g0, g1, g2, g3, g4, g5, g6, g7, g8, g9, g10⟩ := hr1.ev h.at_
  simp only [Nat.zero_add] at g0 g1 g2 g3 g4 g5 g6 g7 g8 g9 g10
  have heq := fun (W : World) => ev_eql x e W
  unfold evA at heq
  obtain ⟨bq, hbq⟩ : ∃ bq, decide (x = e) = bq := ⟨_, rfl⟩
  rw [hbq] at heq
  have HBQ := Lib.hid hbq
  clear hT hL hC h hbm hx hb hr1 hcp hb0 hb0e hcb hX hgX hwy hxe hbq
  go_wp2_with fail
  go_quiet (fail)
  have H1 := Lib.hid (H.out.below (below_drewN (Below.refl _ _) nq))
  have HX1 := Lib.hid (show EB (wc.drewN nq) X x from ⟨HX.out.cell⟩)
  clear x0 x1 x2 x3 x4 x5 x6 x7 x8 x9 x10 g0 g1 g2 g3 g4 g5 g6 g7 g8 g9 g10 c4 heq H HX
  generalize wc.drewN nq = wd at H1 HX1 ⊢
  go_upto_if 140 with fail
  go_cut [] (fun wz => ∃ wq ta, wq = wz ∧ TwW w0 wq BB cb co p cc g m cap i bs nx b e ∧ EB wq X (wakeE e.seq e.time b.cpu ta) ∧ (1 ≤ ta ∧ ta ≤ 1000) ∧ wakeE e.seq e.time b.cpu ta ≠ e)
  case first =>
    cases bq with
    | false =>
      have HNE := Lib.hid (of_decide_eq_false HBQ.out)
      go_wp2
      go_meet
      exact ⟨_, 1 + way, rfl, H1.out, by rw [HXE.out]; exact HX1.out, by omega, by rw [HXE.out]; exact HNE.out⟩
    | true =>
      have HEQ := Lib.hid (of_decide_eq_true HBQ.out)
      have HX2 := Lib.hid (show EB wd X (wakeE e.seq e.time b.cpu (1 + way)) by rw [HXE.out]; exact HX1.out)
      have x4 : wd.cell? ⟨X, 4, none⟩ = some (.int .i64 (1 + way)) := HX2.out.c 4 _ rfl
      have f4 := HX2.out.f 4
      have HST := Lib.hid (show EB (wd.setCell ⟨X, 4, none⟩ (.int .i64 (1 + way + 1))) X (wakeE e.seq e.time b.cpu (1 + way + 1)) from HX2.out.set 4 (.int .i64 (1 + way + 1)) (wakeE e.seq e.time b.cpu (1 + way + 1)) rfl)
      have HMD := Lib.hid (Mod.setCell (a := wd) (p := ⟨X, 4, none⟩) (T := fun k => k = X) (.int .i64 (1 + way + 1)) rfl)
      have h1 := H1.out
      have HTW := Lib.hid (show TwW w0 (wd.setCell ⟨X, 4, none⟩ (.int .i64 (1 + way + 1))) BB cb co p cc g m cap i bs nx b e from
        ⟨h1.ev, h1.evs, h1.la, h1.bel.trans (HMD.out.below (B := w0.heap.size) (fun k hk t => by have := HXS.out.1; omega) h1.bel.size), ⟨(HMD.out.block BB h1.box.lt HXS.out.2.2).trans h1.box.cell⟩, h1.own.mod HMD.out (fun k hk t => by
          simp only [Value.ownBlock, Option.some.injEq] at hk
          exact HXS.out.2.1 (hk.trans t)), h1.len, h1.at_⟩)
      clear h1
      go_wp2
      go_meet
      refine ⟨_, 1 + way + 1, rfl, HTW.out, HST.out, by omega, fun hh => ?_⟩
      have h2 : (wakeE e.seq e.time b.cpu (1 + way + 1)).task = (wakeE e.seq e.time b.cpu (1 + way)).task := by rw [hh, HXE.out, HEQ.out]
      have h3 : (1 + way + 1 : Int) = 1 + way := h2
      omega
  case rest =>
    obtain ⟨w1, ta, rfl, h1, h2, h3, h4⟩ := hcut
    exact (‹∀ (a : Act) (w : World), Code.wp _ _ _ a w → _› : ∀ (a : Act) (w : World), _ → _) _ _ (twice_t25 w w0 w1 BB X cb co p cc g m cap i tr bs b e _ nx HT.out HL.out HC.out h1 HBM.out (wake_chg HT.out HCB.out HAT.out h3 h4) h2 him hm HB.out)
/-- An empty event's box. -/
def ZEv (wc W : World) (v : Value) : Prop := ∃ X, v = .pointer (some ⟨X, 0, none⟩) ∧ wc.heap.size ≤ X ∧ EB W X ev0
def FEv (wc W : World) (v : Value) (e : Ev) : Prop := ∃ X, v = .pointer (some ⟨X, 0, none⟩) ∧ wc.heap.size ≤ X ∧ EB W X e
set_option maxRecDepth 100000 in
set_option maxHeartbeats 6400000 in
theorem twice_t22 (w w0 wc : World) (BB cb co p cc g m cap i : Nat) (tr : List Ev) (bs : List (Sl3 × Bck)) (b : Bck) (e : Ev) (nx way : Int) {u0 u1 u2 u4 u5 u6 u7 u8 u9 u11 u12 u13 u14 u15 u16 u17 u18 u21 u22 u23 u24 u25 u26 u27 u28 u29 u30 u31 u32 u33 u34 u35 u36 u37 u38 u39 u40 u41 u42 u43 u44 u45 u46 u47 u48 u49 u50 u51 u52 u53 u54 u55 u56 u57 u58 u59 u60 u61 u62 u63 u64 u65 u66 u67 u68 u69 u70 u71 u72 u73 u74 u75 u76 u77 u78 u79 u80 u81 u82 u83 u84 u85 u86 u87 u88 u89 u90 u91 u92 u93 u94 u95 u96 u97 u98 u99 u100 u101 u102 u103 u104 u105 u106 u107 u108 u109 u110 u111 u112 u113 u114 u115 u116 u117 u118 u119 u120 u121 u122 u123 u124 u125 u126 u127 u128 u129 u130 u131 u132 u133 u134 u135 u136 u137 u138 u139 u140 u141 u142 u143 u144 u145 u146 u147 u148 u149 u150 u151 u152 u153 u154 u155 u156 u157 u158 u159 u160 u161 u162 u163 u164 u165 : Value}
    (hT : Tr tr) (hL : (CutP.all bs nx).length = p + 1 ∧ p ≤ 40) (hC : CutR tr (bs.map Prod.snd) nx) (h : TwW w0 wc BB cb co p cc g m cap i bs nx b e) (hbm : b ∈ bs.map Prod.snd) (hwy : 0 ≤ way ∧ way ≤ 255) (him : i < m) (hm : m ≤ 6) (hb : Below w.heap.size w w0) :
    Code.wp Tryz.prog (tailR Tryz.f10 22) (bodyPost Tryz.prog Tryz.f10 fun r w' => r = .returned (.bool true) ∧ Below w.heap.size w w')
      ⟨#[u0, u1, u2, .int .u8 way, u4, u5, u6, u7, u8, u9, .slice (some ⟨cb, co, none⟩) (p + 1) cc, u11, u12, u13, u14, u15, u16, u17, u18, .pointer (some ⟨BB, 0, none⟩), .int .i64 (i : Nat), u21, u22, u23, u24, u25, u26, u27, u28, u29, u30, u31, u32, u33, u34, u35, u36, u37, u38, u39, u40, u41, u42, u43, u44, u45, u46, u47, u48, u49, u50, u51, u52, u53, u54, u55, u56, u57, u58, u59, u60, u61, u62, u63, u64, u65, u66, u67, u68, u69, u70, u71, u72, u73, u74, u75, u76, u77, u78, u79, u80, u81, u82, u83, u84, u85, u86, u87, u88, u89, u90, u91, u92, u93, u94, u95, u96, u97, u98, u99, u100, u101, u102, u103, u104, u105, u106, u107, u108, u109, u110, u111, u112, u113, u114, u115, u116, u117, u118, u119, u120, u121, u122, u123, u124, u125, u126, u127, u128, u129, u130, u131, u132, u133, u134, u135, u136, u137, u138, u139, u140, u141, u142, u143, u144, u145, u146, u147, u148, u149, u150, u151, u152, u153, u154, u155, u156, u157, u158, u159, u160, u161, u162, u163, u164, u165], []⟩ wc := by
  conv => arg 2; whnf
  conv => arg 4; dsimp only
  have HT := Lib.hid hT
  have HL := Lib.hid hL
  have HC := Lib.hid hC
  have H := Lib.hid h
  have HBM := Lib.hid hbm
  have HWY := Lib.hid hwy
  have HB := Lib.hid hb
  have HBX := Lib.hid h.box
  have hw1 := hwy.1
  have hw2 := hwy.2
  obtain ⟨b1, o1, cp1, hs1, hcp, hr1⟩ := (h.own.ev encE_len).row (by rw [h.len]; omega)
  simp only [Value.slice.injEq, Option.some.injEq, Addr.mk.injEq, and_true] at hs1
  obtain ⟨⟨rfl, rfl⟩, hml, rfl⟩ := hs1
  clear hml
  obtain ⟨g0, g1, -⟩ := hr1.ev h.at_
  simp only [Nat.zero_add] at g0 g1
  have HG0 := Lib.hid g0
  have HG1 := Lib.hid g1
  have HLT := Lib.hid (And.intro (cell_lt g0) h.box.lt)
  have him2 : (i : Int) < (m : Int) := by omega
  clear hT hL hC h hbm hwy hb hr1 hcp g0 g1
  apply wp_seq_k
  intro K0 hK0
  go_cut [21] (fun a wz => ∃ wq X, wq = wz ∧ a = .pointer (some ⟨X, 0, none⟩) ∧ wc.heap.size ≤ X ∧ EB wq X (wakeE e.seq e.time b.cpu (1 + way)) ∧ Below wc.heap.size wc wq)
  case first =>
    go_wp2_with fail
    refine wp_region_dagG (by kernel_rfl) 20 rfl (fun i => i == 18 || i == 19) (fun i => !(false)) ?hMw (fun x => ⟨#[u0, u1, u2, .int .u8 way, u4, u5, u6, u7, u8, u9, .slice (some ⟨cb, co, none⟩) (p + 1) cc, u11, u12, u13, u14, u15, u16, u17, u18, .pointer (some ⟨BB, 0, none⟩), .int .i64 (i : Nat), x 18, u22, u23, u24, u25, u26, u27, u28, u29, u30, u31, u32, u33, u34, u35, u36, u37, u38, u39, u40, u41, u42, u43, u44, u45, u46, u47, u48, u49, u50, u51, u52, u53, u54, u55, u56, u57, u58, u59, u60, u61, u62, u63, u64, u65, u66, u67, u68, u69, u70, u71, u72, u73, u74, u75, u76, u77, u78, u79, u80, u81, u82, u83, u84, u85, u86, u87, u88, u89, u90, u91, u92, u93, u94, u95, u96, u97, u98, u99, u100, u101, u102, u103, u104, u105, u106, u107, u108, u109, u110, u111, u112, u113, u114, u115, x 0, x 1, x 2, x 3, x 4, x 5, x 6, x 7, x 8, x 9, x 10, x 11, x 12, x 13, x 14, x 15, x 16, x 17, u134, u135, u136, u137, u138, u139, u140, u141, u142, u143, u144, u145, u146, u147, u148, u149, u150, u151, u152, u153, u154, u155, u156, u157, u158, u159, u160, u161, u162, u163, u164, u165], []⟩) (fun iF vF => match iF with | 0 => vF = .pointer (some ⟨BB, 4, none⟩) | 1 => vF = .slice (some ⟨g, 0, none⟩) m cap | 2 => vF = .int .i64 (i : Nat) | 3 => vF = .pointer (some ⟨g, i * 11, none⟩) | 4 => vF = .pointer (some ⟨g, i * 11, none⟩) | 5 => vF = .int .i64 e.seq | 6 => vF = .pointer (some ⟨BB, 4, none⟩) | 7 => vF = .slice (some ⟨g, 0, none⟩) m cap | 8 => vF = .int .i64 (i : Nat) | 9 => vF = .pointer (some ⟨g, i * 11, none⟩) | 10 => vF = .pointer (some ⟨g, i * 11 + 1, none⟩) | 11 => vF = .int .i64 e.time | 12 => vF = .pointer (some ⟨BB, 1, none⟩) | 13 => vF = .int .u8 b.cpu | 14 => vF = .int .u8 way | 15 => vF = .int .i64 way | 16 => vF = .int .i64 (1 + way) | 17 => vF = .agg #[.int .i64 e.seq, .int .i64 e.time, .int .u8 b.cpu, .int .u8 2, .int .i64 (1 + way), .int .i64 0, .int .i64 0, .int .i64 0, .int .i64 0, .int .u64 0, .int .i64 0] | _ => True)
      (fun d x W => Below wc.heap.size wc W ∧ (d 18 = true → d 19 = false → ZEv wc W (x 18)) ∧ (d 19 = true → FEv wc W (x 18) (wakeE e.seq e.time b.cpu (1 + way)))) ?hB ?hwant ?hoff (by kernel_rfl) ?hpure ?hmem ?hend (fun i => (#[u116, u117, u118, u119, u120, u121, u122, u123, u124, u125, u126, u127, u128, u129, u130, u131, u132, u133, u21, undef] : Array Value).getD i undef) rfl ?hstart
    case hstart =>
      try dsimp only
      exact ⟨below_drew (Below.refl _ _), fun h => (by cases h), fun h => (by cases h)⟩
    case hB =>
      intro d d' x i v W hi hm h
      have g18 : ¬ 18 = i := by rintro rfl; exact absurd (show true = false from hi) (by simp)
      have e18 : d' 18 = d 18 := hm 18 rfl
      have g19 : ¬ 19 = i := by rintro rfl; exact absurd (show true = false from hi) (by simp)
      have e19 : d' 19 = d 19 := hm 19 rfl
      try dsimp only at h ⊢
      first | rw [upd_ne g18, upd_ne g19, e18, e19] | simp only [upd_ne g18, upd_ne g19, e18, e19]
      exact h
    case hMw =>
      intro i hi
      simp only [Bool.or_eq_true, beq_iff_eq] at hi
      rcases hi with rfl | rfl
      all_goals rfl
    case hwant =>
      intro iF o hi ho x hf
      rcases (show iF = 0 ∨ iF = 1 ∨ iF = 2 ∨ iF = 3 ∨ iF = 4 ∨ iF = 5 ∨ iF = 6 ∨ iF = 7 ∨ iF = 8 ∨ iF = 9 ∨ iF = 10 ∨ iF = 11 ∨ iF = 12 ∨ iF = 13 ∨ iF = 14 ∨ iF = 15 ∨ iF = 16 ∨ iF = 17 ∨ iF = 18 ∨ iF = 19 by omega) with rfl | rfl | rfl | rfl | rfl | rfl | rfl | rfl | rfl | rfl | rfl | rfl | rfl | rfl | rfl | rfl | rfl | rfl | rfl | rfl
      · obtain rfl := Option.some.inj ho
        rfl
      · obtain rfl := Option.some.inj ho
        rfl
      · obtain rfl := Option.some.inj ho
        rfl
      · obtain rfl := Option.some.inj ho
        rfl
      · obtain rfl := Option.some.inj ho
        rfl
      · obtain rfl := Option.some.inj ho
        rfl
      · obtain rfl := Option.some.inj ho
        rfl
      · obtain rfl := Option.some.inj ho
        rfl
      · obtain rfl := Option.some.inj ho
        rfl
      · obtain rfl := Option.some.inj ho
        rfl
      · obtain rfl := Option.some.inj ho
        rfl
      · obtain rfl := Option.some.inj ho
        rfl
      · obtain rfl := Option.some.inj ho
        rfl
      · obtain rfl := Option.some.inj ho
        rfl
      · obtain rfl := Option.some.inj ho
        rfl
      · obtain rfl := Option.some.inj ho
        rfl
      · obtain rfl := Option.some.inj ho
        rfl
      · obtain rfl := Option.some.inj ho
        rfl
      · obtain rfl := Option.some.inj ho
        rfl
      · obtain rfl := Option.some.inj ho
        rfl
    case hoff =>
      intro iF o hi hw ho x
      rcases (show iF = 0 ∨ iF = 1 ∨ iF = 2 ∨ iF = 3 ∨ iF = 4 ∨ iF = 5 ∨ iF = 6 ∨ iF = 7 ∨ iF = 8 ∨ iF = 9 ∨ iF = 10 ∨ iF = 11 ∨ iF = 12 ∨ iF = 13 ∨ iF = 14 ∨ iF = 15 ∨ iF = 16 ∨ iF = 17 ∨ iF = 18 ∨ iF = 19 by omega) with rfl | rfl | rfl | rfl | rfl | rfl | rfl | rfl | rfl | rfl | rfl | rfl | rfl | rfl | rfl | rfl | rfl | rfl | rfl | rfl
      · exact absurd (show true = false from hw) (by simp)
      · exact absurd (show true = false from hw) (by simp)
      · exact absurd (show true = false from hw) (by simp)
      · exact absurd (show true = false from hw) (by simp)
      · exact absurd (show true = false from hw) (by simp)
      · exact absurd (show true = false from hw) (by simp)
      · exact absurd (show true = false from hw) (by simp)
      · exact absurd (show true = false from hw) (by simp)
      · exact absurd (show true = false from hw) (by simp)
      · exact absurd (show true = false from hw) (by simp)
      · exact absurd (show true = false from hw) (by simp)
      · exact absurd (show true = false from hw) (by simp)
      · exact absurd (show true = false from hw) (by simp)
      · exact absurd (show true = false from hw) (by simp)
      · exact absurd (show true = false from hw) (by simp)
      · exact absurd (show true = false from hw) (by simp)
      · exact absurd (show true = false from hw) (by simp)
      · exact absurd (show true = false from hw) (by simp)
      · exact absurd (show true = false from hw) (by simp)
      · exact absurd (show true = false from hw) (by simp)
    case hpure =>
      intro iF o hi hnm hww ho d x W hB hd hdn hnd hcl Kq hK
      rcases (show iF = 0 ∨ iF = 1 ∨ iF = 2 ∨ iF = 3 ∨ iF = 4 ∨ iF = 5 ∨ iF = 6 ∨ iF = 7 ∨ iF = 8 ∨ iF = 9 ∨ iF = 10 ∨ iF = 11 ∨ iF = 12 ∨ iF = 13 ∨ iF = 14 ∨ iF = 15 ∨ iF = 16 ∨ iF = 17 ∨ iF = 18 ∨ iF = 19 by omega) with rfl | rfl | rfl | rfl | rfl | rfl | rfl | rfl | rfl | rfl | rfl | rfl | rfl | rfl | rfl | rfl | rfl | rfl | rfl | rfl
      · obtain rfl := Option.some.inj ho
        clear ho hd hdn hnd hcl hB hnm hi
        simp only [upd, reduceIte, Nat.reduceEqDiff] at hK
        try dsimp only
        go_simp
        exact hK _ rfl
      · obtain rfl := Option.some.inj ho
        have e0 : x 0 = .pointer (some ⟨BB, 4, none⟩) := hd 0 (by kernel_rfl) (by kernel_rfl)
        have hb := hB.1
        have cz := (HBX.out.below hb).c4
        clear ho hd hdn hnd hcl hB hnm hi
        simp only [upd, reduceIte, Nat.reduceEqDiff, e0] at hK
        try dsimp only
        go_simp
        exact hK _ rfl
      · obtain rfl := Option.some.inj ho
        clear ho hd hdn hnd hcl hB hnm hi
        simp only [upd, reduceIte, Nat.reduceEqDiff] at hK
        try dsimp only
        go_simp
        exact hK _ rfl
      · obtain rfl := Option.some.inj ho
        have e1 : x 1 = .slice (some ⟨g, 0, none⟩) m cap := hd 1 (by kernel_rfl) (by kernel_rfl)
        have e2 : x 2 = .int .i64 (i : Nat) := hd 2 (by kernel_rfl) (by kernel_rfl)
        clear ho hd hdn hnd hcl hB hnm hi
        simp only [upd, reduceIte, Nat.reduceEqDiff, e1, e2] at hK
        try dsimp only
        go_simp
        exact hK _ rfl
      · obtain rfl := Option.some.inj ho
        have e3 : x 3 = .pointer (some ⟨g, i * 11, none⟩) := hd 3 (by kernel_rfl) (by kernel_rfl)
        clear ho hd hdn hnd hcl hB hnm hi
        simp only [upd, reduceIte, Nat.reduceEqDiff, e3] at hK
        try dsimp only
        go_simp
        exact hK _ rfl
      · obtain rfl := Option.some.inj ho
        have e4 : x 4 = .pointer (some ⟨g, i * 11, none⟩) := hd 4 (by kernel_rfl) (by kernel_rfl)
        have hb := hB.1
        have cz := below_cell hb HG0.out
        clear ho hd hdn hnd hcl hB hnm hi
        simp only [upd, reduceIte, Nat.reduceEqDiff, e4] at hK
        try dsimp only
        go_simp
        exact hK _ rfl
      · obtain rfl := Option.some.inj ho
        clear ho hd hdn hnd hcl hB hnm hi
        simp only [upd, reduceIte, Nat.reduceEqDiff] at hK
        try dsimp only
        go_simp
        exact hK _ rfl
      · obtain rfl := Option.some.inj ho
        have e6 : x 6 = .pointer (some ⟨BB, 4, none⟩) := hd 6 (by kernel_rfl) (by kernel_rfl)
        have hb := hB.1
        have cz := (HBX.out.below hb).c4
        clear ho hd hdn hnd hcl hB hnm hi
        simp only [upd, reduceIte, Nat.reduceEqDiff, e6] at hK
        try dsimp only
        go_simp
        exact hK _ rfl
      · obtain rfl := Option.some.inj ho
        clear ho hd hdn hnd hcl hB hnm hi
        simp only [upd, reduceIte, Nat.reduceEqDiff] at hK
        try dsimp only
        go_simp
        exact hK _ rfl
      · obtain rfl := Option.some.inj ho
        have e7 : x 7 = .slice (some ⟨g, 0, none⟩) m cap := hd 7 (by kernel_rfl) (by kernel_rfl)
        have e8 : x 8 = .int .i64 (i : Nat) := hd 8 (by kernel_rfl) (by kernel_rfl)
        clear ho hd hdn hnd hcl hB hnm hi
        simp only [upd, reduceIte, Nat.reduceEqDiff, e7, e8] at hK
        try dsimp only
        go_simp
        exact hK _ rfl
      · obtain rfl := Option.some.inj ho
        have e9 : x 9 = .pointer (some ⟨g, i * 11, none⟩) := hd 9 (by kernel_rfl) (by kernel_rfl)
        clear ho hd hdn hnd hcl hB hnm hi
        simp only [upd, reduceIte, Nat.reduceEqDiff, e9] at hK
        try dsimp only
        go_simp
        exact hK _ rfl
      · obtain rfl := Option.some.inj ho
        have e10 : x 10 = .pointer (some ⟨g, i * 11 + 1, none⟩) := hd 10 (by kernel_rfl) (by kernel_rfl)
        have hb := hB.1
        have cz := below_cell hb HG1.out
        clear ho hd hdn hnd hcl hB hnm hi
        simp only [upd, reduceIte, Nat.reduceEqDiff, e10] at hK
        try dsimp only
        go_simp
        exact hK _ rfl
      · obtain rfl := Option.some.inj ho
        clear ho hd hdn hnd hcl hB hnm hi
        simp only [upd, reduceIte, Nat.reduceEqDiff] at hK
        try dsimp only
        go_simp
        exact hK _ rfl
      · obtain rfl := Option.some.inj ho
        have e12 : x 12 = .pointer (some ⟨BB, 1, none⟩) := hd 12 (by kernel_rfl) (by kernel_rfl)
        have hb := hB.1
        have cz := (HBX.out.below hb).c1
        clear ho hd hdn hnd hcl hB hnm hi
        simp only [upd, reduceIte, Nat.reduceEqDiff, e12] at hK
        try dsimp only
        go_simp
        exact hK _ rfl
      · obtain rfl := Option.some.inj ho
        clear ho hd hdn hnd hcl hB hnm hi
        simp only [upd, reduceIte, Nat.reduceEqDiff] at hK
        try dsimp only
        go_simp
        exact hK _ rfl
      · obtain rfl := Option.some.inj ho
        have e14 : x 14 = .int .u8 way := hd 14 (by kernel_rfl) (by kernel_rfl)
        clear ho hd hdn hnd hcl hB hnm hi
        simp only [upd, reduceIte, Nat.reduceEqDiff, e14] at hK
        try dsimp only
        go_simp
        exact hK _ (congrArg (Value.int .i64) (IntWalk.i64_in _ (by omega)))
      · obtain rfl := Option.some.inj ho
        have e15 : x 15 = .int .i64 way := hd 15 (by kernel_rfl) (by kernel_rfl)
        clear ho hd hdn hnd hcl hB hnm hi
        simp only [upd, reduceIte, Nat.reduceEqDiff, e15] at hK
        try dsimp only
        go_simp
        exact hK _ (congrArg (Value.int .i64) (IntWalk.i64_in _ (by omega)))
      · obtain rfl := Option.some.inj ho
        have e5 : x 5 = .int .i64 e.seq := hd 5 (by kernel_rfl) (by kernel_rfl)
        have e11 : x 11 = .int .i64 e.time := hd 11 (by kernel_rfl) (by kernel_rfl)
        have e13 : x 13 = .int .u8 b.cpu := hd 13 (by kernel_rfl) (by kernel_rfl)
        have e16 : x 16 = .int .i64 (1 + way) := hd 16 (by kernel_rfl) (by kernel_rfl)
        clear ho hd hdn hnd hcl hB hnm hi
        simp only [upd, reduceIte, Nat.reduceEqDiff, e5, e11, e13, e16] at hK
        try dsimp only
        go_simp
        exact hK _ rfl
      · exact absurd (show true = false from hnm) (by simp)
      · exact absurd (show true = false from hnm) (by simp)
    case hmem =>
      intro iF o hi hmm ho d d' x W hB hd hdn hnd hdi hdi' hdm hcl Kq hK
      rcases (show iF = 0 ∨ iF = 1 ∨ iF = 2 ∨ iF = 3 ∨ iF = 4 ∨ iF = 5 ∨ iF = 6 ∨ iF = 7 ∨ iF = 8 ∨ iF = 9 ∨ iF = 10 ∨ iF = 11 ∨ iF = 12 ∨ iF = 13 ∨ iF = 14 ∨ iF = 15 ∨ iF = 16 ∨ iF = 17 ∨ iF = 18 ∨ iF = 19 by omega) with rfl | rfl | rfl | rfl | rfl | rfl | rfl | rfl | rfl | rfl | rfl | rfl | rfl | rfl | rfl | rfl | rfl | rfl | rfl | rfl
      · exact absurd (show false = true from hmm) (by simp)
      · exact absurd (show false = true from hmm) (by simp)
      · exact absurd (show false = true from hmm) (by simp)
      · exact absurd (show false = true from hmm) (by simp)
      · exact absurd (show false = true from hmm) (by simp)
      · exact absurd (show false = true from hmm) (by simp)
      · exact absurd (show false = true from hmm) (by simp)
      · exact absurd (show false = true from hmm) (by simp)
      · exact absurd (show false = true from hmm) (by simp)
      · exact absurd (show false = true from hmm) (by simp)
      · exact absurd (show false = true from hmm) (by simp)
      · exact absurd (show false = true from hmm) (by simp)
      · exact absurd (show false = true from hmm) (by simp)
      · exact absurd (show false = true from hmm) (by simp)
      · exact absurd (show false = true from hmm) (by simp)
      · exact absurd (show false = true from hmm) (by simp)
      · exact absurd (show false = true from hmm) (by simp)
      · exact absurd (show false = true from hmm) (by simp)
      · obtain rfl := Option.some.inj ho
        have dm19 : d' 19 = d 19 := hdm 19 (by omega)
        have dz19 : d 19 = false := hnd 19 (by kernel_rfl)
        obtain ⟨hb, h18, h19⟩ := hB
        clear ho hd hdn hnd hcl hmm
        simp only [upd, reduceIte, Nat.reduceEqDiff] at hK
        try dsimp only
        go_simp
        have bb := bel_alloc W (.cells #[.int .i64 0, .int .i64 0, .int .u8 0, .int .u8 0, .int .i64 0, .int .i64 0, .int .i64 0, .int .i64 0, .int .i64 0, .int .u64 0, .int .i64 0] 28)
        refine hK _ _ ?_
        try dsimp only
        rw [dm19, hdi']
        exact ⟨bstep hb bb, fun _ _ => ⟨W.heap.size, rfl, hb.size, ⟨heap_alloc_new W _⟩⟩, fun k => absurd k (by rw [dz19]; simp)⟩
      · obtain rfl := Option.some.inj ho
        have e17 : x 17 = .agg #[.int .i64 e.seq, .int .i64 e.time, .int .u8 b.cpu, .int .u8 2, .int .i64 (1 + way), .int .i64 0, .int .i64 0, .int .i64 0, .int .i64 0, .int .u64 0, .int .i64 0] := hd 17 (by kernel_rfl) (by kernel_rfl)
        have dm18 : d' 18 = d 18 := hdm 18 (by omega)
        have dn18 : d 18 = true := hdn 18 (by kernel_rfl)
        obtain ⟨hb, h18, h19⟩ := hB
        obtain ⟨X, e18, hX, hz⟩ := h18 dn18 hdi
        have hst := eb_store hz (wakeE e.seq e.time b.cpu (1 + way))
        clear ho hd hdn hnd hcl hmm
        simp only [upd, reduceIte, Nat.reduceEqDiff, e17, e18] at hK
        try dsimp only
        have z0 := hz.c 0 _ rfl
        have z1 := hz.c 1 _ rfl
        have z2 := hz.c 2 _ rfl
        have z3 := hz.c 3 _ rfl
        have z4 := hz.c 4 _ rfl
        have z5 := hz.c 5 _ rfl
        have z6 := hz.c 6 _ rfl
        have z7 := hz.c 7 _ rfl
        have z8 := hz.c 8 _ rfl
        have z9 := hz.c 9 _ rfl
        have z10 := hz.c 10 _ rfl
        have f0 := hz.f 0
        have f1 := hz.f 1
        have f2 := hz.f 2
        have f3 := hz.f 3
        have f4 := hz.f 4
        have f5 := hz.f 5
        have f6 := hz.f 6
        have f7 := hz.f 7
        have f8 := hz.f 8
        have f9 := hz.f 9
        have f10 := hz.f 10
        go_simp
        refine hK undef _ ?_
        try dsimp only
        rw [dm18, hdi', dn18]
        exact ⟨hb.trans (hst.2.below (B := wc.heap.size) (fun k hk t => by omega) hb.size), fun _ k => (by cases k), fun _ => ⟨X, rfl, hX, hst.1⟩⟩
    case hend =>
      intro d x W hall hB hd
      have d19 := hall 19 (by omega)
      obtain ⟨hb, h18, h19⟩ := hB
      obtain ⟨X, e18, hX, hx⟩ := h19 d19
      clear hd hall h18 h19 d19
      try dsimp only
      rw [e18]
      clear e18
      generalize x 0 = y0
      generalize x 1 = y1
      generalize x 2 = y2
      generalize x 3 = y3
      generalize x 4 = y4
      generalize x 5 = y5
      generalize x 6 = y6
      generalize x 7 = y7
      generalize x 8 = y8
      generalize x 9 = y9
      generalize x 10 = y10
      generalize x 11 = y11
      generalize x 12 = y12
      generalize x 13 = y13
      generalize x 14 = y14
      generalize x 15 = y15
      generalize x 16 = y16
      generalize x 17 = y17
      go_wp2
      go_meet
      exact ⟨_, X, rfl, rfl, hX, hx, hb⟩
  case rest =>
    obtain ⟨w1, X, rfl, rfl, hX, hx, b1⟩ := hcut
    have hh := H.out
    exact (‹∀ (a : Act) (w : World), Code.wp _ _ _ a w → _› : ∀ (a : Act) (w : World), _ → _) _ _ (twice_t23 w w0 w1 BB X cb co p cc g m cap i tr bs b e nx way HT.out HL.out HC.out (hh.below b1) HBM.out hx (Nat.le_trans hh.bel.size hX) ⟨fun e => by have h1 := HLT.out.1; have h2 : g < wc.heap.size := h1; omega, fun e => by have := HLT.out.2; omega⟩ HWY.out him hm HB.out)
end Go.Proofs.YtalophngappkhaaGreatDoor

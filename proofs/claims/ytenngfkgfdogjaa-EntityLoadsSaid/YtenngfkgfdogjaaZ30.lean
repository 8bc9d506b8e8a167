/- The walk of the law EntityWalk: its head. -/
import Derived.Test.YtenngfkgfdogjaaZ29
set_option linter.unusedVariables false
set_option linter.unusedSimpArgs false
set_option linter.unusedSectionVars false
namespace Go.Proofs.Ytenngfkgfdogjaa
open Go Go.RowKit Go.Shelf
attribute [local go_sem] Oper.semAt_some

theorem wlk_ok {s : St} (h : Shp s) (w : World) (c : StC) (cpu : Int) (hat : StAt w c s) (h3 : 0 ≤ cpu) (h4 : cpu < s.n) :
    Calls Try.prog 24 #[c.val s, .int .i64 cpu] w fun e w' => ∃ v, e = .returned (.tuple #[v, .int .i64 0]) ∧ OV encY 3 24 w.heap.size w' v (walkL s cpu) ∧ Below w.heap.size w w' := by
  have h0 := chk_ok h (Int.le_refl 0) (by have := (right_iff.1 h.right).pos; omega) h3 h4
  have := walk_pub w c s cpu hat h.stb
  rwa [walE_pos h0, h0] at this
theorem rdy_ok {s : St} (h : Shp s) (w : World) (c : StC) (cpu : Int) (hat : StAt w c s) (h3 : 0 ≤ cpu) (h4 : cpu < s.n) :
    Calls Try.prog 25 #[c.val s, .int .i64 cpu] w fun e w' => ∃ v, e = .returned (.tuple #[v, .int .i64 0]) ∧ OV encI 1 3 w.heap.size w' v ((rdyL s cpu).map Tk.id) ∧ Below w.heap.size w w' := by
  have h0 := chk_ok h (Int.le_refl 0) (by have := (right_iff.1 h.right).pos; omega) h3 h4
  have := ready_pub w c s cpu hat h.stb
  rwa [rdyE_pos h0, h0] at this
theorem tk_uniq {s : St} (h : Shp s) {a b : Tk} (ha : a ∈ s.ts) (hb : b ∈ s.ts) (he : a.id = b.id) : a = b := by
  have hp := tks_pw h.tks
  obtain ⟨i, hi⟩ := List.getElem?_of_mem ha
  obtain ⟨j, hj⟩ := List.getElem?_of_mem hb
  obtain ⟨h1, e1⟩ := List.getElem?_eq_some_iff.1 hi
  obtain ⟨h2, e2⟩ := List.getElem?_eq_some_iff.1 hj
  rcases Nat.lt_trichotomy i j with k | rfl | k
  · have := List.pairwise_iff_getElem.1 hp i j h1 h2 k
    rw [e1, e2] at this; omega
  · rw [← e1, ← e2]
  · have := List.pairwise_iff_getElem.1 hp j i h2 h1 k
    rw [e1, e2] at this; omega
set_option maxRecDepth 100000 in
set_option maxHeartbeats 6400000 in
theorem walk_t15 (w w0 : World) (X Y base base2 : Nat) (c : StC) (s : St) (q : Nat) (vw : Value) (ws : List Ky) (gq : List Nat) (t : Tk) {u0 u1 u2 u3 u4 u5 u6 u7 u8 u9 u10 u14 u15 u16 u17 u19 u20 u21 u22 u23 u24 u25 u26 u27 u28 u29 u30 u31 u32 u33 u34 u35 u36 u37 u38 u39 u40 u41 u42 u43 u44 u45 u46 u47 u48 u49 u50 u51 u52 u53 u54 u55 u56 u57 u58 u59 u60 u61 u62 u63 u64 u65 u66 u67 u68 u69 u70 u71 u72 u73 u74 u75 u76 u77 u78 u79 u80 u81 u82 u83 u84 u85 u86 u87 u88 u89 u90 u91 u92 u93 u94 u95 u96 u97 u98 u99 u100 u101 u102 u103 u104 u105 u106 u107 u108 u109 u110 u111 u112 u113 u114 u115 u116 u117 u118 u119 u120 u121 u122 u123 u124 u125 u126 u127 u128 u129 u130 u131 u132 u133 u134 u135 u136 u137 u138 u139 u140 u141 u142 u143 u144 u145 u146 u147 u148 u149 u150 u151 u152 u153 u154 u155 u156 u157 u158 u159 u160 u161 u162 u163 u164 u165 u166 u167 u168 u169 u170 u171 u172 u173 u174 u175 u176 u177 u178 u179 u180 u181 u182 u183 u184 u185 u186 u187 u188 u189 u190 u191 u192 u193 u194 u195 u196 u197 u198 u199 u200 u201 u202 u203 u204 u205 : Value} (o : StO base w0 c s) (bx : StBox w0 X c s) (hb : Below w.heap.size w w0) (hs : Shp s) (hq : (q : Int) < s.n)
    (hw : WalkR s (q : Nat) 0 ws gq t) (ow : OV encY 3 24 base2 w0 vw ws) (ht : ER encT 8 w0 Y 0 [t]) :
    Code.wp Try.prog (tailR Try.f7 15) (bodyPost Try.prog Try.f7 fun e w' => e = .returned (.bool true) ∧ Below w.heap.size w w')
      ⟨#[u0, u1, u2, u3, u4, u5, u6, u7, u8, u9, u10, .pointer (some ⟨X, 0, none⟩), .int .i64 (q : Nat), vw, u14, u15, u16, u17, .pointer (some ⟨Y, 0, none⟩), u19, u20, u21, u22, u23, u24, u25, u26, u27, u28, u29, u30, u31, u32, u33, u34, u35, u36, u37, u38, u39, u40, u41, u42, u43, u44, u45, u46, u47, u48, u49, u50, u51, u52, u53, u54, u55, u56, u57, u58, u59, u60, u61, u62, u63, u64, u65, u66, u67, u68, u69, u70, u71, u72, u73, u74, u75, u76, u77, u78, u79, u80, u81, u82, u83, u84, u85, u86, u87, u88, u89, u90, u91, u92, u93, u94, u95, u96, u97, u98, u99, u100, u101, u102, u103, u104, u105, u106, u107, u108, u109, u110, u111, u112, u113, u114, u115, u116, u117, u118, u119, u120, u121, u122, u123, u124, u125, u126, u127, u128, u129, u130, u131, u132, u133, u134, u135, u136, u137, u138, u139, u140, u141, u142, u143, u144, u145, u146, u147, u148, u149, u150, u151, u152, u153, u154, u155, u156, u157, u158, u159, u160, u161, u162, u163, u164, u165, u166, u167, u168, u169, u170, u171, u172, u173, u174, u175, u176, u177, u178, u179, u180, u181, u182, u183, u184, u185, u186, u187, u188, u189, u190, u191, u192, u193, u194, u195, u196, u197, u198, u199, u200, u201, u202, u203, u204, u205], []⟩ w0 := by
  conv => arg 2; whnf
  conv => arg 4; dsimp only
  have hG1 : s.gs.length ≤ 256 := by have := (right_iff.1 hs.right).many; omega
  obtain ⟨L, hL⟩ : ∃ L, ws.length = L := ⟨_, rfl⟩
  have hPL := hw.way_len hs
  have hgr := (tks_g hs.tks t hw.task.1).1
  have PA := path_ok w0 c.vg s.gs t.g (o.og.ev encG_len) (by omega)
  have h0 : thereZ s.gs [t.g] = 0 := there_zero.2 ⟨right_iff.1 hs.right, fun z hz => by simp at hz; subst hz; omega⟩
  rw [show pathL s.gs t.g = ints (path s.gs t.g.toNat) from if_pos h0, h0] at PA
  obtain ⟨Aw, cw, rfl⟩ := (ow.ev encY_len).shape
  obtain ⟨b0, b1, b2, b3, b4, b5, b6⟩ := bx.cell
  obtain ⟨d0, d1, d2, d3, d4, d5, d6, d7⟩ := ht.tk (i := 0) rfl
  simp only [Nat.zero_mul, Nat.add_zero, Nat.zero_add] at d0 d1 d2 d3 d4 d5 d6 d7
  rw [hL] at ow hPL ⊢
  have HL := Lib.hid hL
  have HPL := Lib.hid hPL
  have HO := Lib.hid o
  have HBX := Lib.hid bx
  have HB := Lib.hid hb
  have HS := Lib.hid hs
  have HQ := Lib.hid hq
  have HW := Lib.hid hw
  have OW := Lib.hid ow
  have PA := Lib.hid PA
  have hsz := hb.size
  clear o bx hb hs hq hw ow ht hL hPL h0 hgr d0 d2 d3 d4 d5 d6 d7 b0 b1 b3 b4 b5 b6
  go_wp2_with fail
  refine PA.out.mono ?_
  rintro e w2 ⟨vp, rfl, op, bb⟩
  obtain ⟨Ap, cp, hvp⟩ := (op.ev encI_len).shape
  rw [show (ints (path s.gs t.g.toNat)).length = L by unfold ints; rw [List.length_map]; exact HPL.out] at hvp
  subst hvp
  have OP := Lib.hid op
  have BB := Lib.hid bb
  clear PA op bb b2 d1
  go_upto_if 124 with fail
  go_cut [] (fun wx => wx = w2)
  case first =>
    go_wp2_with fail
    go_meet
    rfl
  case rest =>
    subst hcut
    refine (‹∀ (a : Act) (w : World), Code.wp _ _ _ a w → _› : ∀ (a : Act) (w : World), _ → _) _ _ (walk_t18 w _ X base base2 w0.heap.size c s q (.slice Aw L cw) (.slice Ap L cp) ws gq t (HO.out.below BB.out) (HBX.out.below BB.out) (HB.out.trans (BB.out.mono hsz)) HS.out HQ.out HW.out (OW.out.below BB.out) OP.out)
set_option maxRecDepth 100000 in
set_option maxHeartbeats 6400000 in
theorem walk_t11 (w w0 : World) (X base base2 : Nat) (c : StC) (s : St) (q : Nat) (vw : Value) (ws : List Ky) (gq : List Nat) (t : Tk) {u0 u1 u2 u3 u4 u5 u6 u7 u8 u9 u10 u14 u15 u16 u17 u18 u19 u20 u21 u22 u23 u24 u25 u26 u27 u28 u29 u30 u31 u32 u33 u34 u35 u36 u37 u38 u39 u40 u41 u42 u43 u44 u45 u46 u47 u48 u49 u50 u51 u52 u53 u54 u55 u56 u57 u58 u59 u60 u61 u62 u63 u64 u65 u66 u67 u68 u69 u70 u71 u72 u73 u74 u75 u76 u77 u78 u79 u80 u81 u82 u83 u84 u85 u86 u87 u88 u89 u90 u91 u92 u93 u94 u95 u96 u97 u98 u99 u100 u101 u102 u103 u104 u105 u106 u107 u108 u109 u110 u111 u112 u113 u114 u115 u116 u117 u118 u119 u120 u121 u122 u123 u124 u125 u126 u127 u128 u129 u130 u131 u132 u133 u134 u135 u136 u137 u138 u139 u140 u141 u142 u143 u144 u145 u146 u147 u148 u149 u150 u151 u152 u153 u154 u155 u156 u157 u158 u159 u160 u161 u162 u163 u164 u165 u166 u167 u168 u169 u170 u171 u172 u173 u174 u175 u176 u177 u178 u179 u180 u181 u182 u183 u184 u185 u186 u187 u188 u189 u190 u191 u192 u193 u194 u195 u196 u197 u198 u199 u200 u201 u202 u203 u204 u205 : Value} (o : StO base w0 c s) (bx : StBox w0 X c s) (hb : Below w.heap.size w w0) (hs : Shp s) (hq : (q : Int) < s.n)
    (hw : WalkR s (q : Nat) 0 ws gq t) (ow : OV encY 3 24 base2 w0 vw ws) (hl : ws.length ≤ 70000) :
    Code.wp Try.prog (tailR Try.f7 11) (bodyPost Try.prog Try.f7 fun e w' => e = .returned (.bool true) ∧ Below w.heap.size w w')
      ⟨#[u0, u1, u2, u3, u4, u5, u6, u7, u8, u9, u10, .pointer (some ⟨X, 0, none⟩), .int .i64 (q : Nat), vw, u14, u15, u16, u17, u18, u19, u20, u21, u22, u23, u24, u25, u26, u27, u28, u29, u30, u31, u32, u33, u34, u35, u36, u37, u38, u39, u40, u41, u42, u43, u44, u45, u46, u47, u48, u49, u50, u51, u52, u53, u54, u55, u56, u57, u58, u59, u60, u61, u62, u63, u64, u65, u66, u67, u68, u69, u70, u71, u72, u73, u74, u75, u76, u77, u78, u79, u80, u81, u82, u83, u84, u85, u86, u87, u88, u89, u90, u91, u92, u93, u94, u95, u96, u97, u98, u99, u100, u101, u102, u103, u104, u105, u106, u107, u108, u109, u110, u111, u112, u113, u114, u115, u116, u117, u118, u119, u120, u121, u122, u123, u124, u125, u126, u127, u128, u129, u130, u131, u132, u133, u134, u135, u136, u137, u138, u139, u140, u141, u142, u143, u144, u145, u146, u147, u148, u149, u150, u151, u152, u153, u154, u155, u156, u157, u158, u159, u160, u161, u162, u163, u164, u165, u166, u167, u168, u169, u170, u171, u172, u173, u174, u175, u176, u177, u178, u179, u180, u181, u182, u183, u184, u185, u186, u187, u188, u189, u190, u191, u192, u193, u194, u195, u196, u197, u198, u199, u200, u201, u202, u203, u204, u205], []⟩ w0 := by
  conv => arg 2; whnf
  conv => arg 4; dsimp only
  obtain ⟨L, hL⟩ : ∃ L, ws.length = L := ⟨_, rfl⟩
  have hL0 : 0 < L := by have := hw.pos; omega
  have htk := hw.task
  have hlst := hw.lst
  rw [hL] at hlst hl
  obtain ⟨r, hr⟩ : ∃ r, L - 1 = r := ⟨_, rfl⟩
  rw [hr] at hlst
  obtain ⟨bw, ofw, cw, hvw, _, rw'⟩ := (ow.ev encY_len).row (by omega)
  rw [hL] at hvw
  subst hvw
  obtain ⟨c0, c1, c2⟩ := rw'.ky hlst
  unfold tkKey at c0 c1 c2
  dsimp only at c0 c1 c2
  have w1 : IntKind.i64.wrap ((L : Int) - 1) = (r : Int) := by rw [IntWalk.i64_in _ (by omega)]; omega
  have i1 : (0 : Int) ≤ (r : Int) := by omega
  have i2 : (r : Int) < (L : Int) := by omega
  have i3 : r < L := by omega
  have HO := Lib.hid o
  have HBX := Lib.hid bx
  have HB := Lib.hid hb
  have HS := Lib.hid hs
  have HQ := Lib.hid hq
  have HW := Lib.hid hw
  have OW := Lib.hid ow
  have HTK := Lib.hid htk
  have hsz := hb.size
  clear o bx hb hs hq hw ow htk hlst rw' hL hr
  go_upto_region 12 with fail
  have A1 := bel_alloc w0 (.cells #[.int .u64 t.v, .bool false, .int .i64 t.id] 24)
  have K := newK w0 ⟨t.v, false, t.id⟩ rfl
  dsimp only at K
  obtain ⟨d0, d1, d2⟩ := K.ky (i := 0) rfl
  dsimp only at d0 d1 d2
  simp only [Nat.zero_mul, Nat.add_zero, Nat.zero_add] at d0 d1 d2
  generalize w0.alloc (.cells #[.int .u64 t.v, .bool false, .int .i64 t.id] 24) = w1 at A1 K d0 d1 d2 ⊢
  have B1 := Lib.hid A1
  obtain ⟨Z, hZ⟩ : ∃ Z, w0.heap.size = Z := ⟨_, rfl⟩
  rw [hZ] at d0 d1 d2 ⊢
  have TA := Lib.hid (task_ok w1 c s t.id (HO.out.below B1.out).at HS.out.len)
  obtain ⟨b0, b1, b2, b3, b4, b5, b6⟩ := (HBX.out.below B1.out).cell
  unfold StC.val StC.cells at TA
  clear A1 K c0 c1 c2 hZ
  have D := Lib.hid (fun W (h : Below w1.heap.size w1 W) => (⟨below_cell h d0, below_cell h d1⟩ : W.cell? ⟨Z, 0, none⟩ = some (.int .u64 t.v) ∧ W.cell? ⟨Z, 1, none⟩ = some (.bool false)))
  go_wp2_with fail
  refine TA.out.mono ?_
  rintro e w2 ⟨hca, bb⟩
  obtain rfl : e = .returned (.tuple #[.agg #[.int .i64 t.id, .int .i64 t.g, .int .i64 t.wt, .int .i64 t.cpu, .int .u64 t.mask, .bool t.rdy, .int .u64 t.v, .int .u32 t.r], .bool true]) := by
    rcases hca with ⟨t', h1, h2, rfl⟩ | ⟨h1, _⟩
    · rw [tk_uniq HS.out h1 HTK.out.1 h2]
    · exact absurd rfl (h1 t HTK.out.1)
  have B2 := Lib.hid (B1.out.trans (bb.mono B1.out.size))
  have D2 := Lib.hid (fun W (h : Below w2.heap.size w2 W) => D.out W (bb.trans (h.mono bb.size)))
  clear hca bb TA D b0 b1 b2 b3 b4 b5 b6 d0 d1 d2
  go_upto_region 13 with fail
  have A3 := bel_alloc w2 (.cells #[.int .i64 t.id, .int .i64 t.g, .int .i64 t.wt, .int .i64 t.cpu, .int .u64 t.mask, .bool t.rdy, .int .u64 t.v, .int .u32 t.r] 61)
  have KT := newTk w2 t rfl
  obtain ⟨W3, hW3⟩ : ∃ W3, w2.alloc (.cells #[.int .i64 t.id, .int .i64 t.g, .int .i64 t.wt, .int .i64 t.cpu, .int .u64 t.mask, .bool t.rdy, .int .u64 t.v, .int .u32 t.r] 61) = W3 := ⟨_, rfl⟩
  rw [hW3] at A3 KT ⊢
  obtain ⟨Y, hY⟩ : ∃ Y, w2.heap.size = Y := ⟨_, rfl⟩
  rw [hY] at KT ⊢
  have HKT := Lib.hid KT
  have B3 := Lib.hid (B2.out.trans (A3.mono B2.out.size))
  obtain ⟨d0, d1⟩ := D2.out W3 A3
  obtain ⟨k0, k1, k2, k3, k4, k5, k6, k7⟩ := KT.tk (i := 0) rfl
  simp only [Nat.zero_mul, Nat.add_zero, Nat.zero_add] at k0 k1 k2 k3 k4 k5 k6 k7
  rw [HTK.out.2.2] at k3
  rw [HTK.out.2.1] at k5
  clear KT A3 hW3 hY D2 k0 k1 k2 k4 k7
  go_upto_if 106 with fail
  go_cut [] (fun wx => wx = W3)
  case first =>
    go_wp2_with fail
    go_meet
    rfl
  case rest =>
    subst hcut
    refine (‹∀ (a : Act) (w : World), Code.wp _ _ _ a w → _› : ∀ (a : Act) (w : World), _ → _) _ _ (walk_t15 w _ X Y base base2 c s q _ ws gq t (HO.out.below B3.out) (HBX.out.below B3.out) (HB.out.trans (B3.out.mono hsz)) HS.out HQ.out HW.out (OW.out.below B3.out) HKT.out)
set_option maxRecDepth 100000 in
set_option maxHeartbeats 6400000 in
theorem walk_t4 (w w0 : World) (X base : Nat) (c : StC) (s : St) (which : Nat) {u0 u1 u2 u3 u5 u6 u7 u8 u9 u10 u12 u13 u14 u15 u16 u17 u18 u19 u20 u21 u22 u23 u24 u25 u26 u27 u28 u29 u30 u31 u32 u33 u34 u35 u36 u37 u38 u39 u40 u41 u42 u43 u44 u45 u46 u47 u48 u49 u50 u51 u52 u53 u54 u55 u56 u57 u58 u59 u60 u61 u62 u63 u64 u65 u66 u67 u68 u69 u70 u71 u72 u73 u74 u75 u76 u77 u78 u79 u80 u81 u82 u83 u84 u85 u86 u87 u88 u89 u90 u91 u92 u93 u94 u95 u96 u97 u98 u99 u100 u101 u102 u103 u104 u105 u106 u107 u108 u109 u110 u111 u112 u113 u114 u115 u116 u117 u118 u119 u120 u121 u122 u123 u124 u125 u126 u127 u128 u129 u130 u131 u132 u133 u134 u135 u136 u137 u138 u139 u140 u141 u142 u143 u144 u145 u146 u147 u148 u149 u150 u151 u152 u153 u154 u155 u156 u157 u158 u159 u160 u161 u162 u163 u164 u165 u166 u167 u168 u169 u170 u171 u172 u173 u174 u175 u176 u177 u178 u179 u180 u181 u182 u183 u184 u185 u186 u187 u188 u189 u190 u191 u192 u193 u194 u195 u196 u197 u198 u199 u200 u201 u202 u203 u204 u205 : Value} (o : StO base w0 c s) (bx : StBox w0 X c s) (hb : Below w.heap.size w w0) (hs : Shp s) (hw : which < 256) :
    Code.wp Try.prog (tailR Try.f7 4) (bodyPost Try.prog Try.f7 fun e w' => e = .returned (.bool true) ∧ Below w.heap.size w w')
      ⟨#[u0, u1, u2, u3, .int .u8 (which : Nat), u5, u6, u7, u8, u9, u10, .pointer (some ⟨X, 0, none⟩), u12, u13, u14, u15, u16, u17, u18, u19, u20, u21, u22, u23, u24, u25, u26, u27, u28, u29, u30, u31, u32, u33, u34, u35, u36, u37, u38, u39, u40, u41, u42, u43, u44, u45, u46, u47, u48, u49, u50, u51, u52, u53, u54, u55, u56, u57, u58, u59, u60, u61, u62, u63, u64, u65, u66, u67, u68, u69, u70, u71, u72, u73, u74, u75, u76, u77, u78, u79, u80, u81, u82, u83, u84, u85, u86, u87, u88, u89, u90, u91, u92, u93, u94, u95, u96, u97, u98, u99, u100, u101, u102, u103, u104, u105, u106, u107, u108, u109, u110, u111, u112, u113, u114, u115, u116, u117, u118, u119, u120, u121, u122, u123, u124, u125, u126, u127, u128, u129, u130, u131, u132, u133, u134, u135, u136, u137, u138, u139, u140, u141, u142, u143, u144, u145, u146, u147, u148, u149, u150, u151, u152, u153, u154, u155, u156, u157, u158, u159, u160, u161, u162, u163, u164, u165, u166, u167, u168, u169, u170, u171, u172, u173, u174, u175, u176, u177, u178, u179, u180, u181, u182, u183, u184, u185, u186, u187, u188, u189, u190, u191, u192, u193, u194, u195, u196, u197, u198, u199, u200, u201, u202, u203, u204, u205], []⟩ w0 := by
  conv => arg 2; whnf
  conv => arg 4; dsimp only
  obtain ⟨N, hN⟩ : ∃ N : Nat, s.n = (N : Nat) := ⟨s.n.toNat, by have := hs.n1; omega⟩
  have HN := Lib.hid hN
  have hN0 : 1 ≤ N := by have := hs.n1; omega
  have hN1 : N ≤ 64 := by have := hs.n2; omega
  have hG1 : s.gs.length ≤ 256 := by have := (right_iff.1 hs.right).many; omega
  have HO := Lib.hid o
  have HBX := Lib.hid bx
  have HB := Lib.hid hb
  have HS := Lib.hid hs
  obtain ⟨b0, b1, b2, b3, b4, b5, b6⟩ := bx.cell
  rw [hN] at b0
  have hsz := hb.size
  have n0 : ¬ (N : Int) = 0 := by omega
  clear o bx hb hs hN
  obtain ⟨q, hq⟩ : ∃ q, which % N = q := ⟨_, rfl⟩
  have e1 : (which : Int) % (N : Int) = (q : Int) := by rw [← hq]; rfl
  have hqN : q < N := by rw [← hq]; exact Nat.mod_lt _ hN0
  have E1 := Lib.hid e1
  have HQN := Lib.hid hqN
  clear hq e1
  go_upto_region 5 with fail
  rw [E1.out]
  have hc4 : (q : Int) < s.n := by rw [HN.out]; omega
  have WK := Lib.hid (wlk_ok HS.out w0 c q HO.out.at (by omega) hc4)
  have HC4 := Lib.hid hc4
  unfold StC.val StC.cells at WK
  rw [HN.out] at WK
  clear n0 hc4
  go_wp2_with fail
  refine WK.out.mono ?_
  rintro e w2 ⟨vw, rfl, ow, bb⟩
  have B2 := Lib.hid bb
  have OW := Lib.hid ow
  have RD := Lib.hid (rdy_ok HS.out w2 c q (HO.out.below bb).at (by omega) HC4.out)
  unfold StC.val StC.cells at RD
  rw [HN.out] at RD
  clear WK ow bb b0 b1 b2 b3 b4 b5 b6
  obtain ⟨b0, b1, b2, b3, b4, b5, b6⟩ := (HBX.out.below B2.out).cell
  rw [HN.out] at b0
  obtain ⟨L, hL⟩ : ∃ L, (walkL s (q : Nat)).length = L := ⟨_, rfl⟩
  obtain ⟨Aw, cw, hvw⟩ := (OW.out.ev encY_len).shape
  rw [hL] at hvw
  subst hvw
  have HL := Lib.hid hL
  clear hL
  go_wp2_with fail
  refine RD.out.mono ?_
  rintro e w3 ⟨vr, rfl, or', bb⟩
  have B3 := Lib.hid (B2.out.trans (bb.mono B2.out.size))
  have OW3 := Lib.hid (OW.out.below bb)
  obtain ⟨R, hR⟩ : ∃ R, (rdyL s (q : Nat)).length = R := ⟨_, rfl⟩
  obtain ⟨Ar, cr, hvr⟩ := (or'.ev encI_len).shape
  rw [List.length_map, hR] at hvr
  subst hvr
  have HR := Lib.hid hR
  clear hR RD or' bb b0 b1 b2 b3 b4 b5 b6 OW
  by_cases hp : 0 < R
  · obtain ⟨gq, t, hwr⟩ := walk_some HS.out (q : Nat) (by rw [HR.out]; exact hp)
    have hL0 : 0 < L := by rw [← HL.out]; exact hwr.pos
    have hL1 : L ≤ 70000 := by
      have h1 := hwr.way_len HS.out
      have h2 := tks_g HS.out.tks t hwr.task.1
      have := path_le HS.out.bef t.g.toNat (by omega)
      rw [HL.out] at h1; omega
    have HWR := Lib.hid hwr
    have d1 : decide ((0 : Int) < (L : Int)) = true := by rw [decide_eq_true_eq]; omega
    have d2 : decide ((0 : Int) < (R : Int)) = true := by rw [decide_eq_true_eq]; omega
    have d3 : ¬ (L : Int) = 0 := by omega
    have d4 : ((L : Int) == 0) = false := by simpa using d3
    have d9 : decide (0 < L) = true := by rw [decide_eq_true_eq]; omega
    have d10 : decide (0 < R) = true := by rw [decide_eq_true_eq]; omega
    have d5 : ¬ L = 0 := by omega
    have d6 : (L == 0) = false := by simpa using d5
    have d7 : decide (L = 0) = false := decide_eq_false d5
    have d8 : decide ((L : Int) = 0) = false := decide_eq_false d3
    clear hwr
    go_upto_if 66 with fail
    go_cut [] (fun wx => wx = w3)
    case first =>
      go_wp2_with fail
      go_meet
      rfl
    case rest =>
      subst hcut
      go_upto_if 69 with fail
      obtain ⟨w4, hw4⟩ : ∃ w4, w4 = wc := ⟨_, rfl⟩
      subst hw4
      go_cut [] (fun wx => wx = w4)
      case first =>
        go_wp2_with fail
        go_meet
        rfl
      case rest =>
        subst hcut
        refine (‹∀ (a : Act) (w : World), Code.wp _ _ _ a w → _› : ∀ (a : Act) (w : World), _ → _) _ _ (walk_t11 w _ X base w0.heap.size c s q (.slice Aw L cw) (walkL s (q : Nat)) gq t (HO.out.below B3.out) (HBX.out.below B3.out) (HB.out.trans (B3.out.mono hsz)) HS.out HC4.out HWR.out OW3.out (by rw [HL.out]; exact hL1))
  · obtain rfl : L = 0 := by rw [← HL.out, walk_none HS.out (q : Nat) (by rw [HR.out]; omega)]; rfl
    obtain rfl : R = 0 := by omega
    clear hp
    go_wp2
    go_ret
    exact ⟨rfl, HB.out.trans (B3.out.mono hsz)⟩
set_option maxRecDepth 100000 in
set_option maxHeartbeats 3200000 in
theorem walk_t3 (w w0 : World) (vg vt vs : Value) (cpus which : Nat) (ns : List Nat) (ts : List Sm) (sl : List Nat) {u5 u6 u7 u8 u9 u10 u11 u12 u13 u14 u15 u16 u17 u18 u19 u20 u21 u22 u23 u24 u25 u26 u27 u28 u29 u30 u31 u32 u33 u34 u35 u36 u37 u38 u39 u40 u41 u42 u43 u44 u45 u46 u47 u48 u49 u50 u51 u52 u53 u54 u55 u56 u57 u58 u59 u60 u61 u62 u63 u64 u65 u66 u67 u68 u69 u70 u71 u72 u73 u74 u75 u76 u77 u78 u79 u80 u81 u82 u83 u84 u85 u86 u87 u88 u89 u90 u91 u92 u93 u94 u95 u96 u97 u98 u99 u100 u101 u102 u103 u104 u105 u106 u107 u108 u109 u110 u111 u112 u113 u114 u115 u116 u117 u118 u119 u120 u121 u122 u123 u124 u125 u126 u127 u128 u129 u130 u131 u132 u133 u134 u135 u136 u137 u138 u139 u140 u141 u142 u143 u144 u145 u146 u147 u148 u149 u150 u151 u152 u153 u154 u155 u156 u157 u158 u159 u160 u161 u162 u163 u164 u165 u166 u167 u168 u169 u170 u171 u172 u173 u174 u175 u176 u177 u178 u179 u180 u181 u182 u183 u184 u185 u186 u187 u188 u189 u190 u191 u192 u193 u194 u195 u196 u197 u198 u199 u200 u201 u202 u203 u204 u205 : Value} (hb : Below w.heap.size w w0) (hc1 : cpus < 256) (hw : which < 256) (hg : U16 w0 vg ns) (ht : SmArg w0 vt ts) (hs : U16 w0 vs sl) :
    Code.wp Try.prog (tailR Try.f7 3) (bodyPost Try.prog Try.f7 fun e w' => e = .returned (.bool true) ∧ Below w.heap.size w w')
      ⟨#[.int .u8 (cpus : Nat), vg, vt, vs, .int .u8 (which : Nat), u5, u6, u7, u8, u9, u10, u11, u12, u13, u14, u15, u16, u17, u18, u19, u20, u21, u22, u23, u24, u25, u26, u27, u28, u29, u30, u31, u32, u33, u34, u35, u36, u37, u38, u39, u40, u41, u42, u43, u44, u45, u46, u47, u48, u49, u50, u51, u52, u53, u54, u55, u56, u57, u58, u59, u60, u61, u62, u63, u64, u65, u66, u67, u68, u69, u70, u71, u72, u73, u74, u75, u76, u77, u78, u79, u80, u81, u82, u83, u84, u85, u86, u87, u88, u89, u90, u91, u92, u93, u94, u95, u96, u97, u98, u99, u100, u101, u102, u103, u104, u105, u106, u107, u108, u109, u110, u111, u112, u113, u114, u115, u116, u117, u118, u119, u120, u121, u122, u123, u124, u125, u126, u127, u128, u129, u130, u131, u132, u133, u134, u135, u136, u137, u138, u139, u140, u141, u142, u143, u144, u145, u146, u147, u148, u149, u150, u151, u152, u153, u154, u155, u156, u157, u158, u159, u160, u161, u162, u163, u164, u165, u166, u167, u168, u169, u170, u171, u172, u173, u174, u175, u176, u177, u178, u179, u180, u181, u182, u183, u184, u185, u186, u187, u188, u189, u190, u191, u192, u193, u194, u195, u196, u197, u198, u199, u200, u201, u202, u203, u204, u205], []⟩ w0 := by
  conv => arg 2; whnf
  conv => arg 4; dsimp only
  have HB := Lib.hid hb
  have HG := Lib.hid hg
  have HT := Lib.hid ht
  have HS := Lib.hid hs
  have hsz := hb.size
  clear hb hg ht hs
  apply wp_seq_k; intro K0 hK0
  go_cut [11] (fun v wx => ∃ c s X, v = .pointer (some ⟨X, 0, none⟩) ∧ StO w0.heap.size wx c s ∧ StBox wx X c s ∧ Sim (madS cpus ns ts sl) s ∧ RowsB s ∧ Below w0.heap.size w0 wx)
  case first =>
    go_wp2_with fail
    refine (made_law w0 cpus vg vt vs ns ts sl hc1 HG.out HT.out HS.out).mono ?_
    rintro e w1 ⟨⟨vg', vc', vu', vt', vs'⟩, s, rfl, o, sim, rb, bb⟩
    obtain ⟨A1, c1, h1⟩ := (o.og.ev encG_len).shape
    obtain ⟨A2, c2, h2⟩ := (o.oc.ev encI_len).shape
    obtain ⟨A3, c3, h3⟩ := (o.ou.ev encI_len).shape
    obtain ⟨A4, c4, h4⟩ := (o.ot.ev encT_len).shape
    obtain ⟨A5, c5, h5⟩ := (o.os.ev encR_len).shape
    dsimp only at h1 h2 h3 h4 h5
    subst h1 h2 h3 h4 h5
    have O := Lib.hid o
    have S := Lib.hid sim
    have B := Lib.hid bb
    have RB := Lib.hid rb
    clear o sim bb rb
    unfold StC.val StC.cells
    dsimp only
    go_wp2_with fail
    go_meet
    have B2 := below_step B.out (bel_alloc w1 (.cells #[.int .i64 s.n, .int .u64 s.cr, .slice A1 s.gs.length c1, .slice A2 s.cl.length c2, .slice A3 s.cu.length c3, .slice A4 s.ts.length c4, .slice A5 s.ss.length c5] 38))
    exact ⟨⟨.slice A1 s.gs.length c1, .slice A2 s.cl.length c2, .slice A3 s.cu.length c3, .slice A4 s.ts.length c4, .slice A5 s.ss.length c5⟩, s, _, rfl, O.out.below (bel_alloc _ _), StBox.new w1 ⟨.slice A1 s.gs.length c1, .slice A2 s.cl.length c2, .slice A3 s.cu.length c3, .slice A4 s.ts.length c4, .slice A5 s.ss.length c5⟩ s, S.out, RB.out, B2⟩
  case rest =>
  obtain ⟨c, s, X, rfl, o, bx, sim, rb, bb⟩ := hcut
  have hsh := made_shp HG.out.2.1 HT.out.2.1 sim
  refine hK0 _ _ (walk_t4 w _ X w0.heap.size c s which o bx (HB.out.trans (bb.mono hsz)) hsh hw)
set_option maxRecDepth 100000 in
set_option maxHeartbeats 3200000 in
theorem walkLaw_walk (w : World) (vg vt vs : Value) (cpus which : Nat) (ns : List Nat) (ts : List Sm) (sl : List Nat) (hc1 : cpus < 256) (hw : which < 256) (hg : U16 w vg ns) (ht : SmArg w vt ts) (hs : U16 w vs sl) :
    Calls Try.prog 7 #[.int .u8 (cpus : Nat), vg, vt, vs, .int .u8 (which : Nat)] w fun e w' => e = .returned (.bool true) ∧ Below w.heap.size w w' := by
  have HG := Lib.hid hg
  have HT := Lib.hid ht
  have HS := Lib.hid hs
  clear hg ht hs
  go_enter Try.func7, Try.ntmps7
  go_wp2_with fail
  refine (awake_ok w).mono ?_
  rintro e w2 ⟨rfl, bb⟩
  go_upto_if 30 with fail
  go_cut [] (fun wx => wx = w2)
  case first =>
    go_wp2_with fail
    go_meet
    rfl
  case rest =>
    subst hcut
    refine (‹∀ (a : Act) (w : World), Code.wp _ _ _ a w → _› : ∀ (a : Act) (w : World), _ → _) _ _ (walk_t3 w _ vg vt vs cpus which ns ts sl bb hc1 hw (HG.out.below bb) (HT.out.below bb) (HS.out.below bb))
end Go.Proofs.Ytenngfkgfdogjaa

/- The walk of the law EntityWrong: its head. -/
import Derived.Test.YtenngfkgfdogjaaZ32
set_option linter.unusedVariables false
set_option linter.unusedSimpArgs false
set_option linter.unusedSectionVars false
namespace Go.Proofs.Ytenngfkgfdogjaa
open Go Go.RowKit Go.Shelf Go.Deep Go.ChangeShapes Go.WideShapes
attribute [local go_sem] Oper.semAt_some

theorem elemM : ElemT Try.prog 30 72 5 8 := ⟨Try.underlying30, by
  have h : (Try.prog.info? 72).map (fun i => (i.zero, i.size, i.bytes)) = some (some (.agg #[.int .u16 0, .int .u16 0, .int .u16 0, .int .u8 0, .bool false]), 5, 8) := by kernel_rfl
  obtain ⟨i, h1, h2, h3, h4⟩ := info_parts h
  exact ⟨i, _, h1, h2, h3, h4, rfl⟩, by omega, by omega⟩
/-- Small tasks, with the bound on their bytes. -/
def SmArgS (w : World) (v : Value) (ts : List Sm) : Prop := SmArg w v ts ∧ ts.length * 8 ≤ reachBytes
theorem SmArgS.below {w w' : World} {v : Value} {ts : List Sm} (h : SmArgS w v ts) (hb : Below w.heap.size w w') : SmArgS w' v ts := ⟨h.1.below hb, h.2⟩
section
variable {H : Type} {encd : TypeId × Value → H} {w : World} {base : Nat} {spare : Nat → Bool} {held : Bool}
theorem sm_openS {n : Nat} {v : Value} {x : DataW H × List MemPlace} (hz : Szd Try.prog 30 x.1) (h : DataW.trod encd Try.prog w base spare held n 30 [v] = some x) : ∃ ts, SmArgS w v ts := by
  obtain ⟨A, len, cap, xs, hv, h1, h2, h3, h4⟩ := open_rowsS (enc := encM) (k := 5) (by' := 8) (Q := SmOk) hz (by kernel_rfl) Try.underlying30 (by kernel_rfl) (by omega) (fun n cs y _ hy => sm_cells hy) h
  simp only [List.cons.injEq, and_true] at hv
  subst hv
  have hr := reach_le
  exact ⟨xs, ⟨h1, h4, by omega⟩, by rw [h2]; exact h3⟩
end
theorem Shp.stl {s : St} (h : Shp s) : StL s := by
  have h1 := (right_iff.1 h.right).many
  have h2 := h.n2
  refine ⟨by omega, by have := h.cl; omega, by have := h.cu; omega, by have := h.len; omega, by have := h.ss; omega, fun x hx => by have := h.row x hx; omega⟩
set_option maxRecDepth 100000 in
set_option maxHeartbeats 6400000 in
theorem wrong_t4 (w w0 : World) (X base way : Nat) (c : StC) (s : St) (x : Int) {u0 u1 u2 u5 u6 u7 u8 u9 u10 u12 u13 u14 u15 u16 u17 u18 u19 u20 u21 u22 u23 u24 u25 u26 u27 u28 u29 u30 u31 u32 u33 u34 u35 u36 u37 u38 u39 u40 u41 u42 u43 u44 u45 u46 u47 u48 u49 u50 u51 u52 u53 u54 u55 u56 u57 u58 u59 u60 u61 u62 u63 u64 u65 u66 u67 u68 u69 u70 u71 u72 u73 u74 u75 u76 u77 u78 u79 u80 u81 u82 u83 u84 u85 u86 u87 u88 u89 u90 u91 u92 u93 u94 u95 u96 u97 u98 u99 u100 u101 u102 u103 u104 u105 u106 u107 u108 u109 u110 u111 u112 u113 u114 u115 u116 u117 u118 u119 u120 u121 u122 u123 u124 u125 u126 u127 u128 u129 u130 u131 u132 u133 u134 u135 u136 u137 u138 u139 u140 u141 u142 u143 u144 u145 u146 u147 u148 u149 u150 u151 u152 u153 u154 u155 u156 u157 u158 u159 u160 u161 u162 u163 u164 u165 u166 u167 u168 u169 u170 u171 u172 u173 u174 u175 u176 u177 u178 u179 u180 u181 u182 u183 u184 u185 u186 u187 u188 u189 u190 u191 u192 u193 u194 u195 u196 u197 u198 u199 u200 u201 u202 u203 u204 u205 u206 u207 u208 u209 u210 u211 u212 u213 u214 u215 u216 u217 u218 u219 u220 u221 u222 u223 u224 u225 u226 u227 u228 u229 u230 u231 u232 u233 u234 u235 u236 u237 u238 u239 u240 u241 u242 u243 u244 u245 u246 u247 u248 u249 u250 u251 u252 u253 u254 u255 u256 u257 u258 u259 u260 u261 : Value} (o : StO base w0 c s) (bx : StBox w0 X c s) (hb : Below w.heap.size w w0) (hs : Shp s) (hg : s.gs.length ≤ 11) (hn : s.n ≤ 8) (hx1 : -9223372036854775808 ≤ x) (hx2 : x ≤ 9223372036854775807)
    (ht : 0 < s.ts.length) (hw : way < 256) :
    Code.wp Try.prog (tailR Try.f8 4) (bodyPost Try.prog Try.f8 fun e w' => e = .returned (.bool true) ∧ Below w.heap.size w w')
      ⟨#[u0, u1, u2, .int .u8 (way : Nat), .int .i64 x, u5, u6, u7, u8, u9, u10, .pointer (some ⟨X, 0, none⟩), u12, u13, u14, u15, u16, u17, u18, u19, u20, u21, u22, u23, u24, u25, u26, u27, u28, u29, u30, u31, u32, u33, u34, u35, u36, u37, u38, u39, u40, u41, u42, u43, u44, u45, u46, u47, u48, u49, u50, u51, u52, u53, u54, u55, u56, u57, u58, u59, u60, u61, u62, u63, u64, u65, u66, u67, u68, u69, u70, u71, u72, u73, u74, u75, u76, u77, u78, u79, u80, u81, u82, u83, u84, u85, u86, u87, u88, u89, u90, u91, u92, u93, u94, u95, u96, u97, u98, u99, u100, u101, u102, u103, u104, u105, u106, u107, u108, u109, u110, u111, u112, u113, u114, u115, u116, u117, u118, u119, u120, u121, u122, u123, u124, u125, u126, u127, u128, u129, u130, u131, u132, u133, u134, u135, u136, u137, u138, u139, u140, u141, u142, u143, u144, u145, u146, u147, u148, u149, u150, u151, u152, u153, u154, u155, u156, u157, u158, u159, u160, u161, u162, u163, u164, u165, u166, u167, u168, u169, u170, u171, u172, u173, u174, u175, u176, u177, u178, u179, u180, u181, u182, u183, u184, u185, u186, u187, u188, u189, u190, u191, u192, u193, u194, u195, u196, u197, u198, u199, u200, u201, u202, u203, u204, u205, u206, u207, u208, u209, u210, u211, u212, u213, u214, u215, u216, u217, u218, u219, u220, u221, u222, u223, u224, u225, u226, u227, u228, u229, u230, u231, u232, u233, u234, u235, u236, u237, u238, u239, u240, u241, u242, u243, u244, u245, u246, u247, u248, u249, u250, u251, u252, u253, u254, u255, u256, u257, u258, u259, u260, u261], []⟩ w0 := by
  conv => arg 2; whnf
  conv => arg 4; dsimp only
  have CP := Lib.hid (copy_ok w0 c s o.at hs.stl)
  have HO := Lib.hid o
  have HBX := Lib.hid bx
  have HB := Lib.hid hb
  have HS := Lib.hid hs
  have HG := Lib.hid hg
  have HN := Lib.hid hn
  have HX1 := Lib.hid hx1
  have HX2 := Lib.hid hx2
  have HT := Lib.hid ht
  have HW := Lib.hid hw
  obtain ⟨b0, b1, b2, b3, b4, b5, b6⟩ := bx.cell
  unfold StC.val StC.cells at CP
  clear o bx hb hs hg hn hx1 hx2 ht hw
  apply wp_seq_k; intro K0 hK0
  go_cut [12] (fun v wx => ∃ c' s' Xb, v = .pointer (some ⟨Xb, 0, none⟩) ∧ StO w0.heap.size wx c' s' ∧ StBox wx Xb c' s' ∧ Sim s s' ∧ w0.heap.size ≤ Xb ∧ Below w0.heap.size w0 wx)
  case first =>
    go_wp2_with fail
    refine CP.out.mono ?_
    rintro e w1 ⟨⟨vg', vc', vu', vt', vs'⟩, s', rfl, o, sim, bb⟩
    obtain ⟨A1, c1, h1⟩ := (o.og.ev encG_len).shape
    obtain ⟨A2, c2, h2⟩ := (o.oc.ev encI_len).shape
    obtain ⟨A3, c3, h3⟩ := (o.ou.ev encI_len).shape
    obtain ⟨A4, c4, h4⟩ := (o.ot.ev encT_len).shape
    obtain ⟨A5, c5, h5⟩ := (o.os.ev encR_len).shape
    dsimp only at h1 h2 h3 h4 h5
    subst h1 h2 h3 h4 h5
    have O := Lib.hid o
    have S := Lib.hid sim
    have B := Lib.hid bb
    clear o sim bb CP b0 b1 b2 b3 b4 b5 b6
    dsimp only
    go_wp2_with fail
    go_meet
    have B2 := below_step B.out (bel_alloc w1 (.cells #[.int .i64 s'.n, .int .u64 s'.cr, .slice A1 s'.gs.length c1, .slice A2 s'.cl.length c2, .slice A3 s'.cu.length c3, .slice A4 s'.ts.length c4, .slice A5 s'.ss.length c5] 38))
    exact ⟨⟨.slice A1 s'.gs.length c1, .slice A2 s'.cl.length c2, .slice A3 s'.cu.length c3, .slice A4 s'.ts.length c4, .slice A5 s'.ss.length c5⟩, s', _, rfl, O.out.below (bel_alloc _ _), StBox.new w1 ⟨.slice A1 s'.gs.length c1, .slice A2 s'.cl.length c2, .slice A3 s'.cu.length c3, .slice A4 s'.ts.length c4, .slice A5 s'.ss.length c5⟩ s', S.out, B.out.size, B2⟩
  case rest =>
  obtain ⟨c', s', Xb, rfl, ob, bxb, sim, hX, bb⟩ := hcut
  clear CP b0 b1 b2 b3 b4 b5 b6
  obtain ⟨w2, hw2⟩ : ∃ w2, w2 = wc := ⟨_, rfl⟩
  subst hw2
  have hsb := Lib.hid (shp_iff.1 ((shapedB_sim sim).symm.trans (shp_iff.2 HS.out)))
  obtain ⟨T, hT⟩ : ∃ T, s'.ts.length = T := ⟨_, rfl⟩
  have hT0 : 0 < T := by rw [← hT, ← sim.ts]; exact HT.out
  have hT1 : T ≤ 65535 := by have := hsb.out.len; omega
  obtain ⟨g, cap, hvt, _, _⟩ := ob.ot.form (by omega)
  rw [hT] at hvt
  obtain ⟨r, hr⟩ : ∃ r, r + 1 = T := ⟨T - 1, by omega⟩
  have d5 := bxb.cell.2.2.2.2.2.1
  rw [hvt] at d5
  have w1 : IntKind.i64.wrap ((T : Int) - 1) = (r : Int) := by rw [IntWalk.i64_in _ (by omega)]; omega
  have i1 : (0 : Int) ≤ (r : Int) := by omega
  have i2 : (r : Int) < (T : Int) := by omega
  have i3 : r < T := by omega
  have OB := Lib.hid ob
  have BXB := Lib.hid bxb
  have SIM := Lib.hid sim
  have HX := Lib.hid hX
  have BB := Lib.hid bb
  have HTT := Lib.hid hT
  have HVT := Lib.hid hvt
  have HR := Lib.hid hr
  clear ob bxb sim hX bb hT hvt hr
  refine hK0 _ _ ?_
  clear hK0
  go_upto_region 5 with fail
  go_cut [13] (fun v wx => v = .pointer (some ⟨g, r * 8, none⟩) ∧ wx = w2)
  case first =>
    go_wp2_with fail
    go_meet
    exact ⟨rfl, rfl⟩
  case rest =>
    obtain ⟨rfl, rfl⟩ := hcut
    refine (‹∀ (a : Act) (w : World), Code.wp _ _ _ a w → _› : ∀ (a : Act) (w : World), _ → _) _ _ (wrong_t6 w w0 _ X Xb w0.heap.size g T cap r way c c' s s' x HO.out.at HBX.out HB.out HS.out HG.out HN.out HX1.out HX2.out OB.out BXB.out HX.out (Nat.le_refl _) BB.out.size BB.out hsb.out SIM.out.n.symm HVT.out HTT.out HR.out HW.out)
theorem mad_small {cpus : Nat} {ns : List Nat} {ts : List Sm} {sl : List Nat} {s : St} (hns : ∀ n ∈ ns, n < 65536) (h : Sim (madS cpus ns ts sl) s) : s.gs.length ≤ 11 ∧ s.n ≤ 8 ∧ s.ts.length = min 30 ts.length := by
  obtain ⟨_, hl⟩ := madG_len10 hns
  refine ⟨?_, ?_, ?_⟩
  · rw [← h.gs]; show (madG (ns.take 10)).length ≤ 11; omega
  · rw [← h.n]; show ((madN cpus : Nat) : Int) ≤ 8; unfold madN; omega
  · rw [← h.ts]; show (madT _ _ _ (ts.take 30)).length = _; rw [madT_len, List.length_take]
set_option maxRecDepth 100000 in
set_option maxHeartbeats 3200000 in
theorem wrong_t3 (w w0 : World) (vg vt : Value) (cpus way : Nat) (ns : List Nat) (ts : List Sm) (x : Int) {u5 u6 u7 u8 u9 u10 u11 u12 u13 u14 u15 u16 u17 u18 u19 u20 u21 u22 u23 u24 u25 u26 u27 u28 u29 u30 u31 u32 u33 u34 u35 u36 u37 u38 u39 u40 u41 u42 u43 u44 u45 u46 u47 u48 u49 u50 u51 u52 u53 u54 u55 u56 u57 u58 u59 u60 u61 u62 u63 u64 u65 u66 u67 u68 u69 u70 u71 u72 u73 u74 u75 u76 u77 u78 u79 u80 u81 u82 u83 u84 u85 u86 u87 u88 u89 u90 u91 u92 u93 u94 u95 u96 u97 u98 u99 u100 u101 u102 u103 u104 u105 u106 u107 u108 u109 u110 u111 u112 u113 u114 u115 u116 u117 u118 u119 u120 u121 u122 u123 u124 u125 u126 u127 u128 u129 u130 u131 u132 u133 u134 u135 u136 u137 u138 u139 u140 u141 u142 u143 u144 u145 u146 u147 u148 u149 u150 u151 u152 u153 u154 u155 u156 u157 u158 u159 u160 u161 u162 u163 u164 u165 u166 u167 u168 u169 u170 u171 u172 u173 u174 u175 u176 u177 u178 u179 u180 u181 u182 u183 u184 u185 u186 u187 u188 u189 u190 u191 u192 u193 u194 u195 u196 u197 u198 u199 u200 u201 u202 u203 u204 u205 u206 u207 u208 u209 u210 u211 u212 u213 u214 u215 u216 u217 u218 u219 u220 u221 u222 u223 u224 u225 u226 u227 u228 u229 u230 u231 u232 u233 u234 u235 u236 u237 u238 u239 u240 u241 u242 u243 u244 u245 u246 u247 u248 u249 u250 u251 u252 u253 u254 u255 u256 u257 u258 u259 u260 u261 : Value} (hb : Below w.heap.size w w0) (hc1 : cpus < 256) (hw : way < 256) (hx1 : -9223372036854775808 ≤ x) (hx2 : x ≤ 9223372036854775807) (hg : U16 w0 vg ns) (ht : SmArgS w0 vt ts) :
    Code.wp Try.prog (tailR Try.f8 3) (bodyPost Try.prog Try.f8 fun e w' => e = .returned (.bool true) ∧ Below w.heap.size w w')
      ⟨#[.int .u8 (cpus : Nat), vg, vt, .int .u8 (way : Nat), .int .i64 x, u5, u6, u7, u8, u9, u10, u11, u12, u13, u14, u15, u16, u17, u18, u19, u20, u21, u22, u23, u24, u25, u26, u27, u28, u29, u30, u31, u32, u33, u34, u35, u36, u37, u38, u39, u40, u41, u42, u43, u44, u45, u46, u47, u48, u49, u50, u51, u52, u53, u54, u55, u56, u57, u58, u59, u60, u61, u62, u63, u64, u65, u66, u67, u68, u69, u70, u71, u72, u73, u74, u75, u76, u77, u78, u79, u80, u81, u82, u83, u84, u85, u86, u87, u88, u89, u90, u91, u92, u93, u94, u95, u96, u97, u98, u99, u100, u101, u102, u103, u104, u105, u106, u107, u108, u109, u110, u111, u112, u113, u114, u115, u116, u117, u118, u119, u120, u121, u122, u123, u124, u125, u126, u127, u128, u129, u130, u131, u132, u133, u134, u135, u136, u137, u138, u139, u140, u141, u142, u143, u144, u145, u146, u147, u148, u149, u150, u151, u152, u153, u154, u155, u156, u157, u158, u159, u160, u161, u162, u163, u164, u165, u166, u167, u168, u169, u170, u171, u172, u173, u174, u175, u176, u177, u178, u179, u180, u181, u182, u183, u184, u185, u186, u187, u188, u189, u190, u191, u192, u193, u194, u195, u196, u197, u198, u199, u200, u201, u202, u203, u204, u205, u206, u207, u208, u209, u210, u211, u212, u213, u214, u215, u216, u217, u218, u219, u220, u221, u222, u223, u224, u225, u226, u227, u228, u229, u230, u231, u232, u233, u234, u235, u236, u237, u238, u239, u240, u241, u242, u243, u244, u245, u246, u247, u248, u249, u250, u251, u252, u253, u254, u255, u256, u257, u258, u259, u260, u261], []⟩ w0 := by
  conv => arg 2; whnf
  conv => arg 4; dsimp only
  have HB := Lib.hid hb
  have HG := Lib.hid hg
  have HT := Lib.hid ht
  have HX1 := Lib.hid hx1
  have HX2 := Lib.hid hx2
  have hsz := hb.size
  obtain ⟨Av, cv, hvt⟩ := ht.1.1.shape
  obtain ⟨T, hTT⟩ : ∃ T, ts.length = T := ⟨_, rfl⟩
  rw [hTT] at hvt
  subst hvt
  have HTT := Lib.hid hTT
  clear hb hg ht hx1 hx2 hTT
  apply wp_seq_k; intro K0 hK0
  go_cut [11] (fun v wx => ∃ c s X, v = .pointer (some ⟨X, 0, none⟩) ∧ StO w0.heap.size wx c s ∧ StBox wx X c s ∧ Sim (madS cpus ns (⟨0, 0, 0, 0, false⟩ :: ts) []) s ∧ Below w0.heap.size w0 wx)
  case first =>
    have A1 := Lib.hid (bel_alloc w0 (.cells #[.int .u16 0, .int .u16 0, .int .u16 0, .int .u8 0, .bool false] 72))
    have OL := Lib.hid (show OV encM 5 72 w0.heap.size (w0.alloc (.cells #[.int .u16 0, .int .u16 0, .int .u16 0, .int .u8 0, .bool false] 72)) (.slice (some ⟨w0.heap.size, 0, none⟩) 1 1) [⟨0, 0, 0, 0, false⟩] from OV.lit w0 _ 1 (Nat.le_refl _) (by unfold maxLen; omega) rfl rfl rfl)
    have EL := Lib.hid (HT.out.1.1.below A1.out)
    go_wp2_with (at_builtin; refine wpList_appB elemM encM_len encM_one rfl _ _ rfl _ _ rfl rfl OL.out EL.out ?q1 ?q2 ?q3 ?_)
    case q1 => have := HT.out.2; have := reach_le; rw [HTT.out] at *; simp only [List.length_singleton]; unfold reachBytes at *; omega
    case q2 => have := HT.out.2; have := reach_le; rw [HTT.out] at *; simp only [List.length_singleton]; unfold maxLen reachBytes at *; omega
    case q3 => exact A1.out.size
    intro v' w9 ho hgr
    have B9 := Lib.hid (A1.out.grown hgr A1.out.size (by intro k hk; simp [Value.ownBlock] at hk; omega))
    obtain ⟨A9, c9, h9⟩ := (ho.ev encM_len).shape
    have h9' : v' = .slice A9 (T + 1) c9 := by rw [h9]; simp [HTT.out]
    clear h9
    subst h9'
    have SA := Lib.hid (show SmArg w9 _ (⟨0, 0, 0, 0, false⟩ :: ts) from ⟨ho.ev encM_len, fun t h => (List.mem_cons.1 h).elim (fun e => e ▸ ⟨by decide, by decide, by decide, by decide⟩) (HT.out.1.2.1 t), by have := HT.out.2; have := reach_le; rw [List.length_cons]; unfold reachBytes at *; omega⟩)
    have HS0 := Lib.hid (show U16 w9 (.slice none 0 0) [] from ⟨EV.nil _ _, fun n h => absurd h (by simp), by decide⟩)
    clear ho hgr
    go_wp2_with fail
    refine (made_law w9 cpus vg _ (.slice none 0 0) ns (⟨0, 0, 0, 0, false⟩ :: ts) [] hc1 (HG.out.below B9.out) SA.out HS0.out).mono ?_
    rintro e w1 ⟨⟨vg', vc', vu', vt', vs'⟩, s, rfl, o, sim, rb, bb⟩
    replace o := o.base_le B9.out.size
    obtain ⟨A1, c1, h1⟩ := (o.og.ev encG_len).shape
    obtain ⟨A2, c2, h2⟩ := (o.oc.ev encI_len).shape
    obtain ⟨A3, c3, h3⟩ := (o.ou.ev encI_len).shape
    obtain ⟨A4, c4, h4⟩ := (o.ot.ev encT_len).shape
    obtain ⟨A5, c5, h5⟩ := (o.os.ev encR_len).shape
    dsimp only at h1 h2 h3 h4 h5
    subst h1 h2 h3 h4 h5
    have O := Lib.hid o
    have S := Lib.hid sim
    have B := Lib.hid (B9.out.trans (bb.mono B9.out.size))
    clear o sim bb rb
    unfold StC.val StC.cells
    dsimp only
    go_wp2_with fail
    go_meet
    have B2 := below_step B.out (bel_alloc w1 (.cells #[.int .i64 s.n, .int .u64 s.cr, .slice A1 s.gs.length c1, .slice A2 s.cl.length c2, .slice A3 s.cu.length c3, .slice A4 s.ts.length c4, .slice A5 s.ss.length c5] 38))
    exact ⟨⟨.slice A1 s.gs.length c1, .slice A2 s.cl.length c2, .slice A3 s.cu.length c3, .slice A4 s.ts.length c4, .slice A5 s.ss.length c5⟩, s, _, rfl, O.out.below (bel_alloc _ _), StBox.new w1 ⟨.slice A1 s.gs.length c1, .slice A2 s.cl.length c2, .slice A3 s.cu.length c3, .slice A4 s.ts.length c4, .slice A5 s.ss.length c5⟩ s, S.out, B2⟩
  case rest =>
  obtain ⟨c, s, X, rfl, o, bx, sim, bb⟩ := hcut
  have hsh := made_shp HG.out.2.1 (fun t h => (List.mem_cons.1 h).elim (fun e => e ▸ ⟨by decide, by decide, by decide, by decide⟩) (HT.out.1.2.1 t)) sim
  obtain ⟨h1, h2, h3⟩ := mad_small HG.out.2.1 sim
  refine hK0 _ _ (wrong_t4 w _ X w0.heap.size way c s x o bx (HB.out.trans (bb.mono hsz)) hsh h1 h2 HX1.out HX2.out (by rw [h3, List.length_cons]; omega) hw)
set_option maxRecDepth 100000 in
set_option maxHeartbeats 3200000 in
theorem wrongLaw_walk (w : World) (vg vt : Value) (cpus way : Nat) (ns : List Nat) (ts : List Sm) (x : Int) (hc1 : cpus < 256) (hw : way < 256) (hx1 : -9223372036854775808 ≤ x) (hx2 : x ≤ 9223372036854775807) (hg : U16 w vg ns) (ht : SmArgS w vt ts) :
    Calls Try.prog 8 #[.int .u8 (cpus : Nat), vg, vt, .int .u8 (way : Nat), .int .i64 x] w fun e w' => e = .returned (.bool true) ∧ Below w.heap.size w w' := by
  have HG := Lib.hid hg
  have HT := Lib.hid ht
  have HX1 := Lib.hid hx1
  have HX2 := Lib.hid hx2
  clear hg ht hx1 hx2
  go_enter Try.func8, Try.ntmps8
  go_wp2_with fail
  refine (awake_ok w).mono ?_
  rintro e w2 ⟨rfl, bb⟩
  go_upto_if 45 with fail
  go_cut [] (fun wx => wx = w2)
  case first =>
    go_wp2_with fail
    go_meet
    rfl
  case rest =>
    subst hcut
    refine (‹∀ (a : Act) (w : World), Code.wp _ _ _ a w → _› : ∀ (a : Act) (w : World), _ → _) _ _ (wrong_t3 w _ vg vt cpus way ns ts x bb hc1 hw HX1.out HX2.out (HG.out.below bb) (HT.out.below bb))
end Go.Proofs.Ytenngfkgfdogjaa

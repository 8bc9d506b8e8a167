/- QuotaAccounts: the law's comparison of the uses; its calls | QuotaAccounts: the law's comparison, whole. -/
import Derived.Test.YtaplangfppohdaaDoorZ41
set_option linter.unusedVariables false
set_option linter.unusedSimpArgs false
set_option linter.unusedSectionVars false
namespace Go.Proofs.YtaplangfppohdaaDoor
open Go.RowKit Go.Shelf
attribute [local go_sem] Oper.semAt_some

set_option maxRecDepth 100000 in
set_option maxHeartbeats 3200000 in
theorem acc_t26 (w w1 : World) (v0 v1 v2 v3 k0 k1 k2 k3 : Value) (n cu cw B0 B1 : Nat) (Au Aw : Option Addr) (gs : List (Int × Int)) (rs : List Ru) (hs : List (Int × Int)) (l : List Ev) (us : List Us) {u4 u5 u6 u7 u8 u13 u14 u15 u16 u17 u18 u19 u20 u21 u22 u23 u24 u25 u27 u29 u30 u31 u32 u33 u34 u35 u36 u37 u38 u39 u40 u41 u42 u43 u44 u45 u46 u47 u48 u49 u50 u51 u52 u53 u54 u55 u56 u57 u58 u59 u60 u61 u62 u63 u64 u65 u66 u67 u68 u69 u70 u71 u72 u73 u74 u75 u76 u77 u78 u79 u80 u81 u82 u83 u84 u85 u86 u87 u88 u89 u90 u91 u92 u93 u94 u95 u96 u97 u98 u99 u100 u101 u102 u103 u104 u105 u106 u107 u108 u109 u110 u111 u112 u113 u114 u115 u116 u117 u118 u119 u120 u121 u122 u123 u124 u125 u126 u127 u128 u129 u130 u131 u132 u133 u134 u135 u136 u137 u138 u139 u140 u141 u142 u143 u144 u145 u146 u147 u148 u149 u150 u151 u152 u153 u154 u155 u156 u157 u158 u159 u160 u161 u162 u163 u164 u165 u166 u167 u168 u169 u170 u171 u172 u173 u174 u175 u176 u177 u178 u179 u180 u181 u182 u183 u184 u185 u186 u187 u188 u189 u190 u191 u192 u193 u194 u195 u196 u197 u198 u199 u200 u201 u202 u203 u204 : Value}
    (HF : Hid (AccF w w1 v0 v1 v2 v3 k0 k1 k2 k3 (.slice Au n cu) (.slice Aw n cw) B0 B1 gs rs hs l us)) (HN : Hid (us.length = n)) (hn : n ≤ 900000000) (hb : gs.length ≤ 100000 ∧ rs.length ≤ 100000 ∧ hs.length ≤ 100000 ∧ l.length ≤ 100000) :
    Code.wp Tryd.prog (tailR Tryd.f20 26) (bodyPost Tryd.prog Tryd.f20 fun e w' => e = .returned (.bool true) ∧ Below w.heap.size w w')
      ⟨#[v0, v1, v2, v3, u4, u5, u6, u7, u8, k0, k1, k2, k3, u13, u14, u15, u16, u17, u18, u19, u20, u21, u22, u23, u24, u25, .slice Au n cu, u27, .slice Aw n cw, u29, u30, u31, u32, u33, u34, u35, u36, u37, u38, u39, u40, u41, u42, u43, u44, u45, u46, u47, u48, u49, u50, u51, u52, u53, u54, u55, u56, u57, u58, u59, u60, u61, u62, u63, u64, u65, u66, u67, u68, u69, u70, u71, u72, u73, u74, u75, u76, u77, u78, u79, u80, u81, u82, u83, u84, u85, u86, u87, u88, u89, u90, u91, u92, u93, u94, u95, u96, u97, u98, u99, u100, u101, u102, u103, u104, u105, u106, u107, u108, u109, u110, u111, u112, u113, u114, u115, u116, u117, u118, u119, u120, u121, u122, u123, u124, u125, u126, u127, u128, u129, u130, u131, u132, u133, u134, u135, u136, u137, u138, u139, u140, u141, u142, u143, u144, u145, u146, u147, u148, u149, u150, u151, u152, u153, u154, u155, u156, u157, u158, u159, u160, u161, u162, u163, u164, u165, u166, u167, u168, u169, u170, u171, u172, u173, u174, u175, u176, u177, u178, u179, u180, u181, u182, u183, u184, u185, u186, u187, u188, u189, u190, u191, u192, u193, u194, u195, u196, u197, u198, u199, u200, u201, u202, u203, u204], []⟩ w1 := by
  conv => arg 2; whnf
  conv => arg 4; dsimp only
  go_upto_block 6 with fail
  go_cut [30] (fun v wx => EV encUs 5 wx v us ∧ Below w1.heap.size w1 wx)
  case first =>
    go_wp2
    go_loopg [30, 31, 32, 128] n (fun k v _ _ i wr => ∃ j : Nat, j + k = n ∧ i = .int .i64 j ∧ OV encUs 5 128 w1.heap.size wr v (us.take j) ∧ Below w1.heap.size w1 wr)
    case atStart => exact ⟨0, by omega, rfl, OV.nil _ _, Below.refl _ _⟩
    case round =>
      obtain ⟨j, hj, rfl, ho, hbl⟩ := hrel
      have HJ := Lib.hid hj
      have HO := Lib.hid ho
      have HB := Lib.hid hbl
      clear hj ho hbl
      by_cases hlt : j < n
      · obtain ⟨u, hu⟩ : ∃ u, us[j]? = some u := ⟨_, List.getElem?_eq_getElem (by rw [HN.out]; exact hlt)⟩
        have F := HF.out
        unfold AccF at F
        replace F := F.below HB.out
        obtain ⟨b, off, c', hs1, hc, hr⟩ := (OV.ev (F.get 8) encUs_len).row (by rw [HN.out]; omega)
        rw [HN.out] at hs1 hc
        simp only [Value.slice.injEq, true_and] at hs1
        obtain ⟨rfl, rfl⟩ := hs1
        obtain ⟨c0, c1, c2, c3, c4⟩ := hr.us hu
        have hbel := bel_alloc wr (.cells #[.int .i64 u.r, .int .i64 u.c, .int .i64 u.p, .int .i64 u.t, .int .i64 u.d] 50)
        obtain ⟨b2, off2, c2', hs2, hc2, hr2⟩ := ((OV.ev (F.get 9) encUs_len).below hbel).row (by rw [HN.out]; omega)
        rw [HN.out] at hs2 hc2
        simp only [Value.slice.injEq, true_and] at hs2
        obtain ⟨rfl, rfl⟩ := hs2
        obtain ⟨e0, e1, e2, e3, e4⟩ := hr2.us hu
        have HU := Lib.hid hu
        have HB2 := Lib.hid (HB.out.trans (hbel.mono HB.out.size))
        have HO2 := Lib.hid (HO.out.below hbel)
        clear hr hr2 F hbel hu
        go_upto_region 30 with fail
        have d0 : (wr.alloc (.cells #[.int .i64 u.r, .int .i64 u.c, .int .i64 u.p, .int .i64 u.t, .int .i64 u.d] 50)).cell? ⟨wr.heap.size, 0, none⟩ = some (.int .i64 u.r) := by go_simp
        have d1 : (wr.alloc (.cells #[.int .i64 u.r, .int .i64 u.c, .int .i64 u.p, .int .i64 u.t, .int .i64 u.d] 50)).cell? ⟨wr.heap.size, 1, none⟩ = some (.int .i64 u.c) := by go_simp
        have d2 : (wr.alloc (.cells #[.int .i64 u.r, .int .i64 u.c, .int .i64 u.p, .int .i64 u.t, .int .i64 u.d] 50)).cell? ⟨wr.heap.size, 2, none⟩ = some (.int .i64 u.p) := by go_simp
        have d3 : (wr.alloc (.cells #[.int .i64 u.r, .int .i64 u.c, .int .i64 u.p, .int .i64 u.t, .int .i64 u.d] 50)).cell? ⟨wr.heap.size, 3, none⟩ = some (.int .i64 u.t) := by go_simp
        have d4 : (wr.alloc (.cells #[.int .i64 u.r, .int .i64 u.c, .int .i64 u.p, .int .i64 u.t, .int .i64 u.d] 50)).cell? ⟨wr.heap.size, 4, none⟩ = some (.int .i64 u.d) := by go_simp
        clear c0 c1 c2 c3 c4
        generalize wr.alloc (.cells #[.int .i64 u.r, .int .i64 u.c, .int .i64 u.p, .int .i64 u.t, .int .i64 u.d] 50) = w5 at HB2 HO2 d0 d1 d2 d3 d4 e0 e1 e2 e3 e4 ⊢
        generalize wr.heap.size = X at d0 d1 d2 d3 d4 ⊢
        clear HO HB
        go_wp2_with fail
        go_quiet (fail)
        replace d0 : (w5.drewN nq).cell? ⟨X, 0, none⟩ = some (.int .i64 u.r) := d0
        replace d1 : (w5.drewN nq).cell? ⟨X, 1, none⟩ = some (.int .i64 u.c) := d1
        replace d2 : (w5.drewN nq).cell? ⟨X, 2, none⟩ = some (.int .i64 u.p) := d2
        replace d3 : (w5.drewN nq).cell? ⟨X, 3, none⟩ = some (.int .i64 u.t) := d3
        replace d4 : (w5.drewN nq).cell? ⟨X, 4, none⟩ = some (.int .i64 u.d) := d4
        have HB3 := Lib.hid (below_drewN HB2.out nq)
        have HO3 := Lib.hid (HO2.out.drewN nq)
        clear e0 e1 e2 e3 e4 HB2 HO2
        generalize w5.drewN nq = w6 at HB3 HO3 d0 d1 d2 d3 d4 ⊢
        go_wp2_with (at_builtin; refine wpList_app elemRU encUs_len encUs_one rfl _ _ rfl _ _ rfl rfl (HO3.out.alloc _) (new_ruseM (u := u) (by simp)) ?q1 ?q2 ?_)
        case q1 => simp; omega
        case q2 => have := HB3.out.size; simp; omega
        intro v' w7 ho7 hg7
        have HO7 := Lib.hid ho7
        have HB7 := Lib.hid ((HB3.out.alloc HB3.out.size (.cells #[.int .i64 u.r, .int .i64 u.c, .int .i64 u.p, .int .i64 u.t, .int .i64 u.d] 128)).grown hg7 (by have := HB3.out.size; simp; omega) (fun k hk => (HO3.out.block k hk).1))
        clear ho7 hg7 d0 d1 d2 d3 d4
        go_wp2
        go_roundg (gk - 1)
        case measure => have := HJ.out; omega
        case rel => exact ⟨j + 1, by have := HJ.out; omega, by go_num, by rw [List.take_add_one, HU.out]; exact HO7.out, HB7.out⟩
      · obtain rfl : n = j := by have := HJ.out; omega
        have HF2 := Lib.hid HO.out
        rw [← HN.out, List.take_length] at HF2
        go_wp2
        go_meet
        exact ⟨HF2.out.ev encUs_len, HB.out⟩
  case rest =>
    obtain ⟨hv, hbl⟩ := hcut
    refine (‹∀ (a : Act) (w : World), Code.wp _ _ _ a w → _› : ∀ (a : Act) (w : World), _ → _) _ _ (acc_t34 w _ v0 v1 v2 v3 k0 k1 k2 k3 _ n cu cw B0 B1 Au Aw gs rs hs l us (Lib.hid ((HF.out : Facts _ _).below hbl)) (Lib.hid hv) HN hn hb)
set_option maxRecDepth 100000 in
set_option maxHeartbeats 3200000 in
theorem acc_t20 (w w1 : World) (v0 v1 v2 v3 k0 k1 k2 k3 r1 r2 r3 : Value) (gs : List (Int × Int)) (rs : List Ru) (hs : List (Int × Int)) (l : List Ev) {u4 u5 u6 u7 u8 u14 u15 u17 u18 u20 u21 u22 u23 u24 u25 u26 u27 u28 u29 u30 u31 u32 u33 u34 u35 u36 u37 u38 u39 u40 u41 u42 u43 u44 u45 u46 u47 u48 u49 u50 u51 u52 u53 u54 u55 u56 u57 u58 u59 u60 u61 u62 u63 u64 u65 u66 u67 u68 u69 u70 u71 u72 u73 u74 u75 u76 u77 u78 u79 u80 u81 u82 u83 u84 u85 u86 u87 u88 u89 u90 u91 u92 u93 u94 u95 u96 u97 u98 u99 u100 u101 u102 u103 u104 u105 u106 u107 u108 u109 u110 u111 u112 u113 u114 u115 u116 u117 u118 u119 u120 u121 u122 u123 u124 u125 u126 u127 u128 u129 u130 u131 u132 u133 u134 u135 u136 u137 u138 u139 u140 u141 u142 u143 u144 u145 u146 u147 u148 u149 u150 u151 u152 u153 u154 u155 u156 u157 u158 u159 u160 u161 u162 u163 u164 u165 u166 u167 u168 u169 u170 u171 u172 u173 u174 u175 u176 u177 u178 u179 u180 u181 u182 u183 u184 u185 u186 u187 u188 u189 u190 u191 u192 u193 u194 u195 u196 u197 u198 u199 u200 u201 u202 u203 u204 : Value}
    (HF : Hid (Facts w1 [sEV encG 2 v0 gs, sEV encRu 3 v1 rs, sEV encG 2 v2 hs, sEV encE 11 v3 l, sEV encG 2 k0 gs, sEV encRu 3 k1 rs, sEV encG 2 k2 hs, sEV encE 11 k3 l, sEV encRu 3 r1 rs, sEV encG 2 r2 hs, sEV encE 11 r3 l, sB w])) (HU : Hid (UsesAt w)) (hb : gs.length ≤ 100000 ∧ rs.length ≤ 100 ∧ hs.length ≤ 100000 ∧ l.length ≤ 100000)
    (ho : Hid (∀ e ∈ l, EvOk e)) (hho : Hid (∀ h ∈ hs, (-9223372036854775808 ≤ h.1 ∧ h.1 ≤ 9223372036854775807) ∧ (-9223372036854775808 ≤ h.2 ∧ h.2 ≤ 9223372036854775807))) :
    Code.wp Tryd.prog (tailR Tryd.f20 20) (bodyPost Tryd.prog Tryd.f20 fun e w' => e = .returned (.bool true) ∧ Below w.heap.size w w')
      ⟨#[v0, v1, v2, v3, u4, u5, u6, u7, u8, k0, k1, k2, k3, r1, u14, u15, r2, u17, u18, r3, u20, u21, u22, u23, u24, u25, u26, u27, u28, u29, u30, u31, u32, u33, u34, u35, u36, u37, u38, u39, u40, u41, u42, u43, u44, u45, u46, u47, u48, u49, u50, u51, u52, u53, u54, u55, u56, u57, u58, u59, u60, u61, u62, u63, u64, u65, u66, u67, u68, u69, u70, u71, u72, u73, u74, u75, u76, u77, u78, u79, u80, u81, u82, u83, u84, u85, u86, u87, u88, u89, u90, u91, u92, u93, u94, u95, u96, u97, u98, u99, u100, u101, u102, u103, u104, u105, u106, u107, u108, u109, u110, u111, u112, u113, u114, u115, u116, u117, u118, u119, u120, u121, u122, u123, u124, u125, u126, u127, u128, u129, u130, u131, u132, u133, u134, u135, u136, u137, u138, u139, u140, u141, u142, u143, u144, u145, u146, u147, u148, u149, u150, u151, u152, u153, u154, u155, u156, u157, u158, u159, u160, u161, u162, u163, u164, u165, u166, u167, u168, u169, u170, u171, u172, u173, u174, u175, u176, u177, u178, u179, u180, u181, u182, u183, u184, u185, u186, u187, u188, u189, u190, u191, u192, u193, u194, u195, u196, u197, u198, u199, u200, u201, u202, u203, u204], []⟩ w1 := by
  conv => arg 2; whnf
  conv => arg 4; dsimp only
  have F := HF.out
  obtain ⟨q0, hq0⟩ : ∃ q0, (chkR gs rs).1 = q0 := ⟨_, rfl⟩
  obtain ⟨q1, hq1⟩ : ∃ q1, (chkR gs rs).2 = q1 := ⟨_, rfl⟩
  have HA := Lib.hid (fun (W : World) (h : Facts W [sEV encG 2 v0 gs, sEV encRu 3 v1 rs, sEV encG 2 v2 hs, sEV encE 11 v3 l, sEV encG 2 k0 gs, sEV encRu 3 k1 rs, sEV encG 2 k2 hs, sEV encE 11 k3 l, sEV encRu 3 r1 rs, sEV encG 2 r2 hs, sEV encE 11 r3 l, sB w]) => qcheck_ok W k0 k1 gs rs (h.get 4) (h.get 5) (by omega) (by omega))
  have HBq := Lib.hid (fun (W : World) (h : Facts W [sEV encG 2 v0 gs, sEV encRu 3 v1 rs, sEV encG 2 v2 hs, sEV encE 11 v3 l, sEV encG 2 k0 gs, sEV encRu 3 k1 rs, sEV encG 2 k2 hs, sEV encE 11 k3 l, sEV encRu 3 r1 rs, sEV encG 2 r2 hs, sEV encE 11 r3 l, sB w]) => rqcheck_ok W v0 r1 gs rs (h.get 0) (h.get 8) (by omega) (by omega))
  have HC := Lib.hid (fun (W : World) (h : Facts W [sEV encG 2 v0 gs, sEV encRu 3 v1 rs, sEV encG 2 v2 hs, sEV encE 11 v3 l, sEV encG 2 k0 gs, sEV encRu 3 k1 rs, sEV encG 2 k2 hs, sEV encE 11 k3 l, sEV encRu 3 r1 rs, sEV encG 2 r2 hs, sEV encE 11 r3 l, sB w]) => account_ok W k0 k1 k2 k3 gs rs hs l (h.get 4) (h.get 5) (h.get 6) (h.get 7) (HU.out.below (h.get 11)) (by omega) (by omega) (by omega) (by omega) ho.out hho.out)
  have HD := Lib.hid (fun (W : World) (h : Facts W [sEV encG 2 v0 gs, sEV encRu 3 v1 rs, sEV encG 2 v2 hs, sEV encE 11 v3 l, sEV encG 2 k0 gs, sEV encRu 3 k1 rs, sEV encG 2 k2 hs, sEV encE 11 k3 l, sEV encRu 3 r1 rs, sEV encG 2 r2 hs, sEV encE 11 r3 l, sB w]) => raccount_ok W v0 r1 r2 r3 gs rs hs l (h.get 0) (h.get 8) (h.get 9) (h.get 10) (by omega) (by omega) (by omega) (by omega) ho.out hho.out)
  have HLEN := Lib.hid (show (accL gs rs hs l).length ≤ 900000000 from by
    unfold accL
    split
    · rename_i he
      split
      · simp
      · rename_i o hlk
        have ha : allN gs rs o ≤ 65536 := by
          unfold accE at he
          split at he
          · rename_i h; exact absurd he h
          · rw [hlk] at he
            dsimp only at he
            split at he
            · cases he
            · omega
        rw [← usesI_all]
        have h1 := usesI_len (gs := gs) (rs := rs) (o := o) ha rs.length (Nat.le_refl _)
        have : rs.length * (64 * 65536) ≤ 100 * (64 * 65536) := Nat.mul_le_mul_right _ (by omega)
        omega
    · simp)
  rw [hq0, hq1] at HA HBq
  generalize accE gs rs hs l = ae at HC HD
  generalize accL gs rs hs l = us at HC HD HLEN
  clear hq0 hq1
  go_wp2_with fail
  refine (HA.out _ F).mono ?_
  rintro e w2 ⟨rfl, b2⟩
  replace F := F.below b2
  clear b2
  go_wp2_with fail
  refine (HBq.out _ F).mono ?_
  rintro e w3 ⟨rfl, b3⟩
  replace F := F.below b3
  clear b3
  go_wp2_with fail
  refine (HC.out _ F).mono ?_
  rintro e w4 ⟨vu, rfl, o4, b4⟩
  have HO4 := Lib.hid o4
  replace F := F.below b4
  clear b4 o4
  go_wp2_with fail
  refine (HD.out _ F).mono ?_
  rintro e w5 ⟨vw, rfl, o5, b5⟩
  replace F := F.below b5
  obtain ⟨n, hn⟩ : ∃ n, us.length = n := ⟨_, rfl⟩
  obtain ⟨Au, cu, hvu⟩ := (HO4.out.ev encUs_len).shape
  obtain ⟨Aw, cw, hvw⟩ := (o5.ev encUs_len).shape
  rw [hn] at hvu hvw
  subst hvu hvw
  have HT := Lib.hid (show AccF w w5 v0 v1 v2 v3 k0 k1 k2 k3 (.slice Au n cu) (.slice Aw n cw) w3.heap.size w4.heap.size gs rs hs l us from ⟨F.get 0, F.get 1, F.get 2, F.get 3, F.get 4, F.get 5, F.get 6, F.get 7, HO4.out.below b5, o5, F.get 11, trivial⟩)
  have HNN := Lib.hid hn
  have hn9 : n ≤ 900000000 := by rw [← hn]; exact HLEN.out
  clear F b5 o5 HO4 HA HBq HC HD hn HLEN
  go_upto_region 24 with fail
  go_cut [125] (fun v wx => v = .bool false ∧ wx = w5)
  case first =>
    go_wp2
    go_meet
    exact ⟨rfl, rfl⟩
  case rest =>
    obtain ⟨rfl, rfl⟩ := hcut
    obtain ⟨w6, hw6⟩ : ∃ w6, w6 = wc := ⟨_, rfl⟩
    subst hw6
    go_upto_if 125 with fail
    go_cut [] (fun wx => wx = w6)
    case first =>
      go_wp2
      go_meet
      rfl
    case rest =>
      subst hcut
      refine (‹∀ (a : Act) (w : World), Code.wp _ _ _ a w → _› : ∀ (a : Act) (w : World), _ → _) _ _ (acc_t26 w _ v0 v1 v2 v3 k0 k1 k2 k3 n cu cw _ _ Au Aw gs rs hs l us HT HNN hn9 (by omega))
end Go.Proofs.YtaplangfppohdaaDoor
namespace Go.Proofs.YtaplangfppohdaaDoor
open Go.RowKit Go.Shelf
attribute [local go_sem] Oper.semAt_some

theorem elemRRu : ElemT Tryd.prog 118 119 3 24 := ⟨Tryd.underlying118, by
  have h : (Tryd.prog.info? 119).map (fun i => (i.zero, i.size, i.bytes)) = some (some (.agg #[.int .i64 0, .int .i64 0, .int .i64 0]), 3, 24) := by kernel_rfl
  obtain ⟨i, h1, h2, h3, h4⟩ := info_parts h
  exact ⟨i, _, h1, h2, h3, h4, rfl⟩, by omega, by omega⟩
theorem elemREv : ElemT Tryd.prog 122 123 11 80 := ⟨Tryd.underlying122, by
  have h : (Tryd.prog.info? 123).map (fun i => (i.zero, i.size, i.bytes)) = some (some (.agg #[.int .i64 0, .int .i64 0, .int .u8 0, .int .u8 0, .int .i64 0, .int .i64 0, .int .i64 0, .int .i64 0, .int .i64 0, .int .u64 0, .int .i64 0]), 11, 80) := by kernel_rfl
  obtain ⟨i, h1, h2, h3, h4⟩ := info_parts h
  exact ⟨i, _, h1, h2, h3, h4, rfl⟩, by omega, by omega⟩
theorem new_rruM {w : World} {r : Ru} {m : Nat} (hm : w.heap.size = m) : EV encRu 3 (w.alloc (.cells #[.int .i64 r.g, .int .i64 r.p, .int .i64 r.l] 119)) (.slice (some ⟨m, 0, none⟩) 1 1) [r] := by subst hm; exact EV.new1 rfl (Nat.le_refl _)
theorem new_revM {w : World} {e : Ev} {m : Nat} (hm : w.heap.size = m) : EV encE 11 (w.alloc (.cells #[.int .i64 e.seq, .int .i64 e.time, .int .u8 e.cpu, .int .u8 e.kind, .int .i64 e.task, .int .i64 e.grp, .int .i64 e.to, .int .i64 e.wt, .int .i64 e.ticks, .int .u64 e.mask, .int .i64 e.got] 123)) (.slice (some ⟨m, 0, none⟩) 1 1) [e] := by subst hm; exact EV.new1 rfl (Nat.le_refl _)
set_option maxRecDepth 100000 in
set_option maxHeartbeats 3200000 in
theorem accounts_ok (w : World) (v0 v1 v2 v3 : Value) (gs : List (Int × Int)) (rs : List Ru) (hs : List (Int × Int)) (l : List Ev) (h0 : EV encG 2 w v0 gs) (h1 : EV encRu 3 w v1 rs) (h2 : EV encG 2 w v2 hs) (h3 : EV encE 11 w v3 l) (hU : UsesAt w)
    (hb : gs.length ≤ 100000 ∧ rs.length ≤ 100 ∧ hs.length ≤ 100000 ∧ l.length ≤ 100000) (ho : ∀ e ∈ l, EvOk e) (hho : ∀ h ∈ hs, (-9223372036854775808 ≤ h.1 ∧ h.1 ≤ 9223372036854775807) ∧ (-9223372036854775808 ≤ h.2 ∧ h.2 ≤ 9223372036854775807)) :
    Calls Tryd.prog 20 #[v0, v1, v2, v3] w fun e w' => e = .returned (.bool true) ∧ Below w.heap.size w w' := by
  obtain ⟨A1, c1, rfl⟩ := h1.shape
  obtain ⟨A2, c2, rfl⟩ := h2.shape
  obtain ⟨A3, c3, rfl⟩ := h3.shape
  obtain ⟨R, hR⟩ : ∃ R, rs.length = R := ⟨_, rfl⟩
  obtain ⟨H, hH⟩ : ∃ H, hs.length = H := ⟨_, rfl⟩
  obtain ⟨L, hL⟩ : ∃ L, l.length = L := ⟨_, rfl⟩
  have LR := Lib.hid hR
  have LH := Lib.hid hH
  have LL := Lib.hid hL
  have HU := Lib.hid hU
  have HO := Lib.hid ho
  have HHO := Lib.hid hho
  have HBB := Lib.hid hb
  have F : Facts w [sEV encG 2 v0 gs, sEV encRu 3 (.slice A1 R c1) rs, sEV encG 2 (.slice A2 H c2) hs, sEV encE 11 (.slice A3 L c3) l, sB w] := ⟨h0, by rw [← hR]; exact h1, by rw [← hH]; exact h2, by rw [← hL]; exact h3, Below.refl _ _, trivial⟩
  rw [hR, hH, hL] at hb
  rw [hR, hH, hL]
  clear h0 h1 h2 h3 hR hH hL hU ho hho
  go_enter Tryd.func20, Tryd.ntmps20
  have hbg := HBB.out
  go_wp2_with fail
  refine (clone_grp w v0 gs (F.get 0) (by omega)).mono ?_
  rintro e wa ⟨k0, rfl, oa, ba⟩
  replace F : Facts wa (sEV encG 2 k0 gs :: _) := ⟨oa.ev encG_len, F.below ba⟩
  clear oa ba
  go_wp2_with fail
  refine (clone_rule wa _ rs (F.get 2) (by omega)).mono ?_
  rintro e wb ⟨k1, rfl, ob, bb⟩
  replace F : Facts wb (sEV encRu 3 k1 rs :: _) := ⟨ob.ev encRu_len, F.below bb⟩
  clear ob bb
  go_wp2_with fail
  refine (clone_home wb _ hs (F.get 4) (by omega)).mono ?_
  rintro e wc ⟨k2, rfl, oc, bc⟩
  replace F : Facts wc (sEV encG 2 k2 hs :: _) := ⟨oc.ev encG_len, F.below bc⟩
  clear oc bc
  go_wp2_with fail
  refine (clone_ev wc _ l (F.get 6) (by omega)).mono ?_
  rintro e wd ⟨k3, rfl, od, bd⟩
  replace F : Facts wd (sEV encE 11 k3 l :: _) := ⟨od.ev encE_len, F.below bd⟩
  clear od bd hbg
  go_upto_block 0 with fail
  go_cut [13] (fun v wx => EV encRu 3 wx v rs ∧ Below wd.heap.size wd wx)
  case first =>
    go_wp2
    go_loopg [13, 15, 47] R (fun k v _ i wr => ∃ j : Nat, j + k = R ∧ i = .int .i64 j ∧ OV encRu 3 119 wd.heap.size wr v (rs.take j) ∧ Below wd.heap.size wd wr)
    case atStart => exact ⟨0, by omega, rfl, OV.nil _ _, Below.refl _ _⟩
    case round =>
      obtain ⟨j, hj, rfl, ho, hbl⟩ := hrel
      have HJ := Lib.hid hj
      have HO := Lib.hid ho
      have HB := Lib.hid hbl
      clear hj ho hbl
      by_cases hlt : j < R
      · obtain ⟨x, hx⟩ : ∃ x, rs[j]? = some x := ⟨_, List.getElem?_eq_getElem (by rw [LR.out]; exact hlt)⟩
        obtain ⟨b, off, c', hs1, hc, hr⟩ := (F.below HB.out |>.get 5 : EV encRu 3 _ _ _).row (by rw [LR.out]; omega)
        rw [LR.out] at hs1 hc
        simp only [Value.slice.injEq, true_and] at hs1
        obtain ⟨rfl, rfl⟩ := hs1
        obtain ⟨c0, c1, c2⟩ := hr.rux hx
        have HX := Lib.hid hx
        clear hr hx
        go_wp2_with (at_builtin; refine wpList_app elemRRu encRu_len encRu_one rfl _ _ rfl _ _ rfl rfl ((HO.out.alloc _).alloc _) (new_rruM (r := x) (by simp)) ?q1 ?q2 ?_)
        case q1 => simp; omega
        case q2 => have := HB.out.size; simp; omega
        intro v' w7 ho7 hg7
        have HO7 := Lib.hid ho7
        have HB7 := Lib.hid (((HB.out.alloc HB.out.size (.cells #[.int .i64 x.g, .int .i64 x.p, .int .i64 x.l] 44)).alloc (by have := HB.out.size; simp; omega) (.cells #[.int .i64 x.g, .int .i64 x.p, .int .i64 x.l] 119)).grown hg7 (by have := HB.out.size; simp; omega) (fun k hk => (HO.out.block k hk).1))
        clear ho7 hg7
        go_wp2
        go_roundg (gk - 1)
        case measure => have := HJ.out; omega
        case rel => exact ⟨j + 1, by have := HJ.out; omega, by go_num, by rw [List.take_add_one, HX.out]; exact HO7.out, HB7.out⟩
      · obtain rfl : R = j := by have := HJ.out; omega
        have HF2 := Lib.hid HO.out
        rw [← LR.out, List.take_length] at HF2
        go_wp2
        go_meet
        exact ⟨HF2.out.ev encRu_len, HB.out⟩
  case rest =>
  obtain ⟨hv, hbl⟩ := hcut
  obtain ⟨we, hww⟩ : ∃ we, we = wc := ⟨_, rfl⟩
  subst hww
  replace F : Facts we (sEV encRu 3 u13 rs :: _) := ⟨hv, F.below hbl⟩
  clear hv hbl
  go_upto_block 2 with fail
  go_cut [16] (fun v wx => EV encG 2 wx v hs ∧ Below we.heap.size we wx)
  case first =>
    go_wp2
    go_loopg [16, 18, 58] H (fun k v _ i wr => ∃ j : Nat, j + k = H ∧ i = .int .i64 j ∧ OV encG 2 121 we.heap.size wr v (hs.take j) ∧ Below we.heap.size we wr)
    case atStart => exact ⟨0, by omega, rfl, OV.nil _ _, Below.refl _ _⟩
    case round =>
      obtain ⟨j, hj, rfl, ho, hbl⟩ := hrel
      have HJ := Lib.hid hj
      have HO := Lib.hid ho
      have HB := Lib.hid hbl
      clear hj ho hbl
      by_cases hlt : j < H
      · obtain ⟨x, hx⟩ : ∃ x, hs[j]? = some x := ⟨_, List.getElem?_eq_getElem (by rw [LH.out]; exact hlt)⟩
        obtain ⟨b, off, c', hs1, hc, hr⟩ := (F.below HB.out |>.get 7 : EV encG 2 _ _ _).row (by rw [LH.out]; omega)
        rw [LH.out] at hs1 hc
        simp only [Value.slice.injEq, true_and] at hs1
        obtain ⟨rfl, rfl⟩ := hs1
        obtain ⟨c0, c1⟩ := hr.ho hx
        have HX := Lib.hid hx
        clear hr hx
        go_wp2_with (at_builtin; refine wpList_app elemRH encG_len encG_one rfl _ _ rfl _ _ rfl rfl ((HO.out.alloc _).alloc _) (new_rhomeM (p := x.1) (q := x.2) (by simp)) ?q1 ?q2 ?_)
        case q1 => simp; omega
        case q2 => have := HB.out.size; simp; omega
        intro v' w7 ho7 hg7
        have HO7 := Lib.hid ho7
        have HB7 := Lib.hid (((HB.out.alloc HB.out.size (.cells #[.int .i64 x.1, .int .i64 x.2] 61)).alloc (by have := HB.out.size; simp; omega) (.cells #[.int .i64 x.1, .int .i64 x.2] 121)).grown hg7 (by have := HB.out.size; simp; omega) (fun k hk => (HO.out.block k hk).1))
        clear ho7 hg7
        go_wp2
        go_roundg (gk - 1)
        case measure => have := HJ.out; omega
        case rel => exact ⟨j + 1, by have := HJ.out; omega, by go_num, by rw [List.take_add_one, HX.out]; exact HO7.out, HB7.out⟩
      · obtain rfl : H = j := by have := HJ.out; omega
        have HF2 := Lib.hid HO.out
        rw [← LH.out, List.take_length] at HF2
        go_wp2
        go_meet
        exact ⟨HF2.out.ev encG_len, HB.out⟩
  case rest =>
  obtain ⟨hv, hbl⟩ := hcut
  obtain ⟨wf, hww⟩ : ∃ wf, wf = wc := ⟨_, rfl⟩
  subst hww
  replace F : Facts wf (sEV encG 2 u16 hs :: _) := ⟨hv, F.below hbl⟩
  clear hv hbl
  go_upto_block 4 with fail
  go_cut [19] (fun v wx => EV encE 11 wx v l ∧ Below wf.heap.size wf wx)
  case first =>
    go_wp2
    go_loopg [19, 21, 69] L (fun k v _ i wr => ∃ j : Nat, j + k = L ∧ i = .int .i64 j ∧ OV encE 11 123 wf.heap.size wr v (l.take j) ∧ Below wf.heap.size wf wr)
    case atStart => exact ⟨0, by omega, rfl, OV.nil _ _, Below.refl _ _⟩
    case round =>
      obtain ⟨j, hj, rfl, ho, hbl⟩ := hrel
      have HJ := Lib.hid hj
      have HO := Lib.hid ho
      have HB := Lib.hid hbl
      clear hj ho hbl
      by_cases hlt : j < L
      · obtain ⟨x, hx⟩ : ∃ x, l[j]? = some x := ⟨_, List.getElem?_eq_getElem (by rw [LL.out]; exact hlt)⟩
        obtain ⟨b, off, c', hs1, hc, hr⟩ := (F.below HB.out |>.get 9 : EV encE 11 _ _ _).row (by rw [LL.out]; omega)
        rw [LL.out] at hs1 hc
        simp only [Value.slice.injEq, true_and] at hs1
        obtain ⟨rfl, rfl⟩ := hs1
        obtain ⟨c0, c1, c2, c3, c4, c5, c6, c7, c8, c9, c10⟩ := hr.ev hx
        have HX := Lib.hid hx
        clear hr hx
        go_wp2_with (at_builtin; refine wpList_app elemREv encE_len encE_one rfl _ _ rfl _ _ rfl rfl ((HO.out.alloc _).alloc _) (new_revM (e := x) (by simp)) ?q1 ?q2 ?_)
        case q1 => simp; omega
        case q2 => have := HB.out.size; simp; omega
        intro v' w7 ho7 hg7
        have HO7 := Lib.hid ho7
        have HB7 := Lib.hid (((HB.out.alloc HB.out.size (.cells #[.int .i64 x.seq, .int .i64 x.time, .int .u8 x.cpu, .int .u8 x.kind, .int .i64 x.task, .int .i64 x.grp, .int .i64 x.to, .int .i64 x.wt, .int .i64 x.ticks, .int .u64 x.mask, .int .i64 x.got] 59)).alloc (by have := HB.out.size; simp; omega) (.cells #[.int .i64 x.seq, .int .i64 x.time, .int .u8 x.cpu, .int .u8 x.kind, .int .i64 x.task, .int .i64 x.grp, .int .i64 x.to, .int .i64 x.wt, .int .i64 x.ticks, .int .u64 x.mask, .int .i64 x.got] 123)).grown hg7 (by have := HB.out.size; simp; omega) (fun k hk => (HO.out.block k hk).1))
        clear ho7 hg7
        go_wp2
        go_roundg (gk - 1)
        case measure => have := HJ.out; omega
        case rel => exact ⟨j + 1, by have := HJ.out; omega, by go_num, by rw [List.take_add_one, HX.out]; exact HO7.out, HB7.out⟩
      · obtain rfl : L = j := by have := HJ.out; omega
        have HF2 := Lib.hid HO.out
        rw [← LL.out, List.take_length] at HF2
        go_wp2
        go_meet
        exact ⟨HF2.out.ev encE_len, HB.out⟩
  case rest =>
  obtain ⟨hv, hbl⟩ := hcut
  obtain ⟨wg, hww⟩ : ∃ wg, wg = wc := ⟨_, rfl⟩
  subst hww
  replace F : Facts wg (sEV encE 11 u19 l :: _) := ⟨hv, F.below hbl⟩
  clear hv hbl
  refine (‹∀ (a : Act) (w : World), Code.wp _ _ _ a w → _› : ∀ (a : Act) (w : World), _ → _) _ _ (acc_t20 w _ v0 _ _ _ k0 k1 k2 k3 _ _ _ gs rs hs l (Lib.hid ⟨F.get 7, F.get 8, F.get 9, F.get 10, F.get 6, F.get 5, F.get 4, F.get 3, F.get 2, F.get 1, F.get 0, F.get 11, trivial⟩) HU HBB.out HO HHO)
end Go.Proofs.YtaplangfppohdaaDoor

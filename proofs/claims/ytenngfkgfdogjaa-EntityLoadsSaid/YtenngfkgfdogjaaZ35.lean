/- The walk of the law EntityLoads: its great loop | The walk of the law EntityLoads: its head. -/
import Derived.Test.YtenngfkgfdogjaaZ34
set_option linter.unusedVariables false
set_option linter.unusedSimpArgs false
set_option linter.unusedSectionVars false
namespace Go.Proofs.Ytenngfkgfdogjaa
open Go Go.RowKit Go.Shelf
attribute [local go_sem] Oper.semAt_some

theorem ld_ok {s : St} (h : Shp s) (w : World) (c : StC) (cpu : Int) (hat : StAt w c s) (h3 : 0 ≤ cpu) (h4 : cpu < s.n) :
    Calls Try.prog 29 #[c.val s, .int .i64 cpu] w fun e w' => e = .returned (.tuple #[.int .i64 (loadL (rdyL s cpu)), .int .i64 0]) ∧ Below w.heap.size w w' := by
  have h0 := chk_ok h (Int.le_refl 0) (by have := (right_iff.1 h.right).pos; omega) h3 h4
  have := load_pub w c s cpu hat h.stb
  rwa [loadE_pos h0, h0] at this
theorem hereL_len (s : St) (cpu : Int) (g : Nat) : (hereL s cpu g).length ≤ s.ts.length + s.gs.length := by
  unfold hereL
  rw [List.length_map]
  have h1 : ((memL s (g : Nat) cpu).filter fun k => !k.sp).length ≤ (memL s (g : Nat) cpu).length := List.length_filter_le ..
  have := memL_len s (g : Nat) cpu
  omega
theorem hereA_len (s : St) (cpu : Int) : ∀ g : Nat, (hereA s cpu g).length ≤ g * (s.ts.length + s.gs.length)
  | 0 => by simp [hereA]
  | g + 1 => by
    rw [hereA_succ, List.length_append, Nat.succ_mul]
    have := hereA_len s cpu g
    have := hereL_len s cpu g
    omega
theorem allL_len0 (s : St) : ∀ n : Nat, (allL s n).length ≤ n * s.ts.length
  | 0 => by simp [allL]
  | n + 1 => by
    rw [allL_succ, List.length_append, Nat.succ_mul, List.length_map]
    have h1 := allL_len0 s n
    have h2 : (rdyL s (n : Nat)).length ≤ s.ts.length := List.length_filter_le ..
    omega
/-- What the members from the first on add. -/
def hereT (l : List Ky) (m : Nat) : List Int := ((l.take m).filter fun k => !k.sp).map Ky.id
theorem hereT_succ {l : List Ky} {m : Nat} {k : Ky} (h : l[m]? = some k) : hereT l (m + 1) = hereT l m ++ (if k.sp then [] else [k.id]) := by
  obtain ⟨hm, he⟩ := List.getElem?_eq_some_iff.1 h
  unfold hereT
  rw [List.take_succ_eq_append_getElem hm, he, List.filter_append, List.map_append]
  cases hk : k.sp <;> simp [hk]
theorem hereT_len (l : List Ky) (m : Nat) : (hereT l m).length ≤ l.length := by
  unfold hereT
  rw [List.length_map]
  have h1 : ((l.take m).filter fun k => !k.sp).length ≤ (l.take m).length := List.length_filter_le ..
  have : (l.take m).length ≤ l.length := by rw [List.length_take]; omega
  omega
/-- The task of a member that is no spot. -/
theorem mem_task {s : St} (h : Shp s) {g cpu : Int} {k : Ky} (hk : k ∈ memL s g cpu) (hs : k.sp = false) {t : Tk} {b : Bool} (h1 : b = true → t ∈ s.ts ∧ t.id = k.id) (h2 : b = false → ∀ u ∈ s.ts, u.id ≠ k.id) : b = true ∧ t.g = g := by
  rcases memL_mem.1 hk with ⟨u, hu, hr, he, rfl⟩ | ⟨x, _, _, rfl⟩
  · cases b
    · exact absurd rfl (h2 rfl u hu)
    · obtain ⟨h3, h4⟩ := h1 rfl
      rw [tk_uniq h h3 hu h4]
      exact ⟨rfl, he⟩
  · cases hs
set_option maxRecDepth 100000 in
set_option maxHeartbeats 12800000 in
theorem loads_t12 (w w0 : World) (X N : Nat) (c : StC) (s : St) (id W0 : Int) {u0 u1 u2 u4 u5 u6 u7 u8 u12 u13 u15 u16 u17 u18 u19 u20 u21 u22 u23 u24 u25 u26 u27 u28 u29 u30 u31 u32 u33 u34 u35 u36 u37 u38 u39 u40 u41 u42 u43 u44 u45 u46 u47 u48 u49 u50 u51 u52 u53 u54 u55 u56 u57 u58 u59 u60 u61 u62 u63 u64 u65 u66 u67 u68 u69 u70 u71 u72 u73 u74 u75 u76 u77 u78 u79 u80 u81 u82 u83 u84 u85 u86 u87 u88 u89 u90 u91 u92 u93 u94 u95 u96 u97 u98 u99 u100 u101 u102 u103 u104 u105 u106 u107 u108 u109 u110 u111 u112 u113 u114 u115 u116 u117 u118 u119 u120 u121 u122 u123 u124 u125 u126 u127 u128 u129 u130 u131 u132 u133 u134 u135 u136 u137 u138 u139 u140 u141 u142 u143 u144 u145 u146 u147 u148 u149 u150 u151 u152 u153 u154 u155 u156 u157 u158 u159 u160 u161 u162 u163 u164 u165 u166 u167 u168 u169 u170 u171 u172 u173 u174 u175 u176 u177 u178 u179 u180 u181 u182 u183 u184 u185 u186 u187 u188 u189 u190 u191 u192 u193 u194 u195 u196 u197 u198 u199 u200 u201 u202 u203 u204 u205 u206 u207 u208 u209 u210 u211 u212 u213 u214 u215 u216 u217 u218 u219 u220 u221 u222 u223 u224 u225 : Value} (hat : StAt w0 c s) (bx : StBox w0 X c s) (hb : Below w.heap.size w w0) (hs : Shp s) (hN : s.n = (N : Nat)) (hW : sumL s N = W0) (hWb : ∀ j, j ≤ N → 0 ≤ sumL s j ∧ sumL s j ≤ 1000000000000) :
    Code.wp Try.prog (tailR Try.f11 12) (bodyPost Try.prog Try.f11 fun e w' => e = .returned (.bool true) ∧ Below w.heap.size w w')
      ⟨#[u0, u1, u2, .int .i64 id, u4, u5, u6, u7, u8, .pointer (some ⟨X, 0, none⟩), .int .i64 0, .int .i64 W0, u12, u13, .slice none 0 0, u15, u16, u17, u18, u19, u20, u21, u22, u23, u24, u25, u26, u27, u28, u29, u30, u31, u32, u33, u34, u35, u36, u37, u38, u39, u40, u41, u42, u43, u44, u45, u46, u47, u48, u49, u50, u51, u52, u53, u54, u55, u56, u57, u58, u59, u60, u61, u62, u63, u64, u65, u66, u67, u68, u69, u70, u71, u72, u73, u74, u75, u76, u77, u78, u79, u80, u81, u82, u83, u84, u85, u86, u87, u88, u89, u90, u91, u92, u93, u94, u95, u96, u97, u98, u99, u100, u101, u102, u103, u104, u105, u106, u107, u108, u109, u110, u111, u112, u113, u114, u115, u116, u117, u118, u119, u120, u121, u122, u123, u124, u125, u126, u127, u128, u129, u130, u131, u132, u133, u134, u135, u136, u137, u138, u139, u140, u141, u142, u143, u144, u145, u146, u147, u148, u149, u150, u151, u152, u153, u154, u155, u156, u157, u158, u159, u160, u161, u162, u163, u164, u165, u166, u167, u168, u169, u170, u171, u172, u173, u174, u175, u176, u177, u178, u179, u180, u181, u182, u183, u184, u185, u186, u187, u188, u189, u190, u191, u192, u193, u194, u195, u196, u197, u198, u199, u200, u201, u202, u203, u204, u205, u206, u207, u208, u209, u210, u211, u212, u213, u214, u215, u216, u217, u218, u219, u220, u221, u222, u223, u224, u225], []⟩ w0 := by
  conv => arg 2; whnf
  conv => arg 4; dsimp only
  have F : Facts w0 [sSA c s, sSB X c s] := ⟨hat, bx, trivial⟩
  obtain ⟨G, hG⟩ : ∃ G, s.gs.length = G := ⟨_, rfl⟩
  have hG1 : G ≤ 256 := by have := (right_iff.1 hs.right).many; omega
  have hN64 : N ≤ 64 := by have := hs.n2; omega
  have HLEN := Lib.hid (show s.ts.length ≤ 65535 from hs.len)
  have HF := Lib.hid F
  have HB := Lib.hid hb
  have HS := Lib.hid hs
  have HN := Lib.hid hN
  have HGL := Lib.hid hG
  have HWE := Lib.hid hW
  have HWB := Lib.hid hWb
  obtain ⟨b0, b1, b2, b3, b4, b5, b6⟩ := bx.cell
  rw [hN] at b0
  have hsz := hb.size
  obtain ⟨Ag, cg, hvg⟩ := hat.eg.shape
  rw [hG] at hvg
  have HVG := Lib.hid hvg
  clear F hat bx hb hs hN hG hW hWb hvg b1 b2 b3 b4 b5 b6
  go_upto_block 2 with fail
  go_cut [10, 14] (fun u v wx => u = .int .i64 W0 ∧ OV encI 1 3 w0.heap.size wx v (allL s N) ∧ Below w0.heap.size w0 wx)
  case first =>
    go_wp2_with fail
    go_loopg [10, 14, 60] N (fun k u v i wr => ∃ j : Nat, j + k = N ∧ i = .int .i64 j ∧ u = .int .i64 (sumL s j) ∧ OV encI 1 3 w0.heap.size wr v (allL s j) ∧ Below w0.heap.size w0 wr)
    case atStart => exact ⟨0, by omega, rfl, rfl, OV.nil _ _, Below.refl _ _⟩
    case round =>
      obtain ⟨j, hj, rfl, rfl, oa, hbr⟩ := hrel
      have HJ := Lib.hid hj
      have HBR := Lib.hid hbr
      have OA := Lib.hid oa
      have hsw := hbr.size
      clear hj b0
      by_cases hlt : j < N
      · have hd : decide ((j : Int) < (N : Int)) = true := by rw [decide_eq_true_eq]; omega
        obtain ⟨wo, hwo⟩ : ∃ wo, wo = wr := ⟨_, rfl⟩
        subst hwo
        obtain ⟨b0, b1, b2, b3, b4, b5, b6⟩ := ((HF.out.below hbr).get 1 : StBox wo X c s).cell
        have hjn : ((j : Nat) : Int) < s.n := by rw [HN.out]; omega
        have HJN := Lib.hid hjn
        have LD := Lib.hid (ld_ok HS.out wo c (j : Nat) ((HF.out.below hbr).get 0) (by omega) hjn)
        unfold StC.val StC.cells at LD
        clear oa hbr hjn
        go_wp2_with fail
        refine LD.out.mono ?_
        rintro e w2 ⟨rfl, bb⟩
        have B2 := Lib.hid (HBR.out.trans (bb.mono hsw))
        have BO2 := Lib.hid bb
        clear bb LD b0 b1 b2 b3 b4 b5 b6
        obtain ⟨b0, b1, b2, b3, b4, b5, b6⟩ := ((HF.out.below B2.out).get 1 : StBox w2 X c s).cell
        have RD := Lib.hid (rdy_ok HS.out w2 c (j : Nat) ((HF.out.below B2.out).get 0) (by omega) HJN.out)
        unfold StC.val StC.cells at RD
        go_wp2_with fail
        refine RD.out.mono ?_
        rintro e w3 ⟨vr, rfl, orr, bb⟩
        have B3 := Lib.hid (B2.out.trans (bb.mono B2.out.size))
        have BO3 := Lib.hid (BO2.out.trans (bb.mono BO2.out.size))
        have OR := Lib.hid (orr.ev encI_len)
        clear bb RD b0 b1 b2 b3 b4 b5 b6 orr
        obtain ⟨b0, b1, b2, b3, b4, b5, b6⟩ := ((HF.out.below B3.out).get 1 : StBox w3 X c s).cell
        rw [HVG.out] at b2
        clear b0 b1 b3 b4 b5 b6
        have s3 := B3.out.size
        go_upto_block 4 with fail
        go_cut [20] (fun v wx => OV encI 1 3 w3.heap.size wx v (hereA s (j : Nat) G) ∧ Below w3.heap.size w3 wx)
        case first =>
          go_wp2_with fail
          go_loopg [20, 79] G (fun k v i wr => ∃ g : Nat, g + k = G ∧ i = .int .i64 g ∧ OV encI 1 3 w3.heap.size wr v (hereA s (j : Nat) g) ∧ Below w3.heap.size w3 wr)
          case atStart => exact ⟨0, by omega, rfl, OV.nil _ _, Below.refl _ _⟩
          case round =>
            obtain ⟨g, hg, rfl, og, hbg⟩ := hrel
            have HGJ := Lib.hid hg
            have HBG := Lib.hid hbg
            have OG := Lib.hid og
            have hsg := hbg.size
            clear hg b2
            by_cases hgl : g < G
            · have hdg : decide ((g : Int) < (G : Int)) = true := by rw [decide_eq_true_eq]; omega
              obtain ⟨wp, hwp⟩ : ∃ wp, wp = wr := ⟨_, rfl⟩
              subst hwp
              have BG := Lib.hid (B3.out.trans (hbg.mono s3))
              obtain ⟨b0, b1, b2, b3, b4, b5, b6⟩ := ((HF.out.below BG.out).get 1 : StBox wp X c s).cell
              have ME := Lib.hid (mem_ok HS.out wp c (g : Nat) (j : Nat) ((HF.out.below BG.out).get 0) (by omega) (by rw [HGL.out]; omega) (by omega) HJN.out)
              unfold StC.val StC.cells at ME
              clear og hbg
              go_wp2_with fail
              refine ME.out.mono ?_
              rintro e w4 ⟨vm, rfl, om, bb⟩
              have B4 := Lib.hid (HBG.out.trans (bb.mono hsg))
              have OG4 := Lib.hid (OG.out.below bb)
              have hml := memL_len s (g : Nat) (j : Nat)
              obtain ⟨l, hl⟩ : ∃ l, memL s (g : Nat) (j : Nat) = l := ⟨_, rfl⟩
              have HML := Lib.hid hl
              rw [hl] at om hml
              obtain ⟨Am, cm, hvm⟩ := (om.ev encY_len).shape
              obtain ⟨M, hM⟩ : ∃ M, l.length = M := ⟨_, rfl⟩
              rw [hM] at hvm hml
              subst hvm
              have OM := Lib.hid om
              have HM := Lib.hid hM
              have HMLE := Lib.hid (show M ≤ 70000 by have := HLEN.out; have := HGL.out; omega)
              have HLA := Lib.hid (show (hereA s (j : Nat) g).length ≤ 20000000 by
                have h1 := hereA_len s (j : Nat) g
                have h2 : g * (s.ts.length + s.gs.length) ≤ 256 * 65791 := Nat.mul_le_mul (by omega) (by have := HLEN.out; have := HGL.out; omega)
                omega)
              have s4 := B4.out.size
              clear bb ME om hl hM hml b0 b1 b2 b3 b4 b5 b6
              go_wp2_with fail
              go_loopg [20, 93] M (fun k v i wr => ∃ m : Nat, m + k = M ∧ i = .int .i64 m ∧ OV encI 1 3 w3.heap.size wr v (hereA s (j : Nat) g ++ hereT l m) ∧ OV encY 3 24 wp.heap.size wr (.slice Am M cm) l ∧ Below w3.heap.size w3 wr)
              case atStart => exact ⟨0, by omega, rfl, by rw [show hereT l 0 = [] from rfl, List.append_nil]; exact OG4.out, OM.out, B4.out⟩
              case round =>
                obtain ⟨m, hm, rfl, oh, omr, hbm⟩ := hrel
                have HMJ := Lib.hid hm
                have HBM := Lib.hid hbm
                have OMR := Lib.hid omr
                have OH := Lib.hid oh
                have hsm := hbm.size
                clear hm
                by_cases hlm : m < M
                · have hdm : decide ((m : Int) < (M : Int)) = true := by rw [decide_eq_true_eq]; omega
                  obtain ⟨⟨kv, kz, ki⟩, hk⟩ : ∃ k, l[m]? = some k := ⟨_, List.getElem?_eq_getElem (by rw [HM.out]; exact hlm)⟩
                  have HSU := Lib.hid (hereT_succ hk)
                  have MT := Lib.hid (fun (hz : kz = false) (t : Tk) (b : Bool) (h1 : b = true → t ∈ s.ts ∧ t.id = ki) (h2 : b = false → ∀ u ∈ s.ts, u.id ≠ ki) => mem_task HS.out (k := ⟨kv, kz, ki⟩) (g := (g : Nat)) (cpu := (j : Nat)) (by rw [HML.out]; exact List.mem_of_getElem? hk) hz h1 h2)
                  have hhl := hereT_len l m
                  obtain ⟨b, off, c', hv, _, rr⟩ := (omr.ev encY_len).row (by rw [HM.out]; omega)
                  rw [HM.out] at hv hhl
                  simp only [Value.slice.injEq] at hv
                  obtain ⟨rfl, _, rfl⟩ := hv
                  obtain ⟨c0, c1, c2⟩ := rr.ky hk
                  dsimp only at c0 c1 c2 HSU
                  have HHL := Lib.hid hhl
                  clear hk rr hbm omr oh hhl
                  go_upto_region 27 with fail
                  have A1 := bel_alloc wr (.cells #[.int .u64 kv, .bool kz, .int .i64 ki] 24)
                  have K := newK wr ⟨kv, kz, ki⟩ rfl
                  obtain ⟨w5, hw5⟩ : ∃ w5, wr.alloc (.cells #[.int .u64 kv, .bool kz, .int .i64 ki] 24) = w5 := ⟨_, rfl⟩
                  rw [hw5] at A1 ⊢
                  dsimp only at K
                  rw [hw5] at K
                  obtain ⟨Z, hZ⟩ : ∃ Z, wr.heap.size = Z := ⟨_, rfl⟩
                  rw [hZ] at K ⊢
                  have B5 := Lib.hid (HBM.out.trans (A1.mono hsm))
                  have OM5 := Lib.hid (OMR.out.below A1)
                  have O5 := Lib.hid (OH.out.below A1)
                  have HK := Lib.hid K
                  have BA5 := Lib.hid (B3.out.trans (B5.out.mono s3))
                  obtain ⟨d0, d1, d2⟩ := K.ky (i := 0) rfl
                  dsimp only at d0 d1 d2
                  simp only [Nat.zero_mul, Nat.add_zero, Nat.zero_add] at d0 d1 d2
                  obtain ⟨b0, b1, b2, b3, b4, b5, b6⟩ := ((HF.out.below BA5.out).get 1 : StBox w5 X c s).cell
                  have TA := Lib.hid (task_one HS.out w5 c ki ((HF.out.below BA5.out).get 0))
                  unfold StC.val StC.cells at TA
                  clear c0 c1 c2 A1 K hw5 hZ
                  go_wp2_with fail
                  refine TA.out.mono ?_
                  rintro e w6 ⟨⟨t, b, rfl, h1, h2⟩, bb⟩
                  have MT2 := Lib.hid (fun hz => MT.out hz t b h1 h2)
                  have B6 := Lib.hid (B5.out.trans (bb.mono B5.out.size))
                  have OM6 := Lib.hid (OM5.out.below bb)
                  have O6 := Lib.hid (O5.out.below bb)
                  have K6 := Lib.hid (HK.out.below bb)
                  clear bb TA b0 b1 b2 b3 b4 b5 b6 d0 d1 d2 h1 h2 MT
                  go_upto_region 28 with fail
                  have A1 := bel_alloc w6 (.cells #[.int .i64 t.id, .int .i64 t.g, .int .i64 t.wt, .int .i64 t.cpu, .int .u64 t.mask, .bool t.rdy, .int .u64 t.v, .int .u32 t.r] 61)
                  have KT := newTk w6 t rfl
                  obtain ⟨w7, hw7⟩ : ∃ w7, w6.alloc (.cells #[.int .i64 t.id, .int .i64 t.g, .int .i64 t.wt, .int .i64 t.cpu, .int .u64 t.mask, .bool t.rdy, .int .u64 t.v, .int .u32 t.r] 61) = w7 := ⟨_, rfl⟩
                  rw [hw7] at A1 KT ⊢
                  obtain ⟨Y, hY⟩ : ∃ Y, w6.heap.size = Y := ⟨_, rfl⟩
                  rw [hY] at KT ⊢
                  have B7 := Lib.hid (B6.out.trans (A1.mono B6.out.size))
                  have OM7 := Lib.hid (OM6.out.below A1)
                  have O7 := Lib.hid (O6.out.below A1)
                  obtain ⟨d0, d1, d2⟩ := (K6.out.below A1).ky (i := 0) rfl
                  dsimp only at d0 d1 d2
                  simp only [Nat.zero_mul, Nat.add_zero, Nat.zero_add] at d0 d1 d2
                  obtain ⟨k0, k1, k2, k3, k4, k5, k6, k7⟩ := KT.tk (i := 0) rfl
                  simp only [Nat.zero_mul, Nat.add_zero, Nat.zero_add] at k0 k1 k2 k3 k4 k5 k6 k7
                  clear A1 KT hw7 hY d0 k0 k2 k3 k4 k5 k6 k7 HK K6
                  cases kz
                  · obtain ⟨hb1, hg1⟩ := MT2.out rfl
                    rw [hg1] at k1
                    subst hb1
                    have O7A := Lib.hid (O7.out.alloc (.cells #[.int .i64 ki] 3))
                    have s7 := B7.out.size
                    clear hg1 MT2
                    go_wp2_with (at_builtin; refine wpList_app elemI encI_len encI_one rfl _ _ rfl _ _ rfl rfl O7A.out (new_one (z := ki)) ?q1 ?q2 ?_)
                    case q1 => rw [List.length_append]; have := HLA.out; have := HHL.out; have := HMLE.out; simp only [List.length_singleton]; omega
                    case q2 => rw [World.size_alloc]; omega
                    intro v' w8 o8 gr
                    have B8 := Lib.hid ((B7.out.alloc B7.out.size (.cells #[.int .i64 ki] 3)).grown gr (by rw [World.size_alloc]; omega) (fun k hk => (O7A.out.block k hk).1))
                    have OM8 := Lib.hid ((OM7.out.alloc (.cells #[.int .i64 ki] 3)).keep gr ((OM7.out.alloc (.cells #[.int .i64 ki] 3)).ne2 O7A.out (by decide)))
                    have hM1 := HMLE.out
                    have O8 := Lib.hid (show OV encI 1 3 w3.heap.size w8 v' (hereA s (j : Nat) g ++ hereT l (m + 1)) from by rw [HSU.out, if_neg (by simp)]; exact o8)
                    clear o8 gr d1 d2 k1
                    go_wp2
                    go_roundg (gk - 1)
                    case measure => have := HMJ.out; omega
                    case rel => exact ⟨m + 1, by have := HMJ.out; omega, by go_num, O8.out, OM8.out, B8.out⟩
                  · clear MT2
                    have hM1 := HMLE.out
                    go_wp2
                    go_roundg (gk - 1)
                    case measure => have := HMJ.out; omega
                    case rel => exact ⟨m + 1, by have := HMJ.out; omega, by go_num, by rw [HSU.out, if_pos trivial, List.append_nil]; exact O7.out, OM7.out, B7.out⟩
                · have hdm : decide ((m : Int) < (M : Int)) = false := by rw [decide_eq_false_iff_not]; omega
                  have hme : hereT l m = hereL s (j : Nat) g := by unfold hereT hereL; rw [List.take_of_length_le (by rw [HM.out]; omega), HML.out]
                  have HME := Lib.hid hme
                  clear hbm omr oh hme
                  go_wp2
                  go_roundg (G - (g + 1))
                  case measure => have := HGJ.out; omega
                  case rel => exact ⟨g + 1, by omega, by go_num, by rw [hereA_succ, ← HME.out]; exact OH.out, HBM.out⟩
            · have hdg : decide ((g : Int) < (G : Int)) = false := by rw [decide_eq_false_iff_not]; omega
              obtain rfl : g = G := by have := HGJ.out; omega
              clear hbg og
              go_wp2
              go_meet
              exact ⟨OG.out, HBG.out⟩
        case rest =>
          obtain ⟨oh, hb4⟩ := hcut
          obtain ⟨w4, hw4⟩ : ∃ w4, w4 = wc := ⟨_, rfl⟩
          subst hw4
          have hgl := HGL.out
          have hsrt := here_sort HS.out (j : Nat)
          have hhl := here_len HS.out (j : Nat)
          rw [hgl] at hsrt hhl
          have SO := Lib.hid (sort_int w4 _ _ _ oh (by omega))
          rw [hsrt] at SO
          have hob := fun k hk => (oh.block k hk).1
          have HOB := Lib.hid hob
          have B4 := Lib.hid hb4
          have HRL := Lib.hid (show ((rdyL s (j : Nat)).map Tk.id).length ≤ 65535 by rw [← hsrt, srtI_len]; exact hhl)
          clear oh hb4 hgl hsrt hhl hob b2
          go_wp2_with fail
          refine SO.out.mono ?_
          rintro e w5 ⟨rfl, o5, gr⟩
          have B5 := Lib.hid (B4.out.grown gr B4.out.size HOB.out)
          have EQ := Lib.hid (equal_same w5 _ vr _ (o5.ev encI_len) (OR.out.below B5.out) (by have := HRL.out; omega))
          clear SO HOB o5 gr
          go_wp2_with fail
          refine EQ.out.mono ?_
          rintro e w6 ⟨rfl, bb⟩
          have B6 := Lib.hid (B5.out.trans (bb.mono B5.out.size))
          have BO6 := Lib.hid (BO3.out.trans (B6.out.mono BO3.out.size))
          have B06 := Lib.hid (B3.out.trans (B6.out.mono s3))
          have OA6 := Lib.hid (OA.out.below BO6.out)
          have OR6 := Lib.hid (OR.out.below B6.out)
          have hw := sumL_succ s j
          have hwb := HWB.out (j + 1) (by omega)
          have w1 : IntKind.i64.wrap (sumL s j + loadL (rdyL s (j : Nat))) = sumL s (j + 1) := by rw [IntWalk.i64_in _ (by omega)]; omega
          have HAL := Lib.hid (show (allL s j).length ≤ 64 * 65535 by
            have h1 := allL_len0 s j
            have h2 : j * s.ts.length ≤ 64 * 65535 := Nat.mul_le_mul (by omega) HLEN.out
            omega)
          have s6 := B06.out.size
          clear bb EQ hw hwb
          go_wp2_with (at_builtin; refine wpList_app elemI encI_len encI_one rfl _ _ rfl _ _ rfl rfl OA6.out OR6.out ?q1 ?q2 ?_)
          case q1 => have := HAL.out; have := HRL.out; omega
          case q2 => exact s6
          intro v' w7 o7 gr
          have B7 := Lib.hid (B06.out.grown gr s6 (fun k hk => (OA6.out.block k hk).1))
          have O7 := Lib.hid (show OV encI 1 3 w0.heap.size w7 v' (allL s (j + 1)) from by rw [allL_succ]; exact o7)
          clear o7 gr w1
          go_wp2
          go_roundg (gk - 1)
          case measure => have := HJ.out; omega
          case rel => exact ⟨j + 1, by have := HJ.out; omega, by go_num, rfl, O7.out, B7.out⟩
      · have hd : decide ((j : Int) < (N : Int)) = false := by rw [decide_eq_false_iff_not]; omega
        obtain rfl : j = N := by have := HJ.out; omega
        clear hbr oa
        go_wp2
        go_meet
        exact ⟨by rw [HWE.out], OA.out, HBR.out⟩
  case rest =>
    obtain ⟨rfl, oa, hcut⟩ := hcut
    have F := HF.out.below hcut
    refine (‹∀ (a : Act) (w : World), Code.wp _ _ _ a w → _› : ∀ (a : Act) (w : World), _ → _) _ _ (loads_t40 w _ X N w0.heap.size c s id W0 _ (F.get 0) (F.get 1) (HB.out.trans (hcut.mono hsz)) HS.out HN.out oa w0 (HF.out.get 0) (HF.out.get 1) HB.out hcut rfl)
end Go.Proofs.Ytenngfkgfdogjaa
namespace Go.Proofs.Ytenngfkgfdogjaa
open Go Go.RowKit Go.Shelf
attribute [local go_sem] Oper.semAt_some

theorem loadL_bound : ∀ {l : List Tk}, (∀ t ∈ l, 1 ≤ t.wt ∧ t.wt ≤ 65536) → 0 ≤ loadL l ∧ loadL l ≤ 65536 * l.length
  | [], _ => by simp [loadL]
  | x :: r, h => by
    have h1 := loadL_bound (l := r) fun t ht => h t (List.mem_cons_of_mem _ ht)
    have h2 := h x (List.mem_cons_self ..)
    have h3 : loadL (x :: r) = x.wt + loadL r := rfl
    rw [h3, List.length_cons]
    omega
theorem wts {s : St} (h : Shp s) : ∀ t ∈ s.ts, 1 ≤ t.wt ∧ t.wt ≤ 65536 := fun t ht => by have := tks_each h.tks t ht; omega
theorem sumL_bound {s : St} (h : Shp s) : ∀ j : Nat, 0 ≤ sumL s j ∧ sumL s j ≤ j * 4294967296
  | 0 => by simp [sumL]
  | j + 1 => by
    rw [sumL_succ]
    have h1 := sumL_bound h j
    have h2 := loadL_bound (l := rdyL s (j : Nat)) fun t ht => wts h t (List.mem_filter.1 ht).1
    have h3 : (rdyL s (j : Nat)).length ≤ s.ts.length := List.length_filter_le ..
    have := h.len
    omega
set_option maxRecDepth 100000 in
set_option maxHeartbeats 6400000 in
theorem loads_t5 (w w0 : World) (X : Nat) (c : StC) (s : St) (id : Int) {u0 u1 u2 u4 u5 u6 u7 u8 u12 u13 u14 u15 u16 u17 u18 u19 u20 u21 u22 u23 u24 u25 u26 u27 u28 u29 u30 u31 u32 u33 u34 u35 u36 u37 u38 u39 u40 u41 u42 u43 u44 u45 u46 u47 u48 u49 u50 u51 u52 u53 u54 u55 u56 u57 u58 u59 u60 u61 u62 u63 u64 u65 u66 u67 u68 u69 u70 u71 u72 u73 u74 u75 u76 u77 u78 u79 u80 u81 u82 u83 u84 u85 u86 u87 u88 u89 u90 u91 u92 u93 u94 u95 u96 u97 u98 u99 u100 u101 u102 u103 u104 u105 u106 u107 u108 u109 u110 u111 u112 u113 u114 u115 u116 u117 u118 u119 u120 u121 u122 u123 u124 u125 u126 u127 u128 u129 u130 u131 u132 u133 u134 u135 u136 u137 u138 u139 u140 u141 u142 u143 u144 u145 u146 u147 u148 u149 u150 u151 u152 u153 u154 u155 u156 u157 u158 u159 u160 u161 u162 u163 u164 u165 u166 u167 u168 u169 u170 u171 u172 u173 u174 u175 u176 u177 u178 u179 u180 u181 u182 u183 u184 u185 u186 u187 u188 u189 u190 u191 u192 u193 u194 u195 u196 u197 u198 u199 u200 u201 u202 u203 u204 u205 u206 u207 u208 u209 u210 u211 u212 u213 u214 u215 u216 u217 u218 u219 u220 u221 u222 u223 u224 u225 : Value} (hat : StAt w0 c s) (bx : StBox w0 X c s) (hb : Below w.heap.size w w0) (hs : Shp s) :
    Code.wp Try.prog (tailR Try.f11 5) (bodyPost Try.prog Try.f11 fun e w' => e = .returned (.bool true) ∧ Below w.heap.size w w')
      ⟨#[u0, u1, u2, .int .i64 id, u4, u5, u6, u7, u8, .pointer (some ⟨X, 0, none⟩), .int .i64 0, .int .i64 0, u12, u13, u14, u15, u16, u17, u18, u19, u20, u21, u22, u23, u24, u25, u26, u27, u28, u29, u30, u31, u32, u33, u34, u35, u36, u37, u38, u39, u40, u41, u42, u43, u44, u45, u46, u47, u48, u49, u50, u51, u52, u53, u54, u55, u56, u57, u58, u59, u60, u61, u62, u63, u64, u65, u66, u67, u68, u69, u70, u71, u72, u73, u74, u75, u76, u77, u78, u79, u80, u81, u82, u83, u84, u85, u86, u87, u88, u89, u90, u91, u92, u93, u94, u95, u96, u97, u98, u99, u100, u101, u102, u103, u104, u105, u106, u107, u108, u109, u110, u111, u112, u113, u114, u115, u116, u117, u118, u119, u120, u121, u122, u123, u124, u125, u126, u127, u128, u129, u130, u131, u132, u133, u134, u135, u136, u137, u138, u139, u140, u141, u142, u143, u144, u145, u146, u147, u148, u149, u150, u151, u152, u153, u154, u155, u156, u157, u158, u159, u160, u161, u162, u163, u164, u165, u166, u167, u168, u169, u170, u171, u172, u173, u174, u175, u176, u177, u178, u179, u180, u181, u182, u183, u184, u185, u186, u187, u188, u189, u190, u191, u192, u193, u194, u195, u196, u197, u198, u199, u200, u201, u202, u203, u204, u205, u206, u207, u208, u209, u210, u211, u212, u213, u214, u215, u216, u217, u218, u219, u220, u221, u222, u223, u224, u225], []⟩ w0 := by
  conv => arg 2; whnf
  conv => arg 4; dsimp only
  obtain ⟨N, hN⟩ : ∃ N : Nat, s.n = (N : Nat) := ⟨s.n.toNat, by have := hs.n1; omega⟩
  have F : Facts w0 [sSA c s, sSB X c s] := ⟨hat, bx, trivial⟩
  obtain ⟨T, hT⟩ : ∃ T, s.ts.length = T := ⟨_, rfl⟩
  obtain ⟨At, ct, hvt⟩ := hat.et.shape
  rw [hT] at hvt
  have hT1 : T ≤ 65535 := by have := hs.len; omega
  have HF := Lib.hid F
  have HB := Lib.hid hb
  have HS := Lib.hid hs
  have HN := Lib.hid hN
  have HT := Lib.hid hT
  have HVT := Lib.hid hvt
  have HN64 := Lib.hid (show N ≤ 64 by have := hs.n2; omega)
  obtain ⟨b0, b1, b2, b3, b4, b5, b6⟩ := bx.cell
  rw [hvt] at b5
  have hsz := hb.size
  clear F hat bx hb hs hN hT hvt b0 b1 b2 b3 b4 b6
  go_upto_block 0 with fail
  go_cut [11] (fun u wx => u = .int .i64 (wantL s.ts) ∧ Below w0.heap.size w0 wx)
  case first =>
    go_wp2_with fail
    go_loopg [11, 46] T (fun k u i wr => ∃ j : Nat, j + k = T ∧ i = .int .i64 j ∧ u = .int .i64 (wantL (s.ts.take j)) ∧ Below w0.heap.size w0 wr)
    case atStart => exact ⟨0, by omega, rfl, rfl, Below.refl _ _⟩
    case round =>
      obtain ⟨j, hj, rfl, rfl, hbr⟩ := hrel
      have HJ := Lib.hid hj
      have HBR := Lib.hid hbr
      have hsw := hbr.size
      clear hj b5
      by_cases hlt : j < T
      · have hd : decide ((j : Int) < (T : Int)) = true := by rw [decide_eq_true_eq]; omega
        obtain ⟨t, ht⟩ : ∃ t, s.ts[j]? = some t := ⟨_, List.getElem?_eq_getElem (by rw [HT.out]; exact hlt)⟩
        have ER := ((HF.out.below hbr).get 0 : StAt wr c s).et
        rw [HVT.out] at ER
        obtain ⟨b, off, c', hv, _, r⟩ := ER.row (by rw [HT.out]; omega)
        rw [HT.out] at hv
        simp only [Value.slice.injEq] at hv
        obtain ⟨rfl, _, rfl⟩ := hv
        obtain ⟨c0, c1, c2, c3, c4, c5, c6, c7⟩ := r.tk ht
        have WS := Lib.hid (wantL_snoc ht)
        have hwt := wts HS.out t (List.mem_of_getElem? ht)
        have hlb := loadL_bound (l := (s.ts.take j).filter Tk.rdy) fun t ht => wts HS.out t (List.mem_of_mem_take (List.mem_filter.1 ht).1)
        have hll : ((s.ts.take j).filter Tk.rdy).length ≤ (s.ts.take j).length := List.length_filter_le ..
        rw [List.length_take] at hll
        have hwb : 0 ≤ wantL (s.ts.take j) ∧ wantL (s.ts.take j) ≤ 4294967296 := by unfold wantL; omega
        generalize wantL (s.ts.take j) = W at WS hwb ⊢
        clear ER r ht hbr hlb hll
        go_upto_region 8 with fail
        have A1 := bel_alloc wr (.cells #[.int .i64 t.id, .int .i64 t.g, .int .i64 t.wt, .int .i64 t.cpu, .int .u64 t.mask, .bool t.rdy, .int .u64 t.v, .int .u32 t.r] 61)
        have K := newTk wr t rfl
        generalize wr.alloc (.cells #[.int .i64 t.id, .int .i64 t.g, .int .i64 t.wt, .int .i64 t.cpu, .int .u64 t.mask, .bool t.rdy, .int .u64 t.v, .int .u32 t.r] 61) = w1 at A1 K ⊢
        have B1 := Lib.hid (HBR.out.trans (A1.mono hsw))
        obtain ⟨d0, d1, d2, d3, d4, d5, d6, d7⟩ := K.tk (i := 0) rfl
        simp only [Nat.zero_mul, Nat.add_zero, Nat.zero_add] at d0 d1 d2 d3 d4 d5 d6 d7
        clear c0 c1 c2 c3 c4 c5 c6 c7 A1 K
        obtain ⟨rd, hrd⟩ : ∃ rd, t.rdy = rd := ⟨_, rfl⟩
        rw [hrd] at d5 WS
        clear hrd
        have w2 : IntKind.i64.wrap (W + t.wt) = W + t.wt := IntWalk.i64_in _ (by omega)
        cases rd
        · go_wp2
          go_roundg (gk - 1)
          case measure => have := HJ.out; omega
          case rel => exact ⟨j + 1, by have := HJ.out; omega, by go_num, by rw [WS.out]; simp, B1.out⟩
        · go_wp2
          go_roundg (gk - 1)
          case measure => have := HJ.out; omega
          case rel => exact ⟨j + 1, by have := HJ.out; omega, by go_num, by rw [WS.out]; simp, B1.out⟩
      · have hd : decide ((j : Int) < (T : Int)) = false := by rw [decide_eq_false_iff_not]; omega
        have hte : s.ts.take j = s.ts := List.take_of_length_le (by rw [HT.out]; omega)
        have HTE := Lib.hid hte
        clear hbr hte
        go_wp2
        go_meet
        exact ⟨by rw [HTE.out], HBR.out⟩
  case rest =>
    obtain ⟨rfl, hcut⟩ := hcut
    obtain ⟨w2, hw2⟩ : ∃ w2, w2 = wc := ⟨_, rfl⟩
    subst hw2
    have F := HF.out.below hcut
    have BF := Lib.hid hcut
    have HF2 := Lib.hid F
    clear F hcut b5
    go_upto_region 11 with fail
    go_cut [14] (fun v wx => v = .slice none 0 0 ∧ wx = w2)
    case first =>
      go_wp2_with fail
      go_meet
      exact ⟨rfl, rfl⟩
    case rest =>
      obtain ⟨rfl, rfl⟩ := hcut
      refine (‹∀ (a : Act) (w : World), Code.wp _ _ _ a w → _› : ∀ (a : Act) (w : World), _ → _) _ _ (loads_t12 w _ X N c s id (wantL s.ts) (HF2.out.get 0) (HF2.out.get 1) (HB.out.trans (BF.out.mono hsz)) HS.out HN.out (sum_want HS.out HN.out) (fun j hj => by have h := sumL_bound HS.out j; have := HN64.out; omega))
set_option maxRecDepth 100000 in
set_option maxHeartbeats 3200000 in
theorem loads_t3 (w w0 : World) (vg vt : Value) (cpus : Nat) (ns : List Nat) (ts : List Sm) (id : Int) {u4 u5 u6 u7 u8 u9 u10 u11 u12 u13 u14 u15 u16 u17 u18 u19 u20 u21 u22 u23 u24 u25 u26 u27 u28 u29 u30 u31 u32 u33 u34 u35 u36 u37 u38 u39 u40 u41 u42 u43 u44 u45 u46 u47 u48 u49 u50 u51 u52 u53 u54 u55 u56 u57 u58 u59 u60 u61 u62 u63 u64 u65 u66 u67 u68 u69 u70 u71 u72 u73 u74 u75 u76 u77 u78 u79 u80 u81 u82 u83 u84 u85 u86 u87 u88 u89 u90 u91 u92 u93 u94 u95 u96 u97 u98 u99 u100 u101 u102 u103 u104 u105 u106 u107 u108 u109 u110 u111 u112 u113 u114 u115 u116 u117 u118 u119 u120 u121 u122 u123 u124 u125 u126 u127 u128 u129 u130 u131 u132 u133 u134 u135 u136 u137 u138 u139 u140 u141 u142 u143 u144 u145 u146 u147 u148 u149 u150 u151 u152 u153 u154 u155 u156 u157 u158 u159 u160 u161 u162 u163 u164 u165 u166 u167 u168 u169 u170 u171 u172 u173 u174 u175 u176 u177 u178 u179 u180 u181 u182 u183 u184 u185 u186 u187 u188 u189 u190 u191 u192 u193 u194 u195 u196 u197 u198 u199 u200 u201 u202 u203 u204 u205 u206 u207 u208 u209 u210 u211 u212 u213 u214 u215 u216 u217 u218 u219 u220 u221 u222 u223 u224 u225 : Value} (hb : Below w.heap.size w w0) (hc1 : cpus < 256) (hg : U16 w0 vg ns) (ht : SmArg w0 vt ts) :
    Code.wp Try.prog (tailR Try.f11 3) (bodyPost Try.prog Try.f11 fun e w' => e = .returned (.bool true) ∧ Below w.heap.size w w')
      ⟨#[.int .u8 (cpus : Nat), vg, vt, .int .i64 id, u4, u5, u6, u7, u8, u9, u10, u11, u12, u13, u14, u15, u16, u17, u18, u19, u20, u21, u22, u23, u24, u25, u26, u27, u28, u29, u30, u31, u32, u33, u34, u35, u36, u37, u38, u39, u40, u41, u42, u43, u44, u45, u46, u47, u48, u49, u50, u51, u52, u53, u54, u55, u56, u57, u58, u59, u60, u61, u62, u63, u64, u65, u66, u67, u68, u69, u70, u71, u72, u73, u74, u75, u76, u77, u78, u79, u80, u81, u82, u83, u84, u85, u86, u87, u88, u89, u90, u91, u92, u93, u94, u95, u96, u97, u98, u99, u100, u101, u102, u103, u104, u105, u106, u107, u108, u109, u110, u111, u112, u113, u114, u115, u116, u117, u118, u119, u120, u121, u122, u123, u124, u125, u126, u127, u128, u129, u130, u131, u132, u133, u134, u135, u136, u137, u138, u139, u140, u141, u142, u143, u144, u145, u146, u147, u148, u149, u150, u151, u152, u153, u154, u155, u156, u157, u158, u159, u160, u161, u162, u163, u164, u165, u166, u167, u168, u169, u170, u171, u172, u173, u174, u175, u176, u177, u178, u179, u180, u181, u182, u183, u184, u185, u186, u187, u188, u189, u190, u191, u192, u193, u194, u195, u196, u197, u198, u199, u200, u201, u202, u203, u204, u205, u206, u207, u208, u209, u210, u211, u212, u213, u214, u215, u216, u217, u218, u219, u220, u221, u222, u223, u224, u225], []⟩ w0 := by
  conv => arg 2; whnf
  conv => arg 4; dsimp only
  have HB := Lib.hid hb
  have HG := Lib.hid hg
  have HT := Lib.hid ht
  have HS := Lib.hid (show U16 w0 (.slice none 0 0) [] from ⟨EV.nil _ _, fun n h => absurd h (by simp), by decide⟩)
  have hsz := hb.size
  clear hb hg ht
  apply wp_seq_k; intro K0 hK0
  go_cut [9] (fun v wx => ∃ c s X, v = .pointer (some ⟨X, 0, none⟩) ∧ StO w0.heap.size wx c s ∧ StBox wx X c s ∧ Sim (madS cpus ns ts []) s ∧ RowsB s ∧ Below w0.heap.size w0 wx)
  case first =>
    go_wp2_with fail
    refine (made_law w0 cpus vg vt (.slice none 0 0) ns ts [] hc1 HG.out HT.out HS.out).mono ?_
    rintro e w1 ⟨⟨vg', vc', vu', vt', vs'⟩, s, rfl, o, sim, rb, bb⟩
    obtain ⟨A1, c1, h1⟩ := (o.og.ev encG_len).shape
    obtain ⟨A2, c2, h2⟩ := (o.oc.ev encI_len).shape
    obtain ⟨A3, c3, h3⟩ := (o.ou.ev encI_len).shape
    obtain ⟨A4, c4, h4⟩ := (o.ot.ev encT_len).shape
    obtain ⟨A5, c5, h5⟩ := (o.os.ev encR_len).shape
    dsimp only at h1 h2 h3 h4 h5
    subst h1 h2 h3 h4 h5
    have O := Lib.hid o
    have S := Lib.hid sim
    have B := Lib.hid bb
    have RB := Lib.hid rb
    clear o sim bb rb
    unfold StC.val StC.cells
    dsimp only
    go_wp2_with fail
    go_meet
    have B2 := below_step B.out (bel_alloc w1 (.cells #[.int .i64 s.n, .int .u64 s.cr, .slice A1 s.gs.length c1, .slice A2 s.cl.length c2, .slice A3 s.cu.length c3, .slice A4 s.ts.length c4, .slice A5 s.ss.length c5] 38))
    exact ⟨⟨.slice A1 s.gs.length c1, .slice A2 s.cl.length c2, .slice A3 s.cu.length c3, .slice A4 s.ts.length c4, .slice A5 s.ss.length c5⟩, s, _, rfl, O.out.below (bel_alloc _ _), StBox.new w1 ⟨.slice A1 s.gs.length c1, .slice A2 s.cl.length c2, .slice A3 s.cu.length c3, .slice A4 s.ts.length c4, .slice A5 s.ss.length c5⟩ s, S.out, RB.out, B2⟩
  case rest =>
  obtain ⟨c, s, X, rfl, o, bx, sim, rb, bb⟩ := hcut
  have hsh := Lib.hid (made_shp HG.out.2.1 HT.out.2.1 sim)
  have O := Lib.hid o
  have BX := Lib.hid bx
  have BB := Lib.hid bb
  obtain ⟨w2, hw2⟩ : ∃ w2, w2 = wc := ⟨_, rfl⟩
  subst hw2
  clear o bx sim rb bb
  refine hK0 _ _ ?_
  clear hK0
  go_upto_region 4 with fail
  go_cut [10, 11] (fun u v wx => u = .int .i64 0 ∧ v = .int .i64 0 ∧ wx = w2)
  case first =>
    go_wp2_with fail
    go_meet
    exact ⟨rfl, rfl, rfl⟩
  case rest =>
    obtain ⟨rfl, rfl, rfl⟩ := hcut
    refine (‹∀ (a : Act) (w : World), Code.wp _ _ _ a w → _› : ∀ (a : Act) (w : World), _ → _) _ _ (loads_t5 w _ X c s id O.out.at BX.out (HB.out.trans (BB.out.mono hsz)) hsh.out)
set_option maxRecDepth 100000 in
set_option maxHeartbeats 3200000 in
theorem loadsLaw_walk (w : World) (vg vt : Value) (cpus : Nat) (ns : List Nat) (ts : List Sm) (id : Int) (hc1 : cpus < 256) (hg : U16 w vg ns) (ht : SmArg w vt ts) :
    Calls Try.prog 11 #[.int .u8 (cpus : Nat), vg, vt, .int .i64 id] w fun e w' => e = .returned (.bool true) ∧ Below w.heap.size w w' := by
  have HG := Lib.hid hg
  have HT := Lib.hid ht
  clear hg ht
  go_enter Try.func11, Try.ntmps11
  go_wp2_with fail
  refine (awake_ok w).mono ?_
  rintro e w2 ⟨rfl, bb⟩
  go_upto_if 38 with fail
  go_cut [] (fun wx => wx = w2)
  case first =>
    go_wp2_with fail
    go_meet
    rfl
  case rest =>
    subst hcut
    refine (‹∀ (a : Act) (w : World), Code.wp _ _ _ a w → _› : ∀ (a : Act) (w : World), _ → _) _ _ (loads_t3 w _ vg vt cpus ns ts id bb hc1 (HG.out.below bb) (HT.out.below bb))
end Go.Proofs.Ytenngfkgfdogjaa

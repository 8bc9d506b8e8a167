/- The walk of the law SeqWrong: the arms of the switch, and what stands behind it. -/
import Derived.Test.YtofjgcbjpmgkdaaUf
import Derived.Deep.CutBlock
import Derived.StillTailTactics
import Derived.Deep.RegionLaw
import Derived.Deep.RegionHeld3
set_option linter.unusedVariables false
set_option linter.unusedSimpArgs false
set_option linter.unusedSectionVars false
namespace Go.Proofs.Ytofjgcbjpmgkdaa
open Go Go.RowKit Go.Shelf

theorem set_snoc (A : List (Int × Int)) (x y : Int × Int) {n : Nat} (hn : A.length = n) : (A ++ [x]).set n y = A ++ [y] := by subst hn; exact set_last A x y
theorem get_snoc (A : List (Int × Int)) (x : Int × Int) {n : Nat} (hn : A.length = n) : (A ++ [x])[n]? = some x := by subst hn; exact get_last
theorem insert_run' (w : World) (g n cap i base : Nat) (l : List (Int × Int)) (p q : Int) (m : Nat) (hm : w.heap.size = m) (hv : OV encP 2 35 base w (.slice (some ⟨g, 0, none⟩) n cap) l) (hn : l.length = n) (hi : i < n) (hlen : n ≤ 1000) (hbase : base ≤ w.heap.size) :
    Calls Try.prog 36 #[.slice (some ⟨g, 0, none⟩) n cap, .int .i64 ((i : Int) + 1), .slice (some ⟨m, 0, none⟩) 1 1] (w.alloc (.cells #[.int .i64 p, .int .i64 q] 35)) fun e w' =>
      ∃ v', e = .returned v' ∧ EV encP 2 w' v' (l.take (i + 1) ++ [(p, q)] ++ l.drop (i + 1)) ∧ Mod (fun k => k = g) w w' := by
  have h := insert_run w g n cap (i + 1) base l p q m hm hv hn (by omega) (by omega) hlen hbase
  rwa [Int.natCast_add, Int.natCast_one] at h
set_option maxRecDepth 100000 in
set_option maxHeartbeats 4000000 in
theorem wrong_t22 (w : World) (A : List (Int × Int)) (n g cap gb cb X b : Nat) (x : Int) (r nv cv : Nat) (Av : Option Addr) (bs : List (Int × Int)) (wc : World) {u0 u1 u4 u5 u6 u7 u12 u13 u14 u15 u16 u17 u18 u19 u20 u21 u22 u23 u24 u25 u26 u27 u28 u29 u30 u31 u32 u33 u34 u35 u36 u37 u38 u39 u40 u41 u42 u43 u44 u45 u46 u47 u48 u49 u50 u51 u52 u53 u54 u55 u56 u57 u58 u59 u60 u61 u62 u63 u64 u65 u66 u67 u68 u69 u70 u71 u72 u73 u74 u75 u76 u77 u78 u79 u80 u81 u82 u83 u84 u85 u86 u87 u88 u89 u90 u91 u92 u93 u94 u95 u96 u97 u98 u99 u100 u101 u102 u103 u104 u105 u106 u107 u108 u109 u110 u111 u112 u113 u114 u115 u116 u117 u118 u119 u120 u121 u122 u123 u124 u125 u126 u127 u128 u129 u130 u131 u132 u133 u134 u135 u136 u137 u138 u139 u140 u141 u142 u143 u144 u145 u146 u147 u148 u149 u150 u151 u152 u153 u154 u155 u156 u157 u158 u159 u160 u161 u162 u163 u164 u165 u166 u167 u168 u169 u170 u171 u172 u173 u174 u175 u176 u177 u178 u179 u180 u181 u182 u183 u184 u185 u186 u187 u188 u189 u190 u191 u192 u193 u194 u195 u196 u197 u198 u199 u200 u201 u202 u203 u204 u205 u206 u207 u208 u209 u210 u211 u212 u213 u214 u215 u216 u217 u218 u219 u220 u221 u222 u223 u224 u225 u226 u227 u228 u229 u230 u231 u232 u233 u234 u235 u236 u237 u238 u239 u240 u241 u242 u243 u244 u245 u246 u247 u248 u249 u250 u251 u252 u253 u254 u255 u256 u257 u258 u259 u260 u261 u262 u263 u264 u265 u266 u267 u268 u269 u270 u271 u272 u273 u274 u275 u276 u277 u278 u279 u280 : Value}
    (lG : (goodL A).length = n + 1) (lA : n ≤ 30) (HN : Hid (A.length = n)) (f1 : 1 ≤ goodF A) (f2 : goodF A ≤ 240000000000002) (RG : Hid (rightB (goodL A) = true)) (hgg : ¬ gb = g) (hgb1 : X ≤ gb) (gne : g < X) (hXw : w.heap.size ≤ X) (hr : (b : Int) % 6 = (r : Int))
    (OG : Hid (OV encP 2 35 w.heap.size wc (.slice (some ⟨g, 0, none⟩) (n + 1) cap) (goodL A))) (BG : Hid (Below w.heap.size w wc)) (EB : Hid (EV encP 2 wc (.slice Av nv cv) bs)) (LB : Hid (bs.length ≤ 100)) (NB : Hid (¬ r = 2 → rightB bs = false))
    (H2 : Hid (r = 2 → Value.slice Av nv cv = .slice (some ⟨gb, 0, none⟩) (n + 1) cb ∧ ∃ M, 281474976710656 ≤ M ∧ OV encP 2 35 X wc (.slice (some ⟨gb, 0, none⟩) (n + 1) cb) (A ++ [(goodF A, M)]))) :
    Code.wp Try.prog (tailR Try.f11 22) (bodyPost Try.prog Try.f11 fun e w' => e = .returned (.bool true) ∧ Below w.heap.size w w')
      ⟨#[u0, u1, .int .u8 (b : Int), .int .i64 x, u4, u5, u6, u7, .bool false, .slice (some ⟨g, 0, none⟩) (n + 1) cap, .int .i64 (n : Int), .slice Av nv cv, u12, u13, u14, u15, u16, u17, u18, u19, u20, u21, u22, u23, u24, u25, u26, u27, u28, u29, u30, u31, u32, u33, u34, u35, u36, u37, u38, u39, u40, u41, u42, u43, u44, u45, u46, u47, u48, u49, u50, u51, u52, u53, u54, u55, u56, u57, u58, u59, u60, u61, u62, u63, u64, u65, u66, u67, u68, u69, u70, u71, u72, u73, u74, u75, u76, u77, u78, u79, u80, u81, u82, u83, u84, u85, u86, u87, u88, u89, u90, u91, u92, u93, u94, u95, u96, u97, u98, u99, u100, u101, u102, u103, u104, u105, u106, u107, u108, u109, u110, u111, u112, u113, u114, u115, u116, u117, u118, u119, u120, u121, u122, u123, u124, u125, u126, u127, u128, u129, u130, u131, u132, u133, u134, u135, u136, u137, u138, u139, u140, u141, u142, u143, u144, u145, u146, u147, u148, u149, u150, u151, u152, u153, u154, u155, u156, u157, u158, u159, u160, u161, u162, u163, u164, u165, u166, u167, u168, u169, u170, u171, u172, u173, u174, u175, u176, u177, u178, u179, u180, u181, u182, u183, u184, u185, u186, u187, u188, u189, u190, u191, u192, u193, u194, u195, u196, u197, u198, u199, u200, u201, u202, u203, u204, u205, u206, u207, u208, u209, u210, u211, u212, u213, u214, u215, u216, u217, u218, u219, u220, u221, u222, u223, u224, u225, u226, u227, u228, u229, u230, u231, u232, u233, u234, u235, u236, u237, u238, u239, u240, u241, u242, u243, u244, u245, u246, u247, u248, u249, u250, u251, u252, u253, u254, u255, u256, u257, u258, u259, u260, u261, u262, u263, u264, u265, u266, u267, u268, u269, u270, u271, u272, u273, u274, u275, u276, u277, u278, u279, u280], []⟩ wc := by
  conv => arg 2; whnf
  conv => arg 4; dsimp only
  have hb2 : ((b : Int) % 6 == 2) = decide (r = 2) := by rw [hr, Bool.eq_iff_iff, beq_iff_eq, decide_eq_true_eq]; omega
  have r4 := (OG.out.ev encP_len).row3 (by omega)
  have hgn : (goodL A)[n]? = some (goodF A, 3) := get_snoc A _ HN.out
  obtain ⟨t0, _⟩ := r4.prs hgn
  dsimp only at t0
  rw [Nat.zero_add] at t0
  have hn1 : (n : Int) < (n : Int) + 1 := by omega
  have hn2 : n < n + 1 := by omega
  have hn0 : (0 : Int) ≤ (n : Int) := by omega
  clear r4 hgn
  apply wp_seq_k; intro K0 hK0
  apply wp_seq_k; intro K1 hK1
  go_cut [144, 151] (fun _ v wx => v = .bool (decide (r = 2 ∧ goodF A = 1)) ∧ wx = wc)
  case first =>
    as_aux_lemma =>
    rcases Decidable.em (r = 2) with h2 | h2
    · have hb3 : ((b : Int) % 6 == 2) = true := by rw [hb2]; simp [h2]
      have H3 := Lib.hid h2
      clear hb2 h2 hr
      go_wp2_with fail
      go_meet
      exact ⟨congrArg Value.bool (by have h2 := H3.out; rw [Bool.eq_iff_iff]; simp [h2]), rfl⟩
    · have hb3 : ((b : Int) % 6 == 2) = false := by rw [hb2]; simp [h2]
      have H3 := Lib.hid h2
      clear hb2 h2 hr
      go_wp2_with fail
      go_meet
      exact ⟨congrArg Value.bool (by have h2 := H3.out; rw [Bool.eq_iff_iff]; simp [h2]), rfl⟩
  case rest =>
    as_aux_lemma =>
    obtain ⟨rfl, rfl⟩ := hcut
    clear hb2 t0 hn1 hn2 hn0
    go_upto_if 151 with fail
    go_cut [152] (fun _ wx => (∃ cs, EV encP 2 wx (.slice Av nv cv) cs ∧ cs.length ≤ 100 ∧ rightB cs = false) ∧ OV encP 2 35 w.heap.size wx (.slice (some ⟨g, 0, none⟩) (n + 1) cap) (goodL A) ∧ Below w.heap.size w wx)
    case first =>
      as_aux_lemma =>
      by_cases hc : r = 2 ∧ goodF A = 1
      · obtain ⟨e2, M, hM, oM⟩ := H2.out hc.1
        have hdc : decide (r = 2 ∧ goodF A = 1) = true := decide_eq_true hc
        rw [hdc]
        simp only [Value.slice.injEq] at e2
        obtain ⟨rfl, rfl, rfl⟩ := e2
        have hlM : (A ++ [(goodF A, M)]).length = n + 1 := by simp [HN.out]
        have fz := oM.frz hlM (n * 2)
        obtain ⟨t0, t1⟩ := ((oM.ev encP_len).row3 (by omega)).prs (get_snoc A (goodF A, M) HN.out)
        dsimp only at t0
        rw [Nat.zero_add] at t0
        have hn1 : (n : Int) < (n : Int) + 1 := by omega
        have hn2 : n < n + 1 := by omega
        have hn0 : (0 : Int) ≤ (n : Int) := by omega
        obtain ⟨o8, g8⟩ := OV.setP oM hlM (i := n) (get_snoc A (goodF A, M) HN.out) 2
        rw [set_snoc A _ _ HN.out] at o8
        have X8 := Lib.hid (show (∃ cs, EV encP 2 (wc.setCell ⟨gb, n * 2, none⟩ (.int .i64 2)) (.slice (some ⟨gb, 0, none⟩) (n + 1) cv) cs ∧ cs.length ≤ 100 ∧ rightB cs = false) ∧ OV encP 2 35 w.heap.size (wc.setCell ⟨gb, n * 2, none⟩ (.int .i64 2)) (.slice (some ⟨g, 0, none⟩) (n + 1) cap) (goodL A) ∧ Below w.heap.size w (wc.setCell ⟨gb, n * 2, none⟩ (.int .i64 2)) from
          ⟨⟨_, o8.ev encP_len, by simp [HN.out]; omega, wrong_mem (i := n) (get_snoc A (2, M) HN.out) (by unfold rokB; simp; omega)⟩, OG.out.keep g8 (.inr (by intro h; simp [Value.ownBlock] at h; omega)), BG.out.grown g8 BG.out.size (fun k hk => by simp [Value.ownBlock] at hk; omega)⟩)
        clear o8 g8 oM hlM t1 H2 hc hdc
        go_wp2_with fail
        go_meet
        exact X8.out
      · have hdc : decide (r = 2 ∧ goodF A = 1) = false := decide_eq_false hc
        rw [hdc]
        have X8 := Lib.hid (show ∃ cs, EV encP 2 wc (.slice Av nv cv) cs ∧ cs.length ≤ 100 ∧ rightB cs = false from by
          by_cases h2 : r = 2
          · obtain ⟨e2, M, hM, oM⟩ := H2.out h2
            rw [e2]
            refine ⟨_, oM.ev encP_len, by simp [HN.out]; omega, wrong_mem (i := n) (get_snoc A (goodF A, M) HN.out) (by unfold rokB; simp; omega)⟩
          · exact ⟨bs, EB.out, LB.out, NB.out h2⟩)
        clear H2 hc hdc
        go_wp2_with fail
        go_meet
        exact ⟨X8.out, OG.out, BG.out⟩
    case rest =>
      as_aux_lemma =>
      clear EB LB NB H2 OG BG
      obtain ⟨⟨cs, ec, lc, nc⟩, og, bg⟩ := hcut
      have LC := Lib.hid (show cs.length ≤ 1000 by omega)
      have LG := Lib.hid (show (goodL A).length ≤ 1000 by omega)
      have NC := Lib.hid nc
      have F : Facts wc [sEV encP 2 (.slice Av nv cv) cs, sOV encP 2 35 w.heap.size (.slice (some ⟨g, 0, none⟩) (n + 1) cap) (goodL A), sB w] := ⟨ec, og, bg, trivial⟩
      clear ec lc nc og bg
      refine (‹∀ (a : Act) (w : World), Code.wp _ _ _ a w → _› : ∀ (a : Act) (w : World), _ → _) _ _ (wrong_tail w wc n cap g nv cv Av x A cs RG LG LC NC F)
end Go.Proofs.Ytofjgcbjpmgkdaa

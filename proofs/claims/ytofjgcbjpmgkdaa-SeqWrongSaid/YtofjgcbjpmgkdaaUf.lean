/- The walk of the law SeqWrong: from the calls on the wrong set on. -/
import Derived.Test.YtofjgcbjpmgkdaaUe
import Derived.Test.YtofjgcbjpmgkdaaCt
set_option linter.unusedVariables false
set_option linter.unusedSimpArgs false
set_option linter.unusedSectionVars false
namespace Go.Proofs.Ytofjgcbjpmgkdaa
open Go Go.RowKit Go.Shelf

set_option maxRecDepth 100000 in
set_option maxHeartbeats 1600000 in
theorem wrong_tail (w wc : World) (n cap g nv cv : Nat) (Av : Option Addr) (x : Int) (A cs : List (Int × Int)) {u0 u1 u2 u4 u5 u6 u7 u12 u13 u14 u15 u16 u17 u18 u19 u20 u21 u22 u23 u24 u25 u26 u27 u28 u29 u30 u31 u32 u33 u34 u35 u36 u37 u38 u39 u40 u41 u42 u43 u44 u45 u46 u47 u48 u49 u50 u51 u52 u53 u54 u55 u56 u57 u58 u59 u60 u61 u62 u63 u64 u65 u66 u67 u68 u69 u70 u71 u72 u73 u74 u75 u76 u77 u78 u79 u80 u81 u82 u83 u84 u85 u86 u87 u88 u89 u90 u91 u92 u93 u94 u95 u96 u97 u98 u99 u100 u101 u102 u103 u104 u105 u106 u107 u108 u109 u110 u111 u112 u113 u114 u115 u116 u117 u118 u119 u120 u121 u122 u123 u124 u125 u126 u127 u128 u129 u130 u131 u132 u133 u134 u135 u136 u137 u138 u139 u140 u141 u142 u143 u144 u145 u146 u147 u148 u149 u150 u151 u152 u153 u154 u155 u156 u157 u158 u159 u160 u161 u162 u163 u164 u165 u166 u167 u168 u169 u170 u171 u172 u173 u174 u175 u176 u177 u178 u179 u180 u181 u182 u183 u184 u185 u186 u187 u188 u189 u190 u191 u192 u193 u194 u195 u196 u197 u198 u199 u200 u201 u202 u203 u204 u205 u206 u207 u208 u209 u210 u211 u212 u213 u214 u215 u216 u217 u218 u219 u220 u221 u222 u223 u224 u225 u226 u227 u228 u229 u230 u231 u232 u233 u234 u235 u236 u237 u238 u239 u240 u241 u242 u243 u244 u245 u246 u247 u248 u249 u250 u251 u252 u253 u254 u255 u256 u257 u258 u259 u260 u261 u262 u263 u264 u265 u266 u267 u268 u269 u270 u271 u272 u273 u274 u275 u276 u277 u278 u279 u280 : Value}
    (RG : Hid (rightB (goodL A) = true)) (LG : Hid ((goodL A).length ≤ 1000)) (LC : Hid (cs.length ≤ 1000)) (NC : Hid (rightB cs = false))
    (F : Facts wc [sEV encP 2 (.slice Av nv cv) cs, sOV encP 2 35 w.heap.size (.slice (some ⟨g, 0, none⟩) (n + 1) cap) (goodL A), sB w]) :
    Code.wp Try.prog (tailR Try.f11 24) (bodyPost Try.prog Try.f11 fun e w' => e = .returned (.bool true) ∧ Below w.heap.size w w')
      ⟨#[u0, u1, u2, .int .i64 x, u4, u5, u6, u7, .bool false, .slice (some ⟨g, 0, none⟩) (n + 1) cap, .int .i64 (n : Int), .slice Av nv cv, u12, u13, u14, u15, u16, u17, u18, u19, u20, u21, u22, u23, u24, u25, u26, u27, u28, u29, u30, u31, u32, u33, u34, u35, u36, u37, u38, u39, u40, u41, u42, u43, u44, u45, u46, u47, u48, u49, u50, u51, u52, u53, u54, u55, u56, u57, u58, u59, u60, u61, u62, u63, u64, u65, u66, u67, u68, u69, u70, u71, u72, u73, u74, u75, u76, u77, u78, u79, u80, u81, u82, u83, u84, u85, u86, u87, u88, u89, u90, u91, u92, u93, u94, u95, u96, u97, u98, u99, u100, u101, u102, u103, u104, u105, u106, u107, u108, u109, u110, u111, u112, u113, u114, u115, u116, u117, u118, u119, u120, u121, u122, u123, u124, u125, u126, u127, u128, u129, u130, u131, u132, u133, u134, u135, u136, u137, u138, u139, u140, u141, u142, u143, u144, u145, u146, u147, u148, u149, u150, u151, u152, u153, u154, u155, u156, u157, u158, u159, u160, u161, u162, u163, u164, u165, u166, u167, u168, u169, u170, u171, u172, u173, u174, u175, u176, u177, u178, u179, u180, u181, u182, u183, u184, u185, u186, u187, u188, u189, u190, u191, u192, u193, u194, u195, u196, u197, u198, u199, u200, u201, u202, u203, u204, u205, u206, u207, u208, u209, u210, u211, u212, u213, u214, u215, u216, u217, u218, u219, u220, u221, u222, u223, u224, u225, u226, u227, u228, u229, u230, u231, u232, u233, u234, u235, u236, u237, u238, u239, u240, u241, u242, u243, u244, u245, u246, u247, u248, u249, u250, u251, u252, u253, u254, u255, u256, u257, u258, u259, u260, u261, u262, u263, u264, u265, u266, u267, u268, u269, u270, u271, u272, u273, u274, u275, u276, u277, u278, u279, u280], []⟩ wc := by
  conv => arg 2; whnf
  conv => arg 4; dsimp only
  obtain ⟨M1, hM1, hM1'⟩ : ∃ M, min x 0 = M ∧ M ≤ 0 := ⟨_, rfl, by omega⟩
  obtain ⟨M2, hM2, hM2'⟩ : ∃ M, max x 281474976710657 = M ∧ 281474976710657 ≤ M := ⟨_, rfl, by omega⟩
  obtain ⟨M3, hM3, hM3'⟩ : ∃ M, max x 281474976710658 = M ∧ 281474976710658 ≤ M := ⟨_, rfl, by omega⟩
  have K1 := Lib.hid (show ([3, M1] : List Int).all okN = false by simp [okN]; omega)
  have K2 := Lib.hid (show ([M2] : List Int).all okN = false by simp [okN]; omega)
  have K3 := Lib.hid (show (1 : Int) < 1 ∨ M3 < 1 ∨ 281474976710657 < M3 by omega)
  clear hM1' hM2' hM3'
  go_wp2_with fail
  refine (count_w wc _ _ (F.get 0) LC.out NC.out).mono ?_
  rintro e w1 ⟨⟨xw1, rfl⟩, bb⟩
  replace F := F.below bb
  clear bb
  go_wp2_with fail
  refine (has_w w1 _ _ 1 (F.get 0) LC.out NC.out (by decide) (by decide)).mono ?_
  rintro e w2 ⟨⟨xw2, rfl⟩, bb⟩
  replace F := F.below bb
  clear bb
  go_wp2_with fail
  refine (missing_w w2 _ _ 0 0 (F.get 0) LC.out NC.out).mono ?_
  rintro e w3 ⟨⟨xw3, rfl⟩, bb⟩
  replace F := F.below bb
  clear bb
  go_wp2_with fail
  refine (first_w w3 _ _ 1 9 (F.get 0) LC.out NC.out).mono ?_
  rintro e w4 ⟨⟨xw4, rfl⟩, bb⟩
  replace F := F.below bb
  clear bb
  go_wp2_with fail
  refine (union_w w4 _ _ _ _ (F.get 0) (OV.ev (F.get 1) encP_len) LC.out LG.out (.inl NC.out)).mono ?_
  rintro e w5 ⟨⟨xw5, yw5, rfl⟩, bb⟩
  replace F := F.below bb
  clear bb
  go_wp2_with fail
  refine (common_w w5 _ _ _ _ (OV.ev (F.get 1) encP_len) (F.get 0) LG.out LC.out (.inr NC.out)).mono ?_
  rintro e w6 ⟨⟨xw6, yw6, rfl⟩, bb⟩
  replace F := F.below bb
  clear bb
  go_wp2_with fail
  refine (without_w w6 _ _ _ _ (OV.ev (F.get 1) encP_len) (F.get 0) LG.out LC.out (.inr NC.out)).mono ?_
  rintro e w7 ⟨⟨xw7, yw7, rfl⟩, bb⟩
  replace F := F.below bb
  clear bb

  go_wp2_with fail
  have ro : EV encI 1 (w7.alloc (.cells #[.int .i64 90, .int .i64 90, .int .i64 90, .int .i64 90, .int .i64 90, .int .i64 90, .int .i64 90] 28)) (.slice (some ⟨w7.heap.size, 0, none⟩) 7 7) [90, 90, 90, 90, 90, 90, 90] := EV.newL encI_len rfl rfl (Nat.le_refl _)
  have bo := bel_alloc w7 (.cells #[.int .i64 90, .int .i64 90, .int .i64 90, .int .i64 90, .int .i64 90, .int .i64 90, .int .i64 90] 28)
  obtain ⟨Y, hY⟩ : ∃ Y, w7.heap.size = Y := ⟨_, rfl⟩
  rw [hY] at ro ⊢
  generalize w7.alloc _ = w8 at ro bo ⊢
  replace F := F.below bo
  have CC := Lib.hid (show ∀ j : Nat, j < 7 → w8.cell? ⟨Y, j, none⟩ = some (.int .i64 90) from fun j hj => by
    have h := (ro.row3 (by simp)).int (i := j) (by simpa using hj)
    rw [Nat.zero_add] at h
    rw [h]
    congr 2
    match j, hj with
    | 0, _ => rfl
    | 1, _ => rfl
    | 2, _ => rfl
    | 3, _ => rfl
    | 4, _ => rfl
    | 5, _ => rfl
    | 6, _ => rfl)
  clear ro bo hY
  go_loopg [28, 203] 7 (fun k _ i wr => ∃ j : Nat, j + k = 7 ∧ i = .int .i64 j ∧ w8 = wr)
  case atStart => exact ⟨0, by omega, rfl, rfl⟩
  case round =>
    obtain ⟨j, hj, rfl, rfl⟩ := hrel
    have HJ := Lib.hid hj
    clear hj
    by_cases hlt : j < 7
    · have hd : decide ((j : Int) < 7) = true := by rw [decide_eq_true_eq]; omega
      have cj := CC.out j hlt
      go_wp2_with fail
      go_roundg (gk - 1)
      case measure => have := HJ.out; omega
      case rel => exact ⟨j + 1, by have := HJ.out; omega, by go_num, rfl⟩
    · have hd : decide ((j : Int) < 7) = false := by rw [decide_eq_false_iff_not]; omega
      clear CC
      go_wp2_with fail
      refine (of_w w8 _ 2 [3, M1] _ rfl rfl rfl (by decide) K1.out).mono ?_
      rintro e w9 ⟨⟨xw9, yw9, rfl⟩, bb⟩
      replace F := F.below bb
      clear bb
      go_wp2_with fail
      refine (of_w w9 _ 1 [M2] _ rfl rfl rfl (by decide) K2.out).mono ?_
      rintro e x1 ⟨⟨xx1, yx1, rfl⟩, bb⟩
      replace F := F.below bb
      clear bb
      go_wp2_with fail
      refine (missing_a x1 _ _ 0 5 (OV.ev (F.get 1) encP_len) RG.out (.inl (by decide))).mono ?_
      rintro e x2 ⟨⟨xx2, rfl⟩, bb⟩
      replace F := F.below bb
      clear bb
      go_wp2_with fail
      refine (missing_a x2 _ _ 5 4 (OV.ev (F.get 1) encP_len) RG.out (.inr (.inl (by decide)))).mono ?_
      rintro e x3 ⟨⟨xx3, rfl⟩, bb⟩
      replace F := F.below bb
      clear bb
      go_wp2_with fail
      refine (first_a x3 _ _ 1 M3 (OV.ev (F.get 1) encP_len) RG.out K3.out).mono ?_
      rintro e x4 ⟨⟨xx4, rfl⟩, bb⟩
      replace F := F.below bb
      clear bb
      go_wp2_with fail
      refine (right_w x4 _ _ (F.get 0) LC.out NC.out).mono ?_
      rintro e x5 ⟨rfl, bb⟩
      replace F := F.below bb
      clear bb
      go_wp2_with fail
      refine (right_t x5 _ _ (OV.ev (F.get 1) encP_len) RG.out).mono ?_
      rintro e x6 ⟨rfl, bb⟩
      have hfin : Below w.heap.size w x6 := (F.below bb).get 2
      clear bb F
      go_wp2_with fail
      go_ret
      exact ⟨rfl, hfin⟩
end Go.Proofs.Ytofjgcbjpmgkdaa

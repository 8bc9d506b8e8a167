/- The walk of the law SeqWrong: arms of the switch. -/
import Derived.Test.YtofjgcbjpmgkdaaUg
set_option linter.unusedVariables false
set_option linter.unusedSimpArgs false
set_option linter.unusedSectionVars false
namespace Go.Proofs.Ytofjgcbjpmgkdaa
open Go Go.RowKit Go.Shelf

set_option maxRecDepth 100000 in
set_option maxHeartbeats 4000000 in
theorem wrong_arm3 (w : World) (A : List (Int × Int)) (n g cap gb cb X b : Nat) (x : Int) (I : Nat) (w6 : World) {u0 u1 u4 u5 u6 u7 u13 u14 u15 u16 u17 u18 u19 u20 u21 u22 u23 u24 u25 u26 u27 u28 u29 u30 u31 u32 u33 u34 u35 u36 u37 u38 u39 u40 u41 u42 u43 u44 u45 u46 u47 u48 u49 u50 u51 u52 u53 u54 u55 u56 u57 u58 u59 u60 u61 u62 u63 u64 u65 u66 u67 u68 u69 u70 u71 u72 u73 u74 u75 u76 u77 u78 u79 u80 u81 u82 u83 u84 u85 u86 u87 u88 u89 u90 u91 u92 u93 u94 u95 u96 u97 u98 u99 u100 u101 u102 u103 u104 u105 u106 u107 u108 u109 u110 u111 u112 u113 u114 u115 u116 u117 u118 u119 u120 u121 u122 u123 u124 u125 u126 u127 u128 u129 u130 u131 u132 u133 u134 u135 u136 u137 u138 u139 u140 u141 u142 u143 u144 u145 u146 u147 u148 u149 u150 u151 u152 u153 u154 u155 u156 u157 u158 u159 u160 u161 u162 u163 u164 u165 u166 u167 u168 u169 u170 u171 u172 u173 u174 u175 u176 u177 u178 u179 u180 u181 u182 u183 u184 u185 u186 u187 u188 u189 u190 u191 u192 u193 u194 u195 u196 u197 u198 u199 u200 u201 u202 u203 u204 u205 u206 u207 u208 u209 u210 u211 u212 u213 u214 u215 u216 u217 u218 u219 u220 u221 u222 u223 u224 u225 u226 u227 u228 u229 u230 u231 u232 u233 u234 u235 u236 u237 u238 u239 u240 u241 u242 u243 u244 u245 u246 u247 u248 u249 u250 u251 u252 u253 u254 u255 u256 u257 u258 u259 u260 u261 u262 u263 u264 u265 u266 u267 u268 u269 u270 u271 u272 u273 u274 u275 u276 u277 u278 u279 u280 : Value}
    (lG : (goodL A).length = n + 1) (lA : n ≤ 30) (HN : Hid (A.length = n)) (f1 : 1 ≤ goodF A) (f2 : goodF A ≤ 240000000000002) (RG : Hid (rightB (goodL A) = true)) (hgg : ¬ gb = g) (hgb1 : X ≤ gb) (gne : g < X) (hXw : w.heap.size ≤ X) (hr : (b : Int) % 6 = (3 : Nat)) (hXs : X ≤ w6.heap.size) (hI : I ≤ n)
    (OG6 : Hid (OV encP 2 35 w.heap.size w6 (.slice (some ⟨g, 0, none⟩) (n + 1) cap) (goodL A))) (B6 : Hid (Below w.heap.size w w6)) (O6 : Hid (OV encP 2 35 X w6 (.slice (some ⟨gb, 0, none⟩) (n + 1) cb) (goodL A))) :
    Code.wp Try.prog (tailR Try.f11 10) (bodyPost Try.prog Try.f11 fun e w' => e = .returned (.bool true) ∧ Below w.heap.size w w')
      ⟨#[u0, u1, .int .u8 (b : Int), .int .i64 x, u4, u5, u6, u7, .bool false, .slice (some ⟨g, 0, none⟩) (n + 1) cap, .int .i64 (n : Int), .slice (some ⟨gb, 0, none⟩) (n + 1) cb, .int .i64 (I : Int), u13, u14, u15, u16, u17, u18, u19, u20, u21, u22, u23, u24, u25, u26, u27, u28, u29, u30, u31, u32, u33, u34, u35, u36, u37, u38, u39, u40, u41, u42, u43, u44, u45, u46, u47, u48, u49, u50, u51, u52, u53, u54, u55, u56, u57, u58, u59, u60, u61, u62, u63, u64, u65, u66, u67, u68, u69, u70, u71, u72, u73, u74, u75, u76, u77, u78, u79, u80, u81, u82, u83, u84, u85, u86, u87, u88, u89, u90, u91, u92, u93, u94, u95, u96, u97, u98, u99, u100, u101, u102, u103, u104, u105, u106, u107, u108, u109, u110, u111, u112, u113, u114, u115, u116, u117, u118, u119, u120, u121, u122, u123, u124, u125, u126, u127, u128, u129, u130, u131, u132, u133, u134, u135, u136, u137, u138, u139, u140, u141, u142, u143, u144, u145, u146, u147, u148, u149, u150, u151, u152, u153, u154, u155, u156, u157, u158, u159, u160, u161, u162, u163, u164, u165, u166, u167, u168, u169, u170, u171, u172, u173, u174, u175, u176, u177, u178, u179, u180, u181, u182, u183, u184, u185, u186, u187, u188, u189, u190, u191, u192, u193, u194, u195, u196, u197, u198, u199, u200, u201, u202, u203, u204, u205, u206, u207, u208, u209, u210, u211, u212, u213, u214, u215, u216, u217, u218, u219, u220, u221, u222, u223, u224, u225, u226, u227, u228, u229, u230, u231, u232, u233, u234, u235, u236, u237, u238, u239, u240, u241, u242, u243, u244, u245, u246, u247, u248, u249, u250, u251, u252, u253, u254, u255, u256, u257, u258, u259, u260, u261, u262, u263, u264, u265, u266, u267, u268, u269, u270, u271, u272, u273, u274, u275, u276, u277, u278, u279, u280], []⟩ w6 := by
  conv => arg 2; whnf
  conv => arg 4; dsimp only
  have s6 := B6.out.size
  obtain ⟨r, hre⟩ : ∃ r : Nat, r = 3 := ⟨_, rfl⟩
  go_upto_block 0 with fail
  rw [hr]
  go_cut [11] (fun vb wx => ((∃ bs, EV encP 2 wx vb bs ∧ bs.length ≤ 100 ∧ (¬ r = 2 → rightB bs = false)) ∧ (∃ A' n' c', vb = .slice A' n' c') ∧ (r = 2 → vb = .slice (some ⟨gb, 0, none⟩) (n + 1) cb ∧ ∃ M, 281474976710656 ≤ M ∧ OV encP 2 35 X wx (.slice (some ⟨gb, 0, none⟩) (n + 1) cb) (A ++ [(goodF A, M)]))) ∧ OV encP 2 35 w.heap.size wx (.slice (some ⟨g, 0, none⟩) (n + 1) cap) (goodL A) ∧ Below w.heap.size w wx)
  case first =>
    as_aux_lemma =>
    subst hre
    obtain ⟨⟨pI, qI⟩, hgI⟩ : ∃ y, (goodL A)[I]? = some y := ⟨_, List.getElem?_eq_getElem (by omega)⟩
    obtain ⟨⟨p0, q0⟩, hg0⟩ : ∃ y, (goodL A)[0]? = some y := ⟨_, List.getElem?_eq_getElem (by omega)⟩
    have HGI := Lib.hid hgI
    have HG0 := Lib.hid hg0
    have HGn := Lib.hid (get_snoc A (goodF A, (3 : Int)) HN.out)
    have HSn := Lib.hid (fun y => set_snoc A (goodF A, (3 : Int)) y HN.out)
    have r6 := (O6.out.ev encP_len).row3 (by omega)
    obtain ⟨i0, i1⟩ := r6.prs hgI
    obtain ⟨z0, z1⟩ := r6.prs hg0
    obtain ⟨l0, l1⟩ := r6.prs HGn.out
    dsimp only at i0 i1 z0 z1 l0 l1
    rw [Nat.zero_add] at i0 i1 l0 l1
    simp only [Nat.zero_mul, Nat.add_zero] at z0 z1
    have FZ := Lib.hid (fun j => O6.out.frz lG j)
    have hIf := (can_get (right_len RG.out).2 hgI).1
    have hIr := rok_iff.1 hIf
    dsimp only at hIr
    have FIN := Lib.hid (show ∀ (w7 : World) (bs : List (Int × Int)), OV encP 2 35 X w7 (.slice (some ⟨gb, 0, none⟩) (n + 1) cb) bs → w6.grownBy w7 (some gb) → bs.length ≤ 100 → OV encP 2 35 w.heap.size w7 (.slice (some ⟨g, 0, none⟩) (n + 1) cap) (goodL A) ∧ Below w.heap.size w w7 from
      fun w7 bs ho hg hl => ⟨OG6.out.keep hg (.inr (by intro h; simp [Value.ownBlock] at h; omega)), B6.out.grown hg s6 (fun k hk => by simp at hk; omega)⟩)
    clear hgI hg0 r6
    clear z0 z1 l0 l1
    go_wp2_with (at_builtin; refine wpList_app elemR encP_len encP_one rfl (.tmp 115) (.tmp 120) rfl _ _ rfl rfl (O6.out.alloc _) (new_pair (p := pI) (q := qI)) ?q3 ?q4 ?_)
    case q3 => rw [lG]; simp; omega
    case q4 => (try simp); omega
    intro v7 w7 o7 g7
    have ev7 := o7.ev encP_len
    have S7 := Lib.hid ev7.shape
    have HL7 := Lib.hid (show (goodL A ++ [(pI, qI)]).length ≤ 100 from by simp [lG]; omega)
    have E7 := Lib.hid ev7
    have G7 := Lib.hid ((OG6.out.alloc _).keep g7 (.inr (by intro h; simp [Value.ownBlock] at h; omega)))
    have B7 := Lib.hid ((B6.out.alloc s6 _).grown g7 (by simp; omega) (fun k hk => by have := (O6.out.block k hk).1; omega))
    have W7 := Lib.hid (wrong_again (right_len RG.out).2 (List.mem_of_getElem? HGI.out))
    clear ev7 o7 g7
    go_wp2_with fail
    go_meet
    case rel => exact ⟨⟨⟨_, E7.out, HL7.out, fun _ => W7.out⟩, (by obtain ⟨A7, c7, h⟩ := S7.out; exact ⟨_, _, _, h⟩), fun h => by omega⟩, G7.out, B7.out⟩
  case rest =>
    obtain ⟨⟨⟨bs, eb, lb, nb⟩, ⟨Av, nv, cv, hv⟩, h2⟩, og, bg⟩ := hcut
    subst hv
    refine (‹∀ (a : Act) (w : World), Code.wp _ _ _ a w → _› : ∀ (a : Act) (w : World), _ → _) _ _ (wrong_t22 w A n g cap gb cb X b x r nv cv Av bs wc lG lA HN f1 f2 RG hgg hgb1 gne hXw (by rw [hre]; exact hr) (Lib.hid og) (Lib.hid bg) (Lib.hid eb) (Lib.hid lb) (Lib.hid nb) (Lib.hid h2))
set_option maxRecDepth 100000 in
set_option maxHeartbeats 4000000 in
theorem wrong_arm5 (w : World) (A : List (Int × Int)) (n g cap gb cb X b : Nat) (x : Int) (I : Nat) (w6 : World) {u0 u1 u4 u5 u6 u7 u13 u14 u15 u16 u17 u18 u19 u20 u21 u22 u23 u24 u25 u26 u27 u28 u29 u30 u31 u32 u33 u34 u35 u36 u37 u38 u39 u40 u41 u42 u43 u44 u45 u46 u47 u48 u49 u50 u51 u52 u53 u54 u55 u56 u57 u58 u59 u60 u61 u62 u63 u64 u65 u66 u67 u68 u69 u70 u71 u72 u73 u74 u75 u76 u77 u78 u79 u80 u81 u82 u83 u84 u85 u86 u87 u88 u89 u90 u91 u92 u93 u94 u95 u96 u97 u98 u99 u100 u101 u102 u103 u104 u105 u106 u107 u108 u109 u110 u111 u112 u113 u114 u115 u116 u117 u118 u119 u120 u121 u122 u123 u124 u125 u126 u127 u128 u129 u130 u131 u132 u133 u134 u135 u136 u137 u138 u139 u140 u141 u142 u143 u144 u145 u146 u147 u148 u149 u150 u151 u152 u153 u154 u155 u156 u157 u158 u159 u160 u161 u162 u163 u164 u165 u166 u167 u168 u169 u170 u171 u172 u173 u174 u175 u176 u177 u178 u179 u180 u181 u182 u183 u184 u185 u186 u187 u188 u189 u190 u191 u192 u193 u194 u195 u196 u197 u198 u199 u200 u201 u202 u203 u204 u205 u206 u207 u208 u209 u210 u211 u212 u213 u214 u215 u216 u217 u218 u219 u220 u221 u222 u223 u224 u225 u226 u227 u228 u229 u230 u231 u232 u233 u234 u235 u236 u237 u238 u239 u240 u241 u242 u243 u244 u245 u246 u247 u248 u249 u250 u251 u252 u253 u254 u255 u256 u257 u258 u259 u260 u261 u262 u263 u264 u265 u266 u267 u268 u269 u270 u271 u272 u273 u274 u275 u276 u277 u278 u279 u280 : Value}
    (lG : (goodL A).length = n + 1) (lA : n ≤ 30) (HN : Hid (A.length = n)) (f1 : 1 ≤ goodF A) (f2 : goodF A ≤ 240000000000002) (RG : Hid (rightB (goodL A) = true)) (hgg : ¬ gb = g) (hgb1 : X ≤ gb) (gne : g < X) (hXw : w.heap.size ≤ X) (hr : (b : Int) % 6 = (5 : Nat)) (hXs : X ≤ w6.heap.size) (hI : I ≤ n)
    (OG6 : Hid (OV encP 2 35 w.heap.size w6 (.slice (some ⟨g, 0, none⟩) (n + 1) cap) (goodL A))) (B6 : Hid (Below w.heap.size w w6)) (O6 : Hid (OV encP 2 35 X w6 (.slice (some ⟨gb, 0, none⟩) (n + 1) cb) (goodL A))) :
    Code.wp Try.prog (tailR Try.f11 10) (bodyPost Try.prog Try.f11 fun e w' => e = .returned (.bool true) ∧ Below w.heap.size w w')
      ⟨#[u0, u1, .int .u8 (b : Int), .int .i64 x, u4, u5, u6, u7, .bool false, .slice (some ⟨g, 0, none⟩) (n + 1) cap, .int .i64 (n : Int), .slice (some ⟨gb, 0, none⟩) (n + 1) cb, .int .i64 (I : Int), u13, u14, u15, u16, u17, u18, u19, u20, u21, u22, u23, u24, u25, u26, u27, u28, u29, u30, u31, u32, u33, u34, u35, u36, u37, u38, u39, u40, u41, u42, u43, u44, u45, u46, u47, u48, u49, u50, u51, u52, u53, u54, u55, u56, u57, u58, u59, u60, u61, u62, u63, u64, u65, u66, u67, u68, u69, u70, u71, u72, u73, u74, u75, u76, u77, u78, u79, u80, u81, u82, u83, u84, u85, u86, u87, u88, u89, u90, u91, u92, u93, u94, u95, u96, u97, u98, u99, u100, u101, u102, u103, u104, u105, u106, u107, u108, u109, u110, u111, u112, u113, u114, u115, u116, u117, u118, u119, u120, u121, u122, u123, u124, u125, u126, u127, u128, u129, u130, u131, u132, u133, u134, u135, u136, u137, u138, u139, u140, u141, u142, u143, u144, u145, u146, u147, u148, u149, u150, u151, u152, u153, u154, u155, u156, u157, u158, u159, u160, u161, u162, u163, u164, u165, u166, u167, u168, u169, u170, u171, u172, u173, u174, u175, u176, u177, u178, u179, u180, u181, u182, u183, u184, u185, u186, u187, u188, u189, u190, u191, u192, u193, u194, u195, u196, u197, u198, u199, u200, u201, u202, u203, u204, u205, u206, u207, u208, u209, u210, u211, u212, u213, u214, u215, u216, u217, u218, u219, u220, u221, u222, u223, u224, u225, u226, u227, u228, u229, u230, u231, u232, u233, u234, u235, u236, u237, u238, u239, u240, u241, u242, u243, u244, u245, u246, u247, u248, u249, u250, u251, u252, u253, u254, u255, u256, u257, u258, u259, u260, u261, u262, u263, u264, u265, u266, u267, u268, u269, u270, u271, u272, u273, u274, u275, u276, u277, u278, u279, u280], []⟩ w6 := by
  conv => arg 2; whnf
  conv => arg 4; dsimp only
  have s6 := B6.out.size
  obtain ⟨r, hre⟩ : ∃ r : Nat, r = 5 := ⟨_, rfl⟩
  go_upto_block 0 with fail
  rw [hr]
  go_cut [11] (fun vb wx => ((∃ bs, EV encP 2 wx vb bs ∧ bs.length ≤ 100 ∧ (¬ r = 2 → rightB bs = false)) ∧ (∃ A' n' c', vb = .slice A' n' c') ∧ (r = 2 → vb = .slice (some ⟨gb, 0, none⟩) (n + 1) cb ∧ ∃ M, 281474976710656 ≤ M ∧ OV encP 2 35 X wx (.slice (some ⟨gb, 0, none⟩) (n + 1) cb) (A ++ [(goodF A, M)]))) ∧ OV encP 2 35 w.heap.size wx (.slice (some ⟨g, 0, none⟩) (n + 1) cap) (goodL A) ∧ Below w.heap.size w wx)
  case first =>
    as_aux_lemma =>
    subst hre
    obtain ⟨⟨pI, qI⟩, hgI⟩ : ∃ y, (goodL A)[I]? = some y := ⟨_, List.getElem?_eq_getElem (by omega)⟩
    obtain ⟨⟨p0, q0⟩, hg0⟩ : ∃ y, (goodL A)[0]? = some y := ⟨_, List.getElem?_eq_getElem (by omega)⟩
    have HGI := Lib.hid hgI
    have HG0 := Lib.hid hg0
    have HGn := Lib.hid (get_snoc A (goodF A, (3 : Int)) HN.out)
    have HSn := Lib.hid (fun y => set_snoc A (goodF A, (3 : Int)) y HN.out)
    have r6 := (O6.out.ev encP_len).row3 (by omega)
    obtain ⟨i0, i1⟩ := r6.prs hgI
    obtain ⟨z0, z1⟩ := r6.prs hg0
    obtain ⟨l0, l1⟩ := r6.prs HGn.out
    dsimp only at i0 i1 z0 z1 l0 l1
    rw [Nat.zero_add] at i0 i1 l0 l1
    simp only [Nat.zero_mul, Nat.add_zero] at z0 z1
    have FZ := Lib.hid (fun j => O6.out.frz lG j)
    have hIf := (can_get (right_len RG.out).2 hgI).1
    have hIr := rok_iff.1 hIf
    dsimp only at hIr
    have FIN := Lib.hid (show ∀ (w7 : World) (bs : List (Int × Int)), OV encP 2 35 X w7 (.slice (some ⟨gb, 0, none⟩) (n + 1) cb) bs → w6.grownBy w7 (some gb) → bs.length ≤ 100 → OV encP 2 35 w.heap.size w7 (.slice (some ⟨g, 0, none⟩) (n + 1) cap) (goodL A) ∧ Below w.heap.size w w7 from
      fun w7 bs ho hg hl => ⟨OG6.out.keep hg (.inr (by intro h; simp [Value.ownBlock] at h; omega)), B6.out.grown hg s6 (fun k hk => by simp at hk; omega)⟩)
    clear hgI hg0 r6
    obtain ⟨M, hM, hM0⟩ : ∃ M, max x 281474976710657 = M ∧ 281474976710657 ≤ M := ⟨_, rfl, by omega⟩
    have fz := FZ.out (n * 2)
    have hn1 : (n : Int) < (n : Int) + 1 := by omega
    have hn2 : n < n + 1 := by omega
    clear z0 z1 i0 i1
    go_wp2_with fail
    go_meet
    case rel =>
      obtain ⟨o7, g7⟩ := OV.setP (gs := A ++ [(goodF A, 3)]) O6.out lG HGn.out M
      obtain ⟨x1, x2⟩ := FIN.out _ _ o7 g7 (by rw [List.length_set, List.length_append, HN.out]; simp; omega)
      exact ⟨⟨⟨_, o7.ev encP_len, by rw [List.length_set, List.length_append, HN.out]; simp; omega, fun _ => wrong_set (by rw [List.length_append, HN.out]; simp) (by unfold rokB; simp; omega)⟩, ⟨_, _, _, rfl⟩, fun h => by omega⟩, x1, x2⟩
  case rest =>
    obtain ⟨⟨⟨bs, eb, lb, nb⟩, ⟨Av, nv, cv, hv⟩, h2⟩, og, bg⟩ := hcut
    subst hv
    refine (‹∀ (a : Act) (w : World), Code.wp _ _ _ a w → _› : ∀ (a : Act) (w : World), _ → _) _ _ (wrong_t22 w A n g cap gb cb X b x r nv cv Av bs wc lG lA HN f1 f2 RG hgg hgb1 gne hXw (by rw [hre]; exact hr) (Lib.hid og) (Lib.hid bg) (Lib.hid eb) (Lib.hid lb) (Lib.hid nb) (Lib.hid h2))
end Go.Proofs.Ytofjgcbjpmgkdaa

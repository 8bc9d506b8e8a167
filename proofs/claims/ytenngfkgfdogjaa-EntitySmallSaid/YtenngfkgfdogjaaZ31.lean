/- EntityWrong: what is wrong with the states, and that all functions tell so | The walk of the law EntityWrong, from the calls on. -/
import Derived.Test.YtenngfkgfdogjaaZ27
set_option linter.unusedVariables false
set_option linter.unusedSimpArgs false
set_option linter.unusedSectionVars false
namespace Go.Proofs.Ytenngfkgfdogjaa
open Go Go.RowKit Go.Shelf

section
variable {s : St}
theorem bad_n (h : Shp s) {m : Int} (hm : s.n < m) : shapedB { s with n := m } = false := by
  cases hb : shapedB { s with n := m } with
  | false => rfl
  | true =>
    exfalso
    have h1 := (shp_iff.1 hb).cl
    have h2 := h.cl
    dsimp only at h1
    omega
theorem bad_cl (h : Shp s) : shapedB { s with cl := s.cl.drop 1 } = false := by
  cases hb : shapedB { s with cl := s.cl.drop 1 } with
  | false => rfl
  | true =>
    exfalso
    have h1 := (shp_iff.1 hb).cl
    have h2 := h.cl
    have h3 := h.n1
    dsimp only at h1
    rw [List.length_drop] at h1
    omega
theorem bad_cu (h : Shp s) (x : Int) : shapedB { s with cu := s.cu ++ [x] } = false := by
  cases hb : shapedB { s with cu := s.cu ++ [x] } with
  | false => rfl
  | true =>
    exfalso
    have h1 := (shp_iff.1 hb).cu
    have h2 := h.cu
    dsimp only at h1
    rw [List.length_append, List.length_singleton] at h1
    omega
theorem bad_ss (h : Shp s) (l : List (Value × List Sp)) (hl : l.length = s.ss.length + 1) : shapedB { s with ss := l } = false := by
  cases hb : shapedB { s with ss := l } with
  | false => rfl
  | true =>
    exfalso
    have h1 := (shp_iff.1 hb).ss
    have h2 := h.ss
    dsimp only at h1
    omega
theorem bad_row (h : Shp s) (l : List (Value × List Sp)) {y : Value × List Sp} (hy : y ∈ l) (hl : (y.2.length : Int) ≠ s.n) : shapedB { s with ss := l } = false := by
  cases hb : shapedB { s with ss := l } with
  | false => rfl
  | true =>
    exfalso
    have h1 := (shp_iff.1 hb).row y hy
    dsimp only at h1
    exact hl h1
theorem bad_ts (l : List Tk) {t : Tk} (ht : t ∈ l) (hb : ¬ (t.id ≤ 65535 ∧ t.g < (s.gs.length : Nat) ∧ 1 ≤ t.wt ∧ 0 ≤ t.cpu)) : shapedB { s with ts := l } = false := by
  cases hb' : shapedB { s with ts := l } with
  | false => rfl
  | true =>
    exfalso
    have h1 := tks_each (shp_iff.1 hb').tks t ht
    dsimp only at h1
    exact hb ⟨h1.2.1, h1.2.2.2.1, h1.2.2.2.2.1, h1.2.2.2.2.2.2.1⟩
theorem chk_bad (h : shapedB s = false) (g cpu : Int) : chkE s g cpu = 210 := by unfold chkE; rw [if_pos h]
theorem chk_two (h : Shp s) (hg : s.gs.length ≤ 11) (hn : s.n ≤ 8) {z : Int} (hz : z < 0 ∨ 11 ≤ z) : chkE s 0 z = 2 ∧ chkE s z 0 = 2 := by
  have hs := shp_iff.2 h
  have h1 : inB z 0 (s.n - 1) = false := by
    cases hb : inB z 0 (s.n - 1) with
    | false => rfl
    | true => have := inB_iff.1 hb; omega
  have h2 : inB z 0 ((s.gs.length : Int) - 1) = false := by
    cases hb : inB z 0 ((s.gs.length : Int) - 1) with
    | false => rfl
    | true => have := inB_iff.1 hb; omega
  unfold chkE
  rw [hs, h1, h2, Bool.and_false, Bool.false_and]
  exact ⟨rfl, rfl⟩
variable {c : StC} {z : Int}
theorem e_ready (hb : StB s) (cpu : Int) (hz : chkE s 0 cpu = z) (W : World) (h : StAt W c s) : Calls Try.prog 25 #[c.val s, .int .i64 cpu] W fun e w' => (∃ v, e = .returned (.tuple #[v, .int .i64 z])) ∧ Below W.heap.size W w' := by
  refine (ready_pub W c s cpu h hb).mono ?_
  rw [hz]
  rintro e w' ⟨v, rfl, _, b⟩
  exact ⟨⟨v, rfl⟩, b⟩
theorem e_filled (hb : StB s) (g cpu : Int) (hz : chkE s g cpu = z) (W : World) (h : StAt W c s) : Calls Try.prog 20 #[c.val s, .int .i64 g, .int .i64 cpu] W fun e w' => (∃ v, e = .returned (.tuple #[v, .int .i64 z])) ∧ Below W.heap.size W w' := by
  refine (filled_pub W c s g cpu h hb).mono ?_
  rw [hz]
  rintro e w' ⟨rfl, b⟩
  exact ⟨⟨_, rfl⟩, b⟩
theorem e_members (hb : StB s) (g cpu : Int) (hz : chkE s g cpu = z) (W : World) (h : StAt W c s) : Calls Try.prog 16 #[c.val s, .int .i64 g, .int .i64 cpu] W fun e w' => (∃ v, e = .returned (.tuple #[v, .int .i64 z])) ∧ Below W.heap.size W w' := by
  refine (members_pub W c s g cpu h hb).mono ?_
  rw [hz]
  rintro e w' ⟨v, rfl, _, b⟩
  exact ⟨⟨v, rfl⟩, b⟩
theorem e_walk (hb : StB s) (cpu : Int) (hz : chkE s 0 cpu = z) (W : World) (h : StAt W c s) : Calls Try.prog 24 #[c.val s, .int .i64 cpu] W fun e w' => (∃ v, e = .returned (.tuple #[v, .int .i64 z])) ∧ Below W.heap.size W w' := by
  refine (walk_pub W c s cpu h hb).mono ?_
  rw [hz]
  rintro e w' ⟨v, rfl, _, b⟩
  exact ⟨⟨v, rfl⟩, b⟩
theorem e_load (hb : StB s) (cpu : Int) (hz : chkE s 0 cpu = z) (W : World) (h : StAt W c s) : Calls Try.prog 29 #[c.val s, .int .i64 cpu] W fun e w' => (∃ v, e = .returned (.tuple #[v, .int .i64 z])) ∧ Below W.heap.size W w' := by
  refine (load_pub W c s cpu h hb).mono ?_
  rw [hz]
  rintro e w' ⟨rfl, b⟩
  exact ⟨⟨_, rfl⟩, b⟩
theorem e_floors (hb : StB s) (hz : shapedB s = false) (W : World) (h : StAt W c s) : Calls Try.prog 17 #[c.val s] W fun e w' => (∃ v, e = .returned (.tuple #[v, .int .i64 210])) ∧ Below W.heap.size W w' := by
  refine (floors_pub W c s h hb).mono ?_
  rw [show shE s = 210 by unfold shE; rw [hz]; rfl]
  rintro e w' ⟨v, rows, rfl, _, _, b⟩
  exact ⟨⟨v, rfl⟩, b⟩
theorem e_find (hb : StB s) (hz : shapedB s = false) (id : Int) (W : World) (h : StAt W c s) : Calls Try.prog 30 #[c.val s, .int .i64 id] W fun e w' => (∃ v, e = .returned (.tuple #[v, .int .i64 210])) ∧ Below W.heap.size W w' := by
  refine (find_pub W c s id h hb).mono ?_
  rintro e w' ⟨b, ⟨_, rfl⟩ | ⟨h1, _⟩⟩
  · exact ⟨⟨_, rfl⟩, b⟩
  · rw [hz] at h1; cases h1
theorem e_find0 (hs : Shp s) {id : Int} (hid : id ≤ 0) (W : World) (h : StAt W c s) : Calls Try.prog 30 #[c.val s, .int .i64 id] W fun e w' => (∃ v, e = .returned (.tuple #[v, .int .i64 6])) ∧ Below W.heap.size W w' := by
  refine (find_pub W c s id h hs.stb).mono ?_
  rintro e w' ⟨b, ⟨h1, _⟩ | ⟨_, i, _, _, _, ⟨h2, _⟩ | ⟨_, rfl⟩⟩⟩
  · rw [shp_iff.2 hs] at h1; cases h1
  · exfalso
    cases ht : s.ts[i]? with
    | none => rw [ht] at h2; cases h2
    | some t =>
      rw [ht] at h2
      have h3 : (t.id == id) = true := h2
      have h4 := tks_each hs.tks t (List.mem_of_getElem? ht)
      have := eq_of_beq h3
      omega
  · exact ⟨⟨_, rfl⟩, b⟩
end
end Go.Proofs.Ytenngfkgfdogjaa
namespace Go.Proofs.Ytenngfkgfdogjaa
open Go Go.RowKit Go.Shelf
attribute [local go_sem] Oper.semAt_some

set_option maxRecDepth 100000 in
set_option maxHeartbeats 6400000 in
theorem wrong_t37 (w w0 : World) (X Xb : Nat) (c cb : StC) (s sb : St) (x : Int) {u0 u1 u2 u3 u5 u6 u7 u8 u9 u10 u13 u14 u15 u16 u17 u18 u19 u20 u21 u22 u23 u24 u25 u26 u27 u28 u29 u30 u31 u32 u33 u34 u35 u36 u37 u38 u39 u40 u41 u42 u43 u44 u45 u46 u47 u48 u49 u50 u51 u52 u53 u54 u55 u56 u57 u58 u59 u60 u61 u62 u63 u64 u65 u66 u67 u68 u69 u70 u71 u72 u73 u74 u75 u76 u77 u78 u79 u80 u81 u82 u83 u84 u85 u86 u87 u88 u89 u90 u91 u92 u93 u94 u95 u96 u97 u98 u99 u100 u101 u102 u103 u104 u105 u106 u107 u108 u109 u110 u111 u112 u113 u114 u115 u116 u117 u118 u119 u120 u121 u122 u123 u124 u125 u126 u127 u128 u129 u130 u131 u132 u133 u134 u135 u136 u137 u138 u139 u140 u141 u142 u143 u144 u145 u146 u147 u148 u149 u150 u151 u152 u153 u154 u155 u156 u157 u158 u159 u160 u161 u162 u163 u164 u165 u166 u167 u168 u169 u170 u171 u172 u173 u174 u175 u176 u177 u178 u179 u180 u181 u182 u183 u184 u185 u186 u187 u188 u189 u190 u191 u192 u193 u194 u195 u196 u197 u198 u199 u200 u201 u202 u203 u204 u205 u206 u207 u208 u209 u210 u211 u212 u213 u214 u215 u216 u217 u218 u219 u220 u221 u222 u223 u224 u225 u226 u227 u228 u229 u230 u231 u232 u233 u234 u235 u236 u237 u238 u239 u240 u241 u242 u243 u244 u245 u246 u247 u248 u249 u250 u251 u252 u253 u254 u255 u256 u257 u258 u259 u260 u261 : Value} (hat : StAt w0 c s) (bx : StBox w0 X c s) (hatb : StAt w0 cb sb) (bxb : StBox w0 Xb cb sb) (hb : Below w.heap.size w w0) (hs : Shp s) (hsb : StB sb) (hbad : shapedB sb = false) (hg : s.gs.length ≤ 11) (hn : s.n ≤ 8) (hx1 : -9223372036854775808 ≤ x) (hx2 : x ≤ 9223372036854775807) :
    Code.wp Try.prog (tailR Try.f8 37) (bodyPost Try.prog Try.f8 fun e w' => e = .returned (.bool true) ∧ Below w.heap.size w w')
      ⟨#[u0, u1, u2, u3, .int .i64 x, u5, u6, u7, u8, u9, u10, .pointer (some ⟨X, 0, none⟩), .pointer (some ⟨Xb, 0, none⟩), u13, u14, u15, u16, u17, u18, u19, u20, u21, u22, u23, u24, u25, u26, u27, u28, u29, u30, u31, u32, u33, u34, u35, u36, u37, u38, u39, u40, u41, u42, u43, u44, u45, u46, u47, u48, u49, u50, u51, u52, u53, u54, u55, u56, u57, u58, u59, u60, u61, u62, u63, u64, u65, u66, u67, u68, u69, u70, u71, u72, u73, u74, u75, u76, u77, u78, u79, u80, u81, u82, u83, u84, u85, u86, u87, u88, u89, u90, u91, u92, u93, u94, u95, u96, u97, u98, u99, u100, u101, u102, u103, u104, u105, u106, u107, u108, u109, u110, u111, u112, u113, u114, u115, u116, u117, u118, u119, u120, u121, u122, u123, u124, u125, u126, u127, u128, u129, u130, u131, u132, u133, u134, u135, u136, u137, u138, u139, u140, u141, u142, u143, u144, u145, u146, u147, u148, u149, u150, u151, u152, u153, u154, u155, u156, u157, u158, u159, u160, u161, u162, u163, u164, u165, u166, u167, u168, u169, u170, u171, u172, u173, u174, u175, u176, u177, u178, u179, u180, u181, u182, u183, u184, u185, u186, u187, u188, u189, u190, u191, u192, u193, u194, u195, u196, u197, u198, u199, u200, u201, u202, u203, u204, u205, u206, u207, u208, u209, u210, u211, u212, u213, u214, u215, u216, u217, u218, u219, u220, u221, u222, u223, u224, u225, u226, u227, u228, u229, u230, u231, u232, u233, u234, u235, u236, u237, u238, u239, u240, u241, u242, u243, u244, u245, u246, u247, u248, u249, u250, u251, u252, u253, u254, u255, u256, u257, u258, u259, u260, u261], []⟩ w0 := by
  conv => arg 2; whnf
  conv => arg 4; dsimp only
  have F : Facts w0 [sSA c s, sSB X c s, sSA cb sb, sSB Xb cb sb, sB w] := ⟨hat, bx, hatb, bxb, hb, trivial⟩
  have HS := Lib.hid hs
  have HSB := Lib.hid hsb
  have HBAD := Lib.hid hbad
  have HG := Lib.hid hg
  have HN := Lib.hid hn
  clear hat bx hatb bxb hb hs hsb hbad hg hn
  go_upto_region 38 with fail
  obtain ⟨l, hl⟩ : ∃ l, l = [min x (-1), max x 11] := ⟨_, rfl⟩
  have HLZ := Lib.hid (show ∀ z ∈ l, (z < 0 ∨ 11 ≤ z) by rw [hl]; intro z hz; simp at hz; omega)
  have A1 := bel_alloc w0 (.cells #[.int .i64 (min x (-1)), .int .i64 (max x 11)] 3)
  obtain ⟨Z, hZ⟩ : ∃ Z, w0.heap.size = Z := ⟨_, rfl⟩
  have EV7 : EV encI 1 (w0.alloc (.cells #[.int .i64 (min x (-1)), .int .i64 (max x 11)] 3)) (.slice (some ⟨Z, 0, none⟩) 2 2) l := by
    rw [hl]
    exact hZ ▸ EV.newL (xs := [min x (-1), max x 11]) (n := 2) (c := 2) encI_len rfl rfl (Nat.le_refl _)
  have HL2 := Lib.hid (show l.length = 2 by rw [hl]; rfl)
  rw [hZ]
  replace F := F.below A1
  clear hZ A1 hl
  generalize w0.alloc (.cells #[.int .i64 (min x (-1)), .int .i64 (max x 11)] 3) = w8 at F EV7 ⊢
  have HF := Lib.hid F
  have HE := Lib.hid EV7
  clear F EV7
  go_loopg [191] 2 (fun k i wr => ∃ m : Nat, m + k = 2 ∧ i = .int .i64 m ∧ Below w8.heap.size w8 wr)
  case atStart => exact ⟨0, by omega, rfl, Below.refl _ _⟩
  case round =>
    obtain ⟨m, hm, rfl, hbm⟩ := hrel
    have HMJ := Lib.hid hm
    have HBM := Lib.hid hbm
    have hsm := hbm.size
    clear hm
    by_cases hlm : m < 2
    · have hdm : decide ((m : Int) < 2) = true := by rw [decide_eq_true_eq]; omega
      obtain ⟨z, hz⟩ : ∃ z, l[m]? = some z := ⟨_, List.getElem?_eq_getElem (by rw [HL2.out]; exact hlm)⟩
      have c0 := ((HE.out.below hbm).row3 (by rw [HL2.out]; decide)).i1 hz
      simp only [Nat.zero_add] at c0
      have CK := Lib.hid (chk_two HS.out HG.out HN.out (HLZ.out z (List.mem_of_getElem? hz)))
      obtain ⟨w1, hw1⟩ : ∃ w1, w1 = wr := ⟨_, rfl⟩
      have F : Facts wr (_ :: _) := HF.out.below hbm
      subst hw1
      replace F : Facts w1 [sSA c s, sSB X c s, sSA cb sb, sSB Xb cb sb, sB w, sB w8] := ⟨F.get 0, F.get 1, F.get 2, F.get 3, F.get 4, hbm, trivial⟩
      clear hbm hz
      obtain ⟨b0, b1, b2, b3, b4, b5, b6⟩ := (F.get 1 : StBox w1 X c s).cell
      go_wp2_with fail
      refine (e_ready HS.out.stb z CK.out.1 w1 (F.get 0)).mono ?_
      rintro e w2 ⟨⟨vw2, rfl⟩, bb⟩
      replace F := F.below bb
      clear bb b0 b1 b2 b3 b4 b5 b6
      obtain ⟨b0, b1, b2, b3, b4, b5, b6⟩ := (F.get 1 : StBox w2 X c s).cell
      go_wp2_with fail
      refine (e_filled HS.out.stb z 0 CK.out.2 w2 (F.get 0)).mono ?_
      rintro e w3 ⟨⟨vw3, rfl⟩, bb⟩
      replace F := F.below bb
      clear bb b0 b1 b2 b3 b4 b5 b6
      obtain ⟨b0, b1, b2, b3, b4, b5, b6⟩ := (F.get 1 : StBox w3 X c s).cell
      go_wp2_with fail
      refine (e_members HS.out.stb 0 z CK.out.1 w3 (F.get 0)).mono ?_
      rintro e w4 ⟨⟨vw4, rfl⟩, bb⟩
      replace F := F.below bb
      clear bb b0 b1 b2 b3 b4 b5 b6
      obtain ⟨b0, b1, b2, b3, b4, b5, b6⟩ := (F.get 1 : StBox w4 X c s).cell
      go_wp2_with fail
      refine (e_walk HS.out.stb z CK.out.1 w4 (F.get 0)).mono ?_
      rintro e w5 ⟨⟨vw5, rfl⟩, bb⟩
      replace F := F.below bb
      clear bb b0 b1 b2 b3 b4 b5 b6
      obtain ⟨b0, b1, b2, b3, b4, b5, b6⟩ := (F.get 1 : StBox w5 X c s).cell
      go_wp2_with fail
      refine (e_load HS.out.stb z CK.out.1 w5 (F.get 0)).mono ?_
      rintro e w6 ⟨⟨vw6, rfl⟩, bb⟩
      replace F := F.below bb
      clear bb b0 b1 b2 b3 b4 b5 b6
      have BF := Lib.hid (F.get 5 : Below w8.heap.size w8 w6)
      clear F c0
      go_wp2
      go_roundg (gk - 1)
      case measure => have := HMJ.out; omega
      case rel => exact ⟨m + 1, by have := HMJ.out; omega, by go_num, BF.out⟩
    · have hdm : decide ((m : Int) < 2) = false := by rw [decide_eq_false_iff_not]; omega
      have F : Facts wr (_ :: _) := HF.out.below hbm
      obtain ⟨w1, hw1⟩ : ∃ w1, w1 = wr := ⟨_, rfl⟩
      subst hw1
      clear hbm
      obtain ⟨y, hy⟩ : ∃ y, min x 0 = y := ⟨_, rfl⟩
      have hy0 := Lib.hid (show y ≤ 0 by omega)
      have HY := Lib.hid hy
      clear hy
      obtain ⟨b0, b1, b2, b3, b4, b5, b6⟩ := (F.get 1 : StBox w1 X c s).cell
      have F := Lib.hid F
      go_wp2_with fail
      refine ((HY.out ▸ e_find0 HS.out hy0.out w1 (F.out.get 0)) : Calls _ _ _ _ _).mono ?_
      rintro e w2 ⟨⟨v2, rfl⟩, bb⟩
      replace F := F.out.below bb
      clear bb b0 b1 b2 b3 b4 b5 b6
      have SH := Lib.hid (fun W (h : StAt W c s) => shaped_ok W c s h HS.out.stb.g HS.out.stb.t)
      have SHB := Lib.hid (fun W (h : StAt W cb sb) => shaped_ok W cb sb h HSB.out.g HSB.out.t)
      rw [shp_iff.2 HS.out] at SH
      rw [HBAD.out] at SHB
      obtain ⟨b0, b1, b2, b3, b4, b5, b6⟩ := (F.get 1 : StBox w2 X c s).cell
      go_wp2_with fail
      refine (SH.out w2 (F.get 0)).mono ?_
      rintro e w3 ⟨rfl, bb⟩
      replace F := F.below bb
      clear bb b0 b1 b2 b3 b4 b5 b6
      obtain ⟨b0, b1, b2, b3, b4, b5, b6⟩ := (F.get 3 : StBox w3 Xb cb sb).cell
      go_wp2_with fail
      refine (SHB.out w3 (F.get 2)).mono ?_
      rintro e w4 ⟨rfl, bb⟩
      replace F := F.below bb
      have BF := Lib.hid (F.get 4 : Below w.heap.size w w4)
      clear F bb b0 b1 b2 b3 b4 b5 b6
      go_wp2
      go_ret
      exact ⟨rfl, BF.out⟩
set_option maxRecDepth 100000 in
set_option maxHeartbeats 6400000 in
theorem wrong_t24 (w w0 : World) (X Xb : Nat) (c cb : StC) (s sb : St) (x : Int) {u0 u1 u2 u3 u5 u6 u7 u8 u9 u10 u13 u14 u15 u16 u17 u18 u19 u20 u21 u22 u23 u24 u25 u26 u27 u28 u29 u30 u31 u32 u33 u34 u35 u36 u37 u38 u39 u40 u41 u42 u43 u44 u45 u46 u47 u48 u49 u50 u51 u52 u53 u54 u55 u56 u57 u58 u59 u60 u61 u62 u63 u64 u65 u66 u67 u68 u69 u70 u71 u72 u73 u74 u75 u76 u77 u78 u79 u80 u81 u82 u83 u84 u85 u86 u87 u88 u89 u90 u91 u92 u93 u94 u95 u96 u97 u98 u99 u100 u101 u102 u103 u104 u105 u106 u107 u108 u109 u110 u111 u112 u113 u114 u115 u116 u117 u118 u119 u120 u121 u122 u123 u124 u125 u126 u127 u128 u129 u130 u131 u132 u133 u134 u135 u136 u137 u138 u139 u140 u141 u142 u143 u144 u145 u146 u147 u148 u149 u150 u151 u152 u153 u154 u155 u156 u157 u158 u159 u160 u161 u162 u163 u164 u165 u166 u167 u168 u169 u170 u171 u172 u173 u174 u175 u176 u177 u178 u179 u180 u181 u182 u183 u184 u185 u186 u187 u188 u189 u190 u191 u192 u193 u194 u195 u196 u197 u198 u199 u200 u201 u202 u203 u204 u205 u206 u207 u208 u209 u210 u211 u212 u213 u214 u215 u216 u217 u218 u219 u220 u221 u222 u223 u224 u225 u226 u227 u228 u229 u230 u231 u232 u233 u234 u235 u236 u237 u238 u239 u240 u241 u242 u243 u244 u245 u246 u247 u248 u249 u250 u251 u252 u253 u254 u255 u256 u257 u258 u259 u260 u261 : Value} (hat : StAt w0 c s) (bx : StBox w0 X c s) (hatb : StAt w0 cb sb) (bxb : StBox w0 Xb cb sb) (hb : Below w.heap.size w w0) (hs : Shp s) (hsb : StB sb) (hbad : shapedB sb = false) (hg : s.gs.length ≤ 11) (hn : s.n ≤ 8) (hx1 : -9223372036854775808 ≤ x) (hx2 : x ≤ 9223372036854775807) :
    Code.wp Try.prog (tailR Try.f8 24) (bodyPost Try.prog Try.f8 fun e w' => e = .returned (.bool true) ∧ Below w.heap.size w w')
      ⟨#[u0, u1, u2, u3, .int .i64 x, u5, u6, u7, u8, u9, u10, .pointer (some ⟨X, 0, none⟩), .pointer (some ⟨Xb, 0, none⟩), u13, u14, u15, u16, u17, u18, u19, u20, u21, u22, u23, u24, u25, u26, u27, u28, u29, u30, u31, u32, u33, u34, u35, u36, u37, u38, u39, u40, u41, u42, u43, u44, u45, u46, u47, u48, u49, u50, u51, u52, u53, u54, u55, u56, u57, u58, u59, u60, u61, u62, u63, u64, u65, u66, u67, u68, u69, u70, u71, u72, u73, u74, u75, u76, u77, u78, u79, u80, u81, u82, u83, u84, u85, u86, u87, u88, u89, u90, u91, u92, u93, u94, u95, u96, u97, u98, u99, u100, u101, u102, u103, u104, u105, u106, u107, u108, u109, u110, u111, u112, u113, u114, u115, u116, u117, u118, u119, u120, u121, u122, u123, u124, u125, u126, u127, u128, u129, u130, u131, u132, u133, u134, u135, u136, u137, u138, u139, u140, u141, u142, u143, u144, u145, u146, u147, u148, u149, u150, u151, u152, u153, u154, u155, u156, u157, u158, u159, u160, u161, u162, u163, u164, u165, u166, u167, u168, u169, u170, u171, u172, u173, u174, u175, u176, u177, u178, u179, u180, u181, u182, u183, u184, u185, u186, u187, u188, u189, u190, u191, u192, u193, u194, u195, u196, u197, u198, u199, u200, u201, u202, u203, u204, u205, u206, u207, u208, u209, u210, u211, u212, u213, u214, u215, u216, u217, u218, u219, u220, u221, u222, u223, u224, u225, u226, u227, u228, u229, u230, u231, u232, u233, u234, u235, u236, u237, u238, u239, u240, u241, u242, u243, u244, u245, u246, u247, u248, u249, u250, u251, u252, u253, u254, u255, u256, u257, u258, u259, u260, u261], []⟩ w0 := by
  conv => arg 2; whnf
  conv => arg 4; dsimp only
  have F : Facts w0 [sSA c s, sSB X c s, sSA cb sb, sSB Xb cb sb, sB w] := ⟨hat, bx, hatb, bxb, hb, trivial⟩
  have HS := Lib.hid hs
  have HSB := Lib.hid hsb
  have HBAD := Lib.hid hbad
  have HG := Lib.hid hg
  have HN := Lib.hid hn
  have HX1 := Lib.hid hx1
  have HX2 := Lib.hid hx2
  clear hat bx hatb bxb hb hs hsb hbad hg hn hx1 hx2
  obtain ⟨b0, b1, b2, b3, b4, b5, b6⟩ := (F.get 3 : StBox w0 Xb cb sb).cell
  go_wp2_with fail
  refine (e_ready HSB.out 0 (chk_bad HBAD.out _ _) w0 (F.get 2)).mono ?_
  rintro e w1 ⟨⟨vw1, rfl⟩, bb⟩
  replace F := F.below bb
  clear bb b0 b1 b2 b3 b4 b5 b6
  obtain ⟨b0, b1, b2, b3, b4, b5, b6⟩ := (F.get 3 : StBox w1 Xb cb sb).cell
  go_wp2_with fail
  refine (e_filled HSB.out (-1) 0 (chk_bad HBAD.out _ _) w1 (F.get 2)).mono ?_
  rintro e w2 ⟨⟨vw2, rfl⟩, bb⟩
  replace F := F.below bb
  clear bb b0 b1 b2 b3 b4 b5 b6
  obtain ⟨b0, b1, b2, b3, b4, b5, b6⟩ := (F.get 3 : StBox w2 Xb cb sb).cell
  go_wp2_with fail
  refine (e_members HSB.out 0 0 (chk_bad HBAD.out _ _) w2 (F.get 2)).mono ?_
  rintro e w3 ⟨⟨vw3, rfl⟩, bb⟩
  replace F := F.below bb
  clear bb b0 b1 b2 b3 b4 b5 b6
  obtain ⟨b0, b1, b2, b3, b4, b5, b6⟩ := (F.get 3 : StBox w3 Xb cb sb).cell
  go_wp2_with fail
  refine (e_walk HSB.out 0 (chk_bad HBAD.out _ _) w3 (F.get 2)).mono ?_
  rintro e w4 ⟨⟨vw4, rfl⟩, bb⟩
  replace F := F.below bb
  clear bb b0 b1 b2 b3 b4 b5 b6
  obtain ⟨b0, b1, b2, b3, b4, b5, b6⟩ := (F.get 3 : StBox w4 Xb cb sb).cell
  go_wp2_with fail
  refine (e_load HSB.out (-1) (chk_bad HBAD.out _ _) w4 (F.get 2)).mono ?_
  rintro e w5 ⟨⟨vw5, rfl⟩, bb⟩
  replace F := F.below bb
  clear bb b0 b1 b2 b3 b4 b5 b6
  obtain ⟨b0, b1, b2, b3, b4, b5, b6⟩ := (F.get 3 : StBox w5 Xb cb sb).cell
  go_wp2_with fail
  refine (e_floors HSB.out HBAD.out w5 (F.get 2)).mono ?_
  rintro e w6 ⟨⟨vw6, rfl⟩, bb⟩
  replace F := F.below bb
  clear bb b0 b1 b2 b3 b4 b5 b6
  obtain ⟨b0, b1, b2, b3, b4, b5, b6⟩ := (F.get 3 : StBox w6 Xb cb sb).cell
  go_wp2_with fail
  refine (e_find HSB.out HBAD.out 1 w6 (F.get 2)).mono ?_
  rintro e w7 ⟨⟨vw7, rfl⟩, bb⟩
  replace F := F.below bb
  clear bb b0 b1 b2 b3 b4 b5 b6
  go_upto_block 1 with fail
  have A1 := bel_alloc w7 (.cells #[.int .i64 210, .int .i64 210, .int .i64 210, .int .i64 210, .int .i64 210, .int .i64 210, .int .i64 210] 41)
  obtain ⟨Z, hZ⟩ : ∃ Z, w7.heap.size = Z := ⟨_, rfl⟩
  have EV7 : EV encI 1 (w7.alloc (.cells #[.int .i64 210, .int .i64 210, .int .i64 210, .int .i64 210, .int .i64 210, .int .i64 210, .int .i64 210] 41)) (.slice (some ⟨Z, 0, none⟩) 7 7) (List.replicate 7 210) := hZ ▸ EV.newL (xs := List.replicate 7 (210 : Int)) (n := 7) (c := 7) encI_len rfl rfl (Nat.le_refl _)
  rw [hZ]
  replace F := F.below A1
  clear hZ A1
  generalize w7.alloc (.cells #[.int .i64 210, .int .i64 210, .int .i64 210, .int .i64 210, .int .i64 210, .int .i64 210, .int .i64 210] 41) = w8 at F EV7 ⊢
  have HF := Lib.hid F
  have HE := Lib.hid EV7
  clear F EV7
  go_cut [] (fun wx => Below w8.heap.size w8 wx)
  case first =>
    go_wp2_with fail
    go_loopg [178] 7 (fun k i wr => ∃ m : Nat, m + k = 7 ∧ i = .int .i64 m ∧ Below w8.heap.size w8 wr)
    case atStart => exact ⟨0, by omega, rfl, Below.refl _ _⟩
    case round =>
      obtain ⟨m, hm, rfl, hbm⟩ := hrel
      have HMJ := Lib.hid hm
      have HBM := Lib.hid hbm
      clear hm
      by_cases hlm : m < 7
      · have hdm : decide ((m : Int) < 7) = true := by rw [decide_eq_true_eq]; omega
        have c0 := ((HE.out.below hbm).row3 (by decide)).i1 (i := m) (x := 210) (by rw [List.getElem?_replicate, if_pos hlm])
        simp only [Nat.zero_add] at c0
        clear hbm
        go_wp2
        go_roundg (gk - 1)
        case measure => have := HMJ.out; omega
        case rel => exact ⟨m + 1, by have := HMJ.out; omega, by go_num, HBM.out⟩
      · have hdm : decide ((m : Int) < 7) = false := by rw [decide_eq_false_iff_not]; omega
        clear hbm
        go_wp2
        go_meet
        exact HBM.out
  case rest =>
    have F := HF.out.below hcut
    refine (‹∀ (a : Act) (w : World), Code.wp _ _ _ a w → _› : ∀ (a : Act) (w : World), _ → _) _ _ (wrong_t37 w _ X Xb c cb s sb x (F.get 0) (F.get 1) (F.get 2) (F.get 3) (F.get 4) HS.out HSB.out HBAD.out HG.out HN.out HX1.out HX2.out)
end Go.Proofs.Ytenngfkgfdogjaa

/- QuotaWrong: what is wrong; plain | QuotaWrong: the tail of the walk. -/
import Derived.Test.YtaplangfppohdaaDoorZ26
set_option linter.unusedVariables false
set_option linter.unusedSimpArgs false
set_option linter.unusedSectionVars false
namespace Go.Proofs.YtaplangfppohdaaDoor
open Go Go.RowKit

section
variable {G : Nat} {l : List Sq}
/-- The end of a trace. -/
structure EndOf (G : Nat) (E : List Ev) (s : Lk) (e : Ev) : Prop where
  run : runO (stepL G) (lk0 (homeT G)) E = some s
  last : s.last = e.seq
  clk : s.clk e.cpu = e.time
  no : s.T 65535 = none
  ok : EvOk e
  seq : 1 ≤ e.seq ∧ e.seq ≤ 2001
  time : 0 ≤ e.time ∧ e.time ≤ 200200
  cpu : 0 ≤ e.cpu ∧ e.cpu ≤ 2
theorem madE_end (hG : 0 < G) (hG2 : G ≤ 256) (hl : l.length ≤ 1000) (h0 : 0 < l.length) : ∃ s e, (madE G l)[l.length - 1]? = some e ∧ EndOf G (madE G l) s e := by
  obtain ⟨j, hj⟩ : ∃ j, l.length = j + 1 := ⟨l.length - 1, by omega⟩
  obtain ⟨s, hs⟩ := mdJ_all (l := l) hG hG2 hl j (by omega)
  obtain ⟨x, hx⟩ : ∃ x, l[j]? = some x := ⟨_, List.getElem?_eq_getElem (by omega)⟩
  have hej := mdJ_evlen (G := G) (l := l) j (by omega)
  obtain ⟨s', h1, h2, h3, h4⟩ := hs.step x hG hG2 (by omega)
  have hm : madE G l = (mdJ G l j).ev ++ [mkEv G (mdJ G l j) x] := by unfold madE; rw [hj, mdJ_succ hx]; rfl
  have hm2 : (mdStep G (mdJ G l j) x).ev = madE G l := by rw [hm]; rfl
  generalize mkEv_eq : mkEv G (mdJ G l j) x = e at *
  have hsq := mkEv_seq (G := G) (m := mdJ G l j) (x := x)
  have hcp := mkEv_cpu (G := G) (m := mdJ G l j) (x := x)
  have hok := mkEv_ok (G := G) (m := mdJ G l j) (x := x) hs.i hG hG2 (by omega)
  rw [mkEv_eq, hej] at hsq
  rw [mkEv_eq] at hcp hok
  have hc2 := sqC_in x
  have hck := h1.i.ck (sqC x)
  rw [hm2, madE_len] at hck
  have hct : (mdStep G (mdJ G l j) x).ck (sqC x) = e.time := by
    show (if sqC x = sqC x then (mkEv G (mdJ G l j) x).time else _) = _
    rw [if_pos rfl, mkEv_eq]
  rw [hct] at hck
  refine ⟨s', e, by rw [hm, hj, Nat.add_sub_cancel, List.getElem?_append_right (by omega), hej, Nat.sub_self]; rfl, by rw [← hm2]; exact h1.run, ?_, ?_, ?_, hok, by omega, by omega, by omega⟩
  · unfold stepL at h2
    split at h2
    · cases h2
    · obtain ⟨T, _, h5⟩ := Option.map_eq_some_iff.1 h2
      rw [← h5]
  · rw [h1.k.clk, hcp, hct]
  · cases hT : s'.T 65535 with
    | none => rfl
    | some g =>
      exfalso
      have h6 := (h1.k.T 65535).1 (by rw [hT]; rfl)
      have h7 := h1.i.rng _ h6
      have h8 := h1.i.nx
      rw [hm2, madE_len] at h8
      omega
theorem look_end {E : List Ev} {s : Lk} {e e' : Ev} (hG : G ≤ 256) (h : EndOf G E s e) (hs : stepL G s e' = none) : lookL G (homesG G) (E ++ [e']) = none := by
  unfold lookL
  rw [homes_run hG G (Nat.le_refl _), Option.bind_some, runO_append, h.run, Option.bind_some, runO_cons, hs]
  rfl
theorem bad_seq {s : Lk} {e : Ev} {E : List Ev} (h : EndOf G E s e) : stepL G s e = none := by
  unfold stepL; rw [if_pos (.inr (.inl (by rw [h.last]; omega)))]
theorem bad_time {s : Lk} {e : Ev} {E : List Ev} (h : EndOf G E s e) : stepL G s ⟨e.seq + 1, e.time + 5, e.cpu, 5, 0, 0, 0, 0, 6, 0, 0⟩ = none := by
  unfold stepL; rw [if_pos (.inr (.inr (by dsimp only; rw [h.clk]; omega)))]
theorem bad_exit {s : Lk} {e : Ev} {E : List Ev} (h : EndOf G E s e) : stepL G s ⟨e.seq + 1, e.time, e.cpu, 4, 0, 0, 0, 0, 0, 0, 65535⟩ = none := by
  unfold stepL
  split
  · rfl
  · unfold doesL
    simp [h.no]
theorem bad_spawn {s : Lk} {e : Ev} {E : List Ev} (h : EndOf G E s e) : stepL G s ⟨e.seq + 1, e.time, e.cpu, 1, 60001, (G : Int), 0, 1, 0, 7, 0⟩ = none := by
  unfold stepL
  split
  · rfl
  · unfold doesL
    simp
theorem homes_snoc (hG : G ≤ 256) (h : Int × Int) (hs : homeS G (homeT G) h = none) (E : List Ev) : lookL G (homesG G ++ [h]) E = none := by
  unfold lookL homesR
  have := homes_run hG G (Nat.le_refl _)
  unfold homesR at this
  rw [runO_append, this, Option.bind_some, runO_cons, hs]
  rfl
theorem home_again (h0 : 0 < G) : homeS G (homeT G) (1, 0) = none := by
  unfold homeS
  rw [if_pos (.inl (by unfold homeT; rw [if_pos (by dsimp only; omega)]; rfl))]
theorem home_bad {x : Int} (hx : x ≤ -1) : homeS G (homeT G) (60000, x) = none := by
  unfold homeS
  rw [if_pos (.inr (.inr (by dsimp only; omega)))]
theorem homesG_zero (h0 : 0 < G) : (homesG G)[0]? = some (1, 0) := by
  unfold homesG; simp [h0]
end
def ru0 : Ru := ⟨0, 10, 5⟩
theorem ru0_ok {n : Nat} (h : 0 < n) : RuOk n ru0 := by unfold RuOk ru0; dsimp only; omega
theorem chk_one {gs : List (Int × Int)} (hg : GOK gs) : chkR gs [ru0] = (-1, 0) := chk_right hg (fun r hr => by simp only [List.mem_singleton] at hr; rw [hr]; exact ru0_ok hg.pos)
theorem chk_two {gs : List (Int × Int)} (hg : GOK gs) {r : Ru} (hr : ¬ RuOk gs.length r) : chkR gs [ru0, r] = (1, 280) := by
  have hb : badR gs.length [ru0, r] = 1 := by
    unfold badR
    simp [List.findIdx_cons, ru0_ok hg.pos, hr]
  unfold chkR
  rw [if_neg (by rw [right_iff.2 hg]; simp), hb, if_pos (by simp)]
  rfl
theorem acc_bad {gs : List (Int × Int)} {rs : List Ru} {hs : List (Int × Int)} {l : List Ev} (h : (chkR gs rs).2 ≠ 0) : accE gs rs hs l = (chkR gs rs).2 ∧ accL gs rs hs l = [] := by
  have he : accE gs rs hs l = (chkR gs rs).2 := by unfold accE; rw [if_pos h]
  exact ⟨he, by unfold accL; rw [he, if_neg h]⟩
theorem acc_none {gs : List (Int × Int)} {rs : List Ru} {hs : List (Int × Int)} {l : List Ev} (h : (chkR gs rs).2 = 0) (hl : lookL gs.length hs l = none) : accE gs rs hs l = 281 ∧ accL gs rs hs l = [] := by
  have he : accE gs rs hs l = 281 := by unfold accE; rw [if_neg (by simp [h]), hl]
  exact ⟨he, by unfold accL; rw [he, if_neg (by decide)]⟩
/-- What Account and Check answer. -/
structure Rej (gs : List (Int × Int)) (rs : List Ru) (hs : List (Int × Int)) (l : List Ev) (want i f : Int) : Prop where
  acc : accE gs rs hs l = want ∧ accL gs rs hs l = []
  chk : chkR gs rs = (i, f)
  or : (want = 280 ∧ i = 1 ∧ f = 280) ∨ (want = 281 ∧ i = -1 ∧ f = 0)
theorem rej_rule {gs : List (Int × Int)} (hg : GOK gs) {r : Ru} (hr : ¬ RuOk gs.length r) (hs : List (Int × Int)) (l : List Ev) : Rej gs [ru0, r] hs l 280 1 280 := by
  have h := chk_two hg hr
  have ha := acc_bad (gs := gs) (rs := [ru0, r]) (hs := hs) (l := l) (by rw [h]; simp)
  exact ⟨by rw [ha.1, ha.2, h]; exact ⟨rfl, rfl⟩, h, .inl ⟨rfl, rfl, rfl⟩⟩
theorem rej_look {gs : List (Int × Int)} (hg : GOK gs) {hs : List (Int × Int)} {l : List Ev} (hl : lookL gs.length hs l = none) : Rej gs [ru0] hs l 281 (-1) 0 := by
  have h := chk_one hg
  exact ⟨acc_none (by rw [h]) hl, h, .inr ⟨rfl, rfl, rfl⟩⟩
theorem spE_bad {t n p : Int} (h : ¬ TickOk t n p) : spE t n p = 2 := if_pos h
theorem dbtE_bad1 {x : Int} (hx : x ≤ 3) : dbtE [(3, 0), (x, 0)] 1 = 2 := by
  unfold dbtE
  rw [if_pos (.inl (fun hp => by have := (hp 1 (by simp)).1.1; simp [lastP, partAt] at this; omega))]
theorem dbtE_bad2 {x : Int} (hx : x ≤ -1) : dbtE [] x = 2 := by
  unfold dbtE
  rw [if_pos (.inr (fun hp => by unfold LimOk at hp; omega))]
theorem untE_bad {x l : Int} (hx : x ≤ -1) : untE x l = 2 := if_pos (.inl (by omega))
end Go.Proofs.YtaplangfppohdaaDoor
namespace Go.Proofs.YtaplangfppohdaaDoor
open Go.RowKit Go.Shelf
attribute [local go_sem] Oper.semAt_some

theorem sp_bad (w : World) (t n p : Int) (h : ¬ TickOk t n p) : Calls Tryd.prog 18 #[.int .i64 t, .int .i64 n, .int .i64 p] w fun e w' => (∃ r, e = .returned (.tuple #[r, .int .i64 2])) ∧ Below w.heap.size w w' := by
  have := spread_ok w t n p
  rw [spE_bad h] at this
  exact this.mono fun e w' ⟨r, h1, _, h3⟩ => ⟨⟨r, h1⟩, h3⟩
theorem db_bad (w : World) (v : Value) (l : List (Int × Int)) (x : Int) (hv : EV encG 2 w v l) (hl : l.length ≤ 1000000000) (h : dbtE l x = 2) : Calls Tryd.prog 12 #[v, .int .i64 x] w fun e w' => (∃ r, e = .returned (.tuple #[r, .int .i64 2])) ∧ Below w.heap.size w w' := by
  have := debts_ok w v l x hv hl
  rw [h] at this
  exact this.mono fun e w' ⟨r, h1, _, h3⟩ => ⟨⟨r, h1⟩, h3⟩
theorem un_bad (w : World) (x l : Int) (h : x ≤ -1) : Calls Tryd.prog 19 #[.int .i64 x, .int .i64 l] w fun e w' => (∃ z, e = .returned (.tuple #[.int .i64 z, .int .i64 2])) ∧ Below w.heap.size w w' := by
  have := until_ok w x l (by omega)
  rw [untE_bad h] at this
  exact this.mono fun e w' ⟨h1, h3⟩ => ⟨⟨_, h1⟩, by rw [h3]; exact Below.refl _ _⟩
set_option maxRecDepth 100000 in
set_option maxHeartbeats 3200000 in
theorem wr_tail (wc : World) (x : Int) (vg vr vh ve : Value) (gs : List (Int × Int)) (rs : List Ru) (hs : List (Int × Int)) (l : List Ev) (want i f : Int) (Post : Ending → World → Prop) {u0 u1 u2 u4 u5 u6 u7 u8 u13 u15 u16 u17 u18 u19 u20 u21 u22 u23 u24 u25 u26 u27 u28 u29 u30 u31 u32 u33 u34 u35 u36 u37 u38 u39 u40 u41 u42 u43 u44 u45 u46 u47 u48 u49 u50 u51 u52 u53 u54 u55 u56 u57 u58 u59 u60 u61 u62 u63 u64 u65 u66 u67 u68 u69 u70 u71 u72 u73 u74 u75 u76 u77 u78 u79 u80 u81 u82 u83 u84 u85 u86 u87 u88 u89 u90 u91 u92 u93 u94 u95 u96 u97 u98 u99 u100 u101 u102 u103 u104 u105 u106 u107 u108 u109 u110 u111 u112 u113 u114 u115 u116 u117 u118 u119 u120 u121 u122 u123 u124 u125 u126 u127 u128 u129 u130 u131 u132 u133 u134 u135 u136 u137 u138 u139 u140 u141 u142 u143 u144 u145 u146 u147 u148 u149 u150 u151 u152 u153 u154 u155 u156 u157 u158 u159 u160 u161 u162 u163 u164 u165 u166 u167 u168 u169 u170 u171 u172 u173 u174 u175 u176 u177 u178 u179 u180 u181 u182 u183 u184 u185 u186 u187 u188 u189 u190 u191 u192 u193 u194 u195 u196 u197 u198 u199 u200 u201 u202 u203 u204 u205 u206 u207 u208 u209 u210 u211 u212 u213 u214 u215 u216 u217 u218 u219 u220 u221 u222 u223 u224 u225 u226 u227 u228 u229 u230 u231 u232 u233 u234 u235 u236 u237 u238 u239 u240 u241 u242 u243 u244 u245 u246 u247 u248 u249 u250 u251 u252 u253 u254 u255 u256 u257 u258 u259 u260 u261 u262 u263 u264 u265 : Value}
    (HV : Hid (EV encG 2 wc vg gs ∧ EV encRu 3 wc vr rs ∧ EV encG 2 wc vh hs ∧ EV encE 11 wc ve l)) (HU : Hid (UsesAt wc)) (HL : Hid (gs.length ≤ 100000 ∧ rs.length ≤ 100 ∧ hs.length ≤ 1000000 ∧ l.length ≤ 1000000))
    (HO : Hid ((∀ e ∈ l, EvOk e) ∧ ∀ h ∈ hs, (-9223372036854775808 ≤ h.1 ∧ h.1 ≤ 9223372036854775807) ∧ (-9223372036854775808 ≤ h.2 ∧ h.2 ≤ 9223372036854775807))) (HR : Hid (Rej gs rs hs l want i f))
    (hx : -9223372036854775808 ≤ x ∧ x ≤ 9223372036854775807) (FIN : Hid (∀ w', Below wc.heap.size wc w' → Post (.returned (.bool true)) w')) :
    Code.wp Tryd.prog (tailR Tryd.f6 25) (bodyPost Tryd.prog Tryd.f6 Post)
      ⟨#[u0, u1, u2, .int .i64 x, u4, u5, u6, u7, u8, vg, vh, ve, vr, u13, .int .i64 want, u15, u16, u17, u18, u19, u20, u21, u22, u23, u24, u25, u26, u27, u28, u29, u30, u31, u32, u33, u34, u35, u36, u37, u38, u39, u40, u41, u42, u43, u44, u45, u46, u47, u48, u49, u50, u51, u52, u53, u54, u55, u56, u57, u58, u59, u60, u61, u62, u63, u64, u65, u66, u67, u68, u69, u70, u71, u72, u73, u74, u75, u76, u77, u78, u79, u80, u81, u82, u83, u84, u85, u86, u87, u88, u89, u90, u91, u92, u93, u94, u95, u96, u97, u98, u99, u100, u101, u102, u103, u104, u105, u106, u107, u108, u109, u110, u111, u112, u113, u114, u115, u116, u117, u118, u119, u120, u121, u122, u123, u124, u125, u126, u127, u128, u129, u130, u131, u132, u133, u134, u135, u136, u137, u138, u139, u140, u141, u142, u143, u144, u145, u146, u147, u148, u149, u150, u151, u152, u153, u154, u155, u156, u157, u158, u159, u160, u161, u162, u163, u164, u165, u166, u167, u168, u169, u170, u171, u172, u173, u174, u175, u176, u177, u178, u179, u180, u181, u182, u183, u184, u185, u186, u187, u188, u189, u190, u191, u192, u193, u194, u195, u196, u197, u198, u199, u200, u201, u202, u203, u204, u205, u206, u207, u208, u209, u210, u211, u212, u213, u214, u215, u216, u217, u218, u219, u220, u221, u222, u223, u224, u225, u226, u227, u228, u229, u230, u231, u232, u233, u234, u235, u236, u237, u238, u239, u240, u241, u242, u243, u244, u245, u246, u247, u248, u249, u250, u251, u252, u253, u254, u255, u256, u257, u258, u259, u260, u261, u262, u263, u264, u265], []⟩ wc := by
  conv => arg 2; whnf
  conv => arg 4; dsimp only
  have HAC := Lib.hid (account_ok wc vg vr vh ve gs rs hs l HV.out.1 HV.out.2.1 HV.out.2.2.1 HV.out.2.2.2 HU.out HL.out.1 HL.out.2.1 HL.out.2.2.1 HL.out.2.2.2 HO.out.1 HO.out.2)
  rw [HR.out.acc.1, HR.out.acc.2] at HAC
  go_wp2_with fail
  refine HAC.out.mono ?_
  rintro e w1 ⟨v, rfl, o, b⟩
  obtain ⟨Av, cv, rfl⟩ := (o.ev encUs_len).shape
  have HBw1 := Lib.hid b
  have HCK := Lib.hid (qcheck_ok w1 vg vr gs rs (HV.out.1.below b) (HV.out.2.1.below b) HL.out.1 (by have := HL.out.2.1; omega))
  rw [HR.out.chk] at HCK
  clear o b HAC
  have HOR := Lib.hid HR.out.or
  go_wp2_with fail
  refine HCK.out.mono ?_
  rintro e w2 ⟨rfl, bb⟩
  have HBw2 := Lib.hid (HBw1.out.trans (bb.mono HBw1.out.size))
  clear bb HCK HV HU HL HO HR HBw1
  go_upto_region 27 with fail
  go_cut [186] (fun b wx => b = .bool false ∧ wx = w2)
  case first =>
    rcases HOR.out with ⟨rfl, rfl, rfl⟩ | ⟨rfl, rfl, rfl⟩
    · go_wp2
      go_meet
      exact ⟨rfl, rfl⟩
    · go_wp2
      go_meet
      exact ⟨rfl, rfl⟩
  case rest =>
  obtain ⟨rfl, rfl⟩ := hcut
  clear HOR
  refine (‹∀ (a : Act) (w : World), Code.wp _ _ _ a w → _› : ∀ (a : Act) (w : World), _ → _) _ _ ?_
  go_wp2_with fail
  refine (sp_bad wc (min x 4) 5 1 (by unfold TickOk; omega)).mono ?_
  rintro e w3 ⟨⟨rw3, rfl⟩, bb⟩
  have HBw3 := Lib.hid (HBw2.out.trans (bb.mono HBw2.out.size))
  clear bb
  go_wp2_with fail
  refine (sp_bad w3 (max x 281474976710657) 1 1 (by unfold TickOk; omega)).mono ?_
  rintro e w4 ⟨⟨rw4, rfl⟩, bb⟩
  have HBw4 := Lib.hid (HBw3.out.trans (bb.mono HBw3.out.size))
  clear bb
  go_wp2_with fail
  refine (sp_bad w4 5 (min x 0) 1 (by unfold TickOk; omega)).mono ?_
  rintro e w5 ⟨⟨rw5, rfl⟩, bb⟩
  have HBw5 := Lib.hid (HBw4.out.trans (bb.mono HBw4.out.size))
  clear bb
  go_wp2_with fail
  refine (sp_bad w5 5 1 (max x 4294967297) (by unfold TickOk; omega)).mono ?_
  rintro e w6 ⟨⟨rw6, rfl⟩, bb⟩
  have HBw6 := Lib.hid (HBw5.out.trans (bb.mono HBw5.out.size))
  clear bb
  go_wp2_with fail
  refine (db_bad (w6.alloc (.cells #[.int .i64 3, .int .i64 0, .int .i64 (min x 3), .int .i64 0] 27)) _ [(3, 0), (min x 3, 0)] 1 (EV.newM (e := 27) (n := 2) encG_len rfl rfl rfl) (by simp) (dbtE_bad1 (by omega))).mono ?_
  rintro e w7 ⟨⟨rw7, rfl⟩, bb⟩
  have HBw7 := Lib.hid (HBw6.out.trans (((bel_alloc w6 _).trans (bb.mono (by simp))).mono HBw6.out.size))
  clear bb
  go_wp2_with fail
  refine (db_bad w7 (.slice none 0 0) [] (min x (-1)) (EV.nil _ _) (by simp) (dbtE_bad2 (by omega))).mono ?_
  rintro e w8 ⟨⟨rw8, rfl⟩, bb⟩
  have HBw8 := Lib.hid (HBw7.out.trans (bb.mono HBw7.out.size))
  clear bb
  go_wp2_with fail
  refine (un_bad w8 (min x (-1)) 1 (by omega)).mono ?_
  rintro e w9 ⟨⟨rw9, rfl⟩, bb⟩
  have HBw9 := Lib.hid (HBw8.out.trans (bb.mono HBw8.out.size))
  clear bb
  go_wp2_with fail
  refine (qcheck_ok w9 (.slice none 0 0) (.slice none 0 0) [] [] (EV.nil _ _) (EV.nil _ _) (by simp) (by simp)).mono ?_
  rintro e wA ⟨rfl, bb⟩
  have HBwA := Lib.hid (HBw9.out.trans (bb.mono HBw9.out.size))
  clear bb
  rw [show chkR [] [] = (-1, 194) from by decide]
  go_wp2
  first | exact FIN.out _ HBwA.out | (go_ret; exact FIN.out _ HBwA.out)
end Go.Proofs.YtaplangfppohdaaDoor

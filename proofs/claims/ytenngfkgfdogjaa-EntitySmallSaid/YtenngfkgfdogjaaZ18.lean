/- quantumlaw21.Same of states that are alike | quantumlaw21.tells, its end: what was returned is written over, and the states are the same still | quantumlaw21.tells, from the loads on. -/
import Derived.Test.YtenngfkgfdogjaaZ16
import Derived.Test.YtenngfkgfdogjaaZ17
import Derived.Test.YtenngfkgfdogjaaZ15
import Derived.Test.YtenngfkgfdogjaaZ13
import Derived.Test.YtenngfkgfdogjaaZ10
set_option linter.unusedVariables false
set_option linter.unusedSimpArgs false
set_option linter.unusedSectionVars false
namespace Go.Proofs.Ytenngfkgfdogjaa
open Go Go.RowKit Go.Shelf
attribute [local go_sem] Oper.semAt_some

set_option maxRecDepth 100000 in
set_option maxHeartbeats 3200000 in
theorem same_ok (w : World) (c c' : StC) (s s' : St) (h : StAt w c s) (h' : StAt w c' s') (sim : Sim s s') (hl : StL s) :
    Calls Try.prog 74 #[c.val s, c'.val s'] w fun e w' => e = .returned (.bool true) ∧ Below w.heap.size w w' := by
  have CC := Lib.hid (show c.cells s = #[.int .i64 s.n, .int .u64 s.cr, c.vg, c.vc, c.vu, c.vt, c.vs] from rfl)
  have CD := Lib.hid (show c'.cells s' = #[.int .i64 s.n, .int .u64 s.cr, c'.vg, c'.vc, c'.vu, c'.vt, c'.vs] from by unfold StC.cells; rw [sim.n, sim.cr])
  have a1 := below_step (bel_alloc w (.cells (c.cells s) 38)) (bel_alloc (w.alloc (.cells (c.cells s) 38)) (.cells (c'.cells s') 38))
  have X1 : StBox ((w.alloc (.cells (c.cells s) 38)).alloc (.cells (c'.cells s') 38)) w.heap.size c s := (StBox.new w c s).below (bel_alloc _ _)
  have X2 : StBox ((w.alloc (.cells (c.cells s) 38)).alloc (.cells (c'.cells s') 38)) (w.heap.size + 1) c' s' := by
    have := StBox.new (w.alloc (.cells (c.cells s) 38)) c' s'
    rwa [World.size_alloc] at this
  have F : Facts ((w.alloc (.cells (c.cells s) 38)).alloc (.cells (c'.cells s') 38)) [sSA c s, sSA c' s', sSB w.heap.size c s, sSB (w.heap.size + 1) c' s', sB w] := ⟨h.below a1, h'.below a1, X1, X2, a1, trivial⟩
  have HS := Lib.hid sim
  have HL := Lib.hid hl
  unfold StC.val
  simp only [CC.out, CD.out] at F ⊢
  clear h h' a1 X1 X2 sim hl
  go_enter Try.func74, Try.ntmps74
  go_upto_region 1 with fail
  generalize (w.alloc (.cells #[.int .i64 s.n, .int .u64 s.cr, c.vg, c.vc, c.vu, c.vt, c.vs] 38)).alloc (.cells #[.int .i64 s.n, .int .u64 s.cr, c'.vg, c'.vc, c'.vu, c'.vt, c'.vs] 38) = w1 at F ⊢
  obtain ⟨X, hX⟩ : ∃ X, w.heap.size = X := ⟨_, rfl⟩
  rw [hX] at F
  simp only [hX]
  have HX := Lib.hid hX
  clear hX
  obtain ⟨b0, b1, b2, b3, b4, b5, b6⟩ := (F.get 2 : StBox w1 X c s).cell
  obtain ⟨d0, d1, d2, d3, d4, d5, d6⟩ := (F.get 3 : StBox w1 (X + 1) c' s').cell
  rw [← HS.out.n] at d0
  rw [← HS.out.cr] at d1
  go_wp2_with fail
  refine (eq_grp w1 c.vg c'.vg s.gs (F.get 0 : StAt w1 c s).eg (by rw [HS.out.gs]; exact (F.get 1 : StAt w1 c' s').eg) (by have := HL.out.lg; omega)).mono ?_
  rintro e w2 ⟨rfl, bb⟩
  replace F := F.below bb
  clear bb b0 b1 b2 b3 b4 b5 b6 d0 d1 d2 d3 d4 d5 d6
  obtain ⟨b0, b1, b2, b3, b4, b5, b6⟩ := (F.get 2 : StBox w2 X c s).cell
  obtain ⟨d0, d1, d2, d3, d4, d5, d6⟩ := (F.get 3 : StBox w2 (X + 1) c' s').cell
  go_wp2_with fail
  refine (eq_int w2 c.vc c'.vc s.cl (F.get 0 : StAt w2 c s).ec (by rw [HS.out.cl]; exact (F.get 1 : StAt w2 c' s').ec) HL.out.lc).mono ?_
  rintro e w3 ⟨rfl, bb⟩
  replace F := F.below bb
  clear bb b0 b1 b2 b3 b4 b5 b6 d0 d1 d2 d3 d4 d5 d6
  obtain ⟨b0, b1, b2, b3, b4, b5, b6⟩ := (F.get 2 : StBox w3 X c s).cell
  obtain ⟨d0, d1, d2, d3, d4, d5, d6⟩ := (F.get 3 : StBox w3 (X + 1) c' s').cell
  go_wp2_with fail
  refine (eq_int w3 c.vu c'.vu s.cu (F.get 0 : StAt w3 c s).eu (by rw [HS.out.cu]; exact (F.get 1 : StAt w3 c' s').eu) HL.out.lu).mono ?_
  rintro e w4 ⟨rfl, bb⟩
  replace F := F.below bb
  clear bb b0 b1 b2 b3 b4 b5 b6 d0 d1 d2 d3 d4 d5 d6
  obtain ⟨b0, b1, b2, b3, b4, b5, b6⟩ := (F.get 2 : StBox w4 X c s).cell
  obtain ⟨d0, d1, d2, d3, d4, d5, d6⟩ := (F.get 3 : StBox w4 (X + 1) c' s').cell
  go_wp2_with fail
  refine (eq_task w4 c.vt c'.vt s.ts (F.get 0 : StAt w4 c s).et (by rw [HS.out.ts]; exact (F.get 1 : StAt w4 c' s').et) (by have := HL.out.lt; omega)).mono ?_
  rintro e w5 ⟨rfl, bb⟩
  replace F := F.below bb
  clear bb b0 b1 b2 b3 b4 b5 b6 d0 d1 d2 d3 d4 d5 d6
  obtain ⟨b0, b1, b2, b3, b4, b5, b6⟩ := (F.get 2 : StBox w5 X c s).cell
  obtain ⟨d0, d1, d2, d3, d4, d5, d6⟩ := (F.get 3 : StBox w5 (X + 1) c' s').cell
  go_wp2_with fail
  refine (eqf_spot w5 c.vs c'.vs s.ss s'.ss (F.get 0 : StAt w5 c s).es.1 (F.get 1 : StAt w5 c' s').es.1 (F.get 0 : StAt w5 c s).es.2 (F.get 1 : StAt w5 c' s').es.2 HS.out.ss (by have := HL.out.ls; omega) (fun x hx => by have := HL.out.lr x hx; omega)).mono ?_
  rintro e w6 ⟨rfl, bb⟩
  have hfin := Lib.hid ((F.below bb).get 4 : Below w.heap.size w w6)
  clear bb b0 b1 b2 b3 b4 b5 b6 d0 d1 d2 d3 d4 d5 d6 F
  go_wp2
  go_ret
  exact ⟨rfl, hfin.out⟩
end Go.Proofs.Ytenngfkgfdogjaa
namespace Go.Proofs.Ytenngfkgfdogjaa
open Go Go.RowKit Go.Shelf
attribute [local go_sem] Oper.semAt_some

theorem StL.sim {s s' : St} (h : StL s) (m : Sim s s') : StL s' :=
  ⟨by rw [← m.gs]; exact h.lg, by rw [← m.cl]; exact h.lc, by rw [← m.cu]; exact h.lu, by rw [← m.ts]; exact h.lt, by rw [← m.len]; exact h.ls, fun x hx => by
    have : x.2 ∈ s.ss.map Prod.snd := by rw [m.ss]; exact List.mem_map.2 ⟨x, hx, rfl⟩
    obtain ⟨y, hy, e⟩ := List.mem_map.1 this
    rw [← e]; exact h.lr y hy⟩
/-- A row of n numbers that may be written over. -/
def WrtU (w : World) (v : Value) (n : Nat) : Prop :=
  (n = 0 ∧ ∃ A c, v = .slice A 0 c) ∨ (0 < n ∧ ∃ g cap, v = .slice (some ⟨g, 0, none⟩) n cap ∧ ∀ i, i < n → (∃ z, w.cell? ⟨g, i, none⟩ = some (.int .u64 z)) ∧ w.frozen? ⟨g, i, none⟩ = false)
theorem cell_set_int {w : World} {p q : Addr} {z z' : Int} {k : IntKind} (h : w.cell? q = some (.int k z)) : ∃ y, (w.setCell p (.int k z')).cell? q = some (.int k y) := by
  by_cases e : p = q
  · subst e
    refine ⟨z', ?_⟩
    obtain ⟨o, ho, hi⟩ := cells_of_cell h
    exact World.cell?_setCell_same _ _ _ h
  · exact ⟨z, (World.cell?_setCell_other w p q _ e).trans h⟩
theorem WrtU.set {w : World} {v : Value} {n : Nat} (h : WrtU w v n) (p : Addr) (z : Int) : WrtU (w.setCell p (.int .u64 z)) v n := by
  rcases h with h | ⟨h0, g, cap, hv, h⟩
  · exact .inl h
  · refine .inr ⟨h0, g, cap, hv, fun i hi => ?_⟩
    obtain ⟨⟨x, hx⟩, hf⟩ := h i hi
    exact ⟨cell_set_int hx, (World.frozen?_setCell _ _ _ _).trans hf⟩
theorem WrtU.shape {w : World} {v : Value} {n : Nat} (h : WrtU w v n) : ∃ A c, v = .slice A n c := by
  rcases h with ⟨rfl, A, c, rfl⟩ | ⟨_, g, cap, rfl, _⟩
  · exact ⟨A, c, rfl⟩
  · exact ⟨_, cap, rfl⟩
theorem WrtU.of {w : World} {e : TypeId} {base : Nat} {v : Value} {xs : List Int} (h : OV encU 1 e base w v xs) : WrtU w v xs.length := by
  rcases Nat.eq_zero_or_pos xs.length with h0 | h0
  · obtain ⟨A, c, hv⟩ := (h.ev encU_len).shape
    rw [h0] at hv
    exact .inl ⟨h0, A, c, hv⟩
  · obtain ⟨g, cap, hv, _, _⟩ := h.form h0
    refine .inr ⟨h0, g, cap, hv, fun i hi => ?_⟩
    have hh := h
    unfold OV at hh
    rw [hv] at hh
    have he := h.ev encU_len
    rw [hv] at he
    have := (he.row3 h0).u1 (List.getElem?_eq_getElem hi)
    rw [Nat.zero_add] at this
    exact ⟨⟨_, this⟩, World.ownsRow.frozenAt hh i⟩
theorem WrtU.mod {T : Nat → Prop} {w w' : World} {v : Value} {n : Nat} (h : WrtU w v n) (hm : Mod T w w') (ht : ∀ g, v.ownBlock = some g → ¬ T g) : WrtU w' v n := by
  rcases h with h | ⟨h0, g, cap, hv, h⟩
  · exact .inl h
  · refine .inr ⟨h0, g, cap, hv, fun i hi => ?_⟩
    obtain ⟨⟨x, hx⟩, hf⟩ := h i hi
    have hn := ht g (by rw [hv]; rfl)
    refine ⟨⟨x, hm.cell hx hn⟩, ?_⟩
    obtain ⟨o, ho, _⟩ := cells_of_cell hx
    exact (World.frozen?_of_block (w := w) (hm.block g (Array.getElem?_eq_some_iff.1 ho).1 hn)).trans hf

set_option maxRecDepth 100000 in
set_option maxHeartbeats 3200000 in
theorem tells_t20 (w w3 wc : World) (c c' : StC) (s s' : St) (X4 X9 : Nat) (v1 v28 : Value) (n : Nat) (rows : List (SV × List Int)) {u0 u1 u2 u3 u5 u6 u7 u8 u11 u12 u13 u14 u15 u16 u17 u18 u19 u20 u21 u22 u23 u24 u25 u26 u27 u29 u30 u31 u32 u33 u34 u35 u36 u37 u38 u39 u40 u41 u42 u43 u44 u45 u46 u47 u48 u49 u50 u51 u52 u53 u54 u55 u56 u57 u58 u59 u60 u61 u62 u63 u64 u65 u66 u67 u68 u69 u70 u71 u72 u73 u74 u75 u76 u77 u78 u79 u80 u81 u82 u83 u84 u85 u86 u87 u88 u89 u90 u91 u92 u93 u94 u95 u96 u97 u98 u99 u100 u101 u102 u103 u104 u105 u106 u107 u108 u109 u110 u111 u112 u113 u114 u115 u116 u117 u118 u119 u120 u121 u122 u123 u124 u125 u126 u127 u128 u129 u130 u131 u132 u133 u134 u135 u136 u137 u138 u139 u140 u141 u142 u143 u144 u145 u146 u147 u148 u149 u150 u151 u152 u153 u154 u155 u156 u157 u158 u159 u160 u161 u162 u163 u164 u165 u166 u167 u168 u169 u170 u171 u172 u173 u174 u175 u176 u177 u178 u179 u180 u181 u182 u183 u184 u185 u186 u187 u188 u189 u190 u191 u192 u193 u194 u195 u196 u197 u198 u199 u200 u201 u202 u203 u204 u205 u206 u207 u208 u209 u210 u211 u212 u213 u214 u215 u216 u217 u218 u219 u220 u221 u222 u223 u224 u225 u226 u227 u228 u229 u230 u231 : Value}
    (hw : Below w.heap.size w w3) (h : StAt w3 c s) (h' : StAt w3 c' s') (b4 : StBox w3 X4 c s) (b9 : StBox w3 X9 c' s') (sim : Sim s s') (hl : StL s) (hB : Below w3.heap.size w3 wc)
    (o1 : Wrt 1 wc v1 n) (k1 : ∀ k, v1.ownBlock = some k → w3.heap.size ≤ k) (hx : n ≤ 1000000000) (o2 : RowsU w3.heap.size wc v28 rows) (k2 : ∀ k, v1.ownBlock = some k → v28.ownBlock ≠ some k ∧ ∀ y ∈ rows, y.1.v.ownBlock ≠ some k)
    (hr : rows.length ≤ 1000000000) (hrr : ∀ y ∈ rows, y.2.length ≤ 1000000000) :
    Code.wp Try.prog (tailR Try.f33 20) (bodyPost Try.prog Try.f33 fun e w' => e = .returned (.bool true) ∧ Below w.heap.size w w')
      ⟨#[u0, u1, u2, u3, .pointer (some ⟨X4, 0, none⟩), u5, u6, u7, u8, .pointer (some ⟨X9, 0, none⟩), v1, u11, u12, u13, u14, u15, u16, u17, u18, u19, u20, u21, u22, u23, u24, u25, u26, u27, v28, u29, u30, u31, u32, u33, u34, u35, u36, u37, u38, u39, u40, u41, u42, u43, u44, u45, u46, u47, u48, u49, u50, u51, u52, u53, u54, u55, u56, u57, u58, u59, u60, u61, u62, u63, u64, u65, u66, u67, u68, u69, u70, u71, u72, u73, u74, u75, u76, u77, u78, u79, u80, u81, u82, u83, u84, u85, u86, u87, u88, u89, u90, u91, u92, u93, u94, u95, u96, u97, u98, u99, u100, u101, u102, u103, u104, u105, u106, u107, u108, u109, u110, u111, u112, u113, u114, u115, u116, u117, u118, u119, u120, u121, u122, u123, u124, u125, u126, u127, u128, u129, u130, u131, u132, u133, u134, u135, u136, u137, u138, u139, u140, u141, u142, u143, u144, u145, u146, u147, u148, u149, u150, u151, u152, u153, u154, u155, u156, u157, u158, u159, u160, u161, u162, u163, u164, u165, u166, u167, u168, u169, u170, u171, u172, u173, u174, u175, u176, u177, u178, u179, u180, u181, u182, u183, u184, u185, u186, u187, u188, u189, u190, u191, u192, u193, u194, u195, u196, u197, u198, u199, u200, u201, u202, u203, u204, u205, u206, u207, u208, u209, u210, u211, u212, u213, u214, u215, u216, u217, u218, u219, u220, u221, u222, u223, u224, u225, u226, u227, u228, u229, u230, u231], []⟩ wc := by
  conv => arg 2; whnf
  conv => arg 4; dsimp only
  have HW := Lib.hid hw
  have H := Lib.hid h
  have H' := Lib.hid h'
  have HB4 := Lib.hid b4
  have HB9 := Lib.hid b9
  have HS := Lib.hid sim
  have HL := Lib.hid hl
  obtain ⟨A1, c1, rfl⟩ := o1.shape
  have T1 := Lib.hid k1
  have T2 := Lib.hid k2
  -- the rows of floors
  have N2 := Lib.hid (show ∀ y ∈ rows, ∀ k, y.1.v.ownBlock = some k → w3.heap.size ≤ k ∧ v28.ownBlock ≠ some k from fun y hy k hk => by
    refine ⟨((o2.2 y hy).block k hk).1, fun e => ?_⟩
    rcases (o2.2 y hy).ne2 o2.1 (by decide) with h | h
    · rw [hk] at h; cases h
    · exact h (by rw [hk, e]))
  have E2 := Lib.hid (o2.1.ev encV_len)
  have W2 := Lib.hid (fun y (hy : y ∈ rows) => WrtU.of (o2.2 y hy))
  have HRR := Lib.hid hrr
  have O1 := Lib.hid o1
  have HB := Lib.hid hB
  have hwsz := hw.size
  clear hw h h' b4 b9 sim hl k1 k2 o2 hrr o1
  go_upto_block 0 with fail
  go_cut [32] (fun _ wx => Below w3.heap.size w3 wx ∧ EV encV 1 wx v28 rows ∧ ∀ y ∈ rows, WrtU wx y.1.v y.2.length)
  case first =>
    go_wp2
    go_loopg [203] n (fun k i wr => ∃ j : Nat, j + k = n ∧ i = .int .i64 j ∧ Wrt 1 wr (.slice A1 n c1) n ∧ Mod (fun k => Value.ownBlock (.slice A1 n c1) = some k) wc wr)
    case atStart => exact ⟨0, by omega, rfl, O1.out, Mod.refl _ _⟩
    case round =>
      obtain ⟨j, hj, rfl, ho, hm⟩ := hrel
      have HJ := Lib.hid hj
      have HM := Lib.hid hm
      have HO := Lib.hid ho
      clear hj hm
      by_cases hlt : j < n
      · have hd : decide ((j : Int) < (n : Int)) = true := by rw [decide_eq_true_eq]; omega
        rcases ho with ⟨h0, _⟩ | ⟨_, g, cap, hv, hwc⟩
        · omega
        · simp only [Value.slice.injEq] at hv
          obtain ⟨rfl, hz1, rfl⟩ := hv
          obtain ⟨⟨u, hu⟩, hf⟩ := hwc j (by omega)
          clear hwc hz1
          go_wp2
          go_roundg (gk - 1)
          case measure => have := HJ.out; omega
          case rel => exact ⟨j + 1, by have := HJ.out; omega, by go_num, HO.out.setCell _ _, HM.out.trans (Mod.setCell _ rfl)⟩
      · obtain rfl : j = n := by have := HJ.out; omega
        have hd : decide ((j : Int) < (j : Int)) = false := by simp
        clear ho
        go_wp2
        go_meet
        refine ⟨HB.out.trans ((HM.out.below (fun k hk he => by have := T1.out k he; omega) HB.out.size)), E2.out.mod HM.out (fun g o n c hv he => (T2.out g he).1 (by rw [hv]; rfl)), fun y hy => (W2.out y hy).mod HM.out (fun g hg he => (T2.out g he).2 y hy hg)⟩
  case rest =>
  obtain ⟨hB1, hE1, hU1⟩ := hcut
  have HB1 := Lib.hid hB1
  have HE1 := Lib.hid hE1
  have HU1 := Lib.hid hU1
  obtain ⟨R, hR⟩ : ∃ R, rows.length = R := ⟨_, rfl⟩
  have HRL := Lib.hid hR
  obtain ⟨A2, c2, rfl⟩ := hE1.shape
  rw [hR] at HE1 hr ⊢
  have hs3 := hB1.size
  have HN := Lib.hid (show ∀ y ∈ rows, ∀ k, y.1.v.ownBlock = some k → w3.heap.size ≤ k ∧ Value.ownBlock (.slice A2 R c2) ≠ some k from by rw [← HRL.out]; exact N2.out)
  obtain ⟨T, hT⟩ : ∃ T : Nat → Prop, T = fun k => w3.heap.size ≤ k ∧ Value.ownBlock (.slice A2 R c2) ≠ some k := ⟨_, rfl⟩
  have HT := Lib.hid hT
  have HEM := Lib.hid (fun (wr : World) (hm : Mod T wc wr) => HE1.out.mod hm (fun g o n c hv ht => by rw [HT.out] at ht; exact ht.2 (by rw [hv]; rfl)))
  have HTY := Lib.hid (fun y (hy : y ∈ rows) (k : Nat) (hk : y.1.v.ownBlock = some k) => (show T k from by rw [HT.out]; exact HN.out y hy k hk))
  clear hB1 hE1 hU1 hR T1 T2 N2 E2 W2 O1 hT
  go_upto_block 2 with fail
  go_cut [34, 35] (fun _ _ wx => Mod T wc wx)
  case first =>
    go_wp2
    go_loopg [212] R (fun k i wr => ∃ t : Nat, t + k = R ∧ i = .int .i64 t ∧ Mod T wc wr ∧ ∀ y ∈ rows, WrtU wr y.1.v y.2.length)
    case atStart => exact ⟨0, by omega, rfl, Mod.refl _ _, HU1.out⟩
    case round =>
      obtain ⟨t, ht, rfl, hm, hu⟩ := hrel
      have HTT := Lib.hid ht
      have HM := Lib.hid hm
      have HU := Lib.hid hu
      clear ht hu
      by_cases hlt : t < R
      · have hd : decide ((t : Int) < (R : Int)) = true := by rw [decide_eq_true_eq]; omega
        obtain ⟨y, hy⟩ : ∃ y, rows[t]? = some y := ⟨_, List.getElem?_eq_getElem (by rw [HRL.out]; exact hlt)⟩
        have hym := List.mem_of_getElem? hy
        obtain ⟨b, off, c9, hv, _, hrw⟩ := (HEM.out wr hm).row (by rw [HRL.out]; omega)
        simp only [Value.slice.injEq] at hv
        obtain ⟨rfl, hz1, rfl⟩ := hv
        have hcell := hrw t y hy 0 _ rfl
        simp only [Nat.mul_one, Nat.add_zero] at hcell
        have hwr := HU.out y hym
        have hrn := HRR.out y hym
        have hTr := HTY.out y hym
        clear hz1 hrw hy hm
        obtain ⟨m, hml⟩ : ∃ m, y.2.length = m := ⟨_, rfl⟩
        rw [hml] at hwr hrn
        have HML := Lib.hid hml
        have HYM := Lib.hid hym
        clear hml hym
        rcases hwr with ⟨h0, A, cc, hv⟩ | ⟨h0, g, cc, hv, hwc⟩
        · rw [hv] at hcell
          clear hTr hv
          go_wp2_with fail
          refine wp_loop_rounds 1 ?_
          rw [rounds_succ]
          go_wp2
          go_roundg (gk - 1)
          case measure => have := HTT.out; omega
          case rel => exact ⟨t + 1, by have := HTT.out; omega, by go_num, HM.out, HU.out⟩
        · rw [hv] at hcell
          have HTR := Lib.hid (hTr g (by rw [hv]; rfl))
          have HV := Lib.hid hv
          clear hTr hwc hv
          go_wp2_with fail
          go_loopg [218] m (fun k i wq => ∃ q : Nat, q + k = m ∧ i = .int .i64 q ∧ Mod T wc wq ∧ ∀ y ∈ rows, WrtU wq y.1.v y.2.length)
          case atStart => exact ⟨0, by omega, rfl, HM.out, HU.out⟩
          case round =>
            obtain ⟨q, hq, rfl, hm, hu⟩ := hrel
            have HQQ := Lib.hid hq
            have HM := Lib.hid hm
            have HU := Lib.hid hu
            clear hq hm hu hcell
            by_cases hql : q < m
            · have hd2 : decide ((q : Int) < (m : Int)) = true := by rw [decide_eq_true_eq]; omega
              have hww := HU.out y HYM.out
              rw [HML.out] at hww
              rcases hww with ⟨h00, _⟩ | ⟨_, g', cc', hv', hwc⟩
              · omega
              · rw [HV.out] at hv'
                simp only [Value.slice.injEq, Option.some.injEq, Addr.mk.injEq, and_true] at hv'
                obtain ⟨rfl, _, rfl⟩ := hv'
                obtain ⟨⟨z, hz⟩, hf⟩ := hwc q (by omega)
                clear hwc
                go_wp2
                go_roundg (gk - 1)
                case measure => have := HQQ.out; omega
                case rel => exact ⟨q + 1, by have := HQQ.out; omega, by go_num, HM.out.trans (Mod.setCell _ HTR.out), fun y hy => (HU.out y hy).set _ _⟩
            · have hd2 : decide ((q : Int) < (m : Int)) = false := by rw [decide_eq_false_iff_not]; omega
              go_wp2
              go_roundg (R - (t + 1))
              case measure => have := HTT.out; omega
              case rel => exact ⟨t + 1, by omega, by go_num, HM.out, HU.out⟩
      · obtain rfl : t = R := by have := HTT.out; omega
        have hd : decide ((t : Int) < (t : Int)) = false := by simp
        clear hm
        go_wp2
        go_meet
        exact HM.out
  case rest =>
  have hB2 := hcut.below (B := w3.heap.size) (fun k hk he => by rw [HT.out] at he; omega) hs3
  have HB3 := Lib.hid (HB1.out.trans hB2)
  clear hcut hB2
  obtain ⟨b0, b1, b2, b3, b4, b5, b6⟩ := (HB4.out.below HB3.out).cell
  obtain ⟨d0, d1, d2, d3, d4, d5, d6⟩ := (HB9.out.below HB3.out).cell
  go_wp2_with fail
  refine (same_ok _ c' c s' s (H'.out.below HB3.out) (H.out.below HB3.out) HS.out.symm (HL.out.sim HS.out)).mono ?_
  rintro e w9 ⟨rfl, bb⟩
  have hfin := Lib.hid ((HW.out.trans (HB3.out.mono hwsz)).trans (bb.mono (by have := HB3.out.size; omega)))
  clear bb b0 b1 b2 b3 b4 b5 b6 d0 d1 d2 d3 d4 d5 d6
  go_wp2
  go_ret
  exact ⟨rfl, hfin.out⟩
end Go.Proofs.Ytenngfkgfdogjaa
namespace Go.Proofs.Ytenngfkgfdogjaa
open Go Go.RowKit Go.Shelf
attribute [local go_sem] Oper.semAt_some

def sRU (base : Nat) (v : Value) (rows : List (SV × List Int)) : SP := ⟨fun w => RowsU base w v rows, fun _ _ b h => h.below b⟩
def sWr (k : Nat) (v : Value) (n : Nat) : SP := ⟨fun w => Wrt k w v n, fun _ _ b h => h.below b⟩
theorem flE_len (s : St) : (flE s).length ≤ 256 ∧ ∀ l ∈ flE s, l.length ≤ 64 := by
  cases h : shapedB s with
  | false => unfold flE; rw [h]; simp
  | true =>
    have hs := shp_iff.1 h
    have := (right_iff.1 hs.right).many
    rw [flE_pos h]
    refine ⟨by simp; omega, fun l hl => ?_⟩
    obtain ⟨g, _, rfl⟩ := List.mem_map.1 hl
    unfold rowF
    have := hs.n2
    simp; omega
theorem rows_len {s : St} {rows : List (SV × List Int)} (h : rows.map Prod.snd = flE s) : rows.length ≤ 1000 ∧ ∀ y ∈ rows, y.2.length ≤ 1000 := by
  obtain ⟨a, b⟩ := flE_len s
  refine ⟨by have := congrArg List.length h; simp at this; omega, fun y hy => ?_⟩
  have := b y.2 (by rw [← h]; exact List.mem_map.2 ⟨y, hy, rfl⟩)
  omega
section
variable {c' : StC} {s s' : St}
theorem o_shaped (m : Sim s s') (hb : StB s) (W : World) (h : StAt W c' s') : Calls Try.prog 31 #[c'.val s'] W fun e w' => e = .returned (.bool (shapedB s)) ∧ Below W.heap.size W w' := by
  have := shaped_ok W c' s' h (m.stb hb).g (m.stb hb).t
  rwa [← shapedB_sim m] at this
theorem o_ready (m : Sim s s') (hb : StB s) (W : World) (cpu : Int) (h : StAt W c' s') : Calls Try.prog 25 #[c'.val s', .int .i64 cpu] W fun e w' => ∃ v, e = .returned (.tuple #[v, .int .i64 (chkE s 0 cpu)]) ∧ OV encI 1 3 W.heap.size w' v (rdyE s cpu) ∧ Below W.heap.size W w' := by
  have := ready_pub W c' s' cpu h (m.stb hb)
  rwa [← chkE_sim m, ← rdyE_sim m] at this
theorem o_filled (m : Sim s s') (hb : StB s) (W : World) (g cpu : Int) (h : StAt W c' s') : Calls Try.prog 20 #[c'.val s', .int .i64 g, .int .i64 cpu] W fun e w' => e = .returned (.tuple #[.bool (filE s g cpu), .int .i64 (chkE s g cpu)]) ∧ Below W.heap.size W w' := by
  have := filled_pub W c' s' g cpu h (m.stb hb)
  rwa [← chkE_sim m, ← filE_sim m] at this
theorem o_members (m : Sim s s') (hb : StB s) (W : World) (g cpu : Int) (h : StAt W c' s') : Calls Try.prog 16 #[c'.val s', .int .i64 g, .int .i64 cpu] W fun e w' => ∃ v, e = .returned (.tuple #[v, .int .i64 (chkE s g cpu)]) ∧ OV encY 3 24 W.heap.size w' v (memE s g cpu) ∧ Below W.heap.size W w' := by
  have := members_pub W c' s' g cpu h (m.stb hb)
  rwa [← chkE_sim m, ← memE_sim m] at this
theorem o_walk (m : Sim s s') (hb : StB s) (W : World) (cpu : Int) (h : StAt W c' s') : Calls Try.prog 24 #[c'.val s', .int .i64 cpu] W fun e w' => ∃ v, e = .returned (.tuple #[v, .int .i64 (chkE s 0 cpu)]) ∧ OV encY 3 24 W.heap.size w' v (walE s cpu) ∧ Below W.heap.size W w' := by
  have := walk_pub W c' s' cpu h (m.stb hb)
  rwa [← chkE_sim m, ← walE_sim m] at this
theorem o_load (m : Sim s s') (hb : StB s) (W : World) (cpu : Int) (h : StAt W c' s') : Calls Try.prog 29 #[c'.val s', .int .i64 cpu] W fun e w' => e = .returned (.tuple #[.int .i64 (loadE s cpu), .int .i64 (chkE s 0 cpu)]) ∧ Below W.heap.size W w' := by
  have := load_pub W c' s' cpu h (m.stb hb)
  rwa [← chkE_sim m, ← loadE_sim m] at this
theorem o_floors (m : Sim s s') (hb : StB s) (W : World) (h : StAt W c' s') : Calls Try.prog 17 #[c'.val s'] W fun e w' => ∃ v rows, e = .returned (.tuple #[v, .int .i64 (shE s)]) ∧ RowsU W.heap.size w' v rows ∧ rows.map Prod.snd = flE s ∧ Below W.heap.size W w' := by
  have := floors_pub W c' s' h (m.stb hb)
  rwa [← shE_sim m, ← flE_sim m] at this
theorem findR_sim (m : Sim s s') : findR s = findR s' := by funext id; unfold findR; rw [shapedB_sim m, m.ts]
theorem o_find (m : Sim s s') (hb : StB s) (W : World) (id : Int) (h : StAt W c' s') : Calls Try.prog 30 #[c'.val s', .int .i64 id] W fun e w' => e = .returned (.tuple #[.int .i64 (findR s id).1, .int .i64 (findR s id).2]) ∧ Below W.heap.size W w' := by
  have := find_pub2 W c' s' id h (m.stb hb)
  rwa [← findR_sim m] at this
end
set_option maxRecDepth 100000 in
set_option maxHeartbeats 3200000 in
theorem tells_t12 (w w3 w4 : World) (c c' : StC) (s s' : St) (X4 X9 : Nat) (v1 : Value) (cpu id : Int) {u0 u1 u5 u6 u7 u8 u11 u12 u13 u14 u15 u16 u17 u18 u19 u20 u21 u22 u23 u24 u25 u26 u27 u28 u29 u30 u31 u32 u33 u34 u35 u36 u37 u38 u39 u40 u41 u42 u43 u44 u45 u46 u47 u48 u49 u50 u51 u52 u53 u54 u55 u56 u57 u58 u59 u60 u61 u62 u63 u64 u65 u66 u67 u68 u69 u70 u71 u72 u73 u74 u75 u76 u77 u78 u79 u80 u81 u82 u83 u84 u85 u86 u87 u88 u89 u90 u91 u92 u93 u94 u95 u96 u97 u98 u99 u100 u101 u102 u103 u104 u105 u106 u107 u108 u109 u110 u111 u112 u113 u114 u115 u116 u117 u118 u119 u120 u121 u122 u123 u124 u125 u126 u127 u128 u129 u130 u131 u132 u133 u134 u135 u136 u137 u138 u139 u140 u141 u142 u143 u144 u145 u146 u147 u148 u149 u150 u151 u152 u153 u154 u155 u156 u157 u158 u159 u160 u161 u162 u163 u164 u165 u166 u167 u168 u169 u170 u171 u172 u173 u174 u175 u176 u177 u178 u179 u180 u181 u182 u183 u184 u185 u186 u187 u188 u189 u190 u191 u192 u193 u194 u195 u196 u197 u198 u199 u200 u201 u202 u203 u204 u205 u206 u207 u208 u209 u210 u211 u212 u213 u214 u215 u216 u217 u218 u219 u220 u221 u222 u223 u224 u225 u226 u227 u228 u229 u230 u231 : Value}
    (hw : Below w.heap.size w w3) (h : StAt w3 c s) (h' : StAt w3 c' s') (b4 : StBox w3 X4 c s) (b9 : StBox w3 X9 c' s') (sim : Sim s s') (hl : StL s) (hb : StB s) (hB : Below w3.heap.size w3 w4)
    (o1 : OV encI 1 3 w3.heap.size w4 v1 (rdyE s cpu)) (hx : (rdyE s cpu).length ≤ 1000000000) :
    Code.wp Try.prog (tailR Try.f33 12) (bodyPost Try.prog Try.f33 fun e w' => e = .returned (.bool true) ∧ Below w.heap.size w w')
      ⟨#[u0, u1, .int .i64 cpu, .int .i64 id, .pointer (some ⟨X4, 0, none⟩), u5, u6, u7, u8, .pointer (some ⟨X9, 0, none⟩), v1, u11, u12, u13, u14, u15, u16, u17, u18, u19, u20, u21, u22, u23, u24, u25, u26, u27, u28, u29, u30, u31, u32, u33, u34, u35, u36, u37, u38, u39, u40, u41, u42, u43, u44, u45, u46, u47, u48, u49, u50, u51, u52, u53, u54, u55, u56, u57, u58, u59, u60, u61, u62, u63, u64, u65, u66, u67, u68, u69, u70, u71, u72, u73, u74, u75, u76, u77, u78, u79, u80, u81, u82, u83, u84, u85, u86, u87, u88, u89, u90, u91, u92, u93, u94, u95, u96, u97, u98, u99, u100, u101, u102, u103, u104, u105, u106, u107, u108, u109, u110, u111, u112, u113, u114, u115, u116, u117, u118, u119, u120, u121, u122, u123, u124, u125, u126, u127, u128, u129, u130, u131, u132, u133, u134, u135, u136, u137, u138, u139, u140, u141, u142, u143, u144, u145, u146, u147, u148, u149, u150, u151, u152, u153, u154, u155, u156, u157, u158, u159, u160, u161, u162, u163, u164, u165, u166, u167, u168, u169, u170, u171, u172, u173, u174, u175, u176, u177, u178, u179, u180, u181, u182, u183, u184, u185, u186, u187, u188, u189, u190, u191, u192, u193, u194, u195, u196, u197, u198, u199, u200, u201, u202, u203, u204, u205, u206, u207, u208, u209, u210, u211, u212, u213, u214, u215, u216, u217, u218, u219, u220, u221, u222, u223, u224, u225, u226, u227, u228, u229, u230, u231], []⟩ w4 := by
  conv => arg 2; whnf
  conv => arg 4; dsimp only
  have F : Facts w4 [sSA c' s', sSB X9 c' s', sSA c s, sSB X4 c s, sB w3] := ⟨h'.below hB, b9.below hB, h.below hB, b4.below hB, hB, trivial⟩
  have G : Facts w4 [sOV encI 1 3 w3.heap.size v1 (rdyE s cpu)] := ⟨o1, trivial⟩
  have H := Lib.hid h
  have H' := Lib.hid h'
  have HB4 := Lib.hid b4
  have HB9 := Lib.hid b9
  have HS := Lib.hid sim
  have HL := Lib.hid hl
  have HB := Lib.hid hb
  have HW := Lib.hid hw
  have HX := Lib.hid hx
  have hs4 := hB.size
  clear h h' b4 b9 sim hl hb hB o1 hw hx
  obtain ⟨b0, b1, b2, b3, b4, b5, b6⟩ := (F.get 1 : StBox w4 X9 c' s').cell
  go_wp2_with fail
  refine (o_load HS.out HB.out w4 cpu (F.get 0)).mono ?_
  rintro e w5 ⟨rfl, bb⟩
  replace F := F.below bb
  replace G := G.below bb
  clear bb b0 b1 b2 b3 b4 b5 b6
  obtain ⟨b0, b1, b2, b3, b4, b5, b6⟩ := (F.get 3 : StBox w5 X4 c s).cell
  go_wp2_with fail
  refine (rload_ok w5 c s cpu (F.get 2) HB.out).mono ?_
  rintro e w6 ⟨rfl, bb⟩
  replace F := F.below bb
  replace G := G.below bb
  clear bb b0 b1 b2 b3 b4 b5 b6
  have S6 := Lib.hid (F.get 4 : Below w3.heap.size w3 w6).size
  obtain ⟨b0, b1, b2, b3, b4, b5, b6⟩ := (F.get 1 : StBox w6 X9 c' s').cell
  go_wp2_with fail
  refine (o_floors HS.out HB.out w6 (F.get 0)).mono ?_
  rintro e w7 ⟨v28, rows, rfl, o, Hrows, bb⟩
  replace F := F.below bb
  replace G : Facts w7 (sRU w6.heap.size v28 rows :: _) := ⟨o, G.below bb⟩
  replace Hrows := Lib.hid Hrows
  clear bb b0 b1 b2 b3 b4 b5 b6 o
  obtain ⟨b0, b1, b2, b3, b4, b5, b6⟩ := (F.get 3 : StBox w7 X4 c s).cell
  go_wp2_with fail
  refine (rfloors_ok w7 c s (F.get 2) HB.out).mono ?_
  rintro e w8 ⟨v29, rows2, rfl, o, hr2, bb⟩
  replace F := F.below bb
  replace G : Facts w8 (sRU w7.heap.size v29 rows2 :: _) := ⟨o, G.below bb⟩
  have Hrows2 := Lib.hid hr2
  clear bb b0 b1 b2 b3 b4 b5 b6 o hr2
  obtain ⟨b0, b1, b2, b3, b4, b5, b6⟩ := (F.get 1 : StBox w8 X9 c' s').cell
  go_wp2_with fail
  refine (o_find HS.out HB.out w8 id (F.get 0)).mono ?_
  rintro e w9 ⟨rfl, bb⟩
  replace F := F.below bb
  replace G := G.below bb
  clear bb b0 b1 b2 b3 b4 b5 b6
  obtain ⟨b0, b1, b2, b3, b4, b5, b6⟩ := (F.get 3 : StBox w9 X4 c s).cell
  go_wp2_with fail
  refine (rfind_ok w9 c s id (F.get 2) HB.out).mono ?_
  rintro e w10 ⟨rfl, bb⟩
  replace F := F.below bb
  replace G := G.below bb
  clear bb b0 b1 b2 b3 b4 b5 b6
  go_wp2_with fail
  refine (eqf_u64 w10 v28 v29 rows rows2 ((G.get 1 : RowsU w6.heap.size w10 v28 rows).1.ev encV_len) ((G.get 0 : RowsU w7.heap.size w10 v29 rows2).1.ev encV_len)
    (fun y hy => ((G.get 1 : RowsU w6.heap.size w10 v28 rows).2 y hy).ev encU_len) (fun y hy => ((G.get 0 : RowsU w7.heap.size w10 v29 rows2).2 y hy).ev encU_len) (Hrows.out.trans Hrows2.out.symm) (by have := (rows_len Hrows.out).1; omega) (fun y hy => by have := (rows_len Hrows.out).2 y hy; omega)).mono ?_
  rintro e w11 ⟨rfl, bb⟩
  replace F := F.below bb
  replace G := G.below bb
  have HF := Lib.hid F
  have HG := Lib.hid G
  clear bb F G
  go_upto_if 200 with fail
  go_cut [] (fun wx => wx = w11)
  case first =>
    go_wp2_with fail
    go_meet
    rfl
  case rest =>
    subst hcut
    have hs6 : w3.heap.size ≤ w6.heap.size := S6.out
    have o28 : RowsU w6.heap.size wc v28 rows := HG.out.get 1
    have o1 : OV encI 1 3 w3.heap.size wc v1 (rdyE s cpu) := HG.out.get 2
    refine (‹∀ (a : Act) (w : World), Code.wp _ _ _ a w → _› : ∀ (a : Act) (w : World), _ → _) _ _ (tells_t20 w w3 _ c c' s s' X4 X9 v1 v28 (rdyE s cpu).length rows HW.out H.out H'.out HB4.out HB9.out HS.out HL.out (HF.out.get 4) (o1.wrt encI_len) (fun k hk => (o1.block k hk).1) HX.out (o28.base_le hs6) (fun k hk => ⟨fun e => ?_, fun y hy e => ?_⟩) (by have := (rows_len Hrows.out).1; omega) (fun y hy => by have := (rows_len Hrows.out).2 y hy; omega))
    · rcases o1.ne2 o28.1 (by decide) with h | h
      · rw [hk] at h; cases h
      · exact h (by rw [hk, e])
    · rcases o1.ne2 (o28.2 y hy) (by decide) with h | h
      · rw [hk] at h; cases h
      · exact h (by rw [hk, e])
end Go.Proofs.Ytenngfkgfdogjaa

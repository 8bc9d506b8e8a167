/- The contract of quantumlaw21.Copy. -/
import Derived.Test.YtenngfkgfdogjaaZ13
import Derived.Deep.RegionHeld3
import Derived.Deep.DeepCutAuto
import Derived.Laws.ResultCell
set_option linter.unusedVariables false
set_option linter.unusedSimpArgs false
set_option linter.unusedSectionVars false
namespace Go.Proofs.Ytenngfkgfdogjaa
open Go Go.RowKit Go.Shelf
attribute [local go_sem] Oper.semAt_some

theorem StBox.set {w : World} {B : Nat} {c c' : StC} {s : St} {i : Nat} {v : Value} (h : StBox w B c s) (he : (c.cells s).setIfInBounds i v = c'.cells s) : StBox (w.setCell ⟨B, i, none⟩ v) B c' s := by
  unfold StBox; rw [← he]; exact heap_setCell_same w B i _ _ v h
theorem StBox.frz {w : World} {B : Nat} {c : StC} {s : St} (h : StBox w B c s) (i : Nat) : w.frozen? ⟨B, i, none⟩ = false := frozen_of_row w B i _ _ h
/-- A state's block of zeros. -/
def ZBox (w : World) (B : Nat) : Prop := w.heap[B]? = some (.cells #[.int .i64 0, .int .u64 0, .slice none 0 0, .slice none 0 0, .slice none 0 0, .slice none 0 0, .slice none 0 0] 38 (0, 0))
theorem ZBox.cell {w : World} {B : Nat} (h : ZBox w B) :
    w.cell? ⟨B, 0, none⟩ = some (.int .i64 0) ∧ w.cell? ⟨B, 1, none⟩ = some (.int .u64 0) ∧ w.cell? ⟨B, 2, none⟩ = some (.slice none 0 0) ∧ w.cell? ⟨B, 3, none⟩ = some (.slice none 0 0) ∧ w.cell? ⟨B, 4, none⟩ = some (.slice none 0 0) ∧ w.cell? ⟨B, 5, none⟩ = some (.slice none 0 0) ∧ w.cell? ⟨B, 6, none⟩ = some (.slice none 0 0) := by
  have hc := fun i => cell_of_row w B i _ _ (0, 0) h
  refine ⟨(hc 0).trans rfl, (hc 1).trans rfl, (hc 2).trans rfl, (hc 3).trans rfl, (hc 4).trans rfl, (hc 5).trans rfl, (hc 6).trans rfl⟩
theorem ZBox.frz {w : World} {B : Nat} (h : ZBox w B) (i : Nat) : w.frozen? ⟨B, i, none⟩ = false := frozen_of_row w B i _ _ h
theorem ZBox.below {w w' : World} {B : Nat} (h : ZBox w B) (hb : Below w.heap.size w w') : ZBox w' B := (hb.block B (Array.getElem?_eq_some_iff.1 h).1).trans h
theorem ZBox.other {w : World} {B : Nat} {p : Addr} {v : Value} (h : ZBox w B) (hp : p.block ≠ B) : ZBox (w.setCell p v) B := (Below.heap_setCell _ _ _ _ (fun e => hp e.symm)).trans h
/-- Lists that may be cloned. -/
structure StL (s : St) : Prop where
  lg : s.gs.length ≤ 1000000000
  lc : s.cl.length ≤ 17592186044416
  lu : s.cu.length ≤ 17592186044416
  lt : s.ts.length ≤ 1000000000
  ls : s.ss.length ≤ 5864062014805
  lr : ∀ x ∈ s.ss, x.2.length ≤ 5864062014805

/-- Where a copy stands: the boxed state, the result's block of zeros, nothing else touched. -/
structure Cp (w : World) (X : Nat) (c : StC) (s : St) (wz : World) : Prop where
  bx : StBox wz X c s
  zb : ZBox wz (X + 1)
  bel : Below X w wz
  sz : X + 2 ≤ wz.heap.size
section
variable {w wz wz' : World} {X : Nat} {c c' : StC} {s : St}
theorem Cp.below (h : Cp w X c s wz) (hb : Below wz.heap.size wz wz') : Cp w X c s wz' :=
  ⟨h.bx.below hb, h.zb.below hb, h.bel.trans (hb.mono (by have := h.sz; omega)), Nat.le_trans h.sz hb.size⟩
theorem Cp.set {i : Nat} {v : Value} (h : Cp w X c s wz) (he : (c.cells s).setIfInBounds i v = c'.cells s) : Cp w X c' s (wz.setCell ⟨X, i, none⟩ v) :=
  ⟨h.bx.set he, h.zb.other (by simp), h.bel.setCell (Nat.le_refl _) _, by simpa [World.setCell] using h.sz⟩
theorem Cp.oth {p : Addr} {v : Value} (h : Cp w X c s wz) (hp : X + 2 ≤ p.block) : Cp w X c s (wz.setCell p v) :=
  ⟨(Below.heap_setCell _ _ _ _ (by omega)).trans h.bx, h.zb.other (by omega), h.bel.setCell (by omega) _, by simpa [World.setCell] using h.sz⟩
theorem Cp.drew (h : Cp w X c s wz) : Cp w X c s wz.drew := ⟨h.bx, h.zb, below_drew h.bel, h.sz⟩
theorem StBox.c45 (h : StBox w X c s) : w.cell? ⟨X, 3, none⟩ = some c.vc ∧ w.cell? ⟨X, 4, none⟩ = some c.vu ∧ w.cell? ⟨X, 5, none⟩ = some c.vt := by
  obtain ⟨_, _, _, b3, b4, b5, _⟩ := h.cell
  exact ⟨b3, b4, b5⟩
end
/-- The loop: the first j rows are copies. -/
structure Cq (w : World) (X : Nat) (c : StC) (s : St) (A : Option Addr) (n cap : Nat) (ys : List (SV × List Sp)) (wr : World) (j : Nat) (zs : List (SV × List Sp)) : Prop where
  hp : Cp w X { c with vs := .slice A n cap } s wr
  og : OV encG 2 82 (X + 2) wr c.vg s.gs
  oc : OV encI 1 3 (X + 2) wr c.vc s.cl
  ou : OV encI 1 3 (X + 2) wr c.vu s.cu
  ot : OV encT 8 61 (X + 2) wr c.vt s.ts
  os : OV encW 1 52 (X + 2) wr (.slice A n cap) (zs ++ ys.drop j)
  orr : ∀ y ∈ zs, OV encS 3 51 (X + 2) wr y.1.v y.2
  eq : zs.map Prod.snd = (ys.take j).map Prod.snd
section
variable {w wz wz' : World} {X n cap j : Nat} {c : StC} {s : St} {A : Option Addr} {ys zs : List (SV × List Sp)}
theorem Cq.below (h : Cq w X c s A n cap ys wz j zs) (hb : Below wz.heap.size wz wz') : Cq w X c s A n cap ys wz' j zs :=
  ⟨h.hp.below hb, h.og.below hb, h.oc.below hb, h.ou.below hb, h.ot.below hb, h.os.below hb, fun y hy => (h.orr y hy).below hb, h.eq⟩
theorem Cq.drew (h : Cq w X c s A n cap ys wz j zs) : Cq w X c s A n cap ys wz.drew j zs := ⟨h.hp.drew, h.og, h.oc, h.ou, h.ot, h.os, h.orr, h.eq⟩
theorem Cq.len (h : Cq w X c s A n cap ys wz j zs) (hj : j ≤ ys.length) : zs.length = j := by have := congrArg List.length h.eq; simp at this; omega
theorem Cq.set {g : Nat} {y : SV × List Sp} {p : SV} (h : Cq w X c s (some ⟨g, 0, none⟩) n cap ys wz j zs) (hn : ys.length = n) (hj : ys[j]? = some y) (ho : OV encS 3 51 (X + 2) wz p.v y.2) :
    Cq w X c s (some ⟨g, 0, none⟩) n cap ys (wz.setCell ⟨g, j, none⟩ p.v) (j + 1) (zs ++ [(p, y.2)]) := by
  have hjl := (List.getElem?_eq_some_iff.1 hj).1
  have hl := h.len (by omega)
  have hll : (zs ++ ys.drop j).length = n := by simp; omega
  have hx : (zs ++ ys.drop j)[j]? = some y := by rw [List.getElem?_append_right (by omega), hl, Nat.sub_self, List.getElem?_drop, Nat.add_zero]; exact hj
  obtain ⟨o, gr⟩ := h.os.setF encW_len hll hx (Nat.zero_lt_one) (p, y.2) p.v rfl
  rw [Nat.mul_one, Nat.add_zero] at o gr
  have hb := (h.os.block g rfl).1
  refine ⟨h.hp.oth hb, h.og.keep gr ?_, h.oc.keep gr ?_, h.ou.keep gr ?_, h.ot.keep gr ?_, ?_, ?_, ?_⟩
  · exact h.og.ne h.os (by decide)
  · exact h.oc.ne h.os (by decide)
  · exact h.ou.ne h.os (by decide)
  · exact h.ot.ne h.os (by decide)
  · rw [List.set_append_right _ _ (by omega), hl, Nat.sub_self, List.drop_eq_getElem_cons hjl, List.set_cons_zero] at o
    rw [List.append_assoc]; exact o
  · intro z hz
    rcases List.mem_append.1 hz with hz | hz
    · exact (h.orr z hz).keep gr ((h.orr z hz).ne h.os (by decide))
    · rw [List.mem_singleton] at hz; subst hz; exact ho.keep gr (ho.ne h.os (by decide))
  · rw [List.map_append, h.eq, List.take_add_one, hj]; simp
end
def set7 (w : World) (B : Nat) (v0 v1 v2 v3 v4 v5 v6 : Value) : World :=
  ((((((w.setCell ⟨B, 0, none⟩ v0).setCell ⟨B, 1, none⟩ v1).setCell ⟨B, 2, none⟩ v2).setCell ⟨B, 3, none⟩ v3).setCell ⟨B, 4, none⟩ v4).setCell ⟨B, 5, none⟩ v5).setCell ⟨B, 6, none⟩ v6
theorem fill7 {w : World} {B : Nat} (h : ZBox w B) (v0 v1 v2 v3 v4 v5 v6 : Value) : (set7 w B v0 v1 v2 v3 v4 v5 v6).heap[B]? = some (.cells #[v0, v1, v2, v3, v4, v5, v6] 38 (0, 0)) :=
  heap_setCell_same _ B 6 _ _ v6 (heap_setCell_same _ B 5 _ _ v5 (heap_setCell_same _ B 4 _ _ v4 (heap_setCell_same _ B 3 _ _ v3 (heap_setCell_same _ B 2 _ _ v2 (heap_setCell_same _ B 1 _ _ v1 (heap_setCell_same _ B 0 _ _ v0 h))))))
theorem of7 {α : Type} {enc : α → List Value} {k base : Nat} {e : TypeId} {w : World} {v : Value} {xs : List α} (h : OV enc k e base w v xs) {B : Nat} (hB : B < base) (v0 v1 v2 v3 v4 v5 v6 : Value) : OV enc k e base (set7 w B v0 v1 v2 v3 v4 v5 v6) v xs :=
  ((((((h.other (p := ⟨B, 0, none⟩) hB v0).other (p := ⟨B, 1, none⟩) hB v1).other (p := ⟨B, 2, none⟩) hB v2).other (p := ⟨B, 3, none⟩) hB v3).other (p := ⟨B, 4, none⟩) hB v4).other (p := ⟨B, 5, none⟩) hB v5).other (p := ⟨B, 6, none⟩) hB v6
set_option maxRecDepth 100000 in
set_option maxHeartbeats 3200000 in
theorem copy_t3 (w wc : World) (X : Nat) (c c1 : StC) (s : St) {u0 u3 u4 u5 u6 u7 u8 u9 u10 u11 u12 u13 u14 u15 u16 u17 u18 u19 u20 u21 u22 u23 u24 u25 u26 u27 u28 u29 u30 u31 u32 u33 u34 u35 u36 u37 u38 u39 u40 u41 u42 u43 : Value} (hX : w.heap.size = X) (h : StAt w c s) (hl : StL s) (hp : Cp w X c1 s wc) (hvs : c1.vs = c.vs)
    (og : OV encG 2 82 (X + 2) wc c1.vg s.gs) (oc : OV encI 1 3 (X + 2) wc c1.vc s.cl) (ou : OV encI 1 3 (X + 2) wc c1.vu s.cu) (ot : OV encT 8 61 (X + 2) wc c1.vt s.ts) :
    Code.wp Try.prog (tailR Try.f28 3) (bodyPost Try.prog Try.f28 fun e w' => ∃ c' s', e = .returned (c'.val s') ∧ StO w.heap.size w' c' s' ∧ Sim s s' ∧ Below w.heap.size w w')
      ⟨#[u0, .pointer (some ⟨X, 0, none⟩), .pointer (some ⟨X + 1, 0, none⟩), u3, u4, u5, u6, u7, u8, u9, u10, u11, u12, u13, u14, u15, u16, u17, u18, u19, u20, u21, u22, u23, u24, u25, u26, u27, u28, u29, u30, u31, u32, u33, u34, u35, u36, u37, u38, u39, u40, u41, u42, u43], []⟩ wc := by
  conv => arg 2; whnf
  conv => arg 4; dsimp only
  have HH := Lib.hid h
  have HL := Lib.hid hl
  have HX := Lib.hid hX
  have HG := Lib.hid og
  have HC := Lib.hid oc
  have HU := Lib.hid ou
  have HT := Lib.hid ot
  have HP := Lib.hid hp
  obtain ⟨ys, hys⟩ := rows_sv h.es
  obtain ⟨n, hn⟩ : ∃ n, ys.length = n := ⟨_, rfl⟩
  have hn1 : n ≤ 5864062014805 := by have := hl.ls; rw [← hys, List.length_map] at this; omega
  have HYS := Lib.hid hys
  have HN := Lib.hid hn
  have CRW := Lib.hid (fun W (hW : Below X w W) => clone_rows W c.vs ys (EV.rows (by rw [HYS.out]; exact (HH.out.below (HX.out ▸ hW)).es.1)) (by omega))
  obtain ⟨b0, b1, b2, b3, b4, b5, b6⟩ := hp.bx.cell
  rw [hvs] at b6
  have hsz := hp.sz
  clear h hl og oc ou ot hys hX hn hvs
  go_wp2_with fail
  refine (CRW.out wc hp.bel).mono ?_
  rintro e w2 ⟨v2, rfl, o2, bb⟩
  obtain ⟨A6, c6, rfl⟩ := (o2.ev encW_len).shape
  rw [HN.out] at o2 ⊢
  have HP2 := Lib.hid (HP.out.below bb)
  have HG2 := Lib.hid (HG.out.below bb)
  have HC2 := Lib.hid (HC.out.below bb)
  have HU2 := Lib.hid (HU.out.below bb)
  have HT2 := Lib.hid (HT.out.below bb)
  have O2 := Lib.hid (o2.base_le hsz)
  obtain ⟨b0, b1, b2, b3, b4, b5, b6⟩ := HP2.out.bx.cell
  have fr := HP2.out.bx.frz 6
  clear HP HG HC HU HT hp o2 bb CRW hsz
  go_upto_block 0 with fail
  have Q0 := Lib.hid (show Cq w X c1 s A6 n c6 ys (w2.setCell ⟨X, 6, none⟩ (.slice A6 n c6)) 0 [] from
    ⟨HP2.out.set rfl, HG2.out.other (by simp) _, HC2.out.other (by simp) _, HU2.out.other (by simp) _, HT2.out.other (by simp) _, O2.out.other (by simp) _, fun _ h => by simp at h, rfl⟩)
  generalize w2.setCell ⟨X, 6, none⟩ (.slice A6 n c6) = w3 at Q0 ⊢
  clear b0 b1 b2 b3 b4 b5 b6 fr HP2 HG2 HC2 HU2 HT2 O2
  go_cut [] (fun wx => ∃ zs, Cq w X c1 s A6 n c6 ys wx n zs)
  case first =>
    go_wp2
    go_loopg [29] n (fun k i wr => ∃ (j : Nat) (zs : List (SV × List Sp)), j + k = n ∧ i = .int .i64 j ∧ Cq w X c1 s A6 n c6 ys wr j zs)
    case atStart => exact ⟨0, [], by omega, rfl, Q0.out⟩
    case round =>
      obtain ⟨j, zs, hj, rfl, hq⟩ := hrel
      have HJ := Lib.hid hj
      have HQ := Lib.hid hq
      clear hj
      by_cases hlt : j < n
      · have hd : decide ((j : Int) < (n : Int)) = true := by rw [decide_eq_true_eq]; omega
        obtain ⟨y, hy⟩ : ∃ y, ys[j]? = some y := ⟨_, List.getElem?_eq_getElem (by rw [HN.out]; omega)⟩
        have hzl := hq.len (by rw [HN.out]; omega)
        obtain ⟨g6, cap, hv, _, _⟩ := hq.os.form (by rw [List.length_append, List.length_drop, HN.out]; omega)
        simp only [Value.slice.injEq] at hv
        obtain ⟨rfl, hz1, hz2⟩ := hv
        clear hz1 hz2
        have hx : (zs ++ ys.drop j)[j]? = some y := by rw [List.getElem?_append_right (by omega), hzl, Nat.sub_self, List.getElem?_drop, Nat.add_zero]; exact hy
        obtain ⟨⟨Ay, ny, cy⟩, ly⟩ := y
        have cg : wr.cell? ⟨g6, j, none⟩ = some (.slice Ay ny cy) := by
          have := hq.os.ev encW_len
          have := this.row3 (by rw [List.length_append, List.length_drop, HN.out]; omega)
          have := this j _ hx 0 _ rfl
          simpa [SV.v] using this
        have hg6 := hq.os.ev encW_len
        have CS := Lib.hid (fun W (hW : Below X w W) => clone_sp W (.slice Ay ny cy) ly (((HH.out.below (HX.out ▸ hW)).es.2 (.slice Ay ny cy, ly) (by rw [← HYS.out]; exact List.mem_map.2 ⟨_, List.mem_of_getElem? hy, rfl⟩)))
          (by have := HL.out.lr (.slice Ay ny cy, ly) (by rw [← HYS.out]; exact List.mem_map.2 ⟨_, List.mem_of_getElem? hy, rfl⟩); dsimp only at this; omega))
        obtain ⟨b0, b1, b2, b3, b4, b5, b6⟩ := hq.hp.bx.cell
        dsimp only at b6
        have HY := Lib.hid hy
        have CG := Lib.hid (fun (W : World) (zs' : List (SV × List Sp)) (hW : Cq w X c1 s (some ⟨g6, 0, none⟩) n c6 ys W j zs') => (show W.cell? ⟨g6, j, none⟩ = some (.slice Ay ny cy) ∧ W.frozen? ⟨g6, j, none⟩ = false ∧ W.cell? ⟨X, 6, none⟩ = some (.slice (some ⟨g6, 0, none⟩) n c6) from by
          have hzl := hW.len (by rw [HN.out]; omega)
          have hx : (zs' ++ ys.drop j)[j]? = some ((Ay, ny, cy), ly) := by rw [List.getElem?_append_right (by omega), hzl, Nat.sub_self, List.getElem?_drop, Nat.add_zero]; exact HY.out
          have := (hW.os.ev encW_len).row3 (by rw [List.length_append, List.length_drop, HN.out]; omega)
          have := this j _ hx 0 _ rfl
          have ho := hW.os
          unfold OV at ho
          rw [show (zs' ++ ys.drop j).length = n by rw [List.length_append, List.length_drop, HN.out]; omega] at ho
          exact ⟨by simpa [SV.v] using this, World.ownsRow.frozenAt ho j, hW.hp.bx.cell.2.2.2.2.2.2⟩))
        clear b0 b1 b2 b3 b4 b5 hy hx hzl hq hg6
        go_upto_block 1 with fail
        go_cut [3] (fun _ wx => ∃ p : SV, Cq w X c1 s (some ⟨g6, 0, none⟩) n c6 ys wx (j + 1) (zs ++ [(p, ly)]))
        case first =>
          go_upto_region 7 with fail
          go_region_with (first
            | (go_at_call 57; refine (CS.out _ HQ.out.drew.hp.bel).mono ?_; rintro e z1 ⟨v1, rfl, o1, q1⟩; obtain ⟨A7, c7, rfl⟩ := (o1.ev encS_len).shape; have O1 := Lib.hid (o1.base_le HQ.out.drew.hp.sz); have Q1 := Lib.hid (HQ.out.drew.below q1); obtain ⟨k1, k2, k3⟩ := CG.out _ _ Q1.out; clear o1 q1))
          all_goals
            go_wp2_with fail
            go_meet
            exact ⟨(A7, ly.length, c7), Q1.out.set (p := (A7, ly.length, c7)) HN.out HY.out O1.out⟩
        case rest =>
        obtain ⟨p, hq⟩ := hcut
        have HQ2 := Lib.hid hq
        clear hq cg b6 CG CS
        go_wp2
        go_roundg (gk - 1)
        case measure => have := HJ.out; omega
        case rel => exact ⟨j + 1, _, by have := HJ.out; omega, by go_num, HQ2.out⟩
      · obtain rfl : j = n := by have := HJ.out; omega
        have hd : decide ((j : Int) < (j : Int)) = false := by simp
        clear hq
        go_wp2
        go_meet
        exact ⟨zs, HQ.out⟩
  case rest =>
  obtain ⟨zs, hq⟩ := hcut
  obtain ⟨b0, b1, b2, b3, b4, b5, b6⟩ := hq.hp.bx.cell
  have z0 := hq.hp.zb
  obtain ⟨z1, z2, z3, z4, z5, z6, z7⟩ := z0.cell
  have f0 := z0.frz 0
  have f1 := z0.frz 1
  have f2 := z0.frz 2
  have f3 := z0.frz 3
  have f4 := z0.frz 4
  have f5 := z0.frz 5
  have f6 := z0.frz 6
  dsimp only at b0 b1 b2 b3 b4 b5 b6
  obtain ⟨Ag, cg, hg⟩ := (hq.og.ev encG_len).shape
  obtain ⟨Ac, cc, hc⟩ := (hq.oc.ev encI_len).shape
  obtain ⟨Au, cu, hu⟩ := (hq.ou.ev encI_len).shape
  obtain ⟨At, ct, ht⟩ := (hq.ot.ev encT_len).shape
  rw [hg] at b2
  rw [hc] at b3
  rw [hu] at b4
  rw [ht] at b5
  have HQ := Lib.hid hq
  have HG := Lib.hid hg
  have HC := Lib.hid hc
  have HU := Lib.hid hu
  have HT := Lib.hid ht
  clear hq hg hc hu ht z0
  go_wp2
  have E7 := Lib.hid (fill7 (B := X + 1) HQ.out.hp.zb (.int .i64 s.n) (.int .u64 s.cr) (.slice Ag s.gs.length cg) (.slice Ac s.cl.length cc) (.slice Au s.cu.length cu) (.slice At s.ts.length ct) (.slice A6 n c6))
  clear z1 z2 z3 z4 z5 z6 z7 f0 f1 f2 f3 f4 f5 f6 b0 b1 b2 b3 b4 b5 b6
  refine bodyPost_ret (results_cell_row rfl _ _ (X + 1) _ _ _ _ rfl E7.out Try.underlying38 rfl (by kernel_rfl)) rfl ?_
  have hb : X + 1 < X + 2 := by omega
  have eqs : s.ss.map Prod.snd = zs.map Prod.snd := by
    rw [HQ.out.eq, ← HN.out, List.take_length, ← HYS.out, List.map_map]; rfl
  refine ⟨⟨.slice Ag s.gs.length cg, .slice Ac s.cl.length cc, .slice Au s.cu.length cu, .slice At s.ts.length ct, .slice A6 n c6⟩, { s with ss := zs.map rowOf }, rfl, ?_, ⟨rfl, rfl, rfl, rfl, rfl, rfl, ?_⟩, ?_⟩
  · rw [HX.out]
    have o := HQ.out.os
    rw [← HN.out, List.drop_length, List.append_nil, HN.out] at o
    refine ⟨?_, ?_, ?_, ?_, ?_, fun x hx => ?_⟩
    · exact (of7 (HG.out ▸ HQ.out.og) hb _ _ _ _ _ _ _).base_le (by omega)
    · exact (of7 (HC.out ▸ HQ.out.oc) hb _ _ _ _ _ _ _).base_le (by omega)
    · exact (of7 (HU.out ▸ HQ.out.ou) hb _ _ _ _ _ _ _).base_le (by omega)
    · exact (of7 (HT.out ▸ HQ.out.ot) hb _ _ _ _ _ _ _).base_le (by omega)
    · exact (of7 o.rows hb _ _ _ _ _ _ _).base_le (by omega)
    · obtain ⟨y, hy, rfl⟩ := List.mem_map.1 hx
      exact (of7 (HQ.out.orr y hy) hb _ _ _ _ _ _ _).base_le (by omega)
  · rw [eqs, List.map_map]; rfl
  · rw [HX.out]
    exact ((((((HQ.out.hp.bel.setCell (by simp) _).setCell (by simp) _).setCell (by simp) _).setCell (by simp) _).setCell (by simp) _).setCell (by simp) _).setCell (by simp) _
end Go.Proofs.Ytenngfkgfdogjaa

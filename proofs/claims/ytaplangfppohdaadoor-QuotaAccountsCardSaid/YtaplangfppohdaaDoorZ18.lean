/- QuotaSpreads: two ticks one after the other. -/
import Derived.Test.YtaplangfppohdaaDoorZ17
set_option linter.unusedVariables false
set_option linter.unusedSimpArgs false
set_option linter.unusedSectionVars false
namespace Go.Proofs.YtaplangfppohdaaDoor
open Go.RowKit Go.Shelf
attribute [local go_sem] Oper.semAt_some

theorem sp_good {t n p : Nat} (h1 : 1 ≤ n) (h2 : n ≤ 5000) (h3 : n ≤ t) (h4 : t ≤ 8589934592) (h5 : 1 ≤ p) (h6 : p ≤ 4294967296) : spE (t : Int) (n : Int) (p : Int) = 0 ∧ spL (t : Int) (n : Int) (p : Int) = prt t (t - n) p := by
  have hm := manyN_le2 (t := t) (n := n) (p := p) h1 h3 h5
  have h0 : spE (t : Int) (n : Int) (p : Int) = 0 := by
    unfold spE
    rw [if_neg (fun h => h ⟨by omega, by omega, by omega⟩), Int.toNat_natCast, Int.toNat_natCast, Int.toNat_natCast, if_neg (by omega)]
  exact ⟨h0, by unfold spL; rw [if_pos h0, Int.toNat_natCast, Int.toNat_natCast, Int.toNat_natCast, partsL_prt]⟩
theorem prt_small {t a p : Nat} (ha : a < t) (h : t - a ≤ 5000) (hp : 1 ≤ p) : nP t a p ≤ 5000 := by
  have hm := manyN_le2 (t := t) (n := t - a) (p := p) (by omega) (by omega) hp
  have : manyN t (t - a) p = nP t a p := by unfold manyN nP; rw [show t - (t - a) = a by omega]
  omega
theorem partI_fst {t a p k : Nat} : (partI t a p k).1 = ((a / p + k : Nat) : Int) := rfl
theorem partI_snd {t a p k : Nat} (hp : 1 ≤ p) (ha : a < t) (hk : k < nP t a p) : 1 ≤ (partI t a p k).2 ∧ (partI t a p k).2 ≤ p ∧ (0 < k → k + 1 < nP t a p → (partI t a p k).2 = p) := by
  obtain ⟨f1, f2, f3, f4⟩ := cutA_facts (t := t) (a := a) (p := p) (k := k) hp ha rfl hk
  have h5 : (a / p + k) * p ≤ cutA t a p k := by rw [← f2]; exact Nat.div_mul_le_self _ _
  have h6 : (a / p + k + 1) * p = (a / p + k) * p + p := by rw [Nat.add_mul, Nat.one_mul]
  refine ⟨?_, ?_, fun h0 h1 => ?_⟩
  · show 1 ≤ ((cutA t a p (k + 1) : Nat) : Int) - (cutA t a p k : Nat); omega
  · show ((cutA t a p (k + 1) : Nat) : Int) - (cutA t a p k : Nat) ≤ p; omega
  · show ((cutA t a p (k + 1) : Nat) : Int) - (cutA t a p k : Nat) = p
    have e1 := cut_mid hp ha h0 hk
    have e2 := cut_mid hp ha (k := k + 1) (by omega) h1
    rw [← Nat.add_assoc] at e2
    omega
theorem last_fst {m a p : Nat} (h : a < m) : a / p + (nP m a p - 1) = (m - 1) / p := by
  have h1 : a / p ≤ (m - 1) / p := Nat.div_le_div_right (by omega)
  unfold nP; omega

/-- The numbers of the law. -/
structure MidN (n t p k c a m : Nat) : Prop where
  n2 : 2 ≤ n ∧ n ≤ 5000
  t2 : n ≤ t ∧ t ≤ 8589934592
  p2 : 1 ≤ p ∧ p ≤ 4294967296
  c2 : c < 65536
  k2 : k = 1 + c % (n - 1)
  a2 : a = t - n
  m2 : m = a + k
section
variable {n t p k c a m : Nat} (h : MidN n t p k c a m)
include h
theorem MidN.lt : a < m ∧ m < t ∧ t - a ≤ 5000 ∧ 1 ≤ p ∧ 1 ≤ k ∧ k + 1 ≤ n := by
  obtain ⟨h1, h2, h3, h4, h5, h6, h7⟩ := h
  have := Nat.mod_lt c (show 0 < n - 1 by omega)
  omega
theorem MidN.call1 (wx : World) : Calls Tryd.prog 18 #[.int .i64 ((t : Int) - n + (1 + (c : Int) % ((n - 1 : Nat) : Int))), .int .i64 (1 + (c : Int) % ((n - 1 : Nat) : Int)), .int .i64 p] wx
    fun e w' => ∃ r, e = .returned (.tuple #[r, .int .i64 0]) ∧ OV encG 2 27 wx.heap.size w' r (prt m a p) ∧ Below wx.heap.size wx w' := by
  have hl := h.lt
  obtain ⟨h1, h2, h3, h4, h5, h6, h7⟩ := h
  have g := sp_good (t := m) (n := k) (p := p) (by omega) (by omega) (by omega) (by omega) h3.1 h3.2
  rw [show m - k = a by omega] at g
  have hc := spread_ok wx (m : Int) (k : Int) (p : Int)
  rw [g.1, g.2] at hc
  rw [show 1 + (c : Int) % ((n - 1 : Nat) : Int) = (k : Nat) by omega, show (t : Int) - n + (k : Nat) = (m : Nat) by omega]
  exact hc
theorem MidN.call2 (wx : World) : Calls Tryd.prog 18 #[.int .i64 t, .int .i64 ((n : Int) - (1 + (c : Int) % ((n - 1 : Nat) : Int))), .int .i64 p] wx
    fun e w' => ∃ r, e = .returned (.tuple #[r, .int .i64 0]) ∧ OV encG 2 27 wx.heap.size w' r (prt t m p) ∧ Below wx.heap.size wx w' := by
  have hl := h.lt
  obtain ⟨h1, h2, h3, h4, h5, h6, h7⟩ := h
  have g := sp_good (t := t) (n := n - k) (p := p) (by omega) (by omega) (by omega) (by omega) h3.1 h3.2
  rw [show t - (n - k) = m by omega] at g
  have hc := spread_ok wx (t : Int) ((n - k : Nat) : Int) (p : Int)
  rw [g.1, g.2] at hc
  rw [show 1 + (c : Int) % ((n - 1 : Nat) : Int) = (k : Nat) by omega, show (n : Int) - (k : Nat) = ((n - k : Nat) : Int) by omega]
  exact hc
theorem MidN.sizes : nP m a p ≤ 5000 ∧ nP t m p ≤ 5000 := by
  have hl := h.lt
  exact ⟨prt_small hl.1 (by omega) hl.2.2.2.1, prt_small hl.2.1 (by omega) hl.2.2.2.1⟩
end

set_option maxRecDepth 100000 in
set_option maxHeartbeats 3200000 in
theorem qs_mid (w w1 : World) (n t p k c a m nl cl NA NB : Nat) (Al : Option Addr) (Post : Ending → World → Prop) {u0 u1 u3 u4 u5 u6 u7 u8 u13 u15 u16 u17 u18 u19 u20 u21 u22 u23 u24 u25 u26 u27 u28 u29 u30 u31 u32 u33 u34 u35 u36 u37 u38 u39 u40 u41 u42 u43 u44 u45 u46 u47 u48 u49 u50 u51 u52 u53 u54 u55 u56 u57 u58 u59 u60 u61 u62 u63 u64 u65 u66 u67 u68 u69 u70 u71 u72 u73 u74 u75 u76 u77 u78 u79 u80 u81 u82 u83 u84 u85 u86 u87 u88 u89 u90 u91 u92 u93 u94 u95 u96 u97 u98 u99 u100 u101 u102 u103 u104 u105 u106 u107 u108 u109 u110 u111 u112 u113 u114 u115 u116 u117 u118 u119 u120 u121 u122 u123 u124 u125 u126 u127 u128 u129 u130 u131 u132 u133 u134 u135 u136 u137 u138 u139 u140 u141 u142 u143 u144 u145 u146 u147 u148 u149 u150 u151 u152 u153 u154 u155 u156 u157 u158 u159 u160 u161 u162 u163 u164 u165 u166 u167 u168 u169 u170 u171 u172 u173 u174 u175 u176 u177 u178 u179 u180 u181 u182 u183 u184 u185 u186 u187 u188 u189 u190 u191 u192 u193 u194 u195 u196 u197 u198 u199 u200 u201 u202 u203 u204 u205 u206 u207 u208 u209 u210 : Value}
    (HA : Hid (MidN n t p k c a m)) (HZ : Hid (EV encG 2 w1 (.slice Al nl cl) (prt t a p))) (HNL : Hid (nP t a p = nl)) (HNA : Hid (nP m a p = NA + 1)) (HNB : Hid (nP t m p = NB + 1)) (HB : Hid (Below w.heap.size w w1))
    (FIN : Hid (∀ w', Below w.heap.size w w' → Post (.returned (.bool true)) w')) :
    Code.wp Tryd.prog (tailR Tryd.f8 16) (bodyPost Tryd.prog Tryd.f8 Post) ⟨#[u0, u1, .int .u16 (c : Nat), u3, u4, u5, u6, u7, u8, .int .i64 (n : Nat), .int .i64 (t : Nat), .int .i64 (p : Nat), .slice Al nl cl, u13, .int .i64 (n : Nat), u15, u16, u17, u18, u19, u20, u21, u22, u23, u24, u25, u26, u27, u28, u29, u30, u31, u32, u33, u34, u35, u36, u37, u38, u39, u40, u41, u42, u43, u44, u45, u46, u47, u48, u49, u50, u51, u52, u53, u54, u55, u56, u57, u58, u59, u60, u61, u62, u63, u64, u65, u66, u67, u68, u69, u70, u71, u72, u73, u74, u75, u76, u77, u78, u79, u80, u81, u82, u83, u84, u85, u86, u87, u88, u89, u90, u91, u92, u93, u94, u95, u96, u97, u98, u99, u100, u101, u102, u103, u104, u105, u106, u107, u108, u109, u110, u111, u112, u113, u114, u115, u116, u117, u118, u119, u120, u121, u122, u123, u124, u125, u126, u127, u128, u129, u130, u131, u132, u133, u134, u135, u136, u137, u138, u139, u140, u141, u142, u143, u144, u145, u146, u147, u148, u149, u150, u151, u152, u153, u154, u155, u156, u157, u158, u159, u160, u161, u162, u163, u164, u165, u166, u167, u168, u169, u170, u171, u172, u173, u174, u175, u176, u177, u178, u179, u180, u181, u182, u183, u184, u185, u186, u187, u188, u189, u190, u191, u192, u193, u194, u195, u196, u197, u198, u199, u200, u201, u202, u203, u204, u205, u206, u207, u208, u209, u210], []⟩ w1 := by
  conv => arg 2; whnf
  conv => arg 4; dsimp only
  obtain ⟨a1, a2⟩ := HA.out.n2
  obtain ⟨a3, a4⟩ := HA.out.t2
  have a7 := HA.out.c2
  have hz : ¬ ((n : Int) - 1 = 0) := by omega
  have hw1 : wrap64 ((n : Int) - 1) = (n : Int) - 1 := IntWalk.wrap64_in _ (by omega)
  have hmod : (c : Int) % ((n : Int) - 1) = ((c % (n - 1) : Nat) : Int) := by
    rw [show (n : Int) - 1 = ((n - 1 : Nat) : Int) by omega]; omega
  have hmt : Int.tmod (c : Int) ((n : Int) - 1) = ((c % (n - 1) : Nat) : Int) := by
    rw [Int.tmod_eq_emod_of_nonneg (by omega), hmod]
  have hcb : c % (n - 1) + 1 < n := by
    have := Nat.mod_lt c (show 0 < n - 1 by omega)
    omega
  go_wp2_with fail
  refine Calls.mono (HA.out.call1 _) ?_
  rintro e w2 ⟨ra, rfl, oa, ba⟩
  obtain ⟨ga, ca, rfl, hca, hga1, hga2⟩ := oa.row_form encG_len (n := NA + 1) (by rw [prt_len, HNA.out]) (by omega)
  have HEA := Lib.hid (oa.ev encG_len)
  have HZ2 := Lib.hid (HZ.out.below ba)
  have HB2 := Lib.hid (HB.out.trans (ba.mono HB.out.size))
  clear oa ba hga1 hga2
  clear hmt hmod hw1 hz
  go_wp2_with fail
  refine Calls.mono (HA.out.call2 _) ?_
  rintro e w3 ⟨rb, rfl, ob, bb⟩
  obtain ⟨gb, cb, rfl, hcb2, hgb1, hgb2⟩ := ob.row_form encG_len (n := NB + 1) (by rw [prt_len, HNB.out]) (by omega)
  have HEA3 := Lib.hid (HEA.out.below bb)
  have HZ3 := Lib.hid (HZ2.out.below bb)
  have HB3 := Lib.hid (HB2.out.trans (bb.mono HB2.out.size))
  have HOB := Lib.hid ob
  have HBB := Lib.hid bb
  have HGB := Lib.hid (And.intro hgb1 hgb2)
  have HSZ := Lib.hid (show NA + 1 ≤ 5000 ∧ NB + 1 ≤ 5000 from by rw [← HNA.out, ← HNB.out]; exact HA.out.sizes)
  clear ob bb hgb1 hgb2 hcb a1 a2 a3 a4 a7
  obtain ⟨p0, p1⟩ : w3.cell? ⟨ga, NA * 2, none⟩ = some (.int .i64 (partI m a p NA).1) ∧ w3.cell? ⟨ga, NA * 2 + 1, none⟩ = some (.int .i64 (partI m a p NA).2) := by
    obtain ⟨b1, o1, c1, hs1, _, ra⟩ := HEA3.out.row (by rw [prt_len, HNA.out]; omega)
    simp only [Value.slice.injEq, Option.some.injEq, Addr.mk.injEq] at hs1
    obtain ⟨⟨rfl, rfl, _⟩, _, _⟩ := hs1
    have := ra.pt (prt_at (k := NA) (by rw [HNA.out]; omega))
    simpa only [Nat.zero_add] using this
  obtain ⟨q0, q1⟩ : w3.cell? ⟨gb, 0, none⟩ = some (.int .i64 (partI t m p 0).1) ∧ w3.cell? ⟨gb, 1, none⟩ = some (.int .i64 (partI t m p 0).2) := by
    obtain ⟨b2, o2, c2, hs2, _, rb⟩ := (HOB.out.ev encG_len).row (by rw [prt_len, HNB.out]; omega)
    simp only [Value.slice.injEq, Option.some.injEq, Addr.mk.injEq] at hs2
    obtain ⟨⟨rfl, rfl, _⟩, _, _⟩ := hs2
    have := rb.pt (prt_at (k := 0) (by rw [HNB.out]; omega))
    simpa only [Nat.zero_add, Nat.zero_mul] using this
  have hsz := HSZ.out
  have hwl : wrap64 ((NA : Int) + 1 - 1) = (NA : Int) := by rw [IntWalk.wrap64_in _ (by omega)]; omega
  have hwl2 : wrap64 (NA : Int) = (NA : Int) := IntWalk.wrap64_in _ (by omega)
  have hlt : (NA : Int) < (NA : Int) + 1 := by omega
  have hlt2 : (0 : Int) < (NB : Int) + 1 := by omega
  have hA0 : ((NA : Int) + 1 == 0) = false := by simp; omega
  have hB0 : ((NB : Int) + 1 == 0) = false := by simp; omega
  have hA1 : ¬ ((NA : Int) + 1 = 0) := by omega
  have hB1 : ¬ ((NB : Int) + 1 = 0) := by omega
  obtain ⟨x0, hx0⟩ : ∃ x, x = (partI m a p NA).1 := ⟨_, rfl⟩
  obtain ⟨x1, hx1⟩ : ∃ x, x = (partI m a p NA).2 := ⟨_, rfl⟩
  obtain ⟨y0, hy0⟩ : ∃ x, x = (partI t m p 0).1 := ⟨_, rfl⟩
  obtain ⟨y1, hy1⟩ : ∃ x, x = (partI t m p 0).2 := ⟨_, rfl⟩
  rw [← hx0] at p0
  rw [← hx1] at p1
  rw [← hy0] at q0
  rw [← hy1] at q1
  have HX := Lib.hid (And.intro hx0 (And.intro hx1 (And.intro hy0 hy1)))
  clear hx0 hx1 hy0 hy1
  go_wp2_with fail
  have HL := Lib.hid HA.out.lt
  have HX0 := Lib.hid (show x0 = (((m - 1) / p : Nat) : Int) from by rw [HX.out.1, partI_fst, ← last_fst (m := m) (a := a) (p := p) HL.out.1, HNA.out, Nat.add_sub_cancel])
  have HY0 := Lib.hid (show y0 = ((m / p : Nat) : Int) from by rw [HX.out.2.2.1, partI_fst, Nat.add_zero])
  have HDS := Lib.hid (div_step (m := m) (p := p) HL.out.2.2.2.1 (by have := HL.out; omega))
  by_cases he : x0 = y0
  · have HMM := Lib.hid (show m / p = (m - 1) / p from by have h1 := HX0.out; have h2 := HY0.out; omega)
    subst he
    go_quiet (fail)
    generalize hw4 : w3.drewN nq = w4
    have hb4 : Below w3.heap.size w3 w4 := by rw [← hw4]; exact below_drewN (Below.refl _ _) _
    have HOB4 := Lib.hid (show OV encG 2 27 w2.heap.size w4 (.slice (some ⟨gb, 0, none⟩) (NB + 1) cb) (prt t m p) from by rw [← hw4]; exact HOB.out.drewN nq)
    replace p1 := below_cell hb4 p1
    replace q1 := below_cell hb4 q1
    have fz : w4.frozen? ⟨gb, 1, none⟩ = false := HOB4.out.frz (by rw [prt_len, HNB.out]) 1
    have HB4 := Lib.hid (hb4.mono HBB.out.size)
    clear hw4 hb4 p0 q0
    go_upto_if 180 with fail
    go_cut [18] (fun va wx => va = .slice (some ⟨ga, 0, none⟩) NA ca ∧ Below w2.heap.size w3 wx ∧ EV encG 2 wx (.slice (some ⟨gb, 0, none⟩) (NB + 1) cb) ((prt t m p).set 0 (x0, y1 + x1)))
    case first =>
      have hb1 := (partI_snd (k := NA) HL.out.2.2.2.1 HL.out.1 (by rw [HNA.out]; omega))
      have hb2 := (partI_snd (k := 0) HL.out.2.2.2.1 HL.out.2.1 (by rw [HNB.out]; omega))
      have hbp := HA.out.p2
      rw [← HX.out.2.1] at hb1
      rw [← HX.out.2.2.2] at hb2
      have hs1 : -9223372036854775808 ≤ y1 + x1 ∧ y1 + x1 ≤ 9223372036854775807 := by omega
      have hs2 : IntKind.i64.wrap (y1 + x1) = y1 + x1 := IntWalk.i64_in _ hs1
      have hs3 : IntKind.i64.wrap ((NA : Int) + 1 - 1) = (NA : Int) := by rw [IntWalk.i64_in _ (by omega)]; omega
      have hs4 : IntKind.i64.wrap (NA : Int) = (NA : Int) := IntWalk.i64_in _ (by omega)
      have hs5 : (0 : Int) ≤ (NA : Int) := by omega
      have hs6 : ((NA : Int)).toNat = NA := by omega
      clear hb1 hb2 hbp
      go_wp2_with fail
      go_still_tail 12, (by kernel_rfl)
      change wpList _ _ _ _ _ w4.drew
      have HO5 := Lib.hid HOB4.out.drew
      have HB5 := Lib.hid (below_drew HB4.out)
      replace p1 : w4.drew.cell? ⟨ga, NA * 2 + 1, none⟩ = some (.int .i64 x1) := p1
      replace q1 : w4.drew.cell? ⟨gb, 1, none⟩ = some (.int .i64 y1) := q1
      replace fz : w4.drew.frozen? ⟨gb, 1, none⟩ = false := fz
      generalize w4.drew = wd at HO5 HB5 p1 q1 fz ⊢
      have HFE := Lib.hid (HO5.out.setF encG_len (i := 0) (by rw [prt_len, HNB.out]) (prt_at (by rw [HNB.out]; omega)) (j := 1) (by omega) (x0, y1 + x1) (.int .i64 (y1 + x1)) (by rw [HX.out.2.2.1]; rfl))
      have HBW := Lib.hid (HB5.out.grown HFE.out.2 (Nat.le_trans HBB.out.size HB5.out.size) (fun k hk => by cases hk; exact HGB.out.1))
      go_wp2_with fail
      go_meet
      exact ⟨rfl, HBW.out, HFE.out.1.ev encG_len⟩
    case rest =>
      obtain ⟨rfl, hbw, hev⟩ := hcut
      have hbb := HBB.out.trans hbw
      have HTK := Lib.hid (EV.row_take (j := NA) HEA.out (by rw [prt_len, HNA.out]; omega) (by rw [prt_len, HNA.out]))
      have HMT := Lib.hid (prt_meet HL.out.2.2.2.1 HL.out.1 HL.out.2.1 HMM.out)
      rw [HNA.out, Nat.add_sub_cancel, ← HX.out.2.1, ← HX.out.2.2.1, ← HX.out.2.2.2] at HMT
      refine (‹∀ (a : Act) (w : World), Code.wp _ _ _ a w → _› : ∀ (a : Act) (w : World), _ → _) _ _ (qs_end w _ n NA (NB + 1) nl ca cb cl _ _ Al ((prt m a p).take NA) ((prt t m p).set 0 (x0, y1 + x1)) (prt t a p) Post (Lib.hid ?_) (Lib.hid hev) (Lib.hid ?_)
        (Lib.hid ⟨by rw [List.length_take, prt_len, HNA.out]; omega, by rw [List.length_set, prt_len, HNB.out], by rw [prt_len, HNL.out], by have := HSZ.out; omega, by have := HSZ.out; omega⟩) HMT (Lib.hid (HB2.out.trans (hbb.mono HB2.out.size))) FIN)
      · exact HTK.out.below hbb
      · exact HZ2.out.below hbb
  · have HMM := Lib.hid (show m / p = (m - 1) / p + 1 ∧ m / p * p = m from by
      rcases HDS.out with h | h
      · exact absurd (by rw [HX0.out, HY0.out, h]) he
      · exact h)
    have he2 : (x0 == y0) = false := by simpa using he
    go_quiet (fail)
    generalize hw4 : w3.drewN nq = w4
    have hb4 : Below w3.heap.size w3 w4 := by rw [← hw4]; exact below_drewN (Below.refl _ _) _
    have HB4 := Lib.hid hb4
    clear hw4 hb4 p0 p1 q0 q1
    go_upto_if 180 with fail
    go_cut [18] (fun va wx => va = .slice (some ⟨ga, 0, none⟩) (NA + 1) ca ∧ wx = w4)
    case first =>
      go_wp2_with fail
      go_meet
      exact ⟨rfl, rfl⟩
    case rest =>
      obtain ⟨rfl, rfl⟩ := hcut
      refine (‹∀ (a : Act) (w : World), Code.wp _ _ _ a w → _› : ∀ (a : Act) (w : World), _ → _) _ _ (qs_end w _ n (NA + 1) (NB + 1) nl ca cb cl _ _ Al (prt m a p) (prt t m p) (prt t a p) Post (Lib.hid (HEA3.out.below HB4.out)) (Lib.hid ((HOB.out.ev encG_len).below HB4.out)) (Lib.hid (HZ3.out.below HB4.out))
        (Lib.hid ⟨by rw [prt_len, HNA.out], by rw [prt_len, HNB.out], by rw [prt_len, HNL.out], by have := HSZ.out; omega, by have := HSZ.out; omega⟩) (Lib.hid (prt_split HL.out.2.2.2.1 HL.out.1 HL.out.2.1 HMM.out.1 HMM.out.2)) (Lib.hid (HB3.out.trans (HB4.out.mono HB3.out.size))) FIN)
end Go.Proofs.YtaplangfppohdaaDoor

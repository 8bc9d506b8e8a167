/- QuotaSpreads: the loop over the parts, and the law | QuotaSpreads: the law's first test, plain | QuotaSpreads: the law. -/
import Derived.Test.YtaplangfppohdaaDoorZ18
import Derived.Test.YtaplangfppohdaaDoorZ15
set_option linter.unusedVariables false
set_option linter.unusedSimpArgs false
set_option linter.unusedSectionVars false
namespace Go.Proofs.YtaplangfppohdaaDoor
open Go.RowKit Go.Shelf
attribute [local go_sem] Oper.semAt_some

theorem cut_sum {t a p k : Nat} (hp : 1 ≤ p) (ha : a < t) (hk : k < nP t a p) : ((cutA t a p (k + 1) - a : Nat) : Int) = ((cutA t a p k - a : Nat) : Int) + (partI t a p k).2 ∧ a ≤ cutA t a p k ∧ cutA t a p (k + 1) ≤ t := by
  obtain ⟨f1, f2, f3, f4⟩ := cutA_facts (t := t) (a := a) (p := p) (k := k) hp ha rfl hk
  have h0 : a ≤ cutA t a p k := by
    rcases Nat.eq_zero_or_pos k with rfl | h
    · exact Nat.le_refl _
    · rw [cut_mid hp ha h hk]
      have := Nat.lt_mul_div_succ a (show 0 < p by omega)
      rw [Nat.mul_comm] at this
      have h2 : (a / p + 1) * p ≤ (a / p + k) * p := Nat.mul_le_mul_right p (by omega)
      omega
  refine ⟨?_, h0, by rw [f3]; exact Nat.min_le_right _ _⟩
  show _ = _ + (((cutA t a p (k + 1) : Nat) : Int) - (cutA t a p k : Nat))
  omega
set_option maxRecDepth 100000 in
set_option maxHeartbeats 3200000 in
theorem qs_loop (w w1 : World) (n t p k c a m N cl b off NA NB : Nat) (Post : Ending → World → Prop) {u0 u1 u3 u4 u5 u6 u7 u8 u13 u14 u15 u16 u17 u18 u19 u20 u21 u22 u23 u24 u25 u26 u27 u28 u29 u30 u31 u32 u33 u34 u35 u36 u37 u38 u39 u40 u41 u42 u43 u44 u45 u46 u47 u48 u49 u50 u51 u52 u53 u54 u55 u56 u57 u58 u59 u60 u61 u62 u63 u64 u65 u66 u67 u68 u69 u70 u71 u72 u73 u74 u75 u76 u77 u78 u79 u80 u81 u82 u83 u84 u85 u86 u87 u88 u89 u90 u91 u92 u93 u94 u95 u96 u97 u98 u99 u100 u101 u102 u103 u104 u105 u106 u107 u108 u109 u110 u111 u112 u113 u114 u115 u116 u117 u118 u119 u120 u121 u122 u123 u124 u125 u126 u127 u128 u129 u130 u131 u132 u133 u134 u135 u136 u137 u138 u139 u140 u141 u142 u143 u144 u145 u146 u147 u148 u149 u150 u151 u152 u153 u154 u155 u156 u157 u158 u159 u160 u161 u162 u163 u164 u165 u166 u167 u168 u169 u170 u171 u172 u173 u174 u175 u176 u177 u178 u179 u180 u181 u182 u183 u184 u185 u186 u187 u188 u189 u190 u191 u192 u193 u194 u195 u196 u197 u198 u199 u200 u201 u202 u203 u204 u205 u206 u207 u208 u209 u210 : Value}
    (HA : Hid (MidN n t p k c a m)) (HZ : Hid (EV encG 2 w1 (.slice (some ⟨b, off, none⟩) N cl) (prt t a p))) (HR : Hid (ER encG 2 w1 b off (prt t a p))) (HNL : Hid (nP t a p = N)) (HNA : Hid (nP m a p = NA + 1)) (HNB : Hid (nP t m p = NB + 1)) (HB : Hid (Below w.heap.size w w1))
    (FIN : Hid (∀ w', Below w.heap.size w w' → Post (.returned (.bool true)) w')) :
    Code.wp Tryd.prog (tailR Tryd.f8 8) (bodyPost Tryd.prog Tryd.f8 Post) ⟨#[u0, u1, .int .u16 (c : Nat), u3, u4, u5, u6, u7, u8, .int .i64 (n : Nat), .int .i64 (t : Nat), .int .i64 (p : Nat), .slice (some ⟨b, off, none⟩) N cl, u13, u14, u15, u16, u17, u18, u19, u20, u21, u22, u23, u24, u25, u26, u27, u28, u29, u30, u31, u32, u33, u34, u35, u36, u37, u38, u39, u40, u41, u42, u43, u44, u45, u46, u47, u48, u49, u50, u51, u52, u53, u54, u55, u56, u57, u58, u59, u60, u61, u62, u63, u64, u65, u66, u67, u68, u69, u70, u71, u72, u73, u74, u75, u76, u77, u78, u79, u80, u81, u82, u83, u84, u85, u86, u87, u88, u89, u90, u91, u92, u93, u94, u95, u96, u97, u98, u99, u100, u101, u102, u103, u104, u105, u106, u107, u108, u109, u110, u111, u112, u113, u114, u115, u116, u117, u118, u119, u120, u121, u122, u123, u124, u125, u126, u127, u128, u129, u130, u131, u132, u133, u134, u135, u136, u137, u138, u139, u140, u141, u142, u143, u144, u145, u146, u147, u148, u149, u150, u151, u152, u153, u154, u155, u156, u157, u158, u159, u160, u161, u162, u163, u164, u165, u166, u167, u168, u169, u170, u171, u172, u173, u174, u175, u176, u177, u178, u179, u180, u181, u182, u183, u184, u185, u186, u187, u188, u189, u190, u191, u192, u193, u194, u195, u196, u197, u198, u199, u200, u201, u202, u203, u204, u205, u206, u207, u208, u209, u210], []⟩ w1 := by
  conv => arg 2; whnf
  conv => arg 4; dsimp only
  have HL := Lib.hid HA.out.lt
  have HN5 := Lib.hid (show N ≤ 5000 from by rw [← HNL.out]; have := HL.out; exact prt_small (by omega) this.2.2.1 this.2.2.2.1)
  go_upto_block 0 with fail
  go_cut [14] (fun v wx => v = .int .i64 (n : Nat) ∧ Below w1.heap.size w1 wx)
  case first =>
    go_wp2
    go_loopg [14, 77] N (fun k v i wr => ∃ j : Nat, j + k = N ∧ i = .int .i64 j ∧ v = .int .i64 ((cutA t a p j - a : Nat) : Int) ∧ Below w1.heap.size w1 wr)
    case atStart => exact ⟨0, by omega, rfl, by rw [cut_zero, Nat.sub_self]; rfl, Below.refl _ _⟩
    case round =>
      obtain ⟨j, hj, rfl, rfl, hb⟩ := hrel
      have HJ := Lib.hid hj
      have HBW := Lib.hid hb
      clear hj hb
      by_cases hlt : j < N
      · have hsum := cut_sum (t := t) (a := a) (p := p) (k := j) HL.out.2.2.2.1 (by have := HL.out; omega) (by rw [HNL.out]; exact hlt)
        have hsnd := partI_snd (t := t) (a := a) (p := p) (k := j) HL.out.2.2.2.1 (by have := HL.out; omega) (by rw [HNL.out]; exact hlt)
        have HS := Lib.hid hsum.1
        have ht := HA.out.t2
        have hn2 := HA.out.n2
        have hpp := HA.out.p2
        obtain ⟨c0, c1⟩ := (HR.out.below HBW.out).pt (prt_at (t := t) (a := a) (p := p) (k := j) (by rw [HNL.out]; exact hlt))
        have HPR := Lib.hid (fun (q : Nat) (hq : q < N) => ((HR.out.below HBW.out).pt (prt_at (t := t) (a := a) (p := p) (k := q) (by rw [HNL.out]; exact hq))).1)
        have hz : 0 ≤ ((cutA t a p j - a : Nat) : Int) ∧ ((cutA t a p j - a : Nat) : Int) ≤ 8589934592 := by omega
        rw [HNL.out] at hsnd
        generalize ((cutA t a p j - a : Nat) : Int) = z at HS hz ⊢
        rw [partI_fst] at c0
        generalize (partI t a p j).2 = T at hsnd HS c1
        obtain ⟨⟨s1, s2⟩, s3⟩ : (1 ≤ T ∧ T ≤ p) ∧ (0 < j → j + 1 < N → T = p) := ⟨⟨hsnd.1, hsnd.2.1⟩, hsnd.2.2⟩
        have HS3 := Lib.hid s3
        obtain ⟨z1, z2⟩ := hz
        clear hsum hsnd ht hn2 s3
        obtain ⟨A, hA⟩ : ∃ A, A = a / p := ⟨_, rfl⟩
        have HAP := Lib.hid (show A ≤ 8589934592 from by rw [hA]; have := Nat.div_le_self a p; have := HL.out; have := HA.out.t2; omega)
        rw [← hA] at c0
        have HPR2 := Lib.hid (fun (q : Nat) (hq : q < N) => (show wr.cell? ⟨b, off + q * 2, none⟩ = some (.int .i64 ((A + q : Nat) : Int)) from by have := HPR.out q hq; rw [partI_fst, ← hA] at this; exact this))
        clear hA HPR
        go_upto_region 13 with fail
        obtain ⟨B, hB⟩ : ∃ B, B = wr.heap.size := ⟨_, rfl⟩
        have hbel := bel_alloc wr (.cells #[.int .i64 ((A : Int) + (j : Int)), .int .i64 T] 27)
        have b0 : (wr.alloc (.cells #[.int .i64 ((A : Int) + (j : Int)), .int .i64 T] 27)).cell? ⟨B, 0, none⟩ = some (.int .i64 ((A : Int) + (j : Int))) := by rw [hB]; go_simp
        have b1 : (wr.alloc (.cells #[.int .i64 ((A : Int) + (j : Int)), .int .i64 T] 27)).cell? ⟨B, 1, none⟩ = some (.int .i64 T) := by rw [hB]; go_simp
        have HPR3 := Lib.hid (fun (q : Nat) (hq : q < N) => below_cell hbel (HPR2.out q hq))
        have HB2 := Lib.hid (HBW.out.trans (hbel.mono HBW.out.size))
        rw [← hB]
        clear c0 c1 hbel hB HPR2
        generalize wr.alloc (.cells #[.int .i64 ((A : Int) + (j : Int)), .int .i64 T] 27) = w2 at b0 b1 HPR3 HB2 ⊢
        have hap := HAP.out
        have hn5 := HN5.out
        have hT1 : decide (T < 1) = false := by simp; omega
        have hTp : decide ((p : Int) < T) = false := by simp; omega
        have FINR := Lib.hid (fun (nq : Nat) => (show Below w1.heap.size w1 (w2.drewN nq) from below_drewN HB2.out _))
        rcases j with _ | q
        · go_quiet (fail)
          go_wp2
          go_roundg (gk - 1)
          case measure => have := HJ.out; omega
          case rel => exact ⟨1, by have := HJ.out; omega, by go_num, by rw [HS.out], FINR.out _⟩
        · have r0 := HPR3.out q (by omega)
          have hg0 : decide ((0 : Int) < (q : Int) + 1) = true := decide_eq_true (by omega)
          have hw0 : wrap64 ((q : Int) + 1 - 1) = (q : Int) := by rw [IntWalk.wrap64_in _ (by omega)]; omega
          have hw1 : wrap64 (q : Int) = (q : Int) := IntWalk.wrap64_in _ (by omega)
          have hqN : (q : Int) < N := by omega
          have hw2 : wrap64 ((A : Int) + (q : Int) + 1) = (A : Int) + ((q : Int) + 1) := by rw [IntWalk.wrap64_in _ (by omega)]; omega
          have hw3 : wrap64 ((N : Int) - 1) = (N : Int) - 1 := IntWalk.wrap64_in _ (by omega)
          have he : ((A : Int) + ((q : Int) + 1) == (A : Int) + (q : Int) + 1) = true := by simp; omega
          have he2 : (A : Int) + (q : Int) + 1 = (A : Int) + ((q : Int) + 1) := by omega
          rw [show ((A + q : Nat) : Int) = (A : Int) + (q : Int) by omega] at r0
          rw [show ((q + 1 : Nat) : Int) = (q : Int) + 1 by omega] at b0 ⊢
          by_cases hq : q + 1 + 1 < N
          · have hTT := HS3.out (by omega) hq
            have hd1 : decide (((q : Int) + 1) < (N : Int) - 1) = true := by simp; omega
            have hTe : (T == (p : Int)) = true := by simp [hTT]
            have hTe2 : (T != (p : Int)) = false := by simp [hTT]
            clear hTT
            go_quiet (fail)
            go_wp2
            go_roundg (gk - 1)
            case measure => have := HJ.out; omega
            case rel => exact ⟨q + 1 + 1, by have := HJ.out; omega, congrArg (Value.int .i64) (by omega), by rw [HS.out], FINR.out _⟩
          · have hd1 : decide (((q : Int) + 1) < (N : Int) - 1) = false := by simp; omega
            go_quiet (fail)
            go_wp2
            go_roundg (gk - 1)
            case measure => have := HJ.out; omega
            case rel => exact ⟨q + 1 + 1, by have := HJ.out; omega, congrArg (Value.int .i64) (by omega), by rw [HS.out], FINR.out _⟩
      · obtain rfl : N = j := by have := HJ.out; omega
        go_wp2
        go_meet
        refine ⟨?_, HBW.out⟩
        rw [← HNL.out, cut_last HL.out.2.2.2.1 (by have := HL.out; omega)]
        congr 2
        have := HA.out.a2; have := HA.out.t2; omega
  case rest =>
    obtain ⟨rfl, hb⟩ := hcut
    refine (‹∀ (a : Act) (w : World), Code.wp _ _ _ a w → _› : ∀ (a : Act) (w : World), _ → _) _ _ (qs_mid w _ n t p k c a m N cl NA NB _ Post HA (Lib.hid (HZ.out.below hb)) HNL HNA HNB (Lib.hid (HB.out.trans (hb.mono HB.out.size))) FIN)
end Go.Proofs.YtaplangfppohdaaDoor
namespace Go.Proofs.YtaplangfppohdaaDoor
open Go.RowKit Go.Shelf
attribute [local go_sem] Oper.semAt_some

theorem divc (a b : Nat) : (a : Int) / (b : Int) = ((a / b : Nat) : Int) := by first | exact (Int.natCast_ediv a b).symm | exact (Int.natCast_div a b).symm | simp
theorem w64n (n : Nat) (h : n ≤ 8589934592) : wrap64 (n : Int) = (n : Int) := IntWalk.wrap64_in _ (by omega)
/-- What the law's first test needs. -/
structure FrontF (time t t1 n p x y N : Nat) : Prop where
  q1 : (t : Int) - (n : Int) = (time : Nat)
  q2 : (t : Int) - 1 = (t1 : Nat)
  q3 : Int.tdiv (time : Int) (p : Int) = (x : Nat)
  q4 : Int.tdiv (t1 : Int) (p : Int) = (y : Nat)
  q5 : (time : Int) / (p : Int) = (x : Nat)
  q6 : (t1 : Int) / (p : Int) = (y : Nat)
  q7 : ¬ (p : Int) = 0
  q9 : ((N : Int) + 1 == 0) = false
  qa : wrap64 ((N : Int) + 1 - 1) = (N : Int)
  qb : wrap64 (N : Int) = (N : Int)
  qc : (N : Int) < (N : Int) + 1
  qe : ¬ ((N : Int) + 1 = 0)
  qd : (0 : Int) < (N : Int) + 1
  qf : wrap64 (time : Int) = (time : Int)
  qg : wrap64 (t1 : Int) = (t1 : Int)
  qh : wrap64 (x : Int) = (x : Int)
  qi : wrap64 (y : Int) = (y : Int)
  qj : wrap64 ((t : Int) - (n : Int)) = (time : Int)
  qk : wrap64 ((t : Int) - 1) = (t1 : Int)
  ql : ((p : Int) == 0) = false
theorem frontF {n t p k c time m N : Nat} (h : MidN n t p k c time m) (hN : N + 1 ≤ 5000) : FrontF time t (t - 1) n p (time / p) ((t - 1) / p) N := by
  obtain ⟨h1, h2, h3, h4, h5, h6, h7⟩ := h
  have e5 := divc time p
  have e6 := divc (t - 1) p
  refine ⟨by omega, by omega, ?_, ?_, e5, e6, by omega, by simp; omega, ?_, IntWalk.wrap64_in _ (by omega), by omega, by omega, by omega, IntWalk.wrap64_in _ (by omega), IntWalk.wrap64_in _ (by omega), w64n _ (Nat.le_trans (Nat.div_le_self time p) (by omega)), w64n _ (Nat.le_trans (Nat.div_le_self (t - 1) p) (by omega)), ?_, ?_, by simp; omega⟩
  · rw [Int.tdiv_eq_ediv_of_nonneg (by omega)]; exact e5
  · rw [Int.tdiv_eq_ediv_of_nonneg (by omega)]; exact e6
  · rw [IntWalk.wrap64_in _ (by omega)]; omega
  · rw [IntWalk.wrap64_in _ (by omega)]; omega
  · rw [IntWalk.wrap64_in _ (by omega)]; omega
end Go.Proofs.YtaplangfppohdaaDoor
namespace Go.Proofs.YtaplangfppohdaaDoor
open Go.RowKit Go.Shelf
attribute [local go_sem] Oper.semAt_some

theorem wf_u32 {z : Int} (h : (Lit.int .u32 z).wf = true) : 0 ≤ z ∧ z ≤ 4294967295 := by simpa [Lit.wf, IntKind.min, IntKind.max, IntKind.signed, IntKind.bits] using h
set_option maxRecDepth 100000 in
set_option maxHeartbeats 3200000 in
theorem qs_walk (w : World) (time ticks c period : Nat) (hU : UsesAt w) (h1 : time < 4294967296) (h2 : ticks < 65536) (h3 : c < 65536) (h4 : period < 4294967296) :
    Calls Tryd.prog 8 #[.int .u32 (time : Nat), .int .u16 (ticks : Nat), .int .u16 (c : Nat), .int .u32 (period : Nat)] w fun e w' => e = .returned (.bool true) ∧ Below w.heap.size w w' := by
  obtain ⟨n, hn⟩ : ∃ n, n = 2 + ticks % 4999 := ⟨_, rfl⟩
  obtain ⟨t, ht⟩ : ∃ t, t = n + time := ⟨_, rfl⟩
  obtain ⟨p, hp⟩ : ∃ p, p = 1 + period := ⟨_, rfl⟩
  have HN := Lib.hid (show 2 + (ticks : Int) % 4999 = (n : Nat) from by omega)
  have HT := Lib.hid (show (n : Int) + (time : Int) = (t : Nat) from by omega)
  have HP := Lib.hid (show 1 + (period : Int) = (p : Nat) from by omega)
  have HM := Lib.hid (show MidN n t p (1 + c % (n - 1)) c time (time + (1 + c % (n - 1))) from ⟨by omega, by omega, by omega, h3, rfl, by omega, rfl⟩)
  have HAW := Lib.hid (awake_ok w hU)
  clear hU hn ht hp
  generalize 1 + c % (n - 1) = k at HM
  obtain ⟨m, hm⟩ : ∃ m, m = time + k := ⟨_, rfl⟩
  rw [← hm] at HM
  clear hm
  obtain ⟨Post, hPost⟩ : ∃ P : Ending → World → Prop, P = (fun (e : Ending) (w' : World) => e = .returned (.bool true) ∧ Below w.heap.size w w') := ⟨_, rfl⟩
  have HPO := Lib.hid (fun (w' : World) (h : Below w.heap.size w w') => (show Post (.returned (.bool true)) w' from by rw [hPost]; exact ⟨rfl, h⟩))
  rw [← hPost]
  clear hPost
  go_enter Tryd.func8, Tryd.ntmps8
  go_wp2_with fail
  refine HAW.out.mono ?_
  rintro e w1 ⟨rfl, hb1⟩
  have HB1 := Lib.hid hb1
  clear hb1 HAW
  go_upto_region 4 with fail
  rw [HN.out]
  have hn5 := HM.out.n2
  clear HN h2
  go_upto_region 5 with fail
  rw [HT.out, HP.out]
  clear HT HP h1 h4 hn5
  have hs := sp_good (t := t) (n := n) (p := p) (by have := HM.out.n2; omega) HM.out.n2.2 HM.out.t2.1 HM.out.t2.2 HM.out.p2.1 HM.out.p2.2
  rw [← HM.out.a2] at hs
  have HSP := Lib.hid (spread_ok w1 (t : Int) (n : Int) (p : Int))
  rw [hs.1, hs.2] at HSP
  clear hs
  go_wp2_with fail
  refine HSP.out.mono ?_
  rintro e w2 ⟨r, rfl, o, b⟩
  clear HSP
  obtain ⟨N, hN⟩ : ∃ N, nP t time p = N + 1 := ⟨nP t time p - 1, by have := nP_pos t time p; omega⟩
  obtain ⟨g, cl, rfl, hcl, hg1, hg2⟩ := o.row_form encG_len (n := N + 1) (by rw [prt_len, hN]) (by omega)
  have HN1 := Lib.hid hN
  have HEV := Lib.hid (o.ev encG_len)
  have HB2 := Lib.hid (HB1.out.trans (b.mono HB1.out.size))
  have HER := Lib.hid (show ER encG 2 w2 g 0 (prt t time p) from by
    obtain ⟨b1, o1, c1, hs1, _, ra⟩ := HEV.out.row (by rw [prt_len, HN1.out]; omega)
    simp only [Value.slice.injEq, Option.some.injEq, Addr.mk.injEq] at hs1
    obtain ⟨⟨rfl, rfl, _⟩, _, _⟩ := hs1
    exact ra)
  clear o b hN hcl hg1 hg2
  have HL := Lib.hid HM.out.lt
  have c0 := (HER.out.pt (prt_at (t := t) (a := time) (p := p) (k := 0) (by rw [HN1.out]; omega))).1
  have cN := (HER.out.pt (prt_at (t := t) (a := time) (p := p) (k := N) (by rw [HN1.out]; omega))).1
  rw [partI_fst] at c0 cN
  have hlast := last_fst (m := t) (a := time) (p := p) (by have := HL.out; omega)
  rw [HN1.out, Nat.add_sub_cancel] at hlast
  rw [hlast] at cN
  have HN5 := Lib.hid (show N + 1 ≤ 5000 from by rw [← HN1.out]; have := HL.out; exact prt_small (by omega) this.2.2.1 this.2.2.2.1)
  simp only [Nat.zero_add, Nat.zero_mul, Nat.add_zero] at c0 cN
  clear hlast
  have hF := frontF HM.out HN5.out
  generalize time / p = x at hF c0
  generalize (t - 1) / p = y at hF cN
  generalize t - 1 = t1 at hF
  obtain ⟨q1, q2, q3, q4, q5, q6, q7, q9, qa, qb, qc, qe, qd, qf, qg, qh, qi, qj, qk, ql⟩ := hF
  have hpp := HM.out.p2
  have htt := HM.out.t2
  have hn5 := HN5.out
  go_wp2_with fail
  clear q1 q2 hpp htt
  go_quiet (fail)
  obtain ⟨w3, hw3⟩ : ∃ w3, w3 = w2.drewN nq := ⟨_, rfl⟩
  have HB3 := Lib.hid (show Below w2.heap.size w2 w3 from by rw [hw3]; exact below_drewN (Below.refl _ _) _)
  rw [← hw3]
  clear hw3 q3 q4 q5 q6 q7 q9 qa qb qc qe qd qf qg qh qi qj qk ql c0 cN hn5
  go_upto_if 74 with fail
  go_cut [] (fun wx => wx = w3)
  case first =>
    go_wp2
    go_meet
    rfl
  case rest =>
    subst hcut
    refine (‹∀ (a : Act) (w : World), Code.wp _ _ _ a w → _› : ∀ (a : Act) (w : World), _ → _) _ _ (qs_loop w _ n t p k c time m (N + 1) cl g 0 (nP m time p - 1) (nP t m p - 1) Post HM (Lib.hid (HEV.out.below HB3.out)) (Lib.hid (HER.out.below HB3.out)) HN1 (Lib.hid (by have := nP_pos m time p; omega)) (Lib.hid (by have := nP_pos t m p; omega)) (Lib.hid (HB2.out.trans (HB3.out.mono HB2.out.size))) HPO)
end Go.Proofs.YtaplangfppohdaaDoor

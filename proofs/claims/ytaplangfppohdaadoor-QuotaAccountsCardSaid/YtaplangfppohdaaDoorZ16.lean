/- QuotaDebts: the walk | QuotaDebts: the law. -/
import Derived.Test.YtaplangfppohdaaDoorZ15
set_option linter.unusedVariables false
set_option linter.unusedSimpArgs false
set_option linter.unusedSectionVars false
namespace Go.Proofs.YtaplangfppohdaaDoor
open Go.RowKit Go.Shelf
attribute [local go_sem] Oper.semAt_some

set_option maxRecDepth 100000 in
set_option maxHeartbeats 3200000 in
theorem qd_tail (w w1 : World) (n cp ca cb : Nat) (Ap Aa Ab : Option Addr) (l : List Int) (low high : Int) (Post : Ending → World → Prop) {u0 u1 u2 u3 u4 u5 u6 u8 u9 u10 u12 u14 u16 u17 u18 u19 u20 u21 u22 u23 u24 u25 u26 u27 u28 u29 u30 u31 u32 u33 u34 u35 u36 u37 u38 u39 u40 u41 u42 u43 u44 u45 u46 u47 u48 u49 u50 u51 u52 u53 u54 u55 u56 u57 u58 u59 u60 u61 u62 u63 u64 u65 u66 u67 u68 u69 u70 u71 u72 u73 u74 u75 u76 u77 u78 u79 u80 u81 u82 u83 u84 u85 u86 u87 u88 u89 u90 u91 u92 u93 u94 u95 u96 u97 u98 u99 u100 u101 u102 u103 u104 u105 u106 u107 u108 u109 u110 u111 u112 u113 u114 u115 u116 u117 u118 u119 u120 u121 u122 u123 u124 u125 u126 u127 u128 u129 u130 u131 u132 u133 u134 u135 u136 u137 u138 u139 u140 u141 u142 u143 u144 u145 u146 u147 u148 u149 u150 u151 u152 u153 u154 u155 u156 u157 u158 u159 u160 u161 u162 : Value}
    (HL : Hid (∀ z ∈ l, 0 ≤ z ∧ z ≤ 65535)) (HN : Hid (n ≤ 30)) (HLO : Hid (0 ≤ low ∧ low ≤ 65535)) (HHI : Hid (low ≤ high)) (HP : Hid (EV encG 2 w1 (.slice Ap n cp) (mkP l n))) (HA : Hid (EV encI 1 w1 (.slice Aa n ca) (upto (fun j => debtAt (mkP l n) low (j + 1)) n)))
    (HB : Hid (EV encI 1 w1 (.slice Ab n cb) (upto (fun j => debtAt (mkP l n) high (j + 1)) n))) (FIN : Hid (∀ w', Below w1.heap.size w1 w' → Post (.returned (.bool true)) w')) :
    Code.wp Tryd.prog (tailR Tryd.f3 16) (bodyPost Tryd.prog Tryd.f3 Post) ⟨#[u0, u1, u2, u3, u4, u5, u6, .slice Ap n cp, u8, u9, u10, .int .i64 low, u12, .slice Aa n ca, u14, .slice Ab n cb, u16, u17, u18, u19, u20, u21, u22, u23, u24, u25, u26, u27, u28, u29, u30, u31, u32, u33, u34, u35, u36, u37, u38, u39, u40, u41, u42, u43, u44, u45, u46, u47, u48, u49, u50, u51, u52, u53, u54, u55, u56, u57, u58, u59, u60, u61, u62, u63, u64, u65, u66, u67, u68, u69, u70, u71, u72, u73, u74, u75, u76, u77, u78, u79, u80, u81, u82, u83, u84, u85, u86, u87, u88, u89, u90, u91, u92, u93, u94, u95, u96, u97, u98, u99, u100, u101, u102, u103, u104, u105, u106, u107, u108, u109, u110, u111, u112, u113, u114, u115, u116, u117, u118, u119, u120, u121, u122, u123, u124, u125, u126, u127, u128, u129, u130, u131, u132, u133, u134, u135, u136, u137, u138, u139, u140, u141, u142, u143, u144, u145, u146, u147, u148, u149, u150, u151, u152, u153, u154, u155, u156, u157, u158, u159, u160, u161, u162], []⟩ w1 := by
  conv => arg 2; whnf
  conv => arg 4; dsimp only
  go_wp2
  go_loopg [17, 18, 19, 90] n (fun k d p s i wr => ∃ j : Nat, j + k = n ∧ i = .int .i64 j ∧ d = .int .i64 (debtAt (mkP l n) low j) ∧ p = .int .i64 (lastP (mkP l n) j + 1) ∧ s = .int .i64 (sumT l j) ∧ Below w1.heap.size w1 wr)
  case atStart => exact ⟨0, by omega, rfl, rfl, rfl, rfl, Below.refl _ _⟩
  case round =>
    obtain ⟨j, hj, rfl, rfl, rfl, rfl, hb⟩ := hrel
    have HJ := Lib.hid hj
    have HBW := Lib.hid hb
    clear hj hb
    by_cases hlt : j < n
    · have h1 := HP.out.below HBW.out
      have h2 := HA.out.below HBW.out
      have h3 := HB.out.below HBW.out
      obtain ⟨bp, op, cp', hs1, hc1, r1⟩ := h1.row (by rw [mkP_len]; omega)
      obtain ⟨ba, oa, ca', hs2, hc2, r2⟩ := h2.row (by rw [upto_len]; omega)
      obtain ⟨bb, ob, cb', hs3, hc3, r3⟩ := h3.row (by rw [upto_len]; omega)
      rw [mkP_len] at hs1 hc1
      rw [upto_len] at hs2 hc2 hs3 hc3
      simp only [Value.slice.injEq, true_and] at hs1 hs2 hs3
      obtain ⟨rfl, rfl⟩ := hs1
      obtain ⟨rfl, rfl⟩ := hs2
      obtain ⟨rfl, rfl⟩ := hs3
      obtain ⟨g0, g1⟩ := grp_at r1 (j := j) (by rw [mkP_len]; exact hlt)
      obtain ⟨p0, _⟩ := grp_at r1 (j := 0) (by rw [mkP_len]; omega)
      have ga := r2.i1 (i := j) (x := debtAt (mkP l n) low (j + 1)) (by simp [upto, hlt])
      have gb := r3.i1 (i := j) (x := debtAt (mkP l n) high (j + 1)) (by simp [upto, hlt])
      clear h1 h2 h3 r1 r2 r3
      have HF := Lib.hid (qd_facts HL.out HN.out HLO.out HHI.out hlt)
      rw [partAt_mkP hlt] at g0 g1
      rw [partAt_mkP (show 0 < n by omega), Nat.zero_mul, Nat.add_zero] at p0
      dsimp only at g0 g1 p0
      have HS := Lib.hid (show sumT l (j + 1) = sumT l j + lz l j * 3 / 2 from rfl)
      have HLA := Lib.hid (show lastP (mkP l n) (j + 1) = atA l (j + 1) from by rw [last_mkP HL.out (by omega), if_neg (by omega)])
      obtain ⟨D, hD⟩ : ∃ D, debtAt (mkP l n) low (j + 1) = D := ⟨_, rfl⟩
      have HD := Lib.hid hD
      rw [hD] at ga HF
      clear hD
      generalize debtAt (mkP l n) high (j + 1) = E at gb HF
      generalize debtAt (mkP l n) low j = d at HF ⊢
      generalize lastP (mkP l n) j = L at HF ⊢
      generalize sumT l j = s at HF HS ⊢
      generalize lz l j * 3 / 2 = T at g1 HF HS
      generalize atA l (j + 1) = P at g0 HF HLA
      generalize atA l 1 = P0 at p0 HF
      go_upto_block 4 with fail
      obtain ⟨B, hB⟩ : ∃ B, B = wr.heap.size := ⟨_, rfl⟩
      have hbel := bel_alloc wr (.cells #[.int .i64 P, .int .i64 T] 27)
      have b0 : (wr.alloc (.cells #[.int .i64 P, .int .i64 T] 27)).cell? ⟨B, 0, none⟩ = some (.int .i64 P) := by rw [hB]; go_simp
      have b1 : (wr.alloc (.cells #[.int .i64 P, .int .i64 T] 27)).cell? ⟨B, 1, none⟩ = some (.int .i64 T) := by rw [hB]; go_simp
      replace ga := below_cell hbel ga
      replace gb := below_cell hbel gb
      replace p0 := below_cell hbel p0
      have HB2 := Lib.hid (HBW.out.trans (hbel.mono HBW.out.size))
      rw [← hB]
      clear hbel g0 g1 hB
      generalize wr.alloc (.cells #[.int .i64 P, .int .i64 T] 27) = w2 at ga gb p0 b0 b1 HB2 ⊢
      obtain ⟨M, hM⟩ : ∃ M : Nat, L + 1 + M = P := ⟨(P - L - 1).toNat, by have := HF.out.fp; omega⟩
      have HM := Lib.hid hM
      clear hM
      go_wp2
      go_loopg [17, 18] M (fun k dv pv wq => ∃ m : Nat, m + k = M ∧ dv = .int .i64 (max (d - m * low) 0) ∧ pv = .int .i64 (L + 1 + m) ∧ wq = w2)
      case atStart => exact ⟨0, by omega, by congr 1; have := HF.out.fd; simp; omega, by simp, rfl⟩
      case round =>
        obtain ⟨m, hm, rfl, rfl, rfl⟩ := hrel
        have HMM := Lib.hid hm
        clear hm
        by_cases hlm : m < M
        · have hlp : L + 1 + (m : Int) < P := by have := HM.out; omega
          have hv := HF.out.fp
          have hl := HF.out.fl
          have HFO := Lib.hid (fall_one d low m HLO.out.1)
          have hdn := HF.out.fd
          have hmu : 0 ≤ (m : Int) * low := Int.mul_nonneg (by omega) HLO.out.1
          have hlo := HLO.out
          go_wp2
          go_roundg (gk - 1)
          case measure => have := HMM.out; omega
          case rel => exact ⟨m + 1, by have := HMM.out; omega, by rw [HFO.out], by congr 1; omega, rfl⟩
        · obtain rfl : M = m := by have := HMM.out; omega
          have hM := HM.out
          obtain ⟨⟨l1, l2⟩, ⟨f1, f2⟩, ⟨f3, f4⟩, ⟨f5, f6⟩, ⟨f7, f8⟩, feq, ⟨f9, fa⟩, ⟨fb, fc⟩, ⟨fd, fe⟩, ⟨ff, fg⟩, fh⟩ := HF.out
          rw [show P - L - 1 = (M : Int) by omega] at feq
          have hlo := HLO.out
          have hmu : 0 ≤ (M : Int) * low := Int.mul_nonneg (by omega) HLO.out.1
          have hnp : ¬ L + 1 + (M : Int) < P := by omega
          generalize (M : Int) * low = X at feq hmu ⊢
          go_upto_region 26 with fail
          rw [← feq]
          clear feq hnp hM hmu hlm
          have q1 : decide (D < E) = false := by simp; omega
          have q2 : decide (E < 0) = false := by simp; omega
          have q3 : decide (D < s + T - low * (P - P0 + 1)) = false := by simp; omega
          have q4 : ¬ D < s + T - low * (P - P0 + 1) := by omega
          have hjn : (j : Int) < n := by omega
          have h0n : (0 : Int) < n := by omega
          go_quiet (fail)
          go_wp2
          go_roundg (n - (j + 1))
          case measure => have := HJ.out; omega
          case rel => exact ⟨j + 1, by have := HJ.out; omega, congrArg (Value.int .i64) ((IntWalk.wrap64_in _ (by have := HN.out; omega)).trans (by omega)), by rw [HD.out], by rw [HLA.out], by rw [HS.out], below_drewN HB2.out _⟩
    · obtain rfl : n = j := by have := HJ.out; omega
      go_wp2
      try go_ret2
      exact FIN.out _ HBW.out
end Go.Proofs.YtaplangfppohdaaDoor
namespace Go.Proofs.YtaplangfppohdaaDoor
open Go.RowKit Go.Shelf
attribute [local go_sem] Oper.semAt_some

theorem take_ev {w : World} {v : Value} {ns : List Nat} {m : Nat} (h : EV encU16 1 w v ns) (hl : ns.length ≤ 9223372036854775807) : ∃ A c L, v = .slice A L c ∧ ns.length = L ∧ L ≤ 9223372036854775807 ∧ (A = none → L = 0) ∧ EV encU16 1 w (.slice A (min L m) c) (ns.take m) ∧ (ns.take m).length = min L m ∧ (0 < L → L ≤ c) := by
  rcases Nat.eq_zero_or_pos ns.length with h0 | h0
  · obtain rfl : ns = [] := List.eq_nil_of_length_eq_zero h0
    obtain ⟨A, c, rfl⟩ := h.shape
    exact ⟨A, c, 0, rfl, rfl, by omega, fun _ => rfl, (by rw [Nat.zero_min, List.take_nil]; exact EV.nil _ _), by simp, fun h => by omega⟩
  · obtain ⟨b, off, c, rfl, hc, _⟩ := h.row h0
    refine ⟨_, c, _, rfl, rfl, hl, (fun e => by cases e), ?_, (by simp [Nat.min_comm]), fun _ => hc⟩
    have h2 := EV.row_take (j := min ns.length m) h (by omega) rfl
    have ht : ns.take (min ns.length m) = ns.take m := by
      rcases Nat.le_total ns.length m with h | h
      · rw [Nat.min_eq_left h, List.take_of_length_le (by omega), List.take_of_length_le (by omega)]
      · rw [Nat.min_eq_right h]
    rwa [ht] at h2
set_option maxRecDepth 100000 in
set_option maxHeartbeats 3200000 in
theorem qd_walk (w : World) (vl : Value) (ns : List Nat) (a b : Nat) (hU : UsesAt w) (hv : EV encU16 1 w vl ns) (hn : ∀ n ∈ ns, n < 65536) (hlen : ns.length ≤ 9223372036854775807) (ha : a < 65536) (hb : b < 65536) :
    Calls Tryd.prog 3 #[vl, .int .u16 (a : Nat), .int .u16 (b : Nat)] w fun e w' => e = .returned (.bool true) ∧ Below w.heap.size w w' := by
  obtain ⟨A, c, L, rfl, hL, hLm, hAL, hEV, hTL, hLc⟩ := take_ev (m := 30) hv hlen
  obtain ⟨l, hl⟩ : ∃ l : List Int, l = (ns.take 30).map fun n : Nat => (n : Int) := ⟨_, rfl⟩
  have HL := Lib.hid (show ∀ z ∈ l, 0 ≤ z ∧ z ≤ 65535 from by
    rw [hl]; intro z hz
    obtain ⟨n, hn2, rfl⟩ := List.mem_map.1 hz
    have := hn n (List.mem_of_mem_take hn2)
    omega)
  have HE := Lib.hid hEV
  have HTL := Lib.hid hTL
  have HLZ := Lib.hid (fun (j n : Nat) (h : (ns.take 30)[j]? = some n) => (show lz l j = (n : Int) from by rw [hl]; unfold lz; rw [List.getElem?_map, h]; rfl))
  have HN := Lib.hid (show min L 30 ≤ 30 from by omega)
  have HAW := Lib.hid (awake_ok w hU)
  clear hEV hv hn hlen hl hU hTL hL
  obtain ⟨Post, hPost⟩ : ∃ P : Ending → World → Prop, P = (fun (e : Ending) (w' : World) => e = .returned (.bool true) ∧ Below w.heap.size w w') := ⟨_, rfl⟩
  have HPO := Lib.hid (fun (w' : World) (h : Below w.heap.size w w') => (show Post (.returned (.bool true)) w' from by rw [hPost]; exact ⟨rfl, h⟩))
  rw [← hPost]
  clear hPost
  go_enter Tryd.func3, Tryd.ntmps3
  go_wp2_with fail
  refine HAW.out.mono ?_
  rintro e w1 ⟨rfl, hb1⟩
  have HB1 := Lib.hid hb1
  clear hb1 HAW
  go_upto_block 0 with fail
  rw [show (min (L : Int) 30).toNat = min L 30 from by omega, show max (min (L : Int) 30) 0 = ((min L 30 : Nat) : Int) from by omega]
  obtain ⟨n, hn⟩ : ∃ n, n = min L 30 := ⟨_, rfl⟩
  rw [← hn] at HE HTL HN ⊢
  have hcn : n ≤ 30 := HN.out
  have hnl : n ≤ L := by omega
  clear hn
  go_cut [7] (fun v wx => OV encG 2 27 w.heap.size wx v (mkP l n) ∧ Below w.heap.size w wx)
  case first =>
    go_wp2
    go_loopg [7, 8, 30] n (fun k v t i wr => ∃ j : Nat, j + k = n ∧ i = .int .i64 j ∧ t = .int .i64 (atA l j) ∧ OV encG 2 27 w.heap.size wr v (mkP l j) ∧ Below w.heap.size w wr)
    case atStart => exact ⟨0, by omega, rfl, rfl, OV.nil _ _, HB1.out⟩
    case round =>
      obtain ⟨j, hj, rfl, rfl, ho, hb⟩ := hrel
      have HJ := Lib.hid hj
      have HO := Lib.hid ho
      have HB := Lib.hid hb
      clear hj ho hb
      by_cases hlt : j < n
      · obtain ⟨b', off, c', hs, hc, hr⟩ := (HE.out.below HB.out).row (by rw [HTL.out]; omega)
        rw [HTL.out] at hs hc
        simp only [Value.slice.injEq, true_and] at hs
        obtain ⟨rfl, rfl⟩ := hs
        obtain ⟨x, hx, cx⟩ := hr.get16 (i := j) (by rw [HTL.out]; omega)
        have hz := HLZ.out j x hx
        have hzi := lz_in HL.out j
        have hai := atA_in HL.out j
        clear hr hx
        rw [hz] at hzi
        have HEQ := Lib.hid (show mkP l (j + 1) = mkP l j ++ [(atA l j + (1 + (x : Int) % 9), (x : Int) * 3 / 2)] from by rw [mkP_succ]; simp only [atA, hz])
        have HEA := Lib.hid (show atA l (j + 1) = atA l j + (1 + (x : Int) % 9) from by rw [← hz]; rfl)
        clear hz
        generalize atA l j = t at hai HEQ HEA ⊢
        have hai2 : 0 ≤ t ∧ t ≤ 300 := by omega
        clear hai
        go_wp2_with (at_builtin; refine wpList_app elemPt encG_len encG_one rfl _ _ rfl _ _ rfl rfl (HO.out.alloc _) (new_partM (p := t + (1 + (x : Int) % 9)) (q := (x : Int) * 3 / 2) (by simp)) ?q1 ?q2 ?_)
        case q1 => rw [mkP_len]; simp; omega
        case q2 => have := HB.out.size; simp; omega
        intro v' w3 ho3 hg3
        have HO3 := Lib.hid ho3
        have HB3 := Lib.hid ((HB.out.alloc HB.out.size (.cells #[.int .i64 (t + (1 + (x : Int) % 9)), .int .i64 ((x : Int) * 3 / 2)] 27)).grown hg3 (by have := HB.out.size; simp; omega) (fun k hk => (HO.out.block k hk).1))
        clear ho3 hg3
        go_wp2
        go_roundg (gk - 1)
        case measure => have := HJ.out; omega
        case rel => exact ⟨j + 1, by have := HJ.out; omega, by go_num, by rw [HEA.out], by rw [HEQ.out]; exact HO3.out, HB3.out⟩
      · obtain rfl : n = j := by have := HJ.out; omega
        go_wp2
        go_meet
        exact ⟨HO.out, HB.out⟩
  case rest =>
    obtain ⟨ho, hb⟩ := hcut
    have HO := Lib.hid ho
    have HB := Lib.hid hb
    obtain ⟨low, hlow⟩ : ∃ z : Int, z = min (a : Int) b := ⟨_, rfl⟩
    obtain ⟨high, hhigh⟩ : ∃ z : Int, z = max (a : Int) b := ⟨_, rfl⟩
    have HLO := Lib.hid (show 0 ≤ low ∧ low ≤ 65535 from by omega)
    have HHI := Lib.hid (show low ≤ high ∧ high ≤ 65535 from by omega)
    have HD1 := Lib.hid (dbt_mkP HL.out (n := n) hcn HLO.out)
    have HD2 := Lib.hid (dbt_mkP HL.out (n := n) hcn (z := high) (by have := HLO.out; have := HHI.out; omega))
    have HC1 := Lib.hid (debts_ok wc u7 (mkP l n) low (ho.ev encG_len) (by rw [mkP_len]; omega))
    obtain ⟨Ap, cp, hvs⟩ := (ho.ev encG_len).shape
    rw [mkP_len] at hvs
    subst hvs
    rw [HD1.out.1, HD1.out.2] at HC1
    clear ho hb
    go_wp2_with fail
    rw [← hlow, ← hhigh]
    clear hlow hhigh
    refine HC1.out.mono ?_
    rintro e w2 ⟨ra, rfl, oa, ba⟩
    have HEA := Lib.hid ((oa.ev encI_len))
    have HP2 := Lib.hid ((HO.out.below ba).ev encG_len)
    have HBA := Lib.hid (HB.out.trans (ba.mono HB.out.size))
    obtain ⟨Aa, ca, hra⟩ := (oa.ev encI_len).shape
    rw [upto_len] at hra
    subst hra
    clear oa ba HC1
    have HC2 := Lib.hid (debts_ok w2 _ (mkP l n) high HP2.out (by rw [mkP_len]; omega))
    rw [HD2.out.1, HD2.out.2] at HC2
    go_wp2_with fail
    refine HC2.out.mono ?_
    rintro e w3 ⟨rb, rfl, ob, bb⟩
    have HEB := Lib.hid ((ob.ev encI_len))
    have HEA2 := Lib.hid (HEA.out.below bb)
    have HP3 := Lib.hid (HP2.out.below bb)
    have HBB := Lib.hid (HBA.out.trans (bb.mono HBA.out.size))
    obtain ⟨Ab, cb, hrb⟩ := (ob.ev encI_len).shape
    rw [upto_len] at hrb
    subst hrb
    clear ob bb HC2 HD1 HD2 HEA HP2 HO HB HB1
    go_upto_if 87 with fail
    go_cut [] (fun wx => wx = w3)
    case first =>
      go_wp2
      go_meet
      rfl
    case rest =>
      subst hcut
      refine (‹∀ (a : Act) (w : World), Code.wp _ _ _ a w → _› : ∀ (a : Act) (w : World), _ → _) _ _ (qd_tail w _ n cp ca cb Ap Aa Ab l low high Post HL (Lib.hid hcn) HLO (Lib.hid HHI.out.1) HP3 HEA2 HEB (Lib.hid fun w' h => HPO.out w' (HBB.out.trans (h.mono HBB.out.size))))
end Go.Proofs.YtaplangfppohdaaDoor

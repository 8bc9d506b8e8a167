/- Account's closure, behind its head: the loop over the rules. -/
import Derived.Test.YtaplangfppohdaaDoorZ8
import Derived.Test.YtaplangfppohdaaDoorZ5
set_option linter.unusedVariables false
set_option linter.unusedSimpArgs false
set_option linter.unusedSectionVars false
namespace Go.Proofs.YtaplangfppohdaaDoor
open Go.RowKit Go.Shelf Go.Maps
attribute [local go_sem] Oper.semAt_some

set_option maxRecDepth 100000 in
set_option maxHeartbeats 3200000 in
theorem acc1_tail (W0' w0 w1 : World) (B0 gl c1 c2 G0 R0 A0 U0 Mb S1 E c np cp rl : Nat) (A1 A2 Ap : Option Addr) (gs : List (Int × Int)) (rs : List Ru) (o : List Rn) (gr eseq etime ekind etask egrp eto ewt eticks emask egot : Int) (X : Nat → Prop) (pl : List Int) (F0 : Lit → Option Value) (N0 : Nat) (Post : Ending → World → Prop) {u7 u9 u10 u11 u12 u13 u14 u15 u16 u17 u18 u19 u20 u21 u22 u23 u24 u25 u26 u27 u28 u29 u30 u31 u32 u33 u34 u35 u36 u37 u38 u39 u40 u41 u42 u43 u44 u45 u46 u47 u48 u49 u50 u51 u52 u53 u54 u55 u56 u57 u58 u59 u60 u61 u62 u63 : Value}
    (HB : Hid (W0'.heap.size = B0)) (HRL : Hid (rl = rs.length)) (HRB : Hid (rs.length ≤ 1000)) (HRS : Hid (EV encRu 3 W0' (.slice A2 rs.length c2) rs)) (HRO : Hid (∀ i, i < rs.length → RuOk gs.length (ruAt rs i))) (HAB : Hid (allN gs rs o ≤ 4611686018427387904))
    (HPL : Hid (pl = pathL gs gr)) (HNP : Hid (pl.length = np)) (HNB : Hid (np ≤ 100000)) (HT : Hid (∀ x ∈ o ++ [⟨(c : Int), etime, eticks, gr⟩], RnOk gs.length x)) (HAP : Hid (Apart (o ++ [⟨(c : Int), etime, eticks, gr⟩])))
    (HS1 : Hid (A0 < S1 ∧ E < S1 ∧ B0 ≤ w0.heap.size ∧ w0.heap.size ≤ E)) (HXS : Hid (X A0 ∧ X Mb ∧ ∀ k, X k → k < w0.heap.size))
    (HI : Hid (RuI W0' w0 B0 gl c1 c2 A1 A2 G0 R0 A0 U0 Mb S1 gs rs o ⟨(c : Int), etime, eticks, gr⟩ X E #[.int .i64 eseq, .int .i64 etime, .int .u8 (c : Int), .int .u8 ekind, .int .i64 etask, .int .i64 egrp, .int .i64 eto, .int .i64 ewt, .int .i64 eticks, .int .u64 emask, .int .i64 egot] (.slice Ap np cp) pl 0 [] w1 F0 N0))
    (FIN : Hid (∀ Ds w' F N, RuI W0' w0 B0 gl c1 c2 A1 A2 G0 R0 A0 U0 Mb S1 gs rs o ⟨(c : Int), etime, eticks, gr⟩ X E #[.int .i64 eseq, .int .i64 etime, .int .u8 (c : Int), .int .u8 ekind, .int .i64 etask, .int .i64 egrp, .int .i64 eto, .int .i64 ewt, .int .i64 eticks, .int .u64 emask, .int .i64 egot] (.slice Ap np cp) pl rs.length Ds w' F N → ∀ w'', Mod (fun k => k ∈ Ds) w' w'' → Post (.returned (.tuple #[])) w'')) :
    Code.wp Tryd.prog (tailR Tryd.f39 2) (bodyPostM W0 0 Tryd.prog Tryd.f39 Post) ⟨#[.agg #[.int .i64 eseq, .int .i64 etime, .int .u8 (c : Int), .int .u8 ekind, .int .i64 etask, .int .i64 egrp, .int .i64 eto, .int .i64 ewt, .int .i64 eticks, .int .u64 emask, .int .i64 egot], .int .i64 gr, .pointer (some ⟨G0, 0, none⟩), .pointer (some ⟨R0, 0, none⟩), .pointer (some ⟨A0, 0, none⟩), .pointer (some ⟨U0, 0, none⟩), .pointer (some ⟨E, 0, none⟩), u7, .slice Ap np cp, u9, u10, u11, u12, u13, u14, u15, u16, u17, u18, u19, u20, u21, u22, u23, u24, u25, u26, u27, u28, u29, u30, u31, u32, u33, u34, u35, u36, u37, u38, u39, u40, u41, u42, u43, u44, u45, u46, u47, u48, u49, u50, u51, u52, u53, u54, u55, u56, u57, u58, u59, u60, u61, u62, u63], []⟩ w1 := by
  obtain ⟨⟨hc0, hc1⟩, ⟨ht1, ht2⟩, ⟨ht3, ht4⟩, hg1, hg2⟩ := HT.out ⟨(c : Int), etime, eticks, gr⟩ (by simp)
  dsimp only at hc0 hc1 ht1 ht2 ht3 ht4 hg1 hg2
  obtain ⟨tm, rfl⟩ : ∃ tm : Nat, etime = (tm : Int) := ⟨etime.toNat, by omega⟩
  obtain ⟨tk, rfl⟩ : ∃ tk : Nat, eticks = (tk : Int) := ⟨eticks.toNat, by omega⟩
  have HTK := Lib.hid (show 1 ≤ tk ∧ tk ≤ tm ∧ tm ≤ 281474976710656 from ⟨by omega, by omega, by omega⟩)
  have HCC := Lib.hid (show c < 64 from by omega)
  clear hc0 hc1 ht1 ht2 ht3 ht4 hg1 hg2
  conv => arg 2; whnf
  conv => arg 4; dsimp only
  have r0 := HI.out.acc.r0.cell
  rw [← HRL.out] at r0
  go_wp2
  clear r0
  refine wp_loop_ghost_k (fun k a wr => ∃ (i : Nat) (Ds : List Nat) (F : Lit → Option Value) (N : Nat) (u22 : Value) (u7 u9 u10 u11 u12 u13 u14 u15 u16 u17 u18 u19 u23 u24 u25 u26 u27 u28 u29 u30 u31 u32 u33 u34 u35 u36 u37 u38 u39 u40 u41 u42 u43 u44 u45 u46 u47 u48 u49 u50 u51 u52 u53 u54 u55 u56 u57 u58 u59 u60 u61 u62 u63 : Value), i + k = rl ∧ u22 = .int .i64 (i : Nat) ∧ a = ⟨#[.agg #[.int .i64 eseq, .int .i64 (tm : Int), .int .u8 (c : Int), .int .u8 ekind, .int .i64 etask, .int .i64 egrp, .int .i64 eto, .int .i64 ewt, .int .i64 (tk : Int), .int .u64 emask, .int .i64 egot], .int .i64 gr, .pointer (some ⟨G0, 0, none⟩), .pointer (some ⟨R0, 0, none⟩), .pointer (some ⟨A0, 0, none⟩), .pointer (some ⟨U0, 0, none⟩), .pointer (some ⟨E, 0, none⟩), u7, .slice Ap np cp, u9, u10, u11, u12, u13, u14, u15, u16, u17, u18, u19, .slice A2 rl c2, .int .i64 (rl : Nat), u22, u23, u24, u25, u26, u27, u28, u29, u30, u31, u32, u33, u34, u35, u36, u37, u38, u39, u40, u41, u42, u43, u44, u45, u46, u47, u48, u49, u50, u51, u52, u53, u54, u55, u56, u57, u58, u59, u60, u61, u62, u63], Ds.map markD⟩ ∧ RuI W0' w0 B0 gl c1 c2 A1 A2 G0 R0 A0 U0 Mb S1 gs rs o ⟨(c : Int), (tm : Int), (tk : Int), gr⟩ X E #[.int .i64 eseq, .int .i64 (tm : Int), .int .u8 (c : Int), .int .u8 ekind, .int .i64 etask, .int .i64 egrp, .int .i64 eto, .int .i64 ewt, .int .i64 (tk : Int), .int .u64 emask, .int .i64 egot] (.slice Ap np cp) pl i Ds wr F N) rl ?start (fun n a wr hI J K hJ hK => ?round)
  case start => exact ⟨0, [], F0, N0, _, _, _, _, _, _, _, _, _, _, _, _, _, _, _, _, _, _, _, _, _, _, _, _, _, _, _, _, _, _, _, _, _, _, _, _, _, _, _, _, _, _, _, _, _, _, _, _, _, _, _, _, _, _, by omega, rfl, rfl, HI.out⟩
  case round =>
    obtain ⟨i, Ds, F, N, u22, u7, u9, u10, u11, u12, u13, u14, u15, u16, u17, u18, u19, u23, u24, u25, u26, u27, u28, u29, u30, u31, u32, u33, u34, u35, u36, u37, u38, u39, u40, u41, u42, u43, u44, u45, u46, u47, u48, u49, u50, u51, u52, u53, u54, u55, u56, u57, u58, u59, u60, u61, u62, u63, hik, rfl, rfl, hri⟩ := hI
    have HIK := Lib.hid hik
    have HRI := Lib.hid hri
    clear hik hri HI
    dsimp only
    have hrl : rl ≤ 1000 := by have := HRB.out; have := HRL.out; omega
    by_cases hlt : i < rl
    · have hlt' : i < rs.length := by rw [← HRL.out]; exact hlt
      have HLT := Lib.hid hlt'
      have hev := HRS.out.below (HB.out ▸ HRI.out.acc.low)
      obtain ⟨bb, off, c', hsl, hcc, hrr⟩ := hev.row (by omega)
      obtain ⟨g0, g1, g2⟩ := hrr.ru hlt'
      have HRK := Lib.hid (HRO.out i hlt')
      simp only [Value.slice.injEq] at hsl
      obtain ⟨rfl, hz, rfl⟩ := hsl
      clear hev hrr hcc hz hlt'
      have HHB := Lib.hid (show hitB gs (ruAt rs i) ⟨(c : Int), (tm : Int), (tk : Int), gr⟩ = pl.contains (ruAt rs i).g from by rw [HPL.out]; rfl)
      obtain ⟨ru, hru⟩ : ∃ ru, ruAt rs i = ru := ⟨_, rfl⟩
      have HRU := Lib.hid hru
      rw [hru] at g0 g1 g2 HRK HHB
      clear hru
      obtain ⟨rg, rp, rl1⟩ := ru
      dsimp only at g0 g1 g2 HHB
      obtain ⟨pp, rfl⟩ : ∃ pp : Nat, rp = (pp : Int) := ⟨rp.toNat, by have := HRK.out; unfold RuOk at this; dsimp only at this; omega⟩
      have HPP := Lib.hid (show 1 ≤ pp ∧ pp ≤ 4294967296 from by have := HRK.out; unfold RuOk at this; dsimp only at this; omega)
      obtain ⟨RB, hRB⟩ : ∃ RB, RB = wr.heap.size := ⟨_, rfl⟩
      have HRI2 := Lib.hid (HRI.out.below HB.out (bel_alloc wr (.cells #[.int .i64 rg, .int .i64 (pp : Nat), .int .i64 rl1] 44)))
      have hrb0 : (wr.alloc (.cells #[.int .i64 rg, .int .i64 (pp : Nat), .int .i64 rl1] 44)).cell? ⟨RB, 0, none⟩ = some (.int .i64 rg) := by rw [hRB]; go_simp
      have HRB1 := Lib.hid (show (wr.alloc (.cells #[.int .i64 rg, .int .i64 (pp : Nat), .int .i64 rl1] 44)).cell? ⟨RB, 1, none⟩ = some (.int .i64 (pp : Nat)) from by rw [hRB]; go_simp)
      have HRBZ := Lib.hid hRB
      go_upto_region 5 with fail
      rw [← hRB]
      clear hRB g0 g1 g2
      generalize wr.alloc (.cells #[.int .i64 rg, .int .i64 (pp : Nat), .int .i64 rl1] 44) = wb at HRI2 HRB1 hrb0 ⊢
      have HCT := Lib.hid (contains_int wb (.slice Ap np cp) pl rg (HRI2.out.pth.ev encI_len) (by have := HNP.out; have := HNB.out; omega))
      go_wp2_with fail
      refine HCT.out.mono ?_
      rintro r wz ⟨rfl, rfl⟩
      clear HCT hrb0
      cases hhit : pl.contains rg with
      | false =>
        have HS2 := Lib.hid (RuI.skip HRI2.out HLT.out (by rw [HRU.out]; exact HHB.out.trans hhit))
        clear hhit
        go_wp2
        exact Handed.intro (n - 1) (by have := HIK.out; omega) (hJ _ _ _ ⟨i + 1, Ds, F, N, _, _, _, _, _, _, _, _, _, _, _, _, _, _, _, _, _, _, _, _, _, _, _, _, _, _, _, _, _, _, _, _, _, _, _, _, _, _, _, _, _, _, _, _, _, _, _, _, _, _, _, _, _, _, by have := HIK.out; omega, by go_num, rfl, HS2.out⟩)
      | true =>
      have HHIT := Lib.hid (show hitB gs (ruAt rs i) ⟨(c : Int), (tm : Int), (tk : Int), gr⟩ = true from by rw [HRU.out]; exact HHB.out.trans hhit)
      clear hhit HHB
      obtain ⟨aa, haa⟩ : ∃ aa, allN gs rs o + cntT gs (rs.take i) ⟨(c : Int), (tm : Int), (tk : Int), gr⟩ = aa := ⟨_, rfl⟩
      obtain ⟨mn, hmn⟩ : ∃ mn, manyN tm tk pp = mn := ⟨_, rfl⟩
      have HMN := Lib.hid hmn
      have HAA := Lib.hid haa
      have HAC := Lib.hid (show wb.cell? ⟨A0, 0, none⟩ = some (.int .i64 (aa : Nat)) ∧ wb.frozen? ⟨A0, 0, none⟩ = false from by rw [← haa]; exact ⟨HRI2.out.acc.a0.cell, HRI2.out.acc.a0.frozen⟩)
      have HE1 := Lib.hid (show wb.cell? ⟨E, 1, none⟩ = some (.int .i64 (tm : Nat)) from cell_of_row _ _ 1 _ _ _ HRI2.out.ev)
      have HE8 := Lib.hid (show wb.cell? ⟨E, 8, none⟩ = some (.int .i64 (tk : Nat)) from cell_of_row _ _ 8 _ _ _ HRI2.out.ev)
      have HWS := Lib.hid (show IntKind.i64.wrap ((aa : Int) + (mn : Int)) = (aa : Int) + (mn : Int) from IntWalk.i64_in _ (by have h1 := HAB.out; have h2 := cntT_le gs (rs.take i) ⟨(c : Int), (tm : Int), (tk : Int), gr⟩ 281474976710657 (by rw [Int.toNat_natCast]; have := HTK.out; omega); have h3 := HRB.out; have h4 : (rs.take i).length ≤ 1000 := (by rw [List.length_take]; omega); have h5 : (rs.take i).length * 281474976710657 ≤ 1000 * 281474976710657 := Nat.mul_le_mul_right _ h4; have h6 := manyN_le tm tk pp; have h7 := HTK.out; omega))
      go_upto_region 6 with fail
      refine wp_region_chain (by kernel_rfl) 10 rfl 3 (fun m => match m with | 0 => 7 | 1 => 8 | _ => 9) (fun x => ⟨#[.agg #[.int .i64 eseq, .int .i64 (tm : Nat), .int .u8 (c : Nat), .int .u8 ekind, .int .i64 etask, .int .i64 egrp, .int .i64 eto, .int .i64 ewt, .int .i64 (tk : Nat), .int .u64 emask, .int .i64 egot], .int .i64 gr, .pointer (some ⟨G0, 0, none⟩), .pointer (some ⟨R0, 0, none⟩), .pointer (some ⟨A0, 0, none⟩), .pointer (some ⟨U0, 0, none⟩), .pointer (some ⟨E, 0, none⟩), u7, .slice Ap np cp, u9, .int .i64 (i : Nat), .pointer (some ⟨RB, 0, none⟩), u12, u13, u14, u15, u16, u17, u18, u19, .slice (some ⟨bb, off, none⟩) rl c2, .int .i64 (rl : Nat), .int .i64 (i : Nat), .bool true, .int .i64 (i : Nat), .pointer (some ⟨bb, off + i * 3, none⟩), .agg #[.int .i64 rg, .int .i64 (pp : Nat), .int .i64 rl1], .slice Ap np cp, .pointer (some ⟨RB, 0, none⟩), .int .i64 rg, .bool true, .bool false, x 0, x 1, x 2, x 3, x 4, x 5, x 6, x 7, x 8, u41, u42, u43, u44, u45, u46, u47, u48, u49, u50, u51, u52, u53, u54, u55, u56, u57, u58, u59, u60, u61, u62, u63], Ds.map markD⟩) (fun iF vF => match iF with | 0 => vF = .int .i64 (aa : Nat) | 1 => vF = .pointer (some ⟨E, 1, none⟩) | 2 => vF = .int .i64 (tm : Nat) | 3 => vF = .pointer (some ⟨E, 8, none⟩) | 4 => vF = .int .i64 (tk : Nat) | 5 => vF = .pointer (some ⟨RB, 1, none⟩) | 6 => vF = .int .i64 (pp : Nat) | _ => True)
        (fun k x W => (k < 3 → W.cell? ⟨A0, 0, none⟩ = some (.int .i64 (aa : Nat)) ∧ W.cell? ⟨E, 1, none⟩ = some (.int .i64 (tm : Nat)) ∧ W.cell? ⟨E, 8, none⟩ = some (.int .i64 (tk : Nat)) ∧ W.cell? ⟨RB, 1, none⟩ = some (.int .i64 (pp : Nat)) ∧ Below wb.heap.size wb W) ∧ (k = 1 → x 7 = .int .i64 (mn : Nat)) ∧ (k = 2 → x 8 = .int .i64 ((aa : Int) + (mn : Int))) ∧ (k = 3 → ∃ W1, Below wb.heap.size wb W1 ∧ W = W1.setCell ⟨A0, 0, none⟩ (.int .i64 ((aa : Int) + (mn : Int))))) (by kernel_rfl) ?hB (by kernel_rfl) (by kernel_rfl) ?hpure ?hchain ?hend (fun i => (#[u32, u33, u34, u35, u36, u37, u38, u39, u40, undef] : Array Value).getD i undef) rfl ?hstart
      case hstart =>
        try dsimp only
        exact ⟨fun _ => ⟨HAC.out.1, HE1.out, HE8.out, HRB1.out, below_drew (Below.refl _ _)⟩, fun h => (by first | exact h.elim | omega | cases h), fun h => (by first | exact h.elim | omega | cases h), fun h => (by first | exact h.elim | omega | cases h)⟩
      case hB =>
        intro k x i v W hi h
        have h7 : ¬ 7 = i := by rintro rfl; exact absurd (show true = false from hi) (by simp)
        have h8 : ¬ 8 = i := by rintro rfl; exact absurd (show true = false from hi) (by simp)
        try dsimp only at h ⊢
        rw [upd_ne h7, upd_ne h8]
        exact h
      case hpure =>
        intro iF o hi hnc ho k x W hk hB hd hbf hx K hK
        rcases (show iF = 0 ∨ iF = 1 ∨ iF = 2 ∨ iF = 3 ∨ iF = 4 ∨ iF = 5 ∨ iF = 6 ∨ iF = 7 ∨ iF = 8 ∨ iF = 9 by omega) with rfl | rfl | rfl | rfl | rfl | rfl | rfl | rfl | rfl | rfl
        · obtain rfl := Option.some.inj ho
          have hk2 : k < 3 := by
            rcases Nat.lt_or_ge k 3 with h | h
            · exact h
            · exact absurd (show false = true from (hx 2 (by omega)).symm.trans (by kernel_rfl)) (by simp)
          obtain ⟨q1, q2, q3, q4, qb⟩ := hB.1 (by omega)
          clear ho hd hx hbf hB hnc hi
          simp only [upd, reduceIte, Nat.reduceEqDiff] at hK
          dsimp only
          go_simp
          exact hK _ rfl
        · obtain rfl := Option.some.inj ho
          clear ho hd hx hbf hB hnc hi
          simp only [upd, reduceIte, Nat.reduceEqDiff] at hK
          dsimp only
          go_simp
          exact hK _ rfl
        · obtain rfl := Option.some.inj ho
          have e1 : x 1 = .pointer (some ⟨E, 1, none⟩) := hd 1 (by kernel_rfl) (by kernel_rfl)
          have hk2 : k < 3 := by
            rcases Nat.lt_or_ge k 3 with h | h
            · exact h
            · exact absurd (show false = true from (hx 2 (by omega)).symm.trans (by kernel_rfl)) (by simp)
          obtain ⟨q1, q2, q3, q4, qb⟩ := hB.1 (by omega)
          clear ho hd hx hbf hB hnc hi
          simp only [upd, reduceIte, Nat.reduceEqDiff, e1] at hK
          dsimp only
          go_simp
          exact hK _ rfl
        · obtain rfl := Option.some.inj ho
          clear ho hd hx hbf hB hnc hi
          simp only [upd, reduceIte, Nat.reduceEqDiff] at hK
          dsimp only
          go_simp
          exact hK _ rfl
        · obtain rfl := Option.some.inj ho
          have e3 : x 3 = .pointer (some ⟨E, 8, none⟩) := hd 3 (by kernel_rfl) (by kernel_rfl)
          have hk2 : k < 3 := by
            rcases Nat.lt_or_ge k 3 with h | h
            · exact h
            · exact absurd (show false = true from (hx 2 (by omega)).symm.trans (by kernel_rfl)) (by simp)
          obtain ⟨q1, q2, q3, q4, qb⟩ := hB.1 (by omega)
          clear ho hd hx hbf hB hnc hi
          simp only [upd, reduceIte, Nat.reduceEqDiff, e3] at hK
          dsimp only
          go_simp
          exact hK _ rfl
        · obtain rfl := Option.some.inj ho
          clear ho hd hx hbf hB hnc hi
          simp only [upd, reduceIte, Nat.reduceEqDiff] at hK
          dsimp only
          go_simp
          exact hK _ rfl
        · obtain rfl := Option.some.inj ho
          have e5 : x 5 = .pointer (some ⟨RB, 1, none⟩) := hd 5 (by kernel_rfl) (by kernel_rfl)
          have hk2 : k < 3 := by
            rcases Nat.lt_or_ge k 3 with h | h
            · exact h
            · exact absurd (show false = true from (hx 2 (by omega)).symm.trans (by kernel_rfl)) (by simp)
          obtain ⟨q1, q2, q3, q4, qb⟩ := hB.1 (by omega)
          clear ho hd hx hbf hB hnc hi
          simp only [upd, reduceIte, Nat.reduceEqDiff, e5] at hK
          dsimp only
          go_simp
          exact hK _ rfl
        · exact absurd (show true = false from hnc) (by simp)
        · exact absurd (show true = false from hnc) (by simp)
        · exact absurd (show true = false from hnc) (by simp)
      case hchain =>
        intro k o hk ho x W hB hd K hK
        rcases (show k = 0 ∨ k = 1 ∨ k = 2 by omega) with rfl | rfl | rfl
        · obtain rfl := Option.some.inj ho
          have e2 : x 2 = .int .i64 (tm : Nat) := hd 2 (by kernel_rfl) (by kernel_rfl)
          have e4 : x 4 = .int .i64 (tk : Nat) := hd 4 (by kernel_rfl) (by kernel_rfl)
          have e6 : x 6 = .int .i64 (pp : Nat) := hd 6 (by kernel_rfl) (by kernel_rfl)
          clear ho hd hk
          obtain ⟨hS, _⟩ := hB
          obtain ⟨q1, q2, q3, q4, qb⟩ := hS (by omega)
          simp only [upd, reduceIte, Nat.reduceEqDiff, e2, e4, e6] at hK
          dsimp only
          go_simp
          refine (many_ok W tm tk pp HTK.out.1 HTK.out.2.1 HTK.out.2.2 HPP.out.1 HPP.out.2).mono ?_
          rintro r W2 ⟨rfl, hb2⟩
          refine hK _ _ ?_
          try dsimp only
          exact ⟨fun _ => ⟨below_cell hb2 q1, below_cell hb2 q2, below_cell hb2 q3, below_cell hb2 q4, qb.trans (hb2.mono qb.size)⟩, fun _ => by rw [← HMN.out], fun h => (by first | exact h.elim | omega | cases h), fun h => (by first | exact h.elim | omega | cases h)⟩
        · obtain rfl := Option.some.inj ho
          have e0 : x 0 = .int .i64 (aa : Nat) := hd 0 (by kernel_rfl) (by kernel_rfl)
          clear ho hd hk
          obtain ⟨hS, h7, _⟩ := hB
          have e7 := h7 rfl
          have hS1 := hS (by omega)
          have ws := HWS.out
          simp only [upd, reduceIte, Nat.reduceEqDiff, e0, e7] at hK
          dsimp only
          go_simp
          refine hK _ _ ?_
          try dsimp only
          exact ⟨fun _ => hS1, fun h => (by first | exact h.elim | omega | cases h), fun _ => rfl, fun h => (by first | exact h.elim | omega | cases h)⟩
        · obtain rfl := Option.some.inj ho
          clear ho hd hk
          obtain ⟨hS, _, h8, _⟩ := hB
          have e8 := h8 rfl
          obtain ⟨q1, q2, q3, q4, qb⟩ := hS (by omega)
          have af := (qb.frozen (p := ⟨A0, 0, none⟩) (cell_lt HAC.out.1)).trans HAC.out.2
          simp only [upd, reduceIte, Nat.reduceEqDiff, e8] at hK
          dsimp only
          go_simp
          refine hK undef _ ?_
          try dsimp only
          exact ⟨fun h => (by first | exact h.elim | omega | cases h), fun h => (by first | exact h.elim | omega | cases h), fun h => (by first | exact h.elim | omega | cases h), fun _ => ⟨W, qb, rfl⟩⟩
      case hend =>
        intro x W hB hd
        obtain ⟨W1, hb1, rfl⟩ := hB.2.2.2 rfl
        clear hB hd
        dsimp only
        generalize x 0 = y32
        generalize x 1 = y33
        generalize x 2 = y34
        generalize x 3 = y35
        generalize x 4 = y36
        generalize x 5 = y37
        generalize x 6 = y38
        generalize x 7 = y39
        generalize x 8 = y40
        clear x
        have HRG := Lib.hid (show RuG W0' w0 B0 gl rs.length c1 c2 A1 (some ⟨bb, off, none⟩) G0 R0 A0 U0 Mb S1 (aa + mn) aa (Mi gs rs o ⟨(c : Int), (tm : Int), (tk : Int), gr⟩ i) X E _ (.slice Ap np cp) pl Ds (W1.setCell ⟨A0, 0, none⟩ (.int .i64 ((aa : Int) + (mn : Int)))) F N from by
          have h1 := HRI2.out.below HB.out hb1
          rw [haa] at h1
          have h2 := h1.sum (all' := aa + mn) (by omega) HXS.out.1 HS1.out.1 (by have := HXS.out.2.2 _ HXS.out.1; have := HS1.out.2.2.2; omega)
          rw [show ((aa : Int) + (mn : Int)) = ((aa + mn : Nat) : Int) from by omega]
          exact h2)
        have HE1' := Lib.hid (show (W1.setCell ⟨A0, 0, none⟩ (.int .i64 ((aa : Int) + (mn : Int)))).cell? ⟨E, 1, none⟩ = some (.int .i64 (tm : Nat)) from cell_of_row _ _ 1 _ _ _ HRG.out.ev)
        have HE8' := Lib.hid (show (W1.setCell ⟨A0, 0, none⟩ (.int .i64 ((aa : Int) + (mn : Int)))).cell? ⟨E, 8, none⟩ = some (.int .i64 (tk : Nat)) from cell_of_row _ _ 8 _ _ _ HRG.out.ev)
        have HE2' := Lib.hid (show (W1.setCell ⟨A0, 0, none⟩ (.int .i64 ((aa : Int) + (mn : Int)))).cell? ⟨E, 2, none⟩ = some (.int .u8 (c : Nat)) from cell_of_row _ _ 2 _ _ _ HRG.out.ev)
        have HRB2 := Lib.hid (show (W1.setCell ⟨A0, 0, none⟩ (.int .i64 ((aa : Int) + (mn : Int)))).cell? ⟨RB, 1, none⟩ = some (.int .i64 (pp : Nat)) from by
          rw [World.cell?_setCell_other _ _ _ _ (by have h1 := HXS.out.2.2 _ HXS.out.1; have h2 := HRI.out.md.size; have h3 := HRBZ.out; simp only [ne_eq, Addr.mk.injEq, not_and]; intro e; exact absurd e (by omega))]
          exact below_cell hb1 HRB1.out)
        have HAD := Lib.hid (show (W1.setCell ⟨A0, 0, none⟩ (.int .i64 ((aa : Int) + (mn : Int)))).cell? ⟨A0, 0, none⟩ = some (.int .i64 ((aa : Int) + (mn : Int))) from World.cell?_setCell_same _ _ _ (by rw [below_cell hb1 HAC.out.1]))
        generalize W1.setCell ⟨A0, 0, none⟩ (.int .i64 ((aa : Int) + (mn : Int))) = wd at HRG HE1' HE2' HE8' HRB2 HAD ⊢
        clear haa hmn hb1
        have had := HAD.out
        have HNXT := Lib.hid (show allN gs rs o + cntT gs (rs.take (i + 1)) ⟨(c : Int), (tm : Int), (tk : Int), gr⟩ = aa + mn from by
          rw [cntT_take HLT.out, if_pos HHIT.out, HRU.out, ← Nat.add_assoc, HAA.out, ← HMN.out]
          unfold tickN
          simp only [Int.toNat_natCast])
        by_cases hov : 65536 < aa + mn
        · have hov' : (65536 : Int) < (aa : Int) + (mn : Int) := by omega
          have HS2 := Lib.hid (show RuI W0' w0 B0 gl c1 c2 A1 (some ⟨bb, off, none⟩) G0 R0 A0 U0 Mb S1 gs rs o ⟨(c : Int), (tm : Int), (tk : Int), gr⟩ X E _ (.slice Ap np cp) pl (i + 1) Ds wd F N from by
            unfold RuI; rw [HNXT.out]; exact RuG.any HRG.out hov)
          clear hov
          go_wp2
          exact Handed.intro (n - 1) (by have := HIK.out; omega) (hJ _ _ _ ⟨i + 1, Ds, F, N, _, _, _, _, _, _, _, _, _, _, _, _, _, _, _, _, _, _, _, _, _, _, _, _, _, _, _, _, _, _, _, _, _, _, _, _, _, _, _, _, _, _, _, _, _, _, _, _, _, _, _, _, _, _, by have := HIK.out; omega, by go_num, rfl, HS2.out⟩)
        · have hov' : decide ((65536 : Int) < (aa : Int) + (mn : Int)) = false := by simp; omega
          have HOV := Lib.hid hov
          clear hov
          have he1 := HE1'.out
          have he2 := HE2'.out
          have he8 := HE8'.out
          have hr1 := HRB2.out
          have hc64 := HCC.out
          obtain ⟨KB, hKB⟩ : ∃ KB, KB = wd.heap.size := ⟨_, rfl⟩
          have HKB := Lib.hid hKB
          have HKC := Lib.hid (show (wd.alloc (.cells #[.int .i64 (i : Nat), .int .i64 (c : Nat)] 102)).heap[KB]? = some (.cells #[.int .i64 (i : Nat), .int .i64 (c : Nat)] 102 (0, 0)) from by rw [hKB]; exact World.alloc_heap_new wd _)
          have HRK2 := Lib.hid (HRG.out.below HB.out (bel_alloc wd (.cells #[.int .i64 (i : Nat), .int .i64 (c : Nat)] 102)))
          go_upto_region 9 with fail
          rw [← hKB]
          clear hKB
          have he1 := below_cell (bel_alloc wd (.cells #[.int .i64 (i : Nat), .int .i64 (c : Nat)] 102)) he1
          have he8 := below_cell (bel_alloc wd (.cells #[.int .i64 (i : Nat), .int .i64 (c : Nat)] 102)) he8
          have hr1 := below_cell (bel_alloc wd (.cells #[.int .i64 (i : Nat), .int .i64 (c : Nat)] 102)) hr1
          generalize wd.alloc (.cells #[.int .i64 (i : Nat), .int .i64 (c : Nat)] 102) = wk at HKC HRK2 he1 he8 hr1 ⊢
          clear had he2 HE1' HE2' HE8' HAD
          go_wp2_with fail
          refine (parts_ok _ _ _ _).mono ?_
          rintro r w3 ⟨rfl, hw3⟩
          obtain ⟨B1, hB1⟩ : ∃ B1, B1 = wk.heap.size := ⟨_, rfl⟩
          obtain ⟨B2, hB2⟩ : ∃ B2, B2 = wk.heap.size + 1 := ⟨_, rfl⟩
          obtain ⟨B3, hB3⟩ : ∃ B3, B3 = wk.heap.size + 2 := ⟨_, rfl⟩
          have hz3 : w3.heap.size = wk.heap.size + 3 := by rw [← hw3]; simp
          have hb3 : Below wk.heap.size wk w3 := by rw [← hw3]; exact (((Below.refl _ _).alloc (Nat.le_refl _) _).alloc (by simp) _).alloc (by simp; omega) _
          have HBX := Lib.hid (show Boxed w3 B1 3 (.int .i64 (tm : Nat)) ∧ Boxed w3 B2 3 (.int .i64 (tk : Nat)) ∧ Boxed w3 B3 3 (.int .i64 (pp : Nat)) from by
            rw [hB1, hB2, hB3, ← hw3]
            refine ⟨?_, ?_, ?_⟩
            · exact (Below.heap_alloc _ _ _ (by simp; omega)).trans ((Below.heap_alloc _ _ _ (by simp)).trans (boxed_newM rfl))
            · exact (Below.heap_alloc _ _ _ (by simp)).trans (boxed_newM (by simp))
            · exact boxed_newM (by simp))
          have HR3 := Lib.hid (HRK2.out.below HB.out hb3)
          have HKC3 := Lib.hid ((hb3.block KB (Array.getElem?_eq_some_iff.1 HKC.out).1).trans HKC.out)
          have HSZ := Lib.hid (show B1 < w3.heap.size ∧ B2 < w3.heap.size ∧ B3 < w3.heap.size ∧ w0.heap.size ≤ w3.heap.size ∧ (∀ D ∈ Ds, D < w3.heap.size) ∧ B0 ≤ w3.heap.size from ⟨by omega, by omega, by omega, HR3.out.md.size, HR3.out.mrk.1.lt, by have := HR3.out.acc.low.size; have := HB.out; omega⟩)
          rw [← hB3, ← hB2, ← hB1]
          clear hw3 hb3 hz3 hB1 hB2 hB3 he1 he8 hr1 HRG HRB2 HKC HRK2
          go_wp2
          have hit := parts1_iter w3 B1 B2 B3 tm tk pp HBX.out.1.cell HBX.out.2.1.cell HBX.out.2.2.cell HTK.out.1 HTK.out.2.1 HTK.out.2.2 HPP.out.1 HPP.out.2
          have HACC := Lib.hid (show AccOk pp ((tm : Int) - tk) (usedAt gs ⟨rg, pp, rl1⟩ (c : Int) o) from used_acc (gs := gs) (r := ⟨rg, pp, rl1⟩) (c := (c : Int)) (n := gs.length) (by have := HPP.out; dsimp only; omega) o (fun t ht => HT.out t (List.mem_append_left _ ht)) (List.pairwise_append.1 HAP.out).1 ((tm : Int) - tk) (by have := HTK.out; omega) (fun t ht hc => (List.pairwise_append.1 HAP.out).2.2 t ht ⟨(c : Int), (tm : Int), (tk : Int), gr⟩ (List.mem_singleton.2 rfl) hc))
          have HUL := Lib.hid (show (usedAt gs ⟨rg, pp, rl1⟩ (c : Int) o).length ≤ 65536 from by have h1 := used_len (gs := gs) HLT.out (c : Int) o; rw [HRU.out] at h1; have := HAA.out; have := HOV.out; omega)
          have HMI := Lib.hid (show Mi gs rs o ⟨(c : Int), (tm : Int), (tk : Int), gr⟩ i i (c : Int) = usedAt gs ⟨rg, pp, rl1⟩ (c : Int) o from by
            have := Mi_at (gs := gs) (rs := rs) (o := o) (t := ⟨(c : Int), (tm : Int), (tk : Int), gr⟩) HLT.out (by dsimp only; have := HCC.out; omega)
            rw [HRU.out] at this; exact this)
          refine wpIn_wide.1 (wp_range (xs := fun k => #[.agg #[.int .i64 (partI tm (tm - tk) pp k).1, .int .i64 (partI tm (tm - tk) pp k).2]]) rfl (enters_of Tryd.func76 (by kernel_rfl) rfl) hit (fun k h => h.elim) (fun k h => by have := HSZ.out; omega) (fun k => rfl)
            (fun k W => ∃ F' N', RuG W0' w0 B0 gl rs.length c1 c2 A1 (some ⟨bb, off, none⟩) G0 R0 A0 U0 Mb S1 (aa + mn) (aa + k) (updM (Mi gs rs o ⟨(c : Int), (tm : Int), (tk : Int), gr⟩ i) i (c : Int) (addsP (usedAt gs ⟨rg, pp, rl1⟩ (c : Int) o) (uptoP (partI tm (tm - tk) pp) k))) X E #[.int .i64 eseq, .int .i64 (tm : Nat), .int .u8 (c : Nat), .int .u8 ekind, .int .i64 etask, .int .i64 egrp, .int .i64 eto, .int .i64 ewt, .int .i64 (tk : Nat), .int .u64 emask, .int .i64 egot] (.slice Ap np cp) pl Ds W F' N' ∧ W.heap[KB]? = some (.cells #[.int .i64 (i : Nat), .int .i64 (c : Nat)] 102 (0, 0)) ∧ Boxed W B1 3 (.int .i64 (tm : Nat)) ∧ Boxed W B2 3 (.int .i64 (tk : Nat)) ∧ Boxed W B3 3 (.int .i64 (pp : Nat))) (fun _ _ => False) (fun k W1 W2 h hc => ?stab) (fun _ _ _ h _ => h) ?init ?round2 ?done (fun _ _ _ h => h.elim))
          case init =>
            refine ⟨F, N, ?_, HKC3.out, HBX.out⟩
            rw [show addsP (usedAt gs ⟨rg, pp, rl1⟩ (c : Int) o) (uptoP (partI tm (tm - tk) pp) 0) = usedAt gs ⟨rg, pp, rl1⟩ (c : Int) o from rfl, ← HMI.out, updM_same]
            exact HR3.out
          case stab =>
            obtain ⟨F', N', h1, h2, h3, h4, h5⟩ := h
            exact ⟨F', N', h1.chg HB.out hc HSZ.out.2.2.2.2.2 HSZ.out.2.2.2.1 HSZ.out.2.2.2.2.1, hc.cells h2 (fun t => t), h3.chg hc (fun t => t), h4.chg hc (fun t => t), h5.chg hc (fun t => t)⟩
          case round2 =>
            rintro l k W hk hl hl2 ⟨F', N', hg, hkb, s1, s2, s3⟩
            have HKK := Lib.hid hk
            have hacc := AccOk.upto HACC.out HTK.out.1 HTK.out.2.1 HPP.out.1 (by omega) k (by omega)
            obtain ⟨f1, f2, f3, f4⟩ := part_span HTK.out.1 HTK.out.2.1 HPP.out.1 hk
            have hlen := addsP_len (usedAt gs ⟨rg, pp, rl1⟩ (c : Int) o) (uptoP (partI tm (tm - tk) pp) k)
            rw [uptoP_len] at hlen
            have HLEN := Lib.hid (show (addsP (usedAt gs ⟨rg, pp, rl1⟩ (c : Int) o) (uptoP (partI tm (tm - tk) pp) k)).length ≤ 1000000 from by have := HUL.out; have := HMN.out; have := HOV.out; omega)
            have HNXL := Lib.hid (show addsP (usedAt gs ⟨rg, pp, rl1⟩ (c : Int) o) (uptoP (partI tm (tm - tk) pp) (k + 1)) = addP (addsP (usedAt gs ⟨rg, pp, rl1⟩ (c : Int) o) (uptoP (partI tm (tm - tk) pp) k)) (partI tm (tm - tk) pp k) from by rw [uptoP_succ, addsP_snoc])
            have HPQ := Lib.hid (show 0 ≤ (partI tm (tm - tk) pp k).2 ∧ (partI tm (tm - tk) pp k).2 ≤ 1099511627776 from by
              unfold partI
              dsimp only
              have h1 : ((tm - tk) / pp + k + 1) * pp = ((tm - tk) / pp + k) * pp + pp := by rw [Nat.add_mul, Nat.one_mul]
              rw [h1] at f4
              generalize ((tm - tk) / pp + k) * pp = Z at f2 f4
              have := HPP.out
              omega)
            have HQQ := Lib.hid (show ∀ q ∈ addsP (usedAt gs ⟨rg, pp, rl1⟩ (c : Int) o) (uptoP (partI tm (tm - tk) pp) k), 0 ≤ q.2 ∧ q.2 ≤ 1099511627776 from fun q hq => by
              have h1 := hacc.each q hq
              have := HPP.out
              omega)
            clear hacc f1 f2 f3 f4 hlen hit
            obtain ⟨ll, hll⟩ : ∃ ll, addsP (usedAt gs ⟨rg, pp, rl1⟩ (c : Int) o) (uptoP (partI tm (tm - tk) pp) k) = ll := ⟨_, rfl⟩
            obtain ⟨q, hq⟩ : ∃ q, partI tm (tm - tk) pp k = q := ⟨_, rfl⟩
            rw [hll] at HLEN HNXL HQQ hg
            rw [hq] at HPQ HNXL ⊢
            clear hll hq
            obtain ⟨q1, q2⟩ := q
            dsimp only at HPQ
            obtain ⟨PB, hPB⟩ : ∃ PB, PB = W.heap.size := ⟨_, rfl⟩
            have HPB := Lib.hid hPB
            have hg1 := Lib.hid (hg.below HB.out (bel_alloc W (.cells #[.int .i64 q1, .int .i64 q2] 27)))
            have t0 := Lib.hid (show (W.alloc (.cells #[.int .i64 q1, .int .i64 q2] 27)).heap[PB]? = some (.cells #[.int .i64 q1, .int .i64 q2] 27 (0, 0)) from by rw [hPB]; exact World.alloc_heap_new W _)
            have t1 := Lib.hid ((Below.heap_alloc W (.cells #[.int .i64 q1, .int .i64 q2] 27) KB (Array.getElem?_eq_some_iff.1 hkb).1).trans hkb)
            have t2 := Lib.hid (show Boxed (W.alloc (.cells #[.int .i64 q1, .int .i64 q2] 27)) B1 3 (.int .i64 (tm : Nat)) ∧ Boxed (W.alloc (.cells #[.int .i64 q1, .int .i64 q2] 27)) B2 3 (.int .i64 (tk : Nat)) ∧ Boxed (W.alloc (.cells #[.int .i64 q1, .int .i64 q2] 27)) B3 3 (.int .i64 (pp : Nat)) from ⟨s1.below (bel_alloc W _), s2.below (bel_alloc W _), s3.below (bel_alloc W _)⟩)
            have HROW := Lib.hid (fun (kl : Lit) (g : Nat) (h : ((F' kl).getD (.slice none 0 0)).ownBlock = some g) => (show g < W.heap.size from by obtain ⟨_, cs, h2⟩ := hg.acc.rows_ne (by have := HOV.out; omega) h; exact (Array.getElem?_eq_some_iff.1 h2).1))
            clear hk hg hkb s1 s2 s3
            gi_wp2
            rw [← hPB]
            refine ⟨BK.alloc _, fun W2 hc hq => ?_⟩
            have hg2 := hg1.out.chg HB.out hc HSZ.out.2.2.2.2.2 HSZ.out.2.2.2.1 HSZ.out.2.2.2.2.1
            have t0 := Lib.hid (hc.cells t0.out (fun t => t))
            have t1 := Lib.hid (hc.cells t1.out (fun t => t))
            have t2 := Lib.hid (And.intro (t2.out.1.chg hc (fun t => t)) (And.intro (t2.out.2.1.chg hc (fun t => t)) (t2.out.2.2.chg hc (fun t => t))))
            clear hc hq hg1 hPB
            obtain ⟨wx, hwx⟩ : ∃ wx, W2.drew = wx := ⟨_, rfl⟩
            have HWX := Lib.hid hwx
            have HGX := Lib.hid (show RuG W0' w0 B0 gl rs.length c1 c2 A1 (some ⟨bb, off, none⟩) G0 R0 A0 U0 Mb S1 (aa + mn) (aa + k) (updM (Mi gs rs o ⟨(c : Int), (tm : Int), (tk : Int), gr⟩ i) i (c : Int) ll) X E #[.int .i64 eseq, .int .i64 (tm : Nat), .int .u8 (c : Nat), .int .u8 ekind, .int .i64 etask, .int .i64 egrp, .int .i64 eto, .int .i64 ewt, .int .i64 (tk : Nat), .int .u64 emask, .int .i64 egot] (.slice Ap np cp) pl Ds wx F' N' from hwx ▸ hg2.below HB.out (below_drew (Below.refl _ _)))
            have HHX := Lib.hid (show wx.heap = W2.heap from by rw [← hwx]; rfl)
            clear hwx hg2
            obtain ⟨vv, hvv⟩ : ∃ vv, (F' (kL (i : Int) (c : Int))).getD (.slice none 0 0) = vv := ⟨_, rfl⟩
            have HVV := Lib.hid hvv
            have hI1 : I64 (i : Int) := by unfold I64; omega
            have hI2 : I64 (c : Int) := by unfold I64; omega
            have HII := Lib.hid (And.intro hI1 hI2)
            have HKY := Lib.hid (keyK hI1 hI2)
            have HAL := Lib.hid (show aa + mn ≤ 65536 from by have := HOV.out; omega)
            have hov2 := (HGX.out.acc.fam HAL.out).at hI1 hI2
            rw [updM_at, hvv] at hov2
            have HADD := Lib.hid (add_ok wx B0 vv ll (q1, q2) hov2 HLEN.out (by have := HGX.out.acc.low.size; have := HB.out; omega) HQQ.out HPQ.out)
            unfold AddPost at HADD
            dsimp only at HADD
            have HMPX := Lib.hid HGX.out.acc.mp
            have HNM := Lib.hid (show N' < maxLen from by have := HGX.out.n1; unfold maxLen; omega)
            have HCX := Lib.hid (show wx.cell? ⟨U0, 0, none⟩ = some (.map (some Mb)) ∧ wx.cell? ⟨KB, 0, none⟩ = some (.int .i64 (i : Nat)) ∧ wx.cell? ⟨KB, 1, none⟩ = some (.int .i64 (c : Nat)) ∧ wx.cell? ⟨PB, 0, none⟩ = some (.int .i64 q1) ∧ wx.cell? ⟨PB, 1, none⟩ = some (.int .i64 q2) from
              ⟨HGX.out.acc.u0.cell, cell_of_row _ _ 0 _ _ _ (by rw [HHX.out]; exact t1.out), cell_of_row _ _ 1 _ _ _ (by rw [HHX.out]; exact t1.out), cell_of_row _ _ 0 _ _ _ (by rw [HHX.out]; exact t0.out), cell_of_row _ _ 1 _ _ _ (by rw [HHX.out]; exact t0.out)⟩)
            have HCY := Lib.hid (fun (W : World) (gv : wx.grownBy W vv.ownBlock) => (show W.cell? ⟨U0, 0, none⟩ = some (.map (some Mb)) ∧ W.cell? ⟨KB, 0, none⟩ = some (.int .i64 (i : Nat)) ∧ W.cell? ⟨KB, 1, none⟩ = some (.int .i64 (c : Nat)) ∧ W.cell? ⟨PB, 0, none⟩ = some (.int .i64 q1) ∧ W.cell? ⟨PB, 1, none⟩ = some (.int .i64 q2) from by
              have hne : ∀ {k : Nat} {cs : Array Value} {t : TypeId} {fz : Nat × Nat}, t ≠ 27 → wx.heap[k]? = some (.cells cs t fz) → W.heap[k]? = wx.heap[k]? := fun {k cs t fz} ht hkk => gv.block k (Array.getElem?_eq_some_iff.1 hkk).1 (fun e => by
                rw [← HVV.out] at e
                obtain ⟨_, cs', hh⟩ := HGX.out.acc.rows_ne HAL.out e.symm
                rw [hkk] at hh; simp at hh; exact ht hh.2.1)
              have b1 := hne (k := U0) (t := 98) (by decide) HGX.out.acc.u0
              have b2 := hne (k := KB) (t := 102) (by decide) (by rw [HHX.out]; exact t1.out)
              have b3 : W.heap[PB]? = wx.heap[PB]? := gv.block PB (Array.getElem?_eq_some_iff.1 (by rw [HHX.out]; exact t0.out)).1 (fun e => by
                rw [← HVV.out] at e
                have := HROW.out _ _ e.symm
                have := HPB.out
                omega)
              exact ⟨(World.cell?_of_block (a := ⟨U0, 0, none⟩) b1).trans HCX.out.1, (World.cell?_of_block (a := ⟨KB, 0, none⟩) b2).trans HCX.out.2.1, (World.cell?_of_block (a := ⟨KB, 1, none⟩) b2).trans HCX.out.2.2.1, (World.cell?_of_block (a := ⟨PB, 0, none⟩) b3).trans HCX.out.2.2.2.1, (World.cell?_of_block (a := ⟨PB, 1, none⟩) b3).trans HCX.out.2.2.2.2⟩))
            have HMP2 := Lib.hid (fun (W : World) (gv : wx.grownBy W vv.ownBlock) => (show MpV Tryd.prog 102 W Mb N' F' from HGX.out.acc.mp.same (gv.block Mb HGX.out.acc.mp.lt (fun e => by
              rw [← HVV.out] at e
              obtain ⟨_, cs', hh⟩ := HGX.out.acc.rows_ne HAL.out e.symm
              exact HGX.out.acc.mp.ne_cells hh rfl))))
            clear hvv hov2 hI1 hI2
            gi_wp2
            have h4 : W0.round = none := rfl
            refine wpIn_region_chain (by kernel_rfl) 8 rfl 2 (fun m => match m with | 0 => 6 | _ => 7) (fun x => ⟨#[.agg #[.int .i64 eseq, .int .i64 (tm : Nat), .int .u8 (c : Nat), .int .u8 ekind, .int .i64 etask, .int .i64 egrp, .int .i64 eto, .int .i64 ewt, .int .i64 (tk : Nat), .int .u64 emask, .int .i64 egot], .int .i64 gr, .pointer (some ⟨G0, 0, none⟩), .pointer (some ⟨R0, 0, none⟩), .pointer (some ⟨A0, 0, none⟩), .pointer (some ⟨U0, 0, none⟩), .pointer (some ⟨E, 0, none⟩), u7, .slice Ap np cp, u9, .int .i64 (i : Nat), .pointer (some ⟨RB, 0, none⟩), .pointer (some ⟨KB, 0, none⟩), .pointer (some ⟨PB, 0, none⟩), u14, u15, u16, u17, u18, u19, .slice (some ⟨bb, off, none⟩) rl c2, .int .i64 (rl : Nat), .int .i64 (i : Nat), .bool true, .int .i64 (i : Nat), .pointer (some ⟨bb, off + i * 3, none⟩), .agg #[.int .i64 rg, .int .i64 (pp : Nat), .int .i64 rl1], .slice Ap np cp, .pointer (some ⟨RB, 0, none⟩), .int .i64 rg, .bool true, .bool false, y32, y33, y34, y35, y36, y37, y38, y39, y40, .int .i64 ((aa : Int) + (mn : Int)), .bool false, .int .i64 (i : Nat), .pointer (some ⟨E, 2, none⟩), .int .u8 (c : Nat), .int .i64 (c : Nat), .agg #[.int .i64 (i : Nat), .int .i64 (c : Nat)], .pointer (some ⟨E, 1, none⟩), .int .i64 (tm : Nat), .pointer (some ⟨E, 8, none⟩), .int .i64 (tk : Nat), .pointer (some ⟨RB, 1, none⟩), .int .i64 (pp : Nat), .func (.func 76) #[] #[.pointer (some ⟨B1, 0, none⟩), .pointer (some ⟨B2, 0, none⟩), .pointer (some ⟨B3, 0, none⟩)], .agg #[.int .i64 q1, .int .i64 q2], x 0, x 1, x 2, x 3, x 4, x 5, x 6, u63], []⟩) (fun iF vF => match iF with | 0 => vF = .map (some Mb) | 1 => vF = .agg #[.int .i64 (i : Nat), .int .i64 (c : Nat)] | 2 => vF = .map (some Mb) | 3 => vF = .agg #[.int .i64 (i : Nat), .int .i64 (c : Nat)] | 4 => vF = vv | 5 => vF = .agg #[.int .i64 q1, .int .i64 q2] | _ => True)
              (fun k x W => (k = 0 → W = wx ∧ True) ∧ (k = 1 → ∃ v2, x 6 = v2 ∧ OV encG 2 27 B0 W v2 (addP ll (q1, q2)) ∧ wx.grownBy W vv.ownBlock ∧ (v2.ownBlock = vv.ownBlock ∨ ∃ g, v2.ownBlock = some g ∧ wx.heap.size ≤ g)) ∧ (k = 2 → ∃ v2 W1, OV encG 2 27 B0 W1 v2 (addP ll (q1, q2)) ∧ wx.grownBy W1 vv.ownBlock ∧ (v2.ownBlock = vv.ownBlock ∨ ∃ g, v2.ownBlock = some g ∧ wx.heap.size ≤ g) ∧ MpV Tryd.prog 102 W Mb (N' + 1) (updF F' (kL (i : Int) (c : Int)) (some v2)) ∧ W1.grownBy W (some Mb))) (by kernel_rfl) ?hB (by kernel_rfl) (by kernel_rfl) ?hpure ?hchain ?hend (fun i => (#[u56, u57, u58, u59, u60, u61, u62, undef] : Array Value).getD i undef) rfl ?hstart
            case hstart =>
              try dsimp only
              exact ⟨fun _ => ⟨HWX.out, trivial⟩, fun h => (by first | exact h.elim | omega | cases h), fun h => (by first | exact h.elim | omega | cases h)⟩
            case hB =>
              intro k x i v W hi h
              have h6 : ¬ 6 = i := by rintro rfl; exact absurd (show true = false from hi) (by simp)
              try dsimp only at h ⊢
              rw [upd_ne h6]
              exact h
            case hpure =>
              intro iF o hi hnc ho k x W hk hB hd hbf hx K hK
              rcases (show iF = 0 ∨ iF = 1 ∨ iF = 2 ∨ iF = 3 ∨ iF = 4 ∨ iF = 5 ∨ iF = 6 ∨ iF = 7 by omega) with rfl | rfl | rfl | rfl | rfl | rfl | rfl | rfl
              · obtain rfl := Option.some.inj ho
                have hk2 : k < 2 := by
                  rcases Nat.lt_or_ge k 2 with h | h
                  · exact h
                  · exact absurd (show false = true from (hx 1 (by omega)).symm.trans (by kernel_rfl)) (by simp)
                have hcc : W.cell? ⟨U0, 0, none⟩ = some (.map (some Mb)) ∧ W.cell? ⟨KB, 0, none⟩ = some (.int .i64 (i : Nat)) ∧ W.cell? ⟨KB, 1, none⟩ = some (.int .i64 (c : Nat)) ∧ W.cell? ⟨PB, 0, none⟩ = some (.int .i64 q1) ∧ W.cell? ⟨PB, 1, none⟩ = some (.int .i64 q2) := by
                  rcases (show k = 0 ∨ k = 1 by omega) with rfl | rfl
                  · obtain ⟨rfl, _⟩ := hB.1 rfl; exact HCX.out
                  · obtain ⟨v2, _, _, gv2, _⟩ := hB.2.1 rfl; exact HCY.out W gv2
                obtain ⟨k1, k2, k3, k4, k5⟩ := hcc
                clear ho hd hx hbf hB hnc hi
                simp only [upd, reduceIte, Nat.reduceEqDiff] at hK
                dsimp only
                go_simp
                exact hK _ rfl
              · obtain rfl := Option.some.inj ho
                have hk2 : k < 2 := by
                  rcases Nat.lt_or_ge k 2 with h | h
                  · exact h
                  · exact absurd (show false = true from (hx 1 (by omega)).symm.trans (by kernel_rfl)) (by simp)
                have hcc : W.cell? ⟨U0, 0, none⟩ = some (.map (some Mb)) ∧ W.cell? ⟨KB, 0, none⟩ = some (.int .i64 (i : Nat)) ∧ W.cell? ⟨KB, 1, none⟩ = some (.int .i64 (c : Nat)) ∧ W.cell? ⟨PB, 0, none⟩ = some (.int .i64 q1) ∧ W.cell? ⟨PB, 1, none⟩ = some (.int .i64 q2) := by
                  rcases (show k = 0 ∨ k = 1 by omega) with rfl | rfl
                  · obtain ⟨rfl, _⟩ := hB.1 rfl; exact HCX.out
                  · obtain ⟨v2, _, _, gv2, _⟩ := hB.2.1 rfl; exact HCY.out W gv2
                obtain ⟨k1, k2, k3, k4, k5⟩ := hcc
                clear ho hd hx hbf hB hnc hi
                simp only [upd, reduceIte, Nat.reduceEqDiff] at hK
                dsimp only
                go_simp
                exact hK _ rfl
              · obtain rfl := Option.some.inj ho
                have hk2 : k < 2 := by
                  rcases Nat.lt_or_ge k 2 with h | h
                  · exact h
                  · exact absurd (show false = true from (hx 1 (by omega)).symm.trans (by kernel_rfl)) (by simp)
                have hcc : W.cell? ⟨U0, 0, none⟩ = some (.map (some Mb)) ∧ W.cell? ⟨KB, 0, none⟩ = some (.int .i64 (i : Nat)) ∧ W.cell? ⟨KB, 1, none⟩ = some (.int .i64 (c : Nat)) ∧ W.cell? ⟨PB, 0, none⟩ = some (.int .i64 q1) ∧ W.cell? ⟨PB, 1, none⟩ = some (.int .i64 q2) := by
                  rcases (show k = 0 ∨ k = 1 by omega) with rfl | rfl
                  · obtain ⟨rfl, _⟩ := hB.1 rfl; exact HCX.out
                  · obtain ⟨v2, _, _, gv2, _⟩ := hB.2.1 rfl; exact HCY.out W gv2
                obtain ⟨k1, k2, k3, k4, k5⟩ := hcc
                clear ho hd hx hbf hB hnc hi
                simp only [upd, reduceIte, Nat.reduceEqDiff] at hK
                dsimp only
                go_simp
                exact hK _ rfl
              · obtain rfl := Option.some.inj ho
                have hk2 : k < 2 := by
                  rcases Nat.lt_or_ge k 2 with h | h
                  · exact h
                  · exact absurd (show false = true from (hx 1 (by omega)).symm.trans (by kernel_rfl)) (by simp)
                have hcc : W.cell? ⟨U0, 0, none⟩ = some (.map (some Mb)) ∧ W.cell? ⟨KB, 0, none⟩ = some (.int .i64 (i : Nat)) ∧ W.cell? ⟨KB, 1, none⟩ = some (.int .i64 (c : Nat)) ∧ W.cell? ⟨PB, 0, none⟩ = some (.int .i64 q1) ∧ W.cell? ⟨PB, 1, none⟩ = some (.int .i64 q2) := by
                  rcases (show k = 0 ∨ k = 1 by omega) with rfl | rfl
                  · obtain ⟨rfl, _⟩ := hB.1 rfl; exact HCX.out
                  · obtain ⟨v2, _, _, gv2, _⟩ := hB.2.1 rfl; exact HCY.out W gv2
                obtain ⟨k1, k2, k3, k4, k5⟩ := hcc
                clear ho hd hx hbf hB hnc hi
                simp only [upd, reduceIte, Nat.reduceEqDiff] at hK
                dsimp only
                go_simp
                exact hK _ rfl
              · obtain rfl := Option.some.inj ho
                have e2 : x 2 = .map (some Mb) := hd 2 (by kernel_rfl) (by kernel_rfl)
                have e3 : x 3 = .agg #[.int .i64 (i : Nat), .int .i64 (c : Nat)] := hd 3 (by kernel_rfl) (by kernel_rfl)
                have hw0 : k = 0 := by
                  rcases Nat.eq_zero_or_pos k with h | h
                  · exact h
                  · exact absurd (show false = true from (hx 0 h).symm.trans (by kernel_rfl)) (by simp)
                subst hw0
                have hwx : W = wx := (hB.1 rfl).1
                have hlk := HMPX.out.look lawK Tryd.underlying98 (zeroPs _) HKY.out
                rw [HVV.out, ← hwx] at hlk
                clear hwx
                clear ho hd hx hbf hB hnc hi
                simp only [upd, reduceIte, Nat.reduceEqDiff, e2, e3] at hK
                dsimp only
                go_simp
                exact hK _ rfl
              · obtain rfl := Option.some.inj ho
                have hk2 : k < 2 := by
                  rcases Nat.lt_or_ge k 2 with h | h
                  · exact h
                  · exact absurd (show false = true from (hx 1 (by omega)).symm.trans (by kernel_rfl)) (by simp)
                have hcc : W.cell? ⟨U0, 0, none⟩ = some (.map (some Mb)) ∧ W.cell? ⟨KB, 0, none⟩ = some (.int .i64 (i : Nat)) ∧ W.cell? ⟨KB, 1, none⟩ = some (.int .i64 (c : Nat)) ∧ W.cell? ⟨PB, 0, none⟩ = some (.int .i64 q1) ∧ W.cell? ⟨PB, 1, none⟩ = some (.int .i64 q2) := by
                  rcases (show k = 0 ∨ k = 1 by omega) with rfl | rfl
                  · obtain ⟨rfl, _⟩ := hB.1 rfl; exact HCX.out
                  · obtain ⟨v2, _, _, gv2, _⟩ := hB.2.1 rfl; exact HCY.out W gv2
                obtain ⟨k1, k2, k3, k4, k5⟩ := hcc
                clear ho hd hx hbf hB hnc hi
                simp only [upd, reduceIte, Nat.reduceEqDiff] at hK
                dsimp only
                go_simp
                exact hK _ rfl
              · exact absurd (show true = false from hnc) (by simp)
              · exact absurd (show true = false from hnc) (by simp)
            case hchain =>
              intro k o hk ho x W hB hd K hK
              rcases (show k = 0 ∨ k = 1 by omega) with rfl | rfl
              · obtain rfl := Option.some.inj ho
                have e4 : x 4 = vv := hd 4 (by kernel_rfl) (by kernel_rfl)
                have e5 : x 5 = .agg #[.int .i64 q1, .int .i64 q2] := hd 5 (by kernel_rfl) (by kernel_rfl)
                clear ho hd hk
                obtain ⟨hS, _⟩ := hB
                obtain ⟨rfl, _⟩ := hS rfl
                simp only [upd, reduceIte, Nat.reduceEqDiff, e4, e5] at hK
                dsimp only
                go_simp
                refine ⟨trivial, rfl, (show CallsIn (W0.inRound l) 0 _ _ _ _ _ from in_of HADD.out).mono ?_⟩
                rintro r W2 ⟨v2, rfl, ov2, gv2, av2⟩
                refine hK _ _ ?_
                try dsimp only
                exact ⟨fun h => (by first | exact h.elim | omega | cases h), fun _ => ⟨v2, rfl, ov2, gv2, av2⟩, fun h => (by first | exact h.elim | omega | cases h)⟩
              · obtain rfl := Option.some.inj ho
                have e0 : x 0 = .map (some Mb) := hd 0 (by kernel_rfl) (by kernel_rfl)
                have e1 : x 1 = .agg #[.int .i64 (i : Nat), .int .i64 (c : Nat)] := hd 1 (by kernel_rfl) (by kernel_rfl)
                clear ho hd hk
                obtain ⟨_, hS, _⟩ := hB
                obtain ⟨v2, e6, ov2, gv2, av2⟩ := hS rfl
                have mp2 := HMP2.out W gv2
                simp only [upd, reduceIte, Nat.reduceEqDiff, e0, e1, e6] at hK
                dsimp only
                obtain ⟨W3, hrun, m3, g3⟩ := mp2.store lawK Tryd.underlying98 HNM.out HKY.out v2
                go_simp
                refine hK undef _ ?_
                try dsimp only
                exact ⟨fun h => (by first | exact h.elim | omega | cases h), fun h => (by first | exact h.elim | omega | cases h), fun _ => ⟨v2, W, ov2, gv2, av2, m3, g3⟩⟩
            case hend =>
              intro x W hB hd
              obtain ⟨v2, W1, ov2, gv2, av2, m3, g3⟩ := hB.2.2 rfl
              clear hB hd
              rw [← HVV.out] at gv2 av2
              have HBK := Lib.hid (show BK (fun k => k = B1 ∨ k = B2 ∨ k = B3) W2 W from ⟨by have h1 := gv2.size; have h2 := g3.size; rw [HHX.out] at h1; omega, fun k o ho hs => by
                have ho' : wx.heap[k]? = some o := by rw [HHX.out]; exact ho
                refine HGX.out.kept2 HAL.out gv2 g3 ho' ?_ ?_
                · rintro cs rfl
                  rcases hs with (rfl | rfl | rfl) | hs
                  · have := (show W2.heap[_]? = _ from t2.out.1).symm.trans ho; simp at this
                  · have := (show W2.heap[_]? = _ from t2.out.2.1).symm.trans ho; simp at this
                  · have := (show W2.heap[_]? = _ from t2.out.2.2).symm.trans ho; simp at this
                  · cases hs
                · rintro es cl rfl
                  rcases hs with (rfl | rfl | rfl) | hs
                  · have := (show W2.heap[_]? = _ from t2.out.1).symm.trans ho; simp at this
                  · have := (show W2.heap[_]? = _ from t2.out.2.1).symm.trans ho; simp at this
                  · have := (show W2.heap[_]? = _ from t2.out.2.2).symm.trans ho; simp at this
                  · cases hs⟩)
              have HNE := Lib.hid (show addP ll (q1, q2) ≠ [] from by
                rcases List.eq_nil_or_concat ll with h | ⟨r, z, h⟩
                · rw [h, addP_nil]; simp
                · rw [h, List.concat_eq_append, addP_snoc]; split <;> simp)
              have h5 := HGX.out.add HB.out HAL.out (by have := HKK.out; have := HMN.out; have := HOV.out; omega) HXS.out.2.1 HII.out.1 HII.out.2 ov2 HNE.out gv2 av2 m3 g3
              rw [updM_twice, ← HNXL.out] at h5
              have HFIN := Lib.hid h5
              have HKB5 := Lib.hid (HGX.out.kept2 HAL.out gv2 g3 (k := KB) (by rw [HHX.out]; exact t1.out) (fun cs e => by simp at e) (fun es cl e => by cases e))
              clear h5 ov2 gv2 av2 m3 g3
              gi_wp2
              exact ⟨HBK.out, _, _, HFIN.out, HKB5.out, HBK.out.same _ _ t2.out.1 (.inl (.inl rfl)), HBK.out.same _ _ t2.out.2.1 (.inl (.inr (.inl rfl))), HBK.out.same _ _ t2.out.2.2 (.inl (.inr (.inr rfl)))⟩
          case done =>
            rintro D W ⟨F', N', hg, _⟩ hD hKD
            have HS2 := Lib.hid (show RuI W0' w0 B0 gl c1 c2 A1 (some ⟨bb, off, none⟩) G0 R0 A0 U0 Mb S1 gs rs o ⟨(c : Int), (tm : Int), (tk : Int), gr⟩ X E #[.int .i64 eseq, .int .i64 (tm : Nat), .int .u8 (c : Nat), .int .u8 ekind, .int .i64 etask, .int .i64 egrp, .int .i64 eto, .int .i64 ewt, .int .i64 (tk : Nat), .int .u64 emask, .int .i64 egot] (.slice Ap np cp) pl (i + 1) (D :: Ds) W F' N' from by
              unfold RuI
              rw [HNXT.out, Mi_hit HLT.out (by dsimp only; have := HCC.out; omega) HHIT.out]
              have h1 := hg.mark hKD (fun h => by have := HSZ.out.2.2.2.2.1 D h; omega) (by have := HSZ.out; omega)
              rw [HRU.out]
              unfold tickP partsL
              simp only [Int.toNat_natCast]
              rw [HMN.out] at h1 ⊢
              exact h1)
            clear hg hKD hit
            go_wp2
            exact Handed.intro (n - 1) (by have := HIK.out; omega) (hJ _ _ _ ⟨i + 1, D :: Ds, F', N', _, _, _, _, _, _, _, _, _, _, _, _, _, _, _, _, _, _, _, _, _, _, _, _, _, _, _, _, _, _, _, _, _, _, _, _, _, _, _, _, _, _, _, _, _, _, _, _, _, _, _, _, _, _, by have := HIK.out; omega, by go_num, rfl, HS2.out⟩)
    · obtain rfl : rl = i := by have := HIK.out; omega
      clear hlt
      go_wp2
      exact leaves_marks (v := .tuple #[]) (fun w' => results_none rfl _ _ _) Ds wr HRI.out.mrk.1 (FIN.out Ds wr F N (by rw [← HRL.out]; exact HRI.out))
end Go.Proofs.YtaplangfppohdaaDoor

/- The walk of the law SeqWrong. -/
import Derived.Test.YtofjgcbjpmgkdaaUh
import Derived.Test.YtofjgcbjpmgkdaaUi
import Derived.Test.YtofjgcbjpmgkdaaUj
import Derived.Deep.CutBlock
import Derived.StillTailTactics
import Derived.Deep.RegionLaw
import Derived.Deep.RegionHeld3
set_option linter.unusedVariables false
set_option linter.unusedSimpArgs false
set_option linter.unusedSectionVars false
namespace Go.Proofs.Ytofjgcbjpmgkdaa
open Go Go.RowKit Go.Shelf

set_option maxRecDepth 100000 in
set_option maxHeartbeats 8000000 in
theorem wrongLaw_walk (w : World) (a1 : Option Addr) (n1 c1 : Nat) (z1 : List Int) (a b : Nat) (x : Int) (h1 : IsRow .u8 w a1 n1 c1 z1) (ha : a < 256) (hb : b < 256) (hx1 : -9223372036854775808 ≤ x) (hx2 : x ≤ 9223372036854775807) :
    Calls Try.prog 11 #[.slice a1 n1 c1, .int .u8 a, .int .u8 b, .int .i64 x] w fun e w' => e = .returned (.bool true) ∧ Below w.heap.size w w' := by
  obtain ⟨A, ⟨rA, lA, MA⟩, eA⟩ := made_arg2 h1
  obtain ⟨rG, f1, f2, lG⟩ := good_right rA lA eA
  have MA := Lib.hid MA
  have RG := Lib.hid rG
  have RA := Lib.hid rA
  clear h1 rG rA
  go_enter Try.func11, Try.ntmps11
  go_wp2_with fail
  refine (awake_ok w).mono ?_
  rintro e w1 ⟨rfl, b1⟩
  have s1 := b1.size
  have M1 := Lib.hid (MA.out w1 b1)
  go_wp2_with fail
  refine M1.out.mono ?_
  rintro e w2 ⟨v, rfl, o2, b2⟩
  have B2 := Lib.hid (b1.trans (b2.mono s1))
  have O2 := Lib.hid (o2.base_le s1)
  have s2 := B2.out.size
  clear b1 b2 o2 M1 MA
  go_wp2_with (at_builtin; refine wpList_app elemR encP_len encP_one rfl (.tmp 44) (.tmp 46) rfl _ _ rfl rfl (O2.out.alloc _) (new_pair (p := 0) (q := 0)) ?q1 ?q2 ?_)
  case q1 => simp; omega
  case q2 => (try simp); omega
  intro vg w3 o3 g3
  have B3 := Lib.hid ((B2.out.alloc s2 _).grown g3 (by simp; omega) (fun k hk => (O2.out.block k hk).1))
  obtain ⟨n, hn⟩ : ∃ n, A.length = n := ⟨_, rfl⟩
  have HN := Lib.hid hn
  have hl3 : (A ++ [((0 : Int), (0 : Int))]).length = n + 1 := by simp [hn]
  obtain ⟨g, cap, hvg, hcap, hg1, hg2⟩ := o3.row_form encP_len hl3 (by omega)
  subst hvg
  rw [hn] at lA lG
  obtain ⟨o4, g4⟩ := OV.setP o3 hl3 (i := n) (p := 0) (q := 0) (get_snoc A _ hn) 1
  rw [set_snoc A _ _ hn] at o4
  have hl4 : (A ++ [((1 : Int), (0 : Int))]).length = n + 1 := by simp [hn]
  obtain ⟨o5, g5⟩ := OV.setW o4 hl4 (i := n) (p := 1) (q := 0) (get_snoc A _ hn) 3
  rw [set_snoc A _ _ hn] at o5
  have r3 := (o3.ev encP_len).row3 (by rw [hl3]; omega)
  obtain ⟨c0, c1'⟩ := r3.prs (get_snoc A (0, 0) hn)
  have k0 := o3.frz hl3 (n * 2)
  have k1 := o3.frz hl3 (n * 2 + 1)
  dsimp only at c0 c1'
  rw [Nat.zero_add] at c0 c1'
  have B5 := Lib.hid ((B3.out.setCell (p := ⟨g, n * 2, none⟩) hg1 (.int .i64 1)).setCell (p := ⟨g, n * 2 + 1, none⟩) hg1 (.int .i64 3))
  have O5 := Lib.hid o5
  have w9 : IntKind.i64.wrap ((n : Int) + 1 - 1) = (n : Int) := by rw [show (n : Int) + 1 - 1 = (n : Int) by omega]; exact IntWalk.i64_in _ (by omega)
  clear g3 o3 o4 g4 o5 g5 r3 hn hl3 hl4 B3 O2
  go_upto_if 56 with fail
  clear c0 c1' k0 k1 hg2
  generalize (w3.setCell ⟨g, n * 2, none⟩ (.int .i64 1)).setCell ⟨g, n * 2 + 1, none⟩ (.int .i64 3) = w4 at B5 O5 ⊢
  go_cut [57] (fun _ wx => OV encP 2 35 w.heap.size wx (.slice (some ⟨g, 0, none⟩) (n + 1) cap) (goodL A) ∧ Below w.heap.size w wx)
  case first =>
    as_aux_lemma =>
    by_cases h0 : n = 0
    · subst h0
      have hA : A = [] := List.eq_nil_of_length_eq_zero HN.out
      have X := Lib.hid (show OV encP 2 35 w.heap.size w4 (.slice (some ⟨g, 0, none⟩) (0 + 1) cap) (goodL A) ∧ Below w.heap.size w w4 from ⟨by have := O5.out; subst hA; exact this, B5.out⟩)
      have hd : decide ((0 : Int) < ((0 : Nat) : Int)) = false := by simp
      clear hA w9
      go_wp2_with fail
      go_meet
      exact X.out
    · obtain ⟨⟨s1, s2⟩, hs⟩ : ∃ r, A[n - 1]? = some r := ⟨_, List.getElem?_eq_getElem (by rw [HN.out]; omega)⟩
      have hs' : (A ++ [((1 : Int), (3 : Int))])[n - 1]? = some (s1, s2) := by rw [List.getElem?_append_left (by rw [HN.out]; omega)]; exact hs
      have hok := rok_iff.1 (can_get (right_len RA.out).2 hs).1
      dsimp only at hok
      have hA : A = A.take (n - 1) ++ [(s1, s2)] := by
        have h2 := List.take_append_drop (n - 1) A
        rw [List.drop_eq_getElem_cons (by rw [HN.out]; omega), List.drop_eq_nil_of_le (by rw [HN.out]; omega)] at h2
        have h3 := (List.getElem?_eq_some_iff.1 hs).2
        rw [h3] at h2; exact h2.symm
      have hend : endR 0 A = s1 + s2 := by rw [hA, endR_append]; rfl
      have hf : goodF A = s1 + s2 + 2 := by unfold goodF; rw [if_neg (by rw [hA]; simp), hend]
      have hl4 : (A ++ [((1 : Int), (3 : Int))]).length = n + 1 := by simp [HN.out]
      have r4 := (O5.out.ev encP_len).row3 (by rw [hl4]; omega)
      obtain ⟨y0, y1⟩ := r4.prs hs'
      obtain ⟨t0, t1⟩ := r4.prs (get_snoc A (1, 3) HN.out)
      have k0 := O5.out.frz hl4 (n * 2)
      dsimp only at y0 y1 t0 t1
      rw [Nat.zero_add] at y0 y1 t0
      have e1 : IntKind.i64.wrap ((n : Int) - 1) = (n : Int) - 1 := IntWalk.i64_in _ (by omega)
      have e2 : (0 : Int) ≤ (n : Int) - 1 := by omega
      have e2' : (1 : Int) ≤ (n : Int) := by omega
      have e2'' : 1 ≤ n := by omega
      have e3 : ((n : Int) - 1).toNat = n - 1 := by omega
      have e4 : (n : Int) - 1 < (n : Int) + 1 := by omega
      have e7 : (0 : Int) ≤ (n : Int) := by omega
      have e9 : (n : Int) < (n : Int) + 1 := by omega
      have e8 : n < n + 1 := by omega
      have e5 : IntKind.i64.wrap (s1 + s2) = s1 + s2 := IntWalk.i64_in _ (by omega)
      have e6 : IntKind.i64.wrap (s1 + s2 + 2) = s1 + s2 + 2 := IntWalk.i64_in _ (by omega)
      have hd : decide ((0 : Int) < (n : Int)) = true := by rw [decide_eq_true_eq]; omega
      have hd' : decide (0 < n) = true := by rw [decide_eq_true_eq]; omega
      have HF := Lib.hid hf
      have HL4 := Lib.hid hl4
      clear hs hs' hA hend hf hl4 r4 t1 w9
      go_wp2_with fail
      go_still_tail 18, (by kernel_rfl)
      change wpList _ _ _ _ _ w4.drew
      have t0 : w4.drew.cell? ⟨g, n * 2, none⟩ = some (.int .i64 1) := t0
      have k0 : w4.drew.frozen? ⟨g, n * 2, none⟩ = false := k0
      have O6 := Lib.hid (show OV encP 2 35 w.heap.size w4.drew (.slice (some ⟨g, 0, none⟩) (n + 1) cap) (A ++ [(1, 3)]) from O5.out)
      have B6 := Lib.hid (below_drew B5.out)
      generalize w4.drew = w5 at t0 k0 O6 B6 ⊢
      obtain ⟨o7, _⟩ := OV.setP O6.out HL4.out (i := n) (p := 1) (q := 3) (get_snoc A _ HN.out) (s1 + s2 + 2)
      rw [set_snoc A _ _ HN.out] at o7
      have X := Lib.hid (show OV encP 2 35 w.heap.size (w5.setCell ⟨g, n * 2, none⟩ (.int .i64 (s1 + s2 + 2))) (.slice (some ⟨g, 0, none⟩) (n + 1) cap) (goodL A) ∧ Below w.heap.size w (w5.setCell ⟨g, n * 2, none⟩ (.int .i64 (s1 + s2 + 2))) from ⟨by unfold goodL; rw [HF.out]; exact o7, B6.out.setCell hg1 _⟩)
      clear o7
      go_wp2_with fail
      go_meet
      exact X.out
  case rest =>
    as_aux_lemma =>
    obtain ⟨og, bg⟩ := hcut
    have OG := Lib.hid og
    have BG := Lib.hid bg
    clear og bg O5 B5
    have sc := BG.out.size
    have CL := Lib.hid (clone_run wc _ (goodL A) (OG.out.ev encP_len) (by omega))
    have w9 : IntKind.i64.wrap ((n : Int) + 1 - 1) = (n : Int) := by rw [show (n : Int) + 1 - 1 = (n : Int) by omega]; exact IntWalk.i64_in _ (by omega)
    go_wp2_with fail
    refine CL.out.mono ?_
    rintro e w6 ⟨vb, rfl, o6, b6⟩
    obtain ⟨gb, cb, hvb, hcb, hgb1, hgb2⟩ := o6.row_form encP_len lG (by omega)
    subst hvb
    have OG6 := Lib.hid (OG.out.below b6)
    have B6 := Lib.hid (BG.out.trans (b6.mono sc))
    have s6 := B6.out.size
    have gne : g < wc.heap.size := (OG.out.block g rfl).2
    have hgg : ¬ gb = g := by omega
    have O6 := Lib.hid o6
    obtain ⟨X, hX⟩ : ∃ X, wc.heap.size = X := ⟨_, rfl⟩
    rw [hX] at O6 hgb1 gne
    have hXw : w.heap.size ≤ X := by omega
    clear o6 b6 CL OG BG hX sc hgb2
    have hXs : X ≤ w6.heap.size := by have := (O6.out.block gb rfl); omega
    obtain ⟨I, hI, hIe⟩ : ∃ I : Nat, I ≤ n ∧ (a : Int) % ((n : Int) + 1) = (I : Int) := by
      have h1 : 0 ≤ (a : Int) % ((n : Int) + 1) := Int.emod_nonneg _ (by omega)
      have h2 : (a : Int) % ((n : Int) + 1) < (n : Int) + 1 := Int.emod_lt_of_pos _ (by omega)
      exact ⟨((a : Int) % ((n : Int) + 1)).toNat, by omega, by omega⟩
    have hzz : ((n : Int) + 1 == 0) = false := by simp; omega
    obtain ⟨r, hr6, hr⟩ : ∃ r : Nat, r < 6 ∧ (b : Int) % 6 = (r : Int) := ⟨b % 6, Nat.mod_lt _ (by omega), by omega⟩
    go_upto_region 9 with fail
    go_cut [12] (fun v wx => v = .int .i64 (I : Int) ∧ wx = w6)
    case first =>
      go_wp2_with fail
      rw [hIe]
      go_meet
      exact ⟨rfl, rfl⟩
    case rest =>
      obtain ⟨rfl, rfl⟩ := hcut
      refine (‹∀ (a : Act) (w : World), Code.wp _ _ _ a w → _› : ∀ (a : Act) (w : World), _ → _) _ _ ?_
      rcases (by omega : r = 0 ∨ r = 1 ∨ r = 2 ∨ r = 3 ∨ r = 4 ∨ r = 5) with rfl | rfl | rfl | rfl | rfl | rfl
      · exact wrong_arm0 w A n g cap gb cb X b x I _ lG lA HN f1 f2 RG hgg hgb1 gne hXw hr hXs hI OG6 B6 O6
      · exact wrong_arm1 w A n g cap gb cb X b x I _ lG lA HN f1 f2 RG hgg hgb1 gne hXw hr hXs hI OG6 B6 O6
      · exact wrong_arm2 w A n g cap gb cb X b x I _ lG lA HN f1 f2 RG hgg hgb1 gne hXw hr hXs hI OG6 B6 O6
      · exact wrong_arm3 w A n g cap gb cb X b x I _ lG lA HN f1 f2 RG hgg hgb1 gne hXw hr hXs hI OG6 B6 O6
      · exact wrong_arm4 w A n g cap gb cb X b x I _ lG lA HN f1 f2 RG hgg hgb1 gne hXw hr hXs hI OG6 B6 O6
      · exact wrong_arm5 w A n g cap gb cb X b x I _ lG lA HN f1 f2 RG hgg hgb1 gne hXw hr hXs hI OG6 B6 O6
end Go.Proofs.Ytofjgcbjpmgkdaa

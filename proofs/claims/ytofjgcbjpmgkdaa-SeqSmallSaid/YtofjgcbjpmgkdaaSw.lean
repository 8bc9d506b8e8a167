/- The reference: Missing, First. -/
import Derived.Test.YtofjgcbjpmgkdaaSv
set_option linter.unusedVariables false
set_option linter.unusedSimpArgs false
set_option linter.unusedSectionVars false
namespace Go.Proofs.Ytofjgcbjpmgkdaa
open Go.RowKit Go.Shelf

set_option maxHeartbeats 1000000 in
theorem rmissing_ok (w : World) (v : Value) (l : List (Int × Int)) (f n : Int) (hv : EV encP 2 w v l) (hlen : l.length ≤ 100000000) :
    Calls Try.prog 55 #[v, .int .i64 f, .int .i64 n] w fun e w' => ∃ r, e = .returned (.tuple #[r, .int .i64 (missE l f n)]) ∧ OV encP 2 61 w.heap.size w' r (missL l f n) ∧ Below w.heap.size w w' := by
  obtain ⟨A, c, rfl⟩ := hv.shape
  have RT := Lib.hid (rright_ok w _ l hv (by omega))
  have HV := Lib.hid hv
  have HE := Lib.hid (show missE l f n = if rerr [l] ≠ 0 then 90 else if f < 1 ∨ n < f ∨ 281474976710657 < n then 2 else 0 from rfl)
  have HL := Lib.hid (show missL l f n = if missE l f n ≠ 0 then [] else if f = n then [] else bothL tkW [(f, n - f)] l from rfl)
  by_cases he : rerr [l] = 0
  · rw [he, if_neg (by simp)] at HE
    have hr : rightB l = true := by rw [rerr_one] at he; cases h : rightB l with
      | true => rfl
      | false => rw [h] at he; simp at he
    rw [hr] at RT
    have HR := Lib.hid hr
    clear hr he hv
    by_cases hbad : f < 1 ∨ n < f ∨ 281474976710657 < n
    · rw [if_pos hbad] at HE
      rw [HE.out, if_pos (by simp)] at HL
      rw [HE.out, HL.out]
      clear HE HL
      rcases (by omega : f < 1 ∨ (¬ f < 1 ∧ n < f) ∨ (¬ f < 1 ∧ ¬ n < f ∧ 281474976710657 < n)) with h | ⟨h, h2⟩ | ⟨h, h2, h3⟩
      all_goals
        clear hbad
        go_enter Try.func55, Try.ntmps55
        go_wp2_with fail
        refine RT.out.mono ?_
        rintro e w1 ⟨rfl, b1⟩
        go_wp2
        go_ret2
        exact ⟨_, rfl, OV.nil _ _, b1⟩
    · rw [if_neg hbad] at HE
      rw [HE.out, if_neg (by simp)] at HL
      rw [HE.out]
      have h1 : ¬ f < 1 := fun h => hbad (.inl h)
      have h2 : ¬ n < f := fun h => hbad (.inr (.inl h))
      have h3 : ¬ 281474976710657 < n := fun h => hbad (.inr (.inr h))
      have h4 : 1 ≤ f := by omega
      have h5 : f ≤ n := by omega
      have h6 : n ≤ 281474976710657 := by omega
      clear hbad HE
      by_cases hfn : f = n
      · subst hfn
        rw [if_pos rfl] at HL
        rw [HL.out]
        clear HL
        go_enter Try.func55, Try.ntmps55
        go_wp2_with fail
        refine RT.out.mono ?_
        rintro e w1 ⟨rfl, b1⟩
        go_wp2
        go_ret2
        exact ⟨_, rfl, OV.nil _ _, b1⟩
      · have hd : (f == n) = false := by simp [hfn]
        have hr2 : rerr [[(f, n - f)], l] = 0 := rerr_two.2 ⟨right_span h4 (by omega) h6, HR.out⟩
        rw [if_neg hfn] at HL
        rw [HL.out]
        clear HL hfn
        have WO := Lib.hid (fun (w1 : World) (h : Below w.heap.size w w1) (m : Nat) (hm : w1.heap.size = m) => rboth_ok (w1.alloc (.cells #[.int .i64 f, .int .i64 (n - f)] 61)) (.slice (some ⟨m, 0, none⟩) 1 1) _ [(f, n - f)] l 1 (hm ▸ new_pair) ((HV.out.below h).below ((Below.refl _ _).alloc (Nat.le_refl _) _)) (by simp) hlen (by omega) (by omega))
        rw [hr2, if_pos rfl, tkT1] at WO
        clear hr2
        go_enter Try.func55, Try.ntmps55
        go_wp2_with fail
        refine RT.out.mono ?_
        rintro e w1 ⟨rfl, b1⟩
        have s1 := b1.size
        go_wp2_with fail
        refine (WO.out w1 b1 _ rfl).mono ?_
        rintro e w2 ⟨r, rfl, o2, b2⟩
        have b3 := (b1.alloc s1 (.cells #[.int .i64 f, .int .i64 (n - f)] 61)).trans (b2.mono (by simp; omega))
        have o3 := o2.base_le (base' := w.heap.size) (by simp; omega)
        clear b2 o2 WO
        go_wp2
        go_ret2
        exact ⟨_, rfl, o3, b3⟩
  · have hne : (rerr [l] != 0) = true := by simp [he]
    have h90 : rerr [l] = 90 := (rerr_vals [l]).resolve_left he
    rw [if_pos he] at HE
    rw [HE.out, if_pos (by simp)] at HL
    rw [HE.out, HL.out]
    have hr : rightB l = false := by cases h : rightB l with
      | false => rfl
      | true => rw [rerr_one, h] at h90; simp at h90
    rw [hr] at RT
    clear he hne h90 HE HL hv hr
    go_enter Try.func55, Try.ntmps55
    go_wp2_with fail
    refine RT.out.mono ?_
    rintro e w1 ⟨rfl, b1⟩
    go_wp2
    go_ret2
    exact ⟨_, rfl, OV.nil _ _, b1⟩


set_option maxHeartbeats 1000000 in
theorem rfirst_ok (w : World) (v : Value) (l : List (Int × Int)) (f n : Int) (hv : EV encP 2 w v l) (hlen : l.length ≤ 100000000) :
    Calls Try.prog 56 #[v, .int .i64 f, .int .i64 n] w fun e w' => e = .returned (.tuple #[.int .i64 (firstV l f n), .int .i64 (firstE l f n)]) ∧ Below w.heap.size w w' := by
  have MI := Lib.hid (rmissing_ok w v l f n hv hlen)
  have HE := Lib.hid (show firstE l f n = if missE l f n ≠ 0 then missE l f n else if missL l f n = [] then 6 else 0 from rfl)
  have HV := Lib.hid (show firstV l f n = if firstE l f n ≠ 0 then 0 else ((missL l f n)[0]?.getD (0, 0)).1 from rfl)
  obtain ⟨A, c, rfl⟩ := hv.shape
  clear hv
  by_cases he : missE l f n = 0
  · rw [he, if_neg (by simp)] at HE
    rw [he] at MI
    clear he
    generalize missL l f n = m at *
    cases m with
    | nil =>
      rw [if_pos rfl] at HE
      rw [HE.out, if_pos (by simp)] at HV
      rw [HE.out, HV.out]
      clear HE HV
      go_enter Try.func56, Try.ntmps56
      go_wp2_with fail
      refine MI.out.mono ?_
      rintro e w1 ⟨r, rfl, o, b1⟩
      obtain ⟨A', c', rfl⟩ := (o.ev encP_len).shape
      clear o
      go_wp2
      go_ret2
      exact ⟨rfl, b1⟩
    | cons r m =>
      obtain ⟨r1, r2⟩ := r
      rw [if_neg (by simp)] at HE
      rw [HE.out, if_neg (by simp)] at HV
      have HV := Lib.hid (show firstV l f n = r1 from by rw [HV.out]; rfl)
      rw [HE.out, HV.out]
      clear HE HV
      go_enter Try.func56, Try.ntmps56
      go_wp2_with fail
      refine MI.out.mono ?_
      rintro e w1 ⟨r, rfl, o, b1⟩
      obtain ⟨b, off, c', hvv, hcc, rr⟩ := (o.ev encP_len).row (by simp)
      subst hvv
      obtain ⟨x0, x1⟩ := rr.prs (i := 0) (g := (r1, r2)) rfl
      simp only [Nat.zero_mul, Nat.add_zero] at x0 x1
      have hd : (((m.length : Int) + 1) == 0) = false := by simp; omega
      clear o rr
      go_wp2
      go_ret2
      exact ⟨rfl, b1⟩
  · rw [if_pos he] at HE
    have hne : (missE l f n == 0) = false := by simp [he]
    have hne' : (missE l f n != 0) = true := by simp [he]
    rw [HE.out, if_pos he] at HV
    rw [HE.out, HV.out]
    clear HE HV he
    generalize missE l f n = me at *
    go_enter Try.func56, Try.ntmps56
    go_wp2_with fail
    refine MI.out.mono ?_
    rintro e w1 ⟨r, rfl, o, b1⟩
    clear o
    go_wp2
    go_ret2
    exact ⟨rfl, b1⟩
end Go.Proofs.Ytofjgcbjpmgkdaa

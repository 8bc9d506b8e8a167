/- package seq: Union, Common, Without, Missing, First, Count. -/
import Derived.Test.YtofjgcbjpmgkdaaSd
set_option linter.unusedVariables false
set_option linter.unusedSimpArgs false
set_option linter.unusedSectionVars false
namespace Go.Proofs.Ytofjgcbjpmgkdaa
open Go.RowKit Go.Shelf

def tkU (a b : Bool) : Bool := a || b
def tkC (a b : Bool) : Bool := a && b
def tkW (a b : Bool) : Bool := a && !b
theorem union_tk (x y : Bool) (W : World) : Calls Try.prog 44 #[.bool x, .bool y] W fun e W' => e = .returned (.bool (tkU x y)) ∧ W = W' := by
  cases x <;> cases y
  all_goals
    go_enter Try.func44, Try.ntmps44
    go_wp2
    go_ret
    exact ⟨rfl, rfl⟩
set_option maxHeartbeats 400000 in
theorem union_ok (w : World) (va vb : Value) (a b : List (Int × Int)) (ha : EV encP 2 w va a) (hb : EV encP 2 w vb b) (la : a.length ≤ 100000000) (lb : b.length ≤ 100000000) :
    Calls Try.prog 20 #[va, vb] w fun e w' => ∃ r, e = .returned (.tuple #[r, .int .i64 (rerr [a, b])]) ∧ OV encP 2 35 w.heap.size w' r (if rerr [a, b] = 0 then bothL tkU a b else []) ∧ Below w.heap.size w w' := by
  have H := Lib.hid (both_ok w va vb a b 44 tkU ha hb la lb (enters_of Try.func44 (by kernel_rfl) rfl) union_tk rfl)
  generalize (if rerr [a, b] = 0 then bothL tkU a b else []) = res at H ⊢
  clear ha hb
  go_enter Try.func20, Try.ntmps20
  go_wp2_with fail
  refine H.out.mono ?_
  rintro e w' ⟨r, rfl, ho, hb⟩
  clear H
  go_wp2
  go_ret2
  exact ⟨_, rfl, ho, hb⟩
theorem common_tk (x y : Bool) (W : World) : Calls Try.prog 43 #[.bool x, .bool y] W fun e W' => e = .returned (.bool (tkC x y)) ∧ W = W' := by
  cases x <;> cases y
  all_goals
    go_enter Try.func43, Try.ntmps43
    go_wp2
    go_ret
    exact ⟨rfl, rfl⟩
set_option maxHeartbeats 400000 in
theorem common_ok (w : World) (va vb : Value) (a b : List (Int × Int)) (ha : EV encP 2 w va a) (hb : EV encP 2 w vb b) (la : a.length ≤ 100000000) (lb : b.length ≤ 100000000) :
    Calls Try.prog 19 #[va, vb] w fun e w' => ∃ r, e = .returned (.tuple #[r, .int .i64 (rerr [a, b])]) ∧ OV encP 2 35 w.heap.size w' r (if rerr [a, b] = 0 then bothL tkC a b else []) ∧ Below w.heap.size w w' := by
  have H := Lib.hid (both_ok w va vb a b 43 tkC ha hb la lb (enters_of Try.func43 (by kernel_rfl) rfl) common_tk rfl)
  generalize (if rerr [a, b] = 0 then bothL tkC a b else []) = res at H ⊢
  clear ha hb
  go_enter Try.func19, Try.ntmps19
  go_wp2_with fail
  refine H.out.mono ?_
  rintro e w' ⟨r, rfl, ho, hb⟩
  clear H
  go_wp2
  go_ret2
  exact ⟨_, rfl, ho, hb⟩
theorem without_tk (x y : Bool) (W : World) : Calls Try.prog 50 #[.bool x, .bool y] W fun e W' => e = .returned (.bool (tkW x y)) ∧ W = W' := by
  cases x <;> cases y
  all_goals
    go_enter Try.func50, Try.ntmps50
    go_wp2
    go_ret
    exact ⟨rfl, rfl⟩
set_option maxHeartbeats 400000 in
theorem without_ok (w : World) (va vb : Value) (a b : List (Int × Int)) (ha : EV encP 2 w va a) (hb : EV encP 2 w vb b) (la : a.length ≤ 100000000) (lb : b.length ≤ 100000000) :
    Calls Try.prog 29 #[va, vb] w fun e w' => ∃ r, e = .returned (.tuple #[r, .int .i64 (rerr [a, b])]) ∧ OV encP 2 35 w.heap.size w' r (if rerr [a, b] = 0 then bothL tkW a b else []) ∧ Below w.heap.size w w' := by
  have H := Lib.hid (both_ok w va vb a b 50 tkW ha hb la lb (enters_of Try.func50 (by kernel_rfl) rfl) without_tk rfl)
  generalize (if rerr [a, b] = 0 then bothL tkW a b else []) = res at H ⊢
  clear ha hb
  go_enter Try.func29, Try.ntmps29
  go_wp2_with fail
  refine H.out.mono ?_
  rintro e w' ⟨r, rfl, ho, hb⟩
  clear H
  go_wp2
  go_ret2
  exact ⟨_, rfl, ho, hb⟩

/-- The error of what is missing between two numbers. -/
def missE (l : List (Int × Int)) (f n : Int) : Int := if rerr [l] ≠ 0 then 90 else if f < 1 ∨ n < f ∨ 281474976710657 < n then 2 else 0
def missL (l : List (Int × Int)) (f n : Int) : List (Int × Int) := if missE l f n ≠ 0 then [] else if f = n then [] else bothL tkW [(f, n - f)] l
theorem rerr_one {l : List (Int × Int)} : rerr [l] = if rightB l then 0 else 90 := by unfold rerr; simp
theorem rerr_vals (ls : List (List (Int × Int))) : rerr ls = 0 ∨ rerr ls = 90 := by unfold rerr; split <;> simp
theorem right_span {f n : Int} (h1 : 1 ≤ f) (h2 : f < n) (h3 : n ≤ 281474976710657) : rightB [(f, n - f)] = true :=
  right_iff.2 ⟨by simp, can_cons.2 ⟨by show 0 < f; omega, rok_iff.2 ⟨h1, by show f ≤ _; omega, by show 1 ≤ n - f; omega, by show n - f ≤ _ - f; omega⟩, can_nil _⟩⟩

set_option maxHeartbeats 1000000 in
theorem missing_ok (w : World) (v : Value) (l : List (Int × Int)) (f n : Int) (hv : EV encP 2 w v l) (hlen : l.length ≤ 100000000) :
    Calls Try.prog 16 #[v, .int .i64 f, .int .i64 n] w fun e w' => ∃ r, e = .returned (.tuple #[r, .int .i64 (missE l f n)]) ∧ OV encP 2 35 w.heap.size w' r (missL l f n) ∧ Below w.heap.size w w' := by
  obtain ⟨A, c, rfl⟩ := hv.shape
  have RT := Lib.hid (right_one w _ l hv (by omega))
  have HV := Lib.hid hv
  have HE := Lib.hid (show missE l f n = if rerr [l] ≠ 0 then 90 else if f < 1 ∨ n < f ∨ 281474976710657 < n then 2 else 0 from rfl)
  have HL := Lib.hid (show missL l f n = if missE l f n ≠ 0 then [] else if f = n then [] else bothL tkW [(f, n - f)] l from rfl)
  by_cases he : rerr [l] = 0
  · rw [he, if_neg (by simp)] at HE
    rw [he] at RT
    have hr : rightB l = true := by rw [rerr_one] at he; cases h : rightB l with
      | true => rfl
      | false => rw [h] at he; simp at he
    have HR := Lib.hid hr
    clear hr he hv
    by_cases hbad : f < 1 ∨ n < f ∨ 281474976710657 < n
    · rw [if_pos hbad] at HE
      rw [HE.out, if_pos (by simp)] at HL
      rw [HE.out, HL.out]
      clear HE HL
      rcases (by omega : f < 1 ∨ (¬ f < 1 ∧ n < f) ∨ (¬ f < 1 ∧ ¬ n < f ∧ 281474976710657 < n)) with h | ⟨h, h2⟩ | ⟨h, h2, h3⟩
      all_goals
        clear hbad
        go_enter Try.func16, Try.ntmps16
        go_wp2_with fail
        refine RT.out.mono ?_
        rintro e w1 ⟨rfl, b1⟩
        go_wp2
        go_ret2
        exact ⟨_, rfl, OV.nil _ _, b1⟩
    · rw [if_neg hbad] at HE
      rw [HE.out, if_neg (by simp)] at HL
      rw [HE.out]
      have h1 : ¬ f < 1 := fun h => hbad (.inl h)
      have h2 : ¬ n < f := fun h => hbad (.inr (.inl h))
      have h3 : ¬ 281474976710657 < n := fun h => hbad (.inr (.inr h))
      have h4 : 1 ≤ f := by omega
      have h5 : f ≤ n := by omega
      have h6 : n ≤ 281474976710657 := by omega
      clear hbad HE
      by_cases hfn : f = n
      · subst hfn
        rw [if_pos rfl] at HL
        rw [HL.out]
        clear HL
        go_enter Try.func16, Try.ntmps16
        go_wp2_with fail
        refine RT.out.mono ?_
        rintro e w1 ⟨rfl, b1⟩
        go_wp2
        go_ret2
        exact ⟨_, rfl, OV.nil _ _, b1⟩
      · have hd : (f == n) = false := by simp [hfn]
        have hr2 : rerr [[(f, n - f)], l] = 0 := rerr_two.2 ⟨right_span h4 (by omega) h6, HR.out⟩
        rw [if_neg hfn] at HL
        rw [HL.out]
        clear HL hfn
        have WO := Lib.hid (fun (w1 : World) (h : Below w.heap.size w w1) (m : Nat) (hm : w1.heap.size = m) => without_ok (w1.alloc (.cells #[.int .i64 f, .int .i64 (n - f)] 35)) (.slice (some ⟨m, 0, none⟩) 1 1) _ [(f, n - f)] l (hm ▸ new_pair) ((HV.out.below h).below ((Below.refl _ _).alloc (Nat.le_refl _) _)) (by simp) hlen)
        rw [hr2, if_pos rfl] at WO
        clear hr2
        go_enter Try.func16, Try.ntmps16
        go_wp2_with fail
        refine RT.out.mono ?_
        rintro e w1 ⟨rfl, b1⟩
        have s1 := b1.size
        go_wp2_with fail
        refine (WO.out w1 b1 _ rfl).mono ?_
        rintro e w2 ⟨r, rfl, o2, b2⟩
        have b3 := (b1.alloc s1 (.cells #[.int .i64 f, .int .i64 (n - f)] 35)).trans (b2.mono (by simp; omega))
        have o3 := o2.base_le (base' := w.heap.size) (by simp; omega)
        clear b2 o2 WO
        go_wp2
        go_ret2
        exact ⟨_, rfl, o3, b3⟩
  · have hne : (rerr [l] != 0) = true := by simp [he]
    have h90 : rerr [l] = 90 := (rerr_vals [l]).resolve_left he
    rw [if_pos he] at HE
    rw [HE.out, if_pos (by simp)] at HL
    rw [HE.out, HL.out]
    rw [h90] at RT
    clear he hne h90 HE HL hv
    go_enter Try.func16, Try.ntmps16
    go_wp2_with fail
    refine RT.out.mono ?_
    rintro e w1 ⟨rfl, b1⟩
    go_wp2
    go_ret2
    exact ⟨_, rfl, OV.nil _ _, b1⟩

def firstE (l : List (Int × Int)) (f n : Int) : Int := if missE l f n ≠ 0 then missE l f n else if missL l f n = [] then 6 else 0
def firstV (l : List (Int × Int)) (f n : Int) : Int := if firstE l f n ≠ 0 then 0 else ((missL l f n)[0]?.getD (0, 0)).1

set_option maxHeartbeats 1000000 in
theorem first_ok (w : World) (v : Value) (l : List (Int × Int)) (f n : Int) (hv : EV encP 2 w v l) (hlen : l.length ≤ 100000000) :
    Calls Try.prog 17 #[v, .int .i64 f, .int .i64 n] w fun e w' => e = .returned (.tuple #[.int .i64 (firstV l f n), .int .i64 (firstE l f n)]) ∧ Below w.heap.size w w' := by
  have MI := Lib.hid (missing_ok w v l f n hv hlen)
  have HE := Lib.hid (show firstE l f n = if missE l f n ≠ 0 then missE l f n else if missL l f n = [] then 6 else 0 from rfl)
  have HV := Lib.hid (show firstV l f n = if firstE l f n ≠ 0 then 0 else ((missL l f n)[0]?.getD (0, 0)).1 from rfl)
  obtain ⟨A, c, rfl⟩ := hv.shape
  clear hv
  by_cases he : missE l f n = 0
  · rw [he, if_neg (by simp)] at HE
    rw [he] at MI
    clear he
    generalize missL l f n = m at *
    cases m with
    | nil =>
      rw [if_pos rfl] at HE
      rw [HE.out, if_pos (by simp)] at HV
      rw [HE.out, HV.out]
      clear HE HV
      go_enter Try.func17, Try.ntmps17
      go_wp2_with fail
      refine MI.out.mono ?_
      rintro e w1 ⟨r, rfl, o, b1⟩
      obtain ⟨A', c', rfl⟩ := (o.ev encP_len).shape
      clear o
      go_wp2
      go_ret2
      exact ⟨rfl, b1⟩
    | cons r m =>
      obtain ⟨r1, r2⟩ := r
      rw [if_neg (by simp)] at HE
      rw [HE.out, if_neg (by simp)] at HV
      have HV := Lib.hid (show firstV l f n = r1 from by rw [HV.out]; rfl)
      rw [HE.out, HV.out]
      clear HE HV
      go_enter Try.func17, Try.ntmps17
      go_wp2_with fail
      refine MI.out.mono ?_
      rintro e w1 ⟨r, rfl, o, b1⟩
      obtain ⟨b, off, c', hvv, hcc, rr⟩ := (o.ev encP_len).row (by simp)
      subst hvv
      obtain ⟨x0, x1⟩ := rr.prs (i := 0) (g := (r1, r2)) rfl
      simp only [Nat.zero_mul, Nat.add_zero] at x0 x1
      have hd : (((m.length : Int) + 1) == 0) = false := by simp; omega
      clear o rr
      go_wp2
      go_ret2
      exact ⟨rfl, b1⟩
  · rw [if_pos he] at HE
    have hne : (missE l f n == 0) = false := by simp [he]
    have hne' : (missE l f n != 0) = true := by simp [he]
    rw [HE.out, if_pos he] at HV
    rw [HE.out, HV.out]
    clear HE HV he
    generalize missE l f n = me at *
    go_enter Try.func17, Try.ntmps17
    go_wp2_with fail
    refine MI.out.mono ?_
    rintro e w1 ⟨r, rfl, o, b1⟩
    clear o
    go_wp2
    go_ret2
    exact ⟨rfl, b1⟩
end Go.Proofs.Ytofjgcbjpmgkdaa

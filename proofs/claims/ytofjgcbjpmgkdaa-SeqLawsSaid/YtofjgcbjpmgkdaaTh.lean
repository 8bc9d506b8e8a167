/- The walk of the law SeqLaws: the laws of sets. -/
import Derived.Test.YtofjgcbjpmgkdaaTe
set_option linter.unusedVariables false
set_option linter.unusedSimpArgs false
set_option linter.unusedSectionVars false
namespace Go.Proofs.Ytofjgcbjpmgkdaa
open Go.RowKit Go.Shelf

theorem setCell_noop {w : World} {a : Addr} {v : Value} (h : w.cell? a = some v) : w.setCell a v = w := by
  obtain ⟨c, t, fz, hb, hs, hc⟩ : ∃ c t fz, w.heap[a.block]? = some (.cells c t fz) ∧ a.spot.isSome = false ∧ c[a.off]? = some v := by
    unfold World.cell? at h
    split at h
    · rename_i c t fz hb
      cases hs : a.spot.isSome with
      | true => rw [hs] at h; simp at h
      | false => rw [hs] at h; exact ⟨c, t, fz, hb, rfl, by simpa using h⟩
    · cases h
  have hcs : c.setIfInBounds a.off v = c := by
    apply Array.ext_getElem?
    intro i
    rw [Array.getElem?_setIfInBounds]
    split
    · rename_i hi; subst hi
      split
      · exact hc.symm
      · rename_i hn; rw [Array.getElem?_eq_none (by omega)] at hc; cases hc
    · rfl
  have e : (w.setCell a v).heap = w.heap := by
    apply Array.ext_getElem?
    intro i
    simp only [World.setCell, Array.getElem?_modify]
    by_cases hi : a.block = i
    · subst hi
      rw [if_pos rfl, hb]
      simp [hs, hcs]
    · rw [if_neg hi]
  cases w
  simp only [World.setCell] at e ⊢
  rw [e]
/-- How many of the first L. -/
def cntF (f : Int → Bool) : Nat → Int
  | 0 => 0
  | L + 1 => cntF f L + cond (f (L : Int)) 1 0
theorem cntF_or (f g : Int → Bool) : ∀ L, cntF (fun n => f n || g n) L + cntF (fun n => f n && g n) L = cntF f L + cntF g L
  | 0 => rfl
  | L + 1 => by
    have := cntF_or f g L
    simp only [cntF]
    cases f (L : Int) <;> cases g (L : Int) <;> simp only [Bool.or_false, Bool.or_true, Bool.and_false, Bool.and_true, cond_true, cond_false] <;> omega
theorem cntF_none (L : Nat) : cntF (fun _ => false) L = 0 := by
  induction L with
  | zero => rfl
  | succ L ih => simp only [cntF]; rw [ih]; simp
theorem cntF_ext {f g : Int → Bool} (h : ∀ n, f n = g n) (L : Nat) : cntF f L = cntF g L := by
  rw [show f = g from funext h]
theorem cntF_run (p : Int) (c : Int) (hp : 0 ≤ p) (hc : 0 ≤ c) : ∀ L : Nat, cntF (fun n => decide (p ≤ n ∧ n < p + c)) L = if (L : Int) ≤ p then 0 else if (L : Int) ≤ p + c then (L : Int) - p else c
  | 0 => by simp only [cntF]; repeat' split
            all_goals omega
  | L + 1 => by
    simp only [cntF]
    rw [cntF_run p c hp hc L]
    have e : cond (decide (p ≤ (L : Int) ∧ (L : Int) < p + c)) (1 : Int) 0 = if p ≤ (L : Int) ∧ (L : Int) < p + c then 1 else 0 := by
      by_cases h : p ≤ (L : Int) ∧ (L : Int) < p + c
      · rw [if_pos h, decide_eq_true h]; rfl
      · rw [if_neg h, decide_eq_false h]; rfl
    rw [e]
    push_cast
    repeat' split
    all_goals omega
theorem cnt_cntF (L : Nat) : ∀ {l : List (Int × Int)}, Can 0 l → endR 0 l ≤ L → cntR l = cntF (hasR l) L := by
  intro l
  induction hn : l.length generalizing l with
  | zero =>
    intro _ _
    have : l = [] := List.eq_nil_of_length_eq_zero hn
    subst this
    rw [show (hasR ([] : List (Int × Int))) = fun _ => false from rfl, cntF_none]; rfl
  | succ m ih =>
    intro hc he
    rcases List.eq_nil_or_concat l with rfl | ⟨p, r, rfl⟩
    · simp at hn
    · rw [List.concat_eq_append] at *
      obtain ⟨c1, c2, c3⟩ := can_snoc.1 hc
      rw [endR_append] at he
      have hr := rok_iff.1 c3
      have hnx : nxt r = r.1 + r.2 := rfl
      have h1 := ih (l := p) (by simp at hn; exact hn) c1 (by omega)
      have e1 : cntF (hasR (p ++ [r])) L = cntF (fun n => hasR p n || decide (r.1 ≤ n ∧ n < r.1 + r.2)) L := cntF_ext (fun n => by rw [hasR_append, hasR_cons, hasR_nil, Bool.or_false]; rfl) L
      have e2 := cntF_or (hasR p) (fun n => decide (r.1 ≤ n ∧ n < r.1 + r.2)) L
      have e3 : cntF (fun n => hasR p n && decide (r.1 ≤ n ∧ n < r.1 + r.2)) L = 0 := by
        rw [cntF_ext (g := fun _ => false) (fun n => ?_) L, cntF_none]
        by_cases hd : r.1 ≤ n ∧ n < r.1 + r.2
        · rw [has_end c1 (by omega)]; rfl
        · rw [show decide (r.1 ≤ n ∧ n < r.1 + r.2) = false from by simpa using hd, Bool.and_false]
      have e4 := cntF_run r.1 r.2 (by omega) (by omega) L
      rw [cntR_append, e1, h1]
      simp only [cntR]
      rw [if_neg (by omega)] at e4
      split at e4 <;> omega
theorem cnt_law {a b : List (Int × Int)} (ha : rightB a = true) (hb : rightB b = true) (la : a.length ≤ 10000) (lb : b.length ≤ 10000) : cntR (bothL tkU a b) + cntR (bothL tkC a b) = cntR a + cntR b := by
  obtain ⟨L, hL⟩ : ∃ L : Nat, (L : Int) = 281474976710657 := ⟨281474976710657, by decide⟩
  have e : ∀ {l : List (Int × Int)}, rightB l = true → cntR l = cntF (hasR l) L := fun {l} h => cnt_cntF L (right_len h).2 (by rw [hL]; exact end_le (by omega) (right_len h).2)
  have h1 := e (both_right (tk := tkU) rfl ha hb la lb)
  have h2 := e (both_right (tk := tkC) rfl ha hb la lb)
  have h3 := e ha
  have h4 := e hb
  have h5 : cntF (hasR (bothL tkU a b)) L = cntF (fun n => hasR a n || hasR b n) L := cntF_ext (fun n => both_has (tk := tkU) rfl ha hb n) _
  have h6 : cntF (hasR (bothL tkC a b)) L = cntF (fun n => hasR a n && hasR b n) L := cntF_ext (fun n => both_has (tk := tkC) rfl ha hb n) _
  have h7 := cntF_or (hasR a) (hasR b) L
  omega
theorem cnt_rng {a : List (Int × Int)} (ha : rightB a = true) : 0 ≤ cntR a ∧ cntR a ≤ 281474976710657 := by
  have h1 := cnt_le (right_len ha).2
  have h2 := end_le (by omega) (right_len ha).2
  omega
/-- Two right sets that have the same numbers. -/
theorem right_ext {a b : List (Int × Int)} (ha : rightB a = true) (hb : rightB b = true) (h : ∀ n, hasR a n = hasR b n) : a = b := can_unique (right_len ha).2 (right_len hb).2 h

def sBox (B : Nat) : SP := ⟨fun w => w.cell? ⟨B, 0, none⟩ = some (.int .i64 0) ∧ w.frozen? ⟨B, 0, none⟩ = false, fun w w' b h => ⟨below_cell b h.1, (b.frozen (cell_lt h.1)).trans h.2⟩⟩
set_option maxHeartbeats 1000000 in
theorem do_union (w : World) (B : Nat) (v u : Value) (a b L : List (Int × Int)) (hB : (sBox B).p w) (hv : EV encP 2 w v a) (hu : EV encP 2 w u b) (ha : rightB a = true) (hb : rightB b = true) (hL : bothL tkU a b = L) :
    Calls Try.prog 27 #[.func (.func 20) #[] #[], v, u, .pointer (some ⟨B, 0, none⟩)] w fun e w' => ∃ r, e = .returned r ∧ OV encP 2 35 w.heap.size w' r L ∧ Below w.heap.size w w' := by
  subst hL
  have C := Lib.hid (union_r w v u a b hv hu ha hb)
  have HB := Lib.hid hB
  clear hB hv hu
  go_enter Try.func27, Try.ntmps27
  go_wp2_with fail
  refine C.out.mono ?_
  rintro e w1 ⟨r, rfl, o, b1⟩
  have hb := (sBox B).st _ _ b1 HB.out
  have h1 : w1.cell? ⟨B, 0, none⟩ = some (.int .i64 0) := hb.1
  have h2 : w1.frozen? ⟨B, 0, none⟩ = false := hb.2
  have H1 := Lib.hid h1
  have O1 := Lib.hid o
  clear hb o
  go_wp2
  go_ret
  rw [setCell_noop H1.out]
  exact ⟨_, rfl, O1.out, b1⟩
set_option maxHeartbeats 1000000 in
theorem do_common (w : World) (B : Nat) (v u : Value) (a b L : List (Int × Int)) (hB : (sBox B).p w) (hv : EV encP 2 w v a) (hu : EV encP 2 w u b) (ha : rightB a = true) (hb : rightB b = true) (hL : bothL tkC a b = L) :
    Calls Try.prog 27 #[.func (.func 19) #[] #[], v, u, .pointer (some ⟨B, 0, none⟩)] w fun e w' => ∃ r, e = .returned r ∧ OV encP 2 35 w.heap.size w' r L ∧ Below w.heap.size w w' := by
  subst hL
  have C := Lib.hid (common_r w v u a b hv hu ha hb)
  have HB := Lib.hid hB
  clear hB hv hu
  go_enter Try.func27, Try.ntmps27
  go_wp2_with fail
  refine C.out.mono ?_
  rintro e w1 ⟨r, rfl, o, b1⟩
  have hb := (sBox B).st _ _ b1 HB.out
  have h1 : w1.cell? ⟨B, 0, none⟩ = some (.int .i64 0) := hb.1
  have h2 : w1.frozen? ⟨B, 0, none⟩ = false := hb.2
  have H1 := Lib.hid h1
  have O1 := Lib.hid o
  clear hb o
  go_wp2
  go_ret
  rw [setCell_noop H1.out]
  exact ⟨_, rfl, O1.out, b1⟩
set_option maxHeartbeats 1000000 in
theorem do_without (w : World) (B : Nat) (v u : Value) (a b L : List (Int × Int)) (hB : (sBox B).p w) (hv : EV encP 2 w v a) (hu : EV encP 2 w u b) (ha : rightB a = true) (hb : rightB b = true) (hL : bothL tkW a b = L) :
    Calls Try.prog 27 #[.func (.func 29) #[] #[], v, u, .pointer (some ⟨B, 0, none⟩)] w fun e w' => ∃ r, e = .returned r ∧ OV encP 2 35 w.heap.size w' r L ∧ Below w.heap.size w w' := by
  subst hL
  have C := Lib.hid (without_r w v u a b hv hu ha hb)
  have HB := Lib.hid hB
  clear hB hv hu
  go_enter Try.func27, Try.ntmps27
  go_wp2_with fail
  refine C.out.mono ?_
  rintro e w1 ⟨r, rfl, o, b1⟩
  have hb := (sBox B).st _ _ b1 HB.out
  have h1 : w1.cell? ⟨B, 0, none⟩ = some (.int .i64 0) := hb.1
  have h2 : w1.frozen? ⟨B, 0, none⟩ = false := hb.2
  have H1 := Lib.hid h1
  have O1 := Lib.hid o
  clear hb o
  go_wp2
  go_ret
  rw [setCell_noop H1.out]
  exact ⟨_, rfl, O1.out, b1⟩
set_option maxHeartbeats 1000000 in
theorem do_n (w : World) (B : Nat) (v : Value) (a : List (Int × Int)) (hB : (sBox B).p w) (hv : EV encP 2 w v a) (ha : rightB a = true) :
    Calls Try.prog 28 #[v, .pointer (some ⟨B, 0, none⟩)] w fun e w' => e = .returned (.int .i64 (cntR a)) ∧ Below w.heap.size w w' := by
  have C := Lib.hid (count_r w v a hv ha)
  have HB := Lib.hid hB
  generalize cntR a = ca at *
  clear hB hv
  go_enter Try.func28, Try.ntmps28
  go_wp2_with fail
  refine C.out.mono ?_
  rintro e w1 ⟨rfl, b1⟩
  have hb := (sBox B).st _ _ b1 HB.out
  have h1 : w1.cell? ⟨B, 0, none⟩ = some (.int .i64 0) := hb.1
  have h2 : w1.frozen? ⟨B, 0, none⟩ = false := hb.2
  have H1 := Lib.hid h1
  clear hb
  go_wp2
  go_ret
  rw [setCell_noop H1.out]
  exact ⟨rfl, b1⟩
end Go.Proofs.Ytofjgcbjpmgkdaa

/- Plain laws for SeqWrong: a right set with one run more, and its defects. -/
import Derived.Test.YtofjgcbjpmgkdaaUb
import Derived.Test.YtofjgcbjpmgkdaaTm
set_option linter.unusedVariables false
set_option linter.unusedSimpArgs false
set_option linter.unusedSectionVars false
namespace Go.Proofs.Ytofjgcbjpmgkdaa
open Go Go.RowKit Go.Shelf

theorem can_end_lt {l : List (Int × Int)} (h : Can 0 l) {r : Int × Int} (hr : r ∈ l) : r.1 < endR 0 l := by
  obtain ⟨i, hi⟩ := List.getElem?_of_mem hr
  have hk := nxt_gt (can_get h hi).1
  rcases Int.lt_or_le r.1 (endR 0 l) with h1 | h1
  · exact h1
  · have := has_end h h1
    have h2 : hasR l r.1 = true := hasR_iff.2 ⟨i, r, hi, Int.le_refl _, hk.1⟩
    rw [this] at h2; cases h2
/-- A run that is none makes a set wrong. -/
theorem wrong_mem {l : List (Int × Int)} {i : Nat} {r : Int × Int} (hi : l[i]? = some r) (h : rokB r = false) : rightB l = false := by
  cases hb : rightB l with
  | false => rfl
  | true => have := (can_get (right_iff.1 hb).2 hi).1; rw [h] at this; cases this
theorem wrong_again {l : List (Int × Int)} {r : Int × Int} (h : Can 0 l) (hr : r ∈ l) : rightB (l ++ [r]) = false := by
  cases hb : rightB (l ++ [r]) with
  | false => rfl
  | true =>
    have h1 := (can_snoc.1 (right_iff.1 hb).2).2.1
    have := can_end_lt h hr
    omega
theorem wrong_next {l : List (Int × Int)} {i : Nat} {r : Int × Int} (hi : l[i]? = some r) : rightB (l.take (i + 1) ++ [(nxt r, 1)] ++ l.drop (i + 1)) = false := by
  cases hb : rightB (l.take (i + 1) ++ [(nxt r, 1)] ++ l.drop (i + 1)) with
  | false => rfl
  | true =>
    have h1 := (can_snoc.1 (can_prefix (right_iff.1 hb).2)).2.1
    rw [List.take_add_one, hi, Option.toList_some, endR_append] at h1
    dsimp only at h1
    omega
theorem wrong_set {l : List (Int × Int)} {i : Nat} (hi : i < l.length) {r : Int × Int} (h : rokB r = false) : rightB (l.set i r) = false :=
  wrong_mem (i := i) (by rw [List.getElem?_set_self hi]) h
/-- The set with one run more. -/
def goodF (A : List (Int × Int)) : Int := if A = [] then 1 else endR 0 A + 2
def goodL (A : List (Int × Int)) : List (Int × Int) := A ++ [(goodF A, 3)]
theorem good_right {A : List (Int × Int)} (hA : rightB A = true) (lA : A.length ≤ 30) (hE : endR 0 A ≤ 240000000000000) : rightB (goodL A) = true ∧ 1 ≤ goodF A ∧ goodF A ≤ 240000000000002 ∧ (goodL A).length = A.length + 1 := by
  have h := right_len hA
  have h0 := end_ge h.2
  have hf : endR 0 A < goodF A ∧ 1 ≤ goodF A ∧ goodF A ≤ 240000000000002 := by
    unfold goodF; split
    · rename_i e; subst e; simp [endR]
    · omega
  refine ⟨right_iff.2 ⟨by simp [goodL]; omega, can_snoc.2 ⟨h.2, hf.1, rok_iff.2 ⟨?_, ?_, ?_, ?_⟩⟩⟩, hf.2.1, hf.2.2, by simp [goodL]⟩ <;> dsimp only <;> omega
/-- Made, at a row of bytes that came in; with where it ends. -/
theorem made_arg2 {w : World} {a : Option Addr} {len cap : Nat} {zs : List Int} (h : IsRow .u8 w a len cap zs) : ∃ l, MadeArg w (.slice a len cap) l ∧ endR 0 l ≤ 240000000000000 := by
  obtain ⟨xs, h1, h2, h3, h4, h5, h6⟩ := row_bytes h
  obtain ⟨m1, m2, m3⟩ := made_ok' h5
  refine ⟨madeL xs, ⟨m3, m2, fun w2 hb => made_ok w2 a len cap xs (h1.below hb) h2 h3 h4 h5 h6⟩, ?_⟩
  have := (mk_fold (pre := xs.take 30) (fun b hb => h5 b (List.mem_of_mem_take hb)) (by simp; omega)).2.2
  have hl : (xs.take 30).length ≤ 30 := by simp; omega
  unfold madeL
  omega
/-- All that a wrong set is told. -/
theorem wrong_all {bs G : List (Int × Int)} (hb : rightB bs = false) : rerr [bs] = 90 ∧ rerr [bs, G] = 90 ∧ rerr [G, bs] = 90 := by
  refine ⟨by rw [rerr_one, hb]; rfl, ?_, ?_⟩ <;> (unfold rerr; simp [hb])
end Go.Proofs.Ytofjgcbjpmgkdaa

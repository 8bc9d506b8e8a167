/- Plain laws for the reference's Of. -/
import Derived.Test.YtofjgcbjpmgkdaaSu
set_option linter.unusedVariables false
set_option linter.unusedSimpArgs false
set_option linter.unusedSectionVars false
namespace Go.Proofs.Ytofjgcbjpmgkdaa
open Go.RowKit Go.Shelf

theorem pw_ext : ∀ {a b : List Int}, a.Pairwise (· < ·) → b.Pairwise (· < ·) → (∀ x, x ∈ a ↔ x ∈ b) → a = b
  | [], [], _, _, _ => rfl
  | [], y :: b, _, _, h => by have := (h y).2 (by simp); simp at this
  | x :: a, [], _, _, h => by have := (h x).1 (by simp); simp at this
  | x :: a, y :: b, ha, hb, h => by
    obtain ⟨a1, a2⟩ := List.pairwise_cons.1 ha
    obtain ⟨b1, b2⟩ := List.pairwise_cons.1 hb
    have e : x = y := by
      have h1 := (h x).1 (by simp)
      have h2 := (h y).2 (by simp)
      rcases List.mem_cons.1 h1 with h1 | h1
      · exact h1
      · rcases List.mem_cons.1 h2 with h2 | h2
        · exact h2.symm
        · have := b1 x h1; have := a1 y h2; omega
    subst e
    rw [pw_ext a2 b2 (fun z => by
      have h1 := h z
      rw [List.mem_cons, List.mem_cons] at h1
      constructor
      · intro hz
        rcases h1.1 (.inr hz) with e | e
        · subst e; have := a1 z hz; omega
        · exact e
      · intro hz
        rcases h1.2 (.inr hz) with e | e
        · subst e; have := b1 z hz; omega
        · exact e)]

/-- The smallest number past the last one, and how often it is there. -/
def minH (last : Int) (bs : List Int) : Int := bs.foldl (fun m x => if last < x ∧ x < m then x else m) 281474976710657
theorem minH_snoc (last : Int) (bs : List Int) (x : Int) : minH last (bs ++ [x]) = if last < x ∧ x < minH last bs then x else minH last bs := by
  unfold minH; rw [List.foldl_append]; rfl
theorem minH_spec (last : Int) (bs : List Int) : (minH last bs = 281474976710657 ∨ (minH last bs ∈ bs ∧ last < minH last bs)) ∧ (∀ x ∈ bs, last < x → minH last bs ≤ x ∨ 281474976710657 < x) ∧ minH last bs ≤ 281474976710657 := by
  rcases List.eq_nil_or_concat bs with rfl | ⟨l, y, rfl⟩
  · exact ⟨.inl rfl, fun x h => by simp at h, Int.le_refl _⟩
  · rw [List.concat_eq_append, minH_snoc]
    obtain ⟨h1, h2, h3⟩ := minH_spec last l
    by_cases hc : last < y ∧ y < minH last l
    · rw [if_pos hc]
      refine ⟨.inr ⟨by simp, hc.1⟩, fun x hx hl => ?_, by omega⟩
      rcases List.mem_append.1 hx with hx | hx
      · have := h2 x hx hl; omega
      · simp at hx; omega
    · rw [if_neg hc]
      refine ⟨h1.imp id (fun h => ⟨List.mem_append_left _ h.1, h.2⟩), fun x hx hl => ?_, h3⟩
      rcases List.mem_append.1 hx with hx | hx
      · exact h2 x hx hl
      · simp at hx; omega
termination_by bs.length
decreasing_by all_goals (simp_all <;> omega)
/-- One more number: the smallest, and how often. -/
theorem minH_cnt {last : Int} {pre : List Int} {x : Int} (hx : x ≤ 281474976710656) :
    (last < x ∧ x < minH last pre → minH last (pre ++ [x]) = x ∧ (pre ++ [x]).count x = 1) ∧
    (¬ (last < x ∧ x < minH last pre) → x = minH last pre → minH last (pre ++ [x]) = minH last pre ∧ (pre ++ [x]).count (minH last pre) = pre.count (minH last pre) + 1) ∧
    (¬ (last < x ∧ x < minH last pre) → ¬ x = minH last pre → minH last (pre ++ [x]) = minH last pre ∧ (pre ++ [x]).count (minH last pre) = pre.count (minH last pre)) := by
  obtain ⟨h1, h2, h3⟩ := minH_spec last pre
  refine ⟨fun h => ?_, fun h he => ?_, fun h he => ?_⟩
  · refine ⟨by rw [minH_snoc, if_pos h], ?_⟩
    have : x ∉ pre := fun hm => by have := h2 x hm h.1; omega
    rw [List.count_append, List.count_eq_zero.2 this]; simp
  · refine ⟨by rw [minH_snoc, if_neg h], ?_⟩
    rw [List.count_append, ← he]; simp
  · refine ⟨by rw [minH_snoc, if_neg h], ?_⟩
    rw [List.count_append, List.count_singleton, if_neg (by simpa using he)]; rfl

/-- Up to a number. -/
structure Ro (ns : List Int) (at_ : Int) (out : List (Int × Int)) (tw : List Int) : Prop where
  can : Can 0 out
  has : ∀ n, hasR out n = decide (n ∈ ns ∧ n ≤ at_)
  e : endR 0 out ≤ at_ + 1
  pw : tw.Pairwise (· < ·)
  tm : ∀ n, n ∈ tw ↔ 2 ≤ ns.count n ∧ n ≤ at_
theorem ro0 {ns : List Int} (h : ∀ n ∈ ns, okN n = true) : Ro ns 0 [] [] :=
  ⟨can_nil _, fun n => by
    rw [hasR_nil]
    symm
    rw [decide_eq_false_iff_not]
    rintro ⟨h1, h2⟩
    have := h n h1; unfold okN at this; rw [decide_eq_true_eq] at this; omega, by simp [endR], List.Pairwise.nil, fun n => by
    constructor
    · intro h; simp at h
    · rintro ⟨h1, h2⟩
      have := h n (List.count_pos_iff.1 (by omega)); unfold okN at this; rw [decide_eq_true_eq] at this; omega⟩
theorem Ro.step {ns : List Int} {at_ : Int} {out : List (Int × Int)} {tw : List Int} (h : Ro ns at_ out tw) (h0 : 0 ≤ at_) (hk : ∀ n ∈ ns, okN n = true) (hm : minH at_ ns ≤ 281474976710656) :
    Ro ns (minH at_ ns) (addR out (minH at_ ns, 1)) (if 1 < ns.count (minH at_ ns) then tw ++ [minH at_ ns] else tw) ∧ at_ < minH at_ ns ∧ minH at_ ns ∈ ns := by
  obtain ⟨h1, h2, h3⟩ := minH_spec at_ ns
  rcases h1 with h1 | ⟨h1, h4⟩
  · omega
  have hb : ∀ x ∈ ns, x ≤ 281474976710656 := fun x hx => by have := hk x hx; unfold okN at this; rw [decide_eq_true_eq] at this; omega
  have hmid : ∀ x ∈ ns, (x ≤ minH at_ ns ↔ x ≤ at_ ∨ x = minH at_ ns) := fun x hx => by
    constructor
    · intro hl
      by_cases hxa : x ≤ at_
      · exact .inl hxa
      · have := h2 x hx (by omega); have := hb x hx; omega
    · rintro (hl | hl) <;> omega
  obtain ⟨a1, a2, a3⟩ := addR_spec h.can (p := minH at_ ns) (c := 1) (by have := h.e; omega) (by omega) (by omega) (by omega)
  refine ⟨⟨a1, fun n => ?_, by omega, ?_, fun n => ?_⟩, h4, h1⟩
  · rw [a3 n, h.has n, Bool.eq_iff_iff]
    simp only [Bool.or_eq_true, decide_eq_true_eq]
    constructor
    · rintro (⟨x, y⟩ | ⟨x, y⟩)
      · exact ⟨x, by omega⟩
      · obtain rfl : n = minH at_ ns := by omega
        exact ⟨h1, Int.le_refl _⟩
    · rintro ⟨x, y⟩
      rcases (hmid n x).1 y with z | z
      · exact .inl ⟨x, z⟩
      · exact .inr (by omega)
  · split
    · exact List.pairwise_append.2 ⟨h.pw, List.pairwise_singleton _ _, fun a ha b hb => by simp at hb; have := ((h.tm a).1 ha).2; omega⟩
    · exact h.pw
  · have hc : 2 ≤ ns.count n → n ∈ ns := fun x => List.count_pos_iff.1 (by omega)
    split
    · rename_i hc1
      rw [List.mem_append, h.tm n, List.mem_singleton]
      constructor
      · rintro (⟨x, y⟩ | rfl)
        · exact ⟨x, by omega⟩
        · exact ⟨hc1, Int.le_refl _⟩
      · rintro ⟨x, y⟩
        rcases (hmid n (hc x)).1 y with z | z
        · exact .inl ⟨x, z⟩
        · exact .inr z
    · rename_i hc1
      rw [h.tm n]
      constructor
      · rintro ⟨x, y⟩; exact ⟨x, by omega⟩
      · rintro ⟨x, y⟩
        rcases (hmid n (hc x)).1 y with z | z
        · exact ⟨x, z⟩
        · subst z; omega
theorem Ro.done {ns : List Int} {at_ : Int} {out : List (Int × Int)} {tw : List Int} (h : Ro ns at_ out tw) (hl : ns.length ≤ 65536) (hk : ns.all okN = true) (hm : ¬ minH at_ ns ≤ 281474976710656) : ofE ns = 0 ∧ out = ofL ns ∧ tw = ofT ns := by
  have hE : ofE ns = 0 := by unfold ofE; rw [if_neg (by omega), if_pos hk]
  have hk' : ∀ n ∈ ns, okN n = true := List.all_eq_true.1 hk
  have hb : ∀ x ∈ ns, x ≤ 281474976710656 := fun x hx => by have := hk' x hx; unfold okN at this; rw [decide_eq_true_eq] at this; omega
  have hall : ∀ x ∈ ns, x ≤ at_ := fun x hx => by
    by_cases hxa : x ≤ at_
    · exact hxa
    · have := (minH_spec at_ ns).2.1 x hx (by omega); have := hb x hx; omega
  have ho := ofS_ok (srtI ns) (srt_pw ns) (fun n hn => hk' n ((srt_mem ns n).1 hn))
  refine ⟨hE, ?_, ?_⟩
  · unfold ofL; rw [if_pos hE]
    refine can_unique h.can ho.can fun n => ?_
    rw [h.has n, ho.has n, Bool.eq_iff_iff, decide_eq_true_eq, decide_eq_true_eq, srt_mem]
    exact ⟨fun x => x.1, fun x => ⟨x, hall n x⟩⟩
  · unfold ofT; rw [if_pos hE]
    refine pw_ext h.pw ho.pw fun n => ?_
    rw [h.tm n, ho.tm n, srt_count]
    exact ⟨fun x => x.1, fun x => ⟨x, hall n (List.count_pos_iff.1 (by omega))⟩⟩
end Go.Proofs.Ytofjgcbjpmgkdaa

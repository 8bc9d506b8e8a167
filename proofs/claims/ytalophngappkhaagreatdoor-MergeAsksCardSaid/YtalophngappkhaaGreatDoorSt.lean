/- Plain laws for the reference's borders and Both. -/
import Derived.Test.YtalophngappkhaaGreatDoorSs
set_option linter.unusedVariables false
set_option linter.unusedSimpArgs false
set_option linter.unusedSectionVars false
namespace Go.Proofs.YtalophngappkhaaGreatDoor

def bdr (l : List (Int × Int)) : List Int := l.flatMap (fun r => [r.1, nxt r])
theorem bdr_mem {l : List (Int × Int)} {x : Int} : x ∈ bdr l ↔ ∃ r ∈ l, x = r.1 ∨ x = nxt r := by
  unfold bdr; rw [List.mem_flatMap]; simp
theorem has_const {p n : Int} (hpn : p ≤ n) : ∀ {l : List (Int × Int)}, (∀ x ∈ bdr l, ¬ (p < x ∧ x ≤ n)) → hasR l n = hasR l p
  | [], _ => rfl
  | r :: l, h => by
    have h1 := h r.1 (bdr_mem.2 ⟨r, List.mem_cons_self, .inl rfl⟩)
    have h2 := h (nxt r) (bdr_mem.2 ⟨r, List.mem_cons_self, .inr rfl⟩)
    have h3 := has_const hpn (l := l) (fun x hx => h x (by
      obtain ⟨s, hs, e⟩ := bdr_mem.1 hx
      exact bdr_mem.2 ⟨s, List.mem_cons_of_mem _ hs, e⟩))
    rw [hasR_cons, hasR_cons, h3]
    congr 1
    rw [Bool.eq_iff_iff, decide_eq_true_eq, decide_eq_true_eq]
    omega
theorem has_mem {l : List (Int × Int)} {n : Int} (h : hasR l n = true) : ∃ r ∈ l, r.1 ≤ n ∧ n < nxt r := by
  unfold hasR at h
  obtain ⟨r, hr, h⟩ := List.any_eq_true.1 h
  exact ⟨r, hr, by simpa using h⟩
theorem has_none {l : List (Int × Int)} {n : Int} (h : (∀ x ∈ bdr l, n < x) ∨ (∀ x ∈ bdr l, x ≤ n)) : hasR l n = false := by
  cases hb : hasR l n with
  | false => rfl
  | true =>
    obtain ⟨r, hr, h1, h2⟩ := has_mem hb
    rcases h with h | h
    · have := h r.1 (bdr_mem.2 ⟨r, hr, .inl rfl⟩); omega
    · have := h (nxt r) (bdr_mem.2 ⟨r, hr, .inr rfl⟩); omega

/-- The smallest border past the last one. -/
def minG (last : Int) (bs : List Int) : Int := bs.foldl (fun m x => if last < x ∧ x < m then x else m) 281474976710658
theorem minG_snoc (last : Int) (bs : List Int) (x : Int) : minG last (bs ++ [x]) = if last < x ∧ x < minG last bs then x else minG last bs := by
  unfold minG; rw [List.foldl_append]; rfl
theorem minG_spec (last : Int) (bs : List Int) : (minG last bs = 281474976710658 ∨ (minG last bs ∈ bs ∧ last < minG last bs)) ∧ (∀ x ∈ bs, last < x → minG last bs ≤ x) ∧ minG last bs ≤ 281474976710658 := by
  rcases List.eq_nil_or_concat bs with rfl | ⟨l, y, rfl⟩
  · exact ⟨.inl rfl, fun x h => by simp at h, Int.le_refl _⟩
  · rw [List.concat_eq_append, minG_snoc]
    obtain ⟨h1, h2, h3⟩ := minG_spec last l
    by_cases hc : last < y ∧ y < minG last l
    · rw [if_pos hc]
      refine ⟨.inr ⟨by simp, hc.1⟩, fun x hx hl => ?_, by omega⟩
      rcases List.mem_append.1 hx with hx | hx
      · have := h2 x hx hl; omega
      · simp at hx; omega
    · rw [if_neg hc]
      refine ⟨h1.imp id (fun h => ⟨List.mem_append_left _ h.1, h.2⟩), fun x hx hl => ?_, h3⟩
      rcases List.mem_append.1 hx with hx | hx
      · exact h2 x hx hl
      · simp at hx; omega
termination_by bs.length
decreasing_by all_goals (simp_all <;> omega)

structure Asc (bs o : List Int) (last : Int) : Prop where
  pw : o.Pairwise (· < ·)
  mem : ∀ x, x ∈ o ↔ x ∈ bs ∧ x ≤ last
theorem asc0 {bs : List Int} (h : ∀ x ∈ bs, 1 ≤ x) : Asc bs [] 0 := ⟨List.Pairwise.nil, fun x => by
  constructor
  · intro h; simp at h
  · rintro ⟨h1, h2⟩; have := h x h1; omega⟩
theorem Asc.step {bs o : List Int} {last : Int} (h : Asc bs o last) (hm : minG last bs ≤ 281474976710657) : Asc bs (o ++ [minG last bs]) (minG last bs) ∧ last < minG last bs ∧ minG last bs ∈ bs := by
  obtain ⟨h1, h2, h3⟩ := minG_spec last bs
  rcases h1 with h1 | ⟨h1, h4⟩
  · omega
  refine ⟨⟨List.pairwise_append.2 ⟨h.pw, List.pairwise_singleton _ _, fun a ha b hb => ?_⟩, fun x => ?_⟩, h4, h1⟩
  · simp at hb; have := ((h.mem a).1 ha).2; omega
  · rw [List.mem_append, h.mem x, List.mem_singleton]
    constructor
    · rintro (⟨a, b⟩ | rfl)
      · exact ⟨a, by omega⟩
      · exact ⟨h1, Int.le_refl _⟩
    · rintro ⟨a, b⟩
      by_cases hx : x ≤ last
      · exact .inl ⟨a, hx⟩
      · have := h2 x a (by omega); exact .inr (by omega)
theorem Asc.done {bs o : List Int} {last : Int} (h : Asc bs o last) (hb : ∀ x ∈ bs, x ≤ 281474976710657) (hm : ¬ minG last bs ≤ 281474976710657) : ∀ x, x ∈ o ↔ x ∈ bs := by
  intro x
  rw [h.mem x]
  refine ⟨fun h => h.1, fun hx => ⟨hx, ?_⟩⟩
  obtain ⟨h1, h2, h3⟩ := minG_spec last bs
  by_cases hl : x ≤ last
  · exact hl
  · have := h2 x hx (by omega); have := hb x hx; omega

/-- The reference's Both, up to the border p. -/
structure Rb (tk : Bool → Bool → Bool) (a b : List (Int × Int)) (p : Int) (out : List (Int × Int)) : Prop where
  can : Can 0 out
  le : endR 0 out ≤ p
  has : ∀ n, n < p → hasR out n = tk (hasR a n) (hasR b n)
theorem rb0 {tk : Bool → Bool → Bool} {a b : List (Int × Int)} {p : Int} (ht : tk false false = false) (hp : 0 ≤ p) (ha : ∀ x ∈ bdr a, p ≤ x) (hb : ∀ x ∈ bdr b, p ≤ x) : Rb tk a b p [] :=
  ⟨can_nil _, hp, fun n hn => by
    rw [has_none (l := a) (.inl fun x hx => by have := ha x hx; omega), has_none (l := b) (.inl fun x hx => by have := hb x hx; omega), ht]; rfl⟩
theorem Rb.step {tk : Bool → Bool → Bool} {a b : List (Int × Int)} {p q : Int} {out : List (Int × Int)} (h : Rb tk a b p out) (hp : 1 ≤ p) (hpq : p < q) (hq : q ≤ 281474976710657)
    (ha : ∀ x ∈ bdr a, ¬ (p < x ∧ x < q)) (hb : ∀ x ∈ bdr b, ¬ (p < x ∧ x < q)) :
    Rb tk a b q (if tk (hasR a p) (hasR b p) = true then addR out (p, q - p) else out) := by
  have hin : ∀ n, p ≤ n → n < q → tk (hasR a n) (hasR b n) = tk (hasR a p) (hasR b p) := fun n h1 h2 => by
    rw [has_const (l := a) h1 (fun x hx => by have := ha x hx; omega), has_const (l := b) h1 (fun x hx => by have := hb x hx; omega)]
  cases ht : tk (hasR a p) (hasR b p) with
  | true =>
    rw [if_pos rfl]
    obtain ⟨a1, a2, a3⟩ := addR_spec h.can (p := p) (c := q - p) h.le hp (by omega) (by omega)
    refine ⟨a1, by omega, fun n hn => ?_⟩
    rw [a3 n]
    by_cases hl : n < p
    · rw [h.has n hl, show decide (p ≤ n ∧ n < p + (q - p)) = false from by simp; omega, Bool.or_false]
    · rw [hin n (by omega) hn, ht, show decide (p ≤ n ∧ n < p + (q - p)) = true from by simp; omega, Bool.or_true]
  | false =>
    rw [if_neg (by simp)]
    refine ⟨h.can, by have := h.le; omega, fun n hn => ?_⟩
    by_cases hl : n < p
    · exact h.has n hl
    · rw [hin n (by omega) hn, ht]
      exact has_end h.can (by have := h.le; omega)
theorem Rb.done {tk : Bool → Bool → Bool} {a b : List (Int × Int)} {p : Int} {out : List (Int × Int)} (h : Rb tk a b p out) (ht : tk false false = false) (ha : ∀ x ∈ bdr a, x ≤ p) (hb : ∀ x ∈ bdr b, x ≤ p) (n : Int) :
    hasR out n = tk (hasR a n) (hasR b n) := by
  by_cases hl : n < p
  · exact h.has n hl
  · rw [has_none (l := a) (.inr fun x hx => by have := ha x hx; omega), has_none (l := b) (.inr fun x hx => by have := hb x hx; omega), ht]
    exact has_end h.can (by have := h.le; omega)
/-- What the reference's Both gives is what package seq's sweep gives. -/
theorem rb_both {tk : Bool → Bool → Bool} {a b out : List (Int × Int)} (ht : tk false false = false) (ha : Can 0 a) (hb : Can 0 b) (hc : Can 0 out) (h : ∀ n, hasR out n = tk (hasR a n) (hasR b n)) : out = bothL tk a b := by
  obtain ⟨h1, h2⟩ := both_spec (take := tk) ht ha hb
  exact can_unique hc h1 (fun n => by rw [h n, h2 n])
end Go.Proofs.YtalophngappkhaaGreatDoor

/- The first number of what is common, for quantumref12.First. -/
import Derived.Test.YtalophngappkhaaGreatDoorZ29
import Derived.Test.YtalophngappkhaaGreatDoorZ14
set_option linter.unusedVariables false
set_option linter.unusedSimpArgs false
set_option linter.unusedSectionVars false
namespace Go.Proofs.YtalophngappkhaaGreatDoor
open Go Go.RowKit Go.Shelf

theorem can_one {f n : Int} (h1 : 1 ≤ f) (h2 : f < n) (h3 : n ≤ 281474976710657) : Can 0 [(f, n - f)] := can_cons.2 ⟨show (0 : Int) < f by omega, rok_iff.2 ⟨h1, show f ≤ _ by omega, show 1 ≤ n - f by omega, show n - f ≤ 281474976710657 - f by omega⟩, can_nil _⟩
theorem has_one {f n k : Int} : hasR [(f, n - f)] k = decide (f ≤ k ∧ k < n) := by
  rw [hasR_cons, hasR_nil, Bool.or_false]
  show decide (f ≤ k ∧ k < f + (n - f)) = _
  rw [show f + (n - f) = n by omega]
theorem first_both {t : Bool → Bool → Bool} (ht : ∀ x y, t x y = (x && y)) {G : List (Int × Int)} {next fr : Int} (hc : Can 0 G) (h1 : 1 ≤ fr) (h2 : fr < next) (h3 : next ≤ 281474976710657) :
    (frsG G next fr = none → bothL t G [(fr, next - fr)] = []) ∧ ∀ n, frsG G next fr = some n → ∃ c l, bothL t G [(fr, next - fr)] = (n, c) :: l := by
  obtain ⟨i1, i2⟩ := frsG_spec (next := next) (fr := fr) hc
  obtain ⟨j1, j2⟩ := both_spec (take := t) (by rw [ht]; rfl) hc (can_one h1 h2 h3)
  have j3 : ∀ k, hasR (bothL t G [(fr, next - fr)]) k = (hasR G k && decide (fr ≤ k ∧ k < next)) := fun k => by rw [j2, ht, has_one]
  generalize bothL t G [(fr, next - fr)] = C at j1 j2 j3 ⊢
  constructor
  · intro hn
    rcases C with _ | ⟨r, l⟩
    · rfl
    · obtain ⟨_, hr, _⟩ := can_cons.1 j1
      have hk := rok_iff.1 hr
      have hh : hasR (r :: l) r.1 = true := by rw [hasR_cons, decide_eq_true (show r.1 ≤ r.1 ∧ r.1 < nxt r from ⟨Int.le_refl _, show r.1 < r.1 + r.2 by omega⟩)]; rfl
      rw [j3, Bool.and_eq_true, decide_eq_true_eq] at hh
      rw [i2 hn r.1 hh.2.1 hh.2.2] at hh
      exact absurd hh.1 (by simp)
  · intro n hn
    obtain ⟨a, b, c, d⟩ := i1 n hn
    have hh : hasR C n = true := by rw [j3, a, decide_eq_true ⟨b, c⟩]; rfl
    rcases C with _ | ⟨r, l⟩
    · cases hh
    · obtain ⟨_, hr, _⟩ := can_cons.1 j1
      have hk := rok_iff.1 hr
      have hle : r.1 ≤ n := by
        rcases (show n < r.1 ∨ r.1 ≤ n by omega) with h | h
        · rw [has_head j1 h] at hh; cases hh
        · exact h
      have h5 : hasR (r :: l) r.1 = true := by rw [hasR_cons, decide_eq_true (show r.1 ≤ r.1 ∧ r.1 < nxt r from ⟨Int.le_refl _, show r.1 < r.1 + r.2 by omega⟩)]; rfl
      rw [j3, Bool.and_eq_true, decide_eq_true_eq] at h5
      have hge : n ≤ r.1 := by
        rcases (show r.1 < n ∨ n ≤ r.1 by omega) with h | h
        · have := d r.1 h5.2.1 h
          rw [this] at h5
          exact absurd h5.1 (by simp)
        · exact h
      have : r.1 = n := by omega
      subst this
      exact ⟨r.2, l, rfl⟩
end Go.Proofs.YtalophngappkhaaGreatDoor

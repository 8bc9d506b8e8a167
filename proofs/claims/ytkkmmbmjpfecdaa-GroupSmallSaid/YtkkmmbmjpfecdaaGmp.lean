/- Plain laws on paths and on where groups meet. -/
import Derived.Test.YtkkmmbmjpfecdaaGrf
namespace Go.Proofs.Ytkkmmbmjpfecdaa
section
variable {gs : List (Int × Int)}
theorem path_suffix (h : Bef gs gs.length) : ∀ x, x < gs.length → ∀ m ∈ path gs x, ∃ pre, path gs x = pre ++ path gs m ∧ ∀ g ∈ pre, m < g := by
  intro x
  induction x using Nat.strongRecOn with
  | _ x ih =>
    intro hx m hm
    rcases Nat.eq_zero_or_pos x with rfl | h0
    · simp [path_zero] at hm; subst hm
      exact ⟨[], rfl, by simp⟩
    · obtain ⟨h1, h2⟩ := h x h0 hx
      have hp := path_succ h h0 hx
      rw [hp] at hm
      rcases List.mem_cons.1 hm with rfl | hm
      · exact ⟨[], rfl, by simp⟩
      · obtain ⟨pre, e, hl⟩ := ih _ (by omega) (by omega) m hm
        have := path_mem_le h _ (by omega) m hm
        exact ⟨x :: pre, by rw [hp, e]; rfl, fun g hg => by
          rcases List.mem_cons.1 hg with rfl | hg
          · omega
          · exact hl g hg⟩
theorem meet2_mem (h : Bef gs gs.length) : ∀ n a b, a + b ≤ n → a < gs.length → b < gs.length → meet2 gs a b ∈ path gs a ∧ meet2 gs a b ∈ path gs b := by
  intro n
  induction n with
  | zero =>
    intro a b hn ha hb
    obtain rfl : a = 0 := by omega
    obtain rfl : b = 0 := by omega
    rw [meet2_same]; simp [path_zero]
  | succ n ih =>
    intro a b hn ha hb
    rcases Nat.lt_trichotomy a b with hlt | rfl | hlt
    · obtain ⟨h1, h2⟩ := h b (by omega) hb
      rw [meet2_right h ha hb hlt]
      obtain ⟨c, d⟩ := ih a (par gs b).toNat (by omega) ha (by omega)
      exact ⟨c, by rw [path_succ h (by omega) hb]; exact List.mem_cons_of_mem _ d⟩
    · rw [meet2_same]; exact ⟨path_self h ha, path_self h ha⟩
    · obtain ⟨h1, h2⟩ := h a (by omega) ha
      rw [meet2_left h ha hb hlt]
      obtain ⟨c, d⟩ := ih (par gs a).toNat b (by omega) (by omega) hb
      exact ⟨by rw [path_succ h (by omega) ha]; exact List.mem_cons_of_mem _ c, d⟩
theorem meet2_max (h : Bef gs gs.length) : ∀ n a b, a + b ≤ n → a < gs.length → b < gs.length → ∀ g, g ∈ path gs a → g ∈ path gs b → g ∈ path gs (meet2 gs a b) := by
  intro n
  induction n with
  | zero =>
    intro a b hn ha hb g hg _
    obtain rfl : a = 0 := by omega
    obtain rfl : b = 0 := by omega
    rw [meet2_same]; exact hg
  | succ n ih =>
    intro a b hn ha hb g hg hg'
    rcases Nat.lt_trichotomy a b with hlt | rfl | hlt
    · obtain ⟨h1, h2⟩ := h b (by omega) hb
      rw [meet2_right h ha hb hlt]
      have := path_mem_le h a ha g hg
      rw [path_succ h (by omega) hb] at hg'
      rcases List.mem_cons.1 hg' with rfl | hg'
      · omega
      · exact ih a (par gs b).toNat (by omega) ha (by omega) g hg hg'
    · rw [meet2_same]; exact hg
    · obtain ⟨h1, h2⟩ := h a (by omega) ha
      rw [meet2_left h ha hb hlt]
      have := path_mem_le h b hb g hg'
      rw [path_succ h (by omega) ha] at hg
      rcases List.mem_cons.1 hg with rfl | hg
      · omega
      · exact ih (par gs a).toNat b (by omega) (by omega) hb g hg hg'
theorem meet2_lt (h : Bef gs gs.length) {a b : Nat} (ha : a < gs.length) (hb : b < gs.length) : meet2 gs a b < gs.length := by
  have := (meet2_le h _ a b (Nat.le_refl _) ha hb).1; omega
theorem meet2_comm (h : Bef gs gs.length) {a b : Nat} (ha : a < gs.length) (hb : b < gs.length) : meet2 gs a b = meet2 gs b a := by
  obtain ⟨c, d⟩ := meet2_mem h _ a b (Nat.le_refl _) ha hb
  obtain ⟨c', d'⟩ := meet2_mem h _ b a (Nat.le_refl _) hb ha
  have e1 := path_mem_le h _ (meet2_lt h hb ha) _ (meet2_max h _ b a (Nat.le_refl _) hb ha _ d c)
  have e2 := path_mem_le h _ (meet2_lt h ha hb) _ (meet2_max h _ a b (Nat.le_refl _) ha hb _ d' c')
  omega
theorem idxZ_ints (pre : List Nat) (m : Nat) (r : List Nat) (h : m ∉ pre) : idxZ (ints (pre ++ m :: r)) m = pre.length := by
  refine idxZ_at (j := pre.length) ?_ ?_
  · rw [ints_append, List.take_append_of_le_length (by simp [ints])]
    intro hm
    have := List.mem_of_mem_take hm
    simp [ints] at this
    obtain ⟨a, ha, e⟩ := this
    obtain rfl : a = m := by omega
    exact h ha
  · simp [ints]
/-- The paths of two groups from where they meet. -/
theorem paths_meet (h : Bef gs gs.length) {x y : Nat} (hx : x < gs.length) (hy : y < gs.length) : ∃ (I J : Nat), idxZ (ints (path gs x)) (meet2 gs x y : Nat) = I ∧ idxZ (ints (path gs y)) (meet2 gs x y : Nat) = J ∧
    I < (path gs x).length ∧ J < (path gs y).length ∧ (ints (path gs x)).drop I = (ints (path gs y)).drop J ∧ ∀ g ∈ (ints (path gs x)).take I, g ∉ ints (path gs y) := by
  obtain ⟨c, d⟩ := meet2_mem h _ x y (Nat.le_refl _) hx hy
  have hm := meet2_lt h hx hy
  have hmax := meet2_max h _ x y (Nat.le_refl _) hx hy
  generalize meet2 gs x y = m at c d hm hmax
  obtain ⟨p1, e1, l1⟩ := path_suffix h x hx m c
  obtain ⟨p2, e2, l2⟩ := path_suffix h y hy m d
  obtain ⟨t, et⟩ : ∃ t, path gs m = m :: t := by
    have := path_head h hm
    cases hp : path gs m with
    | nil => rw [hp] at this; simp at this
    | cons a t => rw [hp] at this; simp at this; exact ⟨t, by rw [this]⟩
  have hpos := path_len_pos h hm
  refine ⟨p1.length, p2.length, ?_, ?_, ?_, ?_, ?_, ?_⟩
  · rw [e1, et]; exact idxZ_ints _ _ _ (fun hh => by have := l1 m hh; omega)
  · rw [e2, et]; exact idxZ_ints _ _ _ (fun hh => by have := l2 m hh; omega)
  · rw [e1, List.length_append]; omega
  · rw [e2, List.length_append]; omega
  · rw [e1, e2, ints_append, ints_append, List.drop_left' (by simp [ints]), List.drop_left' (by simp [ints])]
  · intro g hg hg2
    rw [e1, ints_append, List.take_append_of_le_length (by simp [ints])] at hg
    have hg1 := List.mem_of_mem_take hg
    simp only [ints, List.mem_map] at hg1 hg2
    obtain ⟨n, hn, rfl⟩ := hg1
    obtain ⟨n', hn', e⟩ := hg2
    obtain rfl : n' = n := by omega
    have hgx : n' ∈ path gs x := by rw [e1]; exact List.mem_append_left _ hn
    have := path_mem_le h m hm _ (hmax n' hgx hn')
    have := l1 n' hn
    omega
end
end Go.Proofs.Ytkkmmbmjpfecdaa

/- Plain laws on adding groups. -/
import Derived.Test.YtkkmmbmjpfecdaaGmd
import Derived.Test.YtkkmmbmjpfecdaaGmp
namespace Go.Proofs.Ytkkmmbmjpfecdaa
section
variable {gs : List (Int × Int)}
theorem par_append (ys : List (Int × Int)) {i : Nat} (hi : i < gs.length) : par (gs ++ ys) i = par gs i := by unfold par; rw [List.getElem?_append_left hi]
theorem wgt_append (ys : List (Int × Int)) {i : Nat} (hi : i < gs.length) : wgt (gs ++ ys) i = wgt gs i := by unfold wgt; rw [List.getElem?_append_left hi]
theorem path_append (h : Bef gs gs.length) (ys : List (Int × Int)) : ∀ i, i < gs.length → path (gs ++ ys) i = path gs i := by
  intro i
  have hb : Bef (gs ++ ys) gs.length := fun i h0 hi => by rw [par_append ys hi]; exact h i h0 hi
  induction i using Nat.strongRecOn with
  | _ i ih =>
    intro hi
    rcases Nat.eq_zero_or_pos i with rfl | h0
    · rfl
    · obtain ⟨h1, h2⟩ := h i h0 hi
      rw [path_succ hb h0 hi, path_succ h h0 hi, par_append ys hi, ih _ (by omega) (by omega)]
theorem par_take {k i : Nat} (hi : i < k) (hk : k ≤ gs.length) : par (gs.take k) i = par gs i := by unfold par; rw [List.getElem?_take_of_lt hi]
theorem wgt_take {k i : Nat} (hi : i < k) : wgt (gs.take k) i = wgt gs i := by unfold wgt; rw [List.getElem?_take_of_lt hi]
theorem path_take (h : Bef gs gs.length) {k : Nat} (hk : k ≤ gs.length) {i : Nat} (hi : i < k) : path (gs.take k) i = path gs i := by
  have hl : (gs.take k).length = k := by rw [List.length_take]; omega
  have hb : Bef (gs.take k) (gs.take k).length := fun i h0 hi => by rw [hl] at hi; rw [par_take hi hk]; exact h i h0 (by omega)
  have := path_append hb (gs.drop k) i (by omega)
  rw [List.take_append_drop] at this
  exact this.symm
theorem gok_take (h : GOK gs) {k : Nat} (h1 : 1 ≤ k) (hk : k ≤ gs.length) : GOK (gs.take k) := by
  have hl : (gs.take k).length = k := by rw [List.length_take]; omega
  refine ⟨by have := h.many; omega, by rw [List.getElem?_take_of_lt (by omega)]; exact h.root, fun g h0 hg => ?_⟩
  rw [hl] at hg
  obtain ⟨a, b, c, d⟩ := h.each g h0 (by omega)
  exact ⟨by rw [par_take hg hk]; exact a, by rw [par_take hg hk]; exact b, by rw [wgt_take hg]; exact c, by unfold dep; rw [path_take h.bef hk hg]; exact d⟩
/-- Add of the next group of right groups. -/
theorem add_next (h : GOK gs) {j : Nat} (h1 : 1 ≤ j) (hj : j < gs.length) {p q : Int} (hg : gs[j]? = some (p, q)) : addE (gs.take j) p q = 0 ∧ addL (gs.take j) p q = gs.take (j + 1) := by
  obtain ⟨a, b, c, d⟩ := h.each j (by omega) hj
  have hp := par_get hg
  have hq := wgt_get hg
  dsimp only at hp hq
  rw [hp] at a b
  rw [hq] at c
  have hl : (gs.take j).length = j := by rw [List.length_take]; omega
  have ht : thereZ (gs.take j) [p] = 0 := there_zero.2 ⟨gok_take h h1 (by omega), fun z hz => by simp at hz; subst hz; omega⟩
  have hd : dep (gs.take j) p.toNat = dep gs p.toNat := by unfold dep; rw [path_take h.bef (by omega) (by omega)]
  have hds := dep_succ h.bef (by omega) hj
  rw [hp] at hds
  have hm := h.many
  have e : addE (gs.take j) p q = 0 := by
    unfold addE
    rw [if_neg (by simp [ht]), if_neg (by simp [c]), if_neg (by omega), if_neg (by omega)]
  refine ⟨e, ?_⟩
  unfold addL
  rw [if_pos e, List.take_add_one, hg]; rfl
theorem there_ok1 (h : GOK gs) {p : Nat} (hp : p < gs.length) : thereZ gs [(p : Int)] = 0 := there_zero.2 ⟨h, fun z hz => by simp at hz; subst hz; omega⟩
theorem chosen_congr {p q : Nat → Bool} {n : Nat} (h : ∀ x, x < n → p x = q x) : chosen p n = chosen q n := by
  unfold chosen
  rw [List.filter_congr (fun x hx => h x (List.mem_range.1 hx))]
/-- The children of a group, when one more is there. -/
theorem child_add (h : GOK gs) {p : Nat} (hp : p < gs.length) {w : Int} (ho : GOK (gs ++ [((p : Int), w)])) : childL (gs ++ [((p : Int), w)]) p = childL gs p ++ [(gs.length : Int)] := by
  have hpos := h.pos
  unfold childL
  rw [if_pos (there_ok1 ho (by simp; omega)), if_pos (there_ok1 h hp), Int.toNat_natCast, List.length_append, List.length_singleton, chosen_succ]
  congr 1
  · apply chosen_congr
    intro x hx
    unfold childB
    rw [par_append _ hx]
  · rw [if_pos]
    simp [childB, par]; omega
theorem child_deep (h : GOK gs) {p : Nat} (hp : p < gs.length) (hd : dep gs p = 4) : childL gs p = [] := by
  unfold childL
  rw [if_pos (there_ok1 h hp), Int.toNat_natCast]
  unfold chosen
  have : (List.range gs.length).filter (childB gs p) = [] := by
    rw [List.filter_eq_nil_iff]
    intro x hx hc
    have hx := List.mem_range.1 hx
    simp [childB] at hc
    have := dep_succ h.bef hc.1 hx
    have := dep_le h hx
    rw [hc.2, Int.toNat_natCast] at *
    omega
  rw [this]; rfl
theorem childL_len (gs : List (Int × Int)) (p : Int) : (childL gs p).length ≤ gs.length := by
  unfold childL
  split
  · unfold chosen ints
    rw [List.length_map]
    exact Nat.le_trans (List.length_filter_le _ _) (by simp)
  · simp
end
end Go.Proofs.Ytkkmmbmjpfecdaa

/- Plain laws on the order from above: which groups stand in it, and how often. -/
import Derived.Test.YtkkmmbmjpfecdaaGrc
namespace Go.Proofs.Ytkkmmbmjpfecdaa

section
variable {gs : List (Int × Int)}
def kidB (gs : List (Int × Int)) (g x : Nat) : Bool := decide (g < x) && (par gs x == (g : Int))
def kidsTo (gs : List (Int × Int)) (g j : Nat) : List Nat := (List.range j).filter (kidB gs g)
/-- A group and all under it, from above. -/
def ordF (gs : List (Int × Int)) : Nat → Nat → List Nat
  | 0, _ => []
  | m + 1, g => g :: (kidsTo gs g gs.length).flatMap (ordF gs m)
theorem kidsTo_start (g : Nat) : kidsTo gs g (g + 1) = [] := by
  unfold kidsTo
  rw [List.filter_eq_nil_iff]
  intro x hx
  simp at hx
  simp [kidB]; omega
theorem kidsTo_succ (g j : Nat) : kidsTo gs g (j + 1) = kidsTo gs g j ++ if kidB gs g j then [j] else [] := by
  unfold kidsTo
  rw [List.range_succ, List.filter_append]
  congr 1
  cases h : kidB gs g j <;> simp [h]
theorem ints_append (a b : List Nat) : ints (a ++ b) = ints a ++ ints b := by simp [ints]
theorem kids_len_le (m g j : Nat) (hj : j ≤ gs.length) : ((kidsTo gs g j).flatMap (ordF gs m)).length ≤ ((kidsTo gs g gs.length).flatMap (ordF gs m)).length := by
  obtain ⟨d, hd⟩ : ∃ d, gs.length = j + d := ⟨gs.length - j, by omega⟩
  rw [hd]
  clear hd hj
  induction d with
  | zero => exact Nat.le_refl _
  | succ d ih =>
    rw [← Nat.add_assoc, kidsTo_succ, List.flatMap_append, List.length_append]
    omega
theorem mem_kids {g x : Nat} : x ∈ kidsTo gs g gs.length ↔ x < gs.length ∧ g < x ∧ par gs x = (g : Int) := by
  simp [kidsTo, kidB, List.mem_filter, and_assoc]
theorem path_mem_le {n : Nat} (h : Bef gs n) : ∀ x, x < n → ∀ y ∈ path gs x, y ≤ x := by
  intro x
  induction x using Nat.strongRecOn with
  | _ x ih =>
    intro hx y hy
    rcases Nat.eq_zero_or_pos x with rfl | h0
    · simp [path_zero] at hy; omega
    · obtain ⟨h1, h2⟩ := h x h0 hx
      rw [path_succ h h0 hx] at hy
      rcases List.mem_cons.1 hy with rfl | hy
      · exact Nat.le_refl _
      · have := ih (par gs x).toNat (by omega) (by omega) y hy; omega
theorem path_self {n x : Nat} (h : Bef gs n) (hx : x < n) : x ∈ path gs x := List.mem_of_getElem? (path_head h hx)
theorem nodup_range_filter (p : Nat → Bool) (n : Nat) : ((List.range n).filter p).Nodup := List.nodup_range.filter p
theorem kids_nodup (g j : Nat) : (kidsTo gs g j).Nodup := nodup_range_filter _ _
theorem count_of_nodup {l : List Nat} (hn : l.Nodup) (a : Nat) : l.count a = if a ∈ l then 1 else 0 := List.Nodup.count hn

/-- How many children of g are in the path of x. -/
theorem kids_in_path (h : Bef gs gs.length) {g : Nat} (hg : g < gs.length) : ∀ x, x < gs.length → ((kidsTo gs g gs.length).filter (fun k => decide (k ∈ path gs x))).length = if g ∈ path gs x ∧ x ≠ g then 1 else 0 := by
  intro x
  induction x using Nat.strongRecOn with
  | _ x ih =>
    intro hx
    rcases Nat.eq_zero_or_pos x with rfl | h0
    · have : (kidsTo gs g gs.length).filter (fun k => decide (k ∈ path gs 0)) = [] := by
        rw [List.filter_eq_nil_iff]
        intro k hk
        have := mem_kids.1 hk
        simp [path_zero]; omega
      rw [this, if_neg (by simp [path_zero]; omega)]; rfl
    · obtain ⟨h1, h2⟩ := h x h0 hx
      have hlt : (par gs x).toNat < x := by omega
      have hps := path_succ h h0 hx
      by_cases hk : x ∈ kidsTo gs g gs.length
      · obtain ⟨_, k1, k2⟩ := mem_kids.1 hk
        have hpg : (par gs x).toNat = g := by omega
        rw [hpg] at hps
        have e : (kidsTo gs g gs.length).filter (fun k => decide (k ∈ path gs x)) = (kidsTo gs g gs.length).filter (fun k => k == x) := by
          apply List.filter_congr
          intro k hkk
          have hgk := (mem_kids.1 hkk).2.1
          rw [hps]
          have : k ∉ path gs g := fun hm => by have := path_mem_le h g hg k hm; omega
          rw [Bool.eq_iff_iff]; simp [this]
        rw [e, ← List.countP_eq_length_filter]
        have : List.countP (fun k => k == x) (kidsTo gs g gs.length) = (kidsTo gs g gs.length).count x := rfl
        rw [this, count_of_nodup (kids_nodup _ _), if_pos hk, if_pos]
        exact ⟨by rw [hps]; exact List.mem_cons_of_mem _ (path_self h hg), by omega⟩
      · have e : (kidsTo gs g gs.length).filter (fun k => decide (k ∈ path gs x)) = (kidsTo gs g gs.length).filter (fun k => decide (k ∈ path gs (par gs x).toNat)) := by
          apply List.filter_congr
          intro k hkk
          have : k ≠ x := fun e => hk (e ▸ hkk)
          rw [hps]
          simp [this]
        rw [e, ih _ hlt (by omega)]
        have hpg : (par gs x).toNat ≠ g := fun e => hk (mem_kids.2 ⟨hx, by omega, by omega⟩)
        by_cases hxg : x = g
        · subst hxg
          rw [if_neg (fun hh => by have := path_mem_le h _ (by omega) x hh.1; omega), if_neg (by simp)]
        · have : g ∈ path gs x ↔ g ∈ path gs (par gs x).toNat := by rw [hps]; simp [Ne.symm hxg]
          simp only [this, hpg, hxg, ne_eq, not_false_eq_true, and_true]

theorem sum_ite (l : List Nat) (p : Nat → Prop) [DecidablePred p] : (l.map (fun k => if p k then 1 else 0)).sum = (l.filter (fun k => decide (p k))).length := by
  induction l with
  | nil => rfl
  | cons a r ih =>
    rw [List.map_cons, List.sum_cons, ih]
    by_cases h : p a <;> simp [List.filter_cons, h] <;> omega

theorem ordF_count (h : Bef gs gs.length) : ∀ m g, gs.length - g ≤ m → g < gs.length → ∀ x, (ordF gs m g).count x = if x < gs.length ∧ g ∈ path gs x then 1 else 0 := by
  intro m
  induction m with
  | zero => intro g h1 h2; omega
  | succ m ih =>
    intro g hm hg x
    show (g :: (kidsTo gs g gs.length).flatMap (ordF gs m)).count x = _
    rw [List.count_cons, List.count_flatMap]
    have e : (kidsTo gs g gs.length).map (List.count x ∘ ordF gs m) = (kidsTo gs g gs.length).map (fun k => if x < gs.length ∧ k ∈ path gs x then 1 else 0) := by
      apply List.map_congr_left
      intro k hk
      have := mem_kids.1 hk
      exact ih k (by omega) this.1 x
    rw [e]
    by_cases hx : x < gs.length
    · simp only [hx, true_and]
      rw [sum_ite, kids_in_path h hg x hx]
      by_cases hxg : x = g
      · subst hxg
        simp [path_self h hx]
      · have : (g == x) = false := by simp; omega
        simp [this, hxg]
    · simp only [hx, false_and, if_false]
      rw [show (kidsTo gs g gs.length).map (fun _ => 0) = (kidsTo gs g gs.length).map (fun k => if (fun _ : Nat => False) k then 1 else 0) from by simp, sum_ite]
      have : (g == x) = false := by simp; omega
      simp [this]
theorem ordF_nodup (h : Bef gs gs.length) {m g : Nat} (hm : gs.length - g ≤ m) (hg : g < gs.length) : (ordF gs m g).Nodup :=
  List.nodup_iff_count.2 fun x => by rw [ordF_count h m g hm hg x]; split <;> omega
theorem ordF_mem (h : Bef gs gs.length) {m g x : Nat} (hm : gs.length - g ≤ m) (hg : g < gs.length) : x ∈ ordF gs m g ↔ x < gs.length ∧ g ∈ path gs x := by
  rw [← List.count_pos_iff, ordF_count h m g hm hg x]
  split <;> simp_all
theorem nodup_len_le {l : List Nat} {n : Nat} (hn : l.Nodup) (hl : ∀ x ∈ l, x < n) : l.length ≤ n := by
  have := List.Nodup.length_le_of_subset hn (fun x hx => List.mem_range.2 (hl x hx) : l ⊆ List.range n)
  simpa using this
theorem ordF_len (h : Bef gs gs.length) {m g : Nat} (hm : gs.length - g ≤ m) (hg : g < gs.length) : (ordF gs m g).length ≤ gs.length :=
  nodup_len_le (ordF_nodup h hm hg) fun x hx => ((ordF_mem h hm hg).1 hx).1
end
end Go.Proofs.Ytkkmmbmjpfecdaa

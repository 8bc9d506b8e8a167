/- Plain laws on the groups under one, and on sorted numbers. -/
import Derived.Test.YtkkmmbmjpfecdaaGmq
import Derived.Test.YtkkmmbmjpfecdaaSort
namespace Go.Proofs.Ytkkmmbmjpfecdaa
/-- A list in order is what sorting makes of any other order of it. -/
theorem srtI_of_perm {a b : List Int} (hp : a.Perm b) (hs : b.Pairwise (fun x y => x ≤ y)) : srtI a = b := by
  unfold srtI
  have h1 := List.mergeSort_perm a (fun x y => decide (x ≤ y))
  have h2 := List.pairwise_mergeSort (le := fun x y : Int => decide (x ≤ y)) (fun a b c h1 h2 => by simp at h1 h2 ⊢; omega) (fun a b => by simp; omega) a
  exact List.Perm.eq_of_pairwise (le := fun x y : Int => x ≤ y) (fun a b _ _ h1 h2 => by omega) (h2.imp (by intro a b h; simpa using h)) hs (h1.trans hp)
theorem mem_ints {l : List Nat} {x : Nat} : (x : Int) ∈ ints l ↔ x ∈ l := by
  unfold ints
  rw [List.mem_map]
  exact ⟨fun ⟨a, ha, he⟩ => by have : a = x := by omega
                               rwa [this] at ha, fun h => ⟨x, h, rfl⟩⟩
theorem ints_perm {a b : List Nat} (hp : a.Perm b) : (ints a).Perm (ints b) := hp.map _
theorem ints_sorted {l : List Nat} (h : l.Pairwise (fun x y => x < y)) : (ints l).Pairwise (fun x y => x ≤ y) := by
  unfold ints
  rw [List.pairwise_map]
  exact h.imp (by intro a b h; omega)
theorem range_filter_sorted (p : Nat → Bool) (n : Nat) : ((List.range n).filter p).Pairwise (fun x y => x < y) := List.Pairwise.filter _ List.pairwise_lt_range
theorem srt_of {xs : List Int} (h : xs.Pairwise (fun x y => x ≤ y)) : Srt xs := by
  intro i x y hx hy
  obtain ⟨h1, rfl⟩ := List.getElem?_eq_some_iff.1 hx
  obtain ⟨h2, rfl⟩ := List.getElem?_eq_some_iff.1 hy
  exact List.pairwise_iff_getElem.1 h i (i + 1) h1 h2 (by omega)
theorem flat_le {α β : Type} (f : α → List β) (n : Nat) : ∀ l : List α, (∀ k ∈ l, (f k).length ≤ n) → (l.flatMap f).length ≤ l.length * n := by
  intro l
  induction l with
  | nil => simp
  | cons a r ih =>
    intro h
    rw [List.flatMap_cons, List.length_append, List.length_cons, Nat.succ_mul]
    have := ih fun k hk => h k (List.mem_cons_of_mem _ hk)
    have := h a List.mem_cons_self
    omega
section
variable {gs : List (Int × Int)}
def unds (gs : List (Int × Int)) (g : Nat) : List Nat := (List.range gs.length).filter (underB gs g)
theorem mem_unds {g x : Nat} : x ∈ unds gs g ↔ x < gs.length ∧ g ∈ path gs x := by simp [unds, underB, List.mem_filter]
theorem under_eq (h : GOK gs) {g : Nat} (hg : g < gs.length) : underL gs g = ints (unds gs g) := by
  unfold underL
  rw [if_pos (there_ok1 h hg), Int.toNat_natCast]; rfl
theorem child_eq (h : GOK gs) {g : Nat} (hg : g < gs.length) : childL gs g = ints (kidsTo gs g gs.length) := by
  unfold childL
  rw [if_pos (there_ok1 h hg), Int.toNat_natCast]
  unfold chosen kidsTo
  rw [List.filter_congr]
  intro x hx
  have hx := List.mem_range.1 hx
  unfold childB kidB
  rcases Nat.eq_zero_or_pos x with rfl | h0
  · simp
  · obtain ⟨a, b⟩ := h.bef x h0 hx
    rw [Bool.eq_iff_iff]; simp; omega
theorem path_eq (h : GOK gs) {g : Nat} (hg : g < gs.length) : pathL gs g = ints (path gs g) := by
  unfold pathL
  rw [if_pos (there_ok1 h hg), Int.toNat_natCast]
theorem unds_nodup (g : Nat) : (unds gs g).Nodup := nodup_range_filter _ _
theorem unds_sorted (g : Nat) : (unds gs g).Pairwise (fun x y => x < y) := range_filter_sorted _ _
theorem ordF_perm (h : Bef gs gs.length) {m g : Nat} (hm : gs.length - g ≤ m) (hg : g < gs.length) : (ordF gs m g).Perm (unds gs g) :=
  (List.perm_ext_iff_of_nodup (ordF_nodup h hm hg) (unds_nodup g)).2 fun x => by rw [ordF_mem h hm hg, mem_unds]
theorem unds_perm (h : Bef gs gs.length) {g : Nat} (hg : g < gs.length) : (g :: (kidsTo gs g gs.length).flatMap (unds gs)).Perm (unds gs g) := by
  have := ordF_perm h (m := gs.length + 1) (by omega) hg
  refine List.Perm.trans ?_ this
  show (g :: _).Perm (g :: (kidsTo gs g gs.length).flatMap (ordF gs gs.length))
  refine List.Perm.cons _ (List.perm_iff_count.2 fun x => ?_)
  rw [List.count_flatMap, List.count_flatMap]
  congr 1
  apply List.map_congr_left
  intro k hk
  exact ((ordF_perm h (by omega) (mem_kids.1 hk).1).count_eq x).symm
theorem ints_flatMap (l : List Nat) (f : Nat → List Nat) : ints (l.flatMap f) = l.flatMap (fun k => ints (f k)) := by
  unfold ints; rw [List.map_flatMap]
/-- Itself, and what is under its children, sorted. -/
theorem under_sum (h : GOK gs) {g : Nat} (hg : g < gs.length) : srtI ((g : Int) :: (kidsTo gs g gs.length).flatMap (fun k => underL gs (k : Nat))) = underL gs g := by
  rw [under_eq h hg]
  refine srtI_of_perm ?_ (ints_sorted (unds_sorted g))
  have := ints_perm (unds_perm h.bef hg)
  refine List.Perm.trans (List.Perm.of_eq ?_) this
  show _ = (g : Int) :: ints _
  rw [ints_flatMap]
  congr 1
  rw [List.flatMap_def, List.flatMap_def]
  congr 1
  apply List.map_congr_left
  intro k hk
  exact under_eq h (mem_kids.1 hk).1
theorem under_srt (h : GOK gs) {g : Nat} (hg : g < gs.length) : Srt (underL gs g) := by
  rw [under_eq h hg]
  exact srt_of (ints_sorted (unds_sorted g))
theorem under_has (h : GOK gs) {g x : Nat} (hg : g < gs.length) (hx : x < gs.length) : (underL gs g).contains (x : Int) = (path gs x).contains g := by
  rw [under_eq h hg]
  rw [Bool.eq_iff_iff]
  simp [mem_ints, mem_unds, hx]
theorem path_has (g x : Nat) : (ints (path gs x)).contains (g : Int) = (path gs x).contains g := by
  rw [Bool.eq_iff_iff]; simp [mem_ints]
theorem underL_len (gs : List (Int × Int)) (p : Int) : (underL gs p).length ≤ gs.length := by
  unfold underL
  split
  · exact chosen_len _ _
  · simp
/-- The path of a group, place by place. -/
theorem path_facts (h : GOK gs) {P : Nat} (hP : P < gs.length) : (ints (path gs P)).length = dep gs P + 1 ∧ (ints (path gs P))[0]? = some (P : Int) ∧ (ints (path gs P))[dep gs P]? = some 0 ∧
    ∀ j, j < dep gs P → ∃ (x : Nat) (y q : Int), (ints (path gs P))[j]? = some (x : Int) ∧ (ints (path gs P))[j + 1]? = some y ∧ 1 ≤ x ∧ x < gs.length ∧ gs[x]? = some (y, q) := by
  have hl := path_len_pos h.bef hP
  have hi : ∀ (j x : Nat), (path gs P)[j]? = some x → (ints (path gs P))[j]? = some (x : Int) := fun j x hx => by simp [ints, hx]
  have hu := path_up h.bef (Nat.le_refl _) P hP
  refine ⟨by simp [ints, dep]; omega, hi _ _ (path_head h.bef hP), ?_, fun j hj => ?_⟩
  · obtain ⟨x, hx⟩ : ∃ x, (path gs P)[dep gs P]? = some x := ⟨_, List.getElem?_eq_getElem (by unfold dep; omega)⟩
    obtain ⟨h1, h2, h3⟩ := hu _ _ hx
    rcases Nat.eq_zero_or_pos x with rfl | h0
    · exact hi _ _ hx
    · have := (List.getElem?_eq_some_iff.1 (h3 h0).1).1
      unfold dep at this; omega
  · unfold dep at hj
    obtain ⟨x, hx⟩ : ∃ x, (path gs P)[j]? = some x := ⟨_, List.getElem?_eq_getElem (by omega)⟩
    obtain ⟨h1, h2, h3⟩ := hu _ _ hx
    have h0 : 0 < x := by
      rcases Nat.eq_zero_or_pos x with rfl | h0
      · have := h2 rfl; omega
      · exact h0
    obtain ⟨⟨y, q⟩, hg⟩ : ∃ r, gs[x]? = some r := ⟨_, List.getElem?_eq_getElem h1⟩
    have hp := par_get hg
    obtain ⟨a, b, c⟩ := h3 h0
    rw [hp] at a b c
    refine ⟨x, y, q, hi _ _ hx, ?_, h0, h1, hg⟩
    have := hi _ _ a
    rw [this]; congr 1; dsimp only at b ⊢; omega
/-- A child of a group. -/
theorem kid_facts (h : GOK gs) {P k : Nat} (hk : k ∈ kidsTo gs P gs.length) : 1 ≤ k ∧ k < gs.length ∧ (∃ q, gs[k]? = some ((P : Int), q)) ∧ dep gs k = dep gs P + 1 ∧ thereZ gs [(k : Int)] = 0 := by
  obtain ⟨h1, h2, h3⟩ := mem_kids.1 hk
  obtain ⟨⟨y, q⟩, hg⟩ : ∃ r, gs[k]? = some r := ⟨_, List.getElem?_eq_getElem h1⟩
  have hp := par_get hg
  have hd := dep_succ h.bef (by omega) h1
  rw [h3, Int.toNat_natCast] at hd
  refine ⟨by omega, h1, ⟨q, ?_⟩, hd, there_ok1 h h1⟩
  rw [h3] at hp; dsimp only at hp; rw [hg, hp]
end
end Go.Proofs.Ytkkmmbmjpfecdaa

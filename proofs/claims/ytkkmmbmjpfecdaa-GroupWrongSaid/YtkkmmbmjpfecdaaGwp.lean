/- Plain laws on groups with one defect. -/
import Derived.Test.YtkkmmbmjpfecdaaGmq
import Derived.Test.YtkkmmbmjpfecdaaGrf
namespace Go.Proofs.Ytkkmmbmjpfecdaa
section
variable {gs : List (Int × Int)}
theorem chkF_stop {f k : Nat} {r : Int × Int} (h : chkF gs 1 k = r) (hr : r.2 ≠ 0) : chkF gs (f + 1) k = r := by
  unfold chkF at h ⊢
  by_cases h1 : par gs k < 0 ∨ (k : Int) ≤ par gs k
  · rw [if_pos h1] at h ⊢; exact h
  · rw [if_neg h1] at h ⊢
    by_cases h2 : wB (wgt gs k) = false
    · rw [if_pos h2] at h ⊢; exact h
    · rw [if_neg h2] at h ⊢
      by_cases h3 : 4 < dep gs k
      · rw [if_pos h3] at h ⊢; exact h
      · rw [if_neg h3] at h
        subst h; simp [chkF] at hr
theorem chkF_step {f k : Nat} (h : Gr1 gs k) : chkF gs (f + 1) k = chkF gs f (k + 1) := by
  obtain ⟨a, b, c, d⟩ := h
  conv => lhs; unfold chkF
  rw [if_neg (by omega), if_neg (by simp [c]), if_neg (by omega)]
theorem chkF_at {k : Nat} {r : Int × Int} (h : chkF gs 1 k = r) (hr : r.2 ≠ 0) : ∀ d f, d < f → d ≤ k → (∀ i, k - d ≤ i → i < k → Gr1 gs i) → chkF gs f (k - d) = r := by
  intro d
  induction d with
  | zero =>
    intro f hf _ _
    obtain ⟨f', rfl⟩ : ∃ f', f = f' + 1 := ⟨f - 1, by omega⟩
    exact chkF_stop h hr
  | succ d ih =>
    intro f hf hk hg
    obtain ⟨f', rfl⟩ : ∃ f', f = f' + 1 := ⟨f - 1, by omega⟩
    rw [chkF_step (hg _ (Nat.le_refl _) (by omega)), show k - (d + 1) + 1 = k - d by omega]
    exact ih f' (by omega) (by omega) (fun i h1 h2 => hg i (by omega) h2)
/-- Right groups, then one that is wrong. -/
theorem check_wrong {A : List (Int × Int)} (hA : GOK A) (x : Int × Int) (B : List (Int × Int)) (hl : (A ++ x :: B).length ≤ 256) {e : Int} (he : e ≠ 0)
    (h : chkF (A ++ x :: B) 1 A.length = ((A.length : Int), e)) : checkG (A ++ x :: B) = ((A.length : Int), e) := by
  have hp := hA.pos
  have hg : ∀ i, 1 ≤ i → i < A.length → Gr1 (A ++ x :: B) i := fun i h0 hi => by
    obtain ⟨a, b, c, d⟩ := hA.each i h0 hi
    exact ⟨by rw [par_append _ hi]; exact a, by rw [par_append _ hi]; exact b, by rw [wgt_append _ hi]; exact c, by unfold dep; rw [path_append hA.bef _ i hi]; exact d⟩
  unfold checkG
  rw [if_neg (by omega), if_neg (by rw [List.getElem?_append_left hp]; simp [hA.root])]
  have := chkF_at h he (A.length - 1) ((A ++ x :: B).length - 1) (by simp; omega) (by omega) (fun i h1 h2 => hg i (by omega) h2)
  rwa [show A.length - (A.length - 1) = 1 by omega] at this
theorem par_mid (A : List (Int × Int)) (x : Int × Int) (B : List (Int × Int)) : par (A ++ x :: B) A.length = x.1 ∧ wgt (A ++ x :: B) A.length = x.2 := by simp [par, wgt]
theorem wrong_par {A : List (Int × Int)} (hA : GOK A) (p w : Int) (B : List (Int × Int)) (hl : (A ++ (p, w) :: B).length ≤ 256) (hp : p < 0 ∨ (A.length : Int) ≤ p) : checkG (A ++ (p, w) :: B) = ((A.length : Int), 191) := by
  refine check_wrong hA _ B hl (by omega) ?_
  obtain ⟨h1, h2⟩ := par_mid A (p, w) B
  unfold chkF
  rw [h1, if_pos hp]
theorem wrong_wgt {A : List (Int × Int)} (hA : GOK A) (p w : Int) (B : List (Int × Int)) (hl : (A ++ (p, w) :: B).length ≤ 256) (hp : ¬ (p < 0 ∨ (A.length : Int) ≤ p)) (hw : wB w = false) : checkG (A ++ (p, w) :: B) = ((A.length : Int), 192) := by
  refine check_wrong hA _ B hl (by omega) ?_
  obtain ⟨h1, h2⟩ := par_mid A (p, w) B
  unfold chkF
  rw [h1, h2, if_neg hp, if_pos hw]
theorem wrong_deep {A : List (Int × Int)} (hA : GOK A) (p : Nat) (w : Int) (B : List (Int × Int)) (hl : (A ++ ((p : Int), w) :: B).length ≤ 256) (hp : p < A.length) (hw : wB w = true) (hd : dep A p = 4) : checkG (A ++ ((p : Int), w) :: B) = ((A.length : Int), 193) := by
  refine check_wrong hA _ B hl (by omega) ?_
  obtain ⟨h1, h2⟩ := par_mid A ((p : Int), w) B
  have hpos := hA.pos
  have hb : Bef (A ++ ((p : Int), w) :: B) (A.length + 1) := fun i h0 hi => by
    rcases Nat.lt_or_ge i A.length with hlt | hge
    · rw [par_append _ hlt]; exact hA.bef i h0 hlt
    · obtain rfl : i = A.length := by omega
      rw [h1]; dsimp only; omega
  have hds := dep_succ hb (g := A.length) (by omega) (by omega)
  rw [h1, Int.toNat_natCast] at hds
  have : dep (A ++ ((p : Int), w) :: B) p = 4 := by unfold dep at hd ⊢; rw [path_append hA.bef _ p hp]; exact hd
  unfold chkF
  rw [h1, h2, if_neg (by dsimp only; omega), if_neg (by simp [hw]), if_pos (by omega)]
theorem wrong_root (A : List (Int × Int)) (w : Int) (hl : A.length + 1 ≤ 256) (hw : w ≠ 1) : checkG ((0, w) :: A) = (0, 190) := by
  unfold checkG
  rw [if_neg (by simp; omega), if_pos (by simp [hw])]

theorem set_mid {α : Type} {xs : List α} {i : Nat} (hi : i < xs.length) (x : α) : xs.set i x = xs.take i ++ x :: xs.drop (i + 1) := by
  rw [List.set_eq_take_append_cons_drop, if_pos hi]
theorem wrong_set_par (h : GOK gs) {i : Nat} (h0 : 0 < i) (hi : i < gs.length) (p : Int) (hp : p < 0 ∨ (i : Int) ≤ p) (w : Int) : checkG (gs.set i (p, w)) = ((i : Int), 191) := by
  have hl : (gs.take i).length = i := by rw [List.length_take]; omega
  have hm := h.many
  have hs : (gs.set i (p, w)).length = gs.length := by simp
  rw [set_mid hi] at hs ⊢
  have := wrong_par (gok_take h (k := i) h0 (by omega)) p w (gs.drop (i + 1)) (by omega) (by rw [hl]; exact hp)
  rwa [hl] at this
theorem wrong_set_wgt (h : GOK gs) {i : Nat} (h0 : 0 < i) (hi : i < gs.length) (w : Int) (hw : wB w = false) : checkG (gs.set i (par gs i, w)) = ((i : Int), 192) := by
  have hl : (gs.take i).length = i := by rw [List.length_take]; omega
  have hm := h.many
  have hs : (gs.set i (par gs i, w)).length = gs.length := by simp
  obtain ⟨a, b, _⟩ := h.each i h0 hi
  rw [set_mid hi] at hs ⊢
  have := wrong_wgt (gok_take h (k := i) h0 (by omega)) (par gs i) w (gs.drop (i + 1)) (by omega) (by rw [hl]; omega) hw
  rwa [hl] at this
theorem wrong_set_root (h : GOK gs) (w : Int) (hw : w ≠ 1) : checkG (gs.set 0 (0, w)) = (0, 190) := by
  have hp := h.pos
  have hm := h.many
  rw [set_mid hp]
  exact wrong_root _ w (by simp; omega) hw
/-- A chain of four behind a child of the root. -/
theorem wrong_chain (h : GOK gs) (hl : gs.length < 240) (w : Int) (hw : wB w = true) :
    checkG (gs ++ [((0 : Int), w), (((gs.length : Nat) : Int), (1 : Int)), (((gs.length + 1 : Nat) : Int), 1), (((gs.length + 2 : Nat) : Int), 1), (((gs.length + 3 : Nat) : Int), 1)]) = (((gs.length + 4 : Nat) : Int), 193) := by
  have hp := h.pos
  obtain ⟨g1, d1⟩ := gok_app h hp hw (by rw [dep_zero]; omega) (by omega)
  rw [dep_zero] at d1
  have l1 : (gs ++ [(((0 : Nat) : Int), w)]).length = gs.length + 1 := by simp
  obtain ⟨g2, d2⟩ := gok_app g1 (p := gs.length) (w := 1) (by omega) rfl (by omega) (by omega)
  rw [l1, d1] at d2
  have l2 : (gs ++ [(((0 : Nat) : Int), w)] ++ [(((gs.length : Nat) : Int), (1 : Int))]).length = gs.length + 2 := by simp
  obtain ⟨g3, d3⟩ := gok_app g2 (p := gs.length + 1) (w := 1) (by omega) rfl (by omega) (by omega)
  rw [l2, d2] at d3
  have l3 : (gs ++ [(((0 : Nat) : Int), w)] ++ [(((gs.length : Nat) : Int), (1 : Int))] ++ [(((gs.length + 1 : Nat) : Int), (1 : Int))]).length = gs.length + 3 := by simp
  obtain ⟨g4, d4⟩ := gok_app g3 (p := gs.length + 2) (w := 1) (by omega) rfl (by omega) (by omega)
  rw [l3, d3] at d4
  have l4 : (gs ++ [(((0 : Nat) : Int), w)] ++ [(((gs.length : Nat) : Int), (1 : Int))] ++ [(((gs.length + 1 : Nat) : Int), (1 : Int))] ++ [(((gs.length + 2 : Nat) : Int), (1 : Int))]).length = gs.length + 4 := by simp
  have := wrong_deep g4 (gs.length + 3) 1 [] (by simp; omega) (by omega) rfl d4
  rw [l4] at this
  simpa using this
theorem not_right {r : Int × Int} (h : checkG gs = r) (hr : r.2 ≠ 0) : rightB gs = false ∧ ∀ zs, thereZ gs zs = 194 := by
  have : rightB gs = false := by unfold rightB; rw [h]; simp [hr]
  exact ⟨this, fun zs => by unfold thereZ; rw [if_pos this]⟩
theorem add_wrong (h : ∀ zs, thereZ gs zs = 194) (p w : Int) : addE gs p w = 194 := by
  unfold addE; rw [if_pos (by rw [h]; omega), h]
theorem out_there (h : GOK gs) {z : Int} (hz : z < 0 ∨ (gs.length : Int) ≤ z) : thereZ gs [z] = 2 ∧ thereZ gs [0, z] = 2 ∧ addE gs z 1 = 2 := by
  have hr := right_iff.2 h
  have ho : outB gs.length z = true := by unfold outB; simp; exact hz
  have h1 : thereZ gs [z] = 2 := by unfold thereZ; rw [if_neg (by simp [hr]), if_pos (by simp [ho])]
  refine ⟨h1, by unfold thereZ; rw [if_neg (by simp [hr]), if_pos (by simp [ho])], ?_⟩
  unfold addE; rw [if_pos (by rw [h1]; omega), h1]
end
end Go.Proofs.Ytkkmmbmjpfecdaa

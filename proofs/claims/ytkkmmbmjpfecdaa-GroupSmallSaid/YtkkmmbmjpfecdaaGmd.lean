/- The groups that the laws make of numbers (Made), in plain lists: they are right. -/
import Derived.Test.YtkkmmbmjpfecdaaGm
namespace Go.Proofs.Ytkkmmbmjpfecdaa
section
variable {gs : List (Int × Int)}
theorem par_app {gs : List (Int × Int)} (x : Int × Int) {i : Nat} (hi : i < gs.length) : par (gs ++ [x]) i = par gs i := by
  unfold par; rw [List.getElem?_append_left hi]
theorem wgt_app {gs : List (Int × Int)} (x : Int × Int) {i : Nat} (hi : i < gs.length) : wgt (gs ++ [x]) i = wgt gs i := by
  unfold wgt; rw [List.getElem?_append_left hi]
theorem bef_app (h : Bef gs gs.length) (x : Int × Int) : Bef (gs ++ [x]) gs.length := fun i h0 hi => by rw [par_app x hi]; exact h i h0 hi
theorem path_app (h : Bef gs gs.length) (x : Int × Int) : ∀ i, i < gs.length → path (gs ++ [x]) i = path gs i := by
  intro i
  induction i using Nat.strongRecOn with
  | _ i ih =>
    intro hi
    rcases Nat.eq_zero_or_pos i with rfl | h0
    · rfl
    · obtain ⟨h1, h2⟩ := h i h0 hi
      rw [path_succ (bef_app h x) h0 hi, path_succ h h0 hi, par_app x hi, ih _ (by omega) (by omega)]
theorem dep_app (h : Bef gs gs.length) (x : Int × Int) {i : Nat} (hi : i < gs.length) : dep (gs ++ [x]) i = dep gs i := by
  unfold dep; rw [path_app h x i hi]
/-- One more group keeps groups right. -/
theorem gok_app (h : GOK gs) {p : Nat} {w : Int} (hp : p < gs.length) (hw : wB w = true) (hd : dep gs p < 4) (hl : gs.length < 256) : GOK (gs ++ [((p : Int), w)]) ∧ dep (gs ++ [((p : Int), w)]) gs.length = dep gs p + 1 := by
  have hpos := h.pos
  have hpar : par (gs ++ [((p : Int), w)]) gs.length = p := by simp [par]
  have hwgt : wgt (gs ++ [((p : Int), w)]) gs.length = w := by simp [wgt]
  have hb : Bef (gs ++ [((p : Int), w)]) (gs.length + 1) := fun i h0 hi => by
    rcases Nat.lt_or_ge i gs.length with hlt | hge
    · rw [par_app _ hlt]; exact h.bef i h0 hlt
    · obtain rfl : i = gs.length := by omega
      rw [hpar]; omega
  have hdep : dep (gs ++ [((p : Int), w)]) gs.length = dep gs p + 1 := by
    rw [dep_succ hb hpos (by omega), hpar, Int.toNat_natCast, dep_app h.bef _ hp]
  refine ⟨⟨by simp; omega, by rw [List.getElem?_append_left hpos]; exact h.root, fun g h0 hg => ?_⟩, hdep⟩
  simp at hg
  rcases Nat.lt_or_ge g gs.length with hlt | hge
  · obtain ⟨a, b, c, d⟩ := h.each g h0 hlt
    exact ⟨by rw [par_app _ hlt]; exact a, by rw [par_app _ hlt]; exact b, by rw [wgt_app _ hlt]; exact c, by rw [dep_app h.bef _ hlt]; exact d⟩
  · obtain rfl : g = gs.length := by omega
    exact ⟨by rw [hpar]; omega, by rw [hpar]; omega, by rw [hwgt]; exact hw, by rw [hdep]; omega⟩

/-- The parent that a number chooses. -/
def climb (gs : List (Int × Int)) (p : Nat) : Nat := if dep gs p = 4 then (par gs p).toNat else p
def mkW (n : Nat) : Nat := if n % 11 = 0 then 1 + n else 1 + n / 7 % 50
def made1 (gs : List (Int × Int)) (n : Nat) : List (Int × Int) := gs ++ [(((climb gs (n % gs.length) : Nat) : Int), ((mkW n : Nat) : Int))]
def made (l : List Nat) : List (Int × Int) := (l.take 20).foldl made1 [(0, 1)]
theorem climb_lt (h : GOK gs) {p : Nat} (hp : p < gs.length) : climb gs p < gs.length ∧ dep gs (climb gs p) < 4 := by
  unfold climb
  split
  · rename_i h4
    have h0 : 0 < p := by
      rcases Nat.eq_zero_or_pos p with rfl | h
      · simp [dep_zero] at h4
      · exact h
    obtain ⟨a, b⟩ := h.bef p h0 hp
    have := dep_succ h.bef h0 hp
    exact ⟨by omega, by omega⟩
  · have := dep_le h hp
    exact ⟨hp, by omega⟩
theorem mkW_ok {n : Nat} (h : n < 65536) : wB ((mkW n : Nat) : Int) = true := by
  unfold mkW wB
  split <;> simp <;> omega
theorem made1_ok (h : GOK gs) (hl : gs.length < 256) {n : Nat} (hn : n < 65536) : GOK (made1 gs n) ∧ (made1 gs n).length = gs.length + 1 ∧ dep (made1 gs n) gs.length = dep gs (climb gs (n % gs.length)) + 1 := by
  obtain ⟨h1, h2⟩ := climb_lt h (Nat.mod_lt n h.pos)
  obtain ⟨a, b⟩ := gok_app h h1 (mkW_ok hn) h2 hl
  exact ⟨a, by simp [made1], b⟩
theorem gok_root : GOK [(0, 1)] := ⟨by decide, rfl, fun g h0 hg => by simp at hg; omega⟩
theorem fold_ok : ∀ (l : List Nat) (gs : List (Int × Int)), GOK gs → gs.length + l.length ≤ 256 → (∀ n ∈ l, n < 65536) → GOK (l.foldl made1 gs) ∧ (l.foldl made1 gs).length = gs.length + l.length
  | [], gs, h, _, _ => ⟨h, rfl⟩
  | n :: l, gs, h, hl, hn => by
    simp only [List.length_cons] at hl
    obtain ⟨a, b, _⟩ := made1_ok h (by omega) (hn n (by simp))
    obtain ⟨c, d⟩ := fold_ok l (made1 gs n) a (by omega) (fun m hm => hn m (by simp [hm]))
    exact ⟨c, by rw [List.foldl_cons, d, b, List.length_cons]; omega⟩
theorem made_ok {l : List Nat} (hl : ∀ n ∈ l, n < 65536) : GOK (made l) ∧ (made l).length = 1 + min 20 l.length := by
  have := fold_ok (l.take 20) [(0, 1)] gok_root (by simp; omega) (fun n hn => hl n (List.mem_of_mem_take hn))
  rw [List.length_take] at this
  exact this
/-- The depths of all groups. -/
def depsL (gs : List (Int × Int)) : List Int := (List.range gs.length).map (fun i => (dep gs i : Int))
theorem depsL_app (h : Bef gs gs.length) (x : Int × Int) : depsL (gs ++ [x]) = depsL gs ++ [(dep (gs ++ [x]) gs.length : Int)] := by
  unfold depsL
  rw [List.length_append, List.length_singleton, List.range_succ, List.map_append]
  congr 1
  apply List.map_congr_left
  intro i hi
  rw [dep_app h x (List.mem_range.1 hi)]
theorem depsL_get {i : Nat} (hi : i < gs.length) : (depsL gs)[i]? = some (dep gs i : Int) := by simp [depsL, hi]
theorem depsL_len : (depsL gs).length = gs.length := by simp [depsL]
end
end Go.Proofs.Ytkkmmbmjpfecdaa

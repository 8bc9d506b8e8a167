/- The tree of groups in plain lists: a group is its Parent and its Weight; what the program's functions on groups compute. -/
import Derived.Test.YtkkmmbmjpfecdaaBase
namespace Go.Proofs.Ytkkmmbmjpfecdaa

def encG (g : Int × Int) : List Value := [.int .i64 g.1, .int .i64 g.2]
theorem encG_len (g : Int × Int) : (encG g).length = 2 := rfl
theorem encG_one (g : Int × Int) : ∀ u ∈ encG g, u.oneCell' = true := by intro u hu; simp [encG] at hu; rcases hu with rfl | rfl <;> rfl
theorem ER.grp {w : World} {b off : Nat} {gs : List (Int × Int)} (h : ER encG 2 w b off gs) {i : Nat} {g : Int × Int} (hi : gs[i]? = some g) :
    w.cell? ⟨b, off + i * 2, none⟩ = some (.int .i64 g.1) ∧ w.cell? ⟨b, off + i * 2 + 1, none⟩ = some (.int .i64 g.2) :=
  ⟨by simpa using h i g hi 0 _ rfl, h i g hi 1 _ rfl⟩

section
variable {gs : List (Int × Int)}
def par (gs : List (Int × Int)) (i : Nat) : Int := (gs[i]?.getD (0, 0)).1
def wgt (gs : List (Int × Int)) (i : Nat) : Int := (gs[i]?.getD (0, 0)).2
theorem par_get {i : Nat} {g : Int × Int} (h : gs[i]? = some g) : par gs i = g.1 := by simp [par, h]
theorem wgt_get {i : Nat} {g : Int × Int} (h : gs[i]? = some g) : wgt gs i = g.2 := by simp [wgt, h]

/-- p is the way up from its first to the root. -/
def IsUp (gs : List (Int × Int)) (p : List Nat) : Prop :=
  ∀ k x, p[k]? = some x → x < gs.length ∧ (x = 0 → k + 1 = p.length) ∧ (0 < x → p[k + 1]? = some (par gs x).toNat ∧ 0 ≤ par gs x ∧ par gs x < x)

def upF (gs : List (Int × Int)) : Nat → Nat → List Nat
  | 0, g => [g]
  | f + 1, g => if g = 0 then [g] else g :: upF gs f (par gs g).toNat
theorem upF_succ (f g : Nat) : upF gs (f + 1) g = if g = 0 then [g] else g :: upF gs f (par gs g).toNat := rfl
/-- The path of a group. -/
def path (gs : List (Int × Int)) (g : Nat) : List Nat := upF gs g g
/-- Parents come before, below n. -/
def Bef (gs : List (Int × Int)) (n : Nat) : Prop := ∀ i, 0 < i → i < n → 0 ≤ par gs i ∧ par gs i < i
theorem Bef.mono {n m : Nat} (h : Bef gs n) (hm : m ≤ n) : Bef gs m := fun i h0 h1 => h i h0 (by omega)

theorem upF_eq {n : Nat} (h : Bef gs n) : ∀ g, g < n → ∀ f, g ≤ f → upF gs f g = path gs g := by
  intro g
  induction g using Nat.strongRecOn with
  | _ g ih =>
    intro hg f hf
    rcases Nat.eq_zero_or_pos g with rfl | h0
    · cases f <;> rfl
    · obtain ⟨g', rfl⟩ : ∃ g', g = g' + 1 := ⟨g - 1, by omega⟩
      obtain ⟨f', rfl⟩ : ∃ f', f = f' + 1 := ⟨f - 1, by omega⟩
      obtain ⟨h1, h2⟩ := h (g' + 1) h0 hg
      have hlt : (par gs (g' + 1)).toNat < g' + 1 := by omega
      unfold path
      rw [upF_succ, upF_succ, if_neg (by omega), if_neg (by omega), ih _ hlt (by omega) f' (by omega), ih _ hlt (by omega) g' (by omega)]
theorem path_zero : path gs 0 = [0] := rfl
theorem path_succ {n g : Nat} (h : Bef gs n) (h0 : 0 < g) (hg : g < n) : path gs g = g :: path gs (par gs g).toNat := by
  obtain ⟨g', rfl⟩ : ∃ g', g = g' + 1 := ⟨g - 1, by omega⟩
  obtain ⟨h1, h2⟩ := h (g' + 1) h0 hg
  unfold path
  rw [upF_succ, if_neg (by omega), upF_eq h _ (by omega) g' (by omega)]
  rfl
theorem path_head {n g : Nat} (h : Bef gs n) (hg : g < n) : (path gs g)[0]? = some g := by
  rcases Nat.eq_zero_or_pos g with rfl | h0
  · rfl
  · rw [path_succ h h0 hg]; rfl
theorem path_len_pos {n g : Nat} (h : Bef gs n) (hg : g < n) : 0 < (path gs g).length := (List.getElem?_eq_some_iff.1 (path_head h hg)).1
theorem path_le {n : Nat} (h : Bef gs n) : ∀ g, g < n → (path gs g).length ≤ g + 1 := by
  intro g
  induction g using Nat.strongRecOn with
  | _ g ih =>
    intro hg
    rcases Nat.eq_zero_or_pos g with rfl | h0
    · simp [path_zero]
    · obtain ⟨h1, h2⟩ := h g h0 hg
      rw [path_succ h h0 hg, List.length_cons]
      have := ih (par gs g).toNat (by omega) (by omega)
      omega
theorem path_up {n : Nat} (h : Bef gs n) (hn : n ≤ gs.length) : ∀ g, g < n → IsUp gs (path gs g) := by
  intro g
  induction g using Nat.strongRecOn with
  | _ g ih =>
    intro hg
    rcases Nat.eq_zero_or_pos g with rfl | h0
    · rw [path_zero]
      intro k x hx
      obtain rfl : k = 0 := by have := (List.getElem?_eq_some_iff.1 hx).1; simp at this; exact this
      simp at hx; subst hx
      exact ⟨by omega, fun _ => rfl, fun h => absurd h (by omega)⟩
    · obtain ⟨h1, h2⟩ := h g h0 hg
      have hlt : (par gs g).toNat < g := by omega
      rw [path_succ h h0 hg]
      intro k x hx
      cases k with
      | zero =>
        simp at hx; subst hx
        refine ⟨by omega, fun h => by omega, fun _ => ⟨?_, h1, h2⟩⟩
        simpa using path_head h (by omega)
      | succ k =>
        obtain ⟨a, b, c⟩ := ih _ hlt (by omega) k x (by simpa using hx)
        exact ⟨a, fun e => by rw [List.length_cons, b e], fun e => by simpa using c e⟩

/-- The depth of a group. -/
def dep (gs : List (Int × Int)) (g : Nat) : Nat := (path gs g).length - 1
theorem dep_zero : dep gs 0 = 0 := rfl
theorem dep_succ {n g : Nat} (h : Bef gs n) (h0 : 0 < g) (hg : g < n) : dep gs g = dep gs (par gs g).toNat + 1 := by
  obtain ⟨h1, h2⟩ := h g h0 hg
  have := path_len_pos h (g := (par gs g).toNat) (by omega)
  unfold dep
  rw [path_succ h h0 hg, List.length_cons]; omega

def wB (x : Int) : Bool := decide (1 ≤ x ∧ x ≤ 65536)

/-- Check, from group g on, f groups. -/
def chkF (gs : List (Int × Int)) : Nat → Nat → Int × Int
  | 0, _ => (-1, 0)
  | f + 1, g =>
    if par gs g < 0 ∨ (g : Int) ≤ par gs g then (g, 191)
    else if wB (wgt gs g) = false then (g, 192)
    else if 4 < dep gs g then (g, 193)
    else chkF gs f (g + 1)
def checkG (gs : List (Int × Int)) : Int × Int :=
  if 256 < gs.length then (-1, 5)
  else if gs[0]? ≠ some (0, 1) then (0, 190)
  else chkF gs (gs.length - 1) 1
def rightB (gs : List (Int × Int)) : Bool := (checkG gs).2 == 0

/-- Group g is right, if those before it are. -/
def Gr1 (gs : List (Int × Int)) (g : Nat) : Prop := 0 ≤ par gs g ∧ par gs g < g ∧ wB (wgt gs g) = true ∧ dep gs g ≤ 4
structure GOK (gs : List (Int × Int)) : Prop where
  many : gs.length ≤ 256
  root : gs[0]? = some (0, 1)
  each : ∀ g, 0 < g → g < gs.length → Gr1 gs g
theorem chkF_ok : ∀ f g, (chkF gs f g).2 = 0 ↔ ∀ i, g ≤ i → i < g + f → Gr1 gs i := by
  intro f
  induction f with
  | zero => intro g; simp [chkF]; omega
  | succ f ih =>
    intro g
    unfold chkF
    by_cases h1 : par gs g < 0 ∨ (g : Int) ≤ par gs g
    · rw [if_pos h1]
      simp only [show ((191 : Int) = 0) = False from by simp, false_iff]
      intro h
      obtain ⟨a, b, _⟩ := h g (Nat.le_refl _) (by omega)
      omega
    · rw [if_neg h1]
      by_cases h2 : wB (wgt gs g) = false
      · rw [if_pos h2]
        simp only [show ((192 : Int) = 0) = False from by simp, false_iff]
        intro h
        obtain ⟨_, _, c, _⟩ := h g (Nat.le_refl _) (by omega)
        rw [h2] at c; cases c
      · rw [if_neg h2]
        by_cases h3 : 4 < dep gs g
        · rw [if_pos h3]
          simp only [show ((193 : Int) = 0) = False from by simp, false_iff]
          intro h
          obtain ⟨_, _, _, d⟩ := h g (Nat.le_refl _) (by omega)
          omega
        · rw [if_neg h3, ih]
          constructor
          · intro h i hi hi2
            rcases Nat.eq_or_lt_of_le hi with rfl | hlt
            · exact ⟨by omega, by omega, by simpa using h2, by omega⟩
            · exact h i (by omega) (by omega)
          · intro h i hi hi2
            exact h i (by omega) (by omega)
theorem right_iff : rightB gs = true ↔ GOK gs := by
  unfold rightB checkG
  by_cases h1 : 256 < gs.length
  · rw [if_pos h1]
    constructor
    · intro h; simp at h
    · intro h; have := h.many; omega
  · rw [if_neg h1]
    by_cases h2 : gs[0]? ≠ some (0, 1)
    · rw [if_pos h2]
      constructor
      · intro h; simp at h
      · intro h; exact absurd h.root h2
    · rw [if_neg h2]
      have h2' := Decidable.not_not.1 h2
      have hl := (List.getElem?_eq_some_iff.1 h2').1
      rw [beq_iff_eq, chkF_ok]
      constructor
      · intro h; exact ⟨by omega, h2', fun g h0 hg => h g h0 (by omega)⟩
      · intro h g hg hg2; exact h.each g hg (by omega)
theorem GOK.bef (h : GOK gs) : Bef gs gs.length := fun i h0 h1 => ⟨(h.each i h0 h1).1, (h.each i h0 h1).2.1⟩
theorem GOK.pos (h : GOK gs) : 0 < gs.length := (List.getElem?_eq_some_iff.1 h.root).1
theorem dep_le (h : GOK gs) {g : Nat} (hg : g < gs.length) : dep gs g ≤ 4 := by
  rcases Nat.eq_zero_or_pos g with rfl | h0
  · simp [dep_zero]
  · exact (h.each g h0 hg).2.2.2
end
end Go.Proofs.Ytkkmmbmjpfecdaa

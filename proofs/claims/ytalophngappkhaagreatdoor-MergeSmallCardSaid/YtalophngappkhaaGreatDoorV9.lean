/- Slices of pairs of ints, read as lists; slices.Equal and slices.Clone at them | Sets of numbers as lists of runs, in plain lists: right sets, what they have, that a right set is known by what it has; the borders of two sets, and what is made of them. -/
import Derived.Test.YtalophngappkhaaGreatDoorV3
import Derived.Test.YtalophngappkhaaGreatDoorV4
import Derived.Test.YtalophngappkhaaGreatDoorV1
set_option linter.unusedVariables false
set_option linter.unusedSimpArgs false
set_option linter.unusedSectionVars false
namespace Go.Proofs.YtalophngappkhaaGreatDoor
open Go Go.RowKit Go.Shelf

def encP (g : Int × Int) : List Value := [.int .i64 g.1, .int .i64 g.2]
theorem encP_len (g : Int × Int) : (encP g).length = 2 := rfl
theorem encP_one (g : Int × Int) : ∀ u ∈ encP g, u.oneCell' = true := by intro u hu; simp [encP] at hu; rcases hu with rfl | rfl <;> rfl
theorem ER.prs {w : World} {b off : Nat} {gs : List (Int × Int)} (h : ER encP 2 w b off gs) {i : Nat} {g : Int × Int} (hi : gs[i]? = some g) :
  w.cell? ⟨b, off + i * 2, none⟩ = some (.int .i64 g.1) ∧ w.cell? ⟨b, off + i * 2 + 1, none⟩ = some (.int .i64 g.2) :=
 ⟨by simpa using h i g hi 0 _ rfl, h i g hi 1 _ rfl⟩
theorem new_one {w : World} {z : Int} {e : TypeId} : EV encI 1 (w.alloc (.cells #[.int .i64 z] e)) (.slice (some ⟨w.heap.size, 0, none⟩) 1 1) [z] := EV.new1 rfl (Nat.le_refl _)
theorem new_pair {w : World} {p q : Int} {e : TypeId} : EV encP 2 (w.alloc (.cells #[.int .i64 p, .int .i64 q] e)) (.slice (some ⟨w.heap.size, 0, none⟩) 1 1) [(p, q)] := EV.new1 rfl (Nat.le_refl _)
theorem flat_set_snd : ∀ (gs : List (Int × Int)) (i : Nat) (p q u : Int), gs[i]? = some (p, q) → (gs.flatMap encP).set (i * 2 + 1) (.int .i64 u) = (gs.set i (p, u)).flatMap encP := by
 intro gs
 induction gs with
 | nil => intro i p q u h; simp at h
 | cons x r ih =>
  intro i p q u h
  cases i with
  | zero => simp at h; subst h; simp [encP]
  | succ i =>
   have := ih i p q u (by simpa using h)
   rw [show (i + 1) * 2 + 1 = i * 2 + 1 + 1 + 1 by omega]
   simp only [List.flatMap_cons, encP, List.cons_append, List.nil_append, List.set_cons_succ]
   rw [this]
theorem OV.setW {e : TypeId} {base g n cap i : Nat} {w : World} {gs : List (Int × Int)} {p q : Int} (h : OV encP 2 e base w (.slice (some ⟨g, 0, none⟩) n cap) gs) (hn : gs.length = n) (hi : gs[i]? = some (p, q)) (u : Int) :
  OV encP 2 e base (w.setCell ⟨g, i * 2 + 1, none⟩ (.int .i64 u)) (.slice (some ⟨g, 0, none⟩) n cap) (gs.set i (p, u)) ∧ w.grownBy (w.setCell ⟨g, i * 2 + 1, none⟩ (.int .i64 u)) (some g) := by
 subst hn
 obtain ⟨h1, h2⟩ := World.ownsRow.stored h (i * 2 + 1) (.int .i64 u)
 refine ⟨?_, h2⟩
 unfold OV
 rw [← flat_set_snd gs i p q u hi, List.length_set]
 exact h1
theorem elemR : ElemT Tryz.prog 35 34 2 16 := ⟨Tryz.underlying35, by
 have h : (Tryz.prog.info? 34).map (fun i => (i.zero, i.size, i.bytes)) = some (some (.agg #[.int .i64 0, .int .i64 0]), 2, 16) := by kernel_rfl
 obtain ⟨i, h1, h2, h3, h4⟩ := info_parts h
 exact ⟨i, _, h1, h2, h3, h4, rfl⟩, by omega, by omega⟩
theorem elemQ : ElemT Tryz.prog 89 137 2 16 := ⟨Tryz.underlying89, by
 have h : (Tryz.prog.info? 137).map (fun i => (i.zero, i.size, i.bytes)) = some (some (.agg #[.int .i64 0, .int .i64 0]), 2, 16) := by kernel_rfl
 obtain ⟨i, h1, h2, h3, h4⟩ := info_parts h
 exact ⟨i, _, h1, h2, h3, h4, rfl⟩, by omega, by omega⟩
end Go.Proofs.YtalophngappkhaaGreatDoor
namespace Go.Proofs.YtalophngappkhaaGreatDoor

def nxt (r : Int × Int) : Int := r.1 + r.2
def rokB (r : Int × Int) : Bool := decide (1 ≤ r.1 ∧ r.1 ≤ 281474976710656 ∧ 1 ≤ r.2 ∧ r.2 ≤ 281474976710657 - r.1)
def canB : Int → List (Int × Int) → Bool
 | _, [] => true
 | lo, r :: l => (decide (lo < r.1) && rokB r) && canB (nxt r) l
def rightB (l : List (Int × Int)) : Bool := decide (l.length ≤ 65536) && canB 0 l
def hasR (l : List (Int × Int)) (n : Int) : Bool := l.any (fun r => decide (r.1 ≤ n ∧ n < nxt r))
def endR : Int → List (Int × Int) → Int
 | lo, [] => lo
 | _, r :: l => endR (nxt r) l
/-- A right set, all of it beyond lo (whatever its length). -/
def Can (lo : Int) (l : List (Int × Int)) : Prop := canB lo l = true

theorem rok_iff {r : Int × Int} : rokB r = true ↔ 1 ≤ r.1 ∧ r.1 ≤ 281474976710656 ∧ 1 ≤ r.2 ∧ r.2 ≤ 281474976710657 - r.1 := by unfold rokB; simp
theorem can_nil (lo : Int) : Can lo [] := rfl
theorem can_cons {lo : Int} {r : Int × Int} {l : List (Int × Int)} : Can lo (r :: l) ↔ lo < r.1 ∧ rokB r = true ∧ Can (nxt r) l := by
 unfold Can
 simp [canB, and_assoc]
theorem right_iff {l : List (Int × Int)} : rightB l = true ↔ l.length ≤ 65536 ∧ Can 0 l := by unfold rightB Can; simp
theorem hasR_nil (n : Int) : hasR [] n = false := rfl
theorem hasR_cons (r : Int × Int) (l : List (Int × Int)) (n : Int) : hasR (r :: l) n = (decide (r.1 ≤ n ∧ n < nxt r) || hasR l n) := rfl
theorem hasR_append (a b : List (Int × Int)) (n : Int) : hasR (a ++ b) n = (hasR a n || hasR b n) := by simp [hasR, List.any_append]
theorem nxt_gt {r : Int × Int} (h : rokB r = true) : r.1 < nxt r ∧ 1 ≤ r.1 ∧ nxt r ≤ 281474976710657 := by
 have := rok_iff.1 h; unfold nxt; omega
theorem has_lo {lo : Int} : ∀ {l : List (Int × Int)}, Can lo l → ∀ {n : Int}, n ≤ lo → hasR l n = false
 | [], _, _, _ => rfl
 | r :: l, h, n, hn => by
  obtain ⟨a, b, c⟩ := can_cons.1 h
  have := nxt_gt b
  rw [hasR_cons, has_lo c (by omega)]
  simp; omega
theorem has_head {r : Int × Int} {l : List (Int × Int)} {lo : Int} (h : Can lo (r :: l)) {n : Int} (hn : n < r.1) : hasR (r :: l) n = false := by
 obtain ⟨a, b, c⟩ := can_cons.1 h
 have := nxt_gt b
 rw [hasR_cons, has_lo c (by omega)]
 simp; omega
/-- A right set is known by what it has. -/
theorem can_unique : ∀ {a b : List (Int × Int)} {lo lo' : Int}, Can lo a → Can lo' b → (∀ n, hasR a n = hasR b n) → a = b
 | [], [], _, _, _, _, _ => rfl
 | [], s :: b, _, _, _, hb, h => by
  obtain ⟨_, k, _⟩ := can_cons.1 hb
  have := nxt_gt k
  have h1 := h s.1
  rw [hasR_cons, hasR_nil] at h1
  simp at h1; omega
 | r :: a, [], _, _, ha, _, h => by
  obtain ⟨_, k, _⟩ := can_cons.1 ha
  have := nxt_gt k
  have h1 := h r.1
  rw [hasR_cons, hasR_nil] at h1
  simp at h1; omega
 | r :: a, s :: b, _, _, ha, hb, h => by
  obtain ⟨a1, a2, a3⟩ := can_cons.1 ha
  obtain ⟨b1, b2, b3⟩ := can_cons.1 hb
  have hr := nxt_gt a2
  have hs := nxt_gt b2
  have e1 : r.1 = s.1 := by
   rcases Int.lt_trichotomy r.1 s.1 with hlt | he | hlt
   ·have h1 := h r.1
    rw [has_head hb hlt, hasR_cons] at h1
    simp at h1; omega
   ·exact he
   ·have h1 := h s.1
    rw [has_head ha hlt, hasR_cons] at h1
    simp at h1; omega
  have e2 : nxt r = nxt s := by
   rcases Int.lt_trichotomy (nxt r) (nxt s) with hlt | he | hlt
   ·have h1 := h (nxt r)
    rw [hasR_cons, hasR_cons, has_lo a3 (Int.le_refl _)] at h1
    have : decide (s.1 ≤ nxt r ∧ nxt r < nxt s) = true := by simp; omega
    rw [this] at h1
    simp at h1
   ·exact he
   ·have h1 := h (nxt s)
    rw [hasR_cons, hasR_cons, has_lo b3 (Int.le_refl _)] at h1
    have : decide (r.1 ≤ nxt s ∧ nxt s < nxt r) = true := by simp; omega
    rw [this] at h1
    simp at h1
  have e : r = s := by
   unfold nxt at e2
   exact Prod.ext e1 (by omega)
  subst e
  have ht : ∀ n, hasR a n = hasR b n := fun n => by
   have h1 := h n
   rw [hasR_cons, hasR_cons] at h1
   cases hd : decide (r.1 ≤ n ∧ n < nxt r) with
   | true =>
    have := of_decide_eq_true hd
    rw [has_lo a3 (by omega), has_lo b3 (by omega)]
   | false => rw [hd] at h1; simpa using h1
  rw [can_unique a3 b3 ht]

theorem endR_append (lo : Int) : ∀ (l : List (Int × Int)) (r : Int × Int), endR lo (l ++ [r]) = nxt r
 | [], _ => rfl
 | s :: l, r => by simp only [List.cons_append, endR]; exact endR_append (nxt s) l r
theorem can_snoc {r : Int × Int} : ∀ {l : List (Int × Int)} {lo : Int}, Can lo (l ++ [r]) ↔ Can lo l ∧ endR lo l < r.1 ∧ rokB r = true
 | [], lo => by simp only [List.nil_append, can_cons]; exact ⟨fun ⟨a, b, _⟩ => ⟨can_nil _, a, b⟩, fun ⟨_, a, b⟩ => ⟨a, b, can_nil _⟩⟩
 | s :: l, lo => by
  simp only [List.cons_append, can_cons, endR]
  rw [can_snoc]
  exact ⟨fun ⟨a, b, c, d, e⟩ => ⟨⟨a, b, c⟩, d, e⟩, fun ⟨⟨a, b, c⟩, d, e⟩ => ⟨a, b, c, d, e⟩⟩
theorem can_prefix {b : List (Int × Int)} : ∀ {a : List (Int × Int)} {lo : Int}, Can lo (a ++ b) → Can lo a
 | [], _, _ => can_nil _
 | r :: a, lo, h => by
  simp only [List.cons_append] at h
  obtain ⟨x, y, z⟩ := can_cons.1 h
  exact can_cons.2 ⟨x, y, can_prefix z⟩
theorem end_ge : ∀ {l : List (Int × Int)} {lo : Int}, Can lo l → lo ≤ endR lo l
 | [], _, _ => Int.le_refl _
 | r :: l, lo, h => by
  obtain ⟨a, b, c⟩ := can_cons.1 h
  have := end_ge c
  have := nxt_gt b
  simp only [endR]; omega
theorem has_end : ∀ {l : List (Int × Int)} {lo : Int}, Can lo l → ∀ {n : Int}, endR lo l ≤ n → hasR l n = false
 | [], _, _, _, _ => rfl
 | r :: l, lo, h, n, hn => by
  obtain ⟨a, b, c⟩ := can_cons.1 h
  simp only [endR] at hn
  rw [hasR_cons, has_end c hn]
  have : nxt r ≤ endR (nxt r) l := end_ge c
  simp; omega
/-- How many numbers. -/
def cntR : List (Int × Int) → Int
 | [] => 0
 | r :: l => r.2 + cntR l
theorem cnt_le {lo : Int} : ∀ {l : List (Int × Int)}, Can lo l → 0 ≤ cntR l ∧ cntR l ≤ endR lo l - lo
 | [], _ => by simp [cntR, endR]
 | r :: l, h => by
  obtain ⟨a, b, c⟩ := can_cons.1 h
  have h1 := cnt_le c
  have h2 := rok_iff.1 b
  simp only [cntR, endR]
  unfold nxt at *
  omega

/-- A run behind all others of a set, or added to its last one. -/
def addR : List (Int × Int) → Int × Int → List (Int × Int)
 | [], r => [r]
 | [s], r => if nxt s = r.1 then [(s.1, s.2 + r.2)] else [s, r]
 | s :: t :: l, r => s :: addR (t :: l) r
theorem addR_snoc (s r : Int × Int) : ∀ l : List (Int × Int), addR (l ++ [s]) r = if nxt s = r.1 then l ++ [(s.1, s.2 + r.2)] else l ++ [s] ++ [r]
 | [] => by simp only [List.nil_append, addR]; split <;> rfl
 | [x] => by simp only [List.cons_append, List.nil_append, addR]; split <;> rfl
 | x :: y :: l => by
  have := addR_snoc s r (y :: l)
  simp only [List.cons_append] at this ⊢
  rw [addR, this]
  split <;> rfl
theorem addR_len (l : List (Int × Int)) (r : Int × Int) : (addR l r).length ≤ l.length + 1 := by
 rcases List.eq_nil_or_concat l with rfl | ⟨l', s, rfl⟩
 ·simp [addR]
 ·rw [List.concat_eq_append, addR_snoc]; split <;> simp
theorem addR_spec {l : List (Int × Int)} (h : Can 0 l) {p c : Int} (he : endR 0 l ≤ p) (h1 : 1 ≤ p) (h2 : 1 ≤ c) (h3 : p + c ≤ 281474976710657) :
  Can 0 (addR l (p, c)) ∧ endR 0 (addR l (p, c)) = p + c ∧ ∀ n, hasR (addR l (p, c)) n = (hasR l n || decide (p ≤ n ∧ n < p + c)) := by
 rcases List.eq_nil_or_concat l with rfl | ⟨l', s, rfl⟩
 ·refine ⟨can_cons.2 ⟨by show 0 < p; omega, rok_iff.2 ⟨h1, by show p ≤ _; omega, h2, by show c ≤ _ - p; omega⟩, can_nil _⟩, rfl, fun n => ?_⟩
  rw [hasR_nil, Bool.false_or]
  simp only [addR, hasR_cons, hasR_nil, Bool.or_false]; rfl
 ·rw [List.concat_eq_append] at *
  obtain ⟨c1, c2, c3⟩ := can_snoc.1 h
  rw [endR_append] at he
  have hs := rok_iff.1 c3
  rw [addR_snoc]
  by_cases hn : nxt s = p
  ·rw [if_pos hn]
   have hn' : s.1 + s.2 = p := hn
   refine ⟨can_snoc.2 ⟨c1, c2, rok_iff.2 ⟨hs.1, hs.2.1, by show 1 ≤ s.2 + c; omega, by show s.2 + c ≤ _ - s.1; omega⟩⟩, by rw [endR_append]; show s.1 + (s.2 + c) = _; omega, fun n => ?_⟩
   rw [hasR_append, hasR_append, hasR_cons, hasR_cons, hasR_nil, Bool.or_false, Bool.or_false, Bool.or_assoc]
   congr 1
   show (decide (s.1 ≤ n ∧ n < s.1 + (s.2 + c))) = (decide (s.1 ≤ n ∧ n < s.1 + s.2) || decide (p ≤ n ∧ n < p + c))
   rw [Bool.eq_iff_iff]
   simp only [decide_eq_true_eq, Bool.or_eq_true]
   omega
  ·rw [if_neg hn]
   have : nxt s ≠ p := hn
   refine ⟨can_snoc.2 ⟨h, by rw [endR_append]; show nxt s < p; omega, rok_iff.2 ⟨h1, by show p ≤ _; omega, h2, by show c ≤ _ - p; omega⟩⟩, by rw [endR_append]; rfl, fun n => ?_⟩
   rw [hasR_append, hasR_cons, hasR_nil, Bool.or_false]; rfl

/-! ### The borders of two sets -/
def edg : List (Int × Int) → Bool → Int
 | [], _ => 281474976710658
 | r :: _, b => if b then nxt r else r.1
def togL : List (Int × Int) → Bool → Int → List (Int × Int)
 | [], _, _ => []
 | r :: l, b, q => if b = true ∧ nxt r = q then l else r :: l
def togB : List (Int × Int) → Bool → Int → Bool
 | [], b, _ => b
 | r :: _, b, q => if b then !decide (nxt r = q) else decide (r.1 = q)
structure St where
 A : List (Int × Int)
 a : Bool
 B : List (Int × Int)
 b : Bool
def St.q (s : St) : Int := min (edg s.A s.a) (edg s.B s.b)
def St.step (s : St) : St := ⟨togL s.A s.a s.q, togB s.A s.a s.q, togL s.B s.b s.q, togB s.B s.b s.q⟩
def St.emp (s : St) : Bool := s.A.isEmpty && s.B.isEmpty
def St.it (s : St) : Nat → St
 | 0 => s
 | k + 1 => (s.it k).step
/-- One side is as it should be at p: what is left of a set, and whether it has p. -/
def Side (A : List (Int × Int)) (a : Bool) (p : Int) : Prop :=
 if a then ∃ r l, A = r :: l ∧ r.1 ≤ p ∧ p < nxt r ∧ rokB r = true ∧ Can (nxt r) l else Can p A
def sideHas (A : List (Int × Int)) (a : Bool) (n : Int) : Bool :=
 if a then (match A with | [] => false | r :: l => decide (n < nxt r) || hasR l n) else hasR A n
def mea (A : List (Int × Int)) (a : Bool) : Nat := 2 * A.length - (if a then 1 else 0)
theorem edg_gt {A : List (Int × Int)} {a : Bool} {p : Int} (h : Side A a p) (hp : p ≤ 281474976710657) : p < edg A a ∧ (A ≠ [] → edg A a ≤ 281474976710657) := by
 unfold Side at h
 cases a with
 | true =>
  obtain ⟨r, l, rfl, h1, h2, h3, h4⟩ := h
  have := nxt_gt h3
  simp [edg]; omega
 | false =>
  cases A with
  | nil => simp [edg]; omega
  | cons r l =>
   obtain ⟨h1, h2, h3⟩ := can_cons.1 h
   have := nxt_gt h2
   simp [edg]; omega
theorem side_step {A : List (Int × Int)} {a : Bool} {p q : Int} (h : Side A a p) (hp : p < q) (hq : q ≤ edg A a) :
  Side (togL A a q) (togB A a q) q ∧ (∀ n, q ≤ n → sideHas A a n = sideHas (togL A a q) (togB A a q) n) ∧ (∀ n, p ≤ n → n < q → sideHas A a n = a) ∧
  (edg A a = q → A ≠ [] → mea (togL A a q) (togB A a q) < mea A a) ∧ mea (togL A a q) (togB A a q) ≤ mea A a := by
 unfold Side at h
 cases a with
 | true =>
  obtain ⟨r, l, rfl, h1, h2, h3, h4⟩ := h
  have hr := nxt_gt h3
  simp only [edg, if_true] at hq
  by_cases he : nxt r = q
  ·have e1 : togL (r :: l) true q = l := by simp [togL, he]
   have e2 : togB (r :: l) true q = false := by simp [togB, he]
   rw [e1, e2]
   refine ⟨he ▸ h4, fun n hn => ?_, fun n h5 h6 => ?_, fun _ _ => by simp [mea]; omega, by simp [mea]; omega⟩
   ·simp only [sideHas, if_true, Bool.false_eq_true, if_false]
    rw [show decide (n < nxt r) = false from by simp; omega, Bool.false_or]
   ·simp only [sideHas, if_true]
    rw [show decide (n < nxt r) = true from by simp; omega, Bool.true_or]
  ·have e1 : togL (r :: l) true q = r :: l := by simp [togL, he]
   have e2 : togB (r :: l) true q = true := by simp [togB, he]
   rw [e1, e2]
   refine ⟨⟨r, l, rfl, by omega, by omega, h3, h4⟩, fun n hn => rfl, fun n h5 h6 => ?_, fun h => absurd h he, Nat.le_refl _⟩
   simp only [sideHas, if_true]
   rw [show decide (n < nxt r) = true from by simp; omega, Bool.true_or]
 | false =>
  cases A with
  | nil =>
   exact ⟨can_nil _, fun n hn => rfl, fun n h5 h6 => rfl, fun _ h => absurd rfl h, Nat.le_refl _⟩
  | cons r l =>
   obtain ⟨h1, h2, h3⟩ := can_cons.1 h
   have hr := nxt_gt h2
   simp only [edg, Bool.false_eq_true, if_false] at hq
   have e1 : togL (r :: l) false q = r :: l := by simp [togL]
   by_cases he : r.1 = q
   ·have e2 : togB (r :: l) false q = true := by simp [togB, he]
    rw [e1, e2]
    refine ⟨⟨r, l, rfl, by omega, by omega, h2, h3⟩, fun n hn => ?_, fun n h5 h6 => ?_, fun _ _ => by simp [mea]; omega, by simp [mea]⟩
    ·simp only [sideHas, Bool.false_eq_true, if_false, if_true, hasR_cons]
     congr 1
     rw [Bool.eq_iff_iff]; simp; omega
    ·simp only [sideHas, Bool.false_eq_true, if_false]
     exact has_head h (by omega)
   ·have e2 : togB (r :: l) false q = false := by simp [togB, he]
    rw [e1, e2]
    refine ⟨can_cons.2 ⟨by omega, h2, h3⟩, fun n hn => rfl, fun n h5 h6 => ?_, fun h => absurd (by simpa [edg] using h) he, Nat.le_refl _⟩
    simp only [sideHas, Bool.false_eq_true, if_false]
    exact has_head h (by omega)
def St.Ok (s : St) (p : Int) : Prop := Side s.A s.a p ∧ Side s.B s.b p
def St.m (s : St) : Nat := mea s.A s.a + mea s.B s.b
theorem St.q_cases (s : St) : (s.q = edg s.A s.a ∧ s.q ≤ edg s.B s.b) ∨ (s.q = edg s.B s.b ∧ s.q ≤ edg s.A s.a) := by unfold St.q; omega
theorem St.q_gt {s : St} {p : Int} (h : s.Ok p) (hp : p ≤ 281474976710657) (he : s.emp = false) : p < s.q ∧ s.q ≤ 281474976710657 := by
 have h1 := edg_gt h.1 hp
 have h2 := edg_gt h.2 hp
 have hne : s.A ≠ [] ∨ s.B ≠ [] := by
  unfold St.emp at he
  cases hA : s.A with
  | nil => cases hB : s.B with
   | nil => rw [hA, hB] at he; simp at he
   | cons r l => exact .inr (by simp)
  | cons r l => exact .inl (by simp)
 unfold St.q
 refine ⟨by omega, ?_⟩
 rcases hne with h | h
 ·have := h1.2 h; omega
 ·have := h2.2 h; omega
theorem St.step_ok {s : St} {p : Int} (h : s.Ok p) (hp : p ≤ 281474976710657) (he : s.emp = false) : s.step.Ok s.q ∧ s.step.m < s.m ∧
  (∀ n, s.q ≤ n → sideHas s.A s.a n = sideHas s.step.A s.step.a n ∧ sideHas s.B s.b n = sideHas s.step.B s.step.b n) ∧ (∀ n, p ≤ n → n < s.q → sideHas s.A s.a n = s.a ∧ sideHas s.B s.b n = s.b) := by
 obtain ⟨q1, q2⟩ := St.q_gt h hp he
 have hc := s.q_cases
 obtain ⟨a1, a2, a3, a4, a5⟩ := side_step h.1 q1 (by omega : s.q ≤ edg s.A s.a)
 obtain ⟨b1, b2, b3, b4, b5⟩ := side_step h.2 q1 (by omega : s.q ≤ edg s.B s.b)
 refine ⟨⟨a1, b1⟩, ?_, fun n hn => ⟨a2 n hn, b2 n hn⟩, fun n h1 h2 => ⟨a3 n h1 h2, b3 n h1 h2⟩⟩
 show mea (togL s.A s.a s.q) (togB s.A s.a s.q) + mea (togL s.B s.b s.q) (togB s.B s.b s.q) < mea s.A s.a + mea s.B s.b
 rcases hc with ⟨h1, _⟩ | ⟨h1, _⟩
 ·have hA : s.A ≠ [] := fun e => by rw [e] at h1; simp [edg] at h1; omega
  have := a4 h1.symm hA; omega
 ·have hB : s.B ≠ [] := fun e => by rw [e] at h1; simp [edg] at h1; omega
  have := b4 h1.symm hB; omega
theorem St.emp_m {s : St} {p : Int} (h : s.Ok p) (he : s.emp = true) : s = ⟨[], false, [], false⟩ := by
 unfold St.emp at he
 simp at he
 obtain ⟨A, a, B, b⟩ := s
 obtain ⟨h1, h2⟩ := he
 dsimp only at h1 h2
 subst h1; subst h2
 obtain ⟨h3, h4⟩ := h
 cases a with
 | true => obtain ⟨r, l, hr, _⟩ := h3; cases hr
 | false => cases b with
  | true => obtain ⟨r, l, hr, _⟩ := h4; cases hr
  | false => rfl
def St.cnt : Nat → St → Nat
 | 0, _ => 0
 | f + 1, s => if s.emp then 0 else s.step.cnt f + 1
theorem St.it_succ' (s : St) : ∀ k, s.it (k + 1) = s.step.it k
 | 0 => rfl
 | k + 1 => by show (s.it (k + 1)).step = (s.step.it k).step; rw [St.it_succ' s k]
theorem St.cnt_spec : ∀ (f : Nat) (s : St) (p : Int), s.Ok p → p ≤ 281474976710657 → s.m ≤ f → (s.it (s.cnt f)).emp = true ∧ (∀ k, k < s.cnt f → (s.it k).emp = false) ∧ s.cnt f ≤ s.m
 | 0, s, p, h, hp, hm => by
  cases he : s.emp with
  | true => exact ⟨he, fun k hk => absurd hk (Nat.not_lt_zero _), Nat.zero_le _⟩
  | false => have := (St.step_ok h hp he).2.1; omega
 | f + 1, s, p, h, hp, hm => by
  unfold St.cnt
  cases he : s.emp with
  | true => simp only [if_true]; exact ⟨he, fun k hk => absurd hk (Nat.not_lt_zero _), Nat.zero_le _⟩
  | false =>
   obtain ⟨h1, h2, _, _⟩ := St.step_ok h hp he
   obtain ⟨i1, i2, i3⟩ := St.cnt_spec f s.step s.q h1 (St.q_gt h hp he).2 (by omega)
   simp only [Bool.false_eq_true, if_false]
   refine ⟨by rw [St.it_succ']; exact i1, fun k hk => ?_, by omega⟩
   cases k with
   | zero => exact he
   | succ k => rw [St.it_succ']; exact i2 k (by omega)

/-! ### What is made of two sets -/
structure Bo where
 out : List (Int × Int)
 from_ : Int
 tk : Bool
def boStep (take : Bool → Bool → Bool) (o : Bo) (q : Int) (a b : Bool) : Bo := ⟨if o.tk then addR o.out (o.from_, q - o.from_) else o.out, q, take a b⟩
def boIt (take : Bool → Bool → Bool) (s : St) : Nat → Bo
 | 0 => ⟨[], 0, false⟩
 | k + 1 => boStep take (boIt take s k) (s.it k).q (s.it (k + 1)).a (s.it (k + 1)).b
def st0 (a b : List (Int × Int)) : St := ⟨a, false, b, false⟩
def boN (a b : List (Int × Int)) : Nat := (st0 a b).cnt (2 * a.length + 2 * b.length)
def bothL (take : Bool → Bool → Bool) (a b : List (Int × Int)) : List (Int × Int) := (boIt take (st0 a b) (boN a b)).out
section
variable {take : Bool → Bool → Bool} {a b : List (Int × Int)}
/-- Where k borders have been told. -/
structure BoOk (take : Bool → Bool → Bool) (a b : List (Int × Int)) (s : St) (o : Bo) : Prop where
 ok : s.Ok o.from_
 hi : o.from_ ≤ 281474976710657
 lo : 0 ≤ o.from_
 sides : ∀ n, o.from_ ≤ n → hasR a n = sideHas s.A s.a n ∧ hasR b n = sideHas s.B s.b n
 can : Can 0 o.out
 ends : endR 0 o.out ≤ o.from_
 says : ∀ n, n < o.from_ → hasR o.out n = take (hasR a n) (hasR b n)
 tk : o.tk = take s.a s.b
theorem side_pos {A : List (Int × Int)} {p : Int} (h : Side A true p) : 1 ≤ p := by
 obtain ⟨r, l, _, h1, _, h3, _⟩ := h
 have := nxt_gt h3; omega
theorem BoOk.step (ht : take false false = false) {s : St} {o : Bo} (h : BoOk take a b s o) (he : s.emp = false) : BoOk take a b s.step (boStep take o s.q s.step.a s.step.b) := by
 obtain ⟨s1, s2, s3, s4⟩ := St.step_ok h.ok h.hi he
 obtain ⟨q1, q2⟩ := St.q_gt h.ok h.hi he
 have mid : ∀ n, o.from_ ≤ n → n < s.q → take (hasR a n) (hasR b n) = o.tk := fun n h1 h2 => by
  obtain ⟨x, y⟩ := h.sides n h1
  obtain ⟨z, w⟩ := s4 n h1 h2
  rw [x, y, z, w, h.tk]
 cases htk : o.tk with
 | false =>
  have e : boStep take o s.q s.step.a s.step.b = ⟨o.out, s.q, take s.step.a s.step.b⟩ := by unfold boStep; rw [htk]; rfl
  rw [e]
  refine ⟨s1, q2, by have := h.lo; show 0 ≤ s.q; omega, fun n hn => ?_, h.can, by have := h.ends; show endR 0 o.out ≤ s.q; omega, fun n hn => ?_, rfl⟩
  ·have hn' : s.q ≤ n := hn
   obtain ⟨x, y⟩ := h.sides n (by omega)
   obtain ⟨z, w⟩ := s3 n hn'
   exact ⟨x.trans z, y.trans w⟩
  ·have hn' : n < s.q := hn
   by_cases hf : n < o.from_
   ·exact h.says n hf
   ·rw [mid n (by omega) hn', htk]
    exact has_end h.can (by have := h.ends; omega)
 | true =>
  have e : boStep take o s.q s.step.a s.step.b = ⟨addR o.out (o.from_, s.q - o.from_), s.q, take s.step.a s.step.b⟩ := by unfold boStep; rw [htk]; rfl
  rw [e]
  have hp : 1 ≤ o.from_ := by
   have h1 := h.tk
   rw [htk] at h1
   cases ha : s.a with
   | true => have := h.ok.1; rw [ha] at this; exact side_pos this
   | false => cases hb : s.b with
    | true => have := h.ok.2; rw [hb] at this; exact side_pos this
    | false => rw [ha, hb, ht] at h1; cases h1
  obtain ⟨r1, r2, r3⟩ := addR_spec h.can h.ends hp (c := s.q - o.from_) (by omega) (by omega)
  refine ⟨s1, q2, by show 0 ≤ s.q; omega, fun n hn => ?_, r1, by show endR 0 _ ≤ s.q; rw [r2]; omega, fun n hn => ?_, rfl⟩
  ·have hn' : s.q ≤ n := hn
   obtain ⟨x, y⟩ := h.sides n (by omega)
   obtain ⟨z, w⟩ := s3 n hn'
   exact ⟨x.trans z, y.trans w⟩
  ·have hn' : n < s.q := hn
   show hasR (addR o.out (o.from_, s.q - o.from_)) n = _
   rw [r3 n]
   by_cases hf : n < o.from_
   ·rw [h.says n hf, show decide (o.from_ ≤ n ∧ n < o.from_ + (s.q - o.from_)) = false from by simp; omega, Bool.or_false]
   ·rw [mid n (by omega) hn', htk, show decide (o.from_ ≤ n ∧ n < o.from_ + (s.q - o.from_)) = true from by simp; omega, Bool.or_true]
theorem st0_ok (ha : Can 0 a) (hb : Can 0 b) : (st0 a b).Ok 0 ∧ (st0 a b).m = 2 * a.length + 2 * b.length := by
 refine ⟨⟨ha, hb⟩, ?_⟩
 simp [St.m, st0, mea]
theorem boN_spec (ha : Can 0 a) (hb : Can 0 b) : ((st0 a b).it (boN a b)).emp = true ∧ (∀ k, k < boN a b → ((st0 a b).it k).emp = false) ∧ boN a b ≤ 2 * a.length + 2 * b.length := by
 obtain ⟨h1, h2⟩ := st0_ok ha hb
 have := St.cnt_spec (2 * a.length + 2 * b.length) (st0 a b) 0 h1 (by omega) (by omega)
 rw [h2] at this
 exact this
theorem boIt_ok (ht : take false false = false) (ha : Can 0 a) (hb : Can 0 b) : ∀ k, k ≤ boN a b → BoOk take a b ((st0 a b).it k) (boIt take (st0 a b) k)
 | 0, _ => ⟨(st0_ok ha hb).1, by show (0 : Int) ≤ 281474976710657; omega, Int.le_refl _, fun n _ => ⟨rfl, rfl⟩, can_nil _, Int.le_refl _, fun n hn => by
   have hn' : n < 0 := hn
   rw [has_lo ha (by omega), has_lo hb (by omega), ht]; rfl, ht.symm⟩
 | k + 1, hk => (boIt_ok ht ha hb k (by omega)).step ht ((boN_spec ha hb).2.1 k (by omega))
theorem both_spec (ht : take false false = false) (ha : Can 0 a) (hb : Can 0 b) : Can 0 (bothL take a b) ∧ ∀ n, hasR (bothL take a b) n = take (hasR a n) (hasR b n) := by
 have h := boIt_ok ht ha hb (boN a b) (Nat.le_refl _)
 have he := St.emp_m h.ok (boN_spec ha hb).1
 refine ⟨h.can, fun n => ?_⟩
 by_cases hn : n < (boIt take (st0 a b) (boN a b)).from_
 ·exact h.says n hn
 ·obtain ⟨x, y⟩ := h.sides n (by omega)
  rw [he] at x y
  rw [x, y]
  show hasR (boIt take (st0 a b) (boN a b)).out n = take false false
  rw [ht, has_end h.can (by have := h.ends; omega)]
theorem boIt_len (s : St) : ∀ k, (boIt take s k).out.length ≤ k
 | 0 => Nat.le_refl _
 | k + 1 => by
  have := boIt_len s k
  show (boStep take _ _ _ _).out.length ≤ _
  unfold boStep
  dsimp only
  split
  ·have := addR_len (boIt take s k).out ((boIt take s k).from_, (s.it k).q - (boIt take s k).from_); omega
  ·omega
end
end Go.Proofs.YtalophngappkhaaGreatDoor

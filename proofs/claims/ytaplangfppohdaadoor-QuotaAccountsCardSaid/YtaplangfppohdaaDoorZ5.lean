/- Traces, in plain words: which tasks are there, which ticks have run; and what rules use of them | What rules use of the ticks of a trace, in plain words | More of rows that a call owns: one cell written; an append, and where the new slice lies | XRg's laws of a region that draws its order, inside a fence. -/
import Derived.Test.YtaplangfppohdaaDoorZ3
import Derived.Test.YtaplangfppohdaaDoorZ4
import Derived.Test.YtaplangfppohdaaDoorZ2
import Derived.Maps.AppendAt
import Derived.OrdersIn
set_option linter.unusedVariables false
set_option linter.unusedSimpArgs false
set_option linter.unusedSectionVars false
namespace Go.Proofs.YtaplangfppohdaaDoor
open Go Go.RowKit

/-! ### Folds that may stop -/
section
variable {σ α : Type}
def runO (f : σ → α → Option σ) (s : σ) (l : List α) : Option σ := l.foldl (fun a x => a.bind fun s => f s x) (some s)
theorem foldl_none (f : σ → α → Option σ) : ∀ l : List α, l.foldl (fun a x => a.bind fun s => f s x) (none : Option σ) = none
  | [] => rfl
  | _ :: r => foldl_none f r
theorem runO_nil (f : σ → α → Option σ) (s : σ) : runO f s [] = some s := rfl
theorem runO_cons (f : σ → α → Option σ) (s : σ) (x : α) (l : List α) : runO f s (x :: l) = (f s x).bind fun s' => runO f s' l := by
  unfold runO
  simp only [List.foldl_cons, Option.bind_some]
  cases h : f s x with
  | none => exact foldl_none f l
  | some s' => rfl
theorem runO_append (f : σ → α → Option σ) (s : σ) (l r : List α) : runO f s (l ++ r) = (runO f s l).bind fun s' => runO f s' r := by
  unfold runO
  rw [List.foldl_append]
  cases h : l.foldl (fun a x => a.bind fun s => f s x) (some s) with
  | none => exact foldl_none f r
  | some s' => rfl
theorem runO_step {f : σ → α → Option σ} {s : σ} {l : List α} {j : Nat} {x : α} (hx : l[j]? = some x) : runO f s (l.take (j + 1)) = (runO f s (l.take j)).bind fun s' => f s' x := by
  rw [List.take_add_one, hx, runO_append]
  cases runO f s (l.take j) with
  | none => rfl
  | some s' => simp [runO_cons, runO_nil]
theorem runO_dead {f : σ → α → Option σ} {s : σ} {l : List α} {j : Nat} (h : runO f s (l.take j) = none) : runO f s l = none := by
  rw [← List.take_append_drop j l, runO_append, h]; rfl
theorem runO_inv {f : σ → α → Option σ} (I : σ → Prop) {s : σ} {l : List α} (h0 : I s) (hs : ∀ s x s', x ∈ l → I s → f s x = some s' → I s') {s' : σ} (h : runO f s l = some s') : I s' := by
  induction l generalizing s with
  | nil => rw [runO_nil] at h; cases h; exact h0
  | cons x r ih =>
    rw [runO_cons] at h
    cases hf : f s x with
    | none => rw [hf] at h; cases h
    | some s1 =>
      rw [hf] at h
      exact ih (hs s x s1 (by simp) h0 hf) (fun s x s' hx => hs s x s' (by simp [hx])) h
end

/-! ### Traces -/
/-- A tick that a task has run, and the task's group. -/
structure Rn where
  cpu : Int
  time : Int
  ticks : Int
  grp : Int
deriving DecidableEq
def updT (T : Int → Option Int) (k : Int) (v : Option Int) (x : Int) : Option Int := if x = k then v else T x
/-- A home is there. -/
def homeS (n : Nat) (T : Int → Option Int) (h : Int × Int) : Option (Int → Option Int) :=
  if (T h.1).isSome = true ∨ ¬ (1 ≤ h.1 ∧ h.1 ≤ 65535) ∨ ¬ (0 ≤ h.2 ∧ h.2 ≤ (n : Int) - 1) then none else some (updT T h.1 (some h.2))
def homesR (n : Nat) (hs : List (Int × Int)) : Option (Int → Option Int) := runO (homeS n) (fun _ => none) hs
/-- What an event does to the tasks. -/
def doesL (n : Nat) (T : Int → Option Int) (e : Ev) : Option (Int → Option Int) :=
  if e.kind = 1 then (if (T e.task).isSome = true ∨ (n : Int) ≤ e.grp then none else some (updT T e.task (some e.grp)))
  else if e.kind = 5 then (if e.got = 0 then some T else if (T e.got).isSome = true then some T else none)
  else if e.kind = 3 then (if (T e.got).isSome = true then some T else none)
  else if e.kind = 4 then (if (T e.got).isSome = true then some (updT T e.got none) else none)
  else some T
structure Lk where
  T : Int → Option Int
  last : Int
  clk : Int → Int
  out : List Rn
def lk0 (T : Int → Option Int) : Lk := ⟨T, 0, fun _ => 0, []⟩
def ranOf (T : Int → Option Int) (e : Ev) : List Rn := if e.kind = 5 ∧ 0 < e.got then [⟨e.cpu, e.time, e.ticks, (T e.got).getD 0⟩] else []
def stepL (n : Nat) (s : Lk) (e : Ev) : Option Lk :=
  if chkEv e ≠ 0 ∨ e.seq ≤ s.last ∨ e.time - e.ticks < s.clk e.cpu then none
  else (doesL n s.T e).map fun T => ⟨T, e.seq, fun c => if c = e.cpu then e.time else s.clk c, s.out ++ ranOf s.T e⟩
/-- The ticks of a trace; none if it is not right. -/
def lookL (n : Nat) (hs : List (Int × Int)) (l : List Ev) : Option (List Rn) := (homesR n hs).bind fun T => (runO (stepL n) (lk0 T) l).map (·.out)

theorem chk_facts {e : Ev} (h : chkEv e = 0) : (1 ≤ e.seq ∧ e.seq ≤ 281474976710656) ∧ (0 ≤ e.time ∧ e.time ≤ 281474976710656) ∧ e.cpu < 64 ∧ (usesK e.kind.toNat).all (withinE e) = true ∧
    (∀ i, i < 7 → fieldV e i ≠ 0 → (usesK e.kind.toNat).contains i = true) ∧ e.kind ≤ 10 := by
  unfold chkEv at h
  split at h
  · cases h
  · split at h
    · cases h
    · split at h
      · cases h
      · split at h
        · cases h
        · rename_i h1 h2 h3 h4
          refine ⟨by omega, by omega, by omega, by simpa using h3, fun i hi hf => ?_, by omega⟩
          simp only [Bool.not_eq_true, List.any_eq_false, List.mem_range] at h4
          have := h4 i hi
          simpa [hf] using this
theorem chk_tick {e : Ev} (h : chkEv e = 0) (hk : e.kind = 5) : (1 ≤ e.ticks ∧ e.ticks ≤ 4294967295) ∧ (0 ≤ e.got ∧ e.got ≤ 65535) := by
  obtain ⟨_, _, _, h4, _⟩ := chk_facts h
  rw [hk] at h4
  simp [usesK, withinE, hk] at h4
  exact h4
theorem chk_noticks {e : Ev} (h : chkEv e = 0) (hk : e.kind ≠ 5) : e.ticks = 0 := by
  obtain ⟨_, _, _, _, h5, h6⟩ := chk_facts h
  have := h5 4 (by omega)
  by_cases ht : e.ticks = 0
  · exact ht
  · exfalso
    have h7 := this ht
    have h8 : e.kind.toNat ≠ 5 := by omega
    generalize e.kind.toNat = m at h7 h8
    unfold usesK at h7
    split at h7 <;> simp at h7 h8
theorem chk_spawn {e : Ev} (h : chkEv e = 0) (hk : e.kind = 1) : (1 ≤ e.task ∧ e.task ≤ 65535) ∧ (0 ≤ e.grp ∧ e.grp ≤ 255) := by
  obtain ⟨_, _, _, h4, _⟩ := chk_facts h
  rw [hk] at h4
  simp [usesK, withinE, hk] at h4
  exact ⟨h4.1, h4.2.1⟩

/-- A tick with right numbers. -/
def RnOk (n : Nat) (t : Rn) : Prop := (0 ≤ t.cpu ∧ t.cpu < 64) ∧ (1 ≤ t.ticks ∧ t.ticks ≤ 4294967295) ∧ (t.ticks ≤ t.time ∧ t.time ≤ 281474976710656) ∧ (0 ≤ t.grp ∧ t.grp < n)
/-- Ticks of one CPU lie one after the other. -/
def Apart (o : List Rn) : Prop := o.Pairwise fun a b => a.cpu = b.cpu → a.time ≤ b.time - b.ticks
structure LkOk (n : Nat) (s : Lk) : Prop where
  tasks : ∀ x g, s.T x = some g → 0 ≤ g ∧ g < n
  last : 0 ≤ s.last
  clk : ∀ c, 0 ≤ s.clk c
  each : ∀ t ∈ s.out, RnOk n t ∧ t.time ≤ s.clk t.cpu
  apart : Apart s.out
theorem home_ok {n : Nat} {T T' : Int → Option Int} {h : Int × Int} (ht : ∀ x g, T x = some g → 0 ≤ g ∧ g < (n : Int)) (hs : homeS n T h = some T') : ∀ x g, T' x = some g → 0 ≤ g ∧ g < (n : Int) := by
  unfold homeS at hs
  split at hs
  · cases hs
  · rename_i hn
    cases hs
    intro x g hx
    unfold updT at hx
    split at hx
    · cases hx; omega
    · exact ht x g hx
theorem homes_ok {n : Nat} {hs : List (Int × Int)} {T : Int → Option Int} (h : homesR n hs = some T) : ∀ x g, T x = some g → 0 ≤ g ∧ g < (n : Int) :=
  runO_inv (fun T => ∀ x g, T x = some g → 0 ≤ g ∧ g < (n : Int)) (fun _ _ h => (by cases h)) (fun _ _ _ _ h1 h2 => home_ok h1 h2) h
theorem lk0_ok {n : Nat} {T : Int → Option Int} (h : ∀ x g, T x = some g → 0 ≤ g ∧ g < (n : Int)) : LkOk n (lk0 T) :=
  ⟨h, Int.le_refl _, fun _ => Int.le_refl _, (fun _ h => by cases h), List.Pairwise.nil⟩
theorem does_ok {n : Nat} {T T' : Int → Option Int} {e : Ev} (hc : chkEv e = 0) (ht : ∀ x g, T x = some g → 0 ≤ g ∧ g < (n : Int)) (h : doesL n T e = some T') : ∀ x g, T' x = some g → 0 ≤ g ∧ g < (n : Int) := by
  unfold doesL at h
  split at h
  · rename_i hk
    split at h
    · cases h
    · cases h
      have := chk_spawn hc hk
      intro x g hx
      unfold updT at hx
      split at hx
      · cases hx; omega
      · exact ht x g hx
  · split at h
    · split at h
      · cases h; exact ht
      · split at h
        · cases h; exact ht
        · cases h
    · split at h
      · split at h
        · cases h; exact ht
        · cases h
      · split at h
        · split at h
          · cases h
            intro x g hx
            unfold updT at hx
            split at hx
            · cases hx
            · exact ht x g hx
          · cases h
        · cases h; exact ht
theorem does_tick {n : Nat} {T T' : Int → Option Int} {e : Ev} (hk : e.kind = 5) (hg : 0 < e.got) (h : doesL n T e = some T') : ∃ g, T e.got = some g := by
  unfold doesL at h
  rw [if_neg (by omega), if_pos hk, if_neg (by omega)] at h
  split at h
  · rename_i hs; exact Option.isSome_iff_exists.1 hs
  · cases h
theorem ran_ok {n : Nat} {s : Lk} {T' : Int → Option Int} {e : Ev} (ho : EvOk e) (hs : LkOk n s) (hc : chkEv e = 0) (hcl : s.clk e.cpu ≤ e.time - e.ticks) (hd : doesL n s.T e = some T') : ∀ t ∈ ranOf s.T e, RnOk n t ∧ t.cpu = e.cpu ∧ t.time = e.time ∧ t.ticks = e.ticks := by
  intro t ht
  unfold ranOf at ht
  split at ht
  · rename_i hk
    simp only [List.mem_singleton] at ht
    subst ht
    obtain ⟨g, hg⟩ := does_tick hk.1 hk.2 hd
    have h1 := hs.tasks _ _ hg
    have h2 := chk_tick hc hk.1
    have h3 := chk_facts hc
    have h4 := hs.clk e.cpu
    have h5 := ho.cpu
    refine ⟨⟨⟨h5.1, h3.2.2.1⟩, h2.1, ⟨by simp only; omega, h3.2.1.2⟩, by rw [hg]; exact h1⟩, rfl, rfl, rfl⟩
  · cases ht
theorem step_ok {n : Nat} {s s' : Lk} {e : Ev} (ho : EvOk e) (hs : LkOk n s) (h : stepL n s e = some s') : LkOk n s' := by
  unfold stepL at h
  split at h
  · cases h
  · rename_i hn
    have hc : chkEv e = 0 := by
      by_cases hc : chkEv e = 0
      · exact hc
      · exact absurd (.inl hc) hn
    obtain ⟨T', hd, h⟩ := Option.map_eq_some_iff.1 h
    subst h
    have hcl : s.clk e.cpu ≤ e.time - e.ticks := by omega
    have hr := ran_ok ho hs hc hcl hd
    have hf := chk_facts hc
    have htk : 0 ≤ e.ticks := by
      by_cases hk : e.kind = 5
      · have := chk_tick hc hk; omega
      · have := chk_noticks hc hk; omega
    refine ⟨does_ok hc hs.tasks hd, by have := hf.1; simp only; omega, fun c => ?_, fun t ht => ?_, ?_⟩
    · simp only
      split
      · exact hf.2.1.1
      · exact hs.clk c
    · simp only at ht ⊢
      rcases List.mem_append.1 ht with ht | ht
      · obtain ⟨h1, h2⟩ := hs.each t ht
        refine ⟨h1, ?_⟩
        split
        · rename_i hc2; rw [hc2] at h2; omega
        · exact h2
      · obtain ⟨h1, h2, h3, _⟩ := hr t ht
        refine ⟨h1, ?_⟩
        rw [if_pos h2]; omega
    · simp only
      unfold Apart
      rw [List.pairwise_append]
      refine ⟨hs.apart, ?_, fun a ha b hb hab => ?_⟩
      · unfold ranOf
        split
        · simp
        · simp
      · obtain ⟨_, h2⟩ := hs.each a ha
        obtain ⟨_, h3, h4, h5⟩ := hr b hb
        rw [hab, h3] at h2
        omega
theorem look_ok {n : Nat} {hs : List (Int × Int)} {l : List Ev} {o : List Rn} (ho : ∀ e ∈ l, EvOk e) (h : lookL n hs l = some o) : (∀ t ∈ o, RnOk n t) ∧ Apart o := by
  unfold lookL at h
  obtain ⟨T, h1, h2⟩ := Option.bind_eq_some_iff.1 h
  obtain ⟨s, h3, h4⟩ := Option.map_eq_some_iff.1 h2
  have := runO_inv (LkOk n) (lk0_ok (homes_ok h1)) (fun s x s' hx hs hst => step_ok (ho x hx) hs hst) h3
  subst h4
  exact ⟨fun t ht => (this.each t ht).1, this.apart⟩
end Go.Proofs.YtaplangfppohdaaDoor
namespace Go.Proofs.YtaplangfppohdaaDoor
open Go Go.RowKit

/-- A rule. -/
structure Ru where
  g : Int
  p : Int
  l : Int
deriving DecidableEq
def encRu (r : Ru) : List Value := [.int .i64 r.g, .int .i64 r.p, .int .i64 r.l]
theorem encRu_len (r : Ru) : (encRu r).length = 3 := rfl
theorem encRu_one (r : Ru) : ∀ u ∈ encRu r, u.oneCell' = true := by intro u hu; simp [encRu] at hu; rcases hu with rfl | rfl | rfl <;> rfl
/-- A use. -/
structure Us where
  r : Int
  c : Int
  p : Int
  t : Int
  d : Int
deriving DecidableEq
def encUs (u : Us) : List Value := [.int .i64 u.r, .int .i64 u.c, .int .i64 u.p, .int .i64 u.t, .int .i64 u.d]
theorem encUs_len (u : Us) : (encUs u).length = 5 := rfl
theorem encUs_one (u : Us) : ∀ v ∈ encUs u, v.oneCell' = true := by intro v hv; simp [encUs] at hv; rcases hv with rfl | rfl | rfl | rfl | rfl <;> rfl

def RuOk (n : Nat) (r : Ru) : Prop := (0 ≤ r.g ∧ r.g ≤ (n : Int) - 1) ∧ (1 ≤ r.p ∧ r.p ≤ 4294967296) ∧ (0 ≤ r.l ∧ r.l ≤ r.p)
instance (n : Nat) (r : Ru) : Decidable (RuOk n r) := by unfold RuOk; infer_instance
/-- The index of the first rule that is not right. -/
def badR (n : Nat) (rs : List Ru) : Nat := rs.findIdx (fun r => !decide (RuOk n r))
def chkR (gs : List (Int × Int)) (rs : List Ru) : Int × Int :=
  if rightB gs = false then (-1, 194) else if badR gs.length rs < rs.length then ((badR gs.length rs : Int), 280) else (-1, 0)

/-- A part behind others, or to the last one. -/
def addP (l : List (Int × Int)) (p : Int × Int) : List (Int × Int) :=
  match l.getLast? with
  | some q => if q.1 = p.1 then l.dropLast ++ [(q.1, q.2 + p.2)] else l ++ [p]
  | none => [p]
def addsP (l ps : List (Int × Int)) : List (Int × Int) := ps.foldl addP l
theorem addP_nil (p : Int × Int) : addP [] p = [p] := rfl
theorem addP_snoc (l : List (Int × Int)) (q p : Int × Int) : addP (l ++ [q]) p = if q.1 = p.1 then l ++ [(q.1, q.2 + p.2)] else l ++ [q] ++ [p] := by
  unfold addP
  simp
theorem addsP_snoc (l ps : List (Int × Int)) (p : Int × Int) : addsP l (ps ++ [p]) = addP (addsP l ps) p := by
  unfold addsP; rw [List.foldl_append]; rfl
theorem addP_len (l : List (Int × Int)) (p : Int × Int) : (addP l p).length ≤ l.length + 1 := by
  rcases List.eq_nil_or_concat l with rfl | ⟨r, q, rfl⟩
  · simp [addP_nil]
  · rw [List.concat_eq_append, addP_snoc]; split <;> simp
theorem addsP_len (l ps : List (Int × Int)) : (addsP l ps).length ≤ l.length + ps.length := by
  induction ps generalizing l with
  | nil => simp [addsP]
  | cons p r ih =>
    have := ih (addP l p)
    have := addP_len l p
    simp only [addsP, List.foldl_cons, List.length_cons] at *
    omega
/-- Is the rule's group above the group of the tick's task? -/
def hitB (gs : List (Int × Int)) (r : Ru) (t : Rn) : Bool := (pathL gs t.grp).contains r.g
def tickP (r : Ru) (t : Rn) : List (Int × Int) := partsL t.time.toNat t.ticks.toNat r.p.toNat
def tickN (r : Ru) (t : Rn) : Nat := manyN t.time.toNat t.ticks.toNat r.p.toNat
theorem tickP_len (r : Ru) (t : Rn) : (tickP r t).length = tickN r t := partsL_len _ _ _
/-- What a rule uses on a CPU. -/
def useStep (gs : List (Int × Int)) (r : Ru) (c : Int) (l : List (Int × Int)) (t : Rn) : List (Int × Int) := if t.cpu = c ∧ hitB gs r t = true then addsP l (tickP r t) else l
def usedAt (gs : List (Int × Int)) (r : Ru) (c : Int) (o : List Rn) : List (Int × Int) := o.foldl (useStep gs r c) []
theorem usedAt_snoc (gs : List (Int × Int)) (r : Ru) (c : Int) (o : List Rn) (t : Rn) : usedAt gs r c (o ++ [t]) = useStep gs r c (usedAt gs r c o) t := by
  unfold usedAt; rw [List.foldl_append]; rfl
/-- How many parts a tick has, for all rules that it counts for. -/
def cntT (gs : List (Int × Int)) (rs : List Ru) (t : Rn) : Nat := (rs.map fun r => if hitB gs r t = true then tickN r t else 0).sum
def allN (gs : List (Int × Int)) (rs : List Ru) (o : List Rn) : Nat := (o.map (cntT gs rs)).sum
theorem allN_snoc (gs : List (Int × Int)) (rs : List Ru) (o : List Rn) (t : Rn) : allN gs rs (o ++ [t]) = allN gs rs o + cntT gs rs t := by simp [allN]
theorem cntT_snoc (gs : List (Int × Int)) (rs : List Ru) (r : Ru) (t : Rn) : cntT gs (rs ++ [r]) t = cntT gs rs t + if hitB gs r t = true then tickN r t else 0 := by simp [cntT]
/-- The uses of a rule on a CPU. -/
def usesOf (i : Nat) (c : Int) (lim : Int) (ps : List (Int × Int)) : List Us := (List.range ps.length).map fun j => ⟨i, c, (partAt ps j).1, (partAt ps j).2, debtAt ps lim (j + 1)⟩
def ruAt (rs : List Ru) (i : Nat) : Ru := rs[i]?.getD ⟨0, 0, 0⟩
def usesL (gs : List (Int × Int)) (rs : List Ru) (o : List Rn) : List Us :=
  (List.range rs.length).flatMap fun i => (List.range 64).flatMap fun c : Nat => usesOf i c (ruAt rs i).l (usedAt gs (ruAt rs i) c o)
def accE (gs : List (Int × Int)) (rs : List Ru) (hs : List (Int × Int)) (l : List Ev) : Int :=
  if (chkR gs rs).2 ≠ 0 then (chkR gs rs).2 else
    match lookL gs.length hs l with
    | none => 281
    | some o => if 65536 < allN gs rs o then 5 else 0
def accL (gs : List (Int × Int)) (rs : List Ru) (hs : List (Int × Int)) (l : List Ev) : List Us :=
  if accE gs rs hs l = 0 then
    match lookL gs.length hs l with
    | none => []
    | some o => usesL gs rs o
  else []
def overL (us : List Us) : List Us := us.filter fun u => decide (0 < u.d)

/-! ### Parts that lie one after the other -/
/-- Parts of periods of p times each, up to the time t. -/
structure AccOk (p : Nat) (t : Int) (l : List (Int × Int)) : Prop where
  inc : l.Pairwise fun a b => a.1 < b.1
  each : ∀ q ∈ l, 0 ≤ q.1 ∧ 1 ≤ q.2 ∧ q.1 * p + q.2 ≤ t ∧ q.2 ≤ p
theorem AccOk.nil (p : Nat) (t : Int) : AccOk p t [] := ⟨List.Pairwise.nil, fun _ h => by cases h⟩
theorem AccOk.mono {p : Nat} {t t' : Int} {l : List (Int × Int)} (h : AccOk p t l) (ht : t ≤ t') : AccOk p t' l := ⟨h.inc, fun q hq => by have := h.each q hq; omega⟩
theorem AccOk.add {p : Nat} {t a e k : Int} {l : List (Int × Int)} (h : AccOk p t l) (hk : 0 ≤ k) (h1 : t ≤ a) (h2 : k * p ≤ a) (h3 : a < e) (h4 : e ≤ (k + 1) * p) : AccOk p e (addP l (k, e - a)) := by
  have h4' : e ≤ k * p + p := by rw [Int.add_mul] at h4; omega
  generalize hkp : k * (p : Int) = kp at h2 h4'
  rcases List.eq_nil_or_concat l with rfl | ⟨r, q, rfl⟩
  · rw [addP_nil]
    exact ⟨List.pairwise_singleton _ _, fun x hx => by simp only [List.mem_singleton] at hx; subst hx; simp only [hkp]; omega⟩
  · rw [List.concat_eq_append] at h ⊢
    rw [addP_snoc]
    have hq := h.each q (by simp)
    have hinc := h.inc
    rw [List.pairwise_append] at hinc
    obtain ⟨i1, _, i3⟩ := hinc
    split
    · rename_i hqk
      simp only at hqk
      rw [hqk, hkp] at hq
      refine ⟨?_, fun x hx => ?_⟩
      · rw [List.pairwise_append]
        exact ⟨i1, List.pairwise_singleton _ _, fun x hx y hy => by simp only [List.mem_singleton] at hy; subst hy; exact i3 x hx q (by simp)⟩
      · rcases List.mem_append.1 hx with hx | hx
        · have := h.each x (by simp [hx]); omega
        · simp only [List.mem_singleton] at hx
          subst hx
          simp only [hqk, hkp]
          omega
    · rename_i hqk
      simp only at hqk
      have hlt : q.1 < k := by
        rcases Int.lt_or_le q.1 k with hl | hl
        · exact hl
        · exfalso
          have h5 : k + 1 ≤ q.1 := by omega
          have h6 : (k + 1) * (p : Int) ≤ q.1 * p := Int.mul_le_mul_of_nonneg_right h5 (by omega)
          omega
      refine ⟨?_, fun x hx => ?_⟩
      · rw [List.pairwise_append]
        refine ⟨h.inc, List.pairwise_singleton _ _, fun x hx y hy => ?_⟩
        simp only [List.mem_singleton] at hy
        subst hy
        simp only
        rcases List.mem_append.1 hx with hx | hx
        · have := i3 x hx q (by simp); omega
        · simp only [List.mem_singleton] at hx; subst hx; exact hlt
      · rcases List.mem_append.1 hx with hx | hx
        · have := h.each x hx; omega
        · simp only [List.mem_singleton] at hx
          subst hx
          simp only [hkp]; omega
theorem part_span {t n p k : Nat} (h1 : 1 ≤ n) (h2 : n ≤ t) (hp : 1 ≤ p) (hk : k < manyN t n p) :
    t - n ≤ cutA t (t - n) p k ∧ ((t - n) / p + k) * p ≤ cutA t (t - n) p k ∧ cutA t (t - n) p k < cutA t (t - n) p (k + 1) ∧ cutA t (t - n) p (k + 1) ≤ ((t - n) / p + k + 1) * p := by
  obtain ⟨f1, f2, f3, f4⟩ := cutA_facts (t := t) (a := t - n) (p := p) (k := k) hp (by omega) rfl hk
  have h5 : ((t - n) / p + k) * p ≤ cutA t (t - n) p k := by rw [← f2]; exact Nat.div_mul_le_self _ _
  refine ⟨?_, h5, f4, by rw [f3]; omega⟩
  unfold cutA
  split
  · exact Nat.le_refl _
  · rename_i hk0
    have h6 := Nat.lt_mul_div_succ (t - n) (show 0 < p by omega)
    have h7 : p * ((t - n) / p + 1) ≤ ((t - n) / p + k) * p := by rw [Nat.mul_comm]; exact Nat.mul_le_mul_right p (by omega)
    omega
/-- The parts of a tick, one by one. -/
theorem AccOk.upto {t n p : Nat} {T : Int} {l : List (Int × Int)} (h : AccOk p T l) (h1 : 1 ≤ n) (h2 : n ≤ t) (hp : 1 ≤ p) (hT : T ≤ (t : Int) - n) : ∀ m, m ≤ manyN t n p →
    AccOk p (cutA t (t - n) p m : Nat) (addsP l (uptoP (partI t (t - n) p) m)) := by
  intro m
  induction m with
  | zero => intro _; exact h.mono (by simp [cutA]; omega)
  | succ m ih =>
    intro hm
    have h3 := ih (by omega)
    obtain ⟨f1, f2, f3, f4⟩ := part_span h1 h2 hp (show m < manyN t n p by omega)
    rw [uptoP_succ, addsP_snoc]
    unfold partI
    refine AccOk.add h3 (Int.natCast_nonneg _) (Int.le_refl _) ?_ (by omega) ?_
    · exact_mod_cast f2
    · exact_mod_cast f4
theorem AccOk.adds {t n p : Nat} {T : Int} {l : List (Int × Int)} (h : AccOk p T l) (h1 : 1 ≤ n) (h2 : n ≤ t) (hp : 1 ≤ p) (hT : T ≤ (t : Int) - n) : AccOk p t (addsP l (partsL t n p)) := by
  have := AccOk.upto h h1 h2 hp hT (manyN t n p) (Nat.le_refl _)
  rw [show cutA t (t - n) p (manyN t n p) = t from cutA_end (t := t) (a := t - n) hp (by omega) rfl] at this
  exact this
/-- The time of the last tick of a CPU. -/
theorem used_acc {gs : List (Int × Int)} {r : Ru} {c : Int} {n : Nat} (hp : 1 ≤ r.p) : ∀ (o : List Rn), (∀ t ∈ o, RnOk n t) → Apart o → ∀ T : Int, 0 ≤ T → (∀ t ∈ o, t.cpu = c → t.time ≤ T) → AccOk r.p.toNat T (usedAt gs r c o) := by
  intro o
  rcases List.eq_nil_or_concat o with rfl | ⟨l, t, rfl⟩
  · intro _ _ T _ _; exact AccOk.nil _ _
  · induction hn : l.length generalizing l t with
    | zero =>
      obtain rfl := List.eq_nil_of_length_eq_zero hn
      intro ho _ T hT hle
      rw [List.concat_eq_append, usedAt_snoc]
      unfold useStep
      split
      · rename_i hc
        have hto := ho t (by simp)
        unfold RnOk at hto
        exact (AccOk.adds (t := t.time.toNat) (n := t.ticks.toNat) (p := r.p.toNat) (T := 0) (AccOk.nil _ _) (by omega) (by omega) (by omega) (by omega)).mono (by have := hle t (by simp) hc.1; omega)
      · exact AccOk.nil _ _
    | succ m ih =>
      intro ho hap T hT hle
      rw [List.concat_eq_append] at *
      rw [usedAt_snoc]
      have hap2 := List.pairwise_append.1 hap
      rcases List.eq_nil_or_concat l with rfl | ⟨l', t', rfl⟩
      · simp at hn
      · have hn' : l'.length = m := by simp at hn; omega
        have hih := ih l' t' hn' (fun x hx => ho x (List.mem_append_left _ (by simpa using hx))) hap2.1
        unfold useStep
        split
        · rename_i hc
          have hto := ho t (by simp)
          unfold RnOk at hto
          have h1 := hih (t.time - t.ticks) (by omega) (fun x hx hxc => hap2.2.2 x hx t (by simp) (by rw [hxc, hc.1]))
          exact (AccOk.adds (t := t.time.toNat) (n := t.ticks.toNat) (p := r.p.toNat) h1 (by omega) (by omega) (by omega) (by omega)).mono (by have := hle t (by simp) hc.1; omega)
        · exact hih T hT (fun x hx hxc => hle x (List.mem_append_left _ (by simpa using hx)) hxc)
end Go.Proofs.YtaplangfppohdaaDoor
namespace Go.Proofs.YtaplangfppohdaaDoor
open Go Go.RowKit

/-- One cell written into a row of the call's own. -/
theorem flat_setF {α : Type} {enc : α → List Value} {k : Nat} (hk : ∀ x, (enc x).length = k) : ∀ (xs : List α) (i j : Nat) (x y : α) (u : Value), xs[i]? = some x → j < k → enc y = (enc x).set j u → (xs.flatMap enc).set (i * k + j) u = (xs.set i y).flatMap enc
  | [], i, j, x, y, u, h, _, _ => by simp at h
  | z :: r, 0, j, x, y, u, h, hj, he => by
    simp at h; subst h
    rw [List.flatMap_cons, List.set_cons_zero, List.flatMap_cons, he, Nat.zero_mul, Nat.zero_add, List.set_append_left _ _ (by rw [hk]; exact hj)]
  | z :: r, i + 1, j, x, y, u, h, hj, he => by
    rw [List.flatMap_cons, List.set_cons_succ, List.flatMap_cons, ← flat_setF hk r i j x y u (by simpa using h) hj he, List.set_append_right _ _ (by rw [hk, Nat.add_mul]; omega), hk]
    congr 2
    rw [Nat.add_mul]; omega
theorem OV.setF {α : Type} {enc : α → List Value} {k base g n cap i j : Nat} {e : TypeId} {w : World} {xs : List α} {x : α} (hk : ∀ x, (enc x).length = k) (h : OV enc k e base w (.slice (some ⟨g, 0, none⟩) n cap) xs) (hn : xs.length = n) (hi : xs[i]? = some x) (hj : j < k) (y : α) (u : Value) (he : enc y = (enc x).set j u) :
    OV enc k e base (w.setCell ⟨g, i * k + j, none⟩ u) (.slice (some ⟨g, 0, none⟩) n cap) (xs.set i y) ∧ w.grownBy (w.setCell ⟨g, i * k + j, none⟩ u) (some g) := by
  subst hn
  obtain ⟨h1, h2⟩ := World.ownsRow.stored h (i * k + j) u
  refine ⟨?_, h2⟩
  unfold OV
  rw [← flat_setF hk xs i j x y u hi hj he, List.length_set]
  exact h1
theorem EV.newL {α : Type} {enc : α → List Value} {k : Nat} {e : TypeId} {w : World} {xs : List α} {c n : Nat} {cs : Array Value} (hk : ∀ x, (enc x).length = k) (hcs : cs.toList = xs.flatMap enc) (hn : xs.length = n) (hc : n ≤ c) :
    EV enc k (w.alloc (.cells cs e)) (.slice (some ⟨w.heap.size, 0, none⟩) n c) xs := by
  subst hn
  refine EV.mk (fun i y hy j u hu => ?_) hc
  have h1 := flat_get hk xs i y hy j u hu
  rw [← hcs] at h1
  have := cell_of_row (w.alloc (.cells cs e)) w.heap.size (i * k + j) cs e (0, 0) (heap_alloc_new w _)
  simp only [Nat.zero_add]
  rw [this]; simpa using h1
theorem OV.row_form {α : Type} {enc : α → List Value} {k base : Nat} {e : TypeId} {w : World} {v : Value} {xs : List α} {n : Nat} (hk : ∀ x, (enc x).length = k) (h : OV enc k e base w v xs) (hl : xs.length = n) (hn : 0 < n) :
    ∃ g cap, v = .slice (some ⟨g, 0, none⟩) n cap ∧ n ≤ cap ∧ base ≤ g ∧ g < w.heap.size := by
  subst hl
  obtain ⟨g, cap, hv, h1, h2⟩ := h.form hn
  obtain ⟨b, o, c, hv', hc, _⟩ := (h.ev hk).row hn
  rw [hv] at hv'
  simp only [Value.slice.injEq, Option.some.injEq, Addr.mk.injEq, and_true] at hv'
  obtain ⟨⟨rfl, rfl⟩, _, rfl⟩ := hv'
  exact ⟨g, cap, hv, hc, h1, h2⟩
theorem OV.frz {α : Type} {enc : α → List Value} {k base g n cap : Nat} {e : TypeId} {w : World} {xs : List α} (h : OV enc k e base w (.slice (some ⟨g, 0, none⟩) n cap) xs) (hn : xs.length = n) (i : Nat) : w.frozen? ⟨g, i, none⟩ = false := by
  subst hn
  exact World.ownsRow.frozenAt h i
theorem OV.ne {α β : Type} {enc : α → List Value} {enc' : β → List Value} {k k' : Nat} {e e' : TypeId} {base base' : Nat} {w : World} {v v' : Value} {xs : List α} {ys : List β}
    (h : OV enc k e base w v xs) (h' : OV enc' k' e' base' w v' ys) (hne : e ≠ e') : v.ownBlock = none ∨ v.ownBlock ≠ v'.ownBlock := by
  rcases h.2 with ⟨rfl, _⟩ | ⟨g, cap, cur, rfl, _, hg, _⟩
  · exact .inl rfl
  · rcases h'.2 with ⟨rfl, _⟩ | ⟨g', cap', cur', rfl, _, hg', _⟩
    · right; simp [Value.ownBlock]
    · right
      intro he
      obtain rfl : g = g' := by simpa [Value.ownBlock] using he
      rw [hg] at hg'
      simp at hg'
      exact hne hg'.2
theorem EV.newM {α : Type} {enc : α → List Value} {k : Nat} {e : TypeId} {w : World} {xs : List α} {n m : Nat} {cs : Array Value} (hk : ∀ x, (enc x).length = k) (hcs : cs.toList = xs.flatMap enc) (hn : xs.length = n) (hm : w.heap.size = m) :
    EV enc k (w.alloc (.cells cs e)) (.slice (some ⟨m, 0, none⟩) n n) xs := by subst hm; exact EV.newL hk hcs hn (Nat.le_refl _)
theorem bel_alloc (w : World) (o : Obj) : Below w.heap.size w (w.alloc o) := (Below.refl _ _).alloc (Nat.le_refl _) _
theorem bel_alloc2 (w : World) (o o' : Obj) : Below w.heap.size w ((w.alloc o).alloc o') := ((Below.refl _ _).alloc (Nat.le_refl _) _).alloc (by simp) _
section
variable {P : Program} {α : Type} {enc : α → List Value} {k bytes base : Nat} {t e : TypeId} {w w' : World} {v sv : Value} {xs ys : List α}
theorem run_app_at (T : ElemT P t e k bytes) (hk : ∀ x, (enc x).length = k) (h1 : ∀ x, ∀ u ∈ enc x, u.oneCell' = true) (ty : TypeId)
    (hown : OV enc k e base w v xs) (hys : EV enc k w sv ys) (hn : xs.length + ys.length ≤ 1000000000) (hbase : base ≤ w.heap.size) :
    ∃ v' w', (Builtin.append_ #[t, t] ty #[v, sv]).run P w = .ok v' w' ∧ OV enc k e base w' v' (xs ++ ys) ∧ w.grownBy w' v.ownBlock ∧ (v'.ownBlock = v.ownBlock ∨ v'.ownBlock = some w.heap.size) := by
  obtain ⟨i, z, hi, hz, hsz, hby, hzs⟩ := T.hi
  have hbb : (xs.length + ys.length) * bytes ≤ 140737488355328 := Nat.le_trans (Nat.mul_le_mul hn T.hb) (by decide)
  have hml : xs.length + ys.length ≤ maxLen := by unfold maxLen; omega
  have own : ∀ {ad : Addr} {c : Nat}, sv = .slice (some ad) ys.length c → (∀ j u, (ys.flatMap enc)[j]? = some u → w.cell? (ad.add j) = some u) →
      ∃ v' w', (Builtin.append_ #[t, t] ty #[v, sv]).run P w = .ok v' w' ∧ OV enc k e base w' v' (xs ++ ys) ∧ w.grownBy w' v.ownBlock ∧ (v'.ownBlock = v.ownBlock ∨ v'.ownBlock = some w.heap.size) := by
    intro ad c hsv hc
    subst hsv
    obtain ⟨v', w', hr, ho, hg, _, hat⟩ := run_append_own_at (P := P) w base t ty e i z k bytes T.ht hi hz hsz hby hzs T.hk v xs.length _ hown ad ys.length c (ys.flatMap enc)
      (flat_len hk ys) hc (fun u hu => by obtain ⟨x, _, hx⟩ := List.mem_flatMap.1 hu; exact h1 x u hx) hml hbb hbase
    refine ⟨v', w', hr, ?_, hg, hat⟩
    unfold OV
    rw [List.length_append, List.flatMap_append]
    exact ho
  rcases hys with ⟨rfl, A, c, rfl⟩ | ⟨hne, b, off, c, rfl, hle, hr⟩
  · cases A with
    | some ad => exact own rfl (by simp)
    | none =>
      refine ⟨v, w, ?_, by simpa using hown, ⟨rfl, rfl, rfl, Nat.le_refl _, fun _ _ _ => rfl⟩, .inl rfl⟩
      rcases hown.2 with ⟨rfl, _⟩ | ⟨g, cap, cur, rfl, _, _, hnc, _⟩
      · simp [Builtin.append_, run_underlying T.ht, sizeOf, typeInfo, hi, Builtin.lenOf, Builtin.firstCells]
      · simp [Builtin.append_, run_underlying T.ht, sizeOf, typeInfo, hi, Builtin.lenOf, Builtin.firstCells, hnc, storeCells]
  · refine own rfl fun j u hj => ?_
    rw [Addr.add_lit]
    have hkp := T.hk
    have hjl : j < ys.length * k := by
      have := (List.getElem?_eq_some_iff.1 hj).1
      rwa [flat_len hk] at this
    have hq : j / k < ys.length := Nat.div_lt_of_lt_mul (by rwa [Nat.mul_comm])
    have hdm : j / k * k + j % k = j := by rw [Nat.mul_comm]; exact Nat.div_add_mod j k
    have hm : j % k < (enc ys[j / k]).length := by rw [hk]; exact Nat.mod_lt _ hkp
    obtain ⟨u', hu'⟩ : ∃ u', (enc ys[j / k])[j % k]? = some u' := ⟨_, List.getElem?_eq_getElem hm⟩
    have h2 := flat_get hk ys (j / k) ys[j / k] (List.getElem?_eq_getElem hq) (j % k) u' hu'
    rw [hdm, hj] at h2
    cases h2
    have := hr (j / k) ys[j / k] (List.getElem?_eq_getElem hq) (j % k) u hu'
    rwa [Nat.add_assoc, hdm] at this

theorem wpList_app_at {ops : Array Oper} {rest : List Oper} {o : Oper} {a : Act} {Q : Exit → Act → World → Prop} (T : ElemT P t e k bytes) (hk : ∀ x, (enc x).length = k) (h1 : ∀ x, ∀ u ∈ enc x, u.oneCell' = true)
    (hgd : o.guard = none) (s x : Operand) (ho : o.op = .call { callee := .builtin .append, args := #[s, x], argTypes := #[t, t] })
    (v sv : Value) (hs : a.eval s = v) (hx : a.eval x = sv) (hown : OV enc k e base w v xs) (hys : EV enc k w sv ys) (hn : xs.length + ys.length ≤ 1000000000) (hbase : base ≤ w.heap.size)
    (h : ∀ v' w', OV enc k e base w' v' (xs ++ ys) → w.grownBy w' v.ownBlock → (v'.ownBlock = v.ownBlock ∨ v'.ownBlock = some w.heap.size) → wpList P ops Q rest (a.put o.dst v') w') : wpList P ops Q (o :: rest) a w := by
  refine wpList_plain hgd fun _ hK => ?_
  obtain ⟨v', w', hr, h2, h3, h4⟩ := run_app_at T hk h1 o.type hown hys hn hbase
  unfold Oper.wp execOp
  simp only [ho, resolve, invoke, builtin, Sem.run_bind, Sem.run_pure, Result.andThen_ok, List.map_toArray, List.map_cons, List.map_nil, hs, hx, hr]
  exact hK _ _ (h v' w' h2 h3 h4)

end
end Go.Proofs.YtaplangfppohdaaDoor
namespace Go.Proofs.YtaplangfppohdaaDoor
open Go Go.RowKit

section
variable {G : Fence} {rm : Nat} {P : Program} {md : Region.Mode} {ops : Array Oper} {Q : Exit → Act → World → Prop}
/-- By an invariant of what has come up. -/
theorem wpAnyIn_inv (I : Array Bool → Act → World → Prop)
    (hstep : ∀ listed a w i, listed.size = ops.size → I listed a w → i ∈ Region.ready md ops listed → wpOpIn G rm P ops Q i (I (listed.setIfInBounds i true)) a w)
    (hend : ∀ listed a w, listed.size = ops.size → I listed a w → Region.ready md ops listed = [] → Q .normal a w) :
    ∀ fuel listed a w, listed.size = ops.size → left listed ≤ fuel → I listed a w → wpAnyIn G rm P md ops Q fuel listed a w
  | 0, listed, a, w, hs, hl, hI => by
    have hr : Region.ready md ops listed = [] := ready_none hs (by omega)
    exact ⟨hr, hend listed a w hs hI hr⟩
  | fuel + 1, listed, a, w, hs, hl, hI => ⟨hend listed a w hs hI, fun i hi => by
    have hm := ready_mem hi
    have hc := left_set hm.2.1
    exact wpOpIn_mono (fun a' w' h => wpAnyIn_inv I hstep hend fuel _ a' w' (by simpa using hs) (by omega) h) (hstep listed a w i hs hI hi)⟩
/-- All operations but the last only add to what is there (R); the last waits for all others. F: what an operation's value is worth; b: the frame by the operations' values. -/
theorem wpIn_region_last {id : Nat} {a : Act} {w : World} (hm : P.follows .mixedOrders = true) (N : Nat) (hN : ops.size = N + 1) (R : World → World → Prop)
    (b : (Nat → Value) → Act) (F : Nat → Value → World → Prop) (B : World → Prop) (hF : ∀ i v w w', R w w' → F i v w → F i v w') (hB : ∀ w w', R w w' → B w → B w')
    (hgd : (List.range (N + 1)).all (fun i => ((ops[i]?).map (·.guard.isNone)).getD false) = true)
    (hlast : (List.range N).all (depB .any ops N) = true) (hord : (List.range (N + 1)).all (fun i => ((ops[i]?).map (fun o => o.after.all fun e => !Region.binds .any e || decide (e.on < i))).getD false) = true)
    (hsteps : ∀ i o, i < N → ops[i]? = some o → ∀ x w, B w → (∀ j, depB .any ops i j = true → F j (x j) w) → ∀ K : Act → World → Prop, (∀ v w', R w w' → F i v w' → K (b (upd x i v)) w') → o.wpIn G rm P (b x) w K Q)
    (hfin : ∀ o, ops[N]? = some o → ∀ x w, B w → (∀ j, j < N → F j (x j) w) → ∀ K : Act → World → Prop, (∀ a' w', Q .normal a' w' → K a' w') → o.wpIn G rm P (b x) w K Q)
    (x0 : Nat → Value) (h0 : a = b x0) (hB0 : B w.drew) : (Code.region id ops true).wpIn G rm P Q a w := by
  refine wpIn_region_any hm ?_
  have hwant : ∀ i o, ops[i]? = some o → ∀ ts, Region.wanted o (yielded ops ts) = true := fun i o ho ts => by
    have hi := (Array.getElem?_eq_some_iff.1 ho).1
    have := List.all_eq_true.1 hgd i (List.mem_range.2 (by omega))
    rw [ho] at this
    simp only [Option.map_some, Option.getD_some, Option.isNone_iff_eq_none] at this
    simp [Region.wanted, this]
  refine wpAnyIn_inv (I := fun listed a w => ((∀ j, j ≤ N → listed.getD j false = true) ∧ Q .normal a w) ∨ (listed.getD N false = false ∧ ∃ x, a = b x ∧ B w ∧ ∀ j, j < N → listed.getD j false = true → F j (x j) w)) ?_ ?_ _ _ _ _ (by simp) ?_ ?_
  · intro listed a w i hs hI hi
    obtain ⟨h1, h2, o, ho, hdep⟩ := ready_mem hi
    have hdp : ∀ j, depB .any ops i j = true → listed.getD j false = true := fun j hj => by
      unfold depB at hj
      rw [ho] at hj
      simp only [Option.any_some] at hj
      rw [← Array.any_toList] at hj
      obtain ⟨e, he, hj⟩ := List.any_eq_true.1 hj
      rw [Bool.and_eq_true, beq_iff_eq] at hj
      rw [← hj.2]; exact hdep e he hj.1
    have hstp : ∀ K, o.wpIn G rm P a w K Q → wpOpIn G rm P ops Q i K a w := fun K h => by
      unfold wpOpIn; rw [ho]; simp only
      rw [if_pos (hwant i o ho _)]; exact h
    refine hstp _ ?_
    rcases hI with ⟨hl, _⟩ | ⟨hl, x, rfl, hb, hf⟩
    · -- nothing comes up behind the last
      exfalso
      have := hl i (by omega)
      rw [Array.getD_eq_getD_getElem?, Array.getElem?_eq_getElem (by omega)] at h2 this
      simp at h2 this; rw [h2] at this; cases this
    · rcases Nat.lt_or_ge i N with hiN | hiN
      · refine Oper.wpIn_mono (fun a' w' h => ?_) (hsteps i o hiN ho x w hb (fun j hj => ?_) (fun a' w' => ∃ v, a' = b (upd x i v) ∧ R w w' ∧ F i v w') (fun v w' h1 h2 => ⟨v, rfl, h1, h2⟩))
        · obtain ⟨v, rfl, hr, hfi⟩ := h
          refine .inr ⟨?_, upd x i v, rfl, hB _ _ hr hb, fun j hj hlj => ?_⟩
          · rw [Array.getD_eq_getD_getElem?, Array.getElem?_setIfInBounds_ne (by omega), ← Array.getD_eq_getD_getElem?]; exact hl
          · rcases set_cases hlj with rfl | hlj
            · rw [upd_self]; exact hfi
            · by_cases e : j = i
              · subst e; rw [upd_self]; exact hfi
              · rw [upd_ne e]; exact hF _ _ _ _ hr (hf j hj hlj)
        · have hlj := hdp j hj
          rcases Nat.lt_or_ge j N with hjN | hjN
          · exact hf j hjN hlj
          · exfalso
            have hjs : j < listed.size := by
              rcases Nat.lt_or_ge j listed.size with h' | h'
              · exact h'
              · rw [Array.getD_eq_getD_getElem?, Array.getElem?_eq_none h'] at hlj; simp at hlj
            obtain rfl : j = N := by omega
            rw [hlj] at hl; cases hl
      · obtain rfl : i = N := by omega
        have hall : ∀ j, j < i → listed.getD j false = true := fun j hj => hdp j (List.all_eq_true.1 hlast j (List.mem_range.2 hj))
        refine Oper.wpIn_mono (fun a' w' h => .inl ⟨fun j hj => ?_, h⟩) (hfin o ho x w hb (fun j hj => hf j hj (hall j hj)) (Q .normal) (fun _ _ h => h))
        by_cases e : j = i
        · subst e; rw [Array.getD_eq_getD_getElem?, Array.getElem?_setIfInBounds_self_of_lt (by omega)]; rfl
        · rw [Array.getD_eq_getD_getElem?, Array.getElem?_setIfInBounds_ne (fun h => e h.symm), ← Array.getD_eq_getD_getElem?]; exact hall j (by omega)
  · intro listed a w hs hI hr
    rcases hI with ⟨_, h⟩ | ⟨hl, x, rfl, hb, hf⟩
    · exact h
    · exfalso
      -- the least that has not come up is ready
      have hle : ∀ k, k ≤ N → listed.getD k false = true := by
        intro k
        induction k using Nat.strongRecOn with
        | _ k ih =>
          intro hk
          have hks : k < listed.size := by omega
          cases hv : listed.getD k false with
          | true => rfl
          | false =>
            exfalso
            have hmem : k ∈ Region.ready .any ops listed := by
              unfold Region.ready
              refine List.mem_filter.2 ⟨List.mem_range.2 (by omega), ?_⟩
              rw [Bool.and_eq_true]
              refine ⟨?_, ?_⟩
              · rw [Array.getD_eq_getD_getElem?, Array.getElem?_eq_getElem hks] at hv ⊢
                simpa using hv
              · have ho := List.all_eq_true.1 hord k (List.mem_range.2 (by omega))
                rw [Array.getElem?_eq_getElem (show k < ops.size by omega)] at ho ⊢
                simp only [Option.map_some, Option.getD_some] at ho ⊢
                rw [← Array.all_toList] at ho ⊢
                rw [List.all_eq_true] at ho ⊢
                intro e he
                have hon := ho e he
                cases hbe : Region.binds .any e with
                | false => rfl
                | true =>
                  rw [hbe] at hon
                  have hon' : e.on < k := by simpa using hon
                  rw [ih e.on hon' (by omega)]; rfl
            rw [hr] at hmem; cases hmem
      rw [hle N (Nat.le_refl _)] at hl; cases hl
  · refine Nat.le_trans List.countP_le_length ?_
    simp
  · exact .inr ⟨by rw [Array.getD_eq_getD_getElem?, Array.getElem?_replicate, if_pos (by omega)]; rfl, x0, h0, hB0, fun j hj h => by
      rw [Array.getD_eq_getD_getElem?, Array.getElem?_replicate] at h
      split at h <;> simp at h⟩
/-- Operations that leave the world as it is (F: what each yields), and a chain of K others, each behind the one before (B k: what is so when k of them are done). -/
theorem wpIn_region_chain {id : Nat} {a : Act} {w : World} (hm : P.follows .mixedOrders = true) (N : Nat) (hN : ops.size = N) (K : Nat) (ch : Nat → Nat)
    (b : (Nat → Value) → Act) (F : Nat → Value → Prop) (B : Nat → (Nat → Value) → World → Prop)
    (hch : (List.range K).all (fun k => decide (ch k < N) && (List.range K).all (fun m => k == m || ch k != ch m) && (k == 0 || depB .any ops (ch k) (ch (k - 1)))) = true)
    (hB : ∀ k x i v w, ((List.range K).any fun m => ch m == i) = false → B k x w → B k (upd x i v) w)
    (hgd : (List.range N).all (fun i => ((ops[i]?).map (·.guard.isNone)).getD false) = true)
    (hord : (List.range N).all (fun i => ((ops[i]?).map (fun o => o.after.all fun e => !Region.binds .any e || decide (e.on < i))).getD false) = true)
    (hpure : ∀ i o, i < N → ((List.range K).any fun m => ch m == i) = false → ops[i]? = some o → ∀ k x w, k ≤ K → B k x w → (∀ j, depB .any ops i j = true → ((List.range K).any fun m => ch m == j) = false → F j (x j)) → (∀ m, m < K → depB .any ops i (ch m) = true → m < k) → (∀ m, m < k → depB .any ops (ch m) i = false) →
      ∀ Kt : Act → World → Prop, (∀ v, F i v → Kt (b (upd x i v)) w) → o.wpIn G rm P (b x) w Kt Q)
    (hchain : ∀ k o, k < K → ops[ch k]? = some o → ∀ x w, B k x w → (∀ j, depB .any ops (ch k) j = true → ((List.range K).any fun m => ch m == j) = false → F j (x j)) →
      ∀ Kt : Act → World → Prop, (∀ v w', B (k + 1) (upd x (ch k) v) w' → Kt (b (upd x (ch k) v)) w') → o.wpIn G rm P (b x) w Kt Q)
    (hend : ∀ x w, B K x w → (∀ j, j < N → ((List.range K).any fun m => ch m == j) = false → F j (x j)) → Q .normal (b x) w)
    (x0 : Nat → Value) (h0 : a = b x0) (hB0 : B 0 x0 w.drew) : (Code.region id ops true).wpIn G rm P Q a w := by
  refine wpIn_region_any hm ?_
  have hwant : ∀ i o, ops[i]? = some o → ∀ ts, Region.wanted o (yielded ops ts) = true := fun i o ho ts => by
    have hi := (Array.getElem?_eq_some_iff.1 ho).1
    have := List.all_eq_true.1 hgd i (List.mem_range.2 (by omega))
    rw [ho] at this
    simp only [Option.map_some, Option.getD_some, Option.isNone_iff_eq_none] at this
    simp [Region.wanted, this]
  have hc1 : ∀ k, k < K → ch k < N := fun k hk => by
    have := List.all_eq_true.1 hch k (List.mem_range.2 hk)
    simp only [Bool.and_eq_true, decide_eq_true_eq] at this
    exact this.1.1
  have hc2 : ∀ k m, k < K → m < K → ch k = ch m → k = m := fun k m hk hm e => by
    have := List.all_eq_true.1 hch k (List.mem_range.2 hk)
    simp only [Bool.and_eq_true] at this
    have := List.all_eq_true.1 this.1.2 m (List.mem_range.2 hm)
    simpa [e] using this
  have hc3 : ∀ k, 0 < k → k < K → depB .any ops (ch k) (ch (k - 1)) = true := fun k h0 hk => by
    have := List.all_eq_true.1 hch k (List.mem_range.2 hk)
    simp only [Bool.and_eq_true, Bool.or_eq_true, beq_iff_eq] at this
    rcases this.2 with h | h
    · omega
    · exact h
  have hnc : ∀ i, ((List.range K).any fun m => ch m == i) = true ↔ ∃ m, m < K ∧ ch m = i := fun i => by simp
  refine wpAnyIn_inv (I := fun listed a w => ∃ x k, a = b x ∧ k ≤ K ∧ (∀ m, m < K → (listed.getD (ch m) false = true ↔ m < k)) ∧ (∀ m, m < k → ∀ j, depB .any ops (ch m) j = true → listed.getD j false = true) ∧ B k x w ∧ ∀ j, j < N → ((List.range K).any fun m => ch m == j) = false → listed.getD j false = true → F j (x j)) ?_ ?_ _ _ _ _ (by simp) ?_ ?_
  · rintro listed a w i hs ⟨x, k, rfl, hk, hlk, hld, hb, hf⟩ hi
    obtain ⟨h1, h2, o, ho, hdep⟩ := ready_mem hi
    have hdp : ∀ j, depB .any ops i j = true → listed.getD j false = true := fun j hj => by
      unfold depB at hj
      rw [ho] at hj
      simp only [Option.any_some] at hj
      rw [← Array.any_toList] at hj
      obtain ⟨e, he, hj⟩ := List.any_eq_true.1 hj
      rw [Bool.and_eq_true, beq_iff_eq] at hj
      rw [← hj.2]; exact hdep e he hj.1
    have hlt : ∀ j, listed.getD j false = true → j < N := fun j hj => by
      rcases Nat.lt_or_ge j listed.size with h' | h'
      · omega
      · rw [Array.getD_eq_getD_getElem?, Array.getElem?_eq_none h'] at hj; simp at hj
    have hil : listed.getD i false = false := by
      rw [Array.getD_eq_getD_getElem?, Array.getElem?_eq_getElem (by omega)] at h2 ⊢
      simpa using h2
    have hfd : ∀ j, depB .any ops i j = true → ((List.range K).any fun m => ch m == j) = false → F j (x j) := fun j hj hn => hf j (hlt j (hdp j hj)) hn (hdp j hj)
    unfold wpOpIn; rw [ho]; simp only
    rw [if_pos (hwant i o ho _)]
    have hset : ∀ j, j ≠ i → (listed.setIfInBounds i true).getD j false = listed.getD j false := fun j hj => by
      rw [Array.getD_eq_getD_getElem?, Array.getElem?_setIfInBounds_ne (fun e => hj e.symm), ← Array.getD_eq_getD_getElem?]
    have hset' : (listed.setIfInBounds i true).getD i false = true := by
      rw [Array.getD_eq_getD_getElem?, Array.getElem?_setIfInBounds_self_of_lt (by omega)]; rfl
    cases hic : ((List.range K).any fun m => ch m == i) with
    | false =>
      have hne : ∀ m, m < K → ch m ≠ i := fun m hm e => by
        have := (hnc i).2 ⟨m, hm, e⟩
        rw [hic] at this; cases this
      refine hpure i o (by omega) hic ho k x w hk hb hfd (fun m hm hd => (hlk m hm).1 (hdp _ hd)) (fun m hm => ?_) _ (fun v hv => ⟨upd x i v, k, rfl, hk, fun m hm => ?_, fun m hm j hj => ?_, hB k x i v w hic hb, fun j hj hjc hlj => ?_⟩)
      · cases hdd : depB .any ops (ch m) i with
        | false => rfl
        | true => rw [hld m hm i hdd] at hil; cases hil
      · rw [hset _ (hne m hm)]; exact hlk m hm
      · by_cases e : j = i
        · subst e; exact hset'
        · rw [hset _ e]; exact hld m hm j hj
      · rcases set_cases hlj with rfl | hlj
        · rw [upd_self]; exact hv
        · by_cases e : j = i
          · subst e; rw [upd_self]; exact hv
          · rw [upd_ne e]; exact hf j hj hjc hlj
    | true =>
      obtain ⟨m, hm, rfl⟩ := (hnc i).1 hic
      have hmk : m = k := by
        have h3 : ¬ m < k := fun h => by rw [(hlk m hm).2 h] at hil; cases hil
        rcases Nat.lt_or_ge k m with h4 | h4
        · exfalso
          have := hdp _ (hc3 m (by omega) hm)
          have := (hlk (m - 1) (by omega)).1 this
          omega
        · omega
      subst hmk
      refine hchain m o hm ho x w hb hfd _ (fun v w' hv => ⟨upd x (ch m) v, m + 1, rfl, by omega, fun q hq => ?_, fun q hq j hj => ?_, hv, fun j hj hjc hlj => ?_⟩)
      · by_cases e : q = m
        · subst e; rw [hset']; simp
        · rw [hset _ (fun h => e (hc2 q m hq hm h)), hlk q hq]; omega
      · by_cases e : j = ch m
        · subst e; exact hset'
        · rw [hset _ e]
          rcases Nat.lt_or_ge q m with h | h
          · exact hld q h j hj
          · obtain rfl : q = m := by omega
            exact hdp j hj
      · have hjne : j ≠ ch m := fun e => by
          have := (hnc j).2 ⟨m, hm, e.symm⟩
          rw [hjc] at this; cases this
        rw [hset _ hjne] at hlj
        rw [upd_ne hjne]; exact hf j hj hjc hlj
  · rintro listed a w hs ⟨x, k, rfl, hk, hlk, hld, hb, hf⟩ hr
    have hle : ∀ q, q < N → listed.getD q false = true := by
      intro q
      induction q using Nat.strongRecOn with
      | _ q ih =>
        intro hq
        have hks : q < listed.size := by omega
        cases hv : listed.getD q false with
        | true => rfl
        | false =>
          exfalso
          have hmem : q ∈ Region.ready .any ops listed := by
            unfold Region.ready
            refine List.mem_filter.2 ⟨List.mem_range.2 (by omega), ?_⟩
            rw [Bool.and_eq_true]
            refine ⟨?_, ?_⟩
            · rw [Array.getD_eq_getD_getElem?, Array.getElem?_eq_getElem hks] at hv ⊢
              simpa using hv
            · have ho := List.all_eq_true.1 hord q (List.mem_range.2 (by omega))
              rw [Array.getElem?_eq_getElem (show q < ops.size by omega)] at ho ⊢
              simp only [Option.map_some, Option.getD_some] at ho ⊢
              rw [← Array.all_toList] at ho ⊢
              rw [List.all_eq_true] at ho ⊢
              intro e he
              have hon := ho e he
              cases hbe : Region.binds .any e with
              | false => rfl
              | true =>
                rw [hbe] at hon
                have hon' : e.on < q := by simpa using hon
                rw [ih e.on hon' (by omega)]; rfl
          rw [hr] at hmem; cases hmem
    have hkK : k = K := by
      rcases Nat.lt_or_ge k K with h | h
      · exfalso
        have := (hlk k h).1 (hle _ (hc1 k h))
        omega
      · omega
    subst hkK
    exact hend x w hb (fun j hj hjc => hf j hj hjc (hle j hj))
  · refine Nat.le_trans List.countP_le_length ?_
    simp
  · refine ⟨x0, 0, h0, Nat.zero_le _, fun m hm => ?_, fun m hm => by omega, hB0, fun j hj _ h => ?_⟩
    · rw [Array.getD_eq_getD_getElem?, Array.getElem?_replicate]
      split <;> simp
    · rw [Array.getD_eq_getD_getElem?, Array.getElem?_replicate] at h
      split at h <;> simp at h
end
end Go.Proofs.YtaplangfppohdaaDoor

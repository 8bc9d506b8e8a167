/- slices.SortFunc at uses, by Account's comparison | The uses of a trace in their order, and as they are collected key by key; plain | quota.Account: the use of one part, and what stays as it is while the uses are collected. -/
import Derived.Test.YtaplangfppohdaaDoorZ11
import Derived.Test.YtaplangfppohdaaDoorZ5
import Derived.Shelf.SlSortCmp.NoneTotal
import Derived.Test.YtaplangfppohdaaDoorZ8
import Derived.Test.YtaplangfppohdaaDoorZ2
set_option linter.unusedVariables false
set_option linter.unusedSimpArgs false
set_option linter.unusedSectionVars false
namespace Go.Proofs.YtaplangfppohdaaDoor
open Go Go.RowKit Go.Shelf Go.Sort
attribute [local go_sem] Oper.semAt_some

def cmpUs (a b : Us) : Int := if cmpI a.r b.r ≠ 0 then cmpI a.r b.r else if cmpI a.c b.c ≠ 0 then cmpI a.c b.c else cmpI a.p b.p
/-- Before, by rule, CPU and period. -/
def LtU (a b : Us) : Prop := a.r < b.r ∨ (a.r = b.r ∧ (a.c < b.c ∨ (a.c = b.c ∧ a.p < b.p)))
instance (a b : Us) : Decidable (LtU a b) := by unfold LtU; infer_instance
theorem cmpI_neg {a b : Int} : cmpI a b < 0 ↔ a < b := by unfold cmpI; split <;> (try split) <;> omega
theorem cmpI_zero {a b : Int} : cmpI a b = 0 ↔ a = b := by unfold cmpI; split <;> (try split) <;> omega
theorem cmpUs_lt (a b : Us) : cmpUs a b < 0 ↔ LtU a b := by
  unfold cmpUs LtU
  by_cases h1 : a.r = b.r
  · rw [if_neg (by simp [cmpI_zero.2 h1])]
    by_cases h2 : a.c = b.c
    · rw [if_neg (by simp [cmpI_zero.2 h2]), cmpI_neg]; omega
    · rw [if_pos (fun h => h2 (cmpI_zero.1 h)), cmpI_neg]; omega
  · rw [if_pos (fun h => h1 (cmpI_zero.1 h)), cmpI_neg]; omega
theorem ltOf_us (a b : Us) : ltOf cmpUs a b = decide (LtU a b) := by
  unfold ltOf
  exact decide_eq_decide.2 (cmpUs_lt a b)
theorem swoUs : SWO (ltOf cmpUs) where
  irrefl x := by rw [ltOf_us]; simp [LtU]
  trans x y z h1 h2 := by rw [ltOf_us] at *; simp only [decide_eq_true_eq] at *; unfold LtU at *; omega
  ntrans x y z h1 h2 := by rw [ltOf_us] at *; simp only [decide_eq_false_iff_not] at *; unfold LtU at *; omega
instance : Inhabited Us := ⟨⟨0, 0, 0, 0, 0⟩⟩
set_option maxRecDepth 100000 in
set_option maxHeartbeats 4000000 in
theorem cmpUs_gro (w : World) (a b : Us) :
    Calls Tryd.prog 45 #[.agg #[.int .i64 a.r, .int .i64 a.c, .int .i64 a.p, .int .i64 a.t, .int .i64 a.d], .agg #[.int .i64 b.r, .int .i64 b.c, .int .i64 b.p, .int .i64 b.t, .int .i64 b.d]] w fun e w' => e = .returned (.int .i64 (cmpUs a b)) ∧ Gro w w' := by
  have r1 := ((EV.newL (w := w) (e := 50) (xs := [a]) (n := 1) (c := 1) (cs := #[.int .i64 a.r, .int .i64 a.c, .int .i64 a.p, .int .i64 a.t, .int .i64 a.d]) encUs_len rfl rfl (Nat.le_refl _)).row3 (by simp))
  have r2 := ((EV.newL (w := w.alloc (.cells #[.int .i64 a.r, .int .i64 a.c, .int .i64 a.p, .int .i64 a.t, .int .i64 a.d] 50)) (e := 50) (xs := [b]) (n := 1) (c := 1) (cs := #[.int .i64 b.r, .int .i64 b.c, .int .i64 b.p, .int .i64 b.t, .int .i64 b.d]) encUs_len rfl rfl (Nat.le_refl _)).row3 (by simp))
  have B2 := bel_alloc (w.alloc (.cells #[.int .i64 a.r, .int .i64 a.c, .int .i64 a.p, .int .i64 a.t, .int .i64 a.d] 50)) (.cells #[.int .i64 b.r, .int .i64 b.c, .int .i64 b.p, .int .i64 b.t, .int .i64 b.d] 50)
  have r1 := r1.below B2
  have a0 := r1 0 a rfl 0 _ rfl
  have a1 := r1 0 a rfl 1 _ rfl
  have a2 := r1 0 a rfl 2 _ rfl
  have b0 := r2 0 b rfl 0 _ rfl
  have b1 := r2 0 b rfl 1 _ rfl
  have b2 := r2 0 b rfl 2 _ rfl
  have BB := (Gro.alloc w (.cells #[.int .i64 a.r, .int .i64 a.c, .int .i64 a.p, .int .i64 a.t, .int .i64 a.d] 50)).trans (Gro.alloc (w.alloc (.cells #[.int .i64 a.r, .int .i64 a.c, .int .i64 a.p, .int .i64 a.t, .int .i64 a.d] 50)) (.cells #[.int .i64 b.r, .int .i64 b.c, .int .i64 b.p, .int .i64 b.t, .int .i64 b.d] 50))
  simp only [Nat.zero_mul, Nat.zero_add, Nat.add_zero, World.size_alloc] at a0 a1 a2 b0 b1 b2
  obtain ⟨R, hR⟩ : ∃ R, (if cmpI a.r b.r ≠ 0 then cmpI a.r b.r else if cmpI a.c b.c ≠ 0 then cmpI a.c b.c else cmpI a.p b.p) = R := ⟨_, rfl⟩
  have HC := Lib.hid (show cmpUs a b = R by unfold cmpUs; exact hR)
  have HR := Lib.hid hR
  clear r1 r2 B2 hR
  rw [HC.out]
  go_enter Tryd.func45, Tryd.ntmps45
  go_wp2_with fail
  generalize (w.alloc (.cells #[.int .i64 a.r, .int .i64 a.c, .int .i64 a.p, .int .i64 a.t, .int .i64 a.d] 50)).alloc (.cells #[.int .i64 b.r, .int .i64 b.c, .int .i64 b.p, .int .i64 b.t, .int .i64 b.d] 50) = w1 at a0 a1 a2 b0 b1 b2 BB ⊢
  obtain ⟨X, hX⟩ : ∃ X, w.heap.size = X := ⟨_, rfl⟩
  obtain ⟨Y, hY⟩ : ∃ Y, X + 1 = Y := ⟨_, rfl⟩
  simp only [hX, hY] at a0 a1 a2 b0 b1 b2 ⊢
  clear hX hY
  go_region_held3 (fun wz => wz.cell? ⟨X, 0, none⟩ = some (.int .i64 a.r) ∧ wz.cell? ⟨X, 1, none⟩ = some (.int .i64 a.c) ∧ wz.cell? ⟨X, 2, none⟩ = some (.int .i64 a.p) ∧ wz.cell? ⟨Y, 0, none⟩ = some (.int .i64 b.r) ∧ wz.cell? ⟨Y, 1, none⟩ = some (.int .i64 b.c) ∧ wz.cell? ⟨Y, 2, none⟩ = some (.int .i64 b.p) ∧ Gro w wz)
    (first
      | exact held6 (by assumption) (Gro.alloc _ _)
      | assumption
      | exact ⟨a0, a1, a2, b0, b1, b2, BB.trans (Gro.drew _)⟩)
    (first
      | (go_at_call 47; refine (cmpI_ok _ _ _).mono ?_; rintro e wz ⟨rfl, rfl⟩)
      | (go_at_call 46; refine (or3_ok w1.drew _ _ _ _ _ rfl HR.out).mono ?_; rintro e wz ⟨rfl, rfl⟩))
  all_goals
    rename_i hh
    have BF := Lib.hid hh.2.2.2.2.2.2
    clear hh a0 a1 a2 b0 b1 b2 BB
    go_wp2
    go_ret
    exact ⟨rfl, BF.out⟩
set_option maxHeartbeats 1000000 in
theorem sort_us (w : World) (v : Value) (xs : List Us) (base : Nat) (h : OV encUs 5 50 base w v xs) (hb : xs.length ≤ 1000000000) :
    Calls Tryd.prog 44 #[v, .func (.func 45) #[] #[]] w fun e w' => e = .returned (.tuple #[]) ∧ ∃ ys : List Us, ys.Perm xs ∧ ys.Pairwise (fun a b => ¬ LtU b a) ∧ OV encUs 5 50 base w' v ys ∧ w.grownBy w' v.ownBlock := by
  have eg : ∀ args w, (callFunc 45 args).run Tryd.prog w = .ok (.enter 45 args) w := enters_of Tryd.func45 (by kernel_rfl) rfl
  rcases h.2 with ⟨rfl, h0⟩ | ⟨g, cap, cur, rfl, hbg, hg, hnc, hcm, hcs, htake⟩
  · obtain rfl : xs = [] := List.eq_nil_of_length_eq_zero h0
    refine (AnyF.slices_SortFunc_none Tryd.sortUs none 0 _ w).mono ?_
    rintro e w' ⟨rfl, rfl⟩
    exact ⟨rfl, [], List.Perm.refl _, List.Pairwise.nil, h, ⟨rfl, rfl, rfl, Nat.le_refl _, fun _ _ _ => rfl⟩⟩
  · refine (AnyQ.slices_SortFunc Tryd.sortUs 5 (fun w => by kernel_rfl) (fun w => by kernel_rfl) encUs encUs_len encUs_one cmpUs swoUs 45 #[] g 0 cap xs.toArray w eg
      (fun m os dk _ x y => cmpUs_gro _ x y) (holdsK_row encUs_len (by decide) hg htake) (Array.getElem?_eq_some_iff.1 hg).1 (by simp; omega)).mono ?_
    rintro e w' ⟨rfl, d', n, os, ⟨hsz, _, hperm⟩, hso, rfl⟩
    have e1 : d'.extract 0 xs.toArray.size = d' := by rw [← hsz]; exact Array.extract_size
    rw [e1, Array.extract_size] at hperm
    have hpm : d'.toList.Perm xs := by simpa using hperm
    have hl : d'.toList.length = xs.length := hpm.length_eq
    refine ⟨rfl, d'.toList, hpm, ?_, ?_, ?_⟩
    · rw [List.pairwise_iff_getElem]
      intro i j hi hj hij
      have hi' : i < d'.size := by simpa using hi
      have hj' : j < d'.size := by simpa using hj
      have h1 := hso i j (Nat.zero_le _) hij (by omega)
      rw [getElem!_pos d' j hj', getElem!_pos d' i hi', ltOf_us] at h1
      simpa using h1
    · have := sortedK_row (enc := encUs) (k := 5) encUs_len (by decide) (w := w) (n := n) (os := os) hl hbg hg hnc hcm hcs
      simpa using this
    · exact sortedK_grown _
end Go.Proofs.YtaplangfppohdaaDoor
namespace Go.Proofs.YtaplangfppohdaaDoor
open Go Go.RowKit

/-- The uses at a key. -/
def ukF (gs : List (Int × Int)) (rs : List Ru) (o : List Rn) (p : Int × Int) : List Us := usesOf p.1.toNat p.2 (ruAt rs p.1.toNat).l (Mf gs rs o p.1 p.2)
def keysA (n : Nat) : List (Int × Int) := (List.range n).flatMap fun i : Nat => (List.range 64).map fun c : Nat => ((i : Int), (c : Int))
theorem flatMap_same {α β : Type} {f g : α → List β} : ∀ l : List α, (∀ x ∈ l, f x = g x) → l.flatMap f = l.flatMap g
  | [], _ => rfl
  | x :: r, h => by rw [List.flatMap_cons, List.flatMap_cons, h x (by simp), flatMap_same r (fun y hy => h y (by simp [hy]))]
section
variable {gs : List (Int × Int)} {rs : List Ru} {o : List Rn}
theorem mem_keysA {n : Nat} {p : Int × Int} : p ∈ keysA n ↔ (0 ≤ p.1 ∧ p.1 < n ∧ 0 ≤ p.2 ∧ p.2 < 64) := by
  unfold keysA
  simp only [List.mem_flatMap, List.mem_range, List.mem_map]
  constructor
  · rintro ⟨i, hi, c, hc, rfl⟩; dsimp only; omega
  · rintro ⟨h1, h2, h3, h4⟩
    exact ⟨p.1.toNat, by omega, p.2.toNat, by omega, by ext <;> simp <;> omega⟩
theorem nodup_keysA (n : Nat) : (keysA n).Nodup := by
  unfold keysA List.Nodup
  rw [List.pairwise_flatMap]
  constructor
  · intro i _
    rw [List.pairwise_map]
    exact List.Pairwise.imp (fun h => by simp; omega) (List.pairwise_lt_range)
  · refine List.Pairwise.imp (fun {a b} h => ?_) (List.pairwise_lt_range)
    intro x hx y hy
    obtain ⟨c, _, rfl⟩ := List.mem_map.1 hx
    obtain ⟨d, _, rfl⟩ := List.mem_map.1 hy
    simp; omega
theorem uses_eq : usesL gs rs o = (keysA rs.length).flatMap (ukF gs rs o) := by
  unfold usesL keysA
  rw [List.flatMap_assoc]
  refine flatMap_same _ (fun i hi => ?_)
  rw [List.flatMap_map]
  refine flatMap_same _ (fun c hc => ?_)
  have hi := List.mem_range.1 hi
  have hc := List.mem_range.1 hc
  unfold ukF Mf
  dsimp only
  rw [if_pos (by omega)]
  simp
theorem ukF_nil {p : Int × Int} (h : Mf gs rs o p.1 p.2 = []) : ukF gs rs o p = [] := by unfold ukF; rw [h]; rfl
theorem Mf_in {i c : Int} (h : Mf gs rs o i c ≠ []) : 0 ≤ i ∧ i < rs.length ∧ 0 ≤ c ∧ c < 64 := by
  unfold Mf at h
  split at h
  · assumption
  · exact absurd rfl h
theorem flatMap_filter_nil {α β : Type} (f : α → List β) (q : α → Bool) (l : List α) (h : ∀ x ∈ l, q x = false → f x = []) : (l.filter q).flatMap f = l.flatMap f := by
  induction l with
  | nil => rfl
  | cons x r ih =>
    have ih := ih (fun y hy => h y (by simp [hy]))
    rw [List.filter_cons]
    cases hq : q x with
    | true => simp only [if_true, List.flatMap_cons, ih]
    | false => simp only [Bool.false_eq_true, if_false, List.flatMap_cons, h x (by simp) hq, List.nil_append, ih]
/-- Whatever the order of the keys: the same uses. -/
theorem uses_perm {ks : List (Int × Int)} (hn : ks.Nodup) (h1 : ∀ p ∈ ks, Mf gs rs o p.1 p.2 ≠ []) (h2 : ∀ p, Mf gs rs o p.1 p.2 ≠ [] → p ∈ ks) : (ks.flatMap (ukF gs rs o)).Perm (usesL gs rs o) := by
  rw [uses_eq, ← flatMap_filter_nil (ukF gs rs o) (fun p => decide (Mf gs rs o p.1 p.2 ≠ [])) (keysA rs.length) (fun p _ hp => ukF_nil (by simpa using hp))]
  refine List.Perm.flatMap_right _ ?_
  refine (List.perm_ext_iff_of_nodup hn ((nodup_keysA _).filter _)).2 (fun p => ?_)
  rw [List.mem_filter, decide_eq_true_eq, mem_keysA]
  exact ⟨fun h => ⟨Mf_in (h1 p h), h1 p h⟩, fun h => h2 p h.2⟩
theorem usesOf_sorted {i : Nat} {c lim : Int} {ps : List (Int × Int)} {pp : Nat} {t : Int} (h : AccOk pp t ps) : (usesOf i c lim ps).Pairwise LtU := by
  unfold usesOf
  rw [List.pairwise_map]
  refine List.Pairwise.imp_of_mem (fun {a b} ha hb hab => ?_) List.pairwise_lt_range
  have ha := List.mem_range.1 ha
  have hb := List.mem_range.1 hb
  have h1 := List.pairwise_iff_getElem.1 h.inc a b ha hb hab
  unfold LtU partAt
  simp only [List.getElem?_eq_getElem ha, List.getElem?_eq_getElem hb, Option.getD_some]
  exact .inr ⟨trivial, .inr ⟨trivial, h1⟩⟩
theorem usesOf_mem {i : Nat} {c lim : Int} {ps : List (Int × Int)} {u : Us} (h : u ∈ usesOf i c lim ps) : u.r = i ∧ u.c = c := by
  unfold usesOf at h
  obtain ⟨j, _, rfl⟩ := List.mem_map.1 h
  exact ⟨rfl, rfl⟩
theorem uses_sorted {n : Nat} (hr : ∀ i, i < rs.length → RuOk n (ruAt rs i)) (ho : ∀ t ∈ o, RnOk n t) (ha : Apart o) : (usesL gs rs o).Pairwise LtU := by
  unfold usesL
  rw [List.pairwise_flatMap]
  constructor
  · intro i hi
    have hi := List.mem_range.1 hi
    rw [List.pairwise_flatMap]
    constructor
    · intro c _
      have h1 := hr i hi
      unfold RuOk at h1
      exact usesOf_sorted (used_acc (gs := gs) (r := ruAt rs i) (c := (c : Int)) h1.2.1.1 o ho ha 281474976710656 (by omega) (fun t ht _ => (ho t ht).2.2.1.2))
    · refine List.Pairwise.imp (fun {a b} h => ?_) List.pairwise_lt_range
      intro x hx y hy
      have h1 := usesOf_mem hx
      have h2 := usesOf_mem hy
      unfold LtU; omega
  · refine List.Pairwise.imp (fun {a b} h => ?_) List.pairwise_lt_range
    intro x hx y hy
    obtain ⟨c, _, hx⟩ := List.mem_flatMap.1 hx
    obtain ⟨d, _, hy⟩ := List.mem_flatMap.1 hy
    have h1 := usesOf_mem hx
    have h2 := usesOf_mem hy
    unfold LtU; omega
theorem sorted_one {l : List Us} (h : l.Pairwise LtU) {a b : Us} (ha : a ∈ l) (hb : b ∈ l) (h1 : ¬ LtU a b) (h2 : ¬ LtU b a) : a = b := by
  obtain ⟨i, hi, rfl⟩ := List.getElem_of_mem ha
  obtain ⟨j, hj, rfl⟩ := List.getElem_of_mem hb
  have hp := List.pairwise_iff_getElem.1 h
  rcases Nat.lt_trichotomy i j with hij | hij | hij
  · exact absurd (hp i j hi hj hij) h1
  · subst hij; rfl
  · exact absurd (hp j i hj hi hij) h2
theorem sorted_eq {l ys : List Us} (h : l.Pairwise LtU) (hp : ys.Perm l) (hs : ys.Pairwise fun a b => ¬ LtU b a) : ys = l := by
  refine List.Perm.eq_of_pairwise (le := fun a b => ¬ LtU b a) (fun a b ha hb h1 h2 => sorted_one h (hp.mem_iff.1 ha) hb h2 h1) hs (h.imp (fun {a b} hab hba => by unfold LtU at *; omega)) hp
end
end Go.Proofs.YtaplangfppohdaaDoor
namespace Go.Proofs.YtaplangfppohdaaDoor
open Go.RowKit Go.Shelf Go.Maps
attribute [local go_sem] Oper.semAt_some

/-- The memory of Account while it collects the uses. -/
structure OutW (B0 S rl c2 : Nat) (A2 : Option Addr) (R0 Mb rr N cnt : Nat) (left : Lit → Bool) (M : Int → Int → List (Int × Int)) (F : Lit → Option Value) (ov : Value) (outs : List Us) (W0' w : World) : Prop where
  low : Below B0 W0' w
  hS : B0 ≤ S ∧ S ≤ w.heap.size
  r0 : Boxed w R0 42 (.slice A2 rl c2)
  rg : RgV Tryd.prog 102 w Mb rr N F left cnt
  fam : Fam w B0 F M
  out : OV encUs 5 50 S w ov outs
section
variable {B0 S rl c2 : Nat} {A2 : Option Addr} {R0 Mb rr N cnt : Nat} {left : Lit → Bool} {M : Int → Int → List (Int × Int)} {F : Lit → Option Value} {ov : Value} {outs : List Us} {W0' w w' : World}
theorem OutW.below (h : OutW B0 S rl c2 A2 R0 Mb rr N cnt left M F ov outs W0' w) (hB : W0'.heap.size = B0) (hb : Below w.heap.size w w') : OutW B0 S rl c2 A2 R0 Mb rr N cnt left M F ov outs W0' w' :=
  ⟨h.low.trans (hb.mono (by have := h.low.size; omega)), ⟨h.hS.1, Nat.le_trans h.hS.2 hb.size⟩, h.r0.below hb, h.rg.below hb, h.fam.same fun g cs hg => (hb.block g (Array.getElem?_eq_some_iff.1 hg).1).trans hg, h.out.below hb⟩
theorem RgV.iter {P : Program} {k : TypeId} {b r n c : Nat} (h : RgV P k w b r n F left c) : ∃ o, w.heap[r]? = some o ∧ (∀ cs t fz, o ≠ .cells cs t fz) ∧ r ≠ b := by
  obtain ⟨D, ⟨es, clock, since, seen, c0, a1, a2, a3, a4, a5, a6⟩, q⟩ := h
  exact ⟨_, a5, (fun cs t fz e => by cases e), (fun e => by subst e; rw [a1] at a5; cases a5)⟩
/-- A block of cells of another type is written. -/
theorem OutW.other (h : OutW B0 S rl c2 A2 R0 Mb rr N cnt left M F ov outs W0' w) {D : Nat} {t : TypeId} (hD : Typ w D t) (hB : B0 ≤ D) (h1 : t ≠ 42) (h2 : t ≠ 27) (h3 : t ≠ 50) {j : Nat} (v : Value) :
    OutW B0 S rl c2 A2 R0 Mb rr N cnt left M F ov outs W0' (w.setCell ⟨D, j, none⟩ v) := by
  obtain ⟨cs, fz, hD⟩ := hD
  have hk : ∀ {k : Nat}, k ≠ D → (w.setCell ⟨D, j, none⟩ v).heap[k]? = w.heap[k]? := fun hne => Below.heap_setCell _ _ _ _ hne
  refine ⟨h.low.setCell (p := ⟨D, j, none⟩) hB v, ⟨h.hS.1, by have := h.hS.2; simpa using this⟩, h.r0.setOther (fun e => ?_), h.rg.same (hk ?_) (hk ?_), h.fam.same (fun g cs' hg => (hk ?_).trans hg), h.out.same fun g o hg ho => (hk ?_).trans ho⟩
  · have e' : R0 = D := e
    have h4 := h.r0
    rw [e'] at h4
    have := h4.symm.trans hD
    simp at this; exact h1 this.2.1.symm
  · rintro rfl
    exact h.rg.owns.ne_cells hD rfl
  · rintro rfl
    obtain ⟨o, ho, hne, _⟩ := h.rg.iter
    rw [hD] at ho
    exact hne _ _ _ (Option.some.inj ho).symm
  · rintro rfl
    rw [hD] at hg; simp at hg; exact h2 hg.2.1
  · rintro rfl
    have := h.out.not_typ ⟨cs, fz, hD⟩ h3
    exact this hg
/-- A use is added. -/
theorem OutW.app (h : OutW B0 S rl c2 A2 R0 Mb rr N cnt left M F ov outs W0' w) {v' : Value} {outs' : List Us} (ho : OV encUs 5 50 S w' v' outs') (hg : w.grownBy w' ov.ownBlock) (hB : W0'.heap.size = B0) :
    OutW B0 S rl c2 A2 R0 Mb rr N cnt left M F v' outs' W0' w' := by
  have hty : ∀ (g : Nat) (cs : Array Value) (t : TypeId) (fz : Nat × Nat), w.heap[g]? = some (.cells cs t fz) → t ≠ 50 → w'.heap[g]? = some (.cells cs t fz) := fun g cs t fz hh ht => (hg.block g (Array.getElem?_eq_some_iff.1 hh).1 (fun e => h.out.not_typ ⟨cs, fz, hh⟩ ht e.symm)).trans hh
  refine ⟨h.low.grown hg (by have := h.low.size; omega) (fun k hk => Nat.le_trans h.hS.1 (h.out.block k hk).1), ⟨h.hS.1, Nat.le_trans h.hS.2 hg.size⟩, hty _ _ _ _ h.r0 (by decide), h.rg.kept hg (fun e => ?_) (fun e => ?_), h.fam.same fun g cs hh => hty g cs _ _ hh (by decide), ho⟩
  · exact h.rg.owns.ne_row h.out e.symm
  · exact h.rg.ne_row h.out e.symm
end
theorem new_useM {w : World} {u : Us} {m : Nat} (hm : w.heap.size = m) : EV encUs 5 (w.alloc (.cells #[.int .i64 u.r, .int .i64 u.c, .int .i64 u.p, .int .i64 u.t, .int .i64 u.d] 50)) (.slice (some ⟨m, 0, none⟩) 1 1) [u] := by subst hm; exact EV.new1 rfl (Nat.le_refl _)
theorem elemUs : ElemT Tryd.prog 45 50 5 40 := ⟨Tryd.underlying45, by
  have h : (Tryd.prog.info? 50).map (fun i => (i.zero, i.size, i.bytes)) = some (some (.agg #[.int .i64 0, .int .i64 0, .int .i64 0, .int .i64 0, .int .i64 0]), 5, 40) := by kernel_rfl
  obtain ⟨i, h1, h2, h3, h4⟩ := info_parts h
  exact ⟨i, _, h1, h2, h3, h4, rfl⟩, by omega, by omega⟩

set_option maxRecDepth 100000 in
set_option maxHeartbeats 3200000 in
theorem acct_step (W0' w : World) (B0 S rl c2 R0 Mb rr N cnt KB D PB bb off i c : Nat) (left : Lit → Bool) (M : Int → Int → List (Int × Int)) (F : Lit → Option Value) (ov : Value) (outs : List Us) (per dn p1 p2 lim : Int) (Q : Exit → Act → World → Prop) {u0 u1 u2 u3 u4 u6 u7 u8 u9 u10 u11 u12 u13 u14 u17 u19 u21 u22 u23 u24 u25 u26 u27 u28 u29 u30 u31 u32 u33 u34 u35 u36 u37 u38 u39 u40 u41 u42 u43 u44 u45 u46 u47 u48 u49 u50 u51 u52 u53 u54 u55 u56 u57 u58 u59 u60 u61 u62 u63 u64 u65 u66 u67 u68 u69 u70 u71 u72 u73 u74 u75 u76 u77 u78 u79 u80 u81 u82 : Value}
    (HB : Hid (W0'.heap.size = B0)) (HO : Hid (OutW B0 S rl c2 (some ⟨bb, off, none⟩) R0 Mb rr N cnt left M F ov outs W0' w)) (HIR : Hid (i < rl)) (HCE : Hid (w.cell? ⟨D, 0, none⟩ = some (.int .i64 per) ∧ w.cell? ⟨D, 1, none⟩ = some (.int .i64 dn) ∧ w.cell? ⟨PB, 0, none⟩ = some (.int .i64 p1) ∧ w.cell? ⟨PB, 1, none⟩ = some (.int .i64 p2) ∧ w.cell? ⟨R0, 0, none⟩ = some (.slice (some ⟨bb, off, none⟩) rl c2) ∧ w.cell? ⟨KB, 0, none⟩ = some (.int .i64 (i : Nat)) ∧ w.cell? ⟨KB, 1, none⟩ = some (.int .i64 (c : Nat)) ∧ w.cell? ⟨bb, off + i * 3 + 2, none⟩ = some (.int .i64 lim) ∧ w.frozen? ⟨D, 0, none⟩ = false ∧ w.frozen? ⟨D, 1, none⟩ = false)) (HTD : Hid (Typ w D 85 ∧ B0 ≤ D)) (HLN : Hid (outs.length ≤ 900000000))
    (HAR : Hid ((0 ≤ dn ∧ dn ≤ 1152921504606846976) ∧ (0 ≤ lim ∧ lim ≤ 4294967296) ∧ (0 ≤ p2 ∧ p2 ≤ 4294967296) ∧ -1 ≤ per ∧ per < p1 ∧ p1 ≤ 281474976710656)) (HNE : Hid (D ≠ KB ∧ D ≠ PB))
    (hQ : ∀ (y56 y57 y58 y59 y60 y61 y62 y63 y64 y65 y66 y67 y68 y69 y70 y71 y72 y73 y74 y75 y76 y77 y78 : Value) (v' : Value) (w' : World), OutW B0 S rl c2 (some ⟨bb, off, none⟩) R0 Mb rr N cnt left M F v' (outs ++ [⟨(i : Int), (c : Int), p1, p2, afterN per dn p1 p2 lim⟩]) W0' w' → w'.cell? ⟨D, 0, none⟩ = some (.int .i64 p1) → w'.cell? ⟨D, 1, none⟩ = some (.int .i64 (afterN per dn p1 p2 lim)) → w'.frozen? ⟨D, 0, none⟩ = false → w'.frozen? ⟨D, 1, none⟩ = false → Typ w' D 85 →
      (∀ (k : Nat) (cs : Array Value) (t : TypeId) (fz : Nat × Nat), w.heap[k]? = some (.cells cs t fz) → k ≠ D → t ≠ 50 → w'.heap[k]? = some (.cells cs t fz)) → Q .normal ⟨#[u0, u1, u2, u3, u4, .pointer (some ⟨R0, 0, none⟩), u6, u7, u8, u9, u10, u11, u12, u13, u14, v', .pointer (some ⟨KB, 0, none⟩), u17, .pointer (some ⟨D, 0, none⟩), u19, .pointer (some ⟨PB, 0, none⟩), u21, u22, u23, u24, u25, u26, u27, u28, u29, u30, u31, u32, u33, u34, u35, u36, u37, u38, u39, u40, u41, u42, u43, u44, u45, u46, u47, u48, u49, u50, u51, u52, u53, u54, u55, y56, y57, y58, y59, y60, y61, y62, y63, y64, y65, y66, y67, y68, y69, y70, y71, y72, y73, y74, y75, y76, y77, y78, u79, u80, u81, u82], []⟩ w') :
    Code.wp Tryd.prog (tailR Tryd.f16 19) Q ⟨#[u0, u1, u2, u3, u4, .pointer (some ⟨R0, 0, none⟩), u6, u7, u8, u9, u10, u11, u12, u13, u14, ov, .pointer (some ⟨KB, 0, none⟩), u17, .pointer (some ⟨D, 0, none⟩), u19, .pointer (some ⟨PB, 0, none⟩), u21, u22, u23, u24, u25, u26, u27, u28, u29, u30, u31, u32, u33, u34, u35, u36, u37, u38, u39, u40, u41, u42, u43, u44, u45, u46, u47, u48, u49, u50, u51, u52, u53, u54, u55, u56, u57, u58, u59, u60, u61, u62, u63, u64, u65, u66, u67, u68, u69, u70, u71, u72, u73, u74, u75, u76, u77, u78, u79, u80, u81, u82], []⟩ w := by
  conv => arg 2; whnf
  conv => arg 4; dsimp only
  have HQ := Lib.hid hQ
  clear hQ
  have HI1 := Lib.hid (show (0 : Int) ≤ (i : Int) from by omega)
  have HI2 := Lib.hid (show (i : Int) < (rl : Int) from by have := HIR.out; omega)
  have HAF := Lib.hid (fun W => after_ok W per dn p1 p2 lim HAR.out.1.1 HAR.out.1.2 HAR.out.2.1.1 HAR.out.2.1.2 HAR.out.2.2.1.1 HAR.out.2.2.1.2 HAR.out.2.2.2.1 HAR.out.2.2.2.2.1 HAR.out.2.2.2.2.2)
  have HCB := Lib.hid (fun (W : World) (h : Below w.heap.size w W) => (show (W.cell? ⟨D, 0, none⟩ = some (.int .i64 per) ∧ W.cell? ⟨D, 1, none⟩ = some (.int .i64 dn) ∧ W.cell? ⟨PB, 0, none⟩ = some (.int .i64 p1) ∧ W.cell? ⟨PB, 1, none⟩ = some (.int .i64 p2) ∧ W.cell? ⟨R0, 0, none⟩ = some (.slice (some ⟨bb, off, none⟩) rl c2) ∧ W.cell? ⟨KB, 0, none⟩ = some (.int .i64 (i : Nat)) ∧ W.cell? ⟨KB, 1, none⟩ = some (.int .i64 (c : Nat)) ∧ W.cell? ⟨bb, off + i * 3 + 2, none⟩ = some (.int .i64 lim) ∧ W.frozen? ⟨D, 0, none⟩ = false ∧ W.frozen? ⟨D, 1, none⟩ = false) ∧ Below w.heap.size w W from by
    obtain ⟨c0, c1, c2, c3, c4, c5, c6, c7, f0, f1⟩ := HCE.out
    exact ⟨⟨below_cell h c0, below_cell h c1, below_cell h c2, below_cell h c3, below_cell h c4, below_cell h c5, below_cell h c6, below_cell h c7, (h.frozen (cell_lt c0)).trans f0, (h.frozen (cell_lt c1)).trans f1⟩, h⟩))
  refine wp_seq_k ?_
  intro K0 hK0
  refine wp_region_chain (by kernel_rfl) 10 rfl 2 (fun m => match m with | 0 => 8 | _ => 9) (fun x => ⟨#[u0, u1, u2, u3, u4, .pointer (some ⟨R0, 0, none⟩), u6, u7, u8, u9, u10, u11, u12, u13, u14, ov, .pointer (some ⟨KB, 0, none⟩), u17, .pointer (some ⟨D, 0, none⟩), u19, .pointer (some ⟨PB, 0, none⟩), u21, u22, u23, u24, u25, u26, u27, u28, u29, u30, u31, u32, u33, u34, u35, u36, u37, u38, u39, u40, u41, u42, u43, u44, u45, u46, u47, u48, u49, u50, u51, u52, u53, u54, u55, x 0, x 1, x 2, x 3, x 4, x 5, x 6, x 7, x 8, u65, u66, u67, u68, u69, u70, u71, u72, u73, u74, u75, u76, u77, u78, u79, u80, u81, u82], []⟩) (fun iF vF => match iF with | 0 => vF = .agg #[.int .i64 per, .int .i64 dn] | 1 => vF = .agg #[.int .i64 p1, .int .i64 p2] | 2 => vF = .slice (some ⟨bb, off, none⟩) rl c2 | 3 => vF = .pointer (some ⟨KB, 0, none⟩) | 4 => vF = .int .i64 (i : Nat) | 5 => vF = .pointer (some ⟨bb, off + i * 3, none⟩) | 6 => vF = .pointer (some ⟨bb, off + i * 3 + 2, none⟩) | 7 => vF = .int .i64 lim | _ => True)
    (fun k x W => (k < 2 → (W.cell? ⟨D, 0, none⟩ = some (.int .i64 per) ∧ W.cell? ⟨D, 1, none⟩ = some (.int .i64 dn) ∧ W.cell? ⟨PB, 0, none⟩ = some (.int .i64 p1) ∧ W.cell? ⟨PB, 1, none⟩ = some (.int .i64 p2) ∧ W.cell? ⟨R0, 0, none⟩ = some (.slice (some ⟨bb, off, none⟩) rl c2) ∧ W.cell? ⟨KB, 0, none⟩ = some (.int .i64 (i : Nat)) ∧ W.cell? ⟨KB, 1, none⟩ = some (.int .i64 (c : Nat)) ∧ W.cell? ⟨bb, off + i * 3 + 2, none⟩ = some (.int .i64 lim) ∧ W.frozen? ⟨D, 0, none⟩ = false ∧ W.frozen? ⟨D, 1, none⟩ = false) ∧ Below w.heap.size w W) ∧ (k = 1 → x 8 = .agg #[.int .i64 p1, .int .i64 (afterN per dn p1 p2 lim)]) ∧ (k = 2 → ∃ W1, Below w.heap.size w W1 ∧ W = (W1.setCell ⟨D, 0, none⟩ (.int .i64 p1)).setCell ⟨D, 1, none⟩ (.int .i64 (afterN per dn p1 p2 lim)))) (by kernel_rfl) ?hB (by kernel_rfl) (by kernel_rfl) ?hpure ?hchain ?hend (fun i => (#[u56, u57, u58, u59, u60, u61, u62, u63, u64, undef] : Array Value).getD i undef) rfl ?hstart
  case hstart =>
    try dsimp only
    exact ⟨fun _ => HCB.out _ (below_drew (Below.refl _ _)), fun h => (by first | exact h.elim | omega | cases h), fun h => (by first | exact h.elim | omega | cases h)⟩
  case hB =>
    intro k x i v W hi h
    have h8 : ¬ 8 = i := by rintro rfl; exact absurd (show true = false from hi) (by simp)
    try dsimp only at h ⊢
    rw [upd_ne h8]
    exact h
  case hpure =>
    intro iF o hi hnc ho k x W hk hB hd hbf hx K hK
    rcases (show iF = 0 ∨ iF = 1 ∨ iF = 2 ∨ iF = 3 ∨ iF = 4 ∨ iF = 5 ∨ iF = 6 ∨ iF = 7 ∨ iF = 8 ∨ iF = 9 by omega) with rfl | rfl | rfl | rfl | rfl | rfl | rfl | rfl | rfl | rfl
    · obtain rfl := Option.some.inj ho
      have hk2 : k < 2 := by
        rcases Nat.lt_or_ge k 2 with h | h
        · exact h
        · exact absurd (show false = true from (hx 1 (by omega)).symm.trans (by kernel_rfl)) (by simp)
      obtain ⟨⟨c0, c1, c2, c3, c4, c5, c6, c7, f0, f1⟩, hbl⟩ := hB.1 hk2
      clear ho hd hx hbf hB hnc hi
      simp only [upd, reduceIte, Nat.reduceEqDiff] at hK
      dsimp only
      go_simp
      exact hK _ rfl
    · obtain rfl := Option.some.inj ho
      have hk2 : k < 2 := by
        rcases Nat.lt_or_ge k 2 with h | h
        · exact h
        · exact absurd (show false = true from (hx 1 (by omega)).symm.trans (by kernel_rfl)) (by simp)
      obtain ⟨⟨c0, c1, c2, c3, c4, c5, c6, c7, f0, f1⟩, hbl⟩ := hB.1 hk2
      clear ho hd hx hbf hB hnc hi
      simp only [upd, reduceIte, Nat.reduceEqDiff] at hK
      dsimp only
      go_simp
      exact hK _ rfl
    · obtain rfl := Option.some.inj ho
      have hk2 : k < 2 := by
        rcases Nat.lt_or_ge k 2 with h | h
        · exact h
        · exact absurd (show false = true from (hx 1 (by omega)).symm.trans (by kernel_rfl)) (by simp)
      obtain ⟨⟨c0, c1, c2, c3, c4, c5, c6, c7, f0, f1⟩, hbl⟩ := hB.1 hk2
      clear ho hd hx hbf hB hnc hi
      simp only [upd, reduceIte, Nat.reduceEqDiff] at hK
      dsimp only
      go_simp
      exact hK _ rfl
    · obtain rfl := Option.some.inj ho
      clear ho hd hx hbf hB hnc hi
      simp only [upd, reduceIte, Nat.reduceEqDiff] at hK
      dsimp only
      go_simp
      exact hK _ rfl
    · obtain rfl := Option.some.inj ho
      have e3 : x 3 = .pointer (some ⟨KB, 0, none⟩) := hd 3 (by kernel_rfl) (by kernel_rfl)
      have hk2 : k < 2 := by
        rcases Nat.lt_or_ge k 2 with h | h
        · exact h
        · exact absurd (show false = true from (hx 1 (by omega)).symm.trans (by kernel_rfl)) (by simp)
      obtain ⟨⟨c0, c1, c2, c3, c4, c5, c6, c7, f0, f1⟩, hbl⟩ := hB.1 hk2
      clear ho hd hx hbf hB hnc hi
      simp only [upd, reduceIte, Nat.reduceEqDiff, e3] at hK
      dsimp only
      go_simp
      exact hK _ rfl
    · obtain rfl := Option.some.inj ho
      have e2 : x 2 = .slice (some ⟨bb, off, none⟩) rl c2 := hd 2 (by kernel_rfl) (by kernel_rfl)
      have e4 : x 4 = .int .i64 (i : Nat) := hd 4 (by kernel_rfl) (by kernel_rfl)
      have i1 := HI1.out
      have i2 := HI2.out
      clear ho hd hx hbf hB hnc hi
      simp only [upd, reduceIte, Nat.reduceEqDiff, e2, e4] at hK
      dsimp only
      go_simp
      exact hK _ rfl
    · obtain rfl := Option.some.inj ho
      have e5 : x 5 = .pointer (some ⟨bb, off + i * 3, none⟩) := hd 5 (by kernel_rfl) (by kernel_rfl)
      clear ho hd hx hbf hB hnc hi
      simp only [upd, reduceIte, Nat.reduceEqDiff, e5] at hK
      dsimp only
      go_simp
      exact hK _ rfl
    · obtain rfl := Option.some.inj ho
      have e6 : x 6 = .pointer (some ⟨bb, off + i * 3 + 2, none⟩) := hd 6 (by kernel_rfl) (by kernel_rfl)
      have hk2 : k < 2 := by
        rcases Nat.lt_or_ge k 2 with h | h
        · exact h
        · exact absurd (show false = true from (hx 1 (by omega)).symm.trans (by kernel_rfl)) (by simp)
      obtain ⟨⟨c0, c1, c2, c3, c4, c5, c6, c7, f0, f1⟩, hbl⟩ := hB.1 hk2
      clear ho hd hx hbf hB hnc hi
      simp only [upd, reduceIte, Nat.reduceEqDiff, e6] at hK
      dsimp only
      go_simp
      exact hK _ rfl
    · exact absurd (show true = false from hnc) (by simp)
    · exact absurd (show true = false from hnc) (by simp)
  case hchain =>
    intro k o hk ho x W hB hd K hK
    rcases (show k = 0 ∨ k = 1 by omega) with rfl | rfl
    · obtain rfl := Option.some.inj ho
      have e0 : x 0 = .agg #[.int .i64 per, .int .i64 dn] := hd 0 (by kernel_rfl) (by kernel_rfl)
      have e1 : x 1 = .agg #[.int .i64 p1, .int .i64 p2] := hd 1 (by kernel_rfl) (by kernel_rfl)
      have e7 : x 7 = .int .i64 lim := hd 7 (by kernel_rfl) (by kernel_rfl)
      clear ho hd hk
      have hS := hB.1 (by omega)
      obtain ⟨hc, hbl⟩ := hS
      simp only [upd, reduceIte, Nat.reduceEqDiff, e0, e1, e7] at hK
      dsimp only
      go_simp
      refine (HAF.out W).mono ?_
      rintro r W2 ⟨rfl, hb2⟩
      refine hK _ _ ?_
      try dsimp only
      exact ⟨fun _ => HCB.out W2 (hbl.trans (hb2.mono hbl.size)), fun _ => rfl, fun h => (by first | exact h.elim | omega | cases h)⟩
    · obtain rfl := Option.some.inj ho
      clear ho hd hk
      have hS := hB.1 (by omega)
      have e8 := hB.2.1 rfl
      obtain ⟨⟨c0, c1, c2, c3, c4, c5, c6, c7, f0, f1⟩, hbl⟩ := hS
      simp only [upd, reduceIte, Nat.reduceEqDiff, e8] at hK
      dsimp only
      go_simp
      refine hK undef _ ?_
      try dsimp only
      exact ⟨fun h => (by first | exact h.elim | omega | cases h), fun h => (by first | exact h.elim | omega | cases h), fun _ => ⟨W, hbl, rfl⟩⟩
  case hend =>
    intro x W hB hd
    obtain ⟨W1, hbl, rfl⟩ := hB.2.2 rfl
    clear hB hd
    dsimp only
    generalize x 0 = y56
    generalize x 1 = y57
    generalize x 2 = y58
    generalize x 3 = y59
    generalize x 4 = y60
    generalize x 5 = y61
    generalize x 6 = y62
    generalize x 7 = y63
    generalize x 8 = y64
    clear x
    obtain ⟨Z, hZ⟩ : ∃ Z, afterN per dn p1 p2 lim = Z := ⟨_, rfl⟩
    rw [hZ] at HQ ⊢
    obtain ⟨⟨k0, k1, k2, k3, k4, k5, k6, k7, f0, f1⟩, _⟩ := HCB.out W1 hbl
    have hty1 : Typ W1 D 85 := HTD.out.1.same (hbl.block D (by obtain ⟨cs, fz, h⟩ := HTD.out.1; exact (Array.getElem?_eq_some_iff.1 h).1))
    have ho1 := HO.out.below HB.out hbl
    have ho2 := ho1.other hty1 HTD.out.2 (by decide) (by decide) (by decide) (j := 0) (.int .i64 p1)
    have hty2 := hty1.set ⟨D, 0, none⟩ (.int .i64 p1)
    have HO3 := Lib.hid (ho2.other hty2 HTD.out.2 (by decide) (by decide) (by decide) (j := 1) (.int .i64 Z))
    have HTY3 := Lib.hid (hty2.set ⟨D, 1, none⟩ (.int .i64 Z))
    have hother : ∀ {p : Addr} {u : Value}, p.block ≠ D → W1.cell? p = some u → ((W1.setCell ⟨D, 0, none⟩ (.int .i64 p1)).setCell ⟨D, 1, none⟩ (.int .i64 Z)).cell? p = some u := fun {p u} hp hc => (World.cell?_of_block ((Below.heap_setCell _ _ _ _ hp).trans (Below.heap_setCell _ _ _ _ hp))).trans hc
    have HE := Lib.hid (show ((W1.setCell ⟨D, 0, none⟩ (.int .i64 p1)).setCell ⟨D, 1, none⟩ (.int .i64 Z)).cell? ⟨D, 0, none⟩ = some (.int .i64 p1) ∧ ((W1.setCell ⟨D, 0, none⟩ (.int .i64 p1)).setCell ⟨D, 1, none⟩ (.int .i64 Z)).cell? ⟨D, 1, none⟩ = some (.int .i64 Z) ∧ ((W1.setCell ⟨D, 0, none⟩ (.int .i64 p1)).setCell ⟨D, 1, none⟩ (.int .i64 Z)).frozen? ⟨D, 0, none⟩ = false ∧ ((W1.setCell ⟨D, 0, none⟩ (.int .i64 p1)).setCell ⟨D, 1, none⟩ (.int .i64 Z)).frozen? ⟨D, 1, none⟩ = false from by
      refine ⟨?_, ?_, ?_, ?_⟩
      · rw [World.cell?_setCell_other _ _ _ _ (by simp), World.cell?_setCell_same _ _ _ (by rw [k0])]
      · exact World.cell?_setCell_same _ _ _ (by rw [World.cell?_setCell_other _ _ _ _ (by simp), k1])
      · rw [World.frozen?_setCell, World.frozen?_setCell]; exact f0
      · rw [World.frozen?_setCell, World.frozen?_setCell]; exact f1)
    have e0 := HE.out.1
    have e1 := HE.out.2.1
    have e2 := hother (p := ⟨PB, 0, none⟩) (fun e => HNE.out.2 e.symm) k2
    have e3 := hother (p := ⟨PB, 1, none⟩) (fun e => HNE.out.2 e.symm) k3
    have e5 := hother (p := ⟨KB, 0, none⟩) (fun e => HNE.out.1 e.symm) k5
    have e6 := hother (p := ⟨KB, 1, none⟩) (fun e => HNE.out.1 e.symm) k6
    have HBK := Lib.hid (show ∀ (k : Nat) (cs : Array Value) (t : TypeId) (fz : Nat × Nat), w.heap[k]? = some (.cells cs t fz) → k ≠ D → ((W1.setCell ⟨D, 0, none⟩ (.int .i64 p1)).setCell ⟨D, 1, none⟩ (.int .i64 Z)).heap[k]? = some (.cells cs t fz) from fun k cs t fz hk hne =>
      (Below.heap_setCell _ _ _ _ hne).trans ((Below.heap_setCell _ _ _ _ hne).trans ((hbl.block k (Array.getElem?_eq_some_iff.1 hk).1).trans hk)))
    clear k0 k1 k2 k3 k4 k5 k6 k7 f0 f1 hty1 ho1 ho2 hty2 hother hbl HCB HAF
    generalize (W1.setCell ⟨D, 0, none⟩ (.int .i64 p1)).setCell ⟨D, 1, none⟩ (.int .i64 Z) = w3 at HO3 HTY3 HE e0 e1 e2 e3 e5 e6 HBK ⊢
    refine hK0 _ _ ?_
    go_wp2_with (at_builtin; refine wpList_app elemUs encUs_len encUs_one rfl _ _ rfl _ _ rfl rfl (HO3.out.out.alloc _) (new_useM (u := ⟨(i : Int), (c : Int), p1, p2, Z⟩) (by simp)) ?q1 ?q2 ?_)
    case q1 => have := HLN.out; simp; omega
    case q2 => have := HO3.out.hS.2; simp; omega
    intro v' w4 ho4 hg4
    have HA := Lib.hid (HO3.out.below HB.out (bel_alloc w3 (.cells #[.int .i64 (i : Nat), .int .i64 (c : Nat), .int .i64 p1, .int .i64 p2, .int .i64 Z] 50)))
    have HF := Lib.hid (HA.out.app ho4 hg4 HB.out)
    have hD3 : D < w3.heap.size := cell_lt HE.out.1
    have hbk := fun (k : Nat) (hk : k < w3.heap.size) (hn : some k ≠ ov.ownBlock) => ((hg4.block k (by simp; omega) hn).trans (Below.heap_alloc w3 (.cells #[.int .i64 (i : Nat), .int .i64 (c : Nat), .int .i64 p1, .int .i64 p2, .int .i64 Z] 50) k hk))
    have hDn : some D ≠ ov.ownBlock := fun e => HO3.out.out.not_typ HTY3.out (by decide) e.symm
    have HG := Lib.hid (And.intro ((World.cell?_of_block (a := ⟨D, 0, none⟩) (hbk D hD3 hDn)).trans HE.out.1) (And.intro ((World.cell?_of_block (a := ⟨D, 1, none⟩) (hbk D hD3 hDn)).trans HE.out.2.1) (And.intro ((World.frozen?_of_block (a := ⟨D, 0, none⟩) (hbk D hD3 hDn)).trans HE.out.2.2.1) ((World.frozen?_of_block (a := ⟨D, 1, none⟩) (hbk D hD3 hDn)).trans HE.out.2.2.2))))
    have HG2 := Lib.hid (HTY3.out.same (hbk D hD3 hDn))
    have HG3 := Lib.hid (show ∀ (k : Nat) (cs : Array Value) (t : TypeId) (fz : Nat × Nat), w.heap[k]? = some (.cells cs t fz) → k ≠ D → t ≠ 50 → w4.heap[k]? = some (.cells cs t fz) from fun k cs t fz hk hne ht => by
      have h1 := HBK.out k cs t fz hk hne
      exact (hbk k (Array.getElem?_eq_some_iff.1 h1).1 (fun e => HO3.out.out.not_typ ⟨cs, fz, h1⟩ ht e.symm)).trans h1)
    clear ho4 hg4 hbk hDn hD3 e0 e1 e2 e3 e5 e6
    go_wp2
    exact HQ.out _ _ _ _ _ _ _ _ _ _ _ _ _ _ _ _ _ _ _ _ _ _ _ v' w4 HF.out HG.out.1 HG.out.2.1 HG.out.2.2.1 HG.out.2.2.2 HG2.out HG3.out
end Go.Proofs.YtaplangfppohdaaDoor

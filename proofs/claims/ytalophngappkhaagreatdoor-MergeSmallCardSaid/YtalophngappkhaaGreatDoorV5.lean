/- A region that draws its order, by one step for each operation: what an operation yields stays true under what the others do | A region that draws its order, by one step for each operation: those that write or make memory have an invariant that tells which of them are done | append(append([]T{}, xs...), ys...) in a region that draws its order: what is known between the steps. -/
import Derived.Test.YtalophngappkhaaGreatDoorV1
import Derived.Orders
import Derived.Test.YtalophngappkhaaGreatDoorV4
set_option linter.unusedVariables false
set_option linter.unusedSimpArgs false
set_option linter.unusedSectionVars false
namespace Go.Proofs.YtalophngappkhaaGreatDoor
open Go Go.RowKit

section
variable {P : Program} {md : Region.Mode} {ops : Array Oper} {Q : Exit → Act → World → Prop}

theorem ready_mem {listed : Array Bool} {i : Nat} (h : i ∈ Region.ready md ops listed) : i < ops.size ∧ listed.getD i true = false ∧ ∃ o, ops[i]? = some o ∧ ∀ e ∈ o.after.toList, Region.binds md e = true → listed.getD e.on false = true := by
 unfold Region.ready at h
 obtain ⟨h1, h2⟩ := List.mem_filter.1 h
 have hi := List.mem_range.1 h1
 rw [Bool.and_eq_true] at h2
 obtain ⟨h3, h4⟩ := h2
 refine ⟨hi, by simpa using h3, ops[i], Array.getElem?_eq_getElem hi, fun e he hb => ?_⟩
 rw [Array.getElem?_eq_getElem hi] at h4
 simp only [Option.map_some, Option.getD_some, Array.all_eq_true_iff_forall_mem] at h4
 have := h4 e (by simpa using he)
 simpa [hb] using this
def left (listed : Array Bool) : Nat := listed.toList.countP (fun b => !b)
theorem left_set {listed : Array Bool} {i : Nat} (h : listed.getD i true = false) : left (listed.setIfInBounds i true) + 1 = left listed := by
 have hi : i < listed.size := by
  rcases Nat.lt_or_ge i listed.size with h' | h'
  ·exact h'
  ·rw [Array.getD_eq_getD_getElem?, Array.getElem?_eq_none h'] at h; simp at h
 have hv : listed.toList[i]? = some false := by
  rw [Array.getD_eq_getD_getElem?, Array.getElem?_eq_getElem hi] at h
  simp only [Option.getD_some] at h
  rw [Array.getElem?_toList, Array.getElem?_eq_getElem hi, h]
 unfold left
 rw [Array.toList_setIfInBounds]
 generalize listed.toList = l at hv
 clear h hi
 induction l generalizing i with
 | nil => simp at hv
 | cons x r ih =>
  rcases i with _ | i
  ·simp at hv; subst hv; simp
  ·simp at hv
   rw [List.set_cons_succ, List.countP_cons, List.countP_cons, ← ih hv]
   omega
theorem ready_none {listed : Array Bool} (hs : listed.size = ops.size) (h : left listed = 0) : Region.ready md ops listed = [] := by
 unfold Region.ready
 rw [List.filter_eq_nil_iff]
 intro i hi
 have hi := List.mem_range.1 hi
 have : listed.getD i true = true := by
  unfold left at h
  rw [List.countP_eq_zero] at h
  have h2 := h listed[i] (by simp)
  rw [Array.getD_eq_getD_getElem?, Array.getElem?_eq_getElem (by omega)]
  simpa using h2
 rw [this]; simp
/-- By an invariant of what has come up. -/
theorem wpAny_inv (I : Array Bool → Act → World → Prop)
  (hstep : ∀ listed a w i, listed.size = ops.size → I listed a w → i ∈ Region.ready md ops listed → wpOp P ops Q i (I (listed.setIfInBounds i true)) a w)
  (hend : ∀ listed a w, listed.size = ops.size → I listed a w → Region.ready md ops listed = [] → Q .normal a w) :
  ∀ fuel listed a w, listed.size = ops.size → left listed ≤ fuel → I listed a w → wpAny P md ops Q fuel listed a w
 | 0, listed, a, w, hs, hl, hI => by
  have hr : Region.ready md ops listed = [] := ready_none hs (by omega)
  exact ⟨hr, hend listed a w hs hI hr⟩
 | fuel + 1, listed, a, w, hs, hl, hI => ⟨hend listed a w hs hI, fun i hi => by
  have hm := ready_mem hi
  have hc := left_set hm.2.1
  exact wpOp_mono (fun a' w' h => wpAny_inv I hstep hend fuel _ a' w' (by simpa using hs) (by omega) h) (hstep listed a w i hs hI hi)⟩
/-- Operation i waits for operation j. -/
def depB (md : Region.Mode) (ops : Array Oper) (i j : Nat) : Bool := (ops[i]?).any fun o => o.after.any fun e => Region.binds md e && e.on == j
def upd (x : Nat → Value) (i : Nat) (v : Value) (j : Nat) : Value := if j = i then v else x j
theorem upd_self (x : Nat → Value) (i : Nat) (v : Value) : upd x i v i = v := if_pos rfl
theorem upd_ne {x : Nat → Value} {i j : Nat} {v : Value} (h : j ≠ i) : upd x i v j = x j := if_neg h
theorem set_cases {listed : Array Bool} {i j : Nat} (h : (listed.setIfInBounds i true).getD j false = true) : j = i ∨ listed.getD j false = true := by
 by_cases e : j = i
 ·exact .inl e
 ·right
  rw [Array.getD_eq_getD_getElem?, Array.getElem?_setIfInBounds_ne (fun h => e h.symm)] at h
  rwa [Array.getD_eq_getD_getElem?]
/-- All operations but the last only add to what is there (R); the last waits for all others. F: what an operation's value is worth; b: the frame by the operations' values. -/
theorem wp_region_last {id : Nat} {a : Act} {w : World} (hm : P.follows .mixedOrders = true) (N : Nat) (hN : ops.size = N + 1) (R : World → World → Prop)
  (b : (Nat → Value) → Act) (F : Nat → Value → World → Prop) (B : World → Prop) (hF : ∀ i v w w', R w w' → F i v w → F i v w') (hB : ∀ w w', R w w' → B w → B w')
  (hgd : (List.range (N + 1)).all (fun i => ((ops[i]?).map (·.guard.isNone)).getD false) = true)
  (hlast : (List.range N).all (depB .any ops N) = true) (hord : (List.range (N + 1)).all (fun i => ((ops[i]?).map (fun o => o.after.all fun e => !Region.binds .any e || decide (e.on < i))).getD false) = true)
  (hsteps : ∀ i o, i < N → ops[i]? = some o → ∀ x w, B w → (∀ j, depB .any ops i j = true → F j (x j) w) → ∀ K : Act → World → Prop, (∀ v w', R w w' → F i v w' → K (b (upd x i v)) w') → o.wp P (b x) w K Q)
  (hfin : ∀ o, ops[N]? = some o → ∀ x w, B w → (∀ j, j < N → F j (x j) w) → ∀ K : Act → World → Prop, (∀ a' w', Q .normal a' w' → K a' w') → o.wp P (b x) w K Q)
  (x0 : Nat → Value) (h0 : a = b x0) (hB0 : B w.drew) : (Code.region id ops true).wp P Q a w := by
 refine wp_region_any hm ?_
 have hwant : ∀ i o, ops[i]? = some o → ∀ ts, Region.wanted o (yielded ops ts) = true := fun i o ho ts => by
  have hi := (Array.getElem?_eq_some_iff.1 ho).1
  have := List.all_eq_true.1 hgd i (List.mem_range.2 (by omega))
  rw [ho] at this
  simp only [Option.map_some, Option.getD_some, Option.isNone_iff_eq_none] at this
  simp [Region.wanted, this]
 refine wpAny_inv (I := fun listed a w => ((∀ j, j ≤ N → listed.getD j false = true) ∧ Q .normal a w) ∨ (listed.getD N false = false ∧ ∃ x, a = b x ∧ B w ∧ ∀ j, j < N → listed.getD j false = true → F j (x j) w)) ?_ ?_ _ _ _ _ (by simp) ?_ ?_
 ·intro listed a w i hs hI hi
  obtain ⟨h1, h2, o, ho, hdep⟩ := ready_mem hi
  have hdp : ∀ j, depB .any ops i j = true → listed.getD j false = true := fun j hj => by
   unfold depB at hj
   rw [ho] at hj
   simp only [Option.any_some] at hj
   rw [← Array.any_toList] at hj
   obtain ⟨e, he, hj⟩ := List.any_eq_true.1 hj
   rw [Bool.and_eq_true, beq_iff_eq] at hj
   rw [← hj.2]; exact hdep e he hj.1
  have hstp : ∀ K, o.wp P a w K Q → wpOp P ops Q i K a w := fun K h => by
   unfold wpOp; rw [ho]; simp only
   rw [if_pos (hwant i o ho _)]; exact .inl h
  refine hstp _ ?_
  rcases hI with ⟨hl, _⟩ | ⟨hl, x, rfl, hb, hf⟩
  ·-- nothing comes up behind the last
   exfalso
   have := hl i (by omega)
   rw [Array.getD_eq_getD_getElem?, Array.getElem?_eq_getElem (by omega)] at h2 this
   simp at h2 this; rw [h2] at this; cases this
  ·rcases Nat.lt_or_ge i N with hiN | hiN
   ·refine Oper.wp_mono (fun a' w' h => ?_) (hsteps i o hiN ho x w hb (fun j hj => ?_) (fun a' w' => ∃ v, a' = b (upd x i v) ∧ R w w' ∧ F i v w') (fun v w' h1 h2 => ⟨v, rfl, h1, h2⟩))
    ·obtain ⟨v, rfl, hr, hfi⟩ := h
     refine .inr ⟨?_, upd x i v, rfl, hB _ _ hr hb, fun j hj hlj => ?_⟩
     ·rw [Array.getD_eq_getD_getElem?, Array.getElem?_setIfInBounds_ne (by omega), ← Array.getD_eq_getD_getElem?]; exact hl
     ·rcases set_cases hlj with rfl | hlj
      ·rw [upd_self]; exact hfi
      ·by_cases e : j = i
       ·subst e; rw [upd_self]; exact hfi
       ·rw [upd_ne e]; exact hF _ _ _ _ hr (hf j hj hlj)
    ·have hlj := hdp j hj
     rcases Nat.lt_or_ge j N with hjN | hjN
     ·exact hf j hjN hlj
     ·exfalso
      have hjs : j < listed.size := by
       rcases Nat.lt_or_ge j listed.size with h' | h'
       ·exact h'
       ·rw [Array.getD_eq_getD_getElem?, Array.getElem?_eq_none h'] at hlj; simp at hlj
      obtain rfl : j = N := by omega
      rw [hlj] at hl; cases hl
   ·obtain rfl : i = N := by omega
    have hall : ∀ j, j < i → listed.getD j false = true := fun j hj => hdp j (List.all_eq_true.1 hlast j (List.mem_range.2 hj))
    refine Oper.wp_mono (fun a' w' h => .inl ⟨fun j hj => ?_, h⟩) (hfin o ho x w hb (fun j hj => hf j hj (hall j hj)) (Q .normal) (fun _ _ h => h))
    by_cases e : j = i
    ·subst e; rw [Array.getD_eq_getD_getElem?, Array.getElem?_setIfInBounds_self_of_lt (by omega)]; rfl
    ·rw [Array.getD_eq_getD_getElem?, Array.getElem?_setIfInBounds_ne (fun h => e h.symm), ← Array.getD_eq_getD_getElem?]; exact hall j (by omega)
 ·intro listed a w hs hI hr
  rcases hI with ⟨_, h⟩ | ⟨hl, x, rfl, hb, hf⟩
  ·exact h
  ·exfalso
   -- the least that has not come up is ready
   have hle : ∀ k, k ≤ N → listed.getD k false = true := by
    intro k
    induction k using Nat.strongRecOn with
    | _ k ih =>
     intro hk
     have hks : k < listed.size := by omega
     cases hv : listed.getD k false with
     | true => rfl
     | false =>
      exfalso
      have hmem : k ∈ Region.ready .any ops listed := by
       unfold Region.ready
       refine List.mem_filter.2 ⟨List.mem_range.2 (by omega), ?_⟩
       rw [Bool.and_eq_true]
       refine ⟨?_, ?_⟩
       ·rw [Array.getD_eq_getD_getElem?, Array.getElem?_eq_getElem hks] at hv ⊢
        simpa using hv
       ·have ho := List.all_eq_true.1 hord k (List.mem_range.2 (by omega))
        rw [Array.getElem?_eq_getElem (show k < ops.size by omega)] at ho ⊢
        simp only [Option.map_some, Option.getD_some] at ho ⊢
        rw [← Array.all_toList] at ho ⊢
        rw [List.all_eq_true] at ho ⊢
        intro e he
        have hon := ho e he
        cases hbe : Region.binds .any e with
        | false => rfl
        | true =>
         rw [hbe] at hon
         have hon' : e.on < k := by simpa using hon
         rw [ih e.on hon' (by omega)]; rfl
      rw [hr] at hmem; cases hmem
   rw [hle N (Nat.le_refl _)] at hl; cases hl
 ·refine Nat.le_trans List.countP_le_length ?_
  simp
 ·exact .inr ⟨by rw [Array.getD_eq_getD_getElem?, Array.getElem?_replicate, if_pos (by omega)]; rfl, x0, h0, hB0, fun j hj h => by
   rw [Array.getD_eq_getD_getElem?, Array.getElem?_replicate] at h
   split at h <;> simp at h⟩
/-- Operations that leave the world as it is (F: what each yields), and a chain of K others, each behind the one before (B k: what is so when k of them are done). -/
theorem wp_region_chain {id : Nat} {a : Act} {w : World} (hm : P.follows .mixedOrders = true) (N : Nat) (hN : ops.size = N) (K : Nat) (ch : Nat → Nat)
  (b : (Nat → Value) → Act) (F : Nat → Value → Prop) (B : Nat → (Nat → Value) → World → Prop)
  (hch : (List.range K).all (fun k => decide (ch k < N) && (List.range K).all (fun m => k == m || ch k != ch m) && (k == 0 || depB .any ops (ch k) (ch (k - 1)))) = true)
  (hB : ∀ k x i v w, ((List.range K).any fun m => ch m == i) = false → B k x w → B k (upd x i v) w)
  (hgd : (List.range N).all (fun i => ((ops[i]?).map (·.guard.isNone)).getD false) = true)
  (hord : (List.range N).all (fun i => ((ops[i]?).map (fun o => o.after.all fun e => !Region.binds .any e || decide (e.on < i))).getD false) = true)
  (hpure : ∀ i o, i < N → ((List.range K).any fun m => ch m == i) = false → ops[i]? = some o → ∀ k x w, k ≤ K → B k x w → (∀ j, depB .any ops i j = true → ((List.range K).any fun m => ch m == j) = false → F j (x j)) → (∀ m, m < K → depB .any ops i (ch m) = true → m < k) → (∀ m, m < k → depB .any ops (ch m) i = false) →
   ∀ Kt : Act → World → Prop, (∀ v, F i v → Kt (b (upd x i v)) w) → o.wp P (b x) w Kt Q)
  (hchain : ∀ k o, k < K → ops[ch k]? = some o → ∀ x w, B k x w → (∀ j, depB .any ops (ch k) j = true → ((List.range K).any fun m => ch m == j) = false → F j (x j)) →
   ∀ Kt : Act → World → Prop, (∀ v w', B (k + 1) (upd x (ch k) v) w' → Kt (b (upd x (ch k) v)) w') → o.wp P (b x) w Kt Q)
  (hend : ∀ x w, B K x w → (∀ j, j < N → ((List.range K).any fun m => ch m == j) = false → F j (x j)) → Q .normal (b x) w)
  (x0 : Nat → Value) (h0 : a = b x0) (hB0 : B 0 x0 w.drew) : (Code.region id ops true).wp P Q a w := by
 refine wp_region_any hm ?_
 have hwant : ∀ i o, ops[i]? = some o → ∀ ts, Region.wanted o (yielded ops ts) = true := fun i o ho ts => by
  have hi := (Array.getElem?_eq_some_iff.1 ho).1
  have := List.all_eq_true.1 hgd i (List.mem_range.2 (by omega))
  rw [ho] at this
  simp only [Option.map_some, Option.getD_some, Option.isNone_iff_eq_none] at this
  simp [Region.wanted, this]
 have hc1 : ∀ k, k < K → ch k < N := fun k hk => by
  have := List.all_eq_true.1 hch k (List.mem_range.2 hk)
  simp only [Bool.and_eq_true, decide_eq_true_eq] at this
  exact this.1.1
 have hc2 : ∀ k m, k < K → m < K → ch k = ch m → k = m := fun k m hk hm e => by
  have := List.all_eq_true.1 hch k (List.mem_range.2 hk)
  simp only [Bool.and_eq_true] at this
  have := List.all_eq_true.1 this.1.2 m (List.mem_range.2 hm)
  simpa [e] using this
 have hc3 : ∀ k, 0 < k → k < K → depB .any ops (ch k) (ch (k - 1)) = true := fun k h0 hk => by
  have := List.all_eq_true.1 hch k (List.mem_range.2 hk)
  simp only [Bool.and_eq_true, Bool.or_eq_true, beq_iff_eq] at this
  rcases this.2 with h | h
  ·omega
  ·exact h
 have hnc : ∀ i, ((List.range K).any fun m => ch m == i) = true ↔ ∃ m, m < K ∧ ch m = i := fun i => by simp
 refine wpAny_inv (I := fun listed a w => ∃ x k, a = b x ∧ k ≤ K ∧ (∀ m, m < K → (listed.getD (ch m) false = true ↔ m < k)) ∧ (∀ m, m < k → ∀ j, depB .any ops (ch m) j = true → listed.getD j false = true) ∧ B k x w ∧ ∀ j, j < N → ((List.range K).any fun m => ch m == j) = false → listed.getD j false = true → F j (x j)) ?_ ?_ _ _ _ _ (by simp) ?_ ?_
 ·rintro listed a w i hs ⟨x, k, rfl, hk, hlk, hld, hb, hf⟩ hi
  obtain ⟨h1, h2, o, ho, hdep⟩ := ready_mem hi
  have hdp : ∀ j, depB .any ops i j = true → listed.getD j false = true := fun j hj => by
   unfold depB at hj
   rw [ho] at hj
   simp only [Option.any_some] at hj
   rw [← Array.any_toList] at hj
   obtain ⟨e, he, hj⟩ := List.any_eq_true.1 hj
   rw [Bool.and_eq_true, beq_iff_eq] at hj
   rw [← hj.2]; exact hdep e he hj.1
  have hlt : ∀ j, listed.getD j false = true → j < N := fun j hj => by
   rcases Nat.lt_or_ge j listed.size with h' | h'
   ·omega
   ·rw [Array.getD_eq_getD_getElem?, Array.getElem?_eq_none h'] at hj; simp at hj
  have hil : listed.getD i false = false := by
   rw [Array.getD_eq_getD_getElem?, Array.getElem?_eq_getElem (by omega)] at h2 ⊢
   simpa using h2
  have hfd : ∀ j, depB .any ops i j = true → ((List.range K).any fun m => ch m == j) = false → F j (x j) := fun j hj hn => hf j (hlt j (hdp j hj)) hn (hdp j hj)
  unfold wpOp; rw [ho]; simp only
  rw [if_pos (hwant i o ho _)]
  refine .inl ?_
  have hset : ∀ j, j ≠ i → (listed.setIfInBounds i true).getD j false = listed.getD j false := fun j hj => by
   rw [Array.getD_eq_getD_getElem?, Array.getElem?_setIfInBounds_ne (fun e => hj e.symm), ← Array.getD_eq_getD_getElem?]
  have hset' : (listed.setIfInBounds i true).getD i false = true := by
   rw [Array.getD_eq_getD_getElem?, Array.getElem?_setIfInBounds_self_of_lt (by omega)]; rfl
  cases hic : ((List.range K).any fun m => ch m == i) with
  | false =>
   have hne : ∀ m, m < K → ch m ≠ i := fun m hm e => by
    have := (hnc i).2 ⟨m, hm, e⟩
    rw [hic] at this; cases this
   refine hpure i o (by omega) hic ho k x w hk hb hfd (fun m hm hd => (hlk m hm).1 (hdp _ hd)) (fun m hm => ?_) _ (fun v hv => ⟨upd x i v, k, rfl, hk, fun m hm => ?_, fun m hm j hj => ?_, hB k x i v w hic hb, fun j hj hjc hlj => ?_⟩)
   ·cases hdd : depB .any ops (ch m) i with
    | false => rfl
    | true => rw [hld m hm i hdd] at hil; cases hil
   ·rw [hset _ (hne m hm)]; exact hlk m hm
   ·by_cases e : j = i
    ·subst e; exact hset'
    ·rw [hset _ e]; exact hld m hm j hj
   ·rcases set_cases hlj with rfl | hlj
    ·rw [upd_self]; exact hv
    ·by_cases e : j = i
     ·subst e; rw [upd_self]; exact hv
     ·rw [upd_ne e]; exact hf j hj hjc hlj
  | true =>
   obtain ⟨m, hm, rfl⟩ := (hnc i).1 hic
   have hmk : m = k := by
    have h3 : ¬ m < k := fun h => by rw [(hlk m hm).2 h] at hil; cases hil
    rcases Nat.lt_or_ge k m with h4 | h4
    ·exfalso
     have := hdp _ (hc3 m (by omega) hm)
     have := (hlk (m - 1) (by omega)).1 this
     omega
    ·omega
   subst hmk
   refine hchain m o hm ho x w hb hfd _ (fun v w' hv => ⟨upd x (ch m) v, m + 1, rfl, by omega, fun q hq => ?_, fun q hq j hj => ?_, hv, fun j hj hjc hlj => ?_⟩)
   ·by_cases e : q = m
    ·subst e; rw [hset']; simp
    ·rw [hset _ (fun h => e (hc2 q m hq hm h)), hlk q hq]; omega
   ·by_cases e : j = ch m
    ·subst e; exact hset'
    ·rw [hset _ e]
     rcases Nat.lt_or_ge q m with h | h
     ·exact hld q h j hj
     ·obtain rfl : q = m := by omega
      exact hdp j hj
   ·have hjne : j ≠ ch m := fun e => by
     have := (hnc j).2 ⟨m, hm, e.symm⟩
     rw [hjc] at this; cases this
    rw [hset _ hjne] at hlj
    rw [upd_ne hjne]; exact hf j hj hjc hlj
 ·rintro listed a w hs ⟨x, k, rfl, hk, hlk, hld, hb, hf⟩ hr
  have hle : ∀ q, q < N → listed.getD q false = true := by
   intro q
   induction q using Nat.strongRecOn with
   | _ q ih =>
    intro hq
    have hks : q < listed.size := by omega
    cases hv : listed.getD q false with
    | true => rfl
    | false =>
     exfalso
     have hmem : q ∈ Region.ready .any ops listed := by
      unfold Region.ready
      refine List.mem_filter.2 ⟨List.mem_range.2 (by omega), ?_⟩
      rw [Bool.and_eq_true]
      refine ⟨?_, ?_⟩
      ·rw [Array.getD_eq_getD_getElem?, Array.getElem?_eq_getElem hks] at hv ⊢
       simpa using hv
      ·have ho := List.all_eq_true.1 hord q (List.mem_range.2 (by omega))
       rw [Array.getElem?_eq_getElem (show q < ops.size by omega)] at ho ⊢
       simp only [Option.map_some, Option.getD_some] at ho ⊢
       rw [← Array.all_toList] at ho ⊢
       rw [List.all_eq_true] at ho ⊢
       intro e he
       have hon := ho e he
       cases hbe : Region.binds .any e with
       | false => rfl
       | true =>
        rw [hbe] at hon
        have hon' : e.on < q := by simpa using hon
        rw [ih e.on hon' (by omega)]; rfl
     rw [hr] at hmem; cases hmem
  have hkK : k = K := by
   rcases Nat.lt_or_ge k K with h | h
   ·exfalso
    have := (hlk k h).1 (hle _ (hc1 k h))
    omega
   ·omega
  subst hkK
  exact hend x w hb (fun j hj hjc => hf j hj hjc (hle j hj))
 ·refine Nat.le_trans List.countP_le_length ?_
  simp
 ·refine ⟨x0, 0, h0, Nat.zero_le _, fun m hm => ?_, fun m hm => by omega, hB0, fun j hj _ h => ?_⟩
  ·rw [Array.getD_eq_getD_getElem?, Array.getElem?_replicate]
   split <;> simp
  ·rw [Array.getD_eq_getD_getElem?, Array.getElem?_replicate] at h
   split at h <;> simp at h
end
section
variable {P : Program} {α : Type} {enc : α → List Value} {k bytes base : Nat} {t e : TypeId} {w w' : World} {v sv : Value} {xs ys : List α}
theorem wp_app {o : Oper} {a : Act} {K : Act → World → Prop} {Q : Exit → Act → World → Prop} (T : ElemT P t e k bytes) (hk : ∀ x, (enc x).length = k) (h1 : ∀ x, ∀ u ∈ enc x, u.oneCell' = true)
  (s x : Operand) (ho : o.op = .call { callee := .builtin .append, args := #[s, x], argTypes := #[t, t] })
  (v sv : Value) (hs : a.eval s = v) (hx : a.eval x = sv) (hown : OV enc k e base w v xs) (hys : EV enc k w sv ys) (hn : xs.length + ys.length ≤ 1000000000) (hbase : base ≤ w.heap.size)
  (h : ∀ v' w', OV enc k e base w' v' (xs ++ ys) → w.grownBy w' v.ownBlock → K (a.put o.dst v') w') : Oper.wp P o a w K Q := by
 obtain ⟨v', w', hr, h2, h3⟩ := run_app T hk h1 o.type hown hys hn hbase
 unfold Oper.wp execOp
 simp only [ho, resolve, invoke, builtin, Sem.run_bind, Sem.run_pure, Result.andThen_ok, List.map_toArray, List.map_cons, List.map_nil, hs, hx, hr]
 exact h v' w' h2 h3
end
end Go.Proofs.YtalophngappkhaaGreatDoor
namespace Go.Proofs.YtalophngappkhaaGreatDoor
open Go Go.RowKit

section
variable {P : Program} {ops : Array Oper} {Q : Exit → Act → World → Prop}
theorem wp_region_dag {id : Nat} {a : Act} {w : World} (hm : P.follows .mixedOrders = true) (N : Nat) (hN : ops.size = N) (M : Nat → Bool)
  (b : (Nat → Value) → Act) (F : Nat → Value → Prop) (B : (Nat → Bool) → (Nat → Value) → World → Prop)
  (hB : ∀ d d' x i v w, M i = false → (∀ m, M m = true → d' m = d m) → B d x w → B d' (upd x i v) w)
  (hgd : (List.range N).all (fun i => ((ops[i]?).map (·.guard.isNone)).getD false) = true)
  (hord : (List.range N).all (fun i => ((ops[i]?).map (fun o => o.after.all fun e => !Region.binds .any e || decide (e.on < i))).getD false) = true)
  (hpure : ∀ i o, i < N → M i = false → ops[i]? = some o → ∀ d x w, B d x w → (∀ j, depB .any ops i j = true → M j = false → F j (x j)) → (∀ j, depB .any ops i j = true → d j = true) → (∀ j, depB .any ops j i = true → d j = false) → (∀ q, d q = true → ∀ j, depB .any ops q j = true → d j = true) →
   ∀ Kt : Act → World → Prop, (∀ v, F i v → Kt (b (upd x i v)) w) → o.wp P (b x) w Kt Q)
  (hmem : ∀ i o, i < N → M i = true → ops[i]? = some o → ∀ d d' x w, B d x w → (∀ j, depB .any ops i j = true → M j = false → F j (x j)) → (∀ j, depB .any ops i j = true → d j = true) → (∀ j, depB .any ops j i = true → d j = false) → d i = false → d' i = true → (∀ m, m ≠ i → d' m = d m) → (∀ q, d q = true → ∀ j, depB .any ops q j = true → d j = true) →
   ∀ Kt : Act → World → Prop, (∀ v w', B d' (upd x i v) w' → Kt (b (upd x i v)) w') → o.wp P (b x) w Kt Q)
  (hend : ∀ d x w, (∀ i, i < N → d i = true) → B d x w → (∀ j, j < N → M j = false → F j (x j)) → Q .normal (b x) w)
  (x0 : Nat → Value) (h0 : a = b x0) (hB0 : B (fun _ => false) x0 w.drew) : (Code.region id ops true).wp P Q a w := by
 refine wp_region_any hm ?_
 have hwant : ∀ i o, ops[i]? = some o → ∀ ts, Region.wanted o (yielded ops ts) = true := fun i o ho ts => by
  have hi := (Array.getElem?_eq_some_iff.1 ho).1
  have := List.all_eq_true.1 hgd i (List.mem_range.2 (by omega))
  rw [ho] at this
  simp only [Option.map_some, Option.getD_some, Option.isNone_iff_eq_none] at this
  simp [Region.wanted, this]
 refine wpAny_inv (I := fun listed a w => ∃ x, a = b x ∧ (∀ i, listed.getD i false = true → ∀ j, depB .any ops i j = true → listed.getD j false = true) ∧ B (fun j => listed.getD j false) x w ∧ ∀ j, j < N → M j = false → listed.getD j false = true → F j (x j)) ?_ ?_ _ _ _ _ (by simp) ?_ ?_
 ·rintro listed a w i hs ⟨x, rfl, hld, hb, hf⟩ hi
  obtain ⟨h1, h2, o, ho, hdep⟩ := ready_mem hi
  have hdp : ∀ j, depB .any ops i j = true → listed.getD j false = true := fun j hj => by
   unfold depB at hj
   rw [ho] at hj
   simp only [Option.any_some] at hj
   rw [← Array.any_toList] at hj
   obtain ⟨e, he, hj⟩ := List.any_eq_true.1 hj
   rw [Bool.and_eq_true, beq_iff_eq] at hj
   rw [← hj.2]; exact hdep e he hj.1
  have hlt : ∀ j, listed.getD j false = true → j < N := fun j hj => by
   rcases Nat.lt_or_ge j listed.size with h' | h'
   ·omega
   ·rw [Array.getD_eq_getD_getElem?, Array.getElem?_eq_none h'] at hj; simp at hj
  have hil : listed.getD i false = false := by
   rw [Array.getD_eq_getD_getElem?, Array.getElem?_eq_getElem (by omega)] at h2 ⊢
   simpa using h2
  have hfd : ∀ j, depB .any ops i j = true → M j = false → F j (x j) := fun j hj hn => hf j (hlt j (hdp j hj)) hn (hdp j hj)
  have hnot : ∀ j, depB .any ops j i = true → listed.getD j false = false := fun j hj => by
   cases h : listed.getD j false with
   | false => rfl
   | true => rw [hld j h i hj] at hil; cases hil
  unfold wpOp; rw [ho]; simp only
  rw [if_pos (hwant i o ho _)]
  refine .inl ?_
  have hset : ∀ j, j ≠ i → (listed.setIfInBounds i true).getD j false = listed.getD j false := fun j hj => by
   rw [Array.getD_eq_getD_getElem?, Array.getElem?_setIfInBounds_ne (fun e => hj e.symm), ← Array.getD_eq_getD_getElem?]
  have hset' : (listed.setIfInBounds i true).getD i false = true := by
   rw [Array.getD_eq_getD_getElem?, Array.getElem?_setIfInBounds_self_of_lt (by omega)]; rfl
  have hld' : ∀ q, (listed.setIfInBounds i true).getD q false = true → ∀ j, depB .any ops q j = true → (listed.setIfInBounds i true).getD j false = true := fun q hq j hj => by
   by_cases e : j = i
   ·subst e; exact hset'
   ·rw [hset _ e]
    by_cases e2 : q = i
    ·subst e2; exact hdp j hj
    ·rw [hset _ e2] at hq; exact hld q hq j hj
  cases hic : M i with
  | false =>
   refine hpure i o (by omega) hic ho _ x w hb hfd hdp hnot hld _ (fun v hv => ⟨upd x i v, rfl, hld', hB _ _ x i v w hic (fun m hm => ?_) hb, fun j hj hjc hlj => ?_⟩)
   ·exact hset m (fun e => by subst e; rw [hic] at hm; cases hm)
   ·by_cases e : j = i
    ·subst e; rw [upd_self]; exact hv
    ·rw [hset _ e] at hlj
     rw [upd_ne e]; exact hf j hj hjc hlj
  | true =>
   refine hmem i o (by omega) hic ho _ (fun j => (listed.setIfInBounds i true).getD j false) x w hb hfd hdp hnot hil hset' hset hld _ (fun v w' hv => ⟨upd x i v, rfl, hld', hv, fun j hj hjc hlj => ?_⟩)
   have hjne : j ≠ i := fun e => by subst e; rw [hic] at hjc; cases hjc
   rw [hset _ hjne] at hlj
   rw [upd_ne hjne]; exact hf j hj hjc hlj
 ·rintro listed a w hs ⟨x, rfl, hld, hb, hf⟩ hr
  have hle : ∀ q, q < N → listed.getD q false = true := by
   intro q
   induction q using Nat.strongRecOn with
   | _ q ih =>
    intro hq
    have hks : q < listed.size := by omega
    cases hv : listed.getD q false with
    | true => rfl
    | false =>
     exfalso
     have hmem : q ∈ Region.ready .any ops listed := by
      unfold Region.ready
      refine List.mem_filter.2 ⟨List.mem_range.2 (by omega), ?_⟩
      rw [Bool.and_eq_true]
      refine ⟨?_, ?_⟩
      ·rw [Array.getD_eq_getD_getElem?, Array.getElem?_eq_getElem hks] at hv ⊢
       simpa using hv
      ·have ho := List.all_eq_true.1 hord q (List.mem_range.2 (by omega))
       rw [Array.getElem?_eq_getElem (show q < ops.size by omega)] at ho ⊢
       simp only [Option.map_some, Option.getD_some] at ho ⊢
       rw [← Array.all_toList] at ho ⊢
       rw [List.all_eq_true] at ho ⊢
       intro e he
       have hon := ho e he
       cases hbe : Region.binds .any e with
       | false => rfl
       | true =>
        rw [hbe] at hon
        have hon' : e.on < q := by simpa using hon
        rw [ih e.on hon' (by omega)]; rfl
     rw [hr] at hmem; cases hmem
  exact hend _ x w hle hb (fun j hj hjc => hf j hj hjc (hle j hj))
 ·refine Nat.le_trans List.countP_le_length ?_
  simp
 ·refine ⟨x0, h0, fun i hi => ?_, ?_, fun j hj _ h => ?_⟩
  ·rw [Array.getD_eq_getD_getElem?, Array.getElem?_replicate] at hi
   split at hi <;> simp at hi
  ·have : (fun j => (Array.replicate ops.size false).getD j false) = fun _ => false := by
    funext j
    rw [Array.getD_eq_getD_getElem?, Array.getElem?_replicate]
    split <;> simp
   rw [this]; exact hB0
  ·rw [Array.getD_eq_getD_getElem?, Array.getElem?_replicate] at h
   split at h <;> simp at h
theorem notyet {d : Nat → Bool} {i j : Nat} (hcl : ∀ q, d q = true → ∀ j, depB .any ops q j = true → d j = true) (h : d j = false) (hd : depB .any ops i j = true) : d i = false := by
 cases hi : d i with
 | false => rfl
 | true => rw [hcl i hi j hd] at h; cases h
end
end Go.Proofs.YtalophngappkhaaGreatDoor
namespace Go.Proofs.YtalophngappkhaaGreatDoor
open Go Go.RowKit

section
variable {α : Type} {enc : α → List Value} {k : Nat} {e : TypeId} {w3 W : World} {xs ys : List α} {d0 d2 d8 d9 : Bool} {v0 v2 v8 v9 u : Value}
theorem wp_app_at {P : Program} {bytes base : Nat} {t : TypeId} {w : World} {o : Oper} {a : Act} {K : Act → World → Prop} {Q : Exit → Act → World → Prop} (T : ElemT P t e k bytes) (hk : ∀ x, (enc x).length = k) (h1 : ∀ x, ∀ u ∈ enc x, u.oneCell' = true)
  (s x : Operand) (ho : o.op = .call { callee := .builtin .append, args := #[s, x], argTypes := #[t, t] })
  (v sv : Value) (hs : a.eval s = v) (hx : a.eval x = sv) (hown : OV enc k e base w v xs) (hys : EV enc k w sv ys) (hn : xs.length + ys.length ≤ 1000000000) (hbase : base ≤ w.heap.size)
  (h : ∀ v' w', OV enc k e base w' v' (xs ++ ys) → w.grownBy w' v.ownBlock → (v'.ownBlock = v.ownBlock ∨ v'.ownBlock = some w.heap.size) → K (a.put o.dst v') w') : Oper.wp P o a w K Q := by
 obtain ⟨v', w', hr, h2, h3, h4⟩ := run_app_at T hk h1 o.type hown hys hn hbase
 unfold Oper.wp execOp
 simp only [ho, resolve, invoke, builtin, Sem.run_bind, Sem.run_pure, Result.andThen_ok, List.map_toArray, List.map_cons, List.map_nil, hs, hx, hr]
 exact h v' w' h2 h3 h4
end
end Go.Proofs.YtalophngappkhaaGreatDoor

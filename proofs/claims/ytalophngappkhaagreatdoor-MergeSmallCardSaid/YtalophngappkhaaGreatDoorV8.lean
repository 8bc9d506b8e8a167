/- A region that draws its order, by one step for each operation, with guards that are known | codec.Write: the records of a row | A region that draws its order and only makes new memory: one step for each operation; what an operation has made stays true. -/
import Derived.Test.YtalophngappkhaaGreatDoorV5
import Derived.Test.YtalophngappkhaaGreatDoorV7
set_option linter.unusedVariables false
set_option linter.unusedSimpArgs false
set_option linter.unusedSectionVars false
namespace Go.Proofs.YtalophngappkhaaGreatDoor
open Go Go.RowKit

section
variable {P : Program} {ops : Array Oper} {Q : Exit → Act → World → Prop}
theorem wp_region_dagG {id : Nat} {a : Act} {w : World} (hm : P.follows .mixedOrders = true) (N : Nat) (hN : ops.size = N) (M want : Nat → Bool) (hMw : ∀ i, M i = true → want i = true)
  (b : (Nat → Value) → Act) (F : Nat → Value → Prop) (B : (Nat → Bool) → (Nat → Value) → World → Prop)
  (hB : ∀ d d' x i v w, M i = false → (∀ m, M m = true → d' m = d m) → B d x w → B d' (upd x i v) w)
  (hwant : ∀ i o, i < N → ops[i]? = some o → ∀ x, (∀ j, depB .any ops i j = true → M j = false → F j (x j)) → Region.wanted o (yielded ops (b x).tmps) = want i)
  (hoff : ∀ i o, i < N → want i = false → ops[i]? = some o → ∀ x, (b x).put o.dst undef = b (upd x i undef) ∧ F i undef)
  (hord : (List.range N).all (fun i => ((ops[i]?).map (fun o => o.after.all fun e => !Region.binds .any e || decide (e.on < i))).getD false) = true)
  (hpure : ∀ i o, i < N → M i = false → want i = true → ops[i]? = some o → ∀ d x w, B d x w → (∀ j, depB .any ops i j = true → M j = false → F j (x j)) → (∀ j, depB .any ops i j = true → d j = true) → (∀ j, depB .any ops j i = true → d j = false) → (∀ q, d q = true → ∀ j, depB .any ops q j = true → d j = true) →
   ∀ Kt : Act → World → Prop, (∀ v, F i v → Kt (b (upd x i v)) w) → o.wp P (b x) w Kt Q)
  (hmem : ∀ i o, i < N → M i = true → ops[i]? = some o → ∀ d d' x w, B d x w → (∀ j, depB .any ops i j = true → M j = false → F j (x j)) → (∀ j, depB .any ops i j = true → d j = true) → (∀ j, depB .any ops j i = true → d j = false) → d i = false → d' i = true → (∀ m, m ≠ i → d' m = d m) → (∀ q, d q = true → ∀ j, depB .any ops q j = true → d j = true) →
   ∀ Kt : Act → World → Prop, (∀ v w', B d' (upd x i v) w' → Kt (b (upd x i v)) w') → o.wp P (b x) w Kt Q)
  (hend : ∀ d x w, (∀ i, i < N → d i = true) → B d x w → (∀ j, j < N → M j = false → F j (x j)) → Q .normal (b x) w)
  (x0 : Nat → Value) (h0 : a = b x0) (hB0 : B (fun _ => false) x0 w.drew) : (Code.region id ops true).wp P Q a w := by
 refine wp_region_any hm ?_
 refine wpAny_inv (I := fun listed a w => ∃ x, a = b x ∧ (∀ i, listed.getD i false = true → ∀ j, depB .any ops i j = true → listed.getD j false = true) ∧ B (fun j => listed.getD j false) x w ∧ ∀ j, j < N → M j = false → listed.getD j false = true → F j (x j)) ?_ ?_ _ _ _ _ (by simp) ?_ ?_
 ·rintro listed a w i hs ⟨x, rfl, hld, hb, hf⟩ hi
  obtain ⟨h1, h2, o, ho, hdep⟩ := ready_mem hi
  have hdp : ∀ j, depB .any ops i j = true → listed.getD j false = true := fun j hj => by
   unfold depB at hj
   rw [ho] at hj
   simp only [Option.any_some] at hj
   rw [← Array.any_toList] at hj
   obtain ⟨e, he, hj⟩ := List.any_eq_true.1 hj
   rw [Bool.and_eq_true, beq_iff_eq] at hj
   rw [← hj.2]; exact hdep e he hj.1
  have hlt : ∀ j, listed.getD j false = true → j < N := fun j hj => by
   rcases Nat.lt_or_ge j listed.size with h' | h'
   ·omega
   ·rw [Array.getD_eq_getD_getElem?, Array.getElem?_eq_none h'] at hj; simp at hj
  have hil : listed.getD i false = false := by
   rw [Array.getD_eq_getD_getElem?, Array.getElem?_eq_getElem (by omega)] at h2 ⊢
   simpa using h2
  have hfd : ∀ j, depB .any ops i j = true → M j = false → F j (x j) := fun j hj hn => hf j (hlt j (hdp j hj)) hn (hdp j hj)
  have hnot : ∀ j, depB .any ops j i = true → listed.getD j false = false := fun j hj => by
   cases h : listed.getD j false with
   | false => rfl
   | true => rw [hld j h i hj] at hil; cases hil
  have hset : ∀ j, j ≠ i → (listed.setIfInBounds i true).getD j false = listed.getD j false := fun j hj => by
   rw [Array.getD_eq_getD_getElem?, Array.getElem?_setIfInBounds_ne (fun e => hj e.symm), ← Array.getD_eq_getD_getElem?]
  have hset' : (listed.setIfInBounds i true).getD i false = true := by
   rw [Array.getD_eq_getD_getElem?, Array.getElem?_setIfInBounds_self_of_lt (by omega)]; rfl
  have hld' : ∀ q, (listed.setIfInBounds i true).getD q false = true → ∀ j, depB .any ops q j = true → (listed.setIfInBounds i true).getD j false = true := fun q hq j hj => by
   by_cases e : j = i
   ·subst e; exact hset'
   ·rw [hset _ e]
    by_cases e2 : q = i
    ·subst e2; exact hdp j hj
    ·rw [hset _ e2] at hq; exact hld q hq j hj
  unfold wpOp; rw [ho]; simp only
  cases hwi : want i with
  | false =>
   have hic : M i = false := by
    cases h : M i with
    | false => rfl
    | true => rw [hMw i h] at hwi; cases hwi
   rw [if_neg (by rw [hwant i o (by omega) ho x hfd, hwi]; simp)]
   obtain ⟨e1, e2⟩ := hoff i o (by omega) hwi ho x
   refine ⟨upd x i undef, e1, hld', hB _ _ x i undef w hic (fun m hm => hset m (fun e => by subst e; rw [hic] at hm; cases hm)) hb, fun j hj hjc hlj => ?_⟩
   by_cases e : j = i
   ·subst e; rw [upd_self]; exact e2
   ·rw [hset _ e] at hlj
    rw [upd_ne e]; exact hf j hj hjc hlj
  | true =>
  rw [if_pos (by rw [hwant i o (by omega) ho x hfd, hwi])]
  refine .inl ?_
  cases hic : M i with
  | false =>
   refine hpure i o (by omega) hic hwi ho _ x w hb hfd hdp hnot hld _ (fun v hv => ⟨upd x i v, rfl, hld', hB _ _ x i v w hic (fun m hm => ?_) hb, fun j hj hjc hlj => ?_⟩)
   ·exact hset m (fun e => by subst e; rw [hic] at hm; cases hm)
   ·by_cases e : j = i
    ·subst e; rw [upd_self]; exact hv
    ·rw [hset _ e] at hlj
     rw [upd_ne e]; exact hf j hj hjc hlj
  | true =>
   refine hmem i o (by omega) hic ho _ (fun j => (listed.setIfInBounds i true).getD j false) x w hb hfd hdp hnot hil hset' hset hld _ (fun v w' hv => ⟨upd x i v, rfl, hld', hv, fun j hj hjc hlj => ?_⟩)
   have hjne : j ≠ i := fun e => by subst e; rw [hic] at hjc; cases hjc
   rw [hset _ hjne] at hlj
   rw [upd_ne hjne]; exact hf j hj hjc hlj
 ·rintro listed a w hs ⟨x, rfl, hld, hb, hf⟩ hr
  have hle : ∀ q, q < N → listed.getD q false = true := by
   intro q
   induction q using Nat.strongRecOn with
   | _ q ih =>
    intro hq
    have hks : q < listed.size := by omega
    cases hv : listed.getD q false with
    | true => rfl
    | false =>
     exfalso
     have hmem : q ∈ Region.ready .any ops listed := by
      unfold Region.ready
      refine List.mem_filter.2 ⟨List.mem_range.2 (by omega), ?_⟩
      rw [Bool.and_eq_true]
      refine ⟨?_, ?_⟩
      ·rw [Array.getD_eq_getD_getElem?, Array.getElem?_eq_getElem hks] at hv ⊢
       simpa using hv
      ·have ho := List.all_eq_true.1 hord q (List.mem_range.2 (by omega))
       rw [Array.getElem?_eq_getElem (show q < ops.size by omega)] at ho ⊢
       simp only [Option.map_some, Option.getD_some] at ho ⊢
       rw [← Array.all_toList] at ho ⊢
       rw [List.all_eq_true] at ho ⊢
       intro e he
       have hon := ho e he
       cases hbe : Region.binds .any e with
       | false => rfl
       | true =>
        rw [hbe] at hon
        have hon' : e.on < q := by simpa using hon
        rw [ih e.on hon' (by omega)]; rfl
     rw [hr] at hmem; cases hmem
  exact hend _ x w hle hb (fun j hj hjc => hf j hj hjc (hle j hj))
 ·refine Nat.le_trans List.countP_le_length ?_
  simp
 ·refine ⟨x0, h0, fun i hi => ?_, ?_, fun j hj _ h => ?_⟩
  ·rw [Array.getD_eq_getD_getElem?, Array.getElem?_replicate] at hi
   split at hi <;> simp at hi
  ·have : (fun j => (Array.replicate ops.size false).getD j false) = fun _ => false := by
    funext j
    rw [Array.getD_eq_getD_getElem?, Array.getElem?_replicate]
    split <;> simp
   rw [this]; exact hB0
  ·rw [Array.getD_eq_getD_getElem?, Array.getElem?_replicate] at h
   split at h <;> simp at h
end
end Go.Proofs.YtalophngappkhaaGreatDoor
namespace Go.Proofs.YtalophngappkhaaGreatDoor
open Go.RowKit Go.Shelf
attribute [local go_sem] Oper.semAt_some

theorem chk_lims {e : Ev} (h : chkEv e = 0) : (1 ≤ e.kind ∧ e.kind ≤ 10) ∧ (1 ≤ e.seq ∧ e.seq ≤ 281474976710656) ∧ (0 ≤ e.time ∧ e.time ≤ 281474976710656) ∧ e.cpu < 64 ∨ e.kind < 0 := by
 unfold chkEv at h
 by_cases h1 : e.kind = 0 ∨ 10 < e.kind
 ·rw [if_pos h1] at h; omega
 ·rw [if_neg h1] at h
  by_cases h2 : e.seq < 1 ∨ 281474976710656 < e.seq ∨ e.time < 0 ∨ 281474976710656 < e.time ∨ 64 ≤ e.cpu
  ·rw [if_pos h2] at h; omega
  ·omega
theorem chk_lim {e : Ev} (ho : EvOk e) (h : chkEv e = 0) : (1 ≤ e.kind ∧ e.kind ≤ 10) ∧ (1 ≤ e.seq ∧ e.seq ≤ 281474976710656) ∧ (0 ≤ e.time ∧ e.time ≤ 281474976710656) ∧ (0 ≤ e.cpu ∧ e.cpu < 64) := by
 have := chk_lims h
 have := ho.kind
 have := ho.cpu
 omega
/-- The base behind some events. -/
def bAt (s t : Int) (l : List Ev) : Nat → Int × Int
 | 0 => (s, t)
 | j + 1 => match l[j]? with
  | some e => (e.seq, e.time)
  | none => (s, t)
theorem recs_take : ∀ {l : List Ev} {s t : Int} {j : Nat} {e : Ev}, l[j]? = some e → recsE s t (l.take (j + 1)) = recsE s t (l.take j) ++ recE (bAt s t l j).1 (bAt s t l j).2 e
 | [], _, _, _, _, h => by simp at h
 | x :: l, s, t, 0, e, h => by
  cases h
  simp [recsE, bAt]
 | x :: l, s, t, j + 1, e, h => by
  rw [List.getElem?_cons_succ] at h
  rw [List.take_succ_cons, List.take_succ_cons, recsE, recsE, recs_take h, List.append_assoc]
  congr 3
  ·cases j with
   | zero => simp [bAt]
   | succ j => simp only [bAt, List.getElem?_cons_succ]; rw [List.getElem?_eq_getElem (by have := (List.getElem?_eq_some_iff.1 h).1; omega)]
  ·cases j with
   | zero => simp [bAt]
   | succ j => simp only [bAt, List.getElem?_cons_succ]; rw [List.getElem?_eq_getElem (by have := (List.getElem?_eq_some_iff.1 h).1; omega)]
theorem bAt_ok {l : List Ev} {s t : Int} (hr : RowOk l) (ho : ∀ e ∈ l, EvOk e) (hb : rgtB s t) (h0 : ∀ e, l[0]? = some e → s ≤ e.seq ∧ t ≤ e.time) {j : Nat} {e : Ev} (he : l[j]? = some e) :
  rgtB (bAt s t l j).1 (bAt s t l j).2 ∧ (bAt s t l j).1 ≤ e.seq ∧ (bAt s t l j).2 ≤ e.time := by
 cases j with
 | zero => exact ⟨hb, h0 e he⟩
 | succ j =>
  obtain ⟨p, hp⟩ : ∃ p, l[j]? = some p := ⟨_, List.getElem?_eq_getElem (by have := (List.getElem?_eq_some_iff.1 he).1; omega)⟩
  have h1 := (hr.at (j + 1) e he).2 j p rfl hp
  have h2 := chk_lim (ho p (List.mem_of_getElem? hp)) (hr.at j p hp).1
  simp only [bAt, hp]
  exact ⟨⟨h2.2.1.1, h2.2.1.2, h2.2.2.1.1, h2.2.2.1.2⟩, by have := h1.2.1; omega, h1.2.2⟩
theorem rec_len {s t : Int} {e : Ev} (h1 : e.seq - s < 18446744073709551616) (h2 : e.time - t < 18446744073709551616) : (recE s t e).length ≤ 61 := by
 unfold recE
 have := vall_len ((e.seq - s).toNat :: (e.time - t).toNat :: valsE e) (by
  intro x hx
  rcases List.mem_cons.1 hx with rfl | hx
  ·omega
  ·rcases List.mem_cons.1 hx with rfl | hx
   ·omega
   ·exact valsE_lt e x hx)
 have h3 := valsE_len e
 simp only [List.length_cons] at this ⊢
 omega
theorem recs_len {l : List Ev} {s t : Int} (hr : RowOk l) (ho : ∀ e ∈ l, EvOk e) (hb : rgtB s t) (h0 : ∀ e, l[0]? = some e → s ≤ e.seq ∧ t ≤ e.time) : ∀ j, j ≤ l.length → (recsE s t (l.take j)).length ≤ 61 * j
 | 0, _ => by simp [recsE]
 | j + 1, hj => by
  obtain ⟨e, he⟩ : ∃ e, l[j]? = some e := ⟨_, List.getElem?_eq_getElem (by omega)⟩
  obtain ⟨h1, h2, h3⟩ := bAt_ok hr ho hb h0 he
  obtain ⟨b1, b2, b3, b4⟩ := h1
  have h4 := chk_lim (ho e (List.mem_of_getElem? he)) (hr.at j e he).1
  have := recs_len hr ho hb h0 j (by omega)
  have h5 := rec_len (s := (bAt s t l j).1) (t := (bAt s t l j).2) (e := e) (by omega) (by omega)
  rw [recs_take he, List.length_append]
  omega
/-- The block X holds the base of two numbers. -/
structure BsBox (w : World) (X : Nat) (s t : Int) : Prop where
 cell : w.heap[X]? = some (.cells #[.int .i64 s, .int .i64 t] 175 (0, 0))
namespace BsBox
variable {w w' : World} {X : Nat} {s t : Int}
theorem new (w : World) (s t : Int) : BsBox (w.alloc (.cells #[.int .i64 s, .int .i64 t] 175)) w.heap.size s t := ⟨heap_alloc_new w _⟩
theorem lt (h : BsBox w X s t) : X < w.heap.size := (Array.getElem?_eq_some_iff.1 h.cell).1
theorem c0 (h : BsBox w X s t) : w.cell? ⟨X, 0, none⟩ = some (.int .i64 s) := (cell_of_row w X 0 _ _ (0, 0) h.cell).trans rfl
theorem c1 (h : BsBox w X s t) : w.cell? ⟨X, 1, none⟩ = some (.int .i64 t) := (cell_of_row w X 1 _ _ (0, 0) h.cell).trans rfl
theorem frz (h : BsBox w X s t) (i : Nat) : w.frozen? ⟨X, i, none⟩ = false := frozen_of_row w X i _ _ h.cell
theorem below (h : BsBox w X s t) (hb : Below w.heap.size w w') : BsBox w' X s t := ⟨(hb.block X h.lt).trans h.cell⟩
theorem low {n : Nat} (h : BsBox w X s t) (hb : Below n w w') (hn : X < n) : BsBox w' X s t := ⟨(hb.block X hn).trans h.cell⟩
theorem grown {row : Option Nat} (h : BsBox w X s t) (hg : w.grownBy w' row) (hr : row ≠ some X) : BsBox w' X s t := ⟨(hg.block X h.lt (fun e => hr e.symm)).trans h.cell⟩
end BsBox
end Go.Proofs.YtalophngappkhaaGreatDoor
namespace Go.Proofs.YtalophngappkhaaGreatDoor
open Go Go.RowKit

theorem want_v {v : Value} {t u r : Bool} (e : v = .bool t) (h : (some t == some u) = r) : ((match some v with | some (.bool b) => some b | _ => none) == some u) = r := by rw [e]; exact h
section
variable {P : Program} {ops : Array Oper} {Q : Exit → Act → World → Prop}
/-- M: the operations that make memory (and call); G i v w: what operation i has put into its slot, true as long as only new memory is written. -/
theorem wp_region_bel {id : Nat} {a : Act} {w : World} (hm : P.follows .mixedOrders = true) (N : Nat) (hN : ops.size = N) (M want : Nat → Bool) (hMw : ∀ i, M i = true → want i = true)
  (b : (Nat → Value) → Act) (F : Nat → Value → Prop) (G : Nat → Value → World → Prop) (w0 : World)
  (hG : ∀ i v W W', M i = true → G i v W → Below W.heap.size W W' → G i v W')
  (hwant : ∀ i o, i < N → ops[i]? = some o → ∀ x, (∀ j, depB .any ops i j = true → M j = false → F j (x j)) → Region.wanted o (yielded ops (b x).tmps) = want i)
  (hoff : ∀ i o, i < N → want i = false → ops[i]? = some o → ∀ x, (b x).put o.dst undef = b (upd x i undef) ∧ F i undef)
  (hord : (List.range N).all (fun i => ((ops[i]?).map (fun o => o.after.all fun e => !Region.binds .any e || decide (e.on < i))).getD false) = true)
  (hpure : ∀ i o, i < N → M i = false → want i = true → ops[i]? = some o → ∀ x w, Below w0.heap.size w0 w → (∀ j, depB .any ops i j = true → M j = false → F j (x j)) → (∀ j, depB .any ops i j = true → M j = true → G j (x j) w) →
   ∀ Kt : Act → World → Prop, (∀ v, F i v → Kt (b (upd x i v)) w) → o.wp P (b x) w Kt Q)
  (hmem : ∀ i o, i < N → M i = true → ops[i]? = some o → ∀ x w, Below w0.heap.size w0 w → (∀ j, depB .any ops i j = true → M j = false → F j (x j)) → (∀ j, depB .any ops i j = true → M j = true → G j (x j) w) →
   ∀ Kt : Act → World → Prop, (∀ v w', Below w.heap.size w w' → G i v w' → Kt (b (upd x i v)) w') → o.wp P (b x) w Kt Q)
  (hend : ∀ x w, Below w0.heap.size w0 w → (∀ j, j < N → M j = false → F j (x j)) → (∀ j, j < N → M j = true → G j (x j) w) → Q .normal (b x) w)
  (x0 : Nat → Value) (h0 : a = b x0) (hB0 : Below w0.heap.size w0 w.drew) : (Code.region id ops true).wp P Q a w := by
 refine wp_region_dagG hm N hN M want hMw b F (fun d x W => Below w0.heap.size w0 W ∧ ∀ i, M i = true → d i = true → G i (x i) W) ?_ hwant hoff hord ?_ ?_ ?_ x0 h0 ⟨hB0, fun i _ h => by cases h⟩
 ·rintro d d' x i v W hi hd ⟨h1, h2⟩
  refine ⟨h1, fun m hm' hdm => ?_⟩
  rw [upd_ne (fun e => by subst e; rw [hi] at hm'; cases hm')]
  exact h2 m hm' (by rw [← hd m hm']; exact hdm)
 ·rintro i o hi hnm hw ho d x W ⟨h1, h2⟩ hf hdn _ _ Kt hK
  exact hpure i o hi hnm hw ho x W h1 hf (fun j hj hmj => h2 j hmj (hdn j hj)) Kt hK
 ·rintro i o hi hmm ho d d' x W ⟨h1, h2⟩ hf hdn _ hdi hdi' hdm _ Kt hK
  refine hmem i o hi hmm ho x W h1 hf (fun j hj hmj => h2 j hmj (hdn j hj)) Kt (fun v W' hb hg => hK v W' ⟨h1.trans (hb.mono h1.size), fun m hm' hd' => ?_⟩)
  by_cases e : m = i
  ·subst e; rw [upd_self]; exact hg
  ·rw [upd_ne e]
   exact hG m _ _ _ hm' (h2 m hm' (by rw [← hdm m e]; exact hd')) hb
 ·rintro d x W hall ⟨h1, h2⟩ hf
  exact hend x W h1 hf (fun j hj hmj => h2 j hmj (hall j hj))
end
end Go.Proofs.YtalophngappkhaaGreatDoor

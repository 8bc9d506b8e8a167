/- The law of a range over a function whose iterator keeps memory of its own, that it makes when it begins. -/
import Derived.Test.YtofjgcbjpmgkdaaBase
set_option linter.unusedVariables false
set_option linter.unusedSimpArgs false
set_option linter.unusedSectionVars false
namespace Go.Proofs.Ytofjgcbjpmgkdaa
open Go Go.RowKit

/-- AN ITERATOR WITH MEMORY OF ITS OWN (blocks from the heap's size at its call on, below p): it calls yield at xs 0, xs 1, .. in turn till there are N, or yield says no. -/
def IterP (P : Program) (gf : Nat) (lb : Array Value) (xs : Nat → Array Value) (N : Nat) (S T : Nat → Prop) (w : World) : Prop :=
  ∀ (l : Nat) (J : Nat → Nat → World → Prop) (Jx : Nat → World → Prop) (W : World), w.heap.size ≤ W.heap.size → (∀ k o, w.heap[k]? = some o → S k → W.heap[k]? = some o) →
    (∀ p k W1 W2, J p k W1 → Mod (fun b => T b ∨ (W.heap.size ≤ b ∧ b < p)) W1 W2 → J p k W2) → (∀ p W1 W2, Jx p W1 → Mod (fun b => T b ∨ (W.heap.size ≤ b ∧ b < p)) W1 W2 → Jx p W2) →
    (∀ p k W1, k < N → W.heap.size ≤ p → p ≤ W1.heap.size → J p k W1 → YieldAt W0 0 P l (xs k) W1 fun e W2 => W1.heap.size ≤ W2.heap.size ∧ (∀ k o, W1.heap[k]? = some o → (S k ∨ (W.heap.size ≤ k ∧ k < p)) → W2.heap[k]? = some o) ∧
      ((e = .returned (.bool true) ∧ J p (k + 1) W2) ∨ (e = .returned (.bool false) ∧ Jx p W2))) →
    (∀ p, J p 0 W) →
    CallsIn W0 0 P gf (#[.func (.yield l) #[] #[]] ++ lb) W fun e W' => (∃ v, e = .returned v) ∧ ∃ p, W.heap.size ≤ p ∧ (J p N W' ∨ Jx p W')

theorem IterP.later {P : Program} {gf : Nat} {lb : Array Value} {xs : Nat → Array Value} {N : Nat} {S T : Nat → Prop} {w w' : World} (h : IterP P gf lb xs N S T w)
    (hs : w.heap.size ≤ w'.heap.size) (hk : ∀ k o, w.heap[k]? = some o → S k → w'.heap[k]? = some o) : IterP P gf lb xs N S T w' :=
  fun l J Jx W h1 h2 => h l J Jx W (Nat.le_trans hs h1) (fun k o ho hS => h2 k o (hk k o ho hS) hS)

theorem wp_rangeP {P : Program} {g : Operand} {ps : Array Tmp} {assign body : Code} {Q : Exit → Act → World → Prop} {a : Act} {w : World}
    {gf : Nat} {lb : Array Value} (hg : a.eval g = .func (.func gf) #[] lb) (eg : ∀ args w, (callFunc gf args).run P w = .ok (.enter gf args) w)
    {xs : Nat → Array Value} {N : Nat} {S T : Nat → Prop} (hit : IterP P gf lb xs N S T w) (hT : ∀ k, T k → k < w.heap.size) (hS : ∀ k, S k → k < w.heap.size) (hps : ∀ k, (xs k).size = ps.size)
    (J : Nat → Nat → World → Prop) (Jx : Nat → Code → World → Prop)
    (hJ : ∀ p k W1 W2, J p k W1 → Chg w.heap.size (fun b => T b ∨ (w.heap.size + 2 ≤ b ∧ b < p)) W1 W2 → J p k W2)
    (hJx : ∀ p c W1 W2, Jx p c W1 → Chg w.heap.size (fun b => T b ∨ (w.heap.size + 2 ≤ b ∧ b < p)) W1 W2 → Jx p c W2)
    (h0 : ∀ p, J p 0 w)
    (hround : ∀ p l k W, k < N → w.heap.size ≤ l → l < W.heap.size → w.heap.size + 2 ≤ p → p ≤ W.heap.size → J p k W →
      assign.wpIn (W0.inRound l) 0 P (Exit.then (fun a₁ W₁ => BK (fun b => S b ∨ (w.heap.size + 2 ≤ b ∧ b < p)) W W₁ ∧ ∀ W₂, Chg w.heap.size (fun _ => False) W₁ W₂ → W₂.heap.size = W₁.heap.size → body.wpIn (W0.inRound l) 0 P (rPost (fun b => S b ∨ (w.heap.size + 2 ≤ b ∧ b < p)) (J p) (Jx p) k W₂) a₁ W₂) (fun _ _ _ => False))
        { tmps := (ps.zip (xs k)).foldl (fun t (p, v) => t.setIfInBounds p v) a.tmps, defers := [] } W)
    (hdone : ∀ (p D : Nat) (W : World), J p N W → w.heap.size ≤ D → D < w.heap.size + 2 → w.heap.size + 2 ≤ p → W.heap[D]? = some (.deferred (some [])) → Q .normal { a with defers := { target := .collected D, args := #[] } :: a.defers } W)
    (hstop : ∀ (p D : Nat) (c : Code) (W : World), Jx p c W → w.heap.size ≤ D → D < w.heap.size + 2 → w.heap.size + 2 ≤ p → W.heap[D]? = some (.deferred (some [])) → c.wpIn W0 0 P Q { a with defers := { target := .collected D, args := #[] } :: a.defers } W) :
    (Code.rangeFunc g ps assign body).wpIn W0 0 P Q a w := by
  refine wpIn_rangeFunc ?_
  intro fn hfn
  obtain ⟨rec, hrec⟩ : ∃ rec : LoopState → Option Code → Loop, rec = fun st pe => { state := st, pending := pe, fn, tmps := a.tmps, params := ps, assign, body, defers := w.heap.size } := ⟨_, rfl⟩
  obtain ⟨W1, hW1⟩ : ∃ W1, (w.alloc (.deferred (some []))).alloc (.loop (rec .ready none)) = W1 := ⟨_, rfl⟩
  have hL1 : W1.heap[w.heap.size + 1]? = some (.loop (rec .ready none)) := by
    rw [← hW1]; have := World.alloc_heap_new (w.alloc (.deferred (some []))) (.loop (rec .ready none)); rwa [World.size_alloc] at this
  have hK1 : W1.heap[w.heap.size]? = some (.deferred (some [])) := by
    rw [← hW1]; exact (Below.heap_alloc _ _ _ (by simp)).trans (World.alloc_heap_new w _)
  have hM1 : Mod (fun _ => False) w W1 := by rw [← hW1]; exact (Mod.alloc _).trans (Mod.alloc _)
  have hsz1 : W1.heap.size = w.heap.size + 2 := by rw [← hW1]; simp
  have hI1 : ∀ p, J p 0 W1 := fun p => hJ p 0 w W1 (h0 p) (Chg.of_mod (hM1.weaken (fun _ _ t => t.elim)))
  refine ⟨w.heap.size + 1, [{ target := .collected w.heap.size, args := #[] }], W1, { target := .fn (.func gf) lb, args := #[.func (.yield (w.heap.size + 1)) #[] #[]] }, W1, gf,
    #[.func (.yield (w.heap.size + 1)) #[] #[]] ++ lb, W1, ?_, ?_, ?_, ?_, fun h => (by simp [Fence.wide] at h), ?_⟩
  · rw [← hW1, hrec]; exact run_enterLoop_outer _ _ _ _ _
  · simp only [resolve, hg]
    simp [go_sem]
  · intro f' hf'; trivial
  · simp [invoke, go_sem, eg]
  · have nt : ∀ p i, i < w.heap.size + 2 → ¬ ((w.heap.size ≤ i) ∧ (T i ∨ (W1.heap.size ≤ i ∧ i < p))) := fun p i hi t => by
      obtain ⟨t0, t | t⟩ := t
      · have := hT _ t; omega
      · omega
    have nt : ∀ p i, w.heap.size ≤ i ∧ i < w.heap.size + 2 → ¬ (T i ∨ (W1.heap.size ≤ i ∧ i < p)) := fun p i hi t => nt p i hi.2 ⟨hi.1, t⟩
    have conv : ∀ p (A B : World), Mod (fun b => T b ∨ (W1.heap.size ≤ b ∧ b < p)) A B → Chg w.heap.size (fun b => T b ∨ (w.heap.size + 2 ≤ b ∧ b < p)) A B := fun p A B h => by rw [hsz1] at h; exact Chg.of_mod h
    refine (hit (w.heap.size + 1)
      (fun p k W => J p k W ∧ W.heap[w.heap.size + 1]? = some (.loop (rec .ready none)) ∧ W.heap[w.heap.size]? = some (.deferred (some [])))
      (fun p W => ∃ c, Jx p c W ∧ W.heap[w.heap.size + 1]? = some (.loop (rec .done (some c))) ∧ W.heap[w.heap.size]? = some (.deferred (some [])))
      W1 hM1.size (fun k o ho _ => (hM1.block k (Array.getElem?_eq_some_iff.1 ho).1 (fun t => t)).trans ho)
      (fun p k A B hs hm => ⟨hJ p k A B hs.1 (conv p A B hm), ?_, ?_⟩) (fun p A B hs hm => ?_) ?_ (fun p => ⟨hI1 p, hL1, hK1⟩)).mono ?_
    · exact (hm.block _ (Array.getElem?_eq_some_iff.1 hs.2.1).1 (nt p _ (by omega))).trans hs.2.1
    · exact (hm.block _ (Array.getElem?_eq_some_iff.1 hs.2.2).1 (nt p _ (by omega))).trans hs.2.2
    · obtain ⟨c, hc, hl, hk⟩ := hs
      exact ⟨c, hJx p c A B hc (conv p A B hm), (hm.block _ (Array.getElem?_eq_some_iff.1 hl).1 (nt p _ (by omega))).trans hl,
        (hm.block _ (Array.getElem?_eq_some_iff.1 hk).1 (nt p _ (by omega))).trans hk⟩
    · -- ONE ROUND
      rintro p k W hk hp1 hp2 ⟨hi, hl, hd⟩
      rw [hsz1] at hp1
      obtain ⟨S', hS'⟩ : ∃ S' : Nat → Prop, S' = fun b => S b ∨ (w.heap.size + 2 ≤ b ∧ b < p) := ⟨_, rfl⟩
      have hlt : w.heap.size + 1 < W.heap.size := (Array.getElem?_eq_some_iff.1 hl).1
      have hy := run_yield (P := P) (args := xs k) hl (by rw [hrec]; exact hps k)
      rw [hrec] at hy
      refine ⟨fn, _, assign, body, hy, roundIn_of_wpIn hfn ?_⟩
      have hrd := hround p (w.heap.size + 1) k W hk (by omega) hlt hp1 hp2 hi
      rw [← hS'] at hrd
      refine wpIn_mono hrd ?_
      rintro e a1 Wa hp
      cases e with
      | normal =>
        obtain ⟨hbk, hbody⟩ := hp
        have hla := hbk.same _ _ hl (.inr rfl)
        have hda := hbk.same _ _ hd (.inr rfl)
        have hlta : w.heap.size + 1 < Wa.heap.size := (Array.getElem?_eq_some_iff.1 hla).1
        refine ⟨_, run_beginRound hla (by rw [hrec]), ?_⟩
        obtain ⟨W2, hW2⟩ : ∃ W2, Wa.putObj (w.heap.size + 1) (.loop { rec .ready none with state := .busy }) = W2 := ⟨_, rfl⟩
        rw [hW2]
        have hl2 : W2.heap[w.heap.size + 1]? = some (.loop { rec .ready none with state := .busy }) := by rw [← hW2]; exact World.putObj_heap_same hlta
        have hd2 : W2.heap[w.heap.size]? = some (.deferred (some [])) := by rw [← hW2]; exact (World.putObj_heap_other (by omega)).trans hda
        refine wpIn_mono (hbody W2 (by rw [← hW2]; exact Chg.putObj hla rfl (by omega)) (by rw [← hW2]; simp)) ?_
        have fin : ∀ (jump : Option Code) (W3 : World), BK S' W2 W3 →
            (Instr.endRound (w.heap.size + 1) jump).run P W3 = .ok (.bool jump.isNone) (W3.putObj (w.heap.size + 1) (.loop (rec (if jump.isNone then .ready else .done) jump))) ∧
            W3.heap[w.heap.size + 1]? = some (.loop { rec .ready none with state := .busy }) ∧
            (W3.putObj (w.heap.size + 1) (.loop (rec (if jump.isNone then .ready else .done) jump))).heap[w.heap.size + 1]? = some (.loop (rec (if jump.isNone then .ready else .done) jump)) ∧
            (W3.putObj (w.heap.size + 1) (.loop (rec (if jump.isNone then .ready else .done) jump))).heap[w.heap.size]? = some (.deferred (some [])) ∧
            W.heap.size ≤ (W3.putObj (w.heap.size + 1) (.loop (rec (if jump.isNone then .ready else .done) jump))).heap.size ∧
            (∀ (i : Nat) (o : Obj), W.heap[i]? = some o → (S i ∨ (W1.heap.size ≤ i ∧ i < p)) → (W3.putObj (w.heap.size + 1) (.loop (rec (if jump.isNone then .ready else .done) jump))).heap[i]? = some o) := fun jump W3 hb3 => by
          have hl3 := hb3.same _ _ hl2 (.inr rfl)
          have hd3 := hb3.same _ _ hd2 (.inr rfl)
          have hz2 : W2.heap.size = Wa.heap.size := by rw [← hW2]; simp
          have := run_endRound (P := P) jump hl3
          rw [hrec] at this ⊢
          refine ⟨this, by rw [hrec] at hl3; exact hl3, World.putObj_heap_same (Array.getElem?_eq_some_iff.1 hl3).1, (World.putObj_heap_other (by omega)).trans hd3, ?_, ?_⟩
          · have h1 := hb3.size; have h2 := hbk.size; simp; omega
          · intro i o ho hSi
            rw [hsz1] at hSi
            have hSi' : S' i := by rw [hS']; exact hSi
            have hne : i ≠ w.heap.size + 1 := by
              rcases hSi with h | h
              · have := hS i h; omega
              · omega
            have e1 := hbk.same i o ho (.inl hSi')
            have e2 : W2.heap[i]? = some o := by rw [← hW2]; exact (World.putObj_heap_other hne).trans e1
            exact (World.putObj_heap_other hne).trans (hb3.same i o e2 (.inl hSi'))
        rintro e a3 W3 hp
        cases e with
        | normal =>
          obtain ⟨hb3, hi3⟩ := hp
          obtain ⟨hr, hl3, hl4, hd4, hz4, hs4⟩ := fin none W3 hb3
          exact ⟨_, _, hr, hz4, hs4, .inl ⟨rfl, hJ _ _ _ _ hi3 (Chg.putObj hl3 rfl (by omega)), hl4, hd4⟩⟩
        | ret =>
          obtain ⟨hb3, hi3⟩ := hp
          obtain ⟨hr, hl3, hl4, hd4, hz4, hs4⟩ := fin (some .ret) W3 hb3
          exact ⟨_, _, hr, hz4, hs4, .inr ⟨rfl, .ret, hJx _ _ _ _ hi3 (Chg.putObj hl3 rfl (by omega)), hl4, hd4⟩⟩
        | exit id =>
          obtain ⟨hb3, hi3⟩ := hp
          obtain ⟨hr, hl3, hl4, hd4, hz4, hs4⟩ := fin (some (.exit id)) W3 hb3
          exact ⟨_, _, hr, hz4, hs4, .inr ⟨rfl, .exit id, hJx _ _ _ _ hi3 (Chg.putObj hl3 rfl (by omega)), hl4, hd4⟩⟩
        | goto t =>
          obtain ⟨hb3, hi3⟩ := hp
          obtain ⟨hr, hl3, hl4, hd4, hz4, hs4⟩ := fin (some (.goto t)) W3 hb3
          exact ⟨_, _, hr, hz4, hs4, .inr ⟨rfl, .goto t, hJx _ _ _ _ hi3 (Chg.putObj hl3 rfl (by omega)), hl4, hd4⟩⟩
        | panic ch => exact hp.elim
        | outgrown => exact hp.elim
      | exit id => exact hp.elim
      | goto t => exact hp.elim
      | ret => exact hp.elim
      | panic ch => exact hp.elim
      | outgrown => exact hp.elim
    · rintro e W2 ⟨⟨v, rfl⟩, p, hp, (⟨hi, hl, hk⟩ | ⟨c, hi, hl, hk⟩)⟩
      · rw [hsz1] at hp
        exact ⟨none, _, by have := run_endLoop (P := P) hl (by rw [hrec]; simp); rw [hrec] at this; exact this,
          hdone p _ _ (hJ _ _ _ _ hi (Chg.putObj hl rfl (by omega))) (Nat.le_refl _) (by omega) hp ((World.putObj_heap_other (by omega)).trans hk)⟩
      · rw [hsz1] at hp
        exact ⟨some c, _, by have := run_endLoop (P := P) hl (by rw [hrec]; simp); rw [hrec] at this; exact this,
          hstop p _ c _ (hJx _ _ _ _ hi (Chg.putObj hl rfl (by omega))) (Nat.le_refl _) (by omega) hp ((World.putObj_heap_other (by omega)).trans hk)⟩
end Go.Proofs.Ytofjgcbjpmgkdaa

/- General lemmas over any program: which blocks a piece of code may change, the law of a range over a function by an iterator's contract, and what it means that a slice value reads as a list | The builtin append onto a row of the call's own, for slices that read as lists; with the rows that a call owns | Contracts of the library's functions on slices: what each returns for slices that read as lists | How the rows of numbers that come in as arguments read, for the laws' statements. -/
import Derived.RangeFuncNested
import Derived.RangeFuncCalls
import Derived.RangeFuncLeaves
import Derived.RangeFuncRecord
import Derived.RangeFuncBox
import Derived.Below
import Derived.WalkKit
import Derived.Deep.Draws
import Derived.Lib.Hide
import Derived.OwnWalk
import Derived.Laws.AppendOwn
import Derived.Laws.OwnMore
import Derived.Deep.AppendLies
import Derived.Deep.Onto
import Derived.OwnWalkIn
import Derived.Laws.AppendOwnNone
import Derived.Test.YtalophngappkhaaGreatDoorRows
import Derived.WalkSpells
import Derived.WalkLawsBesides
import Derived.Outline
import Derived.TacticsInMore
import Derived.LoopNIn
import Derived.LoopIn
import Derived.Shelf.Abstract
import Derived.Shelf.RegionOpen
import Derived.Deep.LoopGhost
import Derived.BigQuiet
import Derived.Deep.QuietTactic
import Derived.Deep.DeepFit
import Derived.Laws.EntriesVeiled
set_option linter.unusedVariables false
set_option linter.unusedSimpArgs false
set_option linter.unusedSectionVars false
namespace Go.Proofs.YtalophngappkhaaGreatDoor
open Go Go.RowKit

/-- Only blocks of T (and new ones) may differ. -/
structure Mod (T : Nat → Prop) (w w' : World) : Prop where
 os : w'.os = w.os
 tape : w'.tape = w.tape
 output : w'.output = w.output
 size : w.heap.size ≤ w'.heap.size
 block : ∀ k, k < w.heap.size → ¬ T k → w'.heap[k]? = w.heap[k]?

def isBook : Obj → Bool
 | .loop _ | .deferred _ => true
 | _ => false

/-- Blocks of T, and book-keeping blocks from B on, may differ. -/
structure Chg (B : Nat) (T : Nat → Prop) (w w' : World) : Prop where
 os : w'.os = w.os
 tape : w'.tape = w.tape
 output : w'.output = w.output
 size : w.heap.size ≤ w'.heap.size
 block : ∀ k o, w.heap[k]? = some o → ¬ T k → (k < B ∨ isBook o = false) → w'.heap[k]? = some o

/-- What a round's body must keep: the blocks of S and the book-keeping ones. -/
structure BK (S : Nat → Prop) (w w' : World) : Prop where
 size : w.heap.size ≤ w'.heap.size
 same : ∀ k o, w.heap[k]? = some o → (S k ∨ isBook o = true) → w'.heap[k]? = some o

section
variable {T S : Nat → Prop} {B : Nat} {a b c w w' : World}

theorem Mod.refl (T : Nat → Prop) (w : World) : Mod T w w := ⟨rfl, rfl, rfl, Nat.le_refl _, fun _ _ _ => rfl⟩
theorem Mod.trans (h : Mod T a b) (k : Mod T b c) : Mod T a c :=
 ⟨k.os.trans h.os, k.tape.trans h.tape, k.output.trans h.output, Nat.le_trans h.size k.size,
  fun i hi ht => (k.block i (Nat.lt_of_lt_of_le hi h.size) ht).trans (h.block i hi ht)⟩
theorem Mod.weaken {T' : Nat → Prop} (h : Mod T a b) (ht : ∀ k, k < a.heap.size → T k → T' k) : Mod T' a b :=
 ⟨h.os, h.tape, h.output, h.size, fun k hk hn => h.block k hk (fun t => hn (ht k hk t))⟩
theorem Mod.below (h : Mod T a b) (hB : ∀ k, k < B → ¬ T k) (hs : B ≤ a.heap.size) : Below B a b :=
 ⟨h.os, h.tape, h.output, h.size, fun k hk => h.block k (by omega) (hB k hk)⟩
theorem Mod.of_below (h : Below a.heap.size a b) : Mod T a b := ⟨h.os, h.tape, h.output, h.size, fun k hk _ => h.block k hk⟩
theorem Mod.cell (h : Mod T a b) {p : Addr} {v : Value} (hc : a.cell? p = some v) (ht : ¬ T p.block) : b.cell? p = some v := by
 obtain ⟨o, ho, _⟩ := cells_of_cell hc
 exact (World.cell?_of_block (h.block p.block (Array.getElem?_eq_some_iff.1 ho).1 ht)).trans hc
theorem Mod.setCell {p : Addr} (v : Value) (hp : T p.block) : Mod T a (a.setCell p v) :=
 ⟨rfl, rfl, rfl, by simp [World.setCell], fun k _ ht => Below.heap_setCell _ _ _ _ (fun e => ht (e ▸ hp))⟩
theorem Mod.alloc (o : Obj) : Mod T a (a.alloc o) :=
 ⟨rfl, rfl, rfl, by simp, fun k hk _ => Below.heap_alloc _ _ _ hk⟩
theorem Mod.drew : Mod T a a.drew := ⟨rfl, rfl, rfl, Nat.le_refl _, fun _ _ _ => rfl⟩
theorem Mod.drewN (n : Nat) : Mod T a (a.drewN n) := ⟨rfl, rfl, rfl, Nat.le_refl _, fun _ _ _ => rfl⟩

theorem Chg.of_mod (h : Mod T a b) : Chg B T a b :=
 ⟨h.os, h.tape, h.output, h.size, fun k o ho ht _ => (h.block k (Array.getElem?_eq_some_iff.1 ho).1 ht).trans ho⟩
theorem Chg.trans (h : Chg B T a b) (k : Chg B T b c) : Chg B T a c :=
 ⟨k.os.trans h.os, k.tape.trans h.tape, k.output.trans h.output, Nat.le_trans h.size k.size,
  fun i o ho ht hb => k.block i o (h.block i o ho ht hb) ht hb⟩
theorem Chg.cell (h : Chg B T a b) {p : Addr} {v : Value} (hc : a.cell? p = some v) (ht : ¬ T p.block) : b.cell? p = some v := by
 obtain ⟨o, ho, hi⟩ := cells_of_cell hc
 have := h.block p.block o ho ht (.inr (by cases o <;> simp_all [Obj.isCells, isBook]))
 exact (World.cell?_of_block (w := a) (by rw [this, ho])).trans hc
theorem Chg.cells (h : Chg B T a b) {k : Nat} {c : Array Value} {t : TypeId} {fz : Nat × Nat} (hc : a.heap[k]? = some (.cells c t fz)) (ht : ¬ T k) : b.heap[k]? = some (.cells c t fz) :=
 h.block k _ hc ht (.inr rfl)
theorem Chg.below {B0 : Nat} {w0 : World} (h : Chg B T a b) (hb : Below B0 w0 a) (h0 : B0 ≤ w0.heap.size) (hB : B0 ≤ B) (ht : ∀ k, T k → B0 ≤ k) : Below B0 w0 b :=
 ⟨h.os.trans hb.os, h.tape.trans hb.tape, h.output.trans hb.output, Nat.le_trans hb.size h.size, fun k hk => by
  have hlt : k < a.heap.size := by have := hb.size; omega
  have := h.block k _ (Array.getElem?_eq_getElem hlt) (fun t => by have := ht k t; omega) (.inl (by omega))
  rw [this, ← Array.getElem?_eq_getElem hlt]; exact hb.block k hk⟩
theorem Chg.mod (h : Chg B T a b) (hm : Mod T w a) (hB : w.heap.size ≤ B) : Mod T w b :=
 ⟨h.os.trans hm.os, h.tape.trans hm.tape, h.output.trans hm.output, Nat.le_trans hm.size h.size, fun k hk ht => by
  have hlt : k < a.heap.size := Nat.lt_of_lt_of_le hk hm.size
  have := h.block k _ (Array.getElem?_eq_getElem hlt) ht (.inl (by omega))
  rw [this, ← Array.getElem?_eq_getElem hlt]; exact hm.block k hk ht⟩
theorem Mod.grown {row : Option Nat} (h : a.grownBy b row) (hr : ∀ g, row = some g → T g) : Mod T a b :=
 ⟨h.os, h.tape, h.output, h.size, fun k hk ht => h.block k hk (fun e => ht (hr k e.symm))⟩
theorem Mod.trans_new {T' : Nat → Prop} (h : Mod T a b) (h2 : Mod T' b c) (ht : ∀ k, k < a.heap.size → T' k → T k) : Mod T a c :=
 ⟨h2.os.trans h.os, h2.tape.trans h.tape, h2.output.trans h.output, Nat.le_trans h.size h2.size, fun k hk hn =>
  (h2.block k (Nat.lt_of_lt_of_le hk h.size) (fun t => hn (ht k hk t))).trans (h.block k hk hn)⟩
theorem Chg.putObj {l : Nat} {o o' : Obj} (hl : a.heap[l]? = some o) (ho : isBook o = true) (hB : B ≤ l) : Chg B T a (a.putObj l o') :=
 ⟨rfl, rfl, rfl, by simp, fun k x hk _ hb => by
  by_cases e : k = l
  ·subst e; rw [hl] at hk; cases hk; rcases hb with hb | hb
   ·omega
   ·rw [ho] at hb; cases hb
  ·exact (World.putObj_heap_other e).trans hk⟩

theorem BK.refl (S : Nat → Prop) (w : World) : BK S w w := ⟨Nat.le_refl _, fun _ _ h _ => h⟩
theorem BK.trans (h : BK S a b) (k : BK S b c) : BK S a c := ⟨Nat.le_trans h.size k.size, fun i o ho hs => k.same i o (h.same i o ho hs) hs⟩
theorem BK.of_mod (h : Mod T a b) (ht : ∀ k, k < a.heap.size → T k → ¬ S k ∧ ∃ o, a.heap[k]? = some o ∧ isBook o = false) : BK S a b :=
 ⟨h.size, fun k o ho hs => by
  have hlt := (Array.getElem?_eq_some_iff.1 ho).1
  refine (h.block k hlt fun t => ?_).trans ho
  obtain ⟨hn, o', ho', hb⟩ := ht k hlt t
  rw [ho] at ho'; cases ho'
  rcases hs with hs | hs
  ·exact hn hs
  ·rw [hb] at hs; cases hs⟩
theorem BK.alloc (o : Obj) : BK S a (a.alloc o) := .of_mod (T := fun _ => False) (.alloc o) (fun _ _ t => t.elim)
theorem book_of_cell {p : Addr} {v : Value} (hc : a.cell? p = some v) : ∃ o, a.heap[p.block]? = some o ∧ isBook o = false := by
 obtain ⟨o, ho, hi⟩ := cells_of_cell hc
 exact ⟨o, ho, by cases o <;> simp_all [Obj.isCells, isBook]⟩
theorem BK.setCell {p : Addr} (v : Value) {u : Value} (hc : a.cell? p = some u) (hp : ¬ S p.block) : BK S a (a.setCell p v) :=
 .of_mod (T := fun k => k = p.block) (.setCell v rfl) (fun k _ e => by subst e; exact ⟨hp, book_of_cell hc⟩)
end

theorem _root_.Go.Boxed.chg {B B0 : Nat} {T : Nat → Prop} {w w' : World} {t : TypeId} {v : Value} (h : Boxed w B t v) (hc : Chg B0 T w w') (ht : ¬ T B) : Boxed w' B t v := hc.cells h ht
theorem _root_.Go.Boxed.mod {B : Nat} {T : Nat → Prop} {w w' : World} {t : TypeId} {v : Value} (h : Boxed w B t v) (hc : Mod T w w') (ht : ¬ T B) : Boxed w' B t v := (hc.block B h.lt ht).trans h
theorem _root_.Go.Boxed.below {B : Nat} {w w' : World} {t : TypeId} {v : Value} (h : Boxed w B t v) (hc : Below w.heap.size w w') : Boxed w' B t v := (hc.block B h.lt).trans h
theorem _root_.Go.Boxed.setOther {B : Nat} {w : World} {t : TypeId} {v u : Value} {p : Addr} (h : Boxed w B t v) (hp : B ≠ p.block) : Boxed (w.setCell p u) B t v := (Below.heap_setCell _ _ _ _ hp).trans h

abbrev W0 : Fence := Fence.wide

/-- AN ITERATOR: it calls yield at xs 0, xs 1, .. in turn till there are N, or yield says no. S: the blocks that it needs; T: those of them that it writes. -/
def Iter (P : Program) (gf : Nat) (lb : Array Value) (xs : Nat → Array Value) (N : Nat) (S T : Nat → Prop) (w : World) : Prop :=
 ∀ (l : Nat) (J : Nat → World → Prop) (Jx : World → Prop) (W : World), w.heap.size ≤ W.heap.size → (∀ k o, w.heap[k]? = some o → S k → W.heap[k]? = some o) →
  (∀ k W1 W2, J k W1 → Mod T W1 W2 → J k W2) → (∀ W1 W2, Jx W1 → Mod T W1 W2 → Jx W2) →
  (∀ k W1, k < N → J k W1 → YieldAt W0 0 P l (xs k) W1 fun e W2 => W1.heap.size ≤ W2.heap.size ∧ (∀ k o, W1.heap[k]? = some o → S k → W2.heap[k]? = some o) ∧
   ((e = .returned (.bool true) ∧ J (k + 1) W2) ∨ (e = .returned (.bool false) ∧ Jx W2))) →
  J 0 W →
  CallsIn W0 0 P gf (#[.func (.yield l) #[] #[]] ++ lb) W fun e W' => (∃ v, e = .returned v) ∧ (J N W' ∨ Jx W')

theorem Iter.later {P : Program} {gf : Nat} {lb : Array Value} {xs : Nat → Array Value} {N : Nat} {S T : Nat → Prop} {w w' : World} (h : Iter P gf lb xs N S T w)
  (hs : w.heap.size ≤ w'.heap.size) (hk : ∀ k o, w.heap[k]? = some o → S k → w'.heap[k]? = some o) : Iter P gf lb xs N S T w' :=
 fun l J Jx W h1 h2 => h l J Jx W (Nat.le_trans hs h1) (fun k o ho hS => h2 k o (hk k o ho hS) hS)

def rPost (S : Nat → Prop) (J : Nat → World → Prop) (Jx : Code → World → Prop) (k : Nat) (W : World) : Exit → Act → World → Prop
 | .normal, _, W' => BK S W W' ∧ J (k + 1) W'
 | .ret, _, W' => BK S W W' ∧ Jx .ret W'
 | .exit id, _, W' => BK S W W' ∧ Jx (.exit id) W'
 | .goto t, _, W' => BK S W W' ∧ Jx (.goto t) W'
 | .panic _, _, _ => False
 | .outgrown, _, _ => False

/-- THE LOOP 'for .. := range g', outermost: by the iterator's contract and one walk of the body. -/
theorem wp_range {P : Program} {g : Operand} {ps : Array Tmp} {assign body : Code} {Q : Exit → Act → World → Prop} {a : Act} {w : World}
  {gf : Nat} {lb : Array Value} (hg : a.eval g = .func (.func gf) #[] lb) (eg : ∀ args w, (callFunc gf args).run P w = .ok (.enter gf args) w)
  {xs : Nat → Array Value} {N : Nat} {S T : Nat → Prop} (hit : Iter P gf lb xs N S T w) (hT : ∀ k, T k → k < w.heap.size) (hS : ∀ k, S k → k < w.heap.size) (hps : ∀ k, (xs k).size = ps.size)
  (J : Nat → World → Prop) (Jx : Code → World → Prop) (hJ : ∀ k W1 W2, J k W1 → Chg w.heap.size T W1 W2 → J k W2) (hJx : ∀ c W1 W2, Jx c W1 → Chg w.heap.size T W1 W2 → Jx c W2)
  (h0 : J 0 w)
  (hround : ∀ l k W, k < N → w.heap.size ≤ l → l < W.heap.size → J k W →
   assign.wpIn (W0.inRound l) 0 P (Exit.then (fun a₁ W₁ => BK S W W₁ ∧ ∀ W₂, Chg w.heap.size (fun _ => False) W₁ W₂ → W₂.heap.size = W₁.heap.size → body.wpIn (W0.inRound l) 0 P (rPost S J Jx k W₂) a₁ W₂) (fun _ _ _ => False))
    { tmps := (ps.zip (xs k)).foldl (fun t (p, v) => t.setIfInBounds p v) a.tmps, defers := [] } W)
  (hdone : ∀ (D : Nat) (W : World), J N W → w.heap.size ≤ D → W.heap[D]? = some (.deferred (some [])) → Q .normal { a with defers := { target := .collected D, args := #[] } :: a.defers } W)
  (hstop : ∀ (D : Nat) (c : Code) (W : World), Jx c W → w.heap.size ≤ D → W.heap[D]? = some (.deferred (some [])) → c.wpIn W0 0 P Q { a with defers := { target := .collected D, args := #[] } :: a.defers } W) :
  (Code.rangeFunc g ps assign body).wpIn W0 0 P Q a w := by
 refine wpIn_rangeFunc ?_
 intro fn hfn
 obtain ⟨rec, hrec⟩ : ∃ rec : LoopState → Option Code → Loop, rec = fun st pe => { state := st, pending := pe, fn, tmps := a.tmps, params := ps, assign, body, defers := w.heap.size } := ⟨_, rfl⟩
 obtain ⟨W1, hW1⟩ : ∃ W1, (w.alloc (.deferred (some []))).alloc (.loop (rec .ready none)) = W1 := ⟨_, rfl⟩
 have hL1 : W1.heap[w.heap.size + 1]? = some (.loop (rec .ready none)) := by
  rw [← hW1]; have := World.alloc_heap_new (w.alloc (.deferred (some []))) (.loop (rec .ready none)); rwa [World.size_alloc] at this
 have hK1 : W1.heap[w.heap.size]? = some (.deferred (some [])) := by
  rw [← hW1]; exact (Below.heap_alloc _ _ _ (by simp)).trans (World.alloc_heap_new w _)
 have hM1 : Mod (fun _ => False) w W1 := by rw [← hW1]; exact (Mod.alloc _).trans (Mod.alloc _)
 have hI1 : J 0 W1 := hJ 0 w W1 h0 (Chg.of_mod (hM1.weaken (fun _ _ t => t.elim)))
 refine ⟨w.heap.size + 1, [{ target := .collected w.heap.size, args := #[] }], W1, { target := .fn (.func gf) lb, args := #[.func (.yield (w.heap.size + 1)) #[] #[]] }, W1, gf,
  #[.func (.yield (w.heap.size + 1)) #[] #[]] ++ lb, W1, ?_, ?_, ?_, ?_, fun h => (by simp [Fence.wide] at h), ?_⟩
 ·rw [← hW1, hrec]; exact run_enterLoop_outer _ _ _ _ _
 ·simp only [resolve, hg]
  simp [go_sem]
 ·intro f' hf'; trivial
 ·simp [invoke, go_sem, eg]
 ·refine (hit (w.heap.size + 1)
   (fun k W => J k W ∧ W.heap[w.heap.size + 1]? = some (.loop (rec .ready none)) ∧ W.heap[w.heap.size]? = some (.deferred (some [])))
   (fun W => ∃ c, Jx c W ∧ W.heap[w.heap.size + 1]? = some (.loop (rec .done (some c))) ∧ W.heap[w.heap.size]? = some (.deferred (some [])))
   W1 hM1.size (fun k o ho _ => (hM1.block k (Array.getElem?_eq_some_iff.1 ho).1 (fun t => t)).trans ho)
   (fun k A B hs hm => ⟨hJ k A B hs.1 (Chg.of_mod hm), ?_, ?_⟩) (fun A B hs hm => ?_) ?_ ⟨hI1, hL1, hK1⟩).mono ?_
  ·exact (hm.block _ (Array.getElem?_eq_some_iff.1 hs.2.1).1 (fun t => by have := hT _ t; omega)).trans hs.2.1
  ·exact (hm.block _ (Array.getElem?_eq_some_iff.1 hs.2.2).1 (fun t => by have := hT _ t; omega)).trans hs.2.2
  ·obtain ⟨c, hc, hl, hk⟩ := hs
   exact ⟨c, hJx c A B hc (Chg.of_mod hm), (hm.block _ (Array.getElem?_eq_some_iff.1 hl).1 (fun t => by have := hT _ t; omega)).trans hl,
    (hm.block _ (Array.getElem?_eq_some_iff.1 hk).1 (fun t => by have := hT _ t; omega)).trans hk⟩
  ·-- ONE ROUND
   rintro k W hk ⟨hi, hl, hd⟩
   have hlt : w.heap.size + 1 < W.heap.size := (Array.getElem?_eq_some_iff.1 hl).1
   have hy := run_yield (P := P) (args := xs k) hl (by rw [hrec]; exact hps k)
   rw [hrec] at hy
   refine ⟨fn, _, assign, body, hy, roundIn_of_wpIn hfn ?_⟩
   refine wpIn_mono (hround (w.heap.size + 1) k W hk (by omega) hlt hi) ?_
   rintro e a1 Wa hp
   cases e with
   | normal =>
    obtain ⟨hbk, hbody⟩ := hp
    have hla := hbk.same _ _ hl (.inr rfl)
    have hda := hbk.same _ _ hd (.inr rfl)
    have hlta : w.heap.size + 1 < Wa.heap.size := (Array.getElem?_eq_some_iff.1 hla).1
    refine ⟨_, run_beginRound hla (by rw [hrec]), ?_⟩
    obtain ⟨W2, hW2⟩ : ∃ W2, Wa.putObj (w.heap.size + 1) (.loop { rec .ready none with state := .busy }) = W2 := ⟨_, rfl⟩
    rw [hW2]
    have hl2 : W2.heap[w.heap.size + 1]? = some (.loop { rec .ready none with state := .busy }) := by rw [← hW2]; exact World.putObj_heap_same hlta
    have hd2 : W2.heap[w.heap.size]? = some (.deferred (some [])) := by rw [← hW2]; exact (World.putObj_heap_other (by omega)).trans hda
    refine wpIn_mono (hbody W2 (by rw [← hW2]; exact Chg.putObj hla rfl (by omega)) (by rw [← hW2]; simp)) ?_
    have fin : ∀ (jump : Option Code) (W3 : World), BK S W2 W3 →
      (Instr.endRound (w.heap.size + 1) jump).run P W3 = .ok (.bool jump.isNone) (W3.putObj (w.heap.size + 1) (.loop (rec (if jump.isNone then .ready else .done) jump))) ∧
      W3.heap[w.heap.size + 1]? = some (.loop { rec .ready none with state := .busy }) ∧
      (W3.putObj (w.heap.size + 1) (.loop (rec (if jump.isNone then .ready else .done) jump))).heap[w.heap.size + 1]? = some (.loop (rec (if jump.isNone then .ready else .done) jump)) ∧
      (W3.putObj (w.heap.size + 1) (.loop (rec (if jump.isNone then .ready else .done) jump))).heap[w.heap.size]? = some (.deferred (some [])) ∧
      W.heap.size ≤ (W3.putObj (w.heap.size + 1) (.loop (rec (if jump.isNone then .ready else .done) jump))).heap.size ∧
      (∀ (i : Nat) (o : Obj), W.heap[i]? = some o → S i → (W3.putObj (w.heap.size + 1) (.loop (rec (if jump.isNone then .ready else .done) jump))).heap[i]? = some o) := fun jump W3 hb3 => by
     have hl3 := hb3.same _ _ hl2 (.inr rfl)
     have hd3 := hb3.same _ _ hd2 (.inr rfl)
     have hz2 : W2.heap.size = Wa.heap.size := by rw [← hW2]; simp
     have := run_endRound (P := P) jump hl3
     rw [hrec] at this ⊢
     refine ⟨this, by rw [hrec] at hl3; exact hl3, World.putObj_heap_same (Array.getElem?_eq_some_iff.1 hl3).1, (World.putObj_heap_other (by omega)).trans hd3, ?_, ?_⟩
     ·have h1 := hb3.size; have h2 := hbk.size; simp; omega
     ·intro i o ho hSi
      have hne : i ≠ w.heap.size + 1 := by have := hS i hSi; omega
      have e1 := hbk.same i o ho (.inl hSi)
      have e2 : W2.heap[i]? = some o := by rw [← hW2]; exact (World.putObj_heap_other hne).trans e1
      exact (World.putObj_heap_other hne).trans (hb3.same i o e2 (.inl hSi))
    rintro e a3 W3 hp
    cases e with
    | normal =>
     obtain ⟨hb3, hi3⟩ := hp
     obtain ⟨hr, hl3, hl4, hd4, hz4, hs4⟩ := fin none W3 hb3
     exact ⟨_, _, hr, hz4, hs4, .inl ⟨rfl, hJ _ _ _ hi3 (Chg.putObj hl3 rfl (by omega)), hl4, hd4⟩⟩
    | ret =>
     obtain ⟨hb3, hi3⟩ := hp
     obtain ⟨hr, hl3, hl4, hd4, hz4, hs4⟩ := fin (some .ret) W3 hb3
     exact ⟨_, _, hr, hz4, hs4, .inr ⟨rfl, .ret, hJx _ _ _ hi3 (Chg.putObj hl3 rfl (by omega)), hl4, hd4⟩⟩
    | exit id =>
     obtain ⟨hb3, hi3⟩ := hp
     obtain ⟨hr, hl3, hl4, hd4, hz4, hs4⟩ := fin (some (.exit id)) W3 hb3
     exact ⟨_, _, hr, hz4, hs4, .inr ⟨rfl, .exit id, hJx _ _ _ hi3 (Chg.putObj hl3 rfl (by omega)), hl4, hd4⟩⟩
    | goto t =>
     obtain ⟨hb3, hi3⟩ := hp
     obtain ⟨hr, hl3, hl4, hd4, hz4, hs4⟩ := fin (some (.goto t)) W3 hb3
     exact ⟨_, _, hr, hz4, hs4, .inr ⟨rfl, .goto t, hJx _ _ _ hi3 (Chg.putObj hl3 rfl (by omega)), hl4, hd4⟩⟩
    | panic ch => exact hp.elim
    | outgrown => exact hp.elim
   | exit id => exact hp.elim
   | goto t => exact hp.elim
   | ret => exact hp.elim
   | panic ch => exact hp.elim
   | outgrown => exact hp.elim
  ·rintro e W2 ⟨⟨v, rfl⟩, (⟨hi, hl, hk⟩ | ⟨c, hi, hl, hk⟩)⟩
   ·exact ⟨none, _, by have := run_endLoop (P := P) hl (by rw [hrec]; simp); rw [hrec] at this; exact this,
     hdone _ _ (hJ _ _ _ hi (Chg.putObj hl rfl (by omega))) (Nat.le_refl _) ((World.putObj_heap_other (by omega)).trans hk)⟩
   ·exact ⟨some c, _, by have := run_endLoop (P := P) hl (by rw [hrec]; simp); rw [hrec] at this; exact this,
     hstop _ c _ (hJx _ _ _ hi (Chg.putObj hl rfl (by omega))) (Nat.le_refl _) ((World.putObj_heap_other (by omega)).trans hk)⟩


theorem below_putObj {B D : Nat} {w W : World} (h : Below B w W) (hD : B ≤ D) (o : Obj) : Below B w (W.putObj D o) :=
 h.trans ⟨rfl, rfl, rfl, by simp, fun k hk => World.putObj_heap_other (by omega)⟩

theorem below_drewN {B : Nat} {a w : World} (h : Below B a w) (n : Nat) : Below B a (w.drewN n) := ⟨h.os, h.tape, h.output, h.size, h.block⟩
/-- A function with one range over a function returns. -/
theorem post_mark {P : Program} {fn : Func} {R : Ending → World → Prop} {tmps : Array Value} {w : World} {D : Nat} {v : Value}
  (hK : w.heap[D]? = some (.deferred (some []))) (hr : ∀ w', (results fn tmps).run P w' = .ok v w') (hR : R (.returned v) (w.putObj D (.deferred none))) :
  bodyPostM W0 0 P fn R .ret { tmps, defers := [{ target := .collected D, args := #[] }] } w :=
 ⟨by simp, .inl ⟨_, _, rfl, run_takeDeferred hK, ⟨_, hr _, hR⟩⟩⟩
theorem post_mark0 {P : Program} {fn : Func} {R : Ending → World → Prop} {tmps : Array Value} {w : World} {v : Value}
  (hr : (results fn tmps).run P w = .ok v w) (hR : R (.returned v) w) :
  bodyPostM W0 0 P fn R .ret { tmps, defers := [] } w := ⟨_, hr, hR⟩

theorem in_of {P : Program} {f : FuncId} {args : Array Value} {w : World} {R : Ending → World → Prop} (h : Calls P f args w R) : CallsIn W0 0 P f args w R := callsIn_wide.2 h
theorem of_in {P : Program} {f : FuncId} {args : Array Value} {w : World} {R : Ending → World → Prop} (h : CallsIn W0 0 P f args w R) : Calls P f args w R := callsIn_wide.1 h

/-! ### Slices that read as lists -/
section
variable {α : Type} {enc : α → List Value} {k : Nat} {w w' : World} {b off : Nat} {xs : List α} {v : Value}

/-- The row at b, off holds xs, k cells each. -/
def ER (enc : α → List Value) (k : Nat) (w : World) (b off : Nat) (xs : List α) : Prop :=
 ∀ i x, xs[i]? = some x → ∀ j u, (enc x)[j]? = some u → w.cell? ⟨b, off + i * k + j, none⟩ = some u
/-- The slice value v reads as xs. -/
def EV (enc : α → List Value) (k : Nat) (w : World) (v : Value) (xs : List α) : Prop :=
 (xs = [] ∧ ∃ A c, v = .slice A 0 c) ∨ (xs ≠ [] ∧ ∃ b off c, v = .slice (some ⟨b, off, none⟩) xs.length c ∧ xs.length ≤ c ∧ ER enc k w b off xs)

theorem ER.keep (h : ER enc k w b off xs) (hk : ∀ p u, p.block = b → w.cell? p = some u → w'.cell? p = some u) : ER enc k w' b off xs :=
 fun i x hx j u hu => hk _ _ rfl (h i x hx j u hu)
theorem EV.keep (h : EV enc k w v xs) (hk : ∀ p u, w.cell? p = some u → w'.cell? p = some u) : EV enc k w' v xs := by
 rcases h with h | ⟨h1, b, off, c, h2, h3, h4⟩
 ·exact .inl h
 ·exact .inr ⟨h1, b, off, c, h2, h3, h4.keep fun p u _ hc => hk p u hc⟩
theorem cell_lt {p : Addr} {u : Value} (h : w.cell? p = some u) : p.block < w.heap.size := by
 obtain ⟨o, ho, _⟩ := cells_of_cell h
 exact (Array.getElem?_eq_some_iff.1 ho).1
theorem below_cell (hb : Below w.heap.size w w') {p : Addr} {u : Value} (h : w.cell? p = some u) : w'.cell? p = some u := (hb.cell (cell_lt h)).trans h
theorem ER.below (h : ER enc k w b off xs) (hb : Below w.heap.size w w') : ER enc k w' b off xs := h.keep fun _ _ _ hc => below_cell hb hc
theorem EV.below (h : EV enc k w v xs) (hb : Below w.heap.size w w') : EV enc k w' v xs := h.keep fun _ _ hc => below_cell hb hc
theorem EV.nil (A : Option Addr) (c : Nat) : EV enc k w (.slice A 0 c) [] := .inl ⟨rfl, A, c, rfl⟩
theorem EV.shape (h : EV enc k w v xs) : ∃ A c, v = .slice A xs.length c := by
 rcases h with ⟨rfl, A, c, rfl⟩ | ⟨_, b, off, c, rfl, _⟩
 ·exact ⟨A, c, rfl⟩
 ·exact ⟨_, c, rfl⟩
theorem EV.row (h : EV enc k w v xs) (hne : 0 < xs.length) : ∃ b off c, v = .slice (some ⟨b, off, none⟩) xs.length c ∧ xs.length ≤ c ∧ ER enc k w b off xs := by
 rcases h with ⟨rfl, _⟩ | ⟨_, h⟩
 ·simp at hne
 ·exact h
theorem EV.mk {c : Nat} (h : ER enc k w b off xs) (hc : xs.length ≤ c) : EV enc k w (.slice (some ⟨b, off, none⟩) xs.length c) xs := by
 rcases xs with _ | ⟨x, r⟩
 ·exact .inl ⟨rfl, _, _, rfl⟩
 ·exact .inr ⟨by simp, b, off, c, rfl, hc, h⟩
theorem ER.lt (h : ER enc k w b off xs) (hne : 0 < xs.length) (hk : ∀ x, 0 < (enc x).length) : b < w.heap.size := by
 have := h 0 xs[0] (List.getElem?_eq_getElem hne) 0 _ (List.getElem?_eq_getElem (hk _))
 exact cell_lt this

theorem flat_get (hk : ∀ x, (enc x).length = k) : ∀ (xs : List α) (i : Nat) (x : α), xs[i]? = some x → ∀ j u, (enc x)[j]? = some u → (xs.flatMap enc)[i * k + j]? = some u
 | [], i, x, h, _, _, _ => by simp at h
 | y :: r, 0, x, h, j, u, hu => by
  simp at h; subst h
  have hj : j < (enc y).length := (List.getElem?_eq_some_iff.1 hu).1
  rw [List.flatMap_cons, List.getElem?_append_left (by omega)]
  simpa using hu
 | y :: r, i + 1, x, h, j, u, hu => by
  rw [List.flatMap_cons, List.getElem?_append_right (by rw [hk, Nat.add_mul]; omega), hk]
  have := flat_get hk r i x (by simpa using h) j u hu
  rw [show (i + 1) * k + j - k = i * k + j from by rw [Nat.add_mul]; omega]
  exact this
theorem flat_len (hk : ∀ x, (enc x).length = k) : ∀ (xs : List α), (xs.flatMap enc).length = xs.length * k
 | [] => by simp
 | y :: r => by rw [List.flatMap_cons, List.length_append, hk, flat_len hk r, List.length_cons, Nat.add_mul]; omega

/-- What the call owns reads as its list. -/
theorem EV.of_own {base : Nat} {e : TypeId} (hk : ∀ x, (enc x).length = k) (h : w.ownsRow base e k v xs.length (xs.flatMap enc)) : EV enc k w v xs := by
 rcases h.2 with ⟨rfl, h0⟩ | ⟨g, cap, cur, hv, hb, hg, hnc, hcm, hcs, htake⟩
 ·have : xs = [] := List.eq_nil_of_length_eq_zero h0
  subst this
  exact .inl ⟨rfl, _, _, rfl⟩
 ·rw [hv]
  refine EV.mk (fun i x hx j u hu => ?_) hnc
  have := h.cells (g := g) (by rw [hv]; rfl) (i * k + j) u (flat_get hk xs i x hx j u hu)
  rw [Addr.add_lit, Nat.zero_add] at this
  rw [Nat.zero_add]
  exact this
end

/-! ### ints -/
def encI (z : Int) : List Value := [.int .i64 z]
theorem encI_len (z : Int) : (encI z).length = 1 := rfl
theorem encI_flat (zs : List Int) : zs.flatMap encI = zs.map (Value.int .i64) := by
 induction zs with
 | nil => rfl
 | cons z r ih => simp [encI, List.flatMap_cons] at *; exact ih
theorem ER.int {w : World} {b off : Nat} {zs : List Int} (h : ER encI 1 w b off zs) {i : Nat} (hi : i < zs.length) : w.cell? ⟨b, off + i, none⟩ = some (.int .i64 (zs[i]?.getD 0)) := by
 have := h i zs[i] (List.getElem?_eq_getElem hi) 0 _ rfl
 simpa [hi] using this
theorem ER.get1 {w : World} {b off : Nat} {zs : List Int} (h : ER encI 1 w b off zs) {i : Nat} (hi : i < zs.length) : ∃ z, zs[i]? = some z ∧ w.cell? ⟨b, off + i, none⟩ = some (.int .i64 z) :=
 ⟨zs[i], List.getElem?_eq_getElem hi, by have := h.int hi; simpa [hi] using this⟩
theorem dn2 (w : World) (n m : Nat) : ∃ k, w.drewN k = (w.drewN n).drewN m := ⟨n + m, by simp [World.drewN, Nat.add_assoc]⟩
theorem beq_ne_of_get {α : Type} [BEq α] [LawfulBEq α] {xs ys : List α} {j : Nat} {x y : α} (hx : xs[j]? = some x) (hy : ys[j]? = some y) (h : ¬ x = y) : (xs == ys) = false := by
 simp only [beq_eq_false_iff_ne, ne_eq]
 rintro rfl
 rw [hx] at hy
 exact h (Option.some.inj hy)
theorem ret_bool {a b : Bool} (h : a = b) : Ending.returned (.bool a) = .returned (.bool b) := by rw [h]
theorem ret_int {k : IntKind} {a b : Int} (h : a = b) : Ending.returned (.int k a) = .returned (.int k b) := by rw [h]
end Go.Proofs.YtalophngappkhaaGreatDoor
namespace Go.Proofs.YtalophngappkhaaGreatDoor
open Go Go.RowKit

/-- What is asked of a slice type t with elements of type e, k cells and so many bytes each. -/
structure ElemT (P : Program) (t e : TypeId) (k bytes : Nat) : Prop where
 ht : P.underlying t = some (.slice e)
 hi : ∃ i z, P.info? e = some i ∧ i.zero = some z ∧ i.size = k ∧ i.bytes = bytes ∧ z.cells.size = k
 hk : 0 < k
 hb : bytes ≤ 140000

/-- The call owns the row that v names, and it reads as xs. -/
def OV {α : Type} (enc : α → List Value) (k : Nat) (e : TypeId) (base : Nat) (w : World) (v : Value) (xs : List α) : Prop :=
 w.ownsRow base e k v xs.length (xs.flatMap enc)

section
variable {P : Program} {α : Type} {enc : α → List Value} {k bytes base : Nat} {t e : TypeId} {w w' : World} {v sv : Value} {xs ys : List α}

theorem OV.ev (h : OV enc k e base w v xs) (hk : ∀ x, (enc x).length = k) : EV enc k w v xs := EV.of_own hk h
theorem OV.nil (w : World) (base : Nat) : OV enc k e base w (.slice none 0 0) [] := World.ownsRow_nil w base e k
theorem OV.made (w : World) (cap : Nat) (cs : Array Value) (hb : base ≤ w.heap.size) (hm : cap ≤ maxLen) (hs : cs.size = cap * k) :
  OV enc k e base (w.alloc (.cells cs e)) (.slice (some ⟨w.heap.size, 0, none⟩) 0 cap) [] := World.ownsRow_made w cs cap hb hm hs
theorem OV.lit (w : World) (cs : Array Value) (n : Nat) (hb : base ≤ w.heap.size) (hm : n ≤ maxLen) (hs : cs.size = n * k) (hx : cs.toList = xs.flatMap enc) (hn : xs.length = n) :
  OV enc k e base (w.alloc (.cells cs e)) (.slice (some ⟨w.heap.size, 0, none⟩) n n) xs := by
 unfold OV; rw [hn, ← hx]; exact World.ownsRow_lit w cs n hb hm hs
theorem OV.base_le {base' : Nat} (h : OV enc k e base w v xs) (hb : base' ≤ base) : OV enc k e base' w v xs := World.ownsRow.mono h hb
theorem OV.block (h : OV enc k e base w v xs) : ∀ g, v.ownBlock = some g → base ≤ g ∧ g < w.heap.size := World.ownsRow.lt h
theorem OV.form (h : OV enc k e base w v xs) (hn : 0 < xs.length) : ∃ g cap, v = .slice (some ⟨g, 0, none⟩) xs.length cap ∧ base ≤ g ∧ g < w.heap.size := World.ownsRow.form h hn
theorem OV.keep {row : Option Nat} (h : OV enc k e base w v xs) (hg : w.grownBy w' row) (hne : v.ownBlock = none ∨ v.ownBlock ≠ row) : OV enc k e base w' v xs := World.ownsRow.kept h hg hne
theorem OV.alloc (h : OV enc k e base w v xs) (o : Obj) : OV enc k e base (w.alloc o) v xs := World.ownsRow.alloc h o
theorem OV.drewN (h : OV enc k e base w v xs) (n : Nat) : OV enc k e base (w.drewN n) v xs := h
theorem OV.drew (h : OV enc k e base w v xs) : OV enc k e base w.drew v xs := h
theorem OV.same (h : OV enc k e base w v xs) (hk : ∀ g o, v.ownBlock = some g → w.heap[g]? = some o → w'.heap[g]? = some o) : OV enc k e base w' v xs := by
 refine ⟨h.1, ?_⟩
 rcases h.2 with hn | ⟨g, cap, cur, rfl, hb, hg, rest⟩
 ·exact .inl hn
 ·exact .inr ⟨g, cap, cur, rfl, hb, hk g _ rfl hg, rest⟩
theorem OV.below (h : OV enc k e base w v xs) (hb : Below w.heap.size w w') : OV enc k e base w' v xs :=
 h.same fun g o hg ho => (hb.block g (h.block g hg).2).trans ho
theorem OV.chg {B : Nat} {T : Nat → Prop} (h : OV enc k e base w v xs) (hc : Chg B T w w') (ht : ∀ g, v.ownBlock = some g → ¬ T g) : OV enc k e base w' v xs := by
 refine ⟨h.1, ?_⟩
 rcases h.2 with hn | ⟨g, cap, cur, rfl, hb, hg, rest⟩
 ·exact .inl hn
 ·exact .inr ⟨g, cap, cur, rfl, hb, hc.cells hg (ht g rfl), rest⟩
theorem OV.mod {T : Nat → Prop} (h : OV enc k e base w v xs) (hc : Mod T w w') (ht : ∀ g, v.ownBlock = some g → ¬ T g) : OV enc k e base w' v xs :=
 h.same fun g o hg ho => (hc.block g (h.block g hg).2 (ht g hg)).trans ho

theorem EV.new1 {x : α} {c : Nat} {cs : Array Value} (hcs : cs.toList = enc x) (hc : 1 ≤ c) : EV enc k (w.alloc (.cells cs e)) (.slice (some ⟨w.heap.size, 0, none⟩) 1 c) [x] := by
 refine EV.mk (xs := [x]) (fun i y hy j u hu => ?_) hc
 have hi : i = 0 := by
  have := (List.getElem?_eq_some_iff.1 hy).1
  simpa using this
 subst hi
 simp at hy; subst hy
 rw [← hcs] at hu
 have := cell_of_row (w.alloc (.cells cs e)) w.heap.size j cs e (0, 0) (heap_alloc_new w _)
 simp only [Nat.zero_mul, Nat.add_zero, Nat.zero_add]
 rw [this]; simpa using hu

theorem run_app (T : ElemT P t e k bytes) (hk : ∀ x, (enc x).length = k) (h1 : ∀ x, ∀ u ∈ enc x, u.oneCell' = true) (ty : TypeId)
  (hown : OV enc k e base w v xs) (hys : EV enc k w sv ys) (hn : xs.length + ys.length ≤ 1000000000) (hbase : base ≤ w.heap.size) :
  ∃ v' w', (Builtin.append_ #[t, t] ty #[v, sv]).run P w = .ok v' w' ∧ OV enc k e base w' v' (xs ++ ys) ∧ w.grownBy w' v.ownBlock := by
 obtain ⟨i, z, hi, hz, hsz, hby, hzs⟩ := T.hi
 have hbb : (xs.length + ys.length) * bytes ≤ 140737488355328 := Nat.le_trans (Nat.mul_le_mul hn T.hb) (by decide)
 have hml : xs.length + ys.length ≤ maxLen := by unfold maxLen; omega
 have own : ∀ {ad : Addr} {c : Nat}, sv = .slice (some ad) ys.length c → (∀ j u, (ys.flatMap enc)[j]? = some u → w.cell? (ad.add j) = some u) →
   ∃ v' w', (Builtin.append_ #[t, t] ty #[v, sv]).run P w = .ok v' w' ∧ OV enc k e base w' v' (xs ++ ys) ∧ w.grownBy w' v.ownBlock := by
  intro ad c hsv hc
  subst hsv
  obtain ⟨v', w', hr, ho, hg, _⟩ := run_append_own (P := P) w base t ty e i z k bytes T.ht hi hz hsz hby hzs T.hk v xs.length _ hown ad ys.length c (ys.flatMap enc)
   (flat_len hk ys) hc (fun u hu => by obtain ⟨x, _, hx⟩ := List.mem_flatMap.1 hu; exact h1 x u hx) hml hbb hbase
  refine ⟨v', w', hr, ?_, hg⟩
  unfold OV
  rw [List.length_append, List.flatMap_append]
  exact ho
 rcases hys with ⟨rfl, A, c, rfl⟩ | ⟨hne, b, off, c, rfl, hle, hr⟩
 ·cases A with
  | some ad => exact own rfl (by simp)
  | none =>
   refine ⟨v, w, ?_, by simpa using hown, ⟨rfl, rfl, rfl, Nat.le_refl _, fun _ _ _ => rfl⟩⟩
   rcases hown.2 with ⟨rfl, _⟩ | ⟨g, cap, cur, rfl, _, _, hnc, _⟩
   ·simp [Builtin.append_, run_underlying T.ht, sizeOf, typeInfo, hi, Builtin.lenOf, Builtin.firstCells]
   ·simp [Builtin.append_, run_underlying T.ht, sizeOf, typeInfo, hi, Builtin.lenOf, Builtin.firstCells, hnc, storeCells]
 ·refine own rfl fun j u hj => ?_
  rw [Addr.add_lit]
  have hkp := T.hk
  have hjl : j < ys.length * k := by
   have := (List.getElem?_eq_some_iff.1 hj).1
   rwa [flat_len hk] at this
  have hq : j / k < ys.length := Nat.div_lt_of_lt_mul (by rwa [Nat.mul_comm])
  have hdm : j / k * k + j % k = j := by rw [Nat.mul_comm]; exact Nat.div_add_mod j k
  have hm : j % k < (enc ys[j / k]).length := by rw [hk]; exact Nat.mod_lt _ hkp
  obtain ⟨u', hu'⟩ : ∃ u', (enc ys[j / k])[j % k]? = some u' := ⟨_, List.getElem?_eq_getElem hm⟩
  have h2 := flat_get hk ys (j / k) ys[j / k] (List.getElem?_eq_getElem hq) (j % k) u' hu'
  rw [hdm, hj] at h2
  cases h2
  have := hr (j / k) ys[j / k] (List.getElem?_eq_getElem hq) (j % k) u hu'
  rwa [Nat.add_assoc, hdm] at this

theorem wpList_app {ops : Array Oper} {rest : List Oper} {o : Oper} {a : Act} {Q : Exit → Act → World → Prop} (T : ElemT P t e k bytes) (hk : ∀ x, (enc x).length = k) (h1 : ∀ x, ∀ u ∈ enc x, u.oneCell' = true)
  (hgd : o.guard = none) (s x : Operand) (ho : o.op = .call { callee := .builtin .append, args := #[s, x], argTypes := #[t, t] })
  (v sv : Value) (hs : a.eval s = v) (hx : a.eval x = sv) (hown : OV enc k e base w v xs) (hys : EV enc k w sv ys) (hn : xs.length + ys.length ≤ 1000000000) (hbase : base ≤ w.heap.size)
  (h : ∀ v' w', OV enc k e base w' v' (xs ++ ys) → w.grownBy w' v.ownBlock → wpList P ops Q rest (a.put o.dst v') w') : wpList P ops Q (o :: rest) a w := by
 refine wpList_plain hgd fun _ hK => ?_
 obtain ⟨v', w', hr, h2, h3⟩ := run_app T hk h1 o.type hown hys hn hbase
 unfold Oper.wp execOp
 simp only [ho, resolve, invoke, builtin, Sem.run_bind, Sem.run_pure, Result.andThen_ok, List.map_toArray, List.map_cons, List.map_nil, hs, hx, hr]
 exact hK _ _ (h v' w' h2 h3)

theorem wpListIn_app {F : Fence} {n : Nat} {ops : Array Oper} {rest : List Oper} {o : Oper} {a : Act} {Q : Exit → Act → World → Prop} (T : ElemT P t e k bytes) (hk : ∀ x, (enc x).length = k) (h1 : ∀ x, ∀ u ∈ enc x, u.oneCell' = true)
  (hgd : o.guard = none) (s x : Operand) (ho : o.op = .call { callee := .builtin .append, args := #[s, x], argTypes := #[t, t] })
  (v sv : Value) (hs : a.eval s = v) (hx : a.eval x = sv) (hown : OV enc k e base w v xs) (hys : EV enc k w sv ys) (hn : xs.length + ys.length ≤ 1000000000) (hbase : base ≤ w.heap.size)
  (h : ∀ v' w', OV enc k e base w' v' (xs ++ ys) → w.grownBy w' v.ownBlock → wpListIn F n P ops Q rest (a.put o.dst v') w') : wpListIn F n P ops Q (o :: rest) a w := by
 refine wpListIn_plain hgd fun K hK' => ?_
 obtain ⟨v', w', hr, h2, h3⟩ := run_app T hk h1 o.type hown hys hn hbase
 unfold Oper.wpIn
 refine ⟨?_, ?_⟩
 ·simp [Oper.about, ho, resolve, Target.leads, Sem.run_pure]
 ·rw [Oper.semAt_plain F _ _ (by rw [ho]; intro c hc'; cases hc')]
  simp [execOp, ho, resolve, invoke, builtin, hs, hx, hr, Result.andThen]
  exact hK' _ _ (h v' w' h2 h3)
end
theorem encI_one (z : Int) : ∀ u ∈ encI z, u.oneCell' = true := by intro u hu; simp [encI] at hu; subst hu; rfl
end Go.Proofs.YtalophngappkhaaGreatDoor
namespace Go.Proofs.YtalophngappkhaaGreatDoor
open Go.RowKit Go.Shelf

theorem elemI : ElemT Tryz.prog 32 3 1 8 := ⟨Tryz.underlying32, by
 have h : (Tryz.prog.info? 3).map (fun i => (i.zero, i.size, i.bytes)) = some (some (.int .i64 0), 1, 8) := by kernel_rfl
 obtain ⟨i, h1, h2, h3, h4⟩ := info_parts h
 exact ⟨i, _, h1, h2, h3, h4, rfl⟩, by omega, by omega⟩

theorem take_eq_step' {α : Type} {xs ys : List α} {j : Nat} {x : α} (h : xs.take j = ys.take j) (hx : xs[j]? = some x) (hy : ys[j]? = some x) : xs.take (j + 1) = ys.take (j + 1) := by
 rw [List.take_add_one, List.take_add_one, h, hx, hy]

/-- The index of the first v, or -1. -/
def idxZ (xs : List Int) (v : Int) : Int := if v ∈ xs then (xs.idxOf v : Int) else -1
theorem idxZ_at {xs : List Int} {v : Int} {j : Nat} (h : v ∉ xs.take j) (hx : xs[j]? = some v) : idxZ xs v = j := by
 have hj := (List.getElem?_eq_some_iff.1 hx).1
 have hm : v ∈ xs := List.mem_of_getElem? hx
 unfold idxZ
 rw [if_pos hm]
 congr 1
 have hd : xs.drop j = v :: xs.drop (j + 1) := by
  rw [List.drop_eq_getElem_cons hj]
  congr 1
  have := List.getElem?_eq_getElem hj
  rw [hx] at this
  exact (Option.some.inj this).symm
 rw [← List.take_append_drop j xs, List.idxOf_append, if_neg h, hd, List.idxOf_cons_self, List.length_take]
 omega
theorem idxZ_none {xs : List Int} {v : Int} (h : v ∉ xs) : idxZ xs v = -1 := by unfold idxZ; rw [if_neg h]
theorem notin_step {α : Type} {xs : List α} {v x : α} {j : Nat} (h : v ∉ xs.take j) (hx : xs[j]? = some x) (hne : ¬ v = x) : v ∉ xs.take (j + 1) := by
 rw [List.take_add_one, hx]
 simp only [Option.toList_some, List.mem_append, List.mem_singleton, not_or]
 exact ⟨h, hne⟩

set_option maxHeartbeats 400000 in
theorem index_int (w : World) (v1 : Value) (xs : List Int) (v : Int) (h1 : EV encI 1 w v1 xs) (b1 : xs.length ≤ 1000000000) :
  Calls Tryz.prog 159 #[v1, .int .i64 v] w fun e w' => e = .returned (.int .i64 (idxZ xs v)) ∧ w = w' := by
 rcases Nat.eq_zero_or_pos xs.length with h0 | h0
 ·obtain rfl : xs = [] := List.eq_nil_of_length_eq_zero h0
  obtain ⟨A, c, rfl⟩ := h1.shape
  clear h1 h0 b1
  go_enter Tryz.func159, Tryz.ntmps159
  go_wp2
  refine wp_loop_rounds 1 ?_
  rw [rounds_succ]
  go_wp2
  go_ret
  exact ⟨rfl, rfl⟩
 ·obtain ⟨b, off, c, rfl, hc, r1⟩ := h1.row h0
  have R1 := Lib.hid r1
  clear r1 h1
  go_enter Tryz.func159, Tryz.ntmps159
  go_wp2
  go_loopg [8] xs.length (fun k i wr => ∃ j : Nat, j + k = xs.length ∧ i = .int .i64 j ∧ w = wr ∧ v ∉ xs.take j)
  case atStart => exact ⟨0, by omega, rfl, rfl, by simp⟩
  case round =>
   obtain ⟨j, hj, rfl, rfl, ht⟩ := hrel
   have HT := Lib.hid ht
   have HJ := Lib.hid hj
   clear ht hj
   by_cases hlt : j < xs.length
   ·obtain ⟨x, hx, c1⟩ := R1.out.get1 hlt
    have HX := Lib.hid hx
    clear hx
    by_cases he : v = x
    ·subst he
     go_wp2
     go_ret
     exact ⟨ret_int (idxZ_at HT.out HX.out).symm, rfl⟩
    ·have hne : (v == x) = false := by simp [he]
     have HE := Lib.hid he
     clear he
     go_wp2
     go_roundg (gk - 1)
     case measure => have := HJ.out; omega
     case rel => exact ⟨j + 1, by have := HJ.out; omega, by go_num, rfl, notin_step HT.out HX.out HE.out⟩
   ·have e : idxZ xs v = -1 := idxZ_none (by have := HT.out; rwa [List.take_of_length_le (by omega)] at this)
    have E := Lib.hid e
    clear e
    go_wp2
    go_ret
    exact ⟨ret_int E.out.symm, rfl⟩

theorem contains_idx (xs : List Int) (v : Int) : decide (0 ≤ idxZ xs v) = xs.contains v := by
 unfold idxZ
 by_cases h : v ∈ xs
 ·rw [if_pos h]; simp [h]
 ·rw [if_neg h]; simp [h]
set_option maxHeartbeats 400000 in
theorem contains_int (w : World) (v1 : Value) (xs : List Int) (v : Int) (h1 : EV encI 1 w v1 xs) (b1 : xs.length ≤ 1000000000) :
  Calls Tryz.prog 120 #[v1, .int .i64 v] w fun e w' => e = .returned (.bool (xs.contains v)) ∧ w = w' := by
 have E := Lib.hid (contains_idx xs v)
 go_enter Tryz.func120, Tryz.ntmps120
 go_wp2_with fail
 refine (index_int _ _ xs v h1 b1).mono ?_
 rintro e w' ⟨rfl, rfl⟩
 generalize hi : idxZ xs v = i at E ⊢
 clear hi
 go_wp2
 go_ret
 exact ⟨ret_bool E.out, rfl⟩

end Go.Proofs.YtalophngappkhaaGreatDoor
namespace Go.Proofs.YtalophngappkhaaGreatDoor
open Go Go.RowKit
theorem addr_of_cell {w : World} {x : Addr} {v : Value} (h : w.cell? x = some v) : x = ⟨x.block, x.off, none⟩ := by
 obtain ⟨b, o, s⟩ := x
 unfold World.cell? at h
 cases s with
 | none => rfl
 | some s =>
  exfalso
  simp at h
  split at h <;> simp at h

end Go.Proofs.YtalophngappkhaaGreatDoor

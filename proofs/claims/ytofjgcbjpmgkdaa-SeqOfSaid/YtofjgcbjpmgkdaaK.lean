/- Facts that stay true where only new memory is written, kept together; rows that may be written over; append as a step of a region that draws. -/
import Derived.Test.YtofjgcbjpmgkdaaSl
import Derived.Deep.RegionHeld3
import Derived.Deep.DeepCutAuto
set_option linter.unusedVariables false
set_option linter.unusedSimpArgs false
set_option linter.unusedSectionVars false
namespace Go.Proofs.Ytofjgcbjpmgkdaa
open Go Go.RowKit

theorem ret_two {k k' : IntKind} {a b a' b' : Int} (h : a = a') (h' : b = b') : Ending.returned (.tuple #[.int k a, .int k' b]) = .returned (.tuple #[.int k a', .int k' b']) := by rw [h, h']
theorem EV.row3 {α : Type} {enc : α → List Value} {k b off n c : Nat} {w : World} {xs : List α} (h : EV enc k w (.slice (some ⟨b, off, none⟩) n c) xs) (hn : 0 < xs.length) : ER enc k w b off xs := by
  obtain ⟨b', o', c', hv, _, r⟩ := h.row hn
  simp only [Value.slice.injEq, Option.some.injEq, Addr.mk.injEq, and_true] at hv
  obtain ⟨⟨rfl, rfl⟩, _, _⟩ := hv
  exact r

section
variable {P : Program} {α : Type} {enc : α → List Value} {k bytes base : Nat} {t e : TypeId} {w w' : World} {v sv : Value} {xs ys : List α}
theorem step_app {ops : Array Oper} {o : Oper} {a : Act} {K : Act → World → Prop} {Q : Exit → Act → World → Prop} {E : Prop} (T : ElemT P t e k bytes) (hk : ∀ x, (enc x).length = k) (h1 : ∀ x, ∀ u ∈ enc x, u.oneCell' = true)
    (hgd : o.guard = none) (s x : Operand) (ho : o.op = .call { callee := .builtin .append, args := #[s, x], argTypes := #[t, t] })
    (v sv : Value) (hs : a.eval s = v) (hx : a.eval x = sv) (hown : OV enc k e base w v xs) (hys : EV enc k w sv ys) (hn : xs.length + ys.length ≤ 1000000000) (hbase : base ≤ w.heap.size)
    (h : ∀ v' w', OV enc k e base w' v' (xs ++ ys) → w.grownBy w' v.ownBlock → K (a.put o.dst v') w') : if Region.wanted o (yielded ops a.tmps) = true then Oper.wp P o a w K Q else E := by
  have hw : Region.wanted o (yielded ops a.tmps) = true := by simp [Region.wanted, hgd]
  rw [if_pos hw]
  obtain ⟨v', w', hr, h2, h3⟩ := run_app T hk h1 o.type hown hys hn hbase
  unfold Oper.wp execOp
  simp only [ho, resolve, invoke, builtin, Sem.run_bind, Sem.run_pure, Result.andThen_ok, List.map_toArray, List.map_cons, List.map_nil, hs, hx, hr]
  exact h v' w' h2 h3
theorem EV.grown {row : Option Nat} (h : EV enc k w v xs) (hg : w.grownBy w' row) (hne : ∀ b o n c, v = .slice (some ⟨b, o, none⟩) n c → row ≠ some b) : EV enc k w' v xs := by
  rcases h with h | ⟨h1, b, off, c, rfl, h3, h4⟩
  · exact .inl h
  · exact .inr ⟨h1, b, off, c, rfl, h3, h4.keep fun p u hp hc => (World.cell?_of_block (hg.block p.block (cell_lt hc) (fun e => hne b off _ c rfl (by rw [← hp]; exact e.symm)))).trans hc⟩
theorem EV.row_take {b off n c j : Nat} (h : EV enc k w (.slice (some ⟨b, off, none⟩) n c) xs) (hj : j ≤ xs.length) (hn : n = xs.length) : EV enc k w (.slice (some ⟨b, off, none⟩) j c) (xs.take j) := by
  rcases Nat.eq_zero_or_pos j with rfl | h0
  · exact .inl ⟨by simp, _, _, rfl⟩
  · obtain ⟨b', o', c', hv, hc, r⟩ := h.row (by omega)
    simp only [Value.slice.injEq, Option.some.injEq, Addr.mk.injEq, and_true] at hv
    obtain ⟨⟨rfl, rfl⟩, _, rfl⟩ := hv
    have hl : (xs.take j).length = j := by simp; omega
    have := EV.mk (enc := enc) (k := k) (w := w) (b := b) (off := off) (xs := xs.take j) (c := c) (fun i x hx => r i x (by
      have := (List.getElem?_eq_some_iff.1 hx).1
      rwa [List.getElem?_take_of_lt (by omega)] at hx)) (by omega)
    rwa [hl] at this
theorem EV.row_drop {b off n c j : Nat} (h : EV enc k w (.slice (some ⟨b, off, none⟩) n c) xs) (hj : j ≤ xs.length) (hn : n = xs.length) : EV enc k w (.slice (some ⟨b, off + j * k, none⟩) (n - j) (c - j)) (xs.drop j) := by
  subst hn
  have hl : (xs.drop j).length = xs.length - j := by simp
  rw [← hl]
  rcases Nat.eq_zero_or_pos xs.length with h0 | h0
  · have : xs.drop j = [] := List.eq_nil_of_length_eq_zero (by omega)
    rw [this]; exact .inl ⟨rfl, _, _, rfl⟩
  obtain ⟨b', o', c', hv, hc, r⟩ := h.row h0
  simp only [Value.slice.injEq, Option.some.injEq, Addr.mk.injEq, and_true] at hv
  obtain ⟨⟨rfl, rfl⟩, _, rfl⟩ := hv
  refine EV.mk (fun i x hx q u hu => ?_) (by omega)
  rw [List.getElem?_drop] at hx
  have := r (j + i) x hx q u hu
  rwa [Nat.add_mul, ← Nat.add_assoc] at this
end
theorem below_drew {B : Nat} {a w : World} (h : Below B a w) : Below B a w.drew := ⟨h.os, h.tape, h.output, h.size, h.block⟩
theorem EV.drew_ {α : Type} {enc : α → List Value} {k : Nat} {w : World} {v : Value} {xs : List α} (h : EV enc k w v xs) : EV enc k w.drew v xs := h

/-- A fact about the world that stays true where only new memory is written. -/
structure SP where
  p : World → Prop
  st : ∀ w w', Below w.heap.size w w' → p w → p w'
def sTr : SP := ⟨fun _ => True, fun _ _ _ h => h⟩
def sEV {α : Type} (enc : α → List Value) (k : Nat) (v : Value) (xs : List α) : SP := ⟨fun w => EV enc k w v xs, fun _ _ b h => h.below b⟩
def sOV {α : Type} (enc : α → List Value) (k : Nat) (e : TypeId) (base : Nat) (v : Value) (xs : List α) : SP := ⟨fun w => OV enc k e base w v xs, fun _ _ b h => h.below b⟩
def sB (w0 : World) : SP := ⟨fun w => Below w0.heap.size w0 w, fun _ _ b h => h.trans (b.mono h.size)⟩
def Facts (w : World) : List SP → Prop
  | [] => True
  | s :: L => s.p w ∧ Facts w L
theorem Facts.below {w w' : World} : ∀ {L : List SP}, Facts w L → Below w.heap.size w w' → Facts w' L
  | [], _, _ => trivial
  | s :: _, h, b => ⟨s.st _ _ b h.1, Facts.below h.2 b⟩
theorem Facts.snoc {w : World} : ∀ {L : List SP}, Facts w L → ∀ s : SP, s.p w → Facts w (L ++ [s])
  | [], _, _, hs => ⟨hs, trivial⟩
  | _ :: _, h, s, hs => ⟨h.1, Facts.snoc h.2 s hs⟩
theorem Facts.get {w : World} : ∀ {L : List SP}, Facts w L → ∀ i : Nat, (L.getD i sTr).p w
  | [], _, _ => trivial
  | _ :: _, h, 0 => h.1
  | _ :: _, h, i + 1 => Facts.get h.2 i
theorem Facts.nil (w : World) : Facts w [] := trivial

/-- A row of n elements of k cells that may be written over. -/
def Wrt (k : Nat) (w : World) (v : Value) (n : Nat) : Prop :=
  (n = 0 ∧ ∃ A c, v = .slice A 0 c) ∨ (0 < n ∧ ∃ g cap, v = .slice (some ⟨g, 0, none⟩) n cap ∧ ∀ i, i < n * k → (∃ u, w.cell? ⟨g, i, none⟩ = some u) ∧ w.frozen? ⟨g, i, none⟩ = false)
section
variable {α : Type} {enc : α → List Value} {k base n : Nat} {e : TypeId} {w w' : World} {v : Value} {xs : List α}
theorem OV.wrt (hk : ∀ x, (enc x).length = k) (h : OV enc k e base w v xs) : Wrt k w v xs.length := by
  rcases Nat.eq_zero_or_pos xs.length with h0 | h0
  · obtain ⟨A, c, hv⟩ := (h.ev hk).shape
    rw [h0] at hv
    exact .inl ⟨h0, A, c, hv⟩
  · obtain ⟨g, cap, hv, _, _⟩ := h.form h0
    refine .inr ⟨h0, g, cap, hv, fun i hi => ?_⟩
    have hl : i < (xs.flatMap enc).length := by rw [flat_len hk]; exact hi
    have hh := h
    unfold OV at hh
    rw [hv] at hh
    exact ⟨⟨_, (World.ownsRow.cellAt hh i (by rw [flat_len hk] at hl; exact hl)).trans (List.getElem?_eq_getElem hl)⟩, World.ownsRow.frozenAt hh i⟩
theorem Wrt.shape (h : Wrt k w v n) : ∃ A c, v = .slice A n c := by
  rcases h with ⟨rfl, A, c, rfl⟩ | ⟨_, g, cap, rfl, _⟩
  · exact ⟨A, c, rfl⟩
  · exact ⟨_, cap, rfl⟩
theorem Wrt.setCell (h : Wrt k w v n) (p : Addr) (u : Value) : Wrt k (w.setCell p u) v n := by
  rcases h with h | ⟨h0, g, cap, hv, h⟩
  · exact .inl h
  · refine .inr ⟨h0, g, cap, hv, fun i hi => ?_⟩
    obtain ⟨⟨x, hx⟩, hf⟩ := h i hi
    exact ⟨by obtain ⟨y, hy⟩ := cell?_setCell_some (w := w) (p := p) (x := u) (q := ⟨g, i, none⟩) (v := x) hx; exact ⟨y, hy⟩, (World.frozen?_setCell _ _ _ _).trans hf⟩
theorem Wrt.below (h : Wrt k w v n) (hb : Below w.heap.size w w') : Wrt k w' v n := by
  rcases h with h | ⟨h0, g, cap, hv, h⟩
  · exact .inl h
  · refine .inr ⟨h0, g, cap, hv, fun i hi => ?_⟩
    obtain ⟨⟨x, hx⟩, hf⟩ := h i hi
    exact ⟨⟨x, below_cell hb hx⟩, (hb.frozen (cell_lt hx)).trans hf⟩
theorem EV.mod {T : Nat → Prop} (h : EV enc k w v xs) (hm : Mod T w w') (ht : ∀ g o n c, v = .slice (some ⟨g, o, none⟩) n c → ¬ T g) : EV enc k w' v xs := by
  rcases h with h | ⟨h1, b, off, c, rfl, h3, h4⟩
  · exact .inl h
  · exact .inr ⟨h1, b, off, c, rfl, h3, h4.keep fun p u hp hc => hm.cell hc (fun t => ht b off _ c rfl (hp ▸ t))⟩
end
theorem equal_same (w : World) (r1 r2 : Value) (xs : List Int) (h1 : EV encI 1 w r1 xs) (h2 : EV encI 1 w r2 xs) (b : xs.length ≤ 1000000000) :
    Calls Try.prog 24 #[r1, r2] w fun e w' => e = .returned (.bool true) ∧ Below w.heap.size w w' := by
  refine (equal_int w r1 r2 xs xs h1 h2 b b).mono ?_
  rintro e w' ⟨rfl, q, rfl⟩
  exact ⟨by simp, below_drewN (Below.refl _ _) _⟩
end Go.Proofs.Ytofjgcbjpmgkdaa

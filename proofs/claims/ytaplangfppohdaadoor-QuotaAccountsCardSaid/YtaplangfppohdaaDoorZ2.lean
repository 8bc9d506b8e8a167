/- Facts that stay true where only new memory is written, kept together; rows that may be written over; append as a step of a region that draws | Tails of a function's body, for walks that are cut into declarations: what is left of a chain of statements from region k on | Contracts of group.Right, there, Depth, Path, Children, Under | Contracts of group.Depth, Path, Children, Under | A region that draws its order, by one step for each operation: what an operation yields stays true under what the others do | Maps of the call's own, key by key, whatever the elements are. -/
import Derived.Test.YtaplangfppohdaaDoorZ1
import Derived.Deep.RegionHeld3
import Derived.Deep.DeepCutAuto
import Derived.Orders
import Derived.Maps.OwnOps
import Derived.Maps.OwnSet
import Derived.Maps.RangeWalk
set_option linter.unusedVariables false
set_option linter.unusedSimpArgs false
set_option linter.unusedSectionVars false
namespace Go.Proofs.YtaplangfppohdaaDoor
open Go Go.RowKit

theorem ret_two {k k' : IntKind} {a b a' b' : Int} (h : a = a') (h' : b = b') : Ending.returned (.tuple #[.int k a, .int k' b]) = .returned (.tuple #[.int k a', .int k' b']) := by rw [h, h']
theorem EV.row3 {α : Type} {enc : α → List Value} {k b off n c : Nat} {w : World} {xs : List α} (h : EV enc k w (.slice (some ⟨b, off, none⟩) n c) xs) (hn : 0 < xs.length) : ER enc k w b off xs := by
  obtain ⟨b', o', c', hv, _, r⟩ := h.row hn
  simp only [Value.slice.injEq, Option.some.injEq, Addr.mk.injEq, and_true] at hv
  obtain ⟨⟨rfl, rfl⟩, _, _⟩ := hv
  exact r

section
variable {P : Program} {α : Type} {enc : α → List Value} {k bytes base : Nat} {t e : TypeId} {w w' : World} {v sv : Value} {xs ys : List α}
theorem step_app {ops : Array Oper} {o : Oper} {a : Act} {K : Act → World → Prop} {Q : Exit → Act → World → Prop} {E : Prop} (T : ElemT P t e k bytes) (hk : ∀ x, (enc x).length = k) (h1 : ∀ x, ∀ u ∈ enc x, u.oneCell' = true)
    (hgd : o.guard = none) (s x : Operand) (ho : o.op = .call { callee := .builtin .append, args := #[s, x], argTypes := #[t, t] })
    (v sv : Value) (hs : a.eval s = v) (hx : a.eval x = sv) (hown : OV enc k e base w v xs) (hys : EV enc k w sv ys) (hn : xs.length + ys.length ≤ 1000000000) (hbase : base ≤ w.heap.size)
    (h : ∀ v' w', OV enc k e base w' v' (xs ++ ys) → w.grownBy w' v.ownBlock → K (a.put o.dst v') w') : if Region.wanted o (yielded ops a.tmps) = true then Oper.wp P o a w K Q else E := by
  have hw : Region.wanted o (yielded ops a.tmps) = true := by simp [Region.wanted, hgd]
  rw [if_pos hw]
  obtain ⟨v', w', hr, h2, h3⟩ := run_app T hk h1 o.type hown hys hn hbase
  unfold Oper.wp execOp
  simp only [ho, resolve, invoke, builtin, Sem.run_bind, Sem.run_pure, Result.andThen_ok, List.map_toArray, List.map_cons, List.map_nil, hs, hx, hr]
  exact h v' w' h2 h3
theorem EV.grown {row : Option Nat} (h : EV enc k w v xs) (hg : w.grownBy w' row) (hne : ∀ b o n c, v = .slice (some ⟨b, o, none⟩) n c → row ≠ some b) : EV enc k w' v xs := by
  rcases h with h | ⟨h1, b, off, c, rfl, h3, h4⟩
  · exact .inl h
  · exact .inr ⟨h1, b, off, c, rfl, h3, h4.keep fun p u hp hc => (World.cell?_of_block (hg.block p.block (cell_lt hc) (fun e => hne b off _ c rfl (by rw [← hp]; exact e.symm)))).trans hc⟩
theorem EV.row_take {b off n c j : Nat} (h : EV enc k w (.slice (some ⟨b, off, none⟩) n c) xs) (hj : j ≤ xs.length) (hn : n = xs.length) : EV enc k w (.slice (some ⟨b, off, none⟩) j c) (xs.take j) := by
  rcases Nat.eq_zero_or_pos j with rfl | h0
  · exact .inl ⟨by simp, _, _, rfl⟩
  · obtain ⟨b', o', c', hv, hc, r⟩ := h.row (by omega)
    simp only [Value.slice.injEq, Option.some.injEq, Addr.mk.injEq, and_true] at hv
    obtain ⟨⟨rfl, rfl⟩, _, rfl⟩ := hv
    have hl : (xs.take j).length = j := by simp; omega
    have := EV.mk (enc := enc) (k := k) (w := w) (b := b) (off := off) (xs := xs.take j) (c := c) (fun i x hx => r i x (by
      have := (List.getElem?_eq_some_iff.1 hx).1
      rwa [List.getElem?_take_of_lt (by omega)] at hx)) (by omega)
    rwa [hl] at this
theorem EV.row_drop {b off n c j : Nat} (h : EV enc k w (.slice (some ⟨b, off, none⟩) n c) xs) (hj : j ≤ xs.length) (hn : n = xs.length) : EV enc k w (.slice (some ⟨b, off + j * k, none⟩) (n - j) (c - j)) (xs.drop j) := by
  subst hn
  have hl : (xs.drop j).length = xs.length - j := by simp
  rw [← hl]
  rcases Nat.eq_zero_or_pos xs.length with h0 | h0
  · have : xs.drop j = [] := List.eq_nil_of_length_eq_zero (by omega)
    rw [this]; exact .inl ⟨rfl, _, _, rfl⟩
  obtain ⟨b', o', c', hv, hc, r⟩ := h.row h0
  simp only [Value.slice.injEq, Option.some.injEq, Addr.mk.injEq, and_true] at hv
  obtain ⟨⟨rfl, rfl⟩, _, rfl⟩ := hv
  refine EV.mk (fun i x hx q u hu => ?_) (by omega)
  rw [List.getElem?_drop] at hx
  have := r (j + i) x hx q u hu
  rwa [Nat.add_mul, ← Nat.add_assoc] at this
end
theorem below_drew {B : Nat} {a w : World} (h : Below B a w) : Below B a w.drew := ⟨h.os, h.tape, h.output, h.size, h.block⟩
theorem EV.drew_ {α : Type} {enc : α → List Value} {k : Nat} {w : World} {v : Value} {xs : List α} (h : EV enc k w v xs) : EV enc k w.drew v xs := h

/-- A fact about the world that stays true where only new memory is written. -/
structure SP where
  p : World → Prop
  st : ∀ w w', Below w.heap.size w w' → p w → p w'
def sTr : SP := ⟨fun _ => True, fun _ _ _ h => h⟩
def sEV {α : Type} (enc : α → List Value) (k : Nat) (v : Value) (xs : List α) : SP := ⟨fun w => EV enc k w v xs, fun _ _ b h => h.below b⟩
def sOV {α : Type} (enc : α → List Value) (k : Nat) (e : TypeId) (base : Nat) (v : Value) (xs : List α) : SP := ⟨fun w => OV enc k e base w v xs, fun _ _ b h => h.below b⟩
def sB (w0 : World) : SP := ⟨fun w => Below w0.heap.size w0 w, fun _ _ b h => h.trans (b.mono h.size)⟩
def Facts (w : World) : List SP → Prop
  | [] => True
  | s :: L => s.p w ∧ Facts w L
theorem Facts.below {w w' : World} : ∀ {L : List SP}, Facts w L → Below w.heap.size w w' → Facts w' L
  | [], _, _ => trivial
  | s :: _, h, b => ⟨s.st _ _ b h.1, Facts.below h.2 b⟩
theorem Facts.snoc {w : World} : ∀ {L : List SP}, Facts w L → ∀ s : SP, s.p w → Facts w (L ++ [s])
  | [], _, _, hs => ⟨hs, trivial⟩
  | _ :: _, h, s, hs => ⟨h.1, Facts.snoc h.2 s hs⟩
theorem Facts.get {w : World} : ∀ {L : List SP}, Facts w L → ∀ i : Nat, (L.getD i sTr).p w
  | [], _, _ => trivial
  | _ :: _, h, 0 => h.1
  | _ :: _, h, i + 1 => Facts.get h.2 i
theorem Facts.nil (w : World) : Facts w [] := trivial

/-- A row of n elements of k cells that may be written over. -/
def Wrt (k : Nat) (w : World) (v : Value) (n : Nat) : Prop :=
  (n = 0 ∧ ∃ A c, v = .slice A 0 c) ∨ (0 < n ∧ ∃ g cap, v = .slice (some ⟨g, 0, none⟩) n cap ∧ ∀ i, i < n * k → (∃ u, w.cell? ⟨g, i, none⟩ = some u) ∧ w.frozen? ⟨g, i, none⟩ = false)
section
variable {α : Type} {enc : α → List Value} {k base n : Nat} {e : TypeId} {w w' : World} {v : Value} {xs : List α}
theorem OV.wrt (hk : ∀ x, (enc x).length = k) (h : OV enc k e base w v xs) : Wrt k w v xs.length := by
  rcases Nat.eq_zero_or_pos xs.length with h0 | h0
  · obtain ⟨A, c, hv⟩ := (h.ev hk).shape
    rw [h0] at hv
    exact .inl ⟨h0, A, c, hv⟩
  · obtain ⟨g, cap, hv, _, _⟩ := h.form h0
    refine .inr ⟨h0, g, cap, hv, fun i hi => ?_⟩
    have hl : i < (xs.flatMap enc).length := by rw [flat_len hk]; exact hi
    have hh := h
    unfold OV at hh
    rw [hv] at hh
    exact ⟨⟨_, (World.ownsRow.cellAt hh i (by rw [flat_len hk] at hl; exact hl)).trans (List.getElem?_eq_getElem hl)⟩, World.ownsRow.frozenAt hh i⟩
theorem Wrt.shape (h : Wrt k w v n) : ∃ A c, v = .slice A n c := by
  rcases h with ⟨rfl, A, c, rfl⟩ | ⟨_, g, cap, rfl, _⟩
  · exact ⟨A, c, rfl⟩
  · exact ⟨_, cap, rfl⟩
theorem Wrt.setCell (h : Wrt k w v n) (p : Addr) (u : Value) : Wrt k (w.setCell p u) v n := by
  rcases h with h | ⟨h0, g, cap, hv, h⟩
  · exact .inl h
  · refine .inr ⟨h0, g, cap, hv, fun i hi => ?_⟩
    obtain ⟨⟨x, hx⟩, hf⟩ := h i hi
    exact ⟨by obtain ⟨y, hy⟩ := cell?_setCell_some (w := w) (p := p) (x := u) (q := ⟨g, i, none⟩) (v := x) hx; exact ⟨y, hy⟩, (World.frozen?_setCell _ _ _ _).trans hf⟩
theorem Wrt.below (h : Wrt k w v n) (hb : Below w.heap.size w w') : Wrt k w' v n := by
  rcases h with h | ⟨h0, g, cap, hv, h⟩
  · exact .inl h
  · refine .inr ⟨h0, g, cap, hv, fun i hi => ?_⟩
    obtain ⟨⟨x, hx⟩, hf⟩ := h i hi
    exact ⟨⟨x, below_cell hb hx⟩, (hb.frozen (cell_lt hx)).trans hf⟩
theorem EV.mod {T : Nat → Prop} (h : EV enc k w v xs) (hm : Mod T w w') (ht : ∀ g o n c, v = .slice (some ⟨g, o, none⟩) n c → ¬ T g) : EV enc k w' v xs := by
  rcases h with h | ⟨h1, b, off, c, rfl, h3, h4⟩
  · exact .inl h
  · exact .inr ⟨h1, b, off, c, rfl, h3, h4.keep fun p u hp hc => hm.cell hc (fun t => ht b off _ c rfl (hp ▸ t))⟩
end
theorem equal_same (w : World) (r1 r2 : Value) (xs : List Int) (h1 : EV encI 1 w r1 xs) (h2 : EV encI 1 w r2 xs) (b : xs.length ≤ 1000000000) :
    Calls Tryd.prog 28 #[r1, r2] w fun e w' => e = .returned (.bool true) ∧ Below w.heap.size w w' := by
  refine (equal_int w r1 r2 xs xs h1 h2 b b).mono ?_
  rintro e w' ⟨rfl, q, rfl⟩
  exact ⟨by simp, below_drewN (Below.refl _ _) _⟩
end Go.Proofs.YtaplangfppohdaaDoor
namespace Go.Proofs.YtaplangfppohdaaDoor
open Go
def lmR : Code → Option Nat
  | .region j _ _ => some j
  | .seq a _ => lmR a
  | _ => none
def isR (k : Nat) : Option Nat → Bool
  | some j => Nat.beq j k
  | none => false
/-- The outermost chain that begins with region k. -/
def fromR (k : Nat) : Code → Option Code
  | .seq a b => match isR k (lmR a) with
    | true => some (.seq a b)
    | false => match fromR k a with
      | some c => some c
      | none => fromR k b
  | .cond _ x y => match fromR k x with
    | some c => some c
    | none => fromR k y
  | .block _ x => fromR k x
  | .loop x => fromR k x
  | .scope x => fromR k x
  | .region j ops d => match Nat.beq j k with
    | true => some (.region j ops d)
    | false => none
  | _ => none
noncomputable def tailR (f : Func) (k : Nat) : Code := ((f.body.bind (fromR k)).getD .skip)
end Go.Proofs.YtaplangfppohdaaDoor
namespace Go.Proofs.YtaplangfppohdaaDoor
open Go.RowKit Go.Shelf
attribute [local go_sem] Oper.semAt_some

set_option maxHeartbeats 400000 in
theorem right_ok (w : World) (v : Value) (gs : List (Int × Int)) (hv : EV encG 2 w v gs) (hlen : gs.length ≤ 100000) :
    Calls Tryd.prog 48 #[v] w fun e w' => e = .returned (.bool (rightB gs)) ∧ Below w.heap.size w w' := by
  have H := Lib.hid (check_ok w v gs hv hlen)
  have E := Lib.hid (show rightB gs = ((checkG gs).2 == 0) from rfl)
  generalize checkG gs = c at H E
  generalize rightB gs = r at E ⊢
  obtain ⟨c1, c2⟩ := c
  clear hv
  by_cases hc : c2 = 0
  · subst hc
    go_enter Tryd.func48, Tryd.ntmps48
    go_wp2_with (go_at_call 80; refine H.out.mono ?_; rintro e w' ⟨rfl, hb⟩)
    go_ret
    exact ⟨ret_bool E.out.symm, hb⟩
  · have hc' : (c2 == 0) = false := by simp [hc]
    have E' := Lib.hid (show false = r by rw [E.out]; exact hc'.symm)
    clear hc
    go_enter Tryd.func48, Tryd.ntmps48
    go_wp2_with (go_at_call 80; refine H.out.mono ?_; rintro e w' ⟨rfl, hb⟩)
    go_ret
    exact ⟨ret_bool E'.out, hb⟩

def outB (n : Nat) (g : Int) : Bool := decide (g < 0) || decide ((n : Int) ≤ g)
/-- What 'there' returns. -/
def thereZ (gs : List (Int × Int)) (zs : List Int) : Int := if rightB gs = false then 194 else if zs.any (outB gs.length) then 2 else 0

set_option maxHeartbeats 400000 in
theorem there1_ok (w : World) (A : Option Addr) (n c B : Nat) (x : Int) (hc : w.cell? ⟨B, 0, none⟩ = some (.slice A n c)) (hn : n ≤ 100000) :
    Calls Tryd.prog 87 #[.int .i64 x, .pointer (some ⟨B, 0, none⟩)] w fun e w' => e = .returned (.bool (outB n x)) ∧ w = w' := by
  by_cases h1 : x < 0
  · go_enter Tryd.func87, Tryd.ntmps87
    go_wp2
    go_ret
    exact ⟨by simp [outB, h1], rfl⟩
  · by_cases h2 : (n : Int) ≤ x
    all_goals
      go_enter Tryd.func87, Tryd.ntmps87
      go_wp2
      go_ret
      exact ⟨by simp [outB, h1, h2], rfl⟩

set_option maxHeartbeats 400000 in
theorem there_ok (w : World) (v vs : Value) (gs : List (Int × Int)) (zs : List Int) (hv : EV encG 2 w v gs) (hs : EV encI 1 w vs zs) (hlen : gs.length ≤ 100000) (hlz : zs.length ≤ 100000) :
    Calls Tryd.prog 62 #[v, vs] w fun e w' => e = .returned (.int .i64 (thereZ gs zs)) ∧ Below w.heap.size w w' := by
  obtain ⟨A, c, rfl⟩ := hv.shape
  have HV := Lib.hid hv
  have HS := Lib.hid hs
  clear hv hs
  have H1 := Lib.hid (fun (w1 : World) (h : Below w.heap.size w w1) => right_ok w1 _ gs (HV.out.below h) hlen)
  have T1 := Lib.hid (fun (h : rightB gs = false) => show thereZ gs zs = 194 from if_pos h)
  have T2 := Lib.hid (fun (h : rightB gs = true) => show thereZ gs zs = if zs.any (outB gs.length) then 2 else 0 from if_neg (by simp [h]))
  generalize thereZ gs zs = t at T1 T2 ⊢
  generalize hr : rightB gs = r at H1 T1 T2
  clear hr
  cases r with
  | false =>
    obtain rfl := T1.out rfl
    clear T1 T2
    go_enter Tryd.func62, Tryd.ntmps62
    go_wp2_with (go_at_call 48; refine (H1.out _ ((Below.refl _ _).alloc (Nat.le_refl _) _)).mono ?_; rintro e w' ⟨rfl, hb⟩)
    go_ret
    exact ⟨rfl, ((Below.refl _ w).alloc (Nat.le_refl _) _).trans (hb.mono (by simp))⟩
  | true =>
    have T := Lib.hid (T2.out rfl)
    clear T1 T2
    have H3 := Lib.hid (fun (w1 : World) (h : Below w.heap.size w w1) (hc : w1.cell? ⟨w.heap.size, 0, none⟩ = some (.slice A gs.length c)) =>
      containsFunc_int w1 vs zs 87 #[.pointer (some ⟨w.heap.size, 0, none⟩)] (outB gs.length) (HS.out.below h) (by omega)
        ⟨enters_of Tryd.func87 (by kernel_rfl) rfl, fun n x _ => (there1_ok (w1.drewN n) A gs.length c w.heap.size x hc hlen).mono fun e w' h => ⟨h.1, 0, h.2⟩⟩)
    generalize zs.any (outB gs.length) = r at T H3
    obtain rfl := T.out
    clear T
    cases r with
    | false =>
      go_enter Tryd.func62, Tryd.ntmps62
      go_wp2_with (go_at_call 48; refine (H1.out _ ((Below.refl _ _).alloc (Nat.le_refl _) _)).mono ?_; rintro e w' ⟨rfl, hb⟩; have hb0 := ((Below.refl _ w).alloc (Nat.le_refl _) (.cells #[.slice A gs.length c] 37)).trans (hb.mono (by simp)); have hcl := below_cell hb (p := ⟨w.heap.size, 0, none⟩) (u := .slice A gs.length c) (by simp [go_sem]))
      refine (H3.out _ hb0 hcl).mono ?_
      rintro e w2 ⟨rfl, n, rfl⟩
      go_wp2
      go_ret
      exact ⟨rfl, below_drewN hb0 _⟩
    | true =>
      go_enter Tryd.func62, Tryd.ntmps62
      go_wp2_with (go_at_call 48; refine (H1.out _ ((Below.refl _ _).alloc (Nat.le_refl _) _)).mono ?_; rintro e w' ⟨rfl, hb⟩; have hb0 := ((Below.refl _ w).alloc (Nat.le_refl _) (.cells #[.slice A gs.length c] 37)).trans (hb.mono (by simp)); have hcl := below_cell hb (p := ⟨w.heap.size, 0, none⟩) (u := .slice A gs.length c) (by simp [go_sem]))
      refine (H3.out _ hb0 hcl).mono ?_
      rintro e w2 ⟨rfl, n, rfl⟩
      go_wp2
      go_ret
      exact ⟨rfl, below_drewN hb0 _⟩
end Go.Proofs.YtaplangfppohdaaDoor
namespace Go.Proofs.YtaplangfppohdaaDoor
open Go.RowKit Go.Shelf
attribute [local go_sem] Oper.semAt_some

section
variable {gs : List (Int × Int)}
theorem there_zero {zs : List Int} : thereZ gs zs = 0 ↔ GOK gs ∧ ∀ z ∈ zs, 0 ≤ z ∧ z < gs.length := by
  unfold thereZ
  cases hr : rightB gs with
  | false =>
    simp only [if_true, show ((194 : Int) = 0) = False from by simp, false_iff]
    intro h
    rw [right_iff.2 h.1] at hr; cases hr
  | true =>
    rw [if_neg (by simp)]
    have hg := right_iff.1 hr
    by_cases h : zs.any (outB gs.length) = true
    · rw [if_pos h]
      simp only [show ((2 : Int) = 0) = False from by simp, false_iff]
      intro h2
      obtain ⟨z, hz, ho⟩ := List.any_eq_true.1 h
      have := h2.2 z hz
      simp [outB] at ho; omega
    · rw [if_neg h]
      simp only [true_iff]
      refine ⟨hg, fun z hz => ?_⟩
      have : ¬ outB gs.length z = true := fun ho => h (List.any_eq_true.2 ⟨z, hz, ho⟩)
      simp [outB] at this; omega
def ints (l : List Nat) : List Int := l.map (fun n : Nat => (n : Int))
/-- Depth. -/
def dZ (gs : List (Int × Int)) (g : Int) : Int := if thereZ gs [g] = 0 then dep gs g.toNat else 0
def pathL (gs : List (Int × Int)) (g : Int) : List Int := if thereZ gs [g] = 0 then ints (path gs g.toNat) else []
/-- Groups that a function chooses. -/
def chosen (p : Nat → Bool) (n : Nat) : List Int := ints ((List.range n).filter p)
def childB (gs : List (Int × Int)) (g : Nat) (x : Nat) : Bool := decide (0 < x) && (par gs x == g)
def underB (gs : List (Int × Int)) (g : Nat) (x : Nat) : Bool := (path gs x).contains g
def childL (gs : List (Int × Int)) (g : Int) : List Int := if thereZ gs [g] = 0 then chosen (childB gs g.toNat) gs.length else []
def underL (gs : List (Int × Int)) (g : Int) : List Int := if thereZ gs [g] = 0 then chosen (underB gs g.toNat) gs.length else []
theorem chosen_succ (p : Nat → Bool) (n : Nat) : chosen p (n + 1) = chosen p n ++ if p n then [(n : Int)] else [] := by
  unfold chosen ints
  rw [List.range_succ, List.filter_append, List.map_append]
  congr 1
  cases h : p n <;> simp [h]
theorem chosen_len (p : Nat → Bool) (n : Nat) : (chosen p n).length ≤ n := by
  unfold chosen ints
  rw [List.length_map]
  have := List.length_filter_le p (List.range n)
  simpa using this
end

theorem new_one {w : World} {z : Int} {e : TypeId} : EV encI 1 (w.alloc (.cells #[.int .i64 z] e)) (.slice (some ⟨w.heap.size, 0, none⟩) 1 1) [z] := EV.new1 rfl (Nat.le_refl _)

/-- 'there' of one group, as the walks meet it. -/
theorem there_one (w : World) (v : Value) (gs : List (Int × Int)) (z : Int) (hv : EV encG 2 w v gs) (hlen : gs.length ≤ 100000) (m : Nat) (hm : w.heap.size = m) :
    Calls Tryd.prog 62 #[v, .slice (some ⟨m, 0, none⟩) 1 1] (w.alloc (.cells #[.int .i64 z] 3)) fun e w' => e = .returned (.int .i64 (thereZ gs [z])) ∧ Below w.heap.size w w' := hm ▸
  (there_ok _ v _ gs [z] (hv.below ((Below.refl _ _).alloc (Nat.le_refl _) _)) new_one hlen (by simp)).mono fun e w' h => ⟨h.1, ((Below.refl _ w).alloc (Nat.le_refl _) _).trans (h.2.mono (by simp))⟩

set_option maxHeartbeats 400000 in
theorem path_ok (w : World) (v : Value) (gs : List (Int × Int)) (z : Int) (hv : EV encG 2 w v gs) (hlen : gs.length ≤ 100000) :
    Calls Tryd.prog 40 #[v, .int .i64 z] w fun e w' => ∃ r, e = .returned (.tuple #[r, .int .i64 (thereZ gs [z])]) ∧ OV encI 1 3 w.heap.size w' r (pathL gs z) ∧ Below w.heap.size w w' := by
  have HT := Lib.hid (there_one w v gs z hv hlen _ rfl)
  by_cases ht : thereZ gs [z] = 0
  · have hd : pathL gs z = ints (path gs z.toNat) := if_pos ht
    obtain ⟨hok, hz⟩ := there_zero.1 ht
    obtain ⟨hz1, hz2⟩ := hz z (by simp)
    obtain ⟨g, rfl⟩ := Int.eq_ofNat_of_zero_le hz1
    rw [Int.toNat_natCast] at hd
    obtain ⟨b, off, c, rfl, hc, hr⟩ := hv.row hok.pos
    have hg : g < gs.length := by omega
    have hbl : b < w.heap.size := hr.lt hok.pos (fun _ => by simp [encG_len])
    have D := Lib.hid (fun (w1 : World) (Bg Bl : Nat) (h : Below w.heap.size w w1) h1 h2 h3 h4 h5 => up1_iter w1 Bg Bl b off c g gs (path gs g) (path_up hok.bef (Nat.le_refl _) g hg) (path_head hok.bef hg) h1 h2 h3 (hr.below h) hlen h4 h5)
    have HL := Lib.hid (path_le hok.bef g hg)
    rw [ht] at HT
    rw [ht, hd]
    clear hv hr hz hz1 hd ht hok
    go_enter Tryd.func40, Tryd.ntmps40
    go_wp2_with (go_at_call 62; refine HT.out.mono ?_; rintro e w' ⟨rfl, hb⟩)
    refine (of_in (up_ok _ _ _ _ _)).mono ?_
    rintro e w2 ⟨rfl, hw2⟩
    go_wp2_with fail
    have hb2 : Below w.heap.size w w2 := by rw [← hw2]; exact (hb.alloc hb.size _).alloc (by have := hb.size; simp; omega) _
    have hsz : w2.heap.size = w'.heap.size + 2 := by rw [← hw2]; simp
    have hsz0 := hb.size
    have i := D.out w2 (w'.heap.size + 1) w'.heap.size hb2 (by rw [← hw2]; simp [go_sem]) (by rw [← hw2]; simp [go_sem]) (by rw [← hw2]; simp [go_sem]) (by omega) (by omega)
    have hM : ∀ w3, Mod (fun k => k = w'.heap.size + 1) w2 w3 → Below w.heap.size w w3 := fun w3 h => hb2.trans (h.below (fun k hk e => by omega) (by omega))
    have HW2 := Lib.hid hw2
    clear hw2
    refine (collect_int w2 88 _ (fun k => ((path gs g)[k]?.getD 0 : Nat)) _ _ _ (enters_of Tryd.func88 (by kernel_rfl) rfl) i (fun k e => by omega) (fun k e => by omega) (by have := HL.out; omega)).mono ?_
    rintro e w3 ⟨r, rfl, ho, hm⟩
    have hb3 := hM _ hm
    have ho' : OV encI 1 3 w.heap.size w3 r (ints (path gs g)) := by
      have e : upto (fun k => ((path gs g)[k]?.getD 0 : Nat)) (path gs g).length = ints (path gs g) := by
        apply List.ext_getElem (by simp [upto, ints])
        intro i h1 h2
        have h3 : i < (path gs g).length := by simpa [upto] using h1
        simp [upto, ints, h3]
      rw [e] at ho
      exact ho.base_le (by omega)
    clear ho hm hM i hsz
    go_wp2
    go_ret2
    exact ⟨r, rfl, ho', hb3⟩
  · have hd : pathL gs z = [] := if_neg ht
    rw [hd]
    generalize thereZ gs [z] = t at HT ht ⊢
    have ht' : (t != 0) = true := by simp [ht]
    clear ht hv hd
    go_enter Tryd.func40, Tryd.ntmps40
    go_wp2_with (go_at_call 62; refine HT.out.mono ?_; rintro e w' ⟨rfl, hb⟩)
    go_ret2
    exact ⟨_, rfl, OV.nil _ _, hb⟩
end Go.Proofs.YtaplangfppohdaaDoor
namespace Go.Proofs.YtaplangfppohdaaDoor
open Go Go.RowKit

section
variable {P : Program} {md : Region.Mode} {ops : Array Oper} {Q : Exit → Act → World → Prop}

theorem ready_mem {listed : Array Bool} {i : Nat} (h : i ∈ Region.ready md ops listed) : i < ops.size ∧ listed.getD i true = false ∧ ∃ o, ops[i]? = some o ∧ ∀ e ∈ o.after.toList, Region.binds md e = true → listed.getD e.on false = true := by
  unfold Region.ready at h
  obtain ⟨h1, h2⟩ := List.mem_filter.1 h
  have hi := List.mem_range.1 h1
  rw [Bool.and_eq_true] at h2
  obtain ⟨h3, h4⟩ := h2
  refine ⟨hi, by simpa using h3, ops[i], Array.getElem?_eq_getElem hi, fun e he hb => ?_⟩
  rw [Array.getElem?_eq_getElem hi] at h4
  simp only [Option.map_some, Option.getD_some, Array.all_eq_true_iff_forall_mem] at h4
  have := h4 e (by simpa using he)
  simpa [hb] using this
def left (listed : Array Bool) : Nat := listed.toList.countP (fun b => !b)
theorem left_set {listed : Array Bool} {i : Nat} (h : listed.getD i true = false) : left (listed.setIfInBounds i true) + 1 = left listed := by
  have hi : i < listed.size := by
    rcases Nat.lt_or_ge i listed.size with h' | h'
    · exact h'
    · rw [Array.getD_eq_getD_getElem?, Array.getElem?_eq_none h'] at h; simp at h
  have hv : listed.toList[i]? = some false := by
    rw [Array.getD_eq_getD_getElem?, Array.getElem?_eq_getElem hi] at h
    simp only [Option.getD_some] at h
    rw [Array.getElem?_toList, Array.getElem?_eq_getElem hi, h]
  unfold left
  rw [Array.toList_setIfInBounds]
  generalize listed.toList = l at hv
  clear h hi
  induction l generalizing i with
  | nil => simp at hv
  | cons x r ih =>
    rcases i with _ | i
    · simp at hv; subst hv; simp
    · simp at hv
      rw [List.set_cons_succ, List.countP_cons, List.countP_cons, ← ih hv]
      omega
theorem ready_none {listed : Array Bool} (hs : listed.size = ops.size) (h : left listed = 0) : Region.ready md ops listed = [] := by
  unfold Region.ready
  rw [List.filter_eq_nil_iff]
  intro i hi
  have hi := List.mem_range.1 hi
  have : listed.getD i true = true := by
    unfold left at h
    rw [List.countP_eq_zero] at h
    have h2 := h listed[i] (by simp)
    rw [Array.getD_eq_getD_getElem?, Array.getElem?_eq_getElem (by omega)]
    simpa using h2
  rw [this]; simp
/-- By an invariant of what has come up. -/
theorem wpAny_inv (I : Array Bool → Act → World → Prop)
    (hstep : ∀ listed a w i, listed.size = ops.size → I listed a w → i ∈ Region.ready md ops listed → wpOp P ops Q i (I (listed.setIfInBounds i true)) a w)
    (hend : ∀ listed a w, listed.size = ops.size → I listed a w → Region.ready md ops listed = [] → Q .normal a w) :
    ∀ fuel listed a w, listed.size = ops.size → left listed ≤ fuel → I listed a w → wpAny P md ops Q fuel listed a w
  | 0, listed, a, w, hs, hl, hI => by
    have hr : Region.ready md ops listed = [] := ready_none hs (by omega)
    exact ⟨hr, hend listed a w hs hI hr⟩
  | fuel + 1, listed, a, w, hs, hl, hI => ⟨hend listed a w hs hI, fun i hi => by
    have hm := ready_mem hi
    have hc := left_set hm.2.1
    exact wpOp_mono (fun a' w' h => wpAny_inv I hstep hend fuel _ a' w' (by simpa using hs) (by omega) h) (hstep listed a w i hs hI hi)⟩
/-- Operation i waits for operation j. -/
def depB (md : Region.Mode) (ops : Array Oper) (i j : Nat) : Bool := (ops[i]?).any fun o => o.after.any fun e => Region.binds md e && e.on == j
def upd (x : Nat → Value) (i : Nat) (v : Value) (j : Nat) : Value := if j = i then v else x j
theorem upd_self (x : Nat → Value) (i : Nat) (v : Value) : upd x i v i = v := if_pos rfl
theorem upd_ne {x : Nat → Value} {i j : Nat} {v : Value} (h : j ≠ i) : upd x i v j = x j := if_neg h
theorem set_cases {listed : Array Bool} {i j : Nat} (h : (listed.setIfInBounds i true).getD j false = true) : j = i ∨ listed.getD j false = true := by
  by_cases e : j = i
  · exact .inl e
  · right
    rw [Array.getD_eq_getD_getElem?, Array.getElem?_setIfInBounds_ne (fun h => e h.symm)] at h
    rwa [Array.getD_eq_getD_getElem?]
/-- All operations but the last only add to what is there (R); the last waits for all others. F: what an operation's value is worth; b: the frame by the operations' values. -/
theorem wp_region_last {id : Nat} {a : Act} {w : World} (hm : P.follows .mixedOrders = true) (N : Nat) (hN : ops.size = N + 1) (R : World → World → Prop)
    (b : (Nat → Value) → Act) (F : Nat → Value → World → Prop) (B : World → Prop) (hF : ∀ i v w w', R w w' → F i v w → F i v w') (hB : ∀ w w', R w w' → B w → B w')
    (hgd : (List.range (N + 1)).all (fun i => ((ops[i]?).map (·.guard.isNone)).getD false) = true)
    (hlast : (List.range N).all (depB .any ops N) = true) (hord : (List.range (N + 1)).all (fun i => ((ops[i]?).map (fun o => o.after.all fun e => !Region.binds .any e || decide (e.on < i))).getD false) = true)
    (hsteps : ∀ i o, i < N → ops[i]? = some o → ∀ x w, B w → (∀ j, depB .any ops i j = true → F j (x j) w) → ∀ K : Act → World → Prop, (∀ v w', R w w' → F i v w' → K (b (upd x i v)) w') → o.wp P (b x) w K Q)
    (hfin : ∀ o, ops[N]? = some o → ∀ x w, B w → (∀ j, j < N → F j (x j) w) → ∀ K : Act → World → Prop, (∀ a' w', Q .normal a' w' → K a' w') → o.wp P (b x) w K Q)
    (x0 : Nat → Value) (h0 : a = b x0) (hB0 : B w.drew) : (Code.region id ops true).wp P Q a w := by
  refine wp_region_any hm ?_
  have hwant : ∀ i o, ops[i]? = some o → ∀ ts, Region.wanted o (yielded ops ts) = true := fun i o ho ts => by
    have hi := (Array.getElem?_eq_some_iff.1 ho).1
    have := List.all_eq_true.1 hgd i (List.mem_range.2 (by omega))
    rw [ho] at this
    simp only [Option.map_some, Option.getD_some, Option.isNone_iff_eq_none] at this
    simp [Region.wanted, this]
  refine wpAny_inv (I := fun listed a w => ((∀ j, j ≤ N → listed.getD j false = true) ∧ Q .normal a w) ∨ (listed.getD N false = false ∧ ∃ x, a = b x ∧ B w ∧ ∀ j, j < N → listed.getD j false = true → F j (x j) w)) ?_ ?_ _ _ _ _ (by simp) ?_ ?_
  · intro listed a w i hs hI hi
    obtain ⟨h1, h2, o, ho, hdep⟩ := ready_mem hi
    have hdp : ∀ j, depB .any ops i j = true → listed.getD j false = true := fun j hj => by
      unfold depB at hj
      rw [ho] at hj
      simp only [Option.any_some] at hj
      rw [← Array.any_toList] at hj
      obtain ⟨e, he, hj⟩ := List.any_eq_true.1 hj
      rw [Bool.and_eq_true, beq_iff_eq] at hj
      rw [← hj.2]; exact hdep e he hj.1
    have hstp : ∀ K, o.wp P a w K Q → wpOp P ops Q i K a w := fun K h => by
      unfold wpOp; rw [ho]; simp only
      rw [if_pos (hwant i o ho _)]; exact .inl h
    refine hstp _ ?_
    rcases hI with ⟨hl, _⟩ | ⟨hl, x, rfl, hb, hf⟩
    · -- nothing comes up behind the last
      exfalso
      have := hl i (by omega)
      rw [Array.getD_eq_getD_getElem?, Array.getElem?_eq_getElem (by omega)] at h2 this
      simp at h2 this; rw [h2] at this; cases this
    · rcases Nat.lt_or_ge i N with hiN | hiN
      · refine Oper.wp_mono (fun a' w' h => ?_) (hsteps i o hiN ho x w hb (fun j hj => ?_) (fun a' w' => ∃ v, a' = b (upd x i v) ∧ R w w' ∧ F i v w') (fun v w' h1 h2 => ⟨v, rfl, h1, h2⟩))
        · obtain ⟨v, rfl, hr, hfi⟩ := h
          refine .inr ⟨?_, upd x i v, rfl, hB _ _ hr hb, fun j hj hlj => ?_⟩
          · rw [Array.getD_eq_getD_getElem?, Array.getElem?_setIfInBounds_ne (by omega), ← Array.getD_eq_getD_getElem?]; exact hl
          · rcases set_cases hlj with rfl | hlj
            · rw [upd_self]; exact hfi
            · by_cases e : j = i
              · subst e; rw [upd_self]; exact hfi
              · rw [upd_ne e]; exact hF _ _ _ _ hr (hf j hj hlj)
        · have hlj := hdp j hj
          rcases Nat.lt_or_ge j N with hjN | hjN
          · exact hf j hjN hlj
          · exfalso
            have hjs : j < listed.size := by
              rcases Nat.lt_or_ge j listed.size with h' | h'
              · exact h'
              · rw [Array.getD_eq_getD_getElem?, Array.getElem?_eq_none h'] at hlj; simp at hlj
            obtain rfl : j = N := by omega
            rw [hlj] at hl; cases hl
      · obtain rfl : i = N := by omega
        have hall : ∀ j, j < i → listed.getD j false = true := fun j hj => hdp j (List.all_eq_true.1 hlast j (List.mem_range.2 hj))
        refine Oper.wp_mono (fun a' w' h => .inl ⟨fun j hj => ?_, h⟩) (hfin o ho x w hb (fun j hj => hf j hj (hall j hj)) (Q .normal) (fun _ _ h => h))
        by_cases e : j = i
        · subst e; rw [Array.getD_eq_getD_getElem?, Array.getElem?_setIfInBounds_self_of_lt (by omega)]; rfl
        · rw [Array.getD_eq_getD_getElem?, Array.getElem?_setIfInBounds_ne (fun h => e h.symm), ← Array.getD_eq_getD_getElem?]; exact hall j (by omega)
  · intro listed a w hs hI hr
    rcases hI with ⟨_, h⟩ | ⟨hl, x, rfl, hb, hf⟩
    · exact h
    · exfalso
      -- the least that has not come up is ready
      have hle : ∀ k, k ≤ N → listed.getD k false = true := by
        intro k
        induction k using Nat.strongRecOn with
        | _ k ih =>
          intro hk
          have hks : k < listed.size := by omega
          cases hv : listed.getD k false with
          | true => rfl
          | false =>
            exfalso
            have hmem : k ∈ Region.ready .any ops listed := by
              unfold Region.ready
              refine List.mem_filter.2 ⟨List.mem_range.2 (by omega), ?_⟩
              rw [Bool.and_eq_true]
              refine ⟨?_, ?_⟩
              · rw [Array.getD_eq_getD_getElem?, Array.getElem?_eq_getElem hks] at hv ⊢
                simpa using hv
              · have ho := List.all_eq_true.1 hord k (List.mem_range.2 (by omega))
                rw [Array.getElem?_eq_getElem (show k < ops.size by omega)] at ho ⊢
                simp only [Option.map_some, Option.getD_some] at ho ⊢
                rw [← Array.all_toList] at ho ⊢
                rw [List.all_eq_true] at ho ⊢
                intro e he
                have hon := ho e he
                cases hbe : Region.binds .any e with
                | false => rfl
                | true =>
                  rw [hbe] at hon
                  have hon' : e.on < k := by simpa using hon
                  rw [ih e.on hon' (by omega)]; rfl
            rw [hr] at hmem; cases hmem
      rw [hle N (Nat.le_refl _)] at hl; cases hl
  · refine Nat.le_trans List.countP_le_length ?_
    simp
  · exact .inr ⟨by rw [Array.getD_eq_getD_getElem?, Array.getElem?_replicate, if_pos (by omega)]; rfl, x0, h0, hB0, fun j hj h => by
      rw [Array.getD_eq_getD_getElem?, Array.getElem?_replicate] at h
      split at h <;> simp at h⟩
/-- Operations that leave the world as it is (F: what each yields), and a chain of K others, each behind the one before (B k: what is so when k of them are done). -/
theorem wp_region_chain {id : Nat} {a : Act} {w : World} (hm : P.follows .mixedOrders = true) (N : Nat) (hN : ops.size = N) (K : Nat) (ch : Nat → Nat)
    (b : (Nat → Value) → Act) (F : Nat → Value → Prop) (B : Nat → (Nat → Value) → World → Prop)
    (hch : (List.range K).all (fun k => decide (ch k < N) && (List.range K).all (fun m => k == m || ch k != ch m) && (k == 0 || depB .any ops (ch k) (ch (k - 1)))) = true)
    (hB : ∀ k x i v w, ((List.range K).any fun m => ch m == i) = false → B k x w → B k (upd x i v) w)
    (hgd : (List.range N).all (fun i => ((ops[i]?).map (·.guard.isNone)).getD false) = true)
    (hord : (List.range N).all (fun i => ((ops[i]?).map (fun o => o.after.all fun e => !Region.binds .any e || decide (e.on < i))).getD false) = true)
    (hpure : ∀ i o, i < N → ((List.range K).any fun m => ch m == i) = false → ops[i]? = some o → ∀ k x w, k ≤ K → B k x w → (∀ j, depB .any ops i j = true → ((List.range K).any fun m => ch m == j) = false → F j (x j)) → (∀ m, m < K → depB .any ops i (ch m) = true → m < k) → (∀ m, m < k → depB .any ops (ch m) i = false) →
      ∀ Kt : Act → World → Prop, (∀ v, F i v → Kt (b (upd x i v)) w) → o.wp P (b x) w Kt Q)
    (hchain : ∀ k o, k < K → ops[ch k]? = some o → ∀ x w, B k x w → (∀ j, depB .any ops (ch k) j = true → ((List.range K).any fun m => ch m == j) = false → F j (x j)) →
      ∀ Kt : Act → World → Prop, (∀ v w', B (k + 1) (upd x (ch k) v) w' → Kt (b (upd x (ch k) v)) w') → o.wp P (b x) w Kt Q)
    (hend : ∀ x w, B K x w → (∀ j, j < N → ((List.range K).any fun m => ch m == j) = false → F j (x j)) → Q .normal (b x) w)
    (x0 : Nat → Value) (h0 : a = b x0) (hB0 : B 0 x0 w.drew) : (Code.region id ops true).wp P Q a w := by
  refine wp_region_any hm ?_
  have hwant : ∀ i o, ops[i]? = some o → ∀ ts, Region.wanted o (yielded ops ts) = true := fun i o ho ts => by
    have hi := (Array.getElem?_eq_some_iff.1 ho).1
    have := List.all_eq_true.1 hgd i (List.mem_range.2 (by omega))
    rw [ho] at this
    simp only [Option.map_some, Option.getD_some, Option.isNone_iff_eq_none] at this
    simp [Region.wanted, this]
  have hc1 : ∀ k, k < K → ch k < N := fun k hk => by
    have := List.all_eq_true.1 hch k (List.mem_range.2 hk)
    simp only [Bool.and_eq_true, decide_eq_true_eq] at this
    exact this.1.1
  have hc2 : ∀ k m, k < K → m < K → ch k = ch m → k = m := fun k m hk hm e => by
    have := List.all_eq_true.1 hch k (List.mem_range.2 hk)
    simp only [Bool.and_eq_true] at this
    have := List.all_eq_true.1 this.1.2 m (List.mem_range.2 hm)
    simpa [e] using this
  have hc3 : ∀ k, 0 < k → k < K → depB .any ops (ch k) (ch (k - 1)) = true := fun k h0 hk => by
    have := List.all_eq_true.1 hch k (List.mem_range.2 hk)
    simp only [Bool.and_eq_true, Bool.or_eq_true, beq_iff_eq] at this
    rcases this.2 with h | h
    · omega
    · exact h
  have hnc : ∀ i, ((List.range K).any fun m => ch m == i) = true ↔ ∃ m, m < K ∧ ch m = i := fun i => by simp
  refine wpAny_inv (I := fun listed a w => ∃ x k, a = b x ∧ k ≤ K ∧ (∀ m, m < K → (listed.getD (ch m) false = true ↔ m < k)) ∧ (∀ m, m < k → ∀ j, depB .any ops (ch m) j = true → listed.getD j false = true) ∧ B k x w ∧ ∀ j, j < N → ((List.range K).any fun m => ch m == j) = false → listed.getD j false = true → F j (x j)) ?_ ?_ _ _ _ _ (by simp) ?_ ?_
  · rintro listed a w i hs ⟨x, k, rfl, hk, hlk, hld, hb, hf⟩ hi
    obtain ⟨h1, h2, o, ho, hdep⟩ := ready_mem hi
    have hdp : ∀ j, depB .any ops i j = true → listed.getD j false = true := fun j hj => by
      unfold depB at hj
      rw [ho] at hj
      simp only [Option.any_some] at hj
      rw [← Array.any_toList] at hj
      obtain ⟨e, he, hj⟩ := List.any_eq_true.1 hj
      rw [Bool.and_eq_true, beq_iff_eq] at hj
      rw [← hj.2]; exact hdep e he hj.1
    have hlt : ∀ j, listed.getD j false = true → j < N := fun j hj => by
      rcases Nat.lt_or_ge j listed.size with h' | h'
      · omega
      · rw [Array.getD_eq_getD_getElem?, Array.getElem?_eq_none h'] at hj; simp at hj
    have hil : listed.getD i false = false := by
      rw [Array.getD_eq_getD_getElem?, Array.getElem?_eq_getElem (by omega)] at h2 ⊢
      simpa using h2
    have hfd : ∀ j, depB .any ops i j = true → ((List.range K).any fun m => ch m == j) = false → F j (x j) := fun j hj hn => hf j (hlt j (hdp j hj)) hn (hdp j hj)
    unfold wpOp; rw [ho]; simp only
    rw [if_pos (hwant i o ho _)]
    refine .inl ?_
    have hset : ∀ j, j ≠ i → (listed.setIfInBounds i true).getD j false = listed.getD j false := fun j hj => by
      rw [Array.getD_eq_getD_getElem?, Array.getElem?_setIfInBounds_ne (fun e => hj e.symm), ← Array.getD_eq_getD_getElem?]
    have hset' : (listed.setIfInBounds i true).getD i false = true := by
      rw [Array.getD_eq_getD_getElem?, Array.getElem?_setIfInBounds_self_of_lt (by omega)]; rfl
    cases hic : ((List.range K).any fun m => ch m == i) with
    | false =>
      have hne : ∀ m, m < K → ch m ≠ i := fun m hm e => by
        have := (hnc i).2 ⟨m, hm, e⟩
        rw [hic] at this; cases this
      refine hpure i o (by omega) hic ho k x w hk hb hfd (fun m hm hd => (hlk m hm).1 (hdp _ hd)) (fun m hm => ?_) _ (fun v hv => ⟨upd x i v, k, rfl, hk, fun m hm => ?_, fun m hm j hj => ?_, hB k x i v w hic hb, fun j hj hjc hlj => ?_⟩)
      · cases hdd : depB .any ops (ch m) i with
        | false => rfl
        | true => rw [hld m hm i hdd] at hil; cases hil
      · rw [hset _ (hne m hm)]; exact hlk m hm
      · by_cases e : j = i
        · subst e; exact hset'
        · rw [hset _ e]; exact hld m hm j hj
      · rcases set_cases hlj with rfl | hlj
        · rw [upd_self]; exact hv
        · by_cases e : j = i
          · subst e; rw [upd_self]; exact hv
          · rw [upd_ne e]; exact hf j hj hjc hlj
    | true =>
      obtain ⟨m, hm, rfl⟩ := (hnc i).1 hic
      have hmk : m = k := by
        have h3 : ¬ m < k := fun h => by rw [(hlk m hm).2 h] at hil; cases hil
        rcases Nat.lt_or_ge k m with h4 | h4
        · exfalso
          have := hdp _ (hc3 m (by omega) hm)
          have := (hlk (m - 1) (by omega)).1 this
          omega
        · omega
      subst hmk
      refine hchain m o hm ho x w hb hfd _ (fun v w' hv => ⟨upd x (ch m) v, m + 1, rfl, by omega, fun q hq => ?_, fun q hq j hj => ?_, hv, fun j hj hjc hlj => ?_⟩)
      · by_cases e : q = m
        · subst e; rw [hset']; simp
        · rw [hset _ (fun h => e (hc2 q m hq hm h)), hlk q hq]; omega
      · by_cases e : j = ch m
        · subst e; exact hset'
        · rw [hset _ e]
          rcases Nat.lt_or_ge q m with h | h
          · exact hld q h j hj
          · obtain rfl : q = m := by omega
            exact hdp j hj
      · have hjne : j ≠ ch m := fun e => by
          have := (hnc j).2 ⟨m, hm, e.symm⟩
          rw [hjc] at this; cases this
        rw [hset _ hjne] at hlj
        rw [upd_ne hjne]; exact hf j hj hjc hlj
  · rintro listed a w hs ⟨x, k, rfl, hk, hlk, hld, hb, hf⟩ hr
    have hle : ∀ q, q < N → listed.getD q false = true := by
      intro q
      induction q using Nat.strongRecOn with
      | _ q ih =>
        intro hq
        have hks : q < listed.size := by omega
        cases hv : listed.getD q false with
        | true => rfl
        | false =>
          exfalso
          have hmem : q ∈ Region.ready .any ops listed := by
            unfold Region.ready
            refine List.mem_filter.2 ⟨List.mem_range.2 (by omega), ?_⟩
            rw [Bool.and_eq_true]
            refine ⟨?_, ?_⟩
            · rw [Array.getD_eq_getD_getElem?, Array.getElem?_eq_getElem hks] at hv ⊢
              simpa using hv
            · have ho := List.all_eq_true.1 hord q (List.mem_range.2 (by omega))
              rw [Array.getElem?_eq_getElem (show q < ops.size by omega)] at ho ⊢
              simp only [Option.map_some, Option.getD_some] at ho ⊢
              rw [← Array.all_toList] at ho ⊢
              rw [List.all_eq_true] at ho ⊢
              intro e he
              have hon := ho e he
              cases hbe : Region.binds .any e with
              | false => rfl
              | true =>
                rw [hbe] at hon
                have hon' : e.on < q := by simpa using hon
                rw [ih e.on hon' (by omega)]; rfl
          rw [hr] at hmem; cases hmem
    have hkK : k = K := by
      rcases Nat.lt_or_ge k K with h | h
      · exfalso
        have := (hlk k h).1 (hle _ (hc1 k h))
        omega
      · omega
    subst hkK
    exact hend x w hb (fun j hj hjc => hf j hj hjc (hle j hj))
  · refine Nat.le_trans List.countP_le_length ?_
    simp
  · refine ⟨x0, 0, h0, Nat.zero_le _, fun m hm => ?_, fun m hm => by omega, hB0, fun j hj _ h => ?_⟩
    · rw [Array.getD_eq_getD_getElem?, Array.getElem?_replicate]
      split <;> simp
    · rw [Array.getD_eq_getD_getElem?, Array.getElem?_replicate] at h
      split at h <;> simp at h
end
section
variable {P : Program} {α : Type} {enc : α → List Value} {k bytes base : Nat} {t e : TypeId} {w w' : World} {v sv : Value} {xs ys : List α}
theorem wp_app {o : Oper} {a : Act} {K : Act → World → Prop} {Q : Exit → Act → World → Prop} (T : ElemT P t e k bytes) (hk : ∀ x, (enc x).length = k) (h1 : ∀ x, ∀ u ∈ enc x, u.oneCell' = true)
    (s x : Operand) (ho : o.op = .call { callee := .builtin .append, args := #[s, x], argTypes := #[t, t] })
    (v sv : Value) (hs : a.eval s = v) (hx : a.eval x = sv) (hown : OV enc k e base w v xs) (hys : EV enc k w sv ys) (hn : xs.length + ys.length ≤ 1000000000) (hbase : base ≤ w.heap.size)
    (h : ∀ v' w', OV enc k e base w' v' (xs ++ ys) → w.grownBy w' v.ownBlock → K (a.put o.dst v') w') : Oper.wp P o a w K Q := by
  obtain ⟨v', w', hr, h2, h3⟩ := run_app T hk h1 o.type hown hys hn hbase
  unfold Oper.wp execOp
  simp only [ho, resolve, invoke, builtin, Sem.run_bind, Sem.run_pure, Result.andThen_ok, List.map_toArray, List.map_cons, List.map_nil, hs, hx, hr]
  exact h v' w' h2 h3
end
end Go.Proofs.YtaplangfppohdaaDoor
namespace Go.Proofs.YtaplangfppohdaaDoor
open Go Go.RowKit Go.Maps

/-- An element reads as itself. -/
def tokR (v : Value) : Option (DataW Value × List MemPlace) := some (.held v, [])
theorem tokR_inv {v : Value} {d : DataW Value} {ps : List MemPlace} (h : tokR v = some (d, ps)) : d = .held v := by
  unfold tokR at h; cases h; rfl
open Classical in
noncomputable def updF (F : Lit → Option Value) (k : Lit) (v : Option Value) (x : Lit) : Option Value := if x = k then v else F x
theorem updF_same {F : Lit → Option Value} {k : Lit} {v : Option Value} : updF F k v k = v := if_pos rfl
theorem updF_ne {F : Lit → Option Value} {k x : Lit} {v : Option Value} (h : x ≠ k) : updF F k v x = F x := if_neg h
/-- D holds F. -/
def Rep (D : DataW Value) (F : Lit → Option Value) : Prop := ∀ kl, (∀ v, F kl = some v → ∀ z, D.atKey kl z = .held v) ∧ (F kl = none → has D kl = false)
/-- Block b is a map of at most n entries that holds F. -/
def MpV (P : Program) (k : TypeId) (w : World) (b n : Nat) (F : Lit → Option Value) : Prop := ∃ D, w.ownsMap P k tokR b n D ∧ Rep D F
section
variable {P : Program} {k e t : TypeId} {w w' : World} {b n : Nat} {F : Lit → Option Value}
theorem MpV.made (P : Program) (k : TypeId) (w : World) : MpV P k (w.alloc (.map #[] 0)) w.heap.size 0 (fun _ => none) :=
  ⟨_, World.ownsMap_made w P k tokR, fun kl => ⟨fun v h => (nomatch h), fun _ => rfl⟩⟩
theorem MpV.lt (h : MpV P k w b n F) : b < w.heap.size := by obtain ⟨D, h, _⟩ := h; exact h.lt
theorem MpV.mono (h : MpV P k w b n F) {m : Nat} (hm : n ≤ m) : MpV P k w b m F := by obtain ⟨D, h, r⟩ := h; exact ⟨D, h.mono hm, r⟩
theorem MpV.same (h : MpV P k w b n F) (he : w'.heap[b]? = w.heap[b]?) : MpV P k w' b n F := by
  obtain ⟨D, ⟨es, clock, h1, h2⟩, r⟩ := h
  exact ⟨D, ⟨es, clock, he.trans h1, h2⟩, r⟩
theorem MpV.kept {row : Option Nat} (h : MpV P k w b n F) (hg : w.grownBy w' row) (hne : some b ≠ row) : MpV P k w' b n F := h.same (hg.block b h.lt hne)
theorem MpV.below (h : MpV P k w b n F) (hb : Below w.heap.size w w') : MpV P k w' b n F := h.same (hb.block b h.lt)
theorem MpV.setCell (h : MpV P k w b n F) {p : Addr} (hp : p.block ≠ b) (u : Value) : MpV P k (w.setCell p u) b n F := h.same (Below.heap_setCell _ _ _ _ (fun e => hp e.symm))
/-- A map's block is no row. -/
theorem MpV.ne_row {base kk : Nat} {α : Type} {enc : α → List Value} {e : TypeId} {v : Value} {xs : List α} (h : MpV P k w b n F) (o : OV enc kk e base w v xs) : v.ownBlock ≠ some b := by
  intro hb
  obtain ⟨D, ⟨es, clock, h1, h2⟩, r⟩ := h
  rcases o.2 with ⟨rfl, _⟩ | ⟨g, cap, cur, rfl, _, hg, _⟩
  · cases hb
  · obtain rfl : g = b := by simpa [Value.ownBlock] using hb
    rw [h1] at hg
    cases hg
theorem MpV.ne_cells {g : Nat} {cs : Array Value} {e : TypeId} {fz : Nat × Nat} (h : MpV P k w b n F) (hg : w.heap[g]? = some (.cells cs e fz)) : g ≠ b := by
  rintro rfl
  obtain ⟨D, ⟨es, clock, h1, h2⟩, r⟩ := h
  rw [h1] at hg
  cases hg
theorem rep_get {D : DataW Value} (h : Rep D F) (kl : Lit) (z : Value) : D.atKey kl (.held z) = .held ((F kl).getD z) := by
  cases hf : F kl with
  | none => exact atKey_of_not_has ((h kl).2 hf) _
  | some v => exact (h kl).1 v hf _
theorem rep_has {D : DataW Value} (h : Rep D F) (kl : Lit) : has D kl = (F kl).isSome := by
  cases hf : F kl with
  | none => exact (h kl).2 hf
  | some v => exact has_true_of_atKey ((h kl).1 v hf)
theorem MpV.look (h : MpV P k w b n F) (K : Keyed P k) (ht : P.underlying t = some (.map k e)) {z : Value} (hz : (zeroValue e).run P w = .ok z w) {key : Value} {kl : Lit} (hkey : keyOf P k key = some kl) :
    (Instr.lookup t (.map (some b)) key false).run P w = .ok ((F kl).getD z) w := by
  obtain ⟨D, h, r⟩ := h
  obtain ⟨v, ps, hr, hv⟩ := h.lookup K ht hz (show tokR z = some (.held z, []) from rfl) hkey
  have := tokR_inv hv
  rw [rep_get r] at this
  cases this
  exact hr
theorem MpV.look2 (h : MpV P k w b n F) (K : Keyed P k) (ht : P.underlying t = some (.map k e)) {z : Value} (hz : (zeroValue e).run P w = .ok z w) {key : Value} {kl : Lit} (hkey : keyOf P k key = some kl) :
    (Instr.lookup t (.map (some b)) key true).run P w = .ok (.tuple #[(F kl).getD z, .bool (F kl).isSome]) w := by
  obtain ⟨D, h, r⟩ := h
  obtain ⟨v, ps, hr, hv⟩ := h.look_ok K ht hz (show tokR z = some (.held z, []) from rfl) hkey
  have := tokR_inv hv
  rw [rep_get r] at this
  cases this
  rw [rep_has r] at hr
  exact hr
theorem rep_put {D : DataW Value} (hD : IsMap D) {kl : Lit} (hk : WideAt.IsKeyLit kl) (h : Rep D F) (v : Value) : Rep (D.put kl (.held v)) (updF F kl (some v)) := fun x => by
  by_cases e : x = kl
  · subst e
    rw [updF_same]
    exact ⟨fun u hu z => by cases hu; exact atKey_put_same hD hk _ _, fun hu => by cases hu⟩
  · rw [updF_ne e]
    exact ⟨fun u hu z => by rw [atKey_put_other e]; exact (h x).1 u hu z, fun hu => by rw [has_put_other e]; exact (h x).2 hu⟩
theorem rep_del {D : DataW Value} {kl : Lit} (h : Rep D F) : Rep (D.del kl) (updF F kl none) := fun x => by
  by_cases e : x = kl
  · subst e
    rw [updF_same]
    exact ⟨fun u hu => (by cases hu), fun _ => has_del_same⟩
  · rw [updF_ne e]
    exact ⟨fun u hu z => by rw [atKey_del_other e]; exact (h x).1 u hu z, fun hu => by rw [has_del_other e]; exact (h x).2 hu⟩
theorem MpV.store (h : MpV P k w b n F) (K : Keyed P k) (ht : P.underlying t = some (.map k e)) (hn : n < maxLen) {key : Value} {kl : Lit} (hkey : keyOf P k key = some kl) (v : Value) :
    ∃ w', (Instr.mapUpdate t (.map (some b)) key v).run P w = .ok () w' ∧ MpV P k w' b (n + 1) (updF F kl (some v)) ∧ w.grownBy w' (some b) := by
  obtain ⟨D, h, r⟩ := h
  obtain ⟨w', hr, h1, h2⟩ := h.update K ht hn hkey (show tokR v = some (.held v, []) from rfl)
  exact ⟨w', hr, ⟨_, h1, rep_put h.isMap (K.one.key ⟨key, hkey⟩) r v⟩, h2⟩
theorem MpV.drop (h : MpV P k w b n F) (K : Keyed P k) (ht : P.underlying t = some (.map k e)) {key : Value} {kl : Lit} (hkey : keyOf P k key = some kl) (ty : TypeId) :
    ∃ w', (Builtin.delete_ #[t, k] ty #[.map (some b), key]).run P w = .ok (.tuple #[]) w' ∧ MpV P k w' b n (updF F kl none) ∧ w.grownBy w' (some b) := by
  obtain ⟨D, h, r⟩ := h
  obtain ⟨w', hr, h1, h2⟩ := h.drop K ht hkey ty
  exact ⟨w', hr, ⟨_, h1, rep_del r⟩, h2.grown⟩
end
section
variable {P : Program} {w : World} {ops : Array Oper} {rest : List Oper} {o : Oper} {a : Act} {Q : Exit → Act → World → Prop} {KK : Act → World → Prop} {k e t : TypeId} {b n : Nat} {F : Lit → Option Value}
theorem wp_lookV (m x : Operand) (hop : o.op = Op.lookup t m x false) (K : Keyed P k) (ht : P.underlying t = some (.map k e)) {z : Value} (hz : (zeroValue e).run P w = .ok z w) (hm : a.eval m = .map (some b)) (h : MpV P k w b n F)
    (key : Value) (kl : Lit) (hx : a.eval x = key) (hkey : keyOf P k key = some kl) (hK : KK (a.put o.dst ((F kl).getD z)) w) : o.wp P a w KK Q := by
  unfold Oper.wp
  simp [execOp, hop, hm, hx, h.look K ht hz hkey, Result.andThen]
  exact hK
theorem wp_look2V (m x : Operand) (hop : o.op = Op.lookup t m x true) (K : Keyed P k) (ht : P.underlying t = some (.map k e)) {z : Value} (hz : (zeroValue e).run P w = .ok z w) (hm : a.eval m = .map (some b)) (h : MpV P k w b n F)
    (key : Value) (kl : Lit) (hx : a.eval x = key) (hkey : keyOf P k key = some kl) (hK : KK (a.put o.dst (.tuple #[(F kl).getD z, .bool (F kl).isSome])) w) : o.wp P a w KK Q := by
  unfold Oper.wp
  simp [execOp, hop, hm, hx, h.look2 K ht hz hkey, Result.andThen]
  exact hK
theorem wp_putV (m x v : Operand) (hop : o.op = Op.mapUpdate t m x v) (K : Keyed P k) (ht : P.underlying t = some (.map k e)) (hm : a.eval m = .map (some b)) (h : MpV P k w b n F) (hn : n < maxLen)
    (key val : Value) (kl : Lit) (hx : a.eval x = key) (hv : a.eval v = val) (hkey : keyOf P k key = some kl) (hK : ∀ w', MpV P k w' b (n + 1) (updF F kl (some val)) → w.grownBy w' (some b) → KK (a.put o.dst undef) w') : o.wp P a w KK Q := by
  obtain ⟨w', hr, h1, h2⟩ := h.store K ht hn hkey val
  unfold Oper.wp
  simp [execOp, hop, hm, hx, hv, hr, Result.andThen]
  exact hK w' h1 h2
theorem wp_delV (m x : Operand) (hop : o.op = Op.call { callee := Callee.builtin Builtin.delete, args := #[m, x], argTypes := #[t, k] }) (K : Keyed P k) (ht : P.underlying t = some (.map k e)) (hm : a.eval m = .map (some b)) (h : MpV P k w b n F)
    (key : Value) (kl : Lit) (hx : a.eval x = key) (hkey : keyOf P k key = some kl) (hK : ∀ w', MpV P k w' b n (updF F kl none) → w.grownBy w' (some b) → KK (a.put o.dst (.tuple #[])) w') : o.wp P a w KK Q := by
  obtain ⟨w', hr, h1, h2⟩ := h.drop K ht hkey o.type
  unfold Oper.wp
  simp [execOp, hop, resolve, invoke, builtin, hm, hx, hr, Result.andThen]
  exact hK w' h1 h2
theorem wpList_lookV (hg : o.guard = none) (m x : Operand) (hop : o.op = Op.lookup t m x false) (K : Keyed P k) (ht : P.underlying t = some (.map k e)) {z : Value} (hz : (zeroValue e).run P w = .ok z w) (hm : a.eval m = .map (some b)) (h : MpV P k w b n F)
    (key : Value) (kl : Lit) (hx : a.eval x = key) (hkey : keyOf P k key = some kl) (hK : wpList P ops Q rest (a.put o.dst ((F kl).getD z)) w) : wpList P ops Q (o :: rest) a w :=
  wpList_plain hg fun _ hK' => wp_lookV m x hop K ht hz hm h key kl hx hkey (hK' _ _ hK)
theorem wpList_look2V (hg : o.guard = none) (m x : Operand) (hop : o.op = Op.lookup t m x true) (K : Keyed P k) (ht : P.underlying t = some (.map k e)) {z : Value} (hz : (zeroValue e).run P w = .ok z w) (hm : a.eval m = .map (some b)) (h : MpV P k w b n F)
    (key : Value) (kl : Lit) (hx : a.eval x = key) (hkey : keyOf P k key = some kl) (hK : wpList P ops Q rest (a.put o.dst (.tuple #[(F kl).getD z, .bool (F kl).isSome])) w) : wpList P ops Q (o :: rest) a w :=
  wpList_plain hg fun _ hK' => wp_look2V m x hop K ht hz hm h key kl hx hkey (hK' _ _ hK)
theorem wpList_putV (hg : o.guard = none) (m x v : Operand) (hop : o.op = Op.mapUpdate t m x v) (K : Keyed P k) (ht : P.underlying t = some (.map k e)) (hm : a.eval m = .map (some b)) (h : MpV P k w b n F) (hn : n < maxLen)
    (key val : Value) (kl : Lit) (hx : a.eval x = key) (hv : a.eval v = val) (hkey : keyOf P k key = some kl) (hK : ∀ w', MpV P k w' b (n + 1) (updF F kl (some val)) → w.grownBy w' (some b) → wpList P ops Q rest (a.put o.dst undef) w') : wpList P ops Q (o :: rest) a w :=
  wpList_plain hg fun _ hK' => wp_putV m x v hop K ht hm h hn key val kl hx hv hkey fun w' h1 h2 => hK' _ _ (hK w' h1 h2)
theorem wpList_delV (hg : o.guard = none) (m x : Operand) (hop : o.op = Op.call { callee := Callee.builtin Builtin.delete, args := #[m, x], argTypes := #[t, k] }) (K : Keyed P k) (ht : P.underlying t = some (.map k e)) (hm : a.eval m = .map (some b)) (h : MpV P k w b n F)
    (key : Value) (kl : Lit) (hx : a.eval x = key) (hkey : keyOf P k key = some kl) (hK : ∀ w', MpV P k w' b n (updF F kl none) → w.grownBy w' (some b) → wpList P ops Q rest (a.put o.dst (.tuple #[])) w') : wpList P ops Q (o :: rest) a w :=
  wpList_plain hg fun _ hK' => wp_delV m x hop K ht hm h key kl hx hkey fun w' h1 h2 => hK' _ _ (hK w' h1 h2)
end
/-! ### ranging -/
/-- A range over the map b: what it holds, which keys are still to come, how many. -/
def RgV (P : Program) (k : TypeId) (w : World) (b r n : Nat) (F : Lit → Option Value) (left : Lit → Bool) (cnt : Nat) : Prop := ∃ D, w.ranges P k tokR b r n D left cnt ∧ Rep D F
section
variable {P : Program} {k e t : TypeId} {w w' : World} {b r n cnt : Nat} {F : Lit → Option Value} {left : Lit → Bool}
theorem RgV.owns (h : RgV P k w b r n F left cnt) : MpV P k w b n F := by obtain ⟨D, h, q⟩ := h; exact ⟨D, h.owns, q⟩
theorem RgV.kept {row : Option Nat} (h : RgV P k w b r n F left cnt) (hg : w.grownBy w' row) (h1 : some b ≠ row) (h2 : some r ≠ row) : RgV P k w' b r n F left cnt := by obtain ⟨D, h, q⟩ := h; exact ⟨D, h.kept hg h1 h2, q⟩
theorem RgV.lt (h : RgV P k w b r n F left cnt) : r < w.heap.size := by obtain ⟨D, h, q⟩ := h; exact h.lt
theorem RgV.same (h : RgV P k w b r n F left cnt) (h1 : w'.heap[b]? = w.heap[b]?) (h2 : w'.heap[r]? = w.heap[r]?) : RgV P k w' b r n F left cnt := by
  obtain ⟨D, ⟨es, clock, since, seen, c0, a1, a2, a3, a4, a5, a6⟩, q⟩ := h
  exact ⟨D, ⟨es, clock, since, seen, c0, h1.trans a1, a2, a3, a4, h2.trans a5, a6⟩, q⟩
theorem RgV.below (h : RgV P k w b r n F left cnt) (hb : Below w.heap.size w w') : RgV P k w' b r n F left cnt := h.same (hb.block b h.owns.lt) (hb.block r h.lt)
/-- A range's block is no row. -/
theorem RgV.ne_row {base kk : Nat} {α : Type} {enc : α → List Value} {e : TypeId} {v : Value} {xs : List α} (h : RgV P k w b r n F left cnt) (o : OV enc kk e base w v xs) : v.ownBlock ≠ some r := by
  intro hb
  obtain ⟨D, ⟨es, clock, since, seen, c0, a1, a2, a3, a4, a5, a6⟩, q⟩ := h
  rcases o.2 with ⟨rfl, _⟩ | ⟨g, cap, cur, rfl, _, hg, _⟩
  · cases hb
  · obtain rfl : g = r := by simpa [Value.ownBlock] using hb
    rw [a5] at hg
    cases hg
variable {ops : Array Oper} {rest : List Oper} {o : Oper} {a : Act} {Q : Exit → Act → World → Prop}
theorem wpList_rangeV (hg : o.guard = none) (m : Operand) (hop : o.op = Op.range t m) (K : Keyed P k) (ht : P.underlying t = some (.map k e)) (hm : a.eval m = .map (some b)) (h : MpV P k w b n F)
    (hK : ∀ w' cnt, RgV P k w' b w.heap.size n F (fun kl => (F kl).isSome) cnt → w.grownBy w' none → w'.heap.size = w.heap.size + 1 → cnt ≤ n → wpList P ops Q rest (a.put o.dst (.pointer (some ⟨w.heap.size, 0, none⟩))) w') : wpList P ops Q (o :: rest) a w := by
  obtain ⟨D, h, q⟩ := h
  refine wpList_range_own w hg m t hop k e K ht tokR b n D hm h fun w' h1 h2 h3 => ?_
  have : Maps.has D = fun kl => (F kl).isSome := funext fun kl => rep_has q kl
  rw [this] at h1
  exact hK w' _ ⟨D, h1, q⟩ h2 h3 h.size_le
theorem wpList_nextV {α β : Type} (hg : o.guard = none) (it : Operand) (hop : o.op = Op.next it false) (K : Keyed P k) (mkK : α → Value) (mkV : β → Value)
    (invK : ∀ key kl, keyOf P k key = some kl → ∃ x, key = mkK x) (hit : a.eval it = .pointer (some ⟨r, 0, none⟩)) (h : RgV P k w b r n F left cnt) (hleft : ∀ kl, left kl = true → ∃ c, F kl = some (mkV c))
    (hDone : cnt = 0 → (∀ kl, left kl = false) → wpList P ops Q rest (a.put o.dst (.tuple #[.bool false])) w)
    (hMore : ∀ (x : α) (c : β) (kl : Lit) (w' : World) (cnt' : Nat), keyOf P k (mkK x) = some kl → left kl = true → F kl = some (mkV c) → RgV P k w' b r n F (fun z => left z && !z.sameKey kl) cnt' → cnt' < cnt →
      w.grownBy w' (some r) → w'.heap.size = w.heap.size → (Instr.entry (.pointer (some ⟨r, 0, none⟩))).run P w' = .ok (.tuple #[mkK x, mkV c]) w' → wpList P ops Q rest (a.put o.dst (.tuple #[.bool true, mkK x, mkV c])) w') :
    wpList P ops Q (o :: rest) a w := by
  obtain ⟨D, h, q⟩ := h
  refine wpList_plain hg fun K' hK' => ?_
  unfold Oper.wp
  rcases h.next K o.type with ⟨h0, hl, hrun⟩ | ⟨key, v, kl, y, w', cnt', hkey, hlk, hv, hat, hrun, hrg, hlt, hgr, hsz, hen⟩
  · simp [execOp, hop, hit, hrun, Result.andThen]
    exact hK' _ _ (hDone h0 hl)
  · obtain ⟨x, rfl⟩ := invK key kl hkey
    obtain ⟨c, hc⟩ := hleft kl hlk
    have h1 := (q kl).1 _ hc .nil
    rw [hat] at h1
    have h2 := tokR_inv (show tokR v = some (y.1, y.2) from hv)
    rw [h1] at h2
    cases h2
    simp [execOp, hop, hit, hrun, Result.andThen]
    exact hK' _ _ (hMore x c kl w' cnt' hkey hlk hc ⟨D, hrg, q⟩ hlt hgr hsz hen)
end
end Go.Proofs.YtaplangfppohdaaDoor

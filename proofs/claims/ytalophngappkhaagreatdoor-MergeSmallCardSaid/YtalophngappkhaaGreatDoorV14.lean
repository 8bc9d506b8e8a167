/- Maps of the call's own, key by key, whatever the elements are | block: the box of a block, and whether it fits | block.fits | slices.Grow of nil and slices.Concat of any slices, at bytes. -/
import Derived.Maps.OwnOps
import Derived.Maps.OwnSet
import Derived.Maps.RangeWalk
import Derived.Test.YtalophngappkhaaGreatDoorV1
import Derived.Test.YtalophngappkhaaGreatDoorV13
import Derived.Test.YtalophngappkhaaGreatDoorV4
import Derived.Lib.AppendZerosOnto
import Derived.Deep.CutBlock
set_option linter.unusedVariables false
set_option linter.unusedSimpArgs false
set_option linter.unusedSectionVars false
namespace Go.Proofs.YtalophngappkhaaGreatDoor
open Go Go.RowKit Go.Maps

/-- An element reads as itself. -/
def tokR (v : Value) : Option (DataW Value × List MemPlace) := some (.held v, [])
theorem tokR_inv {v : Value} {d : DataW Value} {ps : List MemPlace} (h : tokR v = some (d, ps)) : d = .held v := by
 unfold tokR at h; cases h; rfl
open Classical in
noncomputable def updF (F : Lit → Option Value) (k : Lit) (v : Option Value) (x : Lit) : Option Value := if x = k then v else F x
theorem updF_same {F : Lit → Option Value} {k : Lit} {v : Option Value} : updF F k v k = v := if_pos rfl
theorem updF_ne {F : Lit → Option Value} {k x : Lit} {v : Option Value} (h : x ≠ k) : updF F k v x = F x := if_neg h
/-- D holds F. -/
def Rep (D : DataW Value) (F : Lit → Option Value) : Prop := ∀ kl, (∀ v, F kl = some v → ∀ z, D.atKey kl z = .held v) ∧ (F kl = none → has D kl = false)
/-- Block b is a map of at most n entries that holds F. -/
def MpV (P : Program) (k : TypeId) (w : World) (b n : Nat) (F : Lit → Option Value) : Prop := ∃ D, w.ownsMap P k tokR b n D ∧ Rep D F
section
variable {P : Program} {k e t : TypeId} {w w' : World} {b n : Nat} {F : Lit → Option Value}
theorem MpV.made (P : Program) (k : TypeId) (w : World) : MpV P k (w.alloc (.map #[] 0)) w.heap.size 0 (fun _ => none) :=
 ⟨_, World.ownsMap_made w P k tokR, fun kl => ⟨fun v h => (nomatch h), fun _ => rfl⟩⟩
theorem MpV.lt (h : MpV P k w b n F) : b < w.heap.size := by obtain ⟨D, h, _⟩ := h; exact h.lt
theorem MpV.same (h : MpV P k w b n F) (he : w'.heap[b]? = w.heap[b]?) : MpV P k w' b n F := by
 obtain ⟨D, ⟨es, clock, h1, h2⟩, r⟩ := h
 exact ⟨D, ⟨es, clock, he.trans h1, h2⟩, r⟩
theorem MpV.kept {row : Option Nat} (h : MpV P k w b n F) (hg : w.grownBy w' row) (hne : some b ≠ row) : MpV P k w' b n F := h.same (hg.block b h.lt hne)
theorem MpV.below (h : MpV P k w b n F) (hb : Below w.heap.size w w') : MpV P k w' b n F := h.same (hb.block b h.lt)
theorem MpV.setCell (h : MpV P k w b n F) {p : Addr} (hp : p.block ≠ b) (u : Value) : MpV P k (w.setCell p u) b n F := h.same (Below.heap_setCell _ _ _ _ (fun e => hp e.symm))
theorem rep_get {D : DataW Value} (h : Rep D F) (kl : Lit) (z : Value) : D.atKey kl (.held z) = .held ((F kl).getD z) := by
 cases hf : F kl with
 | none => exact atKey_of_not_has ((h kl).2 hf) _
 | some v => exact (h kl).1 v hf _
theorem rep_has {D : DataW Value} (h : Rep D F) (kl : Lit) : has D kl = (F kl).isSome := by
 cases hf : F kl with
 | none => exact (h kl).2 hf
 | some v => exact has_true_of_atKey ((h kl).1 v hf)
theorem MpV.look (h : MpV P k w b n F) (K : Keyed P k) (ht : P.underlying t = some (.map k e)) {z : Value} (hz : (zeroValue e).run P w = .ok z w) {key : Value} {kl : Lit} (hkey : keyOf P k key = some kl) :
  (Instr.lookup t (.map (some b)) key false).run P w = .ok ((F kl).getD z) w := by
 obtain ⟨D, h, r⟩ := h
 obtain ⟨v, ps, hr, hv⟩ := h.lookup K ht hz (show tokR z = some (.held z, []) from rfl) hkey
 have := tokR_inv hv
 rw [rep_get r] at this
 cases this
 exact hr
theorem MpV.look2 (h : MpV P k w b n F) (K : Keyed P k) (ht : P.underlying t = some (.map k e)) {z : Value} (hz : (zeroValue e).run P w = .ok z w) {key : Value} {kl : Lit} (hkey : keyOf P k key = some kl) :
  (Instr.lookup t (.map (some b)) key true).run P w = .ok (.tuple #[(F kl).getD z, .bool (F kl).isSome]) w := by
 obtain ⟨D, h, r⟩ := h
 obtain ⟨v, ps, hr, hv⟩ := h.look_ok K ht hz (show tokR z = some (.held z, []) from rfl) hkey
 have := tokR_inv hv
 rw [rep_get r] at this
 cases this
 rw [rep_has r] at hr
 exact hr
theorem rep_put {D : DataW Value} (hD : IsMap D) {kl : Lit} (hk : WideAt.IsKeyLit kl) (h : Rep D F) (v : Value) : Rep (D.put kl (.held v)) (updF F kl (some v)) := fun x => by
 by_cases e : x = kl
 ·subst e
  rw [updF_same]
  exact ⟨fun u hu z => by cases hu; exact atKey_put_same hD hk _ _, fun hu => by cases hu⟩
 ·rw [updF_ne e]
  exact ⟨fun u hu z => by rw [atKey_put_other e]; exact (h x).1 u hu z, fun hu => by rw [has_put_other e]; exact (h x).2 hu⟩
theorem MpV.store (h : MpV P k w b n F) (K : Keyed P k) (ht : P.underlying t = some (.map k e)) (hn : n < maxLen) {key : Value} {kl : Lit} (hkey : keyOf P k key = some kl) (v : Value) :
  ∃ w', (Instr.mapUpdate t (.map (some b)) key v).run P w = .ok () w' ∧ MpV P k w' b (n + 1) (updF F kl (some v)) ∧ w.grownBy w' (some b) := by
 obtain ⟨D, h, r⟩ := h
 obtain ⟨w', hr, h1, h2⟩ := h.update K ht hn hkey (show tokR v = some (.held v, []) from rfl)
 exact ⟨w', hr, ⟨_, h1, rep_put h.isMap (K.one.key ⟨key, hkey⟩) r v⟩, h2⟩
end
section
variable {P : Program} {w : World} {ops : Array Oper} {rest : List Oper} {o : Oper} {a : Act} {Q : Exit → Act → World → Prop} {KK : Act → World → Prop} {k e t : TypeId} {b n : Nat} {F : Lit → Option Value}
theorem wp_lookV (m x : Operand) (hop : o.op = Op.lookup t m x false) (K : Keyed P k) (ht : P.underlying t = some (.map k e)) {z : Value} (hz : (zeroValue e).run P w = .ok z w) (hm : a.eval m = .map (some b)) (h : MpV P k w b n F)
  (key : Value) (kl : Lit) (hx : a.eval x = key) (hkey : keyOf P k key = some kl) (hK : KK (a.put o.dst ((F kl).getD z)) w) : o.wp P a w KK Q := by
 unfold Oper.wp
 simp [execOp, hop, hm, hx, h.look K ht hz hkey, Result.andThen]
 exact hK
theorem wpList_lookV (hg : o.guard = none) (m x : Operand) (hop : o.op = Op.lookup t m x false) (K : Keyed P k) (ht : P.underlying t = some (.map k e)) {z : Value} (hz : (zeroValue e).run P w = .ok z w) (hm : a.eval m = .map (some b)) (h : MpV P k w b n F)
  (key : Value) (kl : Lit) (hx : a.eval x = key) (hkey : keyOf P k key = some kl) (hK : wpList P ops Q rest (a.put o.dst ((F kl).getD z)) w) : wpList P ops Q (o :: rest) a w :=
 wpList_plain hg fun _ hK' => wp_lookV m x hop K ht hz hm h key kl hx hkey (hK' _ _ hK)
end
/-! ### ranging -/
section
variable {P : Program} {k e t : TypeId} {w w' : World} {b r n cnt : Nat} {F : Lit → Option Value} {left : Lit → Bool}
variable {ops : Array Oper} {rest : List Oper} {o : Oper} {a : Act} {Q : Exit → Act → World → Prop}
end
end Go.Proofs.YtalophngappkhaaGreatDoor
namespace Go.Proofs.YtalophngappkhaaGreatDoor
open Go.RowKit Go.Shelf
attribute [local go_sem] Oper.semAt_some

def blkC (b : Bck) (v : Value) : Array Value := #[.int .u8 b.kind, .int .u8 b.cpu, .int .i64 b.lost, .int .i64 b.next, v]
def blkA (b : Bck) (v : Value) : Value := .agg #[.int .u8 b.kind, .int .u8 b.cpu, .int .i64 b.lost, .int .i64 b.next, v]
/-- A block whose numbers are numbers of their kinds. -/
structure BlkOk (b : Bck) : Prop where
 kind : 0 ≤ b.kind ∧ b.kind ≤ 255
 cpu : 0 ≤ b.cpu ∧ b.cpu ≤ 255
 lost : -9223372036854775808 ≤ b.lost ∧ b.lost ≤ 9223372036854775807
 next : -9223372036854775808 ≤ b.next ∧ b.next ≤ 9223372036854775807
 evs : ∀ e ∈ b.evs, EvOk e
/-- The heap's block X holds a block whose events are v. -/
structure BkBox (w : World) (X : Nat) (b : Bck) (v : Value) : Prop where
 cell : w.heap[X]? = some (.cells (blkC b v) 24 (0, 0))
namespace BkBox
variable {w w' : World} {X : Nat} {b : Bck} {v : Value}
theorem new (w : World) (b : Bck) (v : Value) : BkBox (w.alloc (.cells (blkC b v) 24)) w.heap.size b v := ⟨heap_alloc_new w _⟩
theorem lt (h : BkBox w X b v) : X < w.heap.size := (Array.getElem?_eq_some_iff.1 h.cell).1
theorem c0 (h : BkBox w X b v) : w.cell? ⟨X, 0, none⟩ = some (.int .u8 b.kind) := (cell_of_row w X 0 _ _ (0, 0) h.cell).trans rfl
theorem c1 (h : BkBox w X b v) : w.cell? ⟨X, 1, none⟩ = some (.int .u8 b.cpu) := (cell_of_row w X 1 _ _ (0, 0) h.cell).trans rfl
theorem c2 (h : BkBox w X b v) : w.cell? ⟨X, 2, none⟩ = some (.int .i64 b.lost) := (cell_of_row w X 2 _ _ (0, 0) h.cell).trans rfl
theorem c3 (h : BkBox w X b v) : w.cell? ⟨X, 3, none⟩ = some (.int .i64 b.next) := (cell_of_row w X 3 _ _ (0, 0) h.cell).trans rfl
theorem c4 (h : BkBox w X b v) : w.cell? ⟨X, 4, none⟩ = some v := (cell_of_row w X 4 _ _ (0, 0) h.cell).trans rfl
theorem below (h : BkBox w X b v) (hb : Below w.heap.size w w') : BkBox w' X b v := ⟨(hb.block X h.lt).trans h.cell⟩
theorem low {n : Nat} (h : BkBox w X b v) (hb : Below n w w') (hn : X < n) : BkBox w' X b v := ⟨(hb.block X hn).trans h.cell⟩
theorem grown {row : Option Nat} (h : BkBox w X b v) (hg : w.grownBy w' row) (hr : row ≠ some X) : BkBox w' X b v := ⟨(hg.block X h.lt (fun e => hr e.symm)).trans h.cell⟩
end BkBox
def Fit1 (b : Bck) : Prop := RowOk b.evs ∧ b.cpu < 64 ∧ 0 ≤ b.lost ∧ b.lost ≤ 281474976710656 ∧ b.next = 0 ∧ (b.evs = [] → 0 < b.lost) ∧ ∀ e l, b.evs = e :: l → e.cpu = b.cpu
def Fit2 (b : Bck) : Prop := 1 ≤ b.next ∧ b.next ≤ 281474976710657 ∧ b.cpu = 0 ∧ b.lost = 0 ∧ b.evs = []

set_option maxRecDepth 100000 in
set_option maxHeartbeats 1600000 in
theorem fits1_ok (w : World) (X : Nat) (b : Bck) (v : Value) (hx : BkBox w X b v) (ho : BlkOk b) (hv : EV encE 11 w v b.evs) (hL : b.evs.length ≤ 100000) (hU : UsesAt w) :
  Calls Tryz.prog 103 #[.pointer (some ⟨X, 0, none⟩)] w fun r w' => ((r = .returned (.bool false) ∧ ¬ Fit1 b) ∨ (r = .returned (.bool true) ∧ Fit1 b)) ∧ Below w.heap.size w w' := by
 have HR := Lib.hid (row_ok w v b.evs hv ho.evs (by omega) hU)
 have HX := Lib.hid hx
 have HV := Lib.hid hv
 obtain ⟨A, cp, hA⟩ := hv.shape
 subst hA
 obtain ⟨n, hn⟩ : ∃ n, n = b.evs.length := ⟨_, rfl⟩
 have HN := Lib.hid hn
 rw [← hn] at hL HR HX
 have c4 := HX.out.c4
 clear hx hv hU hn ho
 go_enter Tryz.func103, Tryz.ntmps103
 go_wp2_with fail
 refine HR.out.mono ?_
 rintro r w1 ⟨⟨i0, b0, rfl, hb0⟩, hb1⟩
 have HB1 := Lib.hid hb1
 have HX1 := Lib.hid (HX.out.below hb1)
 have HB0 := Lib.hid hb0
 clear hb1 hb0 HX HR c4
 have c1 := HX1.out.c1
 have c2 := HX1.out.c2
 have c3 := HX1.out.c3
 have c4 := HX1.out.c4
 by_cases hA : b0 = 0 ∧ b.cpu < 64 ∧ 0 ≤ b.lost ∧ b.lost ≤ 281474976710656 ∧ b.next = 0
 ·obtain ⟨rfl, a2, a3, a4, a5⟩ := hA
  have HA := Lib.hid (And.intro (HB0.out.1 rfl) (And.intro a2 (And.intro a3 (And.intro a4 a5))))
  have a6 : (b.next != 0) = false := by simp [a5]
  have d2 : decide ((64 : Int) ≤ b.cpu) = false := by simp; omega
  have d3 : decide (b.lost < 0) = false := by simp; omega
  have d4 : decide ((281474976710656 : Int) < b.lost) = false := by simp; omega
  clear a2 a3 a4 a5
  rcases Nat.eq_zero_or_pos n with h0 | h0
  ·have hnil : b.evs = [] := List.eq_nil_of_length_eq_zero (by rw [← HN.out]; exact h0)
   have HNIL := Lib.hid hnil
   subst h0
   clear hnil
   by_cases hl : 0 < b.lost
   ·have HF := Lib.hid (show Fit1 b from ⟨HA.out.1, HA.out.2.1, HA.out.2.2.1, HA.out.2.2.2.1, HA.out.2.2.2.2, fun _ => hl, fun e l h => by rw [HNIL.out] at h; cases h⟩)
    have d5 : decide (0 < b.lost) = true := by simpa using hl
    clear hl
    go_wp2
    go_ret
    exact ⟨.inr ⟨rfl, HF.out⟩, HB1.out⟩
   ·have HF := Lib.hid (show ¬ Fit1 b from fun h => hl (h.2.2.2.2.2.1 HNIL.out))
    have d5 : decide (0 < b.lost) = false := by simpa using hl
    clear hl
    go_wp2
    go_ret
    exact ⟨.inl ⟨rfl, HF.out⟩, HB1.out⟩
  ·obtain ⟨e, he⟩ : ∃ e, b.evs[0]? = some e := ⟨_, List.getElem?_eq_getElem (by rw [← HN.out]; exact h0)⟩
   have hev := HV.out.below HB1.out
   obtain ⟨bb, off, c', hsl, hcc, hrr⟩ := hev.row (by rw [← HN.out]; exact h0)
   cases hsl
   obtain ⟨-, -, p2, -⟩ := hrr.ev he
   have HE := Lib.hid he
   have h0' : ((n : Int) == 0) = false := by simp; omega
   simp only [Nat.zero_mul, Nat.add_zero] at p2
   clear hev hrr he
   by_cases hc : e.cpu = b.cpu
   ·have HF := Lib.hid (show Fit1 b from ⟨HA.out.1, HA.out.2.1, HA.out.2.2.1, HA.out.2.2.2.1, HA.out.2.2.2.2, fun h => by rw [h] at HE; have := HE.out; simp at this, fun x l h => by have h2 := HE.out; rw [h] at h2; cases h2; exact hc⟩)
    have d5 : (e.cpu == b.cpu) = true := by simpa using hc
    clear hc
    go_wp2_with fail
    go_big_region
    go_wp2
    go_ret
    exact ⟨.inr ⟨rfl, HF.out⟩, below_drewN HB1.out _⟩
   ·have HF := Lib.hid (show ¬ Fit1 b from fun h => by
     obtain ⟨x, l, hl⟩ : ∃ x l, b.evs = x :: l := by
      cases hb : b.evs with
      | nil => rw [hb] at HE; have := HE.out; simp at this
      | cons x l => exact ⟨x, l, rfl⟩
     have h2 := HE.out
     rw [hl] at h2
     cases h2
     exact hc (h.2.2.2.2.2.2 _ _ hl))
    have d5 : (e.cpu == b.cpu) = false := by simpa using hc
    clear hc
    go_wp2_with fail
    go_big_region
    go_wp2
    go_ret
    exact ⟨.inl ⟨rfl, HF.out⟩, below_drewN HB1.out _⟩
 ·have HF := Lib.hid (show ¬ Fit1 b from fun h => hA ⟨HB0.out.2 h.1, h.2.1, h.2.2.1, h.2.2.2.1, h.2.2.2.2.1⟩)
  by_cases a1 : b0 = 0
  ·have a2 : ¬ (b.cpu < 64 ∧ 0 ≤ b.lost ∧ b.lost ≤ 281474976710656 ∧ b.next = 0) := fun h => hA ⟨a1, h⟩
   clear hA
   subst a1
   by_cases k1 : b.cpu < 64
   ·have d1 : decide ((64 : Int) ≤ b.cpu) = false := by simp; omega
    by_cases k2 : 0 ≤ b.lost
    ·have d2 : decide (b.lost < 0) = false := by simp; omega
     by_cases k3 : b.lost ≤ 281474976710656
     ·have d3 : decide ((281474976710656 : Int) < b.lost) = false := by simp; omega
      have d4 : (b.next != 0) = true := by
       by_cases e : b.next = 0
       ·exact absurd ⟨k1, k2, k3, e⟩ a2
       ·simp [e]
      clear k1 k2 k3 a2
      go_wp2
      go_ret
      exact ⟨.inl ⟨rfl, HF.out⟩, HB1.out⟩
     ·have d3 : decide ((281474976710656 : Int) < b.lost) = true := by simp; omega
      clear k1 k2 k3 a2
      go_wp2
      go_ret
      exact ⟨.inl ⟨rfl, HF.out⟩, HB1.out⟩
    ·have d2 : decide (b.lost < 0) = true := by simp; omega
     clear k1 k2 a2
     go_wp2
     go_ret
     exact ⟨.inl ⟨rfl, HF.out⟩, HB1.out⟩
   ·have d1 : decide ((64 : Int) ≤ b.cpu) = true := by simp; omega
    clear k1 a2
    go_wp2
    go_ret
    exact ⟨.inl ⟨rfl, HF.out⟩, HB1.out⟩
  ·have d1 : (b0 != 0) = true := by simp [a1]
   clear a1 hA
   go_wp2
   go_ret
   exact ⟨.inl ⟨rfl, HF.out⟩, HB1.out⟩
theorem fits2_ok (w : World) (X : Nat) (b : Bck) (v : Value) (hx : BkBox w X b v) (hv : EV encE 11 w v b.evs) (hL : b.evs.length ≤ 100000) :
  Calls Tryz.prog 105 #[.pointer (some ⟨X, 0, none⟩)] w fun r w' => ((r = .returned (.bool false) ∧ ¬ Fit2 b) ∨ (r = .returned (.bool true) ∧ Fit2 b)) ∧ Below w.heap.size w w' := by
 obtain ⟨A, cp, rfl⟩ := hv.shape
 obtain ⟨n, hn⟩ : ∃ n, n = b.evs.length := ⟨_, rfl⟩
 have HN := Lib.hid (show n = 0 ↔ b.evs = [] by rw [hn]; exact List.length_eq_zero_iff)
 rw [← hn] at hL hx
 have c1 := hx.c1
 have c2 := hx.c2
 have c3 := hx.c3
 have c4 := hx.c4
 clear hx hv hn
 go_enter Tryz.func105, Tryz.ntmps105
 by_cases k1 : 1 ≤ b.next
 ·have d1 : decide ((1 : Int) ≤ b.next) = true := by simpa using k1
  by_cases k2 : b.next ≤ 281474976710657
  ·have d2 : decide (b.next ≤ (281474976710657 : Int)) = true := by simpa using k2
   by_cases k3 : b.cpu = 0
   ·have d3 : (b.cpu == 0) = true := by simpa using k3
    by_cases k4 : b.lost = 0
    ·have d4 : (b.lost == 0) = true := by simpa using k4
     by_cases k5 : n = 0
     ·have HF := Lib.hid (show Fit2 b from ⟨k1, k2, k3, k4, HN.out.1 k5⟩)
      clear k1 k2 k3 k4
      subst k5
      go_wp2
      go_ret
      exact ⟨.inr ⟨rfl, HF.out⟩, Below.refl _ _⟩
     ·have HF := Lib.hid (show ¬ Fit2 b from fun h => k5 (HN.out.2 h.2.2.2.2))
      have d5 : ((n : Int) == 0) = false := by simp; omega
      clear k1 k2 k3 k4 k5
      go_wp2
      go_ret
      exact ⟨.inl ⟨rfl, HF.out⟩, Below.refl _ _⟩
    ·have HF := Lib.hid (show ¬ Fit2 b from fun h => k4 h.2.2.2.1)
     have d4 : (b.lost == 0) = false := by simpa using k4
     clear k1 k2 k3 k4
     go_wp2
     go_ret
     exact ⟨.inl ⟨rfl, HF.out⟩, Below.refl _ _⟩
   ·have HF := Lib.hid (show ¬ Fit2 b from fun h => k3 h.2.2.1)
    have d3 : (b.cpu == 0) = false := by simpa using k3
    clear k1 k2 k3
    go_wp2
    go_ret
    exact ⟨.inl ⟨rfl, HF.out⟩, Below.refl _ _⟩
  ·have HF := Lib.hid (show ¬ Fit2 b from fun h => k2 h.2.1)
   have d2 : decide (b.next ≤ (281474976710657 : Int)) = false := by simpa using k2
   clear k1 k2
   go_wp2
   go_ret
   exact ⟨.inl ⟨rfl, HF.out⟩, Below.refl _ _⟩
 ·have HF := Lib.hid (show ¬ Fit2 b from fun h => k1 h.1)
  have d1 : decide ((1 : Int) ≤ b.next) = false := by simpa using k1
  clear k1
  go_wp2
  go_ret
  exact ⟨.inl ⟨rfl, HF.out⟩, Below.refl _ _⟩
end Go.Proofs.YtalophngappkhaaGreatDoor
namespace Go.Proofs.YtalophngappkhaaGreatDoor
open Go.RowKit Go.Shelf
attribute [local go_sem] Oper.semAt_some

section
variable {P : Program} {w : World} {ops : Array Oper} {rest : List Oper} {o : Oper} {a : Act} {Q : Exit → Act → World → Prop} {KK : Act → World → Prop} {k e t : TypeId} {b n : Nat} {F : Lit → Option Value}
open Go.Maps in
theorem wp_insV (m x v : Operand) (hop : o.op = Op.insert t m x v) (K : Keyed P k) (ht : P.underlying t = some (.map k e)) (hm : a.eval m = .map (some b)) (h : MpV P k w b n F) (hn : n < maxLen)
  (key val : Value) (kl : Lit) (hx : a.eval x = key) (hv : a.eval v = val) (hkey : keyOf P k key = some kl) (hK : ∀ w', MpV P k w' b (n + 1) (updF F kl (some val)) → w.grownBy w' (some b) → KK (a.put o.dst undef) w') : o.wp P a w KK Q := by
 obtain ⟨w', hr, h1, h2⟩ := h.store K ht hn hkey val
 unfold Oper.wp
 simp [execOp, hop, hm, hx, hv, hr, Result.andThen]
 exact hK w' h1 h2
open Go.Maps in
theorem wpList_insV (hg : o.guard = none) (m x v : Operand) (hop : o.op = Op.insert t m x v) (K : Keyed P k) (ht : P.underlying t = some (.map k e)) (hm : a.eval m = .map (some b)) (h : MpV P k w b n F) (hn : n < maxLen)
  (key val : Value) (kl : Lit) (hx : a.eval x = key) (hv : a.eval v = val) (hkey : keyOf P k key = some kl) (hK : ∀ w', MpV P k w' b (n + 1) (updF F kl (some val)) → w.grownBy w' (some b) → wpList P ops Q rest (a.put o.dst undef) w') : wpList P ops Q (o :: rest) a w :=
 wpList_plain hg fun _ hK' => wp_insV m x v hop K ht hm h hn key val kl hx hv hkey fun w' h1 h2 => hK' _ _ (hK w' h1 h2)
end
open Go.Maps in
theorem lawU8 : Keyed Tryz.prog 5 := int_keyed Tryz.underlying5
open Go.Maps in
theorem keyU8 {z : Int} (h : 0 ≤ z ∧ z ≤ 255) : keyOf Tryz.prog 5 (.int .u8 z) = some (.int .u8 z) :=
 Go.Maps.keyOf_int_mk Tryz.underlying5 (by simp [Lit.wf, IntKind.min, IntKind.max, IntKind.signed, IntKind.bits]; omega)
theorem zeroFn (w : World) : (zeroValue 42).run Tryz.prog w = .ok Value.nilFunc w := by kernel_rfl
theorem fn_neq (fn : Nat) (a b : Array Value) (w : World) : (binOp .neq 42 (.func (.func fn) a b) Value.nilFunc).run Tryz.prog w = .ok (.bool true) w := by kernel_rfl
theorem fn_neq0 (w : World) : (binOp .neq 42 Value.nilFunc Value.nilFunc).run Tryz.prog w = .ok (.bool false) w := by kernel_rfl
theorem fits_of1 {b : Bck} (h : b.kind = 1) : FitsB b ↔ Fit1 b := by
 unfold FitsB Fit1
 constructor
 ·rintro (⟨_, h⟩ | ⟨h2, _⟩)
  ·exact h
  ·omega
 ·exact fun k => .inl ⟨h, k⟩
theorem fits_of2 {b : Bck} (h : b.kind = 2) : FitsB b ↔ Fit2 b := by
 unfold FitsB Fit2
 constructor
 ·rintro (⟨h2, _⟩ | ⟨_, h⟩)
  ·omega
  ·exact h
 ·exact fun k => .inr ⟨h, k⟩
theorem fits_no {b : Bck} (h1 : b.kind ≠ 1) (h2 : b.kind ≠ 2) : ¬ FitsB b := by
 rintro (⟨h, _⟩ | ⟨h, _⟩)
 ·exact h1 h
 ·exact h2 h
set_option maxRecDepth 100000 in
set_option maxHeartbeats 1600000 in
theorem fits_ok (w : World) (b : Bck) (v : Value) (ho : BlkOk b) (hv : EV encE 11 w v b.evs) (hL : b.evs.length ≤ 100000) (hU : UsesAt w) :
  Calls Tryz.prog 81 #[blkA b v] w fun r w' => ((r = .returned (.bool false) ∧ ¬ FitsB b) ∨ (r = .returned (.bool true) ∧ FitsB b)) ∧ Below w.heap.size w w' := by
 have HX := Lib.hid (BkBox.new w b v)
 have HB := Lib.hid (bel_alloc w (.cells (blkC b v) 24))
 have HO := Lib.hid ho
 have HV := Lib.hid hv
 have HU := Lib.hid hU
 have HL := Lib.hid hL
 have HK := Lib.hid ho.kind
 unfold blkC at HX HB
 unfold blkA
 clear ho hv hU hL
 have hmm := @run_makeMap Tryz.prog
 go_enter Tryz.func81, Tryz.ntmps81
 go_upto_region 1 with fail
 have h1 := HX.out
 have h2 := HB.out
 clear HX HB
 obtain ⟨X, hX⟩ : ∃ X, w.heap.size = X := ⟨_, rfl⟩
 have HXX := Lib.hid hX
 generalize w.alloc (.cells #[.int .u8 b.kind, .int .u8 b.cpu, .int .i64 b.lost, .int .i64 b.next, v] 24) = wa at h1 h2 ⊢
 rw [hX] at h1 ⊢
 have HX := Lib.hid h1
 have HB := Lib.hid h2
 have HM := Lib.hid (show MpV Tryz.prog 5 (wa.alloc (.map #[] 0)) wa.heap.size 0 (fun _ => none) from MpV.made _ _ _)
 have HXL := Lib.hid h1.lt
 clear h1 h2 hX
 go_wp2_with (first | (refine wpList_insV (k := 5) (e := 42) (n := 0) (b := wa.heap.size) (by rfl) _ _ _ (by rfl) lawU8 Tryz.underlying170 (by rfl) HM.out (by decide) _ _ _ (by rfl) (by rfl) (keyU8 (by omega)) ?_) | fail)
 intro wb hm1 hg1
 have HM1 := Lib.hid hm1
 have HX1 := Lib.hid ((HX.out.below (bel_alloc wa (.map #[] 0))).grown hg1 (by have := HXL.out; simp; omega))
 have HB1 := Lib.hid ((HB.out.alloc HB.out.size _).grown hg1 (HB.out.alloc HB.out.size (.map #[] 0)).size (fun k hk => by cases hk; exact HB.out.size))
 have HS1 := Lib.hid hg1.size
 clear hm1 hg1 HM
 go_wp2_with (first | (refine wpList_insV (k := 5) (e := 42) (n := 1) (b := wa.heap.size) (by rfl) _ _ _ (by rfl) lawU8 Tryz.underlying170 (by rfl) HM1.out (by decide) _ _ _ (by rfl) (by rfl) (keyU8 (by omega)) ?_) | fail)
 intro wc hm2 hg2
 have HM2 := Lib.hid hm2
 have HX2 := Lib.hid (HX1.out.grown hg2 (by have := HXL.out; simp; omega))
 have HB2 := Lib.hid (HB1.out.grown hg2 HB1.out.size (fun k hk => by cases hk; exact HB.out.size))
 clear hm2 hg2 HM1 HX1 HB1 hmm
 have c0 := HX2.out.c0
 have KK := Lib.hid (keyU8 HK.out)
 have hn1 := fn_neq
 have hn0 := fn_neq0
 by_cases k1 : b.kind = 1
 ·rw [k1] at c0 KK
  have HV2 := Lib.hid (HV.out.below HB2.out)
  have HC := Lib.hid (fits1_ok wc X b v HX2.out HO.out HV2.out HL.out (HU.out.below HB2.out))
  have HF := Lib.hid (fits_of1 k1)
  clear k1
  go_wp2_with (at_lookup; refine wpList_lookV (k := 5) (e := 42) (z := Value.nilFunc) rfl _ _ (by rfl) lawU8 Tryz.underlying170 (zeroFn _) (by rfl) HM2.out _ _ (by rfl) KK.out ?_; rw [updF_ne (by simp), updF_same]; simp only [Option.getD_some])
  go_wp2_with fail
  refine HC.out.mono ?_
  rintro r w3 ⟨⟨rfl, h⟩ | ⟨rfl, h⟩, hb⟩
  ·have HH := Lib.hid (mt HF.out.1 h)
   clear h
   go_wp2
   go_ret
   exact ⟨.inl ⟨rfl, HH.out⟩, bstep HB2.out hb⟩
  ·have HH := Lib.hid (HF.out.2 h)
   clear h
   go_wp2
   go_ret
   exact ⟨.inr ⟨rfl, HH.out⟩, bstep HB2.out hb⟩
 ·by_cases k2 : b.kind = 2
  ·rw [k2] at c0 KK
   have HV2 := Lib.hid (HV.out.below HB2.out)
   have HC := Lib.hid (fits2_ok wc X b v HX2.out HV2.out HL.out)
   have HF := Lib.hid (fits_of2 k2)
   clear k1 k2
   go_wp2_with (at_lookup; refine wpList_lookV (k := 5) (e := 42) (z := Value.nilFunc) rfl _ _ (by rfl) lawU8 Tryz.underlying170 (zeroFn _) (by rfl) HM2.out _ _ (by rfl) KK.out ?_; rw [updF_same]; simp only [Option.getD_some])
   go_wp2_with fail
   refine HC.out.mono ?_
   rintro r w3 ⟨⟨rfl, h⟩ | ⟨rfl, h⟩, hb⟩
   ·have HH := Lib.hid (mt HF.out.1 h)
    clear h
    go_wp2
    go_ret
    exact ⟨.inl ⟨rfl, HH.out⟩, bstep HB2.out hb⟩
   ·have HH := Lib.hid (HF.out.2 h)
    clear h
    go_wp2
    go_ret
    exact ⟨.inr ⟨rfl, HH.out⟩, bstep HB2.out hb⟩
  ·have HH := Lib.hid (fits_no k1 k2)
   go_wp2_with (at_lookup; refine wpList_lookV (k := 5) (e := 42) (z := Value.nilFunc) rfl _ _ (by rfl) lawU8 Tryz.underlying170 (zeroFn _) (by rfl) HM2.out _ _ (by rfl) KK.out ?_; rw [updF_ne (by simp; omega), updF_ne (by simp; omega)]; simp only [Option.getD_none])
   go_wp2
   go_ret
   exact ⟨.inl ⟨rfl, HH.out⟩, HB2.out⟩
end Go.Proofs.YtalophngappkhaaGreatDoor
namespace Go.Proofs.YtalophngappkhaaGreatDoor
open Go.RowKit Go.Shelf
attribute [local go_sem] Oper.semAt_some

section
variable {P : Program} {α : Type} {enc : α → List Value} {k bytes : Nat} {t e tn : TypeId} {w : World}
theorem run_grow0 (T : ElemT P t e k bytes) (htn : P.underlying tn = some (.int .i64)) (ty : TypeId) (n : Nat) (h0 : 0 < n) (hn : n ≤ 1000000000) :
  ∃ cap w', (Builtin.append_ #[t, tn] ty #[.slice none 0 0, .int .i64 n]).run P w = .ok (.slice (some ⟨w.heap.size, 0, none⟩) n cap) w' ∧ n ≤ cap ∧ OV enc k e w.heap.size w' (.slice (some ⟨w.heap.size, 0, none⟩) 0 cap) [] ∧ Below w.heap.size w w' := by
 obtain ⟨i, z, hi, hz, hsz, hby, hzs⟩ := T.hi
 have hkp := T.hk
 have hbb : n * bytes ≤ 140737488355328 := Nat.le_trans (Nat.mul_le_mul hn T.hb) (by decide)
 have hml : n ≤ maxLen := by unfold maxLen; omega
 have hr := Go.Lib.run_append_grow_zeros (P := P) w t tn ty e i z .i64 .i64 T.ht htn hi hz none 0 0 [] (by exact run_firstCells_none w.drew i.size 0 0 0) n h0 (by omega) (by omega) (by omega) (by rw [hby]; omega) (growslice_fits (by omega) (by rw [hby, Nat.zero_add]; exact hbb))
 simp only [Nat.zero_add] at hr
 refine ⟨_, _, hr, grownCap_ge w n 0 e, ?_, (Below.refl _ w).drew.alloc (by simp) _⟩
 have := OV.made (enc := enc) (k := k) (e := e) (base := w.heap.size) w.drew (grownCap w n 0 e) (([] : List Value).toArray ++ Builtin.zeroCells z.cells n ++ Builtin.zeroCells z.cells (grownCap w n 0 e - n)) (by simp) (grownCap_le_maxLen w n 0 e hml) (by
  have hge := grownCap_ge w n 0 e
  simp only [Array.size_append, List.size_toArray, size_zeroCells, hzs, hsz, ← Nat.add_mul, List.length_nil, Nat.zero_add]
  congr 1
  omega)
 simpa using this
theorem wpList_grow0 {ops : Array Oper} {rest : List Oper} {o : Oper} {a : Act} {Q : Exit → Act → World → Prop} (T : ElemT P t e k bytes) (htn : P.underlying tn = some (.int .i64))
  (hgd : o.guard = none) (s x : Operand) (ho : o.op = .call { callee := .builtin .append, args := #[s, x], argTypes := #[t, tn] }) (n : Nat) (hs : a.eval s = .slice none 0 0) (hx : a.eval x = .int .i64 n) (h0 : 0 < n) (hn : n ≤ 1000000000)
  (h : ∀ cap w', n ≤ cap → OV enc k e w.heap.size w' (.slice (some ⟨w.heap.size, 0, none⟩) 0 cap) [] → Below w.heap.size w w' → wpList P ops Q rest (a.put o.dst (.slice (some ⟨w.heap.size, 0, none⟩) n cap)) w') : wpList P ops Q (o :: rest) a w := by
 refine wpList_plain hgd fun _ hK => ?_
 obtain ⟨cap, w', hr, h1, h2, h3⟩ := run_grow0 (enc := enc) (w := w) T htn o.type n h0 hn
 unfold Oper.wp execOp
 simp only [ho, resolve, invoke, builtin, Sem.run_bind, Sem.run_pure, Result.andThen_ok, List.map_toArray, List.map_cons, List.map_nil, hs, hx, hr]
 exact hK _ _ (h cap w' h1 h2 h3)
end
/-- A slice whose elements are slices. -/
def encVs {α : Type} (x : Value × List α) : List Value := [x.1]
theorem encVs_len {α : Type} (x : Value × List α) : (encVs x).length = 1 := rfl
theorem ER.vs {α : Type} {w : World} {b off i : Nat} {l : List (Value × List α)} (h : ER encVs 1 w b off l) {x : Value × List α} (hx : l[i]? = some x) : w.cell? ⟨b, off + i, none⟩ = some x.1 := by
 have := h i x hx 0 x.1 rfl
 simpa using this
theorem tot_le {α β : Type} (l : List (β × List α)) (j : Nat) : ((l.take j).flatMap Prod.snd).length ≤ (l.flatMap Prod.snd).length := by
 conv => rhs; rw [← List.take_append_drop j l, List.flatMap_append, List.length_append]
 omega
theorem tot_cat {α β : Type} {l : List (β × List α)} {j : Nat} {x : β × List α} (h : l[j]? = some x) : (l.take (j + 1)).flatMap Prod.snd = (l.take j).flatMap Prod.snd ++ x.2 := by
 rw [List.take_add_one, h]
 simp
theorem tot_step {α β : Type} {l : List (β × List α)} {j : Nat} {x : β × List α} (h : l[j]? = some x) : ((l.take (j + 1)).flatMap Prod.snd).length = ((l.take j).flatMap Prod.snd).length + x.2.length := by
 rw [tot_cat h, List.length_append]
set_option maxHeartbeats 800000 in
theorem grow_byte (w : World) (n : Nat) (hn : n ≤ 1000000000) :
  Calls Tryz.prog 136 #[.slice none 0 0, .int .i64 n] w fun e w' => ∃ v, e = .returned v ∧ OV encB 1 5 w.heap.size w' v [] ∧ Below w.heap.size w w' := by
 rcases Nat.eq_zero_or_pos n with rfl | h0
 ·go_enter Tryz.func136, Tryz.ntmps136
  go_wp2
  go_ret
  exact ⟨_, rfl, OV.nil _ _, Below.refl _ _⟩
 ·go_enter Tryz.func136, Tryz.ntmps136
  go_wp2_with (at_builtin; refine wpList_grow0 (enc := encB) elemB Tryz.underlying3 rfl _ _ rfl n rfl rfl h0 hn ?_)
  intro cap w1 hc ho hb
  have HO := Lib.hid ho
  have HB := Lib.hid hb
  clear ho hb
  go_wp2
  go_ret
  exact ⟨_, rfl, HO.out, HB.out⟩
set_option maxRecDepth 100000 in
set_option maxHeartbeats 1600000 in
theorem concat_byte (w0 : World) (v : Value) (xss : List (Value × List (Nat))) (hv : EV encVs 1 w0 v xss) (hx : ∀ x ∈ xss, EV encB 1 w0 x.1 x.2) (hm : xss.length ≤ 1000000) (hT : (xss.flatMap Prod.snd).length ≤ 10000000) :
  Calls Tryz.prog 110 #[v] w0 fun e w' => ∃ v', e = .returned v' ∧ OV encB 1 5 w0.heap.size w' v' (xss.flatMap Prod.snd) ∧ Below w0.heap.size w0 w' := by
 obtain ⟨A, c, rfl⟩ := hv.shape
 have HV := Lib.hid hv
 have HX := Lib.hid hx
 have HTT := Lib.hid hT
 obtain ⟨m, hmm⟩ : ∃ m, m = xss.length := ⟨_, rfl⟩
 have HM := Lib.hid hmm
 rw [← hmm] at hm ⊢
 have HTL := Lib.hid (fun j => tot_le xss j)
 obtain ⟨S, hS⟩ : ∃ S, S = (xss.flatMap Prod.snd).length := ⟨_, rfl⟩
 have HS := Lib.hid hS
 have hS2 : S ≤ 10000000 := by omega
 have HGR := Lib.hid (fun wx => grow_byte wx S (by omega))
 clear hv hx hmm hT hS
 go_enter Tryz.func110, Tryz.ntmps110
 go_wp2
 go_loopg [3, 11] m (fun k z i wr => ∃ j : Nat, j + k = m ∧ i = .int .i64 j ∧ z = .int .i64 (((xss.take j).flatMap Prod.snd).length : Nat) ∧ wr = w0)
 case atStart => exact ⟨0, by omega, rfl, rfl, rfl⟩
 case round =>
  obtain ⟨j, hj, rfl, rfl, rfl⟩ := hrel
  have HJ := Lib.hid hj
  clear hj
  by_cases hlt : j < m
  ·obtain ⟨b, off, c', hsl, hcc, hr⟩ := HV.out.row (by have := HM.out; omega)
   cases hsl
   obtain ⟨x, hx⟩ : ∃ x, xss[j]? = some x := ⟨_, List.getElem?_eq_getElem (by rw [← HM.out]; exact hlt)⟩
   have g0 := hr.vs hx
   obtain ⟨A', c2, hA⟩ := (HX.out x (List.mem_of_getElem? hx)).shape
   rw [hA] at g0
   have HST := Lib.hid (tot_step hx)
   have q1 := HTL.out (j + 1)
   rw [HST.out] at q1
   have q2 : ((xss.take j).flatMap Prod.snd).length + x.2.length ≤ S := by rw [HS.out]; exact q1
   generalize ((xss.take j).flatMap Prod.snd).length = T0 at q1 q2 HST ⊢
   generalize x.2.length = T1 at q1 q2 HST g0 ⊢
   have q3 : wrap64 ((T0 : Int) + (T1 : Int)) = ((T0 + T1 : Nat) : Int) := by rw [show (T0 : Int) + (T1 : Int) = ((T0 + T1 : Nat) : Int) by omega]; exact IntWalk.wrap64_in _ (by omega)
   have q4 : decide (((T0 : Int) + (T1 : Int)) < 0) = false := by simp; omega
   clear hr hx hA q1
   go_wp2
   go_roundg (gk - 1)
   case measure => have := HJ.out; omega
   case rel => exact ⟨j + 1, by have := HJ.out; omega, by go_num, by rw [HST.out]; first | rfl | (congr 1) | (congr 1; omega), rfl⟩
  ·obtain rfl : m = j := by have := HJ.out; omega
   rw [List.take_of_length_le (show xss.length ≤ m by rw [HM.out]; exact Nat.le_refl _), ← HS.out]
   go_wp2_with fail
   refine (HGR.out _).mono ?_
   rintro e w1 ⟨v, rfl, ho, hb⟩
   have HO := Lib.hid ho
   have HB := Lib.hid hb
   clear ho hb
   obtain ⟨ws, hws⟩ : ∃ ws, ws = wr := ⟨_, rfl⟩
   subst hws
   go_wp2
   go_loopg [6, 27] m (fun k v i wq => ∃ j : Nat, j + k = m ∧ i = .int .i64 j ∧ OV encB 1 5 ws.heap.size wq v ((xss.take j).flatMap Prod.snd) ∧ Below ws.heap.size ws wq)
   case atStart => exact ⟨0, by omega, rfl, HO.out, HB.out⟩
   case round =>
    obtain ⟨j, hj, rfl, ho, hb⟩ := hrel
    have HJ := Lib.hid hj
    have HO2 := Lib.hid ho
    have HB2 := Lib.hid hb
    clear ho hb hj
    by_cases hlt : j < m
    ·have hev := HV.out.below HB2.out
     obtain ⟨b, off, c', hsl, hcc, hr⟩ := hev.row (by have := HM.out; omega)
     cases hsl
     obtain ⟨x, hx⟩ : ∃ x, xss[j]? = some x := ⟨_, List.getElem?_eq_getElem (by rw [← HM.out]; exact hlt)⟩
     have g0 := hr.vs hx
     have hxe := (HX.out x (List.mem_of_getElem? hx)).below HB2.out
     have HST := Lib.hid (tot_cat hx)
     have HXE := Lib.hid hxe
     have HQ := Lib.hid (show ((xss.take j).flatMap Prod.snd).length + x.2.length ≤ 1000000000 by
      have q1 := HTL.out (j + 1)
      rw [HST.out, List.length_append] at q1
      have := HTT.out; omega)
     clear hr hx hev hxe
     go_wp2_with (at_builtin; refine wpList_app elemB encB_len encB_one rfl _ _ rfl _ _ rfl rfl HO2.out HXE.out ?q1 ?q2 ?_)
     case q1 => exact HQ.out
     case q2 => exact HB2.out.size
     intro v' w3 ho3 hg3
     have HO3 := Lib.hid ho3
     have HB3 := Lib.hid (HB2.out.grown hg3 HB2.out.size (fun k hk => (HO2.out.block k hk).1))
     clear ho3 hg3
     go_wp2
     go_roundg (m - (j + 1))
     case measure => have := HJ.out; omega
     case rel => exact ⟨j + 1, by have := HJ.out; omega, by go_num, by rw [HST.out]; exact HO3.out, HB3.out⟩
    ·obtain rfl : m = j := by have := HJ.out; omega
     rw [List.take_of_length_le (show xss.length ≤ m by rw [HM.out]; exact Nat.le_refl _)] at HO2
     go_wp2
     go_ret
     exact ⟨_, rfl, HO2.out, HB2.out⟩
end Go.Proofs.YtalophngappkhaaGreatDoor

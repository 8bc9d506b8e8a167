/- Events, in plain words: what is right, and what is wrong with one | What a card's laid variable gives: the fields of each kind of event, as lists | Contracts of event's methods: place, value, limits | Contract of event's within | Contract of event.Check. -/
import Derived.Test.YtalophngappkhaaGreatDoorV1
import Derived.WalkKit
import Derived.ProofKit
import Derived.OpenShut
import Derived.Below
import Derived.Lib.LaidTab
set_option linter.unusedVariables false
set_option linter.unusedSimpArgs false
set_option linter.unusedSectionVars false
namespace Go.Proofs.YtalophngappkhaaGreatDoor
open Go Go.RowKit

structure Ev where
 seq : Int
 time : Int
 cpu : Int
 kind : Int
 task : Int
 grp : Int
 to : Int
 wt : Int
 ticks : Int
 mask : Int
 got : Int
instance : DecidableEq Ev := fun a b => decidable_of_iff (a.seq = b.seq ∧ a.time = b.time ∧ a.cpu = b.cpu ∧ a.kind = b.kind ∧ a.task = b.task ∧ a.grp = b.grp ∧ a.to = b.to ∧ a.wt = b.wt ∧ a.ticks = b.ticks ∧ a.mask = b.mask ∧ a.got = b.got) (by cases a; cases b; simp)
def encE (e : Ev) : List Value := [.int .i64 e.seq, .int .i64 e.time, .int .u8 e.cpu, .int .u8 e.kind, .int .i64 e.task, .int .i64 e.grp, .int .i64 e.to, .int .i64 e.wt, .int .i64 e.ticks, .int .u64 e.mask, .int .i64 e.got]
theorem encE_len (e : Ev) : (encE e).length = 11 := rfl
theorem encE_one (e : Ev) : ∀ u ∈ encE e, u.oneCell' = true := by intro u hu; simp [encE] at hu; rcases hu with rfl | rfl | rfl | rfl | rfl | rfl | rfl | rfl | rfl | rfl | rfl <;> rfl
theorem ER.ev {w : World} {b off : Nat} {l : List Ev} (h : ER encE 11 w b off l) {i : Nat} {x : Ev} (hi : l[i]? = some x) :
  w.cell? ⟨b, off + i * 11, none⟩ = some (.int .i64 x.seq) ∧ w.cell? ⟨b, off + i * 11 + 1, none⟩ = some (.int .i64 x.time) ∧ w.cell? ⟨b, off + i * 11 + 2, none⟩ = some (.int .u8 x.cpu) ∧ w.cell? ⟨b, off + i * 11 + 3, none⟩ = some (.int .u8 x.kind) ∧
  w.cell? ⟨b, off + i * 11 + 4, none⟩ = some (.int .i64 x.task) ∧ w.cell? ⟨b, off + i * 11 + 5, none⟩ = some (.int .i64 x.grp) ∧ w.cell? ⟨b, off + i * 11 + 6, none⟩ = some (.int .i64 x.to) ∧ w.cell? ⟨b, off + i * 11 + 7, none⟩ = some (.int .i64 x.wt) ∧
  w.cell? ⟨b, off + i * 11 + 8, none⟩ = some (.int .i64 x.ticks) ∧ w.cell? ⟨b, off + i * 11 + 9, none⟩ = some (.int .u64 x.mask) ∧ w.cell? ⟨b, off + i * 11 + 10, none⟩ = some (.int .i64 x.got) :=
 ⟨h i x hi 0 _ rfl, h i x hi 1 _ rfl, h i x hi 2 _ rfl, h i x hi 3 _ rfl, h i x hi 4 _ rfl, h i x hi 5 _ rfl, h i x hi 6 _ rfl, h i x hi 7 _ rfl, h i x hi 8 _ rfl, h i x hi 9 _ rfl, h i x hi 10 _ rfl⟩
/-- An event whose numbers are numbers of their kinds. -/
structure EvOk (e : Ev) : Prop where
 cpu : 0 ≤ e.cpu ∧ e.cpu ≤ 255
 kind : 0 ≤ e.kind ∧ e.kind ≤ 255
 mask : 0 ≤ e.mask ∧ e.mask ≤ 18446744073709551615
 seq : -9223372036854775808 ≤ e.seq ∧ e.seq ≤ 9223372036854775807
 time : -9223372036854775808 ≤ e.time ∧ e.time ≤ 9223372036854775807
 task : -9223372036854775808 ≤ e.task ∧ e.task ≤ 9223372036854775807
 grp : -9223372036854775808 ≤ e.grp ∧ e.grp ≤ 9223372036854775807
 to : -9223372036854775808 ≤ e.to ∧ e.to ≤ 9223372036854775807
 wt : -9223372036854775808 ≤ e.wt ∧ e.wt ≤ 9223372036854775807
 ticks : -9223372036854775808 ≤ e.ticks ∧ e.ticks ≤ 9223372036854775807
 got : -9223372036854775808 ≤ e.got ∧ e.got ≤ 9223372036854775807
/-- The fields of a kind. -/
def usesK : Nat → List Nat
 | 1 => [0, 1, 3, 5]
 | 2 => [0]
 | 3 => [6]
 | 4 => [6]
 | 5 => [4, 6]
 | 6 => [6]
 | 7 => [0, 3]
 | 8 => [1, 3]
 | 9 => [0, 2]
 | 10 => [6]
 | _ => []
def fieldV (e : Ev) : Nat → Int
 | 0 => e.task
 | 1 => e.grp
 | 2 => e.to
 | 3 => e.wt
 | 4 => e.ticks
 | 5 => e.mask
 | _ => e.got
def withinE (e : Ev) : Nat → Bool
 | 0 => decide (1 ≤ e.task) && decide (e.task ≤ 65535)
 | 1 => decide ((if e.kind = 8 then 1 else 0) ≤ e.grp) && decide (e.grp ≤ 255)
 | 2 => decide (0 ≤ e.to) && decide (e.to ≤ 63) && decide (e.to ≠ e.cpu)
 | 3 => decide (1 ≤ e.wt) && decide (e.wt ≤ 65536)
 | 4 => decide (1 ≤ e.ticks) && decide (e.ticks ≤ 4294967295)
 | 5 => decide (e.mask.toNat / 2 ^ e.cpu.toNat % 2 = 1)
 | _ => decide ((if e.kind = 5 ∨ e.kind = 6 then 0 else 1) ≤ e.got) && decide (e.got ≤ 65535)
/-- What is wrong with an event. -/
def chkEv (e : Ev) : Int :=
 if e.kind = 0 ∨ 10 < e.kind then 60
 else if e.seq < 1 ∨ 281474976710656 < e.seq ∨ e.time < 0 ∨ 281474976710656 < e.time ∨ 64 ≤ e.cpu then 61
 else if (usesK e.kind.toNat).all (withinE e) = false then 61
 else if (List.range 7).any (fun i => decide (fieldV e i ≠ 0) && !(usesK e.kind.toNat).contains i) = true then 62
 else 0
end Go.Proofs.YtalophngappkhaaGreatDoor
namespace Go.Proofs.YtalophngappkhaaGreatDoor
open Go Go.RowKit Go.ChangeAt Go.ChangeShapes

def usesZ (k : Nat) : List Int := (usesK k).map Int.ofNat
/-- The variable uses holds, for each kind of event, the numbers of its fields. -/
def UsesAt (w : World) : Prop := ∀ k, k < 11 → ∃ v, w.cell? ⟨1, k, none⟩ = some v ∧ EV encI 1 w v (usesZ k)
theorem UsesAt.below {w w' : World} (h : UsesAt w) (hb : Below w.heap.size w w') : UsesAt w' := fun k hk => by
 obtain ⟨v, h1, h2⟩ := h k hk
 exact ⟨v, below_cell hb h1, h2.below hb⟩
def usesD {H : Type} (zs : List Int) : DataW H := if zs = [] then .nil else .slice (zs.map fun n => .lit (.int .i64 n)) []
theorem lits_inj {H : Type} : ∀ {a b : List Int}, (a.map fun n => (.lit (.int .i64 n) : DataW H)) = (b.map fun n => .lit (.int .i64 n)) → a = b
 | [], [], _ => rfl
 | [], _ :: _, h => by simp at h
 | _ :: _, [], h => by simp at h
 | x :: a, y :: b, h => by
  simp only [List.map_cons, List.cons.injEq, DataW.lit.injEq, Lit.int.injEq, true_and] at h
  rw [h.1, lits_inj h.2]
theorem ev_of_trod {H : Type} {enc : TypeId × Value → H} {W : World} {base fuel : Nat} {sp : Nat → Bool} {held : Bool} {cs : List Value} {x : DataW H × List MemPlace} {zs : List Int}
  (h : DataW.trod enc Tryz.prog W base sp held fuel 32 cs = some x) (hx : x.1 = usesD zs) : ∃ v, cs = [v] ∧ EV encI 1 W v zs := by
 rcases open_ints Tryz.underlying32 Tryz.underlying3 (by kernel_rfl) h with ⟨hcs, h0⟩ | ⟨a, l, c, ys, hcs, _, hl, hm, hz, h0, hcell, hwz⟩
 ·subst h0
  refine ⟨_, hcs, ?_⟩
  have : zs = [] := by
   by_cases e : zs = []
   ·exact e
   ·rw [usesD, if_neg e] at hx; cases hx
  subst this
  exact EV.nil _ _
 ·subst h0
  refine ⟨_, hcs, ?_⟩
  have e : zs ≠ [] := by
   intro e
   rw [usesD, if_pos e] at hx; cases hx
  rw [usesD, if_neg e] at hx
  have h1 : ys.take l = zs := by
   simp only [lits, DataW.slice.injEq] at hx
   exact lits_inj hx.1
  have hlen : zs.length = l := by rw [← h1, List.length_take]; split at hz <;> omega
  have hyl : l ≤ ys.length := by rw [hz]; split <;> omega
  have h0 : 0 < zs.length := List.length_pos_iff.2 e
  have ha : a = ⟨a.block, a.off, none⟩ := by
   have := hcell 0 (by omega)
   rw [Addr.add_zero'] at this
   exact addr_of_cell this
  rw [ha] at hcell ⊢
  have := EV.mk (enc := encI) (k := 1) (w := W) (b := a.block) (off := a.off) (xs := zs) (c := c) (fun i y hy j u hu => ?_) (by omega)
  ·rw [hlen] at this; exact this
  ·have hi : i < l := by have := (List.getElem?_eq_some_iff.1 hy).1; omega
   rw [← h1, List.getElem?_take_of_lt hi] at hy
   have hj : j = 0 := by have := (List.getElem?_eq_some_iff.1 hu).1; simpa [encI] using this
   subst hj
   simp [encI] at hu; subst hu
   have := hcell i (by omega)
   rw [Addr.add_lit] at this
   simpa [List.getD, hy] using this

theorem gUses : Tryz.prog.globalNamed "quantum/event.uses" = some 1 := by kernel_rfl
theorem gUsesType : (Tryz.prog.globals[1]?).map (·.type) = some 184 := by kernel_rfl
theorem cellsUses : Tryz.prog.cellsOf 184 = 11 := by kernel_rfl
theorem cellsUses1 : Tryz.prog.cellsOf 32 = 1 := by kernel_rfl
theorem laidUses {H : Type} : (Rows.laid_quantum_event_uses : DataW H) = .agg ((List.range 11).map fun k => usesD (usesZ k)) := by rfl
/-- FROM THE ROW's CONDITION TO THE FACT. -/
theorem uses_of {W : World} {rest : List (String × DataW Unit)} (h : laidMet Tryz.prog (("quantum/event.uses", Rows.laid_quantum_event_uses) :: rest) W) : UsesAt W := by
 obtain ⟨ps, ⟨g', t', cs, fuel, p, q, hg', ht', hvar, hd, _, _⟩, _⟩ := h
 obtain rfl := Option.some.inj (gUses.symm.trans hg')
 obtain rfl := Option.some.inj (gUsesType.symm.trans ht')
 rw [laidUses] at hd
 have hvc := World.var?_cell gUses hvar
 cases fuel with
 | zero => simp [DataW.trod] at hd
 | succ fuel =>
  simp only [DataW.trod, Tryz.underlying184, cellsUses1, cellsUses, Nat.mul_one] at hd
  split at hd
  ·rename_i hl
   obtain ⟨xs, hm, hx⟩ := Option.map_eq_some_iff.1 hd
   have hxs : xs.map (·.1) = (List.range 11).map fun k => usesD (usesZ k) := by
    have := congrArg Prod.fst hx
    simpa using this
   intro k hk
   obtain ⟨b, hb, hf⟩ := Lib.mapM_at hm k k (by simp [hk])
   have h2 : b.1 = usesD (usesZ k) := by
    have : (xs.map (·.1))[k]? = some b.1 := by simp [hb]
    rw [hxs] at this
    simp only [List.getElem?_map, List.getElem?_range hk, Option.map_some, Option.some.injEq] at this
    exact this.symm
   obtain ⟨v, hv, hev⟩ := ev_of_trod hf h2
   refine ⟨v, ?_, hev⟩
   rw [hvc k]
   have h1 : cs.toList[k]? = some v := by
    have := congrArg (·[0]?) hv
    simpa [List.getElem?_take, List.getElem?_drop] using this
   simpa using h1
  ·cases hd
end Go.Proofs.YtalophngappkhaaGreatDoor
namespace Go.Proofs.YtalophngappkhaaGreatDoor
open Go.RowKit Go.Shelf
attribute [local go_sem] Oper.semAt_some

/-- Block B is the event e. -/
def EvP (w : World) (B : Nat) (e : Ev) : Prop := ∀ (j : Nat) (u : Value), (encE e)[j]? = some u → w.cell? ⟨B, j, none⟩ = some u
section
variable {w w' : World} {B : Nat} {e : Ev}
theorem EvP.lt (h : EvP w B e) : B < w.heap.size := cell_lt (h 0 _ rfl)
theorem EvP.below (h : EvP w B e) {n : Nat} (hb : Below n w w') (hn : B < n) : EvP w' B e := fun j u hu => (hb.cell (p := ⟨B, j, none⟩) hn).trans (h j u hu)
theorem EvP.c0 (h : EvP w B e) : w.cell? ⟨B, 0, none⟩ = some (.int .i64 e.seq) := h 0 _ rfl
theorem EvP.c1 (h : EvP w B e) : w.cell? ⟨B, 1, none⟩ = some (.int .i64 e.time) := h 1 _ rfl
theorem EvP.c2 (h : EvP w B e) : w.cell? ⟨B, 2, none⟩ = some (.int .u8 e.cpu) := h 2 _ rfl
theorem EvP.c3 (h : EvP w B e) : w.cell? ⟨B, 3, none⟩ = some (.int .u8 e.kind) := h 3 _ rfl
theorem EvP.c4 (h : EvP w B e) : w.cell? ⟨B, 4, none⟩ = some (.int .i64 e.task) := h 4 _ rfl
theorem EvP.c5 (h : EvP w B e) : w.cell? ⟨B, 5, none⟩ = some (.int .i64 e.grp) := h 5 _ rfl
theorem EvP.c6 (h : EvP w B e) : w.cell? ⟨B, 6, none⟩ = some (.int .i64 e.to) := h 6 _ rfl
theorem EvP.c7 (h : EvP w B e) : w.cell? ⟨B, 7, none⟩ = some (.int .i64 e.wt) := h 7 _ rfl
theorem EvP.c8 (h : EvP w B e) : w.cell? ⟨B, 8, none⟩ = some (.int .i64 e.ticks) := h 8 _ rfl
theorem EvP.c9 (h : EvP w B e) : w.cell? ⟨B, 9, none⟩ = some (.int .u64 e.mask) := h 9 _ rfl
theorem EvP.c10 (h : EvP w B e) : w.cell? ⟨B, 10, none⟩ = some (.int .i64 e.got) := h 10 _ rfl
end

theorem place_ok (w : World) (B i : Nat) (hi : i < 7) :
  Calls Tryz.prog 158 #[.pointer (some ⟨B, 0, none⟩), .int .i64 i] w fun e w' => e = .returned (.iface (if i = 5 then 227 else 224) (.pointer (some ⟨B, 4 + i, none⟩))) ∧ w' = w := by
 have h : i = 0 ∨ i = 1 ∨ i = 2 ∨ i = 3 ∨ i = 4 ∨ i = 5 ∨ i = 6 := by omega
 rcases h with rfl | rfl | rfl | rfl | rfl | rfl | rfl
 all_goals
  go_enter Tryz.func158, Tryz.ntmps158
  go_wp2
  go_ret
  exact ⟨rfl, rfl⟩

@[local go_sem] theorem asInt (v : Value) (w : World) : (Instr.typeAssert (.iface 224 v) 20 224 true).run Tryz.prog w = .ok (.tuple #[v, .bool true]) w := by kernel_rfl
@[local go_sem] theorem asIntNo (v : Value) (w : World) : (Instr.typeAssert (.iface 227 v) 20 224 true).run Tryz.prog w = .ok (.tuple #[.pointer none, .bool false]) w := by kernel_rfl
@[local go_sem] theorem asMask (v : Value) (w : World) : (Instr.typeAssert (.iface 227 v) 20 227 true).run Tryz.prog w = .ok (.tuple #[v, .bool true]) w := by kernel_rfl

theorem wrapU (x : Int) : IntKind.u64.wrap x = x % 18446744073709551616 := by simp [IntKind.wrap, IntKind.signed, IntKind.bits]
/-- The number of a field, as one without a sign. -/
def valV (e : Ev) (i : Nat) : Int := fieldV e i % 18446744073709551616
def okV (e : Ev) (i : Nat) : Bool := if i = 5 then true else decide (0 ≤ fieldV e i)

set_option maxHeartbeats 400000 in
theorem value_ok (w : World) (B i : Nat) (e : Ev) (h : EvP w B e) (ho : EvOk e) (hi : i < 7) :
  Calls Tryz.prog 119 #[.pointer (some ⟨B, 0, none⟩), .int .i64 i] w fun r w' => r = .returned (.tuple #[.int .u64 (valV e i), .bool (okV e i)]) ∧ Below w.heap.size w w' := by
 have c4 := h.c4
 have c5 := h.c5
 have c6 := h.c6
 have c7 := h.c7
 have c8 := h.c8
 have c9 := h.c9
 have c10 := h.c10
 have hd : i = 0 ∨ i = 1 ∨ i = 2 ∨ i = 3 ∨ i = 4 ∨ i = 5 ∨ i = 6 := by omega
 have HP := Lib.hid (fun i hi => place_ok w B i hi)
 have HO := Lib.hid ho
 clear ho h
 rcases hd with rfl | rfl | rfl | rfl | rfl | rfl | rfl
 case inr.inr.inr.inr.inr.inl =>
  go_enter Tryz.func119, Tryz.ntmps119
  go_wp2_with fail
  refine (HP.out 5 hi).mono ?_
  rintro e w1 ⟨rfl, rfl⟩
  go_wp2_with fail
  refine (HP.out 5 hi).mono ?_
  rintro e w1 ⟨rfl, rfl⟩
  go_wp2
  go_ret2
  have ho := HO.out
  obtain ⟨⟨a1, a2⟩, ⟨a3, a4⟩, ⟨a5, a6⟩, ⟨a7, a8⟩, ⟨a9, a10⟩, ⟨a11, a12⟩, ⟨a13, a14⟩, ⟨a15, a16⟩, ⟨a17, a18⟩, ⟨a19, a20⟩, ⟨a21, a22⟩⟩ := ho
  refine ⟨?_, Below.refl _ _⟩
  simp [valV, okV, fieldV]
  omega
 all_goals
  go_enter Tryz.func119, Tryz.ntmps119
  go_wp2_with fail
  refine (HP.out _ hi).mono ?_
  rintro e w1 ⟨rfl, rfl⟩
  go_wp2
  go_quiet (fail)
  go_wp2
  go_ret2
  have ho := HO.out
  obtain ⟨⟨a1, a2⟩, ⟨a3, a4⟩, ⟨a5, a6⟩, ⟨a7, a8⟩, ⟨a9, a10⟩, ⟨a11, a12⟩, ⟨a13, a14⟩, ⟨a15, a16⟩, ⟨a17, a18⟩, ⟨a19, a20⟩, ⟨a21, a22⟩⟩ := ho
  refine ⟨?_, ?_⟩
  ·simp [valV, okV, fieldV, wrapU]
  ·exact below_drewN (Below.refl _ _) _
def loF (e : Ev) : Nat → Int
 | 0 => 1
 | 1 => if e.kind = 8 then 1 else 0
 | 2 => 0
 | 3 => 1
 | 4 => 1
 | 5 => 1
 | _ => if e.kind = 5 ∨ e.kind = 6 then 0 else 1
def hiF : Nat → Int
 | 0 => 65535
 | 1 => 255
 | 2 => 63
 | 3 => 65536
 | 4 => 4294967295
 | 5 => 18446744073709551615
 | _ => 65535
set_option maxHeartbeats 400000 in
theorem limits_ok (w : World) (B i : Nat) (e : Ev) (h : EvP w B e) (hi : i < 7) :
  Calls Tryz.prog 157 #[.pointer (some ⟨B, 0, none⟩), .int .i64 i] w fun r w' => r = .returned (.tuple #[.int .u64 (loF e i), .int .u64 (hiF i)]) ∧ w' = w := by
 have c3 := h.c3
 have hd : i = 0 ∨ i = 1 ∨ i = 2 ∨ i = 3 ∨ i = 4 ∨ i = 5 ∨ i = 6 := by omega
 clear h hi
 rcases hd with rfl | rfl | rfl | rfl | rfl | rfl | rfl
 case inr.inl =>
  by_cases h8 : e.kind = 8
  ·rw [h8] at c3
   go_enter Tryz.func157, Tryz.ntmps157
   go_wp2
   go_ret2
   exact ⟨by simp [loF, hiF, h8], rfl⟩
  ·have h8' : (e.kind == 8) = false := by simp [h8]
   go_enter Tryz.func157, Tryz.ntmps157
   go_wp2
   go_ret2
   exact ⟨by simp [loF, hiF, h8], rfl⟩
 case inr.inr.inr.inr.inr.inr =>
  by_cases h5 : e.kind = 5
  ·rw [h5] at c3
   go_enter Tryz.func157, Tryz.ntmps157
   go_wp2
   go_ret2
   exact ⟨by simp [loF, hiF, h5], rfl⟩
  ·have h5' : (e.kind == 5) = false := by simp [h5]
   by_cases h6 : e.kind = 6
   ·rw [h6] at c3
    go_enter Tryz.func157, Tryz.ntmps157
    go_wp2
    go_ret2
    exact ⟨by simp [loF, hiF, h6], rfl⟩
   ·have h6' : (e.kind == 6) = false := by simp [h6]
    go_enter Tryz.func157, Tryz.ntmps157
    go_wp2
    go_ret2
    exact ⟨by simp [loF, hiF, h5, h6], rfl⟩
 all_goals
  go_enter Tryz.func157, Tryz.ntmps157
  go_wp2
  go_ret2
  exact ⟨rfl, rfl⟩
end Go.Proofs.YtalophngappkhaaGreatDoor
namespace Go.Proofs.YtalophngappkhaaGreatDoor
open Go.RowKit Go.Shelf
attribute [local go_sem] Oper.semAt_some

def spF (e : Ev) : Nat → Bool
 | 2 => decide (e.to ≠ e.cpu)
 | 5 => decide (e.mask.toNat / 2 ^ e.cpu.toNat % 2 = 1)
 | _ => true
theorem within_eq {e : Ev} (ho : EvOk e) {i : Nat} (hi : i < 7) : withinE e i = (okV e i && decide (loF e i ≤ valV e i) && decide (valV e i ≤ hiF i) && spF e i) := by
 obtain ⟨⟨a1, a2⟩, ⟨a3, a4⟩, ⟨a5, a6⟩, ⟨a7, a8⟩, ⟨a9, a10⟩, ⟨a11, a12⟩, ⟨a13, a14⟩, ⟨a15, a16⟩, ⟨a17, a18⟩, ⟨a19, a20⟩, ⟨a21, a22⟩⟩ := ho
 have hd : i = 0 ∨ i = 1 ∨ i = 2 ∨ i = 3 ∨ i = 4 ∨ i = 5 ∨ i = 6 := by omega
 rw [Bool.eq_iff_iff]
 rcases hd with rfl | rfl | rfl | rfl | rfl | rfl | rfl
 ·simp [withinE, okV, loF, hiF, valV, spF, fieldV]; omega
 ·simp [withinE, okV, loF, hiF, valV, spF, fieldV]; split <;> omega
 ·simp [withinE, okV, loF, hiF, valV, spF, fieldV]; omega
 ·simp [withinE, okV, loF, hiF, valV, spF, fieldV]; omega
 ·simp [withinE, okV, loF, hiF, valV, spF, fieldV]; omega
 ·simp only [withinE, okV, loF, hiF, valV, spF, fieldV, if_true, Bool.true_and, Bool.and_eq_true, decide_eq_true_eq]
  have : e.mask % 18446744073709551616 = e.mask := by omega
  rw [this]
  constructor
  ·intro h
   refine ⟨⟨?_, by omega⟩, h⟩
   by_cases h0 : e.mask = 0
   ·rw [h0] at h; simp at h
   ·omega
  ·exact fun h => h.2
 ·simp [withinE, okV, loF, hiF, valV, spF, fieldV]; split <;> omega

set_option maxHeartbeats 400000 in
theorem within_ok (w : World) (B i : Nat) (e : Ev) (h : EvP w B e) (ho : EvOk e) (hc : e.cpu < 64) (hi : i < 7) :
  Calls Tryz.prog 118 #[.pointer (some ⟨B, 0, none⟩), .int .i64 i] w fun r w' => r = .returned (.bool (withinE e i)) ∧ Below w.heap.size w w' := by
 have HV := Lib.hid (value_ok w B i e h ho hi)
 have HL := Lib.hid (fun (w1 : World) (hb : Below w.heap.size w w1) => limits_ok w1 B i e (h.below hb h.lt) hi)
 have HE := Lib.hid (within_eq ho hi)
 have HH := Lib.hid h
 have HO := Lib.hid ho
 have HC := Lib.hid hc
 clear h ho hc
 go_enter Tryz.func118, Tryz.ntmps118
 go_wp2_with fail
 refine HV.out.mono ?_
 rintro r w1 ⟨rfl, hb⟩
 have hl := HL.out w1 hb
 have HB := Lib.hid hb
 have h1 := HH.out.below hb HH.out.lt
 have c2 := h1.c2
 have c6 := h1.c6
 clear HV HL hb h1
 go_wp2_with fail
 refine hl.mono ?_
 rintro r w2 ⟨rfl, rfl⟩
 clear hl
 cases hok : okV e i with
 | false =>
  go_wp2
  go_ret
  exact ⟨by rw [HE.out, hok]; rfl, HB.out⟩
 | true =>
 by_cases h1 : valV e i < loF e i
 ·go_wp2
  go_ret
  exact ⟨by rw [HE.out, show decide (loF e i ≤ valV e i) = false from by simp; omega]; simp, HB.out⟩
 by_cases h2 : hiF i < valV e i
 ·go_wp2
  go_ret
  exact ⟨by rw [HE.out, show decide (valV e i ≤ hiF i) = false from by simp; omega]; simp, HB.out⟩
 have h3 : decide (loF e i ≤ valV e i) = true := by simp; omega
 have h4 : decide (valV e i ≤ hiF i) = true := by simp; omega
 have HE2 := Lib.hid (show withinE e i = spF e i from by rw [HE.out, hok, h3, h4]; rfl)
 have hokk := hok
 clear HE h3 h4 hok hokk
 by_cases h5 : i = 2
 ·subst h5
  go_wp2
  go_quiet (fail)
  go_wp2
  go_ret
  refine ⟨ret_bool ?_, below_drewN HB.out _⟩
  rw [HE2.out]
  have := HO.out.cpu
  rw [show wrap64 e.cpu = e.cpu from by simp (disch := omega) only [IntWalk.wrap64_in]]
  rw [Bool.eq_iff_iff]
  simp [spF]
 by_cases h6 : i = 5
 ·subst h6
  have k0 := HO.out.cpu.1
  have k1 : e.cpu ≤ 64 := by have := HC.out; omega
  go_wp2
  go_ret
  refine ⟨ret_bool ?_, HB.out⟩
  rw [HE2.out]
  have hm := HO.out.mask
  have hv : valV e 5 = ((e.mask.toNat : Nat) : Int) := by simp only [valV, fieldV]; omega
  have hd : valV e 5 / 2 ^ e.cpu.toNat = ((e.mask.toNat / 2 ^ e.cpu.toNat : Nat) : Int) := by rw [hv, Int.natCast_ediv, Int.natCast_pow]; rfl
  have hle : e.mask.toNat / 2 ^ e.cpu.toNat ≤ e.mask.toNat := Nat.div_le_self _ _
  rw [hd, show (1 : Int) = ((1 : Nat) : Int) from rfl, bits_and_u64_nat _ _ (by omega) (by omega), Nat.and_one_is_mod]
  rw [Bool.eq_iff_iff]
  simp only [spF, beq_iff_eq, decide_eq_true_eq]
  omega
 have h5' : ((i : Int) == 2) = false := by simp; omega
 have h6' : ((i : Int) == 5) = false := by simp; omega
 go_wp2
 go_ret
 refine ⟨ret_bool ?_, HB.out⟩
 rw [HE2.out]
 unfold spF; split <;> first | rfl | contradiction
end Go.Proofs.YtalophngappkhaaGreatDoor
namespace Go.Proofs.YtalophngappkhaaGreatDoor
open Go.RowKit Go.Shelf
attribute [local go_sem] Oper.semAt_some

/-- An event by value. -/
def evA (e : Ev) : Value := .agg #[.int .i64 e.seq, .int .i64 e.time, .int .u8 e.cpu, .int .u8 e.kind, .int .i64 e.task, .int .i64 e.grp, .int .i64 e.to, .int .i64 e.wt, .int .i64 e.ticks, .int .u64 e.mask, .int .i64 e.got]
theorem usesZ_pos {n : Nat} (h1 : 1 ≤ n) (h2 : n ≤ 10) : 0 < (usesZ n).length ∧ (usesZ n).length ≤ 4 := by
 have : n = 1 ∨ n = 2 ∨ n = 3 ∨ n = 4 ∨ n = 5 ∨ n = 6 ∨ n = 7 ∨ n = 8 ∨ n = 9 ∨ n = 10 := by omega
 rcases this with rfl | rfl | rfl | rfl | rfl | rfl | rfl | rfl | rfl | rfl <;> simp [usesZ, usesK]
theorem usesK_lt {n j i : Nat} (h : (usesK n)[j]? = some i) : i < 7 := by
 have hm := List.mem_of_getElem? h
 unfold usesK at hm
 split at hm <;> simp at hm <;> omega

theorem evp_new (w : World) (e : Ev) : EvP (w.alloc (.cells #[.int .i64 e.seq, .int .i64 e.time, .int .u8 e.cpu, .int .u8 e.kind, .int .i64 e.task, .int .i64 e.grp, .int .i64 e.to, .int .i64 e.wt, .int .i64 e.ticks, .int .u64 e.mask, .int .i64 e.got] 28)) w.heap.size e := by
 intro j u hu
 rw [World.cell?_alloc_at (hn := by simp)]
 simpa [encE] using hu
theorem val_zero {e : Ev} (ho : EvOk e) {i : Nat} (h : valV e i = 0) : fieldV e i = 0 := by
 obtain ⟨⟨a1, a2⟩, ⟨a3, a4⟩, ⟨a5, a6⟩, ⟨a7, a8⟩, ⟨a9, a10⟩, ⟨a11, a12⟩, ⟨a13, a14⟩, ⟨a15, a16⟩, ⟨a17, a18⟩, ⟨a19, a20⟩, ⟨a21, a22⟩⟩ := ho
 have hb : -9223372036854775808 ≤ fieldV e i ∧ fieldV e i ≤ 18446744073709551615 := by unfold fieldV; split <;> omega
 unfold valV at h
 omega
theorem zero_val {e : Ev} {i : Nat} (h : fieldV e i = 0) : valV e i = 0 := by simp [valV, h]
theorem zs_contains (l : Nat) (j : Nat) : (usesZ l).contains (j : Int) = (usesK l).contains j := by
 rw [Bool.eq_iff_iff]
 simp [usesZ]
 constructor
 ·rintro ⟨a, h1, h2⟩
  obtain rfl : a = j := by omega
  exact h1
 ·exact fun h => ⟨j, h, rfl⟩
set_option maxHeartbeats 800000 in
theorem echeck_ok (w : World) (e : Ev) (ho : EvOk e) (hU : UsesAt w) :
  Calls Tryz.prog 94 #[evA e] w fun r w' => r = .returned (.int .i64 (chkEv e)) ∧ Below w.heap.size w w' := by
 have hkb := ho.kind
 have HO := Lib.hid ho
 clear ho
 have HA := Lib.hid (fun o => (Below.refl w.heap.size w).alloc (Nat.le_refl _) o)
 by_cases k0 : e.kind = 0
 ·unfold evA
  go_enter Tryz.func94, Tryz.ntmps94
  go_wp2
  go_ret
  exact ⟨ret_int (by rw [chkEv, if_pos (.inl k0)]), HA.out _⟩
 have k0' : (e.kind == 0) = false := by simp [k0]
 by_cases k1 : 10 < e.kind
 ·unfold evA
  go_enter Tryz.func94, Tryz.ntmps94
  go_wp2
  go_ret
  exact ⟨ret_int (by rw [chkEv, if_pos (.inr k1)]), HA.out _⟩
 have hn1 : 1 ≤ e.kind.toNat := by omega
 have hn2 : e.kind.toNat ≤ 10 := by omega
 have HK := Lib.hid (show ¬ (e.kind = 0 ∨ 10 < e.kind) from by omega)
 by_cases a1 : e.seq < 1
 ·unfold evA
  go_enter Tryz.func94, Tryz.ntmps94
  go_wp2
  go_ret
  exact ⟨ret_int (by rw [chkEv, if_neg HK.out, if_pos (.inl a1)]), HA.out _⟩
 by_cases a2 : 281474976710656 < e.seq
 ·unfold evA
  go_enter Tryz.func94, Tryz.ntmps94
  go_wp2
  go_ret
  exact ⟨ret_int (by rw [chkEv, if_neg HK.out, if_pos (.inr (.inl a2))]), HA.out _⟩
 by_cases a3 : e.time < 0
 ·unfold evA
  go_enter Tryz.func94, Tryz.ntmps94
  go_wp2
  go_ret
  exact ⟨ret_int (by rw [chkEv, if_neg HK.out, if_pos (.inr (.inr (.inl a3)))]), HA.out _⟩
 by_cases a4 : 281474976710656 < e.time
 ·unfold evA
  go_enter Tryz.func94, Tryz.ntmps94
  go_wp2
  go_ret
  exact ⟨ret_int (by rw [chkEv, if_neg HK.out, if_pos (.inr (.inr (.inr (.inl a4))))]), HA.out _⟩
 by_cases a5 : 64 ≤ e.cpu
 ·unfold evA
  go_enter Tryz.func94, Tryz.ntmps94
  go_wp2
  go_ret
  exact ⟨ret_int (by rw [chkEv, if_neg HK.out, if_pos (.inr (.inr (.inr (.inr a5))))]), HA.out _⟩
 have HB := Lib.hid (show ¬ (e.seq < 1 ∨ 281474976710656 < e.seq ∨ e.time < 0 ∨ 281474976710656 < e.time ∨ 64 ≤ e.cpu) from by omega)
 have hcpu : e.cpu < 64 := by omega
 obtain ⟨v, hc, hv⟩ := hU e.kind.toNat (by omega)
 have hpos := usesZ_pos hn1 hn2
 obtain ⟨b, off, c, rfl, hlc, hr⟩ := hv.row hpos.1
 have HC := Lib.hid (fun o => below_cell (HA.out o) hc)
 have hc2 := fun o => HC.out o
 have HW := Lib.hid (fun (w1 : World) (i : Nat) (h : EvP w1 w.heap.size e) (hi : i < 7) => within_ok w1 w.heap.size i e h HO.out hcpu hi)
 have HV := Lib.hid (fun (w1 : World) (i : Nat) (h : EvP w1 w.heap.size e) (hi : i < 7) => value_ok w1 w.heap.size i e h HO.out hi)
 have HR := Lib.hid hr
 have HP := Lib.hid (evp_new w e)
 have HU := Lib.hid hU
 have HCC := Lib.hid hc
 obtain ⟨L, hL⟩ : ∃ L, L = (usesZ e.kind.toNat).length := ⟨_, rfl⟩
 have HZ := Lib.hid hL
 rw [← hL] at hc2 hc hpos hlc
 clear hL hr hU hv hc
 unfold evA
 go_enter Tryz.func94, Tryz.ntmps94
 go_wp2
 clear hc2
 go_loopg [44] L (fun k i wr => ∃ j : Nat, j + k = L ∧ i = .int .i64 j ∧ (∀ q, q < j → ∀ x, (usesK e.kind.toNat)[q]? = some x → withinE e x = true) ∧ Below w.heap.size w wr ∧ EvP wr w.heap.size e)
 case atStart => exact ⟨0, by omega, rfl, fun q hq => by omega, HA.out _, HP.out⟩
 case round =>
  obtain ⟨j, hj, rfl, ha, hb, hp⟩ := hrel
  have HJ := Lib.hid hj
  have HAL := Lib.hid ha
  have HBW := Lib.hid hb
  have HPW := Lib.hid hp
  clear hj ha hb hp
  by_cases hlt : j < L
  ·obtain ⟨z, hz, hcz⟩ := (HR.out.below HBW.out).get1 (i := j) (by rw [← HZ.out]; exact hlt)
   obtain ⟨x, hx, rfl⟩ : ∃ x, (usesK e.kind.toNat)[j]? = some x ∧ (x : Int) = z := by
    unfold usesZ at hz
    rw [List.getElem?_map] at hz
    obtain ⟨x, hx, rfl⟩ := Option.map_eq_some_iff.1 hz
    exact ⟨x, hx, rfl⟩
   have HX := Lib.hid hx
   clear hz hx
   go_wp2_with fail
   refine (HW.out wr x HPW.out (usesK_lt HX.out)).mono ?_
   rintro r w1 ⟨rfl, hb1⟩
   have HB1 := Lib.hid (HBW.out.trans (hb1.mono (Nat.le_of_lt HPW.out.lt)))
   have HP1 := Lib.hid (HPW.out.below hb1 HPW.out.lt)
   clear hb1 hcz
   cases hw : withinE e x with
   | false =>
    go_wp2
    go_ret
    refine ⟨ret_int ?_, HB1.out⟩
    rw [chkEv, if_neg HK.out, if_neg HB.out, if_pos]
    rw [List.all_eq_false]
    exact ⟨x, List.mem_of_getElem? HX.out, by rw [hw]; simp⟩
   | true =>
    have HWW := Lib.hid hw
    clear hw
    go_wp2
    go_roundg (gk - 1)
    case measure => have := HJ.out; omega
    case rel =>
     refine ⟨j + 1, by have := HJ.out; omega, by go_num, fun q hq y hy => ?_, HB1.out, HP1.out⟩
     rcases Nat.lt_or_ge q j with h | h
     ·exact HAL.out q h y hy
     ·obtain rfl : q = j := by omega
      rw [HX.out] at hy
      cases hy
      exact HWW.out
  ·obtain rfl : L = j := by have := HJ.out; omega
   have hall : (usesK e.kind.toNat).all (withinE e) = true := by
    rw [List.all_eq_true]
    intro x hx
    obtain ⟨q, hq, hqx⟩ := List.getElem_of_mem hx
    exact HAL.out q (by rw [HZ.out, usesZ, List.length_map]; exact hq) x (by rw [List.getElem?_eq_getElem hq, hqx])
   have HALL := Lib.hid hall
   clear hall
   clear hlt
   go_wp2
   clear HAL HJ
   go_loopg [52] 7 (fun k i wr => ∃ j : Nat, j + k = 7 ∧ i = .int .i64 j ∧ (∀ q, q < j → fieldV e q ≠ 0 → (usesK e.kind.toNat).contains q = true) ∧ Below w.heap.size w wr ∧ EvP wr w.heap.size e)
   case atStart => exact ⟨0, by omega, rfl, fun q hq => by omega, HBW.out, HPW.out⟩
   clear HBW HPW
   case round =>
    obtain ⟨j, hj, rfl, ha, hb, hp⟩ := hrel
    have HJ := Lib.hid hj
    have HAL := Lib.hid ha
    have HBW := Lib.hid hb
    have HPW := Lib.hid hp
    clear hj ha hb hp
    by_cases hlt : j < 7
    ·have hlt' : (j : Int) < 7 := by omega
     go_wp2_with fail
     refine (HV.out _ j HPW.out hlt).mono ?_
     rintro r w1 ⟨rfl, hb1⟩
     have HB1 := Lib.hid (HBW.out.trans (hb1.mono (Nat.le_of_lt HPW.out.lt)))
     have HP1 := Lib.hid (HPW.out.below hb1 HPW.out.lt)
     clear hb1
     by_cases h0 : valV e j = 0
     ·have h0' : (valV e j != 0) = false := by simp [h0]
      have hf := Lib.hid (show fieldV e j = 0 from val_zero HO.out h0)
      go_wp2
      go_roundg (gk - 1)
      case measure => have := HJ.out; omega
      case rel =>
       refine ⟨j + 1, by have := HJ.out; omega, by go_num, fun q hq hy => ?_, HB1.out, HP1.out⟩
       rcases Nat.lt_or_ge q j with h | h
       ·exact HAL.out q h hy
       ·obtain rfl : q = j := by omega
        exact absurd hf.out hy
     ·have h0' : (valV e j != 0) = true := by simp [h0]
      have hcz := below_cell HB1.out HCC.out
      rw [← HZ.out] at hcz
      have hc3 := HP1.out.c3
      go_wp2_with fail
      refine (contains_int w1 (.slice (some ⟨b, off, none⟩) L c) (usesZ e.kind.toNat) (j : Int) (by rw [HZ.out]; exact EV.mk (HR.out.below HB1.out) (by rw [← HZ.out]; exact hlc)) (by rw [← HZ.out]; omega)).mono ?_
      rintro r w2 ⟨rfl, rfl⟩
      rw [zs_contains]
      cases hcn : (usesK e.kind.toNat).contains j with
      | false =>
       go_wp2
       go_ret
       refine ⟨ret_int ?_, HB1.out⟩
       rw [chkEv, if_neg HK.out, if_neg HB.out, if_neg (by rw [HALL.out]; simp), if_pos]
       rw [List.any_eq_true]
       exact ⟨j, List.mem_range.2 hlt, by rw [hcn]; simp; exact fun h => h0 (zero_val h)⟩
      | true =>
       have HCN := Lib.hid hcn
       clear hcn
       go_wp2
       go_roundg (gk - 1)
       case measure => have := HJ.out; omega
       case rel =>
        refine ⟨j + 1, by have := HJ.out; omega, by go_num, fun q hq hy => ?_, HB1.out, HP1.out⟩
        rcases Nat.lt_or_ge q j with h | h
        ·exact HAL.out q h hy
        ·obtain rfl : q = j := by omega
         exact HCN.out
    ·obtain rfl : j = 7 := by have := HJ.out; omega
     go_wp2
     go_ret
     refine ⟨ret_int ?_, HBW.out⟩
     rw [chkEv, if_neg HK.out, if_neg HB.out, if_neg (by rw [HALL.out]; simp), if_neg]
     rw [List.any_eq_true]
     rintro ⟨x, hx, hy⟩
     simp at hy
     have := HAL.out x (List.mem_range.1 hx) hy.1
     simp at this
     exact hy.2 this
end Go.Proofs.YtalophngappkhaaGreatDoor

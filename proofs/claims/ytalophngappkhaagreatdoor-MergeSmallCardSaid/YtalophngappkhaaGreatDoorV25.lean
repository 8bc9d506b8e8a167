/- quantumlaw12.Trace: the walk | quantumlaw12.Cut: what its walk keeps | slices.Concat, slices.Clone at blocks | The contract of slices.Reverse at a slice of structs, laid by the kit's tool: that the program holds the text of the library | slices.Reverse at blocks; quantumlaw12.turned | quantumlaw12.turned | Maps whose count of entries is known | quantumlaw12.numbers | slices.Contains at events | MergeAfter, in plain words | MergeAfter: what is asked at the end | merge.Blocks at blocks of a cut trace | quantumlaw12.theirs: events for the reference | The first number of what is common, for quantumref12.First | slices.Equal at the reference's events and runs. -/
import Derived.Test.YtalophngappkhaaGreatDoorV3
import Derived.Test.YtalophngappkhaaGreatDoorV24
import Derived.Deep.DeepCutAuto
import Derived.Test.YtalophngappkhaaGreatDoorV22
import Derived.Test.YtalophngappkhaaGreatDoorV14
import Derived.Lib.AppendZerosOnto
import Derived.Deep.CutBlock
import Derived.Shelf.SlGeneric
import Derived.Shelf.SlicesQ.Reverse
import Derived.Ground.SlgnProg
import Derived.Test.YtalophngappkhaaGreatDoorRows
import Derived.Test.YtalophngappkhaaGreatDoorV4
import Derived.StillTailTactics
import Derived.Maps.Views
import Derived.Test.YtalophngappkhaaGreatDoorV9
set_option linter.unusedVariables false
set_option linter.unusedSimpArgs false
set_option linter.unusedSectionVars false
namespace Go.Proofs.YtalophngappkhaaGreatDoor
open Go Go.RowKit Go.Shelf
attribute [local go_sem] Oper.semAt_some

end Go.Proofs.YtalophngappkhaaGreatDoor
namespace Go.Proofs.YtalophngappkhaaGreatDoor
open Go Go.RowKit Go.Shelf

/-- A slice as three numbers. -/
abbrev Sl3 := Option Addr × Nat × Nat
def slV (x : Sl3) : Value := .slice x.1 x.2.1 x.2.2
/-- Blocks whose events are slices. -/
def encSb (x : Sl3 × Bck) : List Value := [.int .u8 x.2.kind, .int .u8 x.2.cpu, .int .i64 x.2.lost, .int .i64 x.2.next, slV x.1]
theorem encSb_len (x : Sl3 × Bck) : (encSb x).length = 5 := rfl
theorem encSb_one : ∀ x, ∀ u ∈ encSb x, u.oneCell' = true := by
 intro x u hu
 simp only [encSb, slV, List.mem_cons, List.not_mem_nil, or_false] at hu
 rcases hu with rfl | rfl | rfl | rfl | rfl <;> rfl
def sbV (x : Sl3 × Bck) : Value × Bck := (slV x.1, x.2)
theorem EV.sb {w : World} {v : Value} {xs : List (Sl3 × Bck)} (h : EV encSb 5 w v xs) : EV encBk 5 w v (xs.map sbV) := EV.recode h (by rw [List.map_map]; rfl)
theorem sb_snd (xs : List (Sl3 × Bck)) : (xs.map sbV).map Prod.snd = xs.map Prod.snd := by rw [List.map_map]; rfl
end Go.Proofs.YtalophngappkhaaGreatDoor
namespace Go.Proofs.YtalophngappkhaaGreatDoor
open Go Go.RowKit Go.Shelf
attribute [local go_sem] Oper.semAt_some
set_option maxHeartbeats 400000 in
theorem clone_ev (w : World) (v1 : Value) (xs : List (Ev)) (h1 : EV encE 11 w v1 xs) (b1 : xs.length ≤ 1000000000) :
  Calls Tryz.prog 27 #[v1] w fun e w' => ∃ v, e = .returned v ∧ OV encE 11 28 w.heap.size w' v xs ∧ Below w.heap.size w w' := by
 obtain ⟨A, c, rfl⟩ := h1.shape
 have H1 := Lib.hid h1
 clear h1
 have heq : ∀ (w : World) (a : Option Addr) (n c n' c' : Nat), (binOp .eql 22 (.slice a n c) (.slice none n' c')).run Tryz.prog w = .ok (.bool a.isNone) w := fun w a n c n' c' => Lib.run_eql_slice_nil w _ _ a n c n' c' Tryz.underlying22
 cases A with
 | none =>
  obtain rfl : xs = [] := by
   rcases H1.out with ⟨h, _⟩ | ⟨_, b, off, c', h, _⟩
   ·exact h
   ·cases h
  clear H1 b1
  go_enter Tryz.func27, Tryz.ntmps27
  go_wp2
  go_ret
  exact ⟨_, rfl, OV.nil _ _, Below.refl _ _⟩
 | some ad =>
  go_enter Tryz.func27, Tryz.ntmps27
  go_wp2_with (at_builtin; refine wpList_app elemE encE_len encE_one rfl _ _ rfl _ _ rfl rfl (OV.made w 0 #[] (Nat.le_refl _) (Nat.zero_le _) rfl) (H1.out.keep fun p u hc => ?qc) ?qn ?qb ?_)
  case qc => exact (World.cell?_alloc_lt w _ p (cell_lt hc)).trans hc
  case qn => simpa using b1
  case qb => simp
  intro v' w1 hown hgrow
  go_wp2
  go_ret
  refine ⟨v', rfl, by simpa using hown, ((Below.refl _ w).alloc (Nat.le_refl _) _).grown hgrow (by simp) (by intro k hk; simp [Value.ownBlock] at hk; omega)⟩

end Go.Proofs.YtalophngappkhaaGreatDoor
namespace Go.Proofs
open Go.Shelf
end Go.Proofs
namespace Go.Proofs.YtalophngappkhaaGreatDoor
open Go Go.RowKit Go.Shelf Go.Sort
attribute [local go_sem] Oper.semAt_some

instance : Inhabited Bck := ⟨⟨0, 0, 0, 0, []⟩⟩
end Go.Proofs.YtalophngappkhaaGreatDoor
namespace Go.Proofs.YtalophngappkhaaGreatDoor
open Go Go.RowKit Go.Shelf
attribute [local go_sem] Oper.semAt_some

end Go.Proofs.YtalophngappkhaaGreatDoor
namespace Go.Proofs.YtalophngappkhaaGreatDoor
open Go Go.RowKit Go.Maps

section
variable {P : Program} {k e t : TypeId} {w w' : World} {b c : Nat} {F : Lit → Option Value}
variable {ops : Array Oper} {rest : List Oper} {o : Oper} {a : Act} {Q : Exit → Act → World → Prop}
end
end Go.Proofs.YtalophngappkhaaGreatDoor
namespace Go.Proofs.YtalophngappkhaaGreatDoor
open Go Go.RowKit Go.Shelf
attribute [local go_sem] Oper.semAt_some

end Go.Proofs.YtalophngappkhaaGreatDoor
namespace Go.Proofs.YtalophngappkhaaGreatDoor
open Go Go.RowKit Go.Shelf
attribute [local go_sem] Oper.semAt_some
end Go.Proofs.YtalophngappkhaaGreatDoor
namespace Go.Proofs.YtalophngappkhaaGreatDoor
open Go Go.RowKit Go.Shelf

theorem frsG_spec {next fr : Int} : ∀ {l : List (Int × Int)} {lo : Int}, Can lo l →
  (∀ n, frsG l next fr = some n → hasR l n = true ∧ fr ≤ n ∧ n < next ∧ ∀ k, fr ≤ k → k < n → hasR l k = false) ∧ (frsG l next fr = none → ∀ k, fr ≤ k → k < next → hasR l k = false)
 | [], lo, _ => ⟨fun n h => (by cases h), fun _ k _ _ => rfl⟩
 | r :: l, lo, hc => by
  obtain ⟨_, hr, hl⟩ := can_cons.1 hc
  obtain ⟨i1, i2⟩ := frsG_spec (next := next) (fr := fr) hl
  have hk := rok_iff.1 hr
  have hnx : nxt r = r.1 + r.2 := rfl
  unfold frsG
  by_cases h : max r.1 fr < r.1 + r.2 ∧ max r.1 fr < next
  ·rw [if_pos h]
   refine ⟨fun n hn => ?_, fun hn => (by cases hn)⟩
   simp only [Option.some.injEq] at hn
   refine ⟨?_, by omega, by omega, fun k h1 h2 => has_head hc (by omega)⟩
   rw [hasR_cons, decide_eq_true (by omega), Bool.true_or]
  ·rw [if_neg h]
   have hn : ∀ k, fr ≤ k → k < next → decide (r.1 ≤ k ∧ k < nxt r) = false := fun k h1 h2 => by
    rw [decide_eq_false_iff_not]; omega
   refine ⟨fun n hf => ?_, fun hf k h1 h2 => ?_⟩
   ·obtain ⟨a1, a2, a3, a4⟩ := i1 n hf
    refine ⟨by rw [hasR_cons, a1, Bool.or_true], a2, a3, fun k h1 h2 => ?_⟩
    rw [hasR_cons, hn k h1 (by omega), a4 k h1 h2]; rfl
   ·rw [hasR_cons, hn k h1 h2, i2 hf k h1 h2]; rfl
end Go.Proofs.YtalophngappkhaaGreatDoor
namespace Go.Proofs.YtalophngappkhaaGreatDoor
open Go Go.RowKit Go.Shelf
attribute [local go_sem] Oper.semAt_some

end Go.Proofs.YtalophngappkhaaGreatDoor
namespace Go.Proofs.YtalophngappkhaaGreatDoor
open Go Go.RowKit Go.Shelf

theorem BksS.of_sb {w : World} {v : Value} {L : List (Sl3 × Bck)} (hv : EV encSb 5 w v L) (he : ∀ x ∈ L, EV encE 11 w (slV x.1) x.2.evs) : BksS w v (L.map sbV) :=
 ⟨hv.sb, fun x hx => by
  obtain ⟨y, hy, rfl⟩ := List.mem_map.1 hx
  exact he y hy⟩
end Go.Proofs.YtalophngappkhaaGreatDoor
namespace Go.Proofs.YtalophngappkhaaGreatDoor
open Go Go.RowKit Go.Shelf
attribute [local go_sem] Oper.semAt_some
theorem elemREv : ElemT Tryz.prog 85 96 11 80 := ⟨Tryz.underlying85, by
 have h : (Tryz.prog.info? 96).map (fun i => (i.zero, i.size, i.bytes)) = some (some (.agg #[.int .i64 0, .int .i64 0, .int .u8 0, .int .u8 0, .int .i64 0, .int .i64 0, .int .i64 0, .int .i64 0, .int .i64 0, .int .u64 0, .int .i64 0]), 11, 80) := by kernel_rfl
 obtain ⟨i, h1, h2, h3, h4⟩ := info_parts h
 exact ⟨i, _, h1, h2, h3, h4, rfl⟩, by omega, by omega⟩
set_option maxRecDepth 100000 in
set_option maxHeartbeats 3200000 in
theorem theirs_ok (w : World) (v : Value) (l : List Ev) (hv : EV encE 11 w v l) (hl : l.length ≤ 1000000) :
  Calls Tryz.prog 47 #[v] w fun r w' => ∃ v', r = .returned v' ∧ OV encE 11 96 w.heap.size w' v' l ∧ Below w.heap.size w w' := by
 obtain ⟨A, c, hA⟩ := hv.shape
 subst hA
 obtain ⟨n, hn⟩ : ∃ n, l.length = n := ⟨_, rfl⟩
 rw [hn] at hv ⊢
 have HV := Lib.hid hv
 have HL := Lib.hid (show l.length = n ∧ n ≤ 1000000 by omega)
 clear hv hn
 go_enter Tryz.func47, Tryz.ntmps47
 go_wp2
 go_loopg [3, 8] n (fun k vo i wr => ∃ j : Nat, j + k = n ∧ i = .int .i64 j ∧ OV encE 11 96 w.heap.size wr vo (l.take j) ∧ Below w.heap.size w wr)
 case atStart => exact ⟨0, by omega, rfl, OV.nil _ _, Below.refl _ _⟩
 case round =>
  obtain ⟨j, hj, rfl, ho, hb⟩ := hrel
  have HJ := Lib.hid hj
  have HO := Lib.hid ho
  have HBR := Lib.hid hb
  have hn6 := HL.out.2
  clear hj ho hb
  by_cases hlt : j < n
  ·obtain ⟨b, off, c', hsl, hcc, hr⟩ := (HV.out.below HBR.out).row (by rw [HL.out.1]; omega)
   rw [HL.out.1] at hsl
   simp only [Value.slice.injEq, true_and] at hsl
   obtain ⟨hs1, hs2⟩ := hsl
   have HSL := Lib.hid hs1
   have HSC := Lib.hid hs2
   rw [hs1, hs2]
   rw [HL.out.1] at hcc
   obtain ⟨e, hev⟩ : ∃ e, l[j]? = some e := ⟨_, List.getElem?_eq_getElem (by rw [HL.out.1]; exact hlt)⟩
   obtain ⟨g0, g1, g2, g3, g4, g5, g6, g7, g8, g9, g10⟩ := hr.ev hev
   have HTK := Lib.hid (show l.take (j + 1) = l.take j ++ [e] from by rw [List.take_add_one, hev]; rfl)
   have HLJ := Lib.hid (show (l.take j).length ≤ 1000000 by rw [List.length_take]; have := HL.out; omega)
   have HEV := Lib.hid (evp_new wr e)
   have HA := Lib.hid (bel_alloc wr (.cells #[.int .i64 e.seq, .int .i64 e.time, .int .u8 e.cpu, .int .u8 e.kind, .int .i64 e.task, .int .i64 e.grp, .int .i64 e.to, .int .i64 e.wt, .int .i64 e.ticks, .int .u64 e.mask, .int .i64 e.got] 28))
   clear hr hev hs1 hs2
   go_upto_region 5 with fail
   have h1 := HEV.out
   clear HEV g0 g1 g2 g3 g4 g5 g6 g7 g8 g9 g10
   generalize wr.alloc (.cells #[.int .i64 e.seq, .int .i64 e.time, .int .u8 e.cpu, .int .u8 e.kind, .int .i64 e.task, .int .i64 e.grp, .int .i64 e.to, .int .i64 e.wt, .int .i64 e.ticks, .int .u64 e.mask, .int .i64 e.got] 28) = wb at h1 HA ⊢
   generalize wr.heap.size = B at h1 ⊢
   have HB3 := Lib.hid (bstep HBR.out HA.out)
   have HO3 := Lib.hid (HO.out.below HA.out)
   have e0 := h1.c0
   have e1 := h1.c1
   have e2 := h1.c2
   have e3 := h1.c3
   have e4 := h1.c4
   have e5 := h1.c5
   have e6 := h1.c6
   have e7 := h1.c7
   have e8 := h1.c8
   have e9 := h1.c9
   have e10 := h1.c10
   clear h1 HBR HO HA
   go_wp2_with (at_builtin; refine wpList_app elemREv encE_len encE_one rfl _ _ rfl _ _ rfl rfl (HO3.out.alloc _) (EV.newL (xs := [e]) (n := 1) (c := 1) encE_len rfl rfl (Nat.le_refl _)) ?q1 ?q2 ?_)
   case q1 => have := HLJ.out; simp; omega
   case q2 => have := HB3.out.size; simp; omega
   intro v' w8 o8 g8
   have hal := bel_alloc wb (.cells #[.int .i64 e.seq, .int .i64 e.time, .int .u8 e.cpu, .int .u8 e.kind, .int .i64 e.task, .int .i64 e.grp, .int .i64 e.to, .int .i64 e.wt, .int .i64 e.ticks, .int .u64 e.mask, .int .i64 e.got] 96)
   have HO8 := Lib.hid o8
   have HB8 := Lib.hid ((bstep HB3.out hal).grown g8 (bstep HB3.out hal).size (fun g q => (HO3.out.block g q).1))
   clear o8 g8 hal e0 e1 e2 e3 e4 e5 e6 e7 e8 e9 e10
   go_wp2
   rw [← HSL.out, ← HSC.out]
   go_roundg (n - (j + 1))
   case measure => have := HJ.out; omega
   case rel => exact ⟨j + 1, by have := HJ.out; omega, by go_num, by rw [HTK.out]; exact HO8.out, HB8.out⟩
  ·obtain rfl : n = j := by have := HJ.out; omega
   have HTA := Lib.hid (show l.take n = l from List.take_of_length_le (Nat.le_of_eq HL.out.1))
   go_wp2
   go_ret
   exact ⟨_, rfl, by rw [← HTA.out]; exact HO.out, HBR.out⟩
end Go.Proofs.YtalophngappkhaaGreatDoor
namespace Go.Proofs.YtalophngappkhaaGreatDoor
open Go Go.RowKit Go.Shelf

theorem can_one {f n : Int} (h1 : 1 ≤ f) (h2 : f < n) (h3 : n ≤ 281474976710657) : Can 0 [(f, n - f)] := can_cons.2 ⟨show (0 : Int) < f by omega, rok_iff.2 ⟨h1, show f ≤ _ by omega, show 1 ≤ n - f by omega, show n - f ≤ 281474976710657 - f by omega⟩, can_nil _⟩
theorem has_one {f n k : Int} : hasR [(f, n - f)] k = decide (f ≤ k ∧ k < n) := by
 rw [hasR_cons, hasR_nil, Bool.or_false]
 show decide (f ≤ k ∧ k < f + (n - f)) = _
 rw [show f + (n - f) = n by omega]
theorem first_both {t : Bool → Bool → Bool} (ht : ∀ x y, t x y = (x && y)) {G : List (Int × Int)} {next fr : Int} (hc : Can 0 G) (h1 : 1 ≤ fr) (h2 : fr < next) (h3 : next ≤ 281474976710657) :
  (frsG G next fr = none → bothL t G [(fr, next - fr)] = []) ∧ ∀ n, frsG G next fr = some n → ∃ c l, bothL t G [(fr, next - fr)] = (n, c) :: l := by
 obtain ⟨i1, i2⟩ := frsG_spec (next := next) (fr := fr) hc
 obtain ⟨j1, j2⟩ := both_spec (take := t) (by rw [ht]; rfl) hc (can_one h1 h2 h3)
 have j3 : ∀ k, hasR (bothL t G [(fr, next - fr)]) k = (hasR G k && decide (fr ≤ k ∧ k < next)) := fun k => by rw [j2, ht, has_one]
 generalize bothL t G [(fr, next - fr)] = C at j1 j2 j3 ⊢
 constructor
 ·intro hn
  rcases C with _ | ⟨r, l⟩
  ·rfl
  ·obtain ⟨_, hr, _⟩ := can_cons.1 j1
   have hk := rok_iff.1 hr
   have hh : hasR (r :: l) r.1 = true := by rw [hasR_cons, decide_eq_true (show r.1 ≤ r.1 ∧ r.1 < nxt r from ⟨Int.le_refl _, show r.1 < r.1 + r.2 by omega⟩)]; rfl
   rw [j3, Bool.and_eq_true, decide_eq_true_eq] at hh
   rw [i2 hn r.1 hh.2.1 hh.2.2] at hh
   exact absurd hh.1 (by simp)
 ·intro n hn
  obtain ⟨a, b, c, d⟩ := i1 n hn
  have hh : hasR C n = true := by rw [j3, a, decide_eq_true ⟨b, c⟩]; rfl
  rcases C with _ | ⟨r, l⟩
  ·cases hh
  ·obtain ⟨_, hr, _⟩ := can_cons.1 j1
   have hk := rok_iff.1 hr
   have hle : r.1 ≤ n := by
    rcases (show n < r.1 ∨ r.1 ≤ n by omega) with h | h
    ·rw [has_head j1 h] at hh; cases hh
    ·exact h
   have h5 : hasR (r :: l) r.1 = true := by rw [hasR_cons, decide_eq_true (show r.1 ≤ r.1 ∧ r.1 < nxt r from ⟨Int.le_refl _, show r.1 < r.1 + r.2 by omega⟩)]; rfl
   rw [j3, Bool.and_eq_true, decide_eq_true_eq] at h5
   have hge : n ≤ r.1 := by
    rcases (show r.1 < n ∨ n ≤ r.1 by omega) with h | h
    ·have := d r.1 h5.2.1 h
     rw [this] at h5
     exact absurd h5.1 (by simp)
    ·exact h
   have : r.1 = n := by omega
   subst this
   exact ⟨r.2, l, rfl⟩
end Go.Proofs.YtalophngappkhaaGreatDoor
namespace Go.Proofs.YtalophngappkhaaGreatDoor
open Go Go.RowKit Go.Shelf
attribute [local go_sem] Oper.semAt_some
set_option maxHeartbeats 1000000 in
theorem equal_rrun (w : World) (v1 v2 : Value) (xs ys : List (Int × Int)) (h1 : EV encP 2 w v1 xs) (h2 : EV encP 2 w v2 ys) (b1 : xs.length ≤ 1000000000) (b2 : ys.length ≤ 1000000000) :
  Calls Tryz.prog 77 #[v1, v2] w fun e w' => e = .returned (.bool (xs == ys)) ∧ ∃ n, w.drewN n = w' := by
 by_cases hl : xs.length = ys.length
 ·rcases Nat.eq_zero_or_pos xs.length with h0 | h0
  ·obtain rfl : xs = [] := List.eq_nil_of_length_eq_zero h0
   obtain rfl : ys = [] := List.eq_nil_of_length_eq_zero (by simpa using hl.symm)
   obtain ⟨A, c, rfl⟩ := h1.shape
   obtain ⟨A', c', rfl⟩ := h2.shape
   clear h1 h2 hl h0 b1 b2
   go_enter Tryz.func77, Tryz.ntmps77
   go_wp2
   refine wp_loop_rounds 1 ?_
   rw [rounds_succ]
   go_wp2
   go_ret
   exact ⟨rfl, 0, rfl⟩
  ·obtain ⟨b, off, c, rfl, hc, r1⟩ := h1.row h0
   obtain ⟨b', off', c', rfl, hc', r2⟩ := h2.row (hl ▸ h0)
   rw [← hl]
   have R1 := Lib.hid r1; have R2 := Lib.hid r2; have HL := Lib.hid hl
   clear r1 r2 hl h1 h2
   go_enter Tryz.func77, Tryz.ntmps77
   go_wp2
   go_loopg [13] xs.length (fun k i wr => ∃ j : Nat, j + k = xs.length ∧ i = .int .i64 j ∧ (∃ n, w.drewN n = wr) ∧ xs.take j = ys.take j)
   case atStart => exact ⟨0, by omega, rfl, ⟨0, rfl⟩, rfl⟩
   case round =>
    obtain ⟨j, hj, rfl, ⟨n, rfl⟩, ht⟩ := hrel
    have HT := Lib.hid ht
    have HJ := Lib.hid hj
    clear ht hj
    by_cases hlt : j < xs.length
    ·obtain ⟨⟨p, q⟩, hx⟩ : ∃ x, xs[j]? = some x := ⟨_, List.getElem?_eq_getElem hlt⟩
     obtain ⟨⟨p', q'⟩, hy⟩ : ∃ x, ys[j]? = some x := ⟨_, List.getElem?_eq_getElem (HL.out ▸ hlt)⟩
     obtain ⟨c1, c2⟩ := R1.out.prs hx
     obtain ⟨d1, d2⟩ := R2.out.prs hy
     dsimp only at c1 c2 d1 d2
     have HX := Lib.hid hx
     have HY := Lib.hid hy
     clear hx hy
     by_cases he : p = p'
     ·subst he
      by_cases he : q = q'
      ·subst he
       go_wp2
       go_quiet (fail)
       go_wp2
       go_roundg (gk - 1)
       case measure => have := HJ.out; omega
       case rel => exact ⟨j + 1, by have := HJ.out; omega, by go_num, (by first | exact ⟨_, rfl⟩ | exact dn2 _ _ _), take_eq_step' HT.out HX.out HY.out⟩
      ·have hne : (q == q') = false := by simp [he]
       have HE := Lib.hid he
       clear he
       go_wp2
       go_quiet (fail)
       go_wp2
       go_ret
       exact ⟨ret_bool (beq_ne_of_get HX.out HY.out (fun e => HE.out (by injection e))).symm, (by first | exact ⟨_, rfl⟩ | exact dn2 _ _ _)⟩
     ·have hne : (p == p') = false := by simp [he]
      have HE := Lib.hid he
      clear he
      go_wp2
      go_quiet (fail)
      go_wp2
      go_ret
      exact ⟨ret_bool (beq_ne_of_get HX.out HY.out (fun e => HE.out (by injection e))).symm, (by first | exact ⟨_, rfl⟩ | exact dn2 _ _ _)⟩
    ·have hj : j = xs.length := by have := HJ.out; omega
     have e : (xs == ys) = true := by
      have := HT.out
      rw [List.take_of_length_le (by omega), List.take_of_length_le (by have := HL.out; omega)] at this
      simp [this]
     have E := Lib.hid e
     clear e hj
     go_wp2
     go_ret
     exact ⟨ret_bool E.out.symm, n, rfl⟩
 ·obtain ⟨A, c, rfl⟩ := h1.shape
  obtain ⟨A', c', rfl⟩ := h2.shape
  have hne : ((xs.length : Int) != ys.length) = true := by simp; omega
  have e : (xs == ys) = false := by simp; rintro rfl; exact hl rfl
  have E := Lib.hid e
  clear h1 h2 e hl
  go_enter Tryz.func77, Tryz.ntmps77
  go_wp2
  go_ret
  exact ⟨ret_bool E.out.symm, 0, rfl⟩
theorem equal_rrun_same (w : World) (r1 r2 : Value) (xs : List (Int × Int)) (h1 : EV encP 2 w r1 xs) (h2 : EV encP 2 w r2 xs) (b : xs.length ≤ 1000000000) :
  Calls Tryz.prog 77 #[r1, r2] w fun e w' => e = .returned (.bool true) ∧ Below w.heap.size w w' := by
 refine (equal_rrun w r1 r2 xs xs h1 h2 b b).mono ?_
 rintro e w' ⟨rfl, q, rfl⟩
 exact ⟨by simp, below_drewN (Below.refl _ _) _⟩
set_option maxHeartbeats 1600000 in
theorem eq_rev (w : World) (v1 v2 : Value) (xs : List (Ev)) (h1 : EV encE 11 w v1 xs) (h2 : EV encE 11 w v2 xs) (b1 : xs.length ≤ 17592186044416) :
  Calls Tryz.prog 46 #[v1, v2] w fun e w' => e = .returned (.bool true) ∧ Below w.heap.size w w' := by
 rcases Nat.eq_zero_or_pos xs.length with h0 | h0
 ·obtain rfl : xs = [] := List.eq_nil_of_length_eq_zero h0
  obtain ⟨A, c, rfl⟩ := h1.shape
  obtain ⟨A', c', rfl⟩ := h2.shape
  clear h1 h2 h0 b1
  go_enter Tryz.func46, Tryz.ntmps46
  go_wp2
  refine wp_loop_rounds 1 ?_
  rw [rounds_succ]
  go_wp2
  go_ret
  exact ⟨rfl, Below.refl _ _⟩
 ·obtain ⟨b, off, c, rfl, hc, r1⟩ := h1.row h0
  obtain ⟨b', off', c', rfl, hc', r2⟩ := h2.row h0
  have R1 := Lib.hid r1; have R2 := Lib.hid r2
  obtain ⟨L, hL⟩ : ∃ L, xs.length = L := ⟨_, rfl⟩
  have HL := Lib.hid hL
  rw [hL] at b1 hc hc' ⊢
  clear r1 r2 h1 h2 h0 hL
  go_enter Tryz.func46, Tryz.ntmps46
  go_wp2
  go_loopg [13] L (fun k i wr => ∃ j : Nat, j + k = L ∧ i = .int .i64 j ∧ (∃ n, w.drewN n = wr))
  case atStart => exact ⟨0, by omega, rfl, ⟨0, rfl⟩⟩
  case round =>
   obtain ⟨j, hj, rfl, ⟨n, rfl⟩⟩ := hrel
   have HJ := Lib.hid hj
   clear hj
   by_cases hlt : j < L
   ·obtain ⟨x, hx⟩ : ∃ x, xs[j]? = some x := ⟨_, List.getElem?_eq_getElem (by rw [HL.out]; exact hlt)⟩
    obtain ⟨c0, c1, c2, c3, c4, c5, c6, c7, c8, c9, c10⟩ := R1.out.ev hx; obtain ⟨d0, d1, d2, d3, d4, d5, d6, d7, d8, d9, d10⟩ := R2.out.ev hx
    clear hx
    go_wp2
    go_quiet (fail)
    go_wp2
    go_roundg (gk - 1)
    case measure => have := HJ.out; omega
    case rel => exact ⟨j + 1, by have := HJ.out; omega, by go_num, (by first | exact ⟨_, rfl⟩ | exact dn2 _ _ _)⟩
   ·go_wp2
    go_ret
    exact ⟨rfl, below_drewN (Below.refl _ _) _⟩
end Go.Proofs.YtalophngappkhaaGreatDoor

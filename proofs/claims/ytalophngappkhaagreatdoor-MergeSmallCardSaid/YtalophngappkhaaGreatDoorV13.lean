/- codec.Write: the walk. -/
import Derived.Test.YtalophngappkhaaGreatDoorV8
set_option linter.unusedVariables false
set_option linter.unusedSimpArgs false
set_option linter.unusedSectionVars false
namespace Go.Proofs.YtalophngappkhaaGreatDoor
open Go.RowKit Go.Shelf
attribute [local go_sem] Oper.semAt_some

/-- What is known within the region that appends a record and moves the base. -/
structure WS (w : World) (X B : Nat) (e : Ev) (s t : Int) (R R' rec : List Nat) (v8 v11 : Value) (d2 d4 d5 d6 : Bool) (x2 x4 x5 : Value) (W : World) : Prop where
 bel : Below w.heap.size w W
 ev : EvP W B e
 o8 : d2 = false → OV encB 1 5 (X + 1) W v8 R
 o11 : d2 = false → OV encB 1 5 (X + 1) W v11 rec
 o2 : d2 = true → OV encB 1 5 (X + 1) W x2 R'
 e4 : d4 = true → x4 = baseA e.seq e.time
 e5 : d5 = true → x5 = x2
 n5 : d5 = false → x5 = v8
 bx : BsBox W X (match d6 with | true => e.seq | false => s) (match d6 with | true => e.time | false => t)
section
variable {w W : World} {X B : Nat} {e : Ev} {s t : Int} {R R' rec : List Nat} {v8 v11 : Value} {d2 d4 d5 d6 : Bool} {x2 x4 x5 : Value}
theorem EvP.grown {row : Option Nat} {W' : World} (h : EvP W B e) (hg : W.grownBy W' row) (hr : row ≠ some B) : EvP W' B e :=
 fun q u hu => (World.cell?_of_block (a := ⟨B, q, none⟩) (hg.block B h.lt (fun e => hr e.symm))).trans (h q u hu)
theorem EvP.mod {T : Nat → Prop} {W' : World} (h : EvP W B e) (hm : Mod T W W') (hT : ¬ T B) : EvP W' B e := fun q u hu => hm.cell (h q u hu) hT
theorem WS.app (h : WS w X B e s t R R' rec v8 v11 false d4 d5 d6 x2 x4 x5 W) (hwX : w.heap.size ≤ X) (h5 : d5 = false) (hne : v8.ownBlock ≠ some B) {v' : Value} {W' : World} (ho : OV encB 1 5 (X + 1) W' v' R') (hg : W.grownBy W' v8.ownBlock) : WS w X B e s t R R' rec v8 v11 true d4 d5 d6 v' x4 x5 W' := by
 have hb := (h.o8 rfl).block
 refine ⟨h.bel.grown hg h.bel.size (fun g hg => by have := (hb g hg).1; omega), h.ev.grown hg hne, fun h => (by cases h), fun h => (by cases h), fun _ => ho, h.e4, fun k => (by rw [h5] at k; cases k), h.n5, h.bx.grown hg (fun e => by have := (hb X e).1; omega)⟩
theorem WS.of (h : WS w X B e s t R R' rec v8 v11 d2 d4 d5 d6 x2 x4 x5 W) {W' : World} (hb : Below W.heap.size W W') {v : Value} (hv : v = baseA e.seq e.time) : WS w X B e s t R R' rec v8 v11 d2 true d5 d6 x2 v x5 W' :=
 ⟨bstep h.bel hb, h.ev.below hb h.ev.lt, fun k => (h.o8 k).below hb, fun k => (h.o11 k).below hb, fun k => (h.o2 k).below hb, fun _ => hv, h.e5, h.n5, h.bx.below hb⟩
theorem WS.asg (h : WS w X B e s t R R' rec v8 v11 true d4 d5 d6 x2 x4 x5 W) : WS w X B e s t R R' rec v8 v11 true d4 true d6 x2 x4 x2 W :=
 ⟨h.bel, h.ev, h.o8, h.o11, h.o2, h.e4, fun _ => rfl, fun k => (by cases k), h.bx⟩
theorem BsBox.set (h : BsBox W X s t) (s' t' : Int) : BsBox ((W.setCell ⟨X, 0, none⟩ (.int .i64 s')).setCell ⟨X, 1, none⟩ (.int .i64 t')) X s' t' :=
 ⟨heap_setCell_same _ X 1 _ _ _ (heap_setCell_same W X 0 _ _ _ h.cell)⟩
theorem WS.sto (h : WS w X B e s t R R' rec v8 v11 d2 d4 d5 false x2 x4 x5 W) (hwX : w.heap.size ≤ X) (hXB : X ≠ B) : WS w X B e s t R R' rec v8 v11 d2 d4 d5 true x2 x4 x5 ((W.setCell ⟨X, 0, none⟩ (.int .i64 e.seq)).setCell ⟨X, 1, none⟩ (.int .i64 e.time)) := by
 have hm : Mod (fun k => k = X) W ((W.setCell ⟨X, 0, none⟩ (.int .i64 e.seq)).setCell ⟨X, 1, none⟩ (.int .i64 e.time)) := (Mod.setCell (T := fun k => k = X) _ rfl).trans (Mod.setCell (T := fun k => k = X) _ rfl)
 refine ⟨h.bel.trans (hm.below (B := w.heap.size) (fun k hk e => by omega) h.bel.size), h.ev.mod hm (fun e => hXB e.symm), fun k => (h.o8 k).mod hm ?_, fun k => (h.o11 k).mod hm ?_, fun k => (h.o2 k).mod hm ?_, h.e4, h.e5, h.n5, h.bx.set _ _⟩
 ·intro g hg e; have := ((h.o8 k).block g hg).1; omega
 ·intro g hg e; have := ((h.o11 k).block g hg).1; omega
 ·intro g hg e; have := ((h.o2 k).block g hg).1; omega
end
set_option maxRecDepth 100000 in
set_option maxHeartbeats 3200000 in
theorem cwrite_ok (w : World) (s t : Int) (v : Value) (l : List Ev) (hv : EV encE 11 w v l) (hl : ∀ e ∈ l, EvOk e) (hL : l.length ≤ 100000) (hU : UsesAt w) (hr : RowOk l) (hb : rgtB s t) (hpos : 0 < l.length) (h0 : ∀ e, l[0]? = some e → s ≤ e.seq ∧ t ≤ e.time) :
  Calls Tryz.prog 109 #[baseA s t, v] w fun r w' => ∃ v', r = .returned (.tuple #[v', .int .i64 0]) ∧ OV encB 1 5 w.heap.size w' v' (recsE s t l) ∧ Below w.heap.size w w' := by
 obtain ⟨A, cp, rfl⟩ := hv.shape
 have HBO := Lib.hid (fun (j : Nat) (e : Ev) (h : l[j]? = some e) => bAt_ok hr hl hb h0 h)
 have HRL := Lib.hid (recs_len hr hl hb h0)
 obtain ⟨e0, he0⟩ : ∃ e, l[0]? = some e := ⟨_, List.getElem?_eq_getElem hpos⟩
 have h00 := h0 e0 he0
 have HRI := Lib.hid (fun W => bright_ok W s t hb)
 have HBE := Lib.hid (fun W => behind_ok W s t e0 h00.1 h00.2)
 have HE0 := Lib.hid he0
 have HRW := Lib.hid hr
 have HV := Lib.hid hv
 have HX := Lib.hid hl
 have HU := Lib.hid hU
 have HROW := Lib.hid (row_ok (w.alloc (.cells #[.int .i64 s, .int .i64 t] 175)) _ l (hv.below (bel_alloc _ _)) hl (by omega) (hU.below (bel_alloc _ _)))
 have HBX := Lib.hid (BsBox.new w s t)
 have HBA := Lib.hid (bel_alloc w (.cells #[.int .i64 s, .int .i64 t] 175))
 obtain ⟨n, hn⟩ : ∃ n, n = l.length := ⟨_, rfl⟩
 have HN := Lib.hid hn
 rw [← hn] at hL HROW hpos ⊢
 clear hv hl hU hn hr hb h0 he0 h00
 unfold baseA at HRI HBE ⊢
 unfold evA at HBE
 go_enter Tryz.func109, Tryz.ntmps109
 go_upto_region 1 with fail
 obtain ⟨X, hX⟩ : ∃ X, w.heap.size = X := ⟨_, rfl⟩
 have h1 := HROW.out
 have h2 := HBX.out
 have h3 := HBA.out
 clear HROW HBX HBA
 generalize w.alloc (.cells #[.int .i64 s, .int .i64 t] 175) = wa at h1 h2 h3 ⊢
 rw [hX] at h2
 simp only [hX]
 have HROW := Lib.hid h1
 have HBX := Lib.hid h2
 have HBA := Lib.hid h3
 have HXX := Lib.hid hX
 clear h1 h2 h3 hX
 go_wp2_with fail
 refine HROW.out.mono ?_
 rintro r wb ⟨⟨i0, b0, rfl, hb0⟩, hb1⟩
 obtain rfl : b0 = 0 := hb0.2 HRW.out
 have HBB := Lib.hid (bstep HBA.out hb1)
 have HXB := Lib.hid (HBX.out.below hb1)
 clear hb0 hb1 HROW HBX HBA
 have HVB := Lib.hid (HV.out.below HBB.out)
 obtain ⟨b, off, c', hsl, hcc, hrr⟩ := HVB.out.row (by have := HN.out; omega)
 cases hsl
 have HER := Lib.hid hrr
 have HCE := Lib.hid (hrr.ev HE0.out)
 clear hrr hcc
 go_wp2_with fail
 refine wp_region_dagG (by kernel_rfl) 16 rfl (fun i => i == 1 || i == 12) (fun i => !(false)) ?hMw (fun x => ⟨#[.agg #[.int .i64 s, .int .i64 t], .slice (some ⟨b, off, none⟩) n cp, .pointer (some ⟨X, 0, none⟩), undef, .slice none 0 0, .int .i64 0, .int .i64 i0, .int .i64 0, undef, undef, undef, undef, undef, .tuple #[.int .i64 i0, .int .i64 0], .slice (some ⟨b, off, none⟩) n cp, .tuple #[.int .i64 i0, .int .i64 0], .int .i64 i0, .int .i64 0, .int .i64 0, .bool false, undef, x 0, x 1, x 2, x 3, x 4, x 5, x 6, x 7, x 8, x 9, x 10, x 11, x 12, x 13, x 14, x 15, undef, undef, undef, undef, undef, undef, undef, undef, undef, undef, undef, undef, undef, undef, undef, undef, undef, undef, undef], []⟩) (fun iF vF => match iF with | 0 => vF = .agg #[.int .i64 s, .int .i64 t] | 2 => vF = .bool false | 3 => vF = .bool false | 4 => vF = .slice (some ⟨b, off, none⟩) n cp | 5 => vF = .int .i64 (n : Nat) | 6 => vF = .bool true | 7 => vF = .bool true | 8 => vF = .agg #[.int .i64 s, .int .i64 t] | 9 => vF = .slice (some ⟨b, off, none⟩) n cp | 10 => vF = .pointer (some ⟨b, off, none⟩) | 11 => vF = .agg #[.int .i64 e0.seq, .int .i64 e0.time, .int .u8 e0.cpu, .int .u8 e0.kind, .int .i64 e0.task, .int .i64 e0.grp, .int .i64 e0.to, .int .i64 e0.wt, .int .i64 e0.ticks, .int .u64 e0.mask, .int .i64 e0.got] | 13 => vF = .bool false | 14 => vF = .bool false | 15 => vF = .bool false | _ => True)
  (fun d x W => Below wb.heap.size wb W ∧ (d 1 = true → x 1 = .bool true) ∧ (d 12 = true → x 12 = .bool true)) ?hB ?hwant ?hoff (by kernel_rfl) ?hpure ?hmem ?hend (fun i => (#[undef, undef, undef, undef, undef, undef, undef, undef, undef, undef, undef, undef, undef, undef, undef, undef] : Array Value).getD i undef) rfl ?hstart
 case hstart =>
  try dsimp only
  exact ⟨below_drew (Below.refl _ _), fun h => (by cases h), fun h => (by cases h)⟩
 case hB =>
  intro d d' x i v W hi hm h
  have g1 : ¬ 1 = i := by rintro rfl; exact absurd (show true = false from hi) (by simp)
  have e1 : d' 1 = d 1 := hm 1 rfl
  have g12 : ¬ 12 = i := by rintro rfl; exact absurd (show true = false from hi) (by simp)
  have e12 : d' 12 = d 12 := hm 12 rfl
  try dsimp only at h ⊢
  first | rw [upd_ne g1, upd_ne g12, e1, e12] | simp only [upd_ne g1, upd_ne g12, e1, e12]
  exact h
 case hMw =>
  intro i hi
  simp only [Bool.or_eq_true, beq_iff_eq] at hi
  rcases hi with rfl | rfl
  all_goals rfl
 case hwant =>
  intro iF o hi ho x hf
  rcases (show iF = 0 ∨ iF = 1 ∨ iF = 2 ∨ iF = 3 ∨ iF = 4 ∨ iF = 5 ∨ iF = 6 ∨ iF = 7 ∨ iF = 8 ∨ iF = 9 ∨ iF = 10 ∨ iF = 11 ∨ iF = 12 ∨ iF = 13 ∨ iF = 14 ∨ iF = 15 by omega) with rfl | rfl | rfl | rfl | rfl | rfl | rfl | rfl | rfl | rfl | rfl | rfl | rfl | rfl | rfl | rfl <;> obtain rfl := Option.some.inj ho
  ·rfl
  ·rfl
  ·rfl
  ·rfl
  ·exact want_v (v := x 3) (hf 3 (by kernel_rfl) (by kernel_rfl)) rfl
  ·exact want_v (v := x 3) (hf 3 (by kernel_rfl) (by kernel_rfl)) rfl
  ·exact want_v (v := x 3) (hf 3 (by kernel_rfl) (by kernel_rfl)) rfl
  ·exact want_v (v := x 3) (hf 3 (by kernel_rfl) (by kernel_rfl)) rfl
  ·exact want_v (v := x 7) (hf 7 (by kernel_rfl) (by kernel_rfl)) rfl
  ·exact want_v (v := x 7) (hf 7 (by kernel_rfl) (by kernel_rfl)) rfl
  ·exact want_v (v := x 7) (hf 7 (by kernel_rfl) (by kernel_rfl)) rfl
  ·exact want_v (v := x 7) (hf 7 (by kernel_rfl) (by kernel_rfl)) rfl
  ·exact want_v (v := x 7) (hf 7 (by kernel_rfl) (by kernel_rfl)) rfl
  ·exact want_v (v := x 7) (hf 7 (by kernel_rfl) (by kernel_rfl)) rfl
  ·exact want_v (v := x 3) (hf 3 (by kernel_rfl) (by kernel_rfl)) rfl
  ·rfl
 case hoff =>
  intro iF o hi hw ho x
  rcases (show iF = 0 ∨ iF = 1 ∨ iF = 2 ∨ iF = 3 ∨ iF = 4 ∨ iF = 5 ∨ iF = 6 ∨ iF = 7 ∨ iF = 8 ∨ iF = 9 ∨ iF = 10 ∨ iF = 11 ∨ iF = 12 ∨ iF = 13 ∨ iF = 14 ∨ iF = 15 by omega) with rfl | rfl | rfl | rfl | rfl | rfl | rfl | rfl | rfl | rfl | rfl | rfl | rfl | rfl | rfl | rfl
  all_goals first | exact absurd (show true = false from hw) (by simp) | skip
 case hpure =>
  intro iF o hi hnm hww ho d x W hB hd hdn hnd hcl Kq hK
  rcases (show iF = 0 ∨ iF = 1 ∨ iF = 2 ∨ iF = 3 ∨ iF = 4 ∨ iF = 5 ∨ iF = 6 ∨ iF = 7 ∨ iF = 8 ∨ iF = 9 ∨ iF = 10 ∨ iF = 11 ∨ iF = 12 ∨ iF = 13 ∨ iF = 14 ∨ iF = 15 by omega) with rfl | rfl | rfl | rfl | rfl | rfl | rfl | rfl | rfl | rfl | rfl | rfl | rfl | rfl | rfl | rfl <;> obtain rfl := Option.some.inj ho
  all_goals first | exact absurd (show true = false from hnm) (by simp) | skip
  ·have hbx := HXB.out.below hB.1
   have q0 := hbx.c0
   have q1 := hbx.c1
   clear ho hd hdn hnd hcl hB hnm hi
   simp only [upd, reduceIte, Nat.reduceEqDiff] at hK
   try dsimp only
   go_simp
   exact hK _ rfl
  ·have e1 : x 1 = .bool true := hB.2.1 (hdn 1 (by kernel_rfl))
   clear ho hd hdn hnd hcl hB hnm hi
   simp only [upd, reduceIte, Nat.reduceEqDiff, e1] at hK
   try dsimp only
   try rw [e1]
   go_simp
   exact hK _ rfl
  ·have e2 : x 2 = .bool false := hd 2 (by kernel_rfl) (by kernel_rfl)
   clear ho hd hdn hnd hcl hB hnm hi
   simp only [upd, reduceIte, Nat.reduceEqDiff, e2] at hK
   try dsimp only
   go_simp
   exact hK _ rfl
  ·clear ho hd hdn hnd hcl hB hnm hi
   simp only [upd, reduceIte, Nat.reduceEqDiff] at hK
   try dsimp only
   go_simp
   exact hK _ rfl
  ·have e4 : x 4 = .slice (some ⟨b, off, none⟩) n cp := hd 4 (by kernel_rfl) (by kernel_rfl)
   clear ho hd hdn hnd hcl hB hnm hi
   simp only [upd, reduceIte, Nat.reduceEqDiff, e4] at hK
   try dsimp only
   go_simp
   exact hK _ rfl
  ·have e5 : x 5 = .int .i64 (n : Nat) := hd 5 (by kernel_rfl) (by kernel_rfl)
   clear ho hd hdn hnd hcl hB hnm hi
   simp only [upd, reduceIte, Nat.reduceEqDiff, e5] at hK
   try dsimp only
   go_simp
   exact hK _ rfl
  ·have e6 : x 6 = .bool true := hd 6 (by kernel_rfl) (by kernel_rfl)
   clear ho hd hdn hnd hcl hB hnm hi
   simp only [upd, reduceIte, Nat.reduceEqDiff, e6] at hK
   try dsimp only
   go_simp
   exact hK _ rfl
  ·have hbx := HXB.out.below hB.1
   have q0 := hbx.c0
   have q1 := hbx.c1
   clear ho hd hdn hnd hcl hB hnm hi
   simp only [upd, reduceIte, Nat.reduceEqDiff] at hK
   try dsimp only
   go_simp
   exact hK _ rfl
  ·clear ho hd hdn hnd hcl hB hnm hi
   simp only [upd, reduceIte, Nat.reduceEqDiff] at hK
   try dsimp only
   go_simp
   exact hK _ rfl
  ·have e9 : x 9 = .slice (some ⟨b, off, none⟩) n cp := hd 9 (by kernel_rfl) (by kernel_rfl)
   clear ho hd hdn hnd hcl hB hnm hi
   simp only [upd, reduceIte, Nat.reduceEqDiff, e9] at hK
   try dsimp only
   go_simp
   exact hK _ rfl
  ·have e10 : x 10 = .pointer (some ⟨b, off, none⟩) := hd 10 (by kernel_rfl) (by kernel_rfl)
   obtain ⟨p0, p1, p2, p3, p4, p5, p6, p7, p8, p9, p10⟩ := HCE.out
   simp only [Nat.zero_mul, Nat.add_zero] at p0 p1 p2 p3 p4 p5 p6 p7 p8 p9 p10
   have hbW := hB.1
   replace p0 := below_cell hbW p0
   replace p1 := below_cell hbW p1
   replace p2 := below_cell hbW p2
   replace p3 := below_cell hbW p3
   replace p4 := below_cell hbW p4
   replace p5 := below_cell hbW p5
   replace p6 := below_cell hbW p6
   replace p7 := below_cell hbW p7
   replace p8 := below_cell hbW p8
   replace p9 := below_cell hbW p9
   replace p10 := below_cell hbW p10
   clear ho hd hdn hnd hcl hB hnm hi
   simp only [upd, reduceIte, Nat.reduceEqDiff, e10] at hK
   try dsimp only
   go_simp
   exact hK _ rfl
  ·have e12 : x 12 = .bool true := hB.2.2 (hdn 12 (by kernel_rfl))
   clear ho hd hdn hnd hcl hB hnm hi
   simp only [upd, reduceIte, Nat.reduceEqDiff, e12] at hK
   try dsimp only
   try rw [e12]
   go_simp
   exact hK _ rfl
  ·have e7 : x 7 = .bool true := hd 7 (by kernel_rfl) (by kernel_rfl)
   have e13 : x 13 = .bool false := hd 13 (by kernel_rfl) (by kernel_rfl)
   clear ho hd hdn hnd hcl hB hnm hi
   simp only [upd, reduceIte, Nat.reduceEqDiff, e7, e13] at hK
   try dsimp only
   go_simp
   exact hK _ rfl
  ·have e3 : x 3 = .bool false := hd 3 (by kernel_rfl) (by kernel_rfl)
   have e14 : x 14 = .bool false := hd 14 (by kernel_rfl) (by kernel_rfl)
   clear ho hd hdn hnd hcl hB hnm hi
   simp only [upd, reduceIte, Nat.reduceEqDiff, e3, e14] at hK
   try dsimp only
   go_simp
   exact hK _ rfl
 case hmem =>
  intro iF o hi hmm ho d d' x W hB hd hdn hnd hdi hdi' hdm hcl Kq hK
  rcases (show iF = 0 ∨ iF = 1 ∨ iF = 2 ∨ iF = 3 ∨ iF = 4 ∨ iF = 5 ∨ iF = 6 ∨ iF = 7 ∨ iF = 8 ∨ iF = 9 ∨ iF = 10 ∨ iF = 11 ∨ iF = 12 ∨ iF = 13 ∨ iF = 14 ∨ iF = 15 by omega) with rfl | rfl | rfl | rfl | rfl | rfl | rfl | rfl | rfl | rfl | rfl | rfl | rfl | rfl | rfl | rfl <;> obtain rfl := Option.some.inj ho
  all_goals first | exact absurd (show false = true from hmm) (by simp) | skip
  ·have e0 : x 0 = .agg #[.int .i64 s, .int .i64 t] := hd 0 (by kernel_rfl) (by kernel_rfl)
   have dm12 : d' 12 = d 12 := hdm 12 (by omega)
   obtain ⟨hb, h1, h12⟩ := hB
   clear ho hd hdn hnd hcl hmm
   simp only [upd, reduceIte, Nat.reduceEqDiff, e0] at hK
   try dsimp only
   go_simp
   go_at_call 132
   refine (HRI.out W).mono ?_
   rintro r W2 ⟨rfl, bb⟩
   go_simp
   refine hK _ _ ?_
   try dsimp only
   rw [dm12, hdi']
   exact ⟨bstep hb bb, fun _ => rfl, h12⟩
  ·have e8 : x 8 = .agg #[.int .i64 s, .int .i64 t] := hd 8 (by kernel_rfl) (by kernel_rfl)
   have e11 : x 11 = .agg #[.int .i64 e0.seq, .int .i64 e0.time, .int .u8 e0.cpu, .int .u8 e0.kind, .int .i64 e0.task, .int .i64 e0.grp, .int .i64 e0.to, .int .i64 e0.wt, .int .i64 e0.ticks, .int .u64 e0.mask, .int .i64 e0.got] := hd 11 (by kernel_rfl) (by kernel_rfl)
   have dm1 : d' 1 = d 1 := hdm 1 (by omega)
   obtain ⟨hb, h1, h12⟩ := hB
   clear ho hd hdn hnd hcl hmm
   simp only [upd, reduceIte, Nat.reduceEqDiff, e8, e11] at hK
   try dsimp only
   go_simp
   go_at_call 133
   refine (HBE.out W).mono ?_
   rintro r W2 ⟨rfl, bb⟩
   go_simp
   refine hK _ _ ?_
   try dsimp only
   rw [dm1, hdi']
   exact ⟨bstep hb bb, h1, fun _ => rfl⟩
 case hend =>
  intro d x W hall hB hd
  obtain ⟨hb, _, _⟩ := hB
  have ek15 := hd 15 (by omega) rfl
  clear hd hall
  try dsimp only
  rw [ek15]
  clear ek15
  generalize x 0 = y0
  generalize x 1 = y1
  generalize x 2 = y2
  generalize x 3 = y3
  generalize x 4 = y4
  generalize x 5 = y5
  generalize x 6 = y6
  generalize x 7 = y7
  generalize x 8 = y8
  generalize x 9 = y9
  generalize x 10 = y10
  generalize x 11 = y11
  generalize x 12 = y12
  generalize x 13 = y13
  generalize x 14 = y14
  have HBW := Lib.hid (bstep HBB.out hb)
  have HXW := Lib.hid (HXB.out.below hb)
  clear hb HBB HXB HVB HER HCE HRI HBE
  go_wp2
  go_loopg [8, 39] n (fun k o i wr => ∃ j : Nat, j + k = n ∧ i = .int .i64 j ∧ OV encB 1 5 (X + 1) wr o (recsE s t (l.take j)) ∧ BsBox wr X (bAt s t l j).1 (bAt s t l j).2 ∧ Below w.heap.size w wr)
  case atStart => exact ⟨0, by omega, rfl, OV.nil _ _, HXW.out, HBW.out⟩
  clear HXW HBW
  case round =>
   obtain ⟨j, hj, rfl, ho, hx, hb⟩ := hrel
   have HJ := Lib.hid hj
   have HO := Lib.hid ho
   have HXR := Lib.hid hx
   have HBR := Lib.hid hb
   have HXR0 := Lib.hid hx.lt
   have HU8 := Lib.hid (fun g (h : u8.ownBlock = some g) => ho.block g h)
   clear hj ho hx hb
   by_cases hlt : j < n
   ·have hev := HV.out.below HBR.out
    obtain ⟨e, he⟩ : ∃ e, l[j]? = some e := ⟨_, List.getElem?_eq_getElem (by rw [← HN.out]; exact hlt)⟩
    obtain ⟨g0, g1, g2, g3, g4, g5, g6, g7, g8, g9, g10⟩ := (hev.row3 (by have := HN.out; omega)).ev he
    have HBJ := Lib.hid (HBO.out j e he)
    have HRT := Lib.hid (recs_take (s := s) (t := t) he)
    have HNX := Lib.hid (show bAt s t l (j + 1) = (e.seq, e.time) by simp only [bAt, he])
    have HEO := Lib.hid (HX.out e (List.mem_of_getElem? he))
    have HCK := Lib.hid (HRW.out.at j e he).1
    generalize (bAt s t l j).1 = s1 at HBJ HRT HXR
    generalize (bAt s t l j).2 = t1 at HBJ HRT HXR
    clear hev he
    have HEV := Lib.hid (evp_new wr e)
    have HA := Lib.hid (bel_alloc wr (.cells #[.int .i64 e.seq, .int .i64 e.time, .int .u8 e.cpu, .int .u8 e.kind, .int .i64 e.task, .int .i64 e.grp, .int .i64 e.to, .int .i64 e.wt, .int .i64 e.ticks, .int .u64 e.mask, .int .i64 e.got] 28))
    go_upto_region 10 with fail
    obtain ⟨E, hE⟩ : ∃ E, wr.heap.size = E := ⟨_, rfl⟩
    have HEE := Lib.hid hE
    have h1 := HEV.out
    have h2 := HA.out
    clear g0 g1 g2 g3 g4 g5 g6 g7 g8 g9 g10 HEV HA
    generalize wr.alloc (.cells #[.int .i64 e.seq, .int .i64 e.time, .int .u8 e.cpu, .int .u8 e.kind, .int .i64 e.task, .int .i64 e.grp, .int .i64 e.to, .int .i64 e.wt, .int .i64 e.ticks, .int .u64 e.mask, .int .i64 e.got] 28) = wa at h1 h2 ⊢
    rw [hE] at h1 ⊢
    have HEV := Lib.hid h1
    have HBA := Lib.hid (bstep HBR.out h2)
    have HXA := Lib.hid (HXR.out.below h2)
    have HOA := Lib.hid (HO.out.below h2)
    have HL2 := Lib.hid (chk_lim HEO.out HCK.out)
    have HPUT := Lib.hid (put_ev wa s1 t1 e HEO.out (HU.out.below HBA.out) HCK.out HBJ.out.1 HBJ.out.2.1 HBJ.out.2.2 HL2.out.2.1.2 HL2.out.2.2.1.2 (by have := HL2.out.1.1; omega))
    obtain ⟨c0, c1, c2, c3, c4, c5, c6, c7, c8, c9⟩ : _ ∧ _ ∧ _ ∧ _ ∧ _ ∧ _ ∧ _ ∧ _ ∧ _ ∧ _ := ⟨h1.c0, h1.c1, h1.c2, h1.c3, h1.c4, h1.c5, h1.c6, h1.c7, h1.c8, h1.c9⟩
    have c10 := h1.c10
    have x0 := HXA.out.c0
    have x1 := HXA.out.c1
    unfold baseA evA at HPUT
    clear h1 h2 hE HXR HBR HO
    go_wp2_with fail
    refine HPUT.out.mono ?_
    rintro r wp ⟨v11, rfl, o11, bb⟩
    have HNB := Lib.hid (show u8.ownBlock ≠ some E from fun h => by have := (HU8.out E h).2; have := HEE.out; omega)
    have HXE := Lib.hid (show X ≠ E from fun h => by have := HXR0.out; have := HEE.out; omega)
    have HWX := Lib.hid (show w.heap.size ≤ X from Nat.le_of_eq HXX.out)
    have HOF := Lib.hid (fun W => cof_ok W e)
    have HRLN := Lib.hid (show (recsE s t (l.take j)).length + (recE s1 t1 e).length ≤ 1000000000 from by
     have q1 := HRL.out j (by rw [← HN.out]; omega)
     have q2 := rec_len (s := s1) (t := t1) (e := e) (by have := HL2.out; have := HBJ.out.1.1; omega) (by have := HL2.out; have := HBJ.out.1.2.2.1; omega)
     omega)
    obtain ⟨rec, hrec⟩ : ∃ rec, recE s1 t1 e = rec := ⟨_, rfl⟩
    rw [hrec] at o11 HRT HRLN
    replace bb := below_drew bb
    have HST := Lib.hid (show ∀ a b, WS w X E e s1 t1 (recsE s t (l.take j)) (recsE s t (l.take (j + 1))) rec u8 v11 false false false false a b u8 wp.drew from fun _ _ =>
     ⟨bstep HBA.out bb, HEV.out.below bb HEV.out.lt, fun _ => HOA.out.below bb, fun _ => (o11.base_le HXA.out.lt).drew, fun h => (by cases h), fun h => (by cases h), fun h => (by cases h), fun _ => rfl, HXA.out.below bb⟩)
    clear o11 bb hrec HPUT c0 c1 c2 c3 c4 c5 c6 c7 c8 c9 c10 x0 x1 HEV HXA HOA HBA
    unfold evA at HOF
    go_wp2_with fail
    refine wp_region_dag (by kernel_rfl) 7 rfl (fun i => i == 2 || i == 4 || i == 5 || i == 6) (fun x => ⟨#[.agg #[.int .i64 s, .int .i64 t], .slice (some ⟨b, off, none⟩) n cp, .pointer (some ⟨X, 0, none⟩), undef, .slice none 0 0, .int .i64 0, .int .i64 i0, .int .i64 0, x 5, undef, .pointer (some ⟨E, 0, none⟩), v11, .int .i64 0, .tuple #[.int .i64 i0, .int .i64 0], .slice (some ⟨b, off, none⟩) n cp, .tuple #[.int .i64 i0, .int .i64 0], .int .i64 i0, .int .i64 0, .int .i64 0, .bool false, undef, y0, y1, y2, y3, y4, y5, y6, y7, y8, y9, y10, y11, y12, y13, y14, .bool false, .slice (some ⟨b, off, none⟩) n cp, .int .i64 (n : Nat), .int .i64 (j : Nat), .bool true, .pointer (some ⟨b, off + j * 11, none⟩), .agg #[.int .i64 e.seq, .int .i64 e.time, .int .u8 e.cpu, .int .u8 e.kind, .int .i64 e.task, .int .i64 e.grp, .int .i64 e.to, .int .i64 e.wt, .int .i64 e.ticks, .int .u64 e.mask, .int .i64 e.got], .tuple #[v11, .int .i64 0], .agg #[.int .i64 s1, .int .i64 t1], .agg #[.int .i64 e.seq, .int .i64 e.time, .int .u8 e.cpu, .int .u8 e.kind, .int .i64 e.task, .int .i64 e.grp, .int .i64 e.to, .int .i64 e.wt, .int .i64 e.ticks, .int .u64 e.mask, .int .i64 e.got], .tuple #[v11, .int .i64 0], v11, .int .i64 0, x 0, x 1, x 2, x 3, x 4, u54, undef], []⟩) (fun iF vF => match iF with | 0 => vF = u8 | 1 => vF = v11 | 3 => vF = .agg #[.int .i64 e.seq, .int .i64 e.time, .int .u8 e.cpu, .int .u8 e.kind, .int .i64 e.task, .int .i64 e.grp, .int .i64 e.to, .int .i64 e.wt, .int .i64 e.ticks, .int .u64 e.mask, .int .i64 e.got] | _ => True)
     (fun d x W => WS w X E e s1 t1 (recsE s t (l.take j)) (recsE s t (l.take (j + 1))) rec u8 v11 (d 2) (d 4) (d 5) (d 6) (x 2) (x 4) (x 5) W) ?hB (by kernel_rfl) (by kernel_rfl) ?hpure ?hmem ?hend (fun i => (#[u49, u50, u51, u52, u53, u8, undef] : Array Value).getD i undef) rfl ?hstart
    case hstart =>
     try dsimp only
     exact HST.out _ _
    case hB =>
     intro d d' x i v W hi hm h
     have g2 : ¬ 2 = i := by rintro rfl; exact absurd (show true = false from hi) (by simp)
     have e2 : d' 2 = d 2 := hm 2 rfl
     have g4 : ¬ 4 = i := by rintro rfl; exact absurd (show true = false from hi) (by simp)
     have e4 : d' 4 = d 4 := hm 4 rfl
     have g5 : ¬ 5 = i := by rintro rfl; exact absurd (show true = false from hi) (by simp)
     have e5 : d' 5 = d 5 := hm 5 rfl
     have g6 : ¬ 6 = i := by rintro rfl; exact absurd (show true = false from hi) (by simp)
     have e6 : d' 6 = d 6 := hm 6 rfl
     try dsimp only at h ⊢
     first | rw [upd_ne g2, upd_ne g4, upd_ne g5, upd_ne g6, e2, e4, e5, e6] | simp only [upd_ne g2, upd_ne g4, upd_ne g5, upd_ne g6, e2, e4, e5, e6]
     exact h
    case hpure =>
     intro iF o hi hnm ho d x W hB hd hdn hnd hcl Kq hK
     rcases (show iF = 0 ∨ iF = 1 ∨ iF = 2 ∨ iF = 3 ∨ iF = 4 ∨ iF = 5 ∨ iF = 6 by omega) with rfl | rfl | rfl | rfl | rfl | rfl | rfl <;> obtain rfl := Option.some.inj ho
     all_goals first | exact absurd (show true = false from hnm) (by simp) | skip
     ·have hm5 : d 5 = false := hnd 5 (by kernel_rfl)
      have ez := hB.n5 hm5
      clear ho hd hdn hnd hcl hB hnm hi
      simp only [upd, reduceIte, Nat.reduceEqDiff, ez] at hK
      try dsimp only
      try rw [ez]
      go_simp
      exact hK _ (by first | rfl | exact ez)
     ·clear ho hd hdn hnd hcl hB hnm hi
      simp only [upd, reduceIte, Nat.reduceEqDiff] at hK
      try dsimp only
      go_simp
      exact hK _ rfl
     ·obtain ⟨c0, c1, c2, c3, c4, c5, c6, c7, c8, c9⟩ : _ ∧ _ ∧ _ ∧ _ ∧ _ ∧ _ ∧ _ ∧ _ ∧ _ ∧ _ := ⟨hB.ev.c0, hB.ev.c1, hB.ev.c2, hB.ev.c3, hB.ev.c4, hB.ev.c5, hB.ev.c6, hB.ev.c7, hB.ev.c8, hB.ev.c9⟩
      have c10 := hB.ev.c10
      clear ho hd hdn hnd hcl hB hnm hi
      simp only [upd, reduceIte, Nat.reduceEqDiff] at hK
      try dsimp only
      go_simp
      exact hK _ rfl
    case hmem =>
     intro iF o hi hmm ho d d' x W hB hd hdn hnd hdi hdi' hdm hcl Kq hK
     rcases (show iF = 0 ∨ iF = 1 ∨ iF = 2 ∨ iF = 3 ∨ iF = 4 ∨ iF = 5 ∨ iF = 6 by omega) with rfl | rfl | rfl | rfl | rfl | rfl | rfl <;> obtain rfl := Option.some.inj ho
     all_goals first | exact absurd (show false = true from hmm) (by simp) | skip
     ·have e0 : x 0 = u8 := hd 0 (by kernel_rfl) (by kernel_rfl)
      have e1 : x 1 = v11 := hd 1 (by kernel_rfl) (by kernel_rfl)
      have dm4 : d' 4 = d 4 := hdm 4 (by omega)
      have dm5 : d' 5 = d 5 := hdm 5 (by omega)
      have dm6 : d' 6 = d 6 := hdm 6 (by omega)
      have dz5 : d 5 = false := hnd 5 (by kernel_rfl)
      rw [hdi] at hB
      have o8 := hB.o8 rfl
      have o11 := hB.o11 rfl
      clear ho hd hdn hnd hcl hmm
      simp only [upd, reduceIte, Nat.reduceEqDiff, e0, e1] at hK
      try dsimp only
      refine wp_app elemB encB_len encB_one (.tmp 49) (.tmp 50) rfl u8 v11 (by rw [← e0]; rfl) (by rw [← e1]; rfl) o8 (o11.ev encB_len) (by have := HRLN.out; omega) (by have := hB.bx.lt; omega) ?_
      intro v1 w1 o1 g1
      rw [← HRT.out] at o1
      go_simp
      refine hK _ _ ?_
      try dsimp only
      rw [dm4, dm5, dm6, hdi']
      exact hB.app HWX.out dz5 HNB.out o1 g1
     ·have e3 : x 3 = .agg #[.int .i64 e.seq, .int .i64 e.time, .int .u8 e.cpu, .int .u8 e.kind, .int .i64 e.task, .int .i64 e.grp, .int .i64 e.to, .int .i64 e.wt, .int .i64 e.ticks, .int .u64 e.mask, .int .i64 e.got] := hd 3 (by kernel_rfl) (by kernel_rfl)
      have dm2 : d' 2 = d 2 := hdm 2 (by omega)
      have dm5 : d' 5 = d 5 := hdm 5 (by omega)
      have dm6 : d' 6 = d 6 := hdm 6 (by omega)
      clear ho hd hdn hnd hcl hmm
      simp only [upd, reduceIte, Nat.reduceEqDiff, e3] at hK
      try dsimp only
      go_simp
      go_at_call 135
      refine (HOF.out W).mono ?_
      rintro r W2 ⟨rfl, bb⟩
      go_simp
      refine hK _ _ ?_
      try dsimp only
      rw [dm2, dm5, dm6, hdi']
      exact hB.of bb rfl
     ·have dm2 : d' 2 = d 2 := hdm 2 (by omega)
      have dm4 : d' 4 = d 4 := hdm 4 (by omega)
      have dm6 : d' 6 = d 6 := hdm 6 (by omega)
      have dn2 : d 2 = true := hdn 2 (by kernel_rfl)
      rw [dn2] at hB
      clear ho hd hdn hnd hcl hmm
      simp only [upd, reduceIte, Nat.reduceEqDiff] at hK
      try dsimp only
      go_simp
      refine hK _ _ ?_
      try dsimp only
      rw [dm2, dm4, dm6, hdi', dn2]
      exact hB.asg
     ·have dm2 : d' 2 = d 2 := hdm 2 (by omega)
      have dm4 : d' 4 = d 4 := hdm 4 (by omega)
      have dm5 : d' 5 = d 5 := hdm 5 (by omega)
      have dn4 : d 4 = true := hdn 4 (by kernel_rfl)
      rw [hdi] at hB
      have e4 : x 4 = .agg #[.int .i64 e.seq, .int .i64 e.time] := hB.e4 dn4
      have q0 := hB.bx.c0
      have q1 := hB.bx.c1
      have f0 := hB.bx.frz 0
      have f1 := hB.bx.frz 1
      clear ho hd hdn hnd hcl hmm
      simp only [upd, reduceIte, Nat.reduceEqDiff, e4] at hK
      try dsimp only
      try rw [e4]
      go_simp
      refine hK undef _ ?_
      try dsimp only
      rw [dm2, dm4, dm5, hdi']
      have hs := hB.sto HWX.out HXE.out
      rw [e4] at hs
      exact hs
    case hend =>
     intro d x W hall hB hd
     have e5 := hB.e5 (hall 5 (by omega))
     have o2 := hB.o2 (hall 2 (by omega))
     rw [hall 6 (by omega)] at hB
     have bx := hB.bx
     have bel := hB.bel
     clear hd hall hB
     try dsimp only
     rw [e5]
     clear e5
     generalize x 2 = v2 at o2 ⊢
     generalize x 0 = z0
     generalize x 1 = z1
     generalize x 3 = z3
     generalize x 4 = z4
     have HO2 := Lib.hid o2
     have HBX2 := Lib.hid (show BsBox W X (bAt s t l (j + 1)).1 (bAt s t l (j + 1)).2 by rw [HNX.out]; exact bx)
     have HB2 := Lib.hid bel
     clear o2 bx bel HST HRT HNX HOF
     go_wp2
     go_roundg (gk - 1)
     case measure => have := HJ.out; omega
     case rel => exact ⟨j + 1, by have := HJ.out; omega, by go_num, HO2.out, HBX2.out, HB2.out⟩
   ·obtain rfl : n = j := by have := HJ.out; omega
    have HO2 := Lib.hid (show OV encB 1 5 (X + 1) wr u8 (recsE s t l) from by have := HO.out; rwa [List.take_of_length_le (by rw [HN.out]; exact Nat.le_refl _)] at this)
    obtain ⟨A8, n8, rfl⟩ := (HO2.out.ev encB_len).shape
    go_wp2
    go_ret2
    exact ⟨_, rfl, HO2.out.base_le (by have := HXX.out; omega), HBR.out⟩
end Go.Proofs.YtalophngappkhaaGreatDoor

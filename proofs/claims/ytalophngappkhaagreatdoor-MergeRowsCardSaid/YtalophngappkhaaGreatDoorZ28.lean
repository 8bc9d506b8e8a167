/- quantumlaw12.Trace: the walk | quantumlaw12.Cut: what its walk keeps | slices.Concat, slices.Clone at blocks | The contract of slices.Reverse at a slice of structs, laid by the kit's tool: that the program holds the text of the library | slices.Reverse at blocks; quantumlaw12.turned | quantumlaw12.turned | Maps whose count of entries is known. -/
import Derived.Test.YtalophngappkhaaGreatDoorZ27
import Derived.Deep.DeepCutAuto
import Derived.Test.YtalophngappkhaaGreatDoorZ22
import Derived.Test.YtalophngappkhaaGreatDoorZ10
import Derived.Lib.AppendZerosOnto
import Derived.Deep.CutBlock
import Derived.Shelf.SlGeneric
import Derived.Shelf.SlicesQ.Reverse
import Derived.Ground.SlgnProg
import Derived.Test.YtalophngappkhaaGreatDoorRows
import Derived.Test.YtalophngappkhaaGreatDoorZ4
import Derived.StillTailTactics
import Derived.Maps.Views
set_option linter.unusedVariables false
set_option linter.unusedSimpArgs false
set_option linter.unusedSectionVars false
namespace Go.Proofs.YtalophngappkhaaGreatDoor
open Go Go.RowKit Go.Shelf
attribute [local go_sem] Oper.semAt_some

set_option maxRecDepth 100000 in
set_option maxHeartbeats 6400000 in
theorem trace_ok (w : World) (v : Value) (xs : List S6) (hv : EV encS6 11 w v xs) (hx : ∀ x ∈ xs, S6Ok x) (hl : xs.length ≤ 9223372036854775807) :
    Calls Tryz.prog 20 #[v] w fun r w' => ∃ v' tr, r = .returned v' ∧ OV encE 11 28 w.heap.size w' v' tr ∧ Tr tr ∧ tr.length = min xs.length 40 ∧ Below w.heap.size w w' := by
  have HV := Lib.hid hv
  have HX := Lib.hid hx
  obtain ⟨A, c, hA⟩ := hv.shape
  subst hA
  obtain ⟨n, hn⟩ : ∃ n, xs.length = n := ⟨_, rfl⟩
  have HN := Lib.hid hn
  have hcap : n ≤ c := by
    rcases Nat.eq_zero_or_pos n with h0 | h0
    · omega
    · obtain ⟨b, o, c', hsl, hcp, _⟩ := hv.row (by omega)
      simp only [Value.slice.injEq] at hsl
      obtain ⟨_, _, rfl⟩ := hsl
      omega
  rw [hn] at hl HV ⊢
  obtain ⟨L, hL⟩ : ∃ L, min n 40 = L := ⟨_, rfl⟩
  have HL := Lib.hid (show L = min n 40 ∧ L ≤ n ∧ L ≤ 40 by omega)
  have hmin : min (n : Int) 40 = (L : Int) := by omega
  have hc0 : (0 : Int) ≤ (L : Int) := by omega
  have hc1 : (L : Int) ≤ (c : Int) := by omega
  rw [hL]
  clear hv hx hn hL
  go_enter Tryz.func20, Tryz.ntmps20
  go_wp2_with fail
  clear hmin hc0 hc1
  go_loopg [3, 4, 5, 15] L (fun k o s t i wr => ∃ (j : Nat) (S T : Int) (tr : List Ev), j + k = L ∧ i = .int .i64 j ∧ s = .int .i64 S ∧ t = .int .i64 T ∧ TrS tr S T ∧ tr.length = j ∧ OV encE 11 28 w.heap.size wr o tr ∧ Below w.heap.size w wr)
  case atStart => exact ⟨0, 0, 0, [], by omega, rfl, rfl, rfl, TrS.nil, rfl, OV.nil _ _, Below.refl _ _⟩
  case round =>
    obtain ⟨j, S, T, tr, hj, rfl, rfl, rfl, htr, hlen, ho, hb⟩ := hrel
    have HJ := Lib.hid hj
    have HTR := Lib.hid htr
    have HLE := Lib.hid hlen
    have HO := Lib.hid ho
    have HB := Lib.hid hb
    clear hj htr hlen ho hb
    by_cases hlt : j < L
    · have hln := HL.out
      obtain ⟨b, off, c', hsl, hcc, hr⟩ := (HV.out.below HB.out).row (by rw [HN.out]; omega)
      rw [HN.out] at hsl
      cases hsl
      obtain ⟨x, hxx⟩ : ∃ x, xs[j]? = some x := ⟨_, List.getElem?_eq_getElem (by rw [HN.out]; omega)⟩
      have hok := HX.out x (List.mem_of_getElem? hxx)
      have HOK := Lib.hid hok
      have hcell := hr.s6 hxx
      have g0 : wr.cell? ⟨b, off + j * 11, none⟩ = some (.int .u8 x.kind) := hcell 0 _ rfl
      have g1 := hcell 1 _ rfl
      have g2 := hcell 2 _ rfl
      have g3 := hcell 3 _ rfl
      have g4 := hcell 4 _ rfl
      have g5 := hcell 5 _ rfl
      have g6 := hcell 6 _ rfl
      have g7 := hcell 7 _ rfl
      have g8 := hcell 8 _ rfl
      have g9 := hcell 9 _ rfl
      have g10 := hcell 10 _ rfl
      have HBX := Lib.hid (show SB6 (wr.alloc (.cells (encS6 x).toArray 80)) wr.heap.size x from ⟨heap_alloc_new wr _⟩)
      have HA := Lib.hid (bel_alloc wr (.cells (encS6 x).toArray 80))
      unfold encS6 at HBX HA
      have hst : 0 ≤ S ∧ S ≤ 120 ∧ 0 ≤ T ∧ T ≤ 2000 := by
        have h1 := HTR.out.sb
        have h2 := HTR.out.tr.len
        omega
      have hcb := hok.cpu
      have hsq := hok.seq
      have hti := hok.time
      clear hr hcc hxx hcell hok hln
      go_upto_region 6 with fail
      clear g0 g1 g2 g3 g4 g5 g6 g7 g8 g9 g10
      generalize wr.alloc (.cells #[.int .u8 x.kind, .int .u8 x.cpu, .int .u32 x.seq, .int .u32 x.time, .int .u32 x.task, .int .u32 x.grp, .int .u32 x.tgt, .int .u32 x.wt, .int .u32 x.ticks, .int .u32 x.got, .int .u64 x.mask] 80) = wa at HBX HA ⊢
      obtain ⟨X, hX⟩ : ∃ X, wr.heap.size = X := ⟨_, rfl⟩
      have HXX := Lib.hid hX
      rw [hX] at HBX ⊢
      clear hX
      have c1 := HBX.out.c 1 _ rfl
      have f1 := HBX.out.f 1
      go_upto_region 7 with fail
      have hmd := Mod.setCell (a := wa) (p := ⟨X, 1, none⟩) (T := fun k => k = X) (.int .u8 (x.cpu % 4)) rfl
      have HBX2 := Lib.hid (show SB6 (wa.setCell ⟨X, 1, none⟩ (.int .u8 (x.cpu % 4))) X { x with cpu := x.cpu % 4 } from ⟨heap_setCell_same wa X 1 _ _ (.int .u8 (x.cpu % 4)) HBX.out.cell⟩)
      have hwx : w.heap.size ≤ X := by rw [← HXX.out]; exact HB.out.size
      have HBB := Lib.hid ((bstep HB.out HA.out).trans (hmd.below (B := w.heap.size) (fun k hk t => by omega) (bstep HB.out HA.out).size))
      have HOO := Lib.hid ((HO.out.below HA.out).mod hmd (fun g q t => by have := (HO.out.block g q).2; have := HXX.out; omega))
      have HOB := Lib.hid (fun g (q : u3.ownBlock = some g) => (show g < X from by rw [← HXX.out]; exact (HO.out.block g q).2))
      have hxlt : X < (wa.setCell ⟨X, 1, none⟩ (.int .u8 (x.cpu % 4))).heap.size := HBX2.out.lt
      clear c1 f1 hmd HBX HA HB HO
      generalize wa.setCell ⟨X, 1, none⟩ (.int .u8 (x.cpu % 4)) = wb at HBX2 HBB HOO hxlt ⊢
      have HXL := Lib.hid hxlt
      have g2 := HBX2.out.c 2 _ rfl
      have g3 := HBX2.out.c 3 _ rfl
      dsimp only at g2 g3
      have z2 : IntKind.i64.wrap x.seq = x.seq := IntWalk.i64_in _ (by omega)
      have z3 : IntKind.i64.wrap x.time = x.time := IntWalk.i64_in _ (by omega)
      clear hxlt
      go_wp2_with fail
      go_quiet (fail)
      clear z2 z3 g2 g3
      have HBX3 := Lib.hid (HBX2.out.below (below_drewN (Below.refl _ _) nq))
      have HBB3 := Lib.hid (below_drewN HBB.out nq)
      have HOO3 := Lib.hid (HOO.out.drewN nq)
      have HXL3 := Lib.hid (show X < (wb.drewN nq).heap.size from HXL.out)
      clear HBX2 HBB HOO HXL
      generalize wb.drewN nq = wc at HBX3 HBB3 HOO3 HXL3 ⊢
      have HMD := Lib.hid (made6_walk wc { x with cpu := x.cpu % 4 } ⟨HOK.out.kind, by show 0 ≤ x.cpu % 4 ∧ x.cpu % 4 ≤ 255; omega, HOK.out.seq, HOK.out.time, HOK.out.task, HOK.out.grp, HOK.out.tgt, HOK.out.wt, HOK.out.ticks, HOK.out.got, HOK.out.mask⟩)
      unfold s6A at HMD
      dsimp only at HMD
      have g0 := HBX3.out.c 0 _ rfl
      have g1 := HBX3.out.c 1 _ rfl
      have g2 := HBX3.out.c 2 _ rfl
      have g3 := HBX3.out.c 3 _ rfl
      have g4 := HBX3.out.c 4 _ rfl
      have g5 := HBX3.out.c 5 _ rfl
      have g6 := HBX3.out.c 6 _ rfl
      have g7 := HBX3.out.c 7 _ rfl
      have g8 := HBX3.out.c 8 _ rfl
      have g9 := HBX3.out.c 9 _ rfl
      have g10 := HBX3.out.c 10 _ rfl
      dsimp only at g0 g1 g2 g3 g4 g5 g6 g7 g8 g9 g10
      go_wp2_with fail
      refine HMD.out.mono ?_
      rintro r w5 ⟨⟨m, rfl, hm1, hm2⟩, b5⟩
      have hsn := HTR.out.snoc (by rw [HLE.out]; have := HL.out; omega) (x := { x with cpu := x.cpu % 4 }) ⟨HOK.out.kind, by show 0 ≤ x.cpu % 4 ∧ x.cpu % 4 ≤ 255; omega, HOK.out.seq, HOK.out.time, HOK.out.task, HOK.out.grp, HOK.out.tgt, HOK.out.wt, HOK.out.ticks, HOK.out.got, HOK.out.mask⟩ hm1 hm2 (by show x.cpu % 4 % 64 < 4; omega) (s' := S + 1 + x.seq % 3) (t' := T + x.time % 50) (by omega) (by omega)
      try dsimp only at hsn
      obtain ⟨M, hM⟩ : ∃ M, made6 { x with cpu := x.cpu % 4 } m = M := ⟨_, rfl⟩
      try dsimp only at hM
      rw [hM] at hsn ⊢
      obtain ⟨S2, hS2⟩ : ∃ S2, S + 1 + x.seq % 3 = S2 := ⟨_, rfl⟩
      obtain ⟨T2, hT2⟩ : ∃ T2, T + x.time % 50 = T2 := ⟨_, rfl⟩
      rw [hS2, hT2] at hsn
      simp only [hS2, hT2]
      have HSN := Lib.hid hsn
      have HB5 := Lib.hid (bstep HBB3.out b5)
      have HO5 := Lib.hid (HOO3.out.below b5)
      have HX5 := Lib.hid (Nat.lt_of_lt_of_le HXL3.out b5.size)
      clear hsn hm1 hm2 b5 hM hS2 hT2 g0 g1 g2 g3 g4 g5 g6 g7 g8 g9 g10 HMD HBX3 HBB3 HOO3 HXL3
      have HEB := Lib.hid (show EB (w5.alloc (.cells (encE M).toArray 28)) w5.heap.size M from ⟨heap_alloc_new w5 _⟩)
      have HA := Lib.hid (bel_alloc w5 (.cells (encE M).toArray 28))
      unfold encE at HEB HA
      unfold evA
      go_upto_region 9 with fail
      generalize w5.alloc (.cells #[.int .i64 M.seq, .int .i64 M.time, .int .u8 M.cpu, .int .u8 M.kind, .int .i64 M.task, .int .i64 M.grp, .int .i64 M.to, .int .i64 M.wt, .int .i64 M.ticks, .int .u64 M.mask, .int .i64 M.got] 28) = w6 at HEB HA ⊢
      obtain ⟨Y, hY⟩ : ∃ Y, w5.heap.size = Y := ⟨_, rfl⟩
      have HXY := Lib.hid (show X < Y by rw [← hY]; exact HX5.out)
      have HB6 := Lib.hid (bstep HB5.out HA.out)
      have HO6 := Lib.hid (HO5.out.below HA.out)
      rw [hY] at HEB ⊢
      clear hY HA HB5 HO5 HX5
      have e0 := HEB.out.c 0 _ rfl
      have e1 := HEB.out.c 1 _ rfl
      have f0 := HEB.out.f 0
      have f1 := HEB.out.f 1
      go_upto_region 10 with fail
      have hEB := (HEB.out.set 0 (.int .i64 S2) { M with seq := S2 } rfl).set 1 (.int .i64 T2) { M with seq := S2, time := T2 } rfl
      have hmd := (Mod.setCell (a := w6) (p := ⟨Y, 0, none⟩) (T := fun k => k = Y) (.int .i64 S2) rfl).trans (Mod.setCell (p := ⟨Y, 1, none⟩) (T := fun k => k = Y) (.int .i64 T2) rfl)
      have HB7 := Lib.hid (HB6.out.trans (hmd.below (B := w.heap.size) (fun k hk t => by have := HXY.out; omega) HB6.out.size))
      have HO7 := Lib.hid (HO6.out.mod hmd (fun g q t => by have := HOB.out g q; have := HXY.out; omega))
      have HEB2 := Lib.hid hEB
      clear e0 e1 f0 f1 hEB hmd HEB HB6 HO6
      generalize (w6.setCell ⟨Y, 0, none⟩ (.int .i64 S2)).setCell ⟨Y, 1, none⟩ (.int .i64 T2) = w7 at HEB2 HB7 HO7 ⊢
      have c0 := HEB2.out.c 0 _ rfl
      have c1 := HEB2.out.c 1 _ rfl
      have c2 := HEB2.out.c 2 _ rfl
      have c3 := HEB2.out.c 3 _ rfl
      have c4 := HEB2.out.c 4 _ rfl
      have c5 := HEB2.out.c 5 _ rfl
      have c6 := HEB2.out.c 6 _ rfl
      have c7 := HEB2.out.c 7 _ rfl
      have c8 := HEB2.out.c 8 _ rfl
      have c9 := HEB2.out.c 9 _ rfl
      have c10 := HEB2.out.c 10 _ rfl
      dsimp only at c0 c1 c2 c3 c4 c5 c6 c7 c8 c9 c10
      go_wp2_with (at_builtin; refine wpList_app elemE encE_len encE_one rfl _ _ rfl _ _ rfl rfl (HO7.out.alloc _) (EV.newL (xs := [{ M with seq := S2, time := T2 }]) (n := 1) (c := 1) encE_len rfl rfl (Nat.le_refl _)) ?q1 ?q2 ?_)
      case q1 => have := HLE.out; have := HL.out; simp; omega
      case q2 => have := HB7.out.size; simp; omega
      intro v' w8 o8 g8
      have HO8 := Lib.hid o8
      have hb8 := bstep HB7.out (bel_alloc w7 (.cells #[.int .i64 S2, .int .i64 T2, .int .u8 M.cpu, .int .u8 M.kind, .int .i64 M.task, .int .i64 M.grp, .int .i64 M.to, .int .i64 M.wt, .int .i64 M.ticks, .int .u64 M.mask, .int .i64 M.got] 28))
      have HB8 := Lib.hid (hb8.grown g8 hb8.size (fun g q => (HO7.out.block g q).1))
      clear o8 g8 hb8 c0 c1 c2 c3 c4 c5 c6 c7 c8 c9 c10
      have hL40 := HL.out.2.2
      go_wp2
      go_roundg (L - (j + 1))
      case measure => have := HJ.out; omega
      case rel => exact ⟨j + 1, S2, T2, _, by have := HJ.out; omega, by go_num, rfl, rfl, HSN.out, by simp [HLE.out], HO8.out, HB8.out⟩
    · obtain rfl : L = j := by have := HJ.out; omega
      go_wp2
      go_ret
      exact ⟨_, tr, rfl, HO.out, HTR.out.tr, HLE.out, HB.out⟩
end Go.Proofs.YtalophngappkhaaGreatDoor
namespace Go.Proofs.YtalophngappkhaaGreatDoor
open Go Go.RowKit Go.Shelf

/-- A slice as three numbers. -/
abbrev Sl3 := Option Addr × Nat × Nat
def slV (x : Sl3) : Value := .slice x.1 x.2.1 x.2.2
/-- Blocks whose events are slices. -/
def encSb (x : Sl3 × Bck) : List Value := [.int .u8 x.2.kind, .int .u8 x.2.cpu, .int .i64 x.2.lost, .int .i64 x.2.next, slV x.1]
theorem encSb_len (x : Sl3 × Bck) : (encSb x).length = 5 := rfl
theorem encSb_one : ∀ x, ∀ u ∈ encSb x, u.oneCell' = true := by
  intro x u hu
  simp only [encSb, slV, List.mem_cons, List.not_mem_nil, or_false] at hu
  rcases hu with rfl | rfl | rfl | rfl | rfl <;> rfl
theorem elemBk : ElemT Tryz.prog 30 24 5 48 := ⟨Tryz.underlying30, by
  have h : (Tryz.prog.info? 24).map (fun i => (i.zero, i.size, i.bytes)) = some (some (.agg #[.int .u8 0, .int .u8 0, .int .i64 0, .int .i64 0, .slice none 0 0]), 5, 48) := by kernel_rfl
  obtain ⟨i, h1, h2, h3, h4⟩ := info_parts h
  exact ⟨i, _, h1, h2, h3, h4, rfl⟩, by omega, by omega⟩
def sbV (x : Sl3 × Bck) : Value × Bck := (slV x.1, x.2)
theorem EV.sb {w : World} {v : Value} {xs : List (Sl3 × Bck)} (h : EV encSb 5 w v xs) : EV encBk 5 w v (xs.map sbV) := EV.recode h (by rw [List.map_map]; rfl)
theorem sb_snd (xs : List (Sl3 × Bck)) : (xs.map sbV).map Prod.snd = xs.map Prod.snd := by rw [List.map_map]; rfl
/-- The blocks so far, whose events lie in rows that are not written any more. -/
structure CutW (w W : World) (o : Value) (xs : List (Sl3 × Bck)) : Prop where
  row : OV encSb 5 24 w.heap.size W o xs
  evs : ∀ x ∈ xs, EV encE 11 W (slV x.1) x.2.evs
  dis : ∀ x ∈ xs, ∀ a, x.1.1 = some a → o.ownBlock ≠ some a.block
  bel : Below w.heap.size w W
theorem CutW.nil (w : World) : CutW w w (.slice none 0 0) [] := ⟨OV.nil _ _, fun x h => (by cases h), fun x h => (by cases h), Below.refl _ _⟩
theorem CutW.below {w W W' : World} {o : Value} {xs : List (Sl3 × Bck)} (h : CutW w W o xs) (hb : Below W.heap.size W W') : CutW w W' o xs :=
  ⟨h.row.below hb, fun x hx => (h.evs x hx).below hb, h.dis, bstep h.bel hb⟩
theorem EV.lt {α : Type} {enc : α → List Value} {k : Nat} {w : World} {x : Sl3} {xs : List α} (h : EV enc k w (slV x) xs) (hne : 0 < xs.length) (hk : ∀ x, 0 < (enc x).length) : ∃ a, x.1 = some a ∧ a.block < w.heap.size := by
  obtain ⟨b, off, c, hs, _, hr⟩ := h.row hne
  unfold slV at hs
  simp only [Value.slice.injEq] at hs
  exact ⟨_, hs.1, hr.lt hne hk⟩
/-- One block more. -/
theorem CutW.app {w W W' : World} {o o' : Value} {xs : List (Sl3 × Bck)} {x : Sl3 × Bck} (h : CutW w W o xs) (hne : ∀ y ∈ xs, 0 < y.2.evs.length) (hxe : 0 < x.2.evs.length) (hx : EV encE 11 W (slV x.1) x.2.evs) (hd : ∀ a, x.1.1 = some a → o.ownBlock ≠ some a.block)
    (ho : OV encSb 5 24 w.heap.size W' o' (xs ++ [x])) (hg : W.grownBy W' o.ownBlock) (ha : o'.ownBlock = o.ownBlock ∨ o'.ownBlock = some W.heap.size) : CutW w W' o' (xs ++ [x]) := by
  have key : ∀ y, (y ∈ xs ∨ y = x) → EV encE 11 W (slV y.1) y.2.evs ∧ (∀ a, y.1.1 = some a → o.ownBlock ≠ some a.block) ∧ 0 < y.2.evs.length := by
    rintro y (hy | rfl)
    · exact ⟨h.evs y hy, h.dis y hy, hne y hy⟩
    · exact ⟨hx, hd, hxe⟩
  have hm : ∀ y, y ∈ xs ++ [x] → (y ∈ xs ∨ y = x) := fun y hy => by simpa using hy
  refine ⟨ho, fun y hy => ?_, fun y hy a hya => ?_, h.bel.grown hg h.bel.size (fun k e => (h.row.block k e).1)⟩
  · obtain ⟨k1, k2, _⟩ := key y (hm y hy)
    exact k1.grown hg (fun b f n c he => by
      unfold slV at he
      simp only [Value.slice.injEq] at he
      exact k2 _ he.1)
  · obtain ⟨k1, k2, k3⟩ := key y (hm y hy)
    rcases ha with e | e
    · rw [e]; exact k2 a hya
    · rw [e]
      obtain ⟨a', h1, h2⟩ := k1.lt k3 (fun x => by simp [encE])
      rw [hya] at h1
      cases h1
      intro e'
      simp only [Option.some.injEq] at e'
      omega
theorem cpuq_take {l : List Ev} {j : Nat} {e : Ev} (q : Nat) (h : l[j]? = some e) : cpuL (l.take (j + 1)) q = cpuL (l.take j) q ++ (if e.cpu = (q : Int) then [e] else []) := by
  unfold cpuL
  rw [List.take_add_one, h, List.filter_append]
  by_cases hi : e.cpu = (q : Int)
  · rw [if_pos hi]; simp [hi]
  · rw [if_neg hi]; simp [hi]
/-- A piece of a row. -/
theorem EV.piece {α : Type} {enc : α → List Value} {k : Nat} {w : World} {xs : List α} {b off n c i m : Nat} (h : EV enc k w (.slice (some ⟨b, off, none⟩) n c) xs) (hn : xs.length = n) (hi : i ≤ n) (hm : i + m ≤ n) :
    EV enc k w (.slice (some ⟨b, off + i * k, none⟩) m (c - i)) ((xs.drop i).take m) :=
  (h.row_drop (by omega) hn.symm).row_take (by rw [List.length_drop]; omega) (by rw [List.length_drop, hn])
/-- What Cut returns. -/
structure CutP (w W : World) (v : Value) (tr : List Ev) (xs : List (Sl3 × Bck)) (nx : Int) : Prop where
  row : OV encSb 5 24 w.heap.size W v (xs ++ [((none, 0, 0), bkE nx)])
  evs : ∀ x ∈ xs, EV encE 11 W (slV x.1) x.2.evs
  cut : CutR tr (xs.map Prod.snd) nx
  bel : Below w.heap.size w W
end Go.Proofs.YtalophngappkhaaGreatDoor
namespace Go.Proofs.YtalophngappkhaaGreatDoor
open Go Go.RowKit Go.Shelf
attribute [local go_sem] Oper.semAt_some
set_option maxHeartbeats 800000 in
theorem grow_bk (w : World) (n : Nat) (hn : n ≤ 1000000000) :
    Calls Tryz.prog 64 #[.slice none 0 0, .int .i64 n] w fun e w' => ∃ v, e = .returned v ∧ OV encSb 5 24 w.heap.size w' v [] ∧ Below w.heap.size w w' := by
  rcases Nat.eq_zero_or_pos n with rfl | h0
  · go_enter Tryz.func64, Tryz.ntmps64
    go_wp2
    go_ret
    exact ⟨_, rfl, OV.nil _ _, Below.refl _ _⟩
  · go_enter Tryz.func64, Tryz.ntmps64
    go_wp2_with (at_builtin; refine wpList_grow0 (enc := encSb) elemBk Tryz.underlying3 rfl _ _ rfl n rfl rfl h0 hn ?_)
    intro cap w1 hc ho hb
    have HO := Lib.hid ho
    have HB := Lib.hid hb
    clear ho hb
    go_wp2
    go_ret
    exact ⟨_, rfl, HO.out, HB.out⟩
set_option maxRecDepth 100000 in
set_option maxHeartbeats 1600000 in
theorem concat_bk (w0 : World) (v : Value) (xss : List (Value × List (Sl3 × Bck))) (hv : EV encVs 1 w0 v xss) (hx : ∀ x ∈ xss, EV encSb 5 w0 x.1 x.2) (hm : xss.length ≤ 1000000) (hT : (xss.flatMap Prod.snd).length ≤ 10000000) :
    Calls Tryz.prog 33 #[v] w0 fun e w' => ∃ v', e = .returned v' ∧ OV encSb 5 24 w0.heap.size w' v' (xss.flatMap Prod.snd) ∧ Below w0.heap.size w0 w' := by
  obtain ⟨A, c, rfl⟩ := hv.shape
  have HV := Lib.hid hv
  have HX := Lib.hid hx
  have HTT := Lib.hid hT
  obtain ⟨m, hmm⟩ : ∃ m, m = xss.length := ⟨_, rfl⟩
  have HM := Lib.hid hmm
  rw [← hmm] at hm ⊢
  have HTL := Lib.hid (fun j => tot_le xss j)
  obtain ⟨S, hS⟩ : ∃ S, S = (xss.flatMap Prod.snd).length := ⟨_, rfl⟩
  have HS := Lib.hid hS
  have hS2 : S ≤ 10000000 := by omega
  have HGR := Lib.hid (fun wx => grow_bk wx S (by omega))
  clear hv hx hmm hT hS
  go_enter Tryz.func33, Tryz.ntmps33
  go_wp2
  go_loopg [3, 11] m (fun k z i wr => ∃ j : Nat, j + k = m ∧ i = .int .i64 j ∧ z = .int .i64 (((xss.take j).flatMap Prod.snd).length : Nat) ∧ wr = w0)
  case atStart => exact ⟨0, by omega, rfl, rfl, rfl⟩
  case round =>
    obtain ⟨j, hj, rfl, rfl, rfl⟩ := hrel
    have HJ := Lib.hid hj
    clear hj
    by_cases hlt : j < m
    · obtain ⟨b, off, c', hsl, hcc, hr⟩ := HV.out.row (by have := HM.out; omega)
      cases hsl
      obtain ⟨x, hx⟩ : ∃ x, xss[j]? = some x := ⟨_, List.getElem?_eq_getElem (by rw [← HM.out]; exact hlt)⟩
      have g0 := hr.vs hx
      obtain ⟨A', c2, hA⟩ := (HX.out x (List.mem_of_getElem? hx)).shape
      rw [hA] at g0
      have HST := Lib.hid (tot_step hx)
      have q1 := HTL.out (j + 1)
      rw [HST.out] at q1
      have q2 : ((xss.take j).flatMap Prod.snd).length + x.2.length ≤ S := by rw [HS.out]; exact q1
      generalize ((xss.take j).flatMap Prod.snd).length = T0 at q1 q2 HST ⊢
      generalize x.2.length = T1 at q1 q2 HST g0 ⊢
      have q3 : wrap64 ((T0 : Int) + (T1 : Int)) = ((T0 + T1 : Nat) : Int) := by rw [show (T0 : Int) + (T1 : Int) = ((T0 + T1 : Nat) : Int) by omega]; exact IntWalk.wrap64_in _ (by omega)
      have q4 : decide (((T0 : Int) + (T1 : Int)) < 0) = false := by simp; omega
      clear hr hx hA q1
      go_wp2
      go_roundg (gk - 1)
      case measure => have := HJ.out; omega
      case rel => exact ⟨j + 1, by have := HJ.out; omega, by go_num, by rw [HST.out]; first | rfl | (congr 1) | (congr 1; omega), rfl⟩
    · obtain rfl : m = j := by have := HJ.out; omega
      rw [List.take_of_length_le (show xss.length ≤ m by rw [HM.out]; exact Nat.le_refl _), ← HS.out]
      go_wp2_with fail
      refine (HGR.out _).mono ?_
      rintro e w1 ⟨v, rfl, ho, hb⟩
      have HO := Lib.hid ho
      have HB := Lib.hid hb
      clear ho hb
      obtain ⟨ws, hws⟩ : ∃ ws, ws = wr := ⟨_, rfl⟩
      subst hws
      go_wp2
      go_loopg [6, 27] m (fun k v i wq => ∃ j : Nat, j + k = m ∧ i = .int .i64 j ∧ OV encSb 5 24 ws.heap.size wq v ((xss.take j).flatMap Prod.snd) ∧ Below ws.heap.size ws wq)
      case atStart => exact ⟨0, by omega, rfl, HO.out, HB.out⟩
      case round =>
        obtain ⟨j, hj, rfl, ho, hb⟩ := hrel
        have HJ := Lib.hid hj
        have HO2 := Lib.hid ho
        have HB2 := Lib.hid hb
        clear ho hb hj
        by_cases hlt : j < m
        · have hev := HV.out.below HB2.out
          obtain ⟨b, off, c', hsl, hcc, hr⟩ := hev.row (by have := HM.out; omega)
          cases hsl
          obtain ⟨x, hx⟩ : ∃ x, xss[j]? = some x := ⟨_, List.getElem?_eq_getElem (by rw [← HM.out]; exact hlt)⟩
          have g0 := hr.vs hx
          have hxe := (HX.out x (List.mem_of_getElem? hx)).below HB2.out
          have HST := Lib.hid (tot_cat hx)
          have HXE := Lib.hid hxe
          have HQ := Lib.hid (show ((xss.take j).flatMap Prod.snd).length + x.2.length ≤ 1000000000 by
            have q1 := HTL.out (j + 1)
            rw [HST.out, List.length_append] at q1
            have := HTT.out; omega)
          clear hr hx hev hxe
          go_wp2_with (at_builtin; refine wpList_app elemBk encSb_len encSb_one rfl _ _ rfl _ _ rfl rfl HO2.out HXE.out ?q1 ?q2 ?_)
          case q1 => exact HQ.out
          case q2 => exact HB2.out.size
          intro v' w3 ho3 hg3
          have HO3 := Lib.hid ho3
          have HB3 := Lib.hid (HB2.out.grown hg3 HB2.out.size (fun k hk => (HO2.out.block k hk).1))
          clear ho3 hg3
          go_wp2
          go_roundg (m - (j + 1))
          case measure => have := HJ.out; omega
          case rel => exact ⟨j + 1, by have := HJ.out; omega, by go_num, by rw [HST.out]; exact HO3.out, HB3.out⟩
        · obtain rfl : m = j := by have := HJ.out; omega
          rw [List.take_of_length_le (show xss.length ≤ m by rw [HM.out]; exact Nat.le_refl _)] at HO2
          go_wp2
          go_ret
          exact ⟨_, rfl, HO2.out, HB2.out⟩
set_option maxHeartbeats 400000 in
theorem clone_bk (w : World) (v1 : Value) (xs : List (Sl3 × Bck)) (h1 : EV encSb 5 w v1 xs) (b1 : xs.length ≤ 1000000000) :
    Calls Tryz.prog 25 #[v1] w fun e w' => ∃ v, e = .returned v ∧ OV encSb 5 24 w.heap.size w' v xs ∧ Below w.heap.size w w' := by
  obtain ⟨A, c, rfl⟩ := h1.shape
  have H1 := Lib.hid h1
  clear h1
  have heq : ∀ (w : World) (a : Option Addr) (n c n' c' : Nat), (binOp .eql 30 (.slice a n c) (.slice none n' c')).run Tryz.prog w = .ok (.bool a.isNone) w := fun w a n c n' c' => Lib.run_eql_slice_nil w _ _ a n c n' c' Tryz.underlying30
  cases A with
  | none =>
    obtain rfl : xs = [] := by
      rcases H1.out with ⟨h, _⟩ | ⟨_, b, off, c', h, _⟩
      · exact h
      · cases h
    clear H1 b1
    go_enter Tryz.func25, Tryz.ntmps25
    go_wp2
    go_ret
    exact ⟨_, rfl, OV.nil _ _, Below.refl _ _⟩
  | some ad =>
    go_enter Tryz.func25, Tryz.ntmps25
    go_wp2_with (at_builtin; refine wpList_app elemBk encSb_len encSb_one rfl _ _ rfl _ _ rfl rfl (OV.made w 0 #[] (Nat.le_refl _) (Nat.zero_le _) rfl) (H1.out.keep fun p u hc => ?qc) ?qn ?qb ?_)
    case qc => exact (World.cell?_alloc_lt w _ p (cell_lt hc)).trans hc
    case qn => simpa using b1
    case qb => simp
    intro v' w1 hown hgrow
    go_wp2
    go_ret
    refine ⟨v', rfl, by simpa using hown, ((Below.refl _ w).alloc (Nat.le_refl _) _).grown hgrow (by simp) (by intro k hk; simp [Value.ownBlock] at hk; omega)⟩

set_option maxHeartbeats 400000 in
theorem clone_ev (w : World) (v1 : Value) (xs : List (Ev)) (h1 : EV encE 11 w v1 xs) (b1 : xs.length ≤ 1000000000) :
    Calls Tryz.prog 27 #[v1] w fun e w' => ∃ v, e = .returned v ∧ OV encE 11 28 w.heap.size w' v xs ∧ Below w.heap.size w w' := by
  obtain ⟨A, c, rfl⟩ := h1.shape
  have H1 := Lib.hid h1
  clear h1
  have heq : ∀ (w : World) (a : Option Addr) (n c n' c' : Nat), (binOp .eql 22 (.slice a n c) (.slice none n' c')).run Tryz.prog w = .ok (.bool a.isNone) w := fun w a n c n' c' => Lib.run_eql_slice_nil w _ _ a n c n' c' Tryz.underlying22
  cases A with
  | none =>
    obtain rfl : xs = [] := by
      rcases H1.out with ⟨h, _⟩ | ⟨_, b, off, c', h, _⟩
      · exact h
      · cases h
    clear H1 b1
    go_enter Tryz.func27, Tryz.ntmps27
    go_wp2
    go_ret
    exact ⟨_, rfl, OV.nil _ _, Below.refl _ _⟩
  | some ad =>
    go_enter Tryz.func27, Tryz.ntmps27
    go_wp2_with (at_builtin; refine wpList_app elemE encE_len encE_one rfl _ _ rfl _ _ rfl rfl (OV.made w 0 #[] (Nat.le_refl _) (Nat.zero_le _) rfl) (H1.out.keep fun p u hc => ?qc) ?qn ?qb ?_)
    case qc => exact (World.cell?_alloc_lt w _ p (cell_lt hc)).trans hc
    case qn => simpa using b1
    case qb => simp
    intro v' w1 hown hgrow
    go_wp2
    go_ret
    refine ⟨v', rfl, by simpa using hown, ((Below.refl _ w).alloc (Nat.le_refl _) _).grown hgrow (by simp) (by intro k hk; simp [Value.ownBlock] at hk; omega)⟩

end Go.Proofs.YtalophngappkhaaGreatDoor
namespace Go.Proofs
open Go.Shelf
def Tryz.revBk_ren : Go.Shelf.Ren := ⟨fun | 35 => 70 | n => n, fun | 22 => 30 | 23 => 24 | 3 => 3 | 4 => 4 | 0 => 0 | n => n, fun | n => n⟩
theorem Tryz.revBk : Go.Proofs.SlLaysE0.n35 Tryz.prog Tryz.revBk_ren := {
  mixed := by kernel_rfl
  f35 := ⟨Tryz.f70.name, by decide, Tryz.func70.trans (congrArg some (by kernel_rfl))⟩
  t0 := Tryz.underlying0
  a0 := Tryz.isAgg0
  z0 := Tryz.sizeOf0
  v0 := Tryz.zeroValue0
  t3 := Tryz.underlying3
  a3 := Tryz.isAgg3
  z3 := Tryz.sizeOf3
  v3 := Tryz.zeroValue3
  t4 := Tryz.underlying4
  a4 := Tryz.isAgg4
  z4 := Tryz.sizeOf4
  v4 := Tryz.zeroValue4
  t22 := Tryz.underlying30
  a22 := Tryz.isAgg30
  z22 := Tryz.sizeOf30
  v22 := Tryz.zeroValue30 }
end Go.Proofs
namespace Go.Proofs.YtalophngappkhaaGreatDoor
open Go Go.RowKit Go.Shelf Go.Sort
attribute [local go_sem] Oper.semAt_some

instance : Inhabited Bck := ⟨⟨0, 0, 0, 0, []⟩⟩
theorem grow_nil (w : World) : Go.Sort.grow w #[] = w := by
  unfold Go.Sort.grow; simp
set_option maxHeartbeats 1000000 in
theorem reverse_bk (w : World) (v : Value) (xs : List (Sl3 × Bck)) (base : Nat) (h : OV encSb 5 24 base w v xs) (hb : xs.length ≤ 1000000000) :
    Calls Tryz.prog 70 #[v] w fun e w' => e = .returned (.tuple #[]) ∧ OV encSb 5 24 base w' v xs.reverse ∧ w.grownBy w' v.ownBlock := by
  rcases h.2 with ⟨rfl, h0⟩ | ⟨g, cap, cur, rfl, hbg, hg, hnc, hcm, hcs, htake⟩
  · obtain rfl : xs = [] := List.eq_nil_of_length_eq_zero h0
    refine (AnyQ.slices_Reverse_empty Tryz.revBk none 0 w).mono ?_
    rintro e w' ⟨rfl, rfl⟩
    exact ⟨rfl, h, ⟨rfl, rfl, rfl, Nat.le_refl _, fun _ _ _ => rfl⟩⟩
  · refine (AnyQ.slices_Reverse Tryz.revBk 5 (fun w => by kernel_rfl) (fun w => by kernel_rfl) encSb encSb_len encSb_one g 0 cap xs.toArray w (holdsK_row encSb_len (by decide) hg htake) (by simp; omega)).mono ?_
    rintro e w' ⟨rfl, n, rfl⟩
    have e1 : putRowK encSb 5 (Sort.ahead w n) g 0 xs.toArray.reverse = sortWorldK encSb 5 w g 0 n xs.reverse.toArray #[] := by
      unfold sortWorldK; rw [grow_nil]; simp
    rw [e1]
    have h2 := sortedK_row (enc := encSb) (k := 5) encSb_len (by decide) (w := w) (n := n) (os := #[]) (ts := xs.reverse) (m := xs.length) (by simp) hbg hg hnc hcm hcs
    exact ⟨rfl, by simpa using h2, sortedK_grown _⟩
end Go.Proofs.YtalophngappkhaaGreatDoor
namespace Go.Proofs.YtalophngappkhaaGreatDoor
open Go Go.RowKit Go.Shelf
attribute [local go_sem] Oper.semAt_some

/-- slices.Concat of two slices of blocks, as it is called with a literal. -/
theorem concat2_bk (w : World) (A1 A2 : Option Addr) (n1 c1 n2 c2 m : Nat) (xs ys : List (Sl3 × Bck)) (hm : w.heap.size = m) (h1 : EV encSb 5 w (.slice A1 n1 c1) xs) (h2 : EV encSb 5 w (.slice A2 n2 c2) ys) (b1 : xs.length ≤ 100000) (b2 : ys.length ≤ 100000) :
    Calls Tryz.prog 33 #[.slice (some ⟨m, 0, none⟩) 2 2] (w.alloc (.cells #[.slice A1 n1 c1, .slice A2 n2 c2] 30)) fun e w' => ∃ v', e = .returned v' ∧ OV encSb 5 24 w.heap.size w' v' (xs ++ ys) ∧ Below w.heap.size w w' := by
  have hb := bel_alloc w (.cells #[.slice A1 n1 c1, .slice A2 n2 c2] 30)
  refine (concat_bk _ _ [(.slice A1 n1 c1, xs), (.slice A2 n2 c2, ys)] ?_ ?_ (by simp) (by simp; omega)).mono ?_
  · subst hm
    exact EV.newL (xs := [(Value.slice A1 n1 c1, xs), (Value.slice A2 n2 c2, ys)]) (n := 2) (c := 2) encVs_len rfl rfl (Nat.le_refl _)
  · intro x hx
    simp only [List.mem_cons, List.not_mem_nil, or_false] at hx
    rcases hx with rfl | rfl
    · exact h1.below hb
    · exact h2.below hb
  · rintro e w' ⟨v', rfl, o, b⟩
    exact ⟨v', rfl, by simpa using o.base_le (by simp), bstep hb b⟩
set_option maxRecDepth 100000 in
set_option maxHeartbeats 1600000 in
theorem turned_ok (w : World) (v : Value) (xs : List (Sl3 × Bck)) (by_ : Int) (hv : EV encSb 5 w v xs) (h0 : 0 < xs.length) (hl : xs.length ≤ 1000) (d1 : 0 ≤ by_) (d2 : by_ ≤ 255) :
    Calls Tryz.prog 39 #[v, .int .u8 by_] w fun r w' => ∃ v' ys, r = .returned v' ∧ OV encSb 5 24 w.heap.size w' v' ys ∧ ys.Perm xs ∧ Below w.heap.size w w' := by
  obtain ⟨b, off, c, rfl, hc, hr⟩ := hv.row h0
  obtain ⟨n, hn⟩ : ∃ n, xs.length = n := ⟨_, rfl⟩
  have HN := Lib.hid hn
  have HV := Lib.hid hv
  rw [hn] at h0 hl hc HV ⊢
  obtain ⟨k, hk⟩ : ∃ k : Nat, by_ % ((n : Int) + 1) = (k : Int) := ⟨(by_ % ((n : Int) + 1)).toNat, by have := Int.emod_nonneg by_ (show (n : Int) + 1 ≠ 0 by omega); omega⟩
  have hkn : k ≤ n := by have := Int.emod_lt_of_pos by_ (show (0 : Int) < (n : Int) + 1 by omega); omega
  have hkc : k ≤ c := by omega
  have hnz : ¬ (n : Int) + 1 = 0 := by omega
  have HK := Lib.hid hk
  have e1 : EV encSb 5 w (.slice (some ⟨b, off + k * 5, none⟩) (n - k) (c - k)) (xs.drop k) := by
    rw [← hn]
    exact EV.row_drop (j := k) hv (by omega) rfl
  have e2 : EV encSb 5 w (.slice (some ⟨b, off, none⟩) k c) (xs.take k) := EV.row_take (j := k) hv (by omega) rfl
  have E1 := Lib.hid e1
  have E2 := Lib.hid e2
  have HB := Lib.hid (And.intro hl hkn)
  have hki : (0 : Int) ≤ (k : Int) := by omega
  have hki2 : (k : Int) ≤ (n : Int) := by omega
  have hki3 : (k : Int) ≤ (c : Int) := by omega
  clear hv hr e1 e2
  go_enter Tryz.func39, Tryz.ntmps39
  go_upto_region 2 with fail
  rw [hk]
  clear hk hnz
  rcases Nat.lt_or_ge k c with hkc2 | hkc2
  · have hne : ¬ c = k := by omega
    have HZ := Lib.hid E1.out
    go_still_tail 6, (by kernel_rfl)
    change wpList _ _ _ _ _ w.drew
    have HE0 := Lib.hid (show EV encSb 5 w.drew (.slice (some ⟨b, off + k * 5, none⟩) (n - k) (c - k)) (xs.drop k) from HZ.out)
    have HE2 := Lib.hid (show EV encSb 5 w.drew (.slice (some ⟨b, off, none⟩) k c) (xs.take k) from E2.out)
    have HBB := Lib.hid (below_drew (Below.refl w.heap.size w))
    clear HZ E1 E2
    generalize w.drew = wd at HE0 HE2 HBB ⊢
    go_wp2_with fail
    refine (concat2_bk wd _ _ _ _ _ _ _ (xs.drop k) (xs.take k) rfl HE0.out HE2.out (by rw [List.length_drop, HN.out]; omega) (by rw [List.length_take, HN.out]; omega)).mono ?_
    rintro r w2 ⟨v2, rfl, o2, b2⟩
    have hp2 : (xs.drop k ++ xs.take k).Perm xs := List.perm_append_comm.trans (by rw [List.take_append_drop])
    have HP2 := Lib.hid hp2
    have HO2 := Lib.hid o2
    have HB2 := Lib.hid (bstep HBB.out b2)
    have HSZ := Lib.hid HBB.out.size
    clear hp2 o2 b2 HE0 HE2
    by_cases hb2 : by_ % 2 = 1
    · have hd : (by_ % 2 == 1) = true := by simpa using hb2
      have hz0 : 0 ≤ by_ % 2 := by omega
      clear hb2
      go_wp2_with fail
      refine (reverse_bk w2 v2 _ wd.heap.size HO2.out (by have := HP2.out.length_eq; rw [HN.out] at this; have := HB.out; omega)).mono ?_
      rintro r w3 ⟨rfl, o3, g3⟩
      have HO3 := Lib.hid (o3.base_le HSZ.out)
      have HB3 := Lib.hid (HB2.out.grown g3 HB2.out.size (fun k e => by have := (HO2.out.block k e).1; have := HSZ.out; omega))
      clear o3 g3
      go_wp2
      go_ret
      exact ⟨_, _, rfl, HO3.out, (List.reverse_perm _).trans HP2.out, HB3.out⟩
    · have hb3 : by_ % 2 = 0 := by omega
      have hd : (by_ % 2 == 1) = false := by rw [hb3]; rfl
      clear hb2 hb3
      go_wp2
      go_ret
      exact ⟨_, _, rfl, HO2.out.base_le HSZ.out, HP2.out, HB2.out⟩
  · obtain rfl : c = k := by omega
    obtain rfl : n = c := by omega
    have HZ := Lib.hid (show EV encSb 5 w (.slice (some ⟨b, off, none⟩) 0 0) (xs.drop n) from .inl ⟨List.drop_of_length_le (by rw [HN.out]; exact Nat.le_refl _), _, _, rfl⟩)
    go_still_tail 6, (by kernel_rfl)
    change wpList _ _ _ _ _ w.drew
    have HE0 := Lib.hid (show EV encSb 5 w.drew (.slice (some ⟨b, off, none⟩) (0) (0)) (xs.drop n) from HZ.out)
    have HE2 := Lib.hid (show EV encSb 5 w.drew (.slice (some ⟨b, off, none⟩) n n) (xs.take n) from E2.out)
    have HBB := Lib.hid (below_drew (Below.refl w.heap.size w))
    clear HZ E1 E2
    generalize w.drew = wd at HE0 HE2 HBB ⊢
    go_wp2_with fail
    refine (concat2_bk wd _ _ _ _ _ _ _ (xs.drop n) (xs.take n) rfl HE0.out HE2.out (by rw [List.length_drop, HN.out]; omega) (by rw [List.length_take, HN.out]; omega)).mono ?_
    rintro r w2 ⟨v2, rfl, o2, b2⟩
    have hp2 : (xs.drop n ++ xs.take n).Perm xs := List.perm_append_comm.trans (by rw [List.take_append_drop])
    have HP2 := Lib.hid hp2
    have HO2 := Lib.hid o2
    have HB2 := Lib.hid (bstep HBB.out b2)
    have HSZ := Lib.hid HBB.out.size
    clear hp2 o2 b2 HE0 HE2
    by_cases hb2 : by_ % 2 = 1
    · have hd : (by_ % 2 == 1) = true := by simpa using hb2
      have hz0 : 0 ≤ by_ % 2 := by omega
      clear hb2
      go_wp2_with fail
      refine (reverse_bk w2 v2 _ wd.heap.size HO2.out (by have := HP2.out.length_eq; rw [HN.out] at this; have := HB.out; omega)).mono ?_
      rintro r w3 ⟨rfl, o3, g3⟩
      have HO3 := Lib.hid (o3.base_le HSZ.out)
      have HB3 := Lib.hid (HB2.out.grown g3 HB2.out.size (fun k e => by have := (HO2.out.block k e).1; have := HSZ.out; omega))
      clear o3 g3
      go_wp2
      go_ret
      exact ⟨_, _, rfl, HO3.out, (List.reverse_perm _).trans HP2.out, HB3.out⟩
    · have hb3 : by_ % 2 = 0 := by omega
      have hd : (by_ % 2 == 1) = false := by rw [hb3]; rfl
      clear hb2 hb3
      go_wp2
      go_ret
      exact ⟨_, _, rfl, HO2.out.base_le HSZ.out, HP2.out, HB2.out⟩
end Go.Proofs.YtalophngappkhaaGreatDoor
namespace Go.Proofs.YtalophngappkhaaGreatDoor
open Go Go.RowKit Go.Maps

/-- Block b is a map of just c entries that holds F. -/
def MpC (P : Program) (k : TypeId) (w : World) (b c : Nat) (F : Lit → Option Value) : Prop := ∃ D, w.ownsMap P k tokR b c D ∧ Rep D F ∧ Maps.size D = c
section
variable {P : Program} {k e t : TypeId} {w w' : World} {b c : Nat} {F : Lit → Option Value}
theorem MpC.mpv (h : MpC P k w b c F) : MpV P k w b c F := by obtain ⟨D, h1, h2, _⟩ := h; exact ⟨D, h1, h2⟩
theorem MpC.made (P : Program) (k : TypeId) (w : World) : MpC P k (w.alloc (.map #[] 0)) w.heap.size 0 (fun _ => none) :=
  ⟨_, World.ownsMap_made w P k tokR, fun kl => ⟨fun v h => (nomatch h), fun _ => rfl⟩, rfl⟩
theorem MpC.same (h : MpC P k w b c F) (he : w'.heap[b]? = w.heap[b]?) : MpC P k w' b c F := by
  obtain ⟨D, ⟨es, clock, h1, h2⟩, r, hs⟩ := h
  exact ⟨D, ⟨es, clock, he.trans h1, h2⟩, r, hs⟩
theorem MpC.below (h : MpC P k w b c F) (hb : Below w.heap.size w w') : MpC P k w' b c F := h.same (hb.block b h.mpv.lt)
theorem MpC.kept {row : Option Nat} (h : MpC P k w b c F) (hg : w.grownBy w' row) (hne : some b ≠ row) : MpC P k w' b c F := h.same (hg.block b h.mpv.lt hne)
/-- How many entries there are behind a store. -/
def cntP (F : Lit → Option Value) (kl : Lit) (c : Nat) : Nat := if (F kl).isSome then c else c + 1
theorem MpC.update (h : MpC P k w b c F) (K : Keyed P k) (ht : P.underlying t = some (.map k e)) (hn : c < maxLen) {key : Value} {kl : Lit} (hkey : keyOf P k key = some kl) (v : Value) :
    ∃ w', (Instr.mapUpdate t (.map (some b)) key v).run P w = .ok () w' ∧ MpC P k w' b (cntP F kl c) (updF F kl (some v)) ∧ w.grownBy w' (some b) := by
  obtain ⟨D, h, r, hs⟩ := h
  obtain ⟨w', hr, h1, h2⟩ := h.update K ht hn hkey (show tokR v = some (.held v, []) from rfl)
  have hsz : Maps.size (D.put kl (.held v)) = cntP F kl c := by
    rw [size_put (h.tidy K), rep_has r, hs]; rfl
  obtain ⟨es, clock, a1, a2, a3, a4⟩ := h1
  have : es.size = Maps.size (D.put kl (.held v)) := by
    rw [a4]; simp [Maps.size, length_sorted]
  exact ⟨w', hr, ⟨_, ⟨es, clock, a1, a2, by omega, a4⟩, rep_put h.isMap (K.one.key ⟨key, hkey⟩) r v, hsz⟩, h2⟩
theorem MpC.len (h : MpC P k w b c F) (ht : P.underlying t = some (.map k e)) (ty : TypeId) : (Builtin.len_ #[t] ty #[.map (some b)]).run P w = .ok (.int .i64 c) w := by
  obtain ⟨D, h1, _, h3⟩ := h
  rw [h1.len ht ty, h3]
variable {ops : Array Oper} {rest : List Oper} {o : Oper} {a : Act} {Q : Exit → Act → World → Prop}
theorem wpList_putC (hg : o.guard = none) (m x v : Operand) (hop : o.op = Op.mapUpdate t m x v) (K : Keyed P k) (ht : P.underlying t = some (.map k e)) (hm : a.eval m = .map (some b)) (h : MpC P k w b c F) (hn : c < maxLen)
    (key val : Value) (kl : Lit) (hx : a.eval x = key) (hv : a.eval v = val) (hkey : keyOf P k key = some kl) (hK : ∀ w', MpC P k w' b (cntP F kl c) (updF F kl (some val)) → w.grownBy w' (some b) → wpList P ops Q rest (a.put o.dst undef) w') : wpList P ops Q (o :: rest) a w := by
  obtain ⟨w', hr, h1, h2⟩ := h.update K ht hn hkey val
  refine wpList_plain hg fun _ hK' => ?_
  unfold Oper.wp
  simp [execOp, hop, hm, hx, hv, hr, Result.andThen]
  exact hK' _ _ (hK w' h1 h2)
end
/-- A map holds just these numbers. -/
def TB (F : Lit → Option Value) (l : List Int) : Prop := ∀ n : Int, F (.int .i64 n) = if n ∈ l then some (.bool true) else none
theorem TB.nil : TB (fun _ => none) [] := fun n => by simp
theorem TB.snoc {F : Lit → Option Value} {l : List Int} (h : TB F l) (n : Int) : TB (updF F (.int .i64 n) (some (.bool true))) (l ++ [n]) := fun m => by
  by_cases e : m = n
  · subst e; rw [updF_same]; simp
  · rw [updF_ne (by simpa using e), h m]
    by_cases hm : m ∈ l <;> simp [hm, e]
theorem TB.new {F : Lit → Option Value} {l : List Int} (h : TB F l) {n : Int} (hn : n ∉ l) (c : Nat) : cntP F (.int .i64 n) c = c + 1 := by
  unfold cntP; rw [h n, if_neg hn]; rfl
end Go.Proofs.YtalophngappkhaaGreatDoor

/- quantumref01.Write and WriteAll: the bytes of numbers | quantumref06.Values | quantumref07.right and Put, where the event and the base are right. -/
import Derived.Test.YtalophngappkhaaGreatDoorV7
import Derived.Test.YtalophngappkhaaGreatDoorV26
import Derived.Test.YtalophngappkhaaGreatDoorV8
set_option linter.unusedVariables false
set_option linter.unusedSimpArgs false
set_option linter.unusedSectionVars false
namespace Go.Proofs.YtalophngappkhaaGreatDoor
open Go Go.RowKit Go.Shelf
attribute [local go_sem] Oper.semAt_some

set_option maxRecDepth 100000 in
set_option maxHeartbeats 3200000 in
theorem r1write_ok (w : World) (x : Nat) (hx : x < 18446744073709551616) :
  Calls Tryz.prog 124 #[.int .u64 (x : Nat)] w fun r w' => ∃ v, r = .returned v ∧ OV encB 1 5 w.heap.size w' v (vbytes x) ∧ Below w.heap.size w w' := by
 obtain ⟨m, hm⟩ : ∃ m, (vsteps x).length = m := ⟨_, rfl⟩
 have HM := Lib.hid hm
 have HL := Lib.hid (show m ≤ 10 by rw [← hm]; exact vsteps_len 9 x (Nat.lt_of_lt_of_le hx (by decide)))
 have HX := Lib.hid hx
 clear hm
 go_enter Tryz.func124, Tryz.ntmps124
 go_wp2
 go_loopg [0, 3] m (fun k a o wr => ∃ j y : Nat, j + k = m ∧ (vsteps x)[j]? = some y ∧ a = .int .u64 (y : Nat) ∧ OV encB 1 5 w.heap.size wr o ((vbytes x).take j) ∧ Below w.heap.size w wr)
 case atStart => exact ⟨0, x, by omega, vsteps_head x, rfl, OV.nil _ _, Below.refl _ _⟩
 case round =>
  obtain ⟨j, y, hj, hy, rfl, ho, hb⟩ := hrel
  have HJ := Lib.hid hj
  have HY := Lib.hid hy
  have HO := Lib.hid ho
  have HB := Lib.hid hb
  clear hj ho hb
  obtain ⟨h1, h2, h3⟩ := vsteps_at x x j y (Nat.le_refl _) hy
  have HA := Lib.hid (And.intro h2 h3)
  have HTK := Lib.hid (show (vbytes x).take (j + 1) = (vbytes x).take j ++ [vbyte y] by rw [List.take_add_one, show (vbytes x)[j]? = some (vbyte y) by unfold vbytes; rw [List.getElem?_map, hy]; rfl]; rfl)
  clear hy h2 h3
  have HXJ := Lib.hid (show ((vbytes x).take j).length ≤ 10 by have h1 := (vbytes_len x HX.out).2; rw [List.length_take]; omega)
  by_cases hge : 128 ≤ y
  ·have d1 : decide ((128 : Int) ≤ (y : Int)) = true := by simp; omega
   have HNW := Lib.hid (fun (W : World) => show EV encB 1 (W.alloc (.cells #[.int .u8 (128 + (y : Int) % 128)] 5)) (.slice (some ⟨W.heap.size, 0, none⟩) 1 1) [vbyte y] from by
    rw [show (128 : Int) + (y : Int) % 128 = ((vbyte y : Nat) : Int) by unfold vbyte; rw [if_pos (by omega)]; push_cast; omega]
    exact EV.newL encB_len rfl rfl (Nat.le_refl _))
   have HA2 := Lib.hid (HA.out.2 (by omega))
   have HJ2 := Lib.hid (show j + 1 < m by rw [← HM.out]; exact (List.getElem?_eq_some_iff.1 HA2.out).1)
   have hy64 : y < 18446744073709551616 := by omega
   clear hge
   go_wp2_with (at_builtin; refine wpList_app elemB encB_len encB_one rfl _ _ rfl _ _ rfl rfl (HO.out.alloc _) (HNW.out wr) ?q1 ?q2 ?_)
   case q1 => have := HXJ.out; rw [List.length_singleton]; omega
   case q2 => have := HB.out.size; simp; omega
   intro v' w3 o3 g3
   rw [← HTK.out] at o3
   have hal := bel_alloc wr (.cells #[.int .u8 (128 + (y : Int) % 128)] 5)
   have HO3 := Lib.hid o3
   have HB3 := Lib.hid ((bstep HB.out hal).grown g3 (bstep HB.out hal).size (fun g q => (HO.out.block g q).1))
   clear o3 g3 hal
   go_wp2
   go_roundg (gk - 1)
   case measure => have := HJ.out; have := HJ2.out; omega
   case rel => exact ⟨j + 1, y / 128, by have := HJ.out; have := HJ2.out; omega, HA2.out, by go_num, HO3.out, HB3.out⟩
  ·have d1 : decide ((128 : Int) ≤ (y : Int)) = false := by simp; omega
   have hlen := HA.out.1 (by omega)
   have HNW := Lib.hid (fun (W : World) => show EV encB 1 (W.alloc (.cells #[.int .u8 (y : Int)] 5)) (.slice (some ⟨W.heap.size, 0, none⟩) 1 1) [vbyte y] from by
    rw [show (y : Int) = ((vbyte y : Nat) : Int) by unfold vbyte; rw [if_neg (by omega)]; omega]
    exact EV.newL encB_len rfl rfl (Nat.le_refl _))
   have HVB := Lib.hid (show vbytes x = (vbytes x).take j ++ [vbyte y] by rw [← HTK.out, ← hlen]; unfold vbytes; rw [List.take_of_length_le (by simp)])
   have hw : IntKind.u8.wrap (y : Int) = (y : Int) := by show (y : Int) % 256 = _; omega
   clear hge hlen
   go_wp2_with (at_builtin; refine wpList_app elemB encB_len encB_one rfl _ _ rfl _ _ rfl rfl (HO.out.alloc _) (HNW.out wr) ?q1 ?q2 ?_)
   case q1 => have := HXJ.out; rw [List.length_singleton]; omega
   case q2 => have := HB.out.size; simp; omega
   intro v' w3 o3 g3
   rw [← HVB.out] at o3
   have hal := bel_alloc wr (.cells #[.int .u8 (y : Int)] 5)
   have HO3 := Lib.hid o3
   have HB3 := Lib.hid ((bstep HB.out hal).grown g3 (bstep HB.out hal).size (fun g q => (HO.out.block g q).1))
   clear o3 g3 hal
   go_wp2
   go_ret
   exact ⟨_, rfl, HO3.out, HB3.out⟩
set_option maxRecDepth 100000 in
set_option maxHeartbeats 3200000 in
theorem r1writeall_ok (w : World) (v : Value) (l : List Nat) (hv : EV encN 1 w v l) (hx : ∀ x ∈ l, x < 18446744073709551616) (hl : l.length ≤ 100000) :
  Calls Tryz.prog 125 #[v] w fun r w' => ∃ v', r = .returned v' ∧ OV encB 1 5 w.heap.size w' v' (vall l) ∧ Below w.heap.size w w' := by
 obtain ⟨A, c, hA⟩ := hv.shape
 subst hA
 obtain ⟨n, hn⟩ : ∃ n, l.length = n := ⟨_, rfl⟩
 have HN := Lib.hid hn
 have HX := Lib.hid hx
 rw [hn] at hv hl ⊢
 have HV := Lib.hid hv
 have HL := Lib.hid hl
 clear hv hn hx hl
 go_enter Tryz.func125, Tryz.ntmps125
 go_wp2
 go_loopg [3, 4] n (fun k o i wr => ∃ j : Nat, j + k = n ∧ i = .int .i64 j ∧ OV encB 1 5 w.heap.size wr o (vall (l.take j)) ∧ Below w.heap.size w wr)
 case atStart => exact ⟨0, by omega, rfl, OV.nil _ _, Below.refl _ _⟩
 case round =>
  obtain ⟨j, hj, rfl, ho, hb⟩ := hrel
  have HJ := Lib.hid hj
  have HO := Lib.hid ho
  have HB := Lib.hid hb
  have hl6 := HL.out
  clear hj ho hb
  by_cases hlt : j < n
  ·obtain ⟨b, off, c', hsl, hcc, hr⟩ := (HV.out.below HB.out).row (by rw [HN.out]; omega)
   rw [HN.out] at hsl
   cases hsl
   obtain ⟨x, hxj⟩ : ∃ x, l[j]? = some x := ⟨_, List.getElem?_eq_getElem (by rw [HN.out]; exact hlt)⟩
   have g0 := hr.n1 hxj
   have HXX := Lib.hid (HX.out x (List.mem_of_getElem? hxj))
   have HTK := Lib.hid (vall_take hxj)
   have HLN := Lib.hid (show (vall (l.take j)).length ≤ 1000000 from Nat.le_trans (vall_len _ (fun y hy => HX.out y (List.mem_of_mem_take hy))) (by rw [List.length_take]; omega))
   clear hr hxj
   go_wp2_with fail
   refine (r1write_ok wr x HXX.out).mono ?_
   rintro r w1 ⟨v1, rfl, o1, b1⟩
   have HO1 := Lib.hid (HO.out.below b1)
   have HW1 := Lib.hid (o1.ev encB_len)
   have HB1 := Lib.hid (bstep HB.out b1)
   have HVL := Lib.hid (vbytes_len x HXX.out).2
   clear o1 b1 g0
   go_wp2_with (at_builtin; refine wpList_app elemB encB_len encB_one rfl _ _ rfl _ _ rfl rfl HO1.out HW1.out ?q1 ?q2 ?_)
   case q1 => have := HLN.out; have := HVL.out; omega
   case q2 => exact HB1.out.size
   intro v' w3 o3 g3
   rw [← HTK.out] at o3
   have HO3 := Lib.hid o3
   have HB3 := Lib.hid (HB1.out.grown g3 HB1.out.size (fun g q => (HO1.out.block g q).1))
   clear o3 g3
   go_wp2
   go_roundg (gk - 1)
   case measure => have := HJ.out; omega
   case rel => exact ⟨j + 1, by have := HJ.out; omega, by go_num, HO3.out, HB3.out⟩
  ·obtain rfl : n = j := by have := HJ.out; omega
   have hov := HO.out
   rw [List.take_of_length_le (Nat.le_of_eq HN.out)] at hov
   have HOV := Lib.hid hov
   clear hov
   go_wp2
   go_ret
   exact ⟨_, rfl, HOV.out, HB.out⟩
end Go.Proofs.YtalophngappkhaaGreatDoor
namespace Go.Proofs.YtalophngappkhaaGreatDoor
open Go Go.RowKit Go.Shelf
attribute [local go_sem] Oper.semAt_some

/-- The fields below i of the kind of an event. -/
def valsUp (e : Ev) (i : Nat) : List Nat := ((usesK e.kind.toNat).filter (fun q => decide (q < i))).map fun q => (valV e q).toNat
theorem uses_up : ∀ k < 11, ∀ i < 7, (usesK k).filter (fun q => decide (q < i + 1)) = (usesK k).filter (fun q => decide (q < i)) ++ (if (usesK k).contains i then [i] else []) := by decide
theorem uses_all : ∀ k < 11, (usesK k).filter (fun q => decide (q < 7)) = usesK k := by decide
theorem valsUp_step {e : Ev} {i : Nat} (hk : e.kind.toNat < 11) (hi : i < 7) : valsUp e (i + 1) = valsUp e i ++ (if (usesK e.kind.toNat).contains i then [(valV e i).toNat] else []) := by
 unfold valsUp
 rw [uses_up _ hk i hi, List.map_append]
 split <;> simp
theorem valsUp_all {e : Ev} (hk : e.kind.toNat < 11) : valsUp e 7 = valsE e := by
 unfold valsUp valsE
 rw [uses_all _ hk]
theorem valsUp_len (e : Ev) (i : Nat) : (valsUp e i).length ≤ 4 := by
 unfold valsUp
 rw [List.length_map]
 have h1 := valsE_len e
 unfold valsE at h1
 rw [List.length_map] at h1
 exact Nat.le_trans (List.length_filter_le _ _) h1
set_option maxRecDepth 100000 in
set_option maxHeartbeats 3200000 in
theorem r6values_ok (w : World) (e : Ev) (ho : EvOk e) :
  Calls Tryz.prog 173 #[evA e] w fun r w' => ∃ v, r = .returned (.tuple #[v, .int .i64 (chkEv e)]) ∧ OV encN 1 26 w.heap.size w' v (if chkEv e = 0 then valsE e else []) ∧ Below w.heap.size w w' := by
 have HP := Lib.hid (evp_newT w e 96)
 have HB := Lib.hid (bel_alloc w (.cells #[.int .i64 e.seq, .int .i64 e.time, .int .u8 e.cpu, .int .u8 e.kind, .int .i64 e.task, .int .i64 e.grp, .int .i64 e.to, .int .i64 e.wt, .int .i64 e.ticks, .int .u64 e.mask, .int .i64 e.got] 96))
 have HLT := Lib.hid HP.out.lt
 have HC := Lib.hid (fun W => r6check_ok W e ho)
 have HO := Lib.hid ho
 obtain ⟨K, hK⟩ : ∃ K, chkEv e = K := ⟨_, rfl⟩
 have HK := Lib.hid hK
 rw [hK] at HC ⊢
 obtain ⟨VL, hVL⟩ : ∃ VL, (if K = 0 then valsE e else []) = VL := ⟨_, rfl⟩
 have HVL := Lib.hid (show (K = 0 → VL = valsE e) ∧ (K ≠ 0 → VL = []) from ⟨fun h => by rw [← hVL, if_pos h], fun h => by rw [← hVL, if_neg h]⟩)
 rw [hVL]
 clear hK ho hVL
 unfold evA at HC ⊢
 go_enter Tryz.func173, Tryz.ntmps173
 go_upto_region 1 with fail
 generalize w.alloc (.cells #[.int .i64 e.seq, .int .i64 e.time, .int .u8 e.cpu, .int .u8 e.kind, .int .i64 e.task, .int .i64 e.grp, .int .i64 e.to, .int .i64 e.wt, .int .i64 e.ticks, .int .u64 e.mask, .int .i64 e.got] 96) = w1 at HP HB HLT ⊢
 obtain ⟨X, hX⟩ : ∃ X, w.heap.size = X := ⟨_, rfl⟩
 rw [hX] at HP HLT ⊢
 clear hX
 have c0 := HP.out.c0
 have c1 := HP.out.c1
 have c2 := HP.out.c2
 have c3 := HP.out.c3
 have c4 := HP.out.c4
 have c5 := HP.out.c5
 have c6 := HP.out.c6
 have c7 := HP.out.c7
 have c8 := HP.out.c8
 have c9 := HP.out.c9
 have c10 := HP.out.c10
 go_wp2_with fail
 refine (HC.out w1).mono ?_
 rintro r w2 ⟨rfl, bb⟩
 have HP2 := Lib.hid (HP.out.below bb HLT.out)
 have HB2 := Lib.hid (bstep HB.out bb)
 have HLT2 := Lib.hid (Nat.lt_of_lt_of_le HLT.out bb.size)
 clear bb HP HB HLT HC c0 c1 c2 c3 c4 c5 c6 c7 c8 c9 c10
 by_cases hk : K = 0
 ·have HV0 := Lib.hid (HVL.out.1 hk)
  subst hk
  have hkd := chk_lim HO.out HK.out
  have HKD := Lib.hid (show 0 ≤ e.kind ∧ e.kind ≤ 10 ∧ e.kind.toNat < 11 by have := hkd.1; omega)
  clear hkd
  go_wp2
  go_loopg [5, 6] 7 (fun k o i wr => ∃ j : Nat, j + k = 7 ∧ i = .int .i64 j ∧ OV encN 1 26 w2.heap.size wr o (valsUp e j) ∧ Below w2.heap.size w2 wr)
  case atStart => exact ⟨0, by omega, rfl, by rw [show valsUp e 0 = [] by unfold valsUp; simp]; exact OV.nil _ _, Below.refl _ _⟩
  case round =>
   obtain ⟨j, hj, rfl, ho, hb⟩ := hrel
   have HJ := Lib.hid hj
   have HOV := Lib.hid ho
   have HBR := Lib.hid hb
   clear hj ho hb
   by_cases hlt : j < 7
   ·have d1 : decide ((j : Int) < 7) = true := by simp; omega
    have d2 : decide (j < 7) = true := by simp; omega
    have HPR := Lib.hid (HP2.out.below HBR.out HLT2.out)
    have HST := Lib.hid (valsUp_step HKD.out.2.2 hlt)
    have HLN := Lib.hid (valsUp_len e j)
    have c0 := HPR.out.c0
    have c1 := HPR.out.c1
    have c2 := HPR.out.c2
    have c3 := HPR.out.c3
    have c4 := HPR.out.c4
    have c5 := HPR.out.c5
    have c6 := HPR.out.c6
    have c7 := HPR.out.c7
    have c8 := HPR.out.c8
    have c9 := HPR.out.c9
    have c10 := HPR.out.c10
    go_wp2_with fail
    refine (r6has_ok wr e.kind j ⟨HKD.out.1, HKD.out.2.1⟩ hlt).mono ?_
    rintro r wz ⟨rfl, rfl⟩
    cases hh : hasF e.kind j with
    | true =>
     have HST2 := Lib.hid (show valsUp e (j + 1) = valsUp e j ++ [(valV e j).toNat] by rw [HST.out, if_pos (show (usesK e.kind.toNat).contains j = true from hh)])
     have HFD := Lib.hid (r6field_ok wz j e HO.out hlt)
     unfold evA at HFD
     clear hh
     go_wp2_with fail
     refine HFD.out.mono ?_
     rintro r w4 ⟨rfl, b4⟩
     have HOV4 := Lib.hid (HOV.out.below b4)
     have HB4 := Lib.hid (bstep HBR.out b4)
     have hvl := valV_le e j
     obtain ⟨z, hz⟩ : ∃ z, valV e j = z := ⟨_, rfl⟩
     have HZ := Lib.hid (show z = ((valV e j).toNat : Nat) by rw [hz]; rw [hz] at hvl; omega)
     rw [hz]
     clear hz hvl b4 c0 c1 c2 c3 c4 c5 c6 c7 c8 c9 c10 HFD
     go_wp2_with (at_builtin; refine wpList_app elemN encN_len encN_one rfl _ _ rfl _ _ rfl rfl (HOV4.out.alloc _) (new_one64 rfl HZ.out) ?q1 ?q2 ?_)
     case q1 => have := HLN.out; simp; omega
     case q2 => have := HB4.out.size; simp; omega
     intro v' w5 o5 g5
     rw [← HST2.out] at o5
     have hal := bel_alloc w4 (.cells #[.int .u64 z] 26)
     have HO5 := Lib.hid o5
     have HB5 := Lib.hid ((bstep HB4.out hal).grown g5 (bstep HB4.out hal).size (fun g q => (HOV4.out.block g q).1))
     clear o5 g5 hal
     go_wp2
     go_roundg (gk - 1)
     case measure => have := HJ.out; omega
     case rel => exact ⟨j + 1, by have := HJ.out; omega, by go_num, HO5.out, HB5.out⟩
    | false =>
     have HST2 := Lib.hid (show valsUp e (j + 1) = valsUp e j by rw [HST.out, if_neg (show ¬ (usesK e.kind.toNat).contains j = true by rw [show (usesK e.kind.toNat).contains j = false from hh]; simp), List.append_nil])
     clear hh
     go_wp2
     go_roundg (gk - 1)
     case measure => have := HJ.out; omega
     case rel => exact ⟨j + 1, by have := HJ.out; omega, by go_num, by rw [HST2.out]; exact HOV.out, HBR.out⟩
   ·obtain rfl : j = 7 := by have := HJ.out; omega
    have hov := HOV.out
    rw [valsUp_all HKD.out.2.2] at hov
    have HOE := Lib.hid (hov.base_le HB2.out.size)
    clear hov
    go_wp2
    go_ret2
    exact ⟨_, rfl, by rw [HV0.out]; exact HOE.out, bstep HB2.out HBR.out⟩
 ·have dk : (K != 0) = true := by simp [hk]
  have HKN := Lib.hid hk
  clear hk
  go_wp2
  go_ret2
  exact ⟨_, rfl, by rw [HVL.out.2 HKN.out]; exact OV.nil _ _, HB2.out⟩
end Go.Proofs.YtalophngappkhaaGreatDoor
namespace Go.Proofs.YtalophngappkhaaGreatDoor
open Go Go.RowKit Go.Shelf
attribute [local go_sem] Oper.semAt_some

structure BsR (w : World) (X : Nat) (s t : Int) : Prop where
 cell : w.heap[X]? = some (.cells #[.int .i64 s, .int .i64 t] 194 (0, 0))
namespace BsR
variable {w w' : World} {X : Nat} {s t : Int}
theorem new (w : World) (s t : Int) : BsR (w.alloc (.cells #[.int .i64 s, .int .i64 t] 194)) w.heap.size s t := ⟨heap_alloc_new w _⟩
theorem lt (h : BsR w X s t) : X < w.heap.size := (Array.getElem?_eq_some_iff.1 h.cell).1
theorem c0 (h : BsR w X s t) : w.cell? ⟨X, 0, none⟩ = some (.int .i64 s) := (cell_of_row w X 0 _ _ (0, 0) h.cell).trans rfl
theorem c1 (h : BsR w X s t) : w.cell? ⟨X, 1, none⟩ = some (.int .i64 t) := (cell_of_row w X 1 _ _ (0, 0) h.cell).trans rfl
theorem frz (h : BsR w X s t) (i : Nat) : w.frozen? ⟨X, i, none⟩ = false := frozen_of_row w X i _ _ h.cell
theorem below (h : BsR w X s t) (hb : Below w.heap.size w w') : BsR w' X s t := ⟨(hb.block X h.lt).trans h.cell⟩
theorem grown {row : Option Nat} (h : BsR w X s t) (hg : w.grownBy w' row) (hr : row ≠ some X) : BsR w' X s t := ⟨(hg.block X h.lt (fun e => hr e.symm)).trans h.cell⟩
theorem set0 (h : BsR w X s t) (u : Int) : BsR (w.setCell ⟨X, 0, none⟩ (.int .i64 u)) X u t := ⟨heap_setCell_same w X 0 _ _ _ h.cell⟩
theorem set1 (h : BsR w X s t) (u : Int) : BsR (w.setCell ⟨X, 1, none⟩ (.int .i64 u)) X s u := ⟨heap_setCell_same w X 1 _ _ _ h.cell⟩
end BsR
def BsOk (s t : Int) : Prop := (1 ≤ s ∧ s ≤ 281474976710656) ∧ 0 ≤ t ∧ t ≤ 281474976710656
set_option maxRecDepth 100000 in
set_option maxHeartbeats 3200000 in
theorem r7right_ok (w : World) (s t : Int) (h : BsOk s t) :
  Calls Tryz.prog 160 #[.agg #[.int .i64 s, .int .i64 t]] w fun r w' => r = .returned (.bool true) ∧ Below w.heap.size w w' := by
 have HX := Lib.hid (BsR.new w s t)
 have HB := Lib.hid (bel_alloc w (.cells #[.int .i64 s, .int .i64 t] 194))
 have d1 : decide (1 ≤ s) = true := by simpa using h.1.1
 have d2 : decide (s ≤ 281474976710656) = true := by simpa using h.1.2
 have d3 : decide (0 ≤ t) = true := by simpa using h.2.1
 have d4 : decide (t ≤ 281474976710656) = true := by simpa using h.2.2
 clear h
 go_enter Tryz.func160, Tryz.ntmps160
 go_upto_region 1 with fail
 generalize w.alloc (.cells #[.int .i64 s, .int .i64 t] 194) = w1 at HX HB ⊢
 obtain ⟨X, hX⟩ : ∃ X, w.heap.size = X := ⟨_, rfl⟩
 rw [hX] at HX ⊢
 clear hX
 have c0 := HX.out.c0
 have c1 := HX.out.c1
 go_wp2
 go_ret
 exact ⟨rfl, HB.out⟩
theorem vall_cons (x : Nat) (l : List Nat) : vall (x :: l) = vbytes x ++ vall l := by simp [vall]
set_option maxRecDepth 100000 in
set_option maxHeartbeats 6400000 in
theorem r7put_ok (w : World) (s t : Int) (e : Ev) (ho : EvOk e) (hc : chkEv e = 0) (hb : BsOk s t) (hs : s ≤ e.seq) (ht : t ≤ e.time) :
  Calls Tryz.prog 161 #[.agg #[.int .i64 s, .int .i64 t], evA e] w fun r w' => ∃ v, r = .returned (.tuple #[v, .int .i64 0]) ∧ OV encB 1 5 w.heap.size w' v (recE s t e) ∧ Below w.heap.size w w' := by
 have hlim := chk_lim ho hc
 have hb1 := hb.1.1
 have hb2 := hb.2.1
 have HBX := Lib.hid ((BsR.new w s t).below (bel_alloc _ (.cells #[.int .i64 e.seq, .int .i64 e.time, .int .u8 e.cpu, .int .u8 e.kind, .int .i64 e.task, .int .i64 e.grp, .int .i64 e.to, .int .i64 e.wt, .int .i64 e.ticks, .int .u64 e.mask, .int .i64 e.got] 96)))
 have HEX := Lib.hid (evp_newT (w.alloc (.cells #[.int .i64 s, .int .i64 t] 194)) e 96)
 have HB := Lib.hid (bstep (bel_alloc w (.cells #[.int .i64 s, .int .i64 t] 194)) (bel_alloc _ (.cells #[.int .i64 e.seq, .int .i64 e.time, .int .u8 e.cpu, .int .u8 e.kind, .int .i64 e.task, .int .i64 e.grp, .int .i64 e.to, .int .i64 e.wt, .int .i64 e.ticks, .int .u64 e.mask, .int .i64 e.got] 96)))
 have HEL := Lib.hid HEX.out.lt
 have HV := Lib.hid (fun W => r6values_ok W e ho)
 rw [hc] at HV
 obtain ⟨ds, hds⟩ : ∃ d : Nat, e.seq - s = d := ⟨(e.seq - s).toNat, by omega⟩
 obtain ⟨dt, hdt⟩ : ∃ d : Nat, e.time - t = d := ⟨(e.time - t).toNat, by omega⟩
 have HD := Lib.hid (show (ds < 18446744073709551616 ∧ dt < 18446744073709551616) ∧ IntKind.u64.wrap (ds : Int) = (ds : Int) ∧ IntKind.u64.wrap (dt : Int) = (dt : Int) from by
  have h1 : ds < 18446744073709551616 := by omega
  have h2 : dt < 18446744073709551616 := by omega
  exact ⟨⟨h1, h2⟩, by show (ds : Int) % 18446744073709551616 = _; omega, by show (dt : Int) % 18446744073709551616 = _; omega⟩)
 have HRE := Lib.hid (show recE s t e = [e.kind.toNat] ++ (vbytes ds ++ (vbytes dt ++ vall (valsE e))) by
  show recE s t e = e.kind.toNat :: (vbytes ds ++ (vbytes dt ++ vall (valsE e)))
  unfold recE
  rw [vall_cons, vall_cons, show (e.seq - s).toNat = ds by omega, show (e.time - t).toNat = dt by omega])
 have HSQ := Lib.hid (And.intro hds hdt)
 have HWS := Lib.hid (show wrap64 (e.seq - s) = (ds : Int) ∧ wrap64 (e.time - t) = (dt : Int) from by
  rw [hds, hdt]; exact ⟨IntWalk.wrap64_in _ (by omega), IntWalk.wrap64_in _ (by omega)⟩)
 have HK := Lib.hid (show ((e.kind.toNat : Nat) : Int) = e.kind ∧ e.kind.toNat < 256 by have := hlim.1; omega)
 have HBO := Lib.hid hb
 have d1 : decide (e.seq < s) = false := by simp; omega
 have d2 : decide (e.time < t) = false := by simp; omega
 clear ho hc hb hlim hds hdt hs ht hb1 hb2
 unfold evA at HV ⊢
 go_enter Tryz.func161, Tryz.ntmps161
 go_upto_region 1 with fail
 have hsz : (w.alloc (.cells #[.int .i64 s, .int .i64 t] 194)).heap.size = w.heap.size + 1 := by simp
 try rw [hsz] at HEX HEL
 generalize (w.alloc (.cells #[.int .i64 s, .int .i64 t] 194)).alloc (.cells #[.int .i64 e.seq, .int .i64 e.time, .int .u8 e.cpu, .int .u8 e.kind, .int .i64 e.task, .int .i64 e.grp, .int .i64 e.to, .int .i64 e.wt, .int .i64 e.ticks, .int .u64 e.mask, .int .i64 e.got] 96) = w1 at HBX HEX HB HEL ⊢
 clear hsz
 generalize w.heap.size + 1 = Y at HEX HEL ⊢
 obtain ⟨X, hX⟩ : ∃ X, w.heap.size = X := ⟨_, rfl⟩
 rw [hX] at HBX ⊢
 clear hX
 have c0 := HEX.out.c0
 have c1 := HEX.out.c1
 have c2 := HEX.out.c2
 have c3 := HEX.out.c3
 have c4 := HEX.out.c4
 have c5 := HEX.out.c5
 have c6 := HEX.out.c6
 have c7 := HEX.out.c7
 have c8 := HEX.out.c8
 have c9 := HEX.out.c9
 have c10 := HEX.out.c10
 go_wp2_with fail
 refine (HV.out w1).mono ?_
 rintro r w2 ⟨v6, rfl, o6, b2⟩
 replace o6 : OV encN 1 26 w1.heap.size w2 v6 (valsE e) := by simpa using o6
 obtain ⟨A6, cp6, h6⟩ := (o6.ev encN_len).shape
 obtain ⟨n6, hn6⟩ : ∃ n, (valsE e).length = n := ⟨_, rfl⟩
 rw [hn6] at h6
 subst h6
 have HN6 := Lib.hid (show (valsE e).length = n6 ∧ n6 ≤ 4 from ⟨hn6, by rw [← hn6]; exact valsE_len e⟩)
 clear hn6
 have HV6 := Lib.hid (o6.ev encN_len)
 have HBX2 := Lib.hid (HBX.out.below b2)
 have HEX2 := Lib.hid (HEX.out.below b2 HEL.out)
 have HEL2 := Lib.hid (Nat.lt_of_lt_of_le HEL.out b2.size)
 have HB2 := Lib.hid (bstep HB.out b2)
 clear o6 b2 c0 c1 c2 c3 c4 c5 c6 c7 c8 c9 c10 HBX HEX HEL HB HV
 have b0 := HBX2.out.c0
 have b1 := HBX2.out.c1
 go_upto_region 4 with fail
 go_wp2_with fail
 refine (r7right_ok w2 s t HBO.out).mono ?_
 rintro r w3 ⟨rfl, b3⟩
 have HV63 := Lib.hid (HV6.out.below b3)
 have HBX3 := Lib.hid (HBX2.out.below b3)
 have HEX3 := Lib.hid (HEX2.out.below b3 HEL2.out)
 have HEL3 := Lib.hid (Nat.lt_of_lt_of_le HEL2.out b3.size)
 have HB3 := Lib.hid (bstep HB2.out b3)
 clear b3 b0 b1 HBX2 HEX2 HEL2 HB2 HV6
 have B0 := Lib.hid HBX3.out.c0
 have B1 := Lib.hid HBX3.out.c1
 have C0 := Lib.hid HEX3.out.c0
 have C1 := Lib.hid HEX3.out.c1
 have b0 := HBX3.out.c0
 have b1 := HBX3.out.c1
 have c0 := HEX3.out.c0
 have c1 := HEX3.out.c1
 have c3 := HEX3.out.c3
 have HL0 := Lib.hid (show OV encB 1 5 w3.heap.size (w3.alloc (.cells #[.int .u8 e.kind] 5)) (.slice (some ⟨w3.heap.size, 0, none⟩) 1 1) [e.kind.toNat] from OV.lit w3 #[.int .u8 e.kind] 1 (Nat.le_refl _) (by unfold maxLen; omega) rfl (by simp [encB, HK.out.1]) rfl)
 have HA := Lib.hid (bel_alloc w3 (.cells #[.int .u8 e.kind] 5))
 go_upto_region 7 with fail
 have HBK := HA
 have HL := HL0
 have HM := Lib.hid (show [e.kind.toNat].length ≤ 1 from Nat.le_refl _)
 clear b0 b1 c0 c1 c3 HL0 HA
 generalize w3.alloc (.cells #[.int .u8 e.kind] 5) = w4 at HBK HL ⊢
 generalize [e.kind.toNat] = L0 at HL HM HRE ⊢
 have c0 := below_cell HBK.out C0.out
 have b0 := below_cell HBK.out B0.out
 have hws := HWS.out.1
 have hwr := HD.out.2.1
 go_wp2_with fail
 refine (r1write_ok w4 ds HD.out.1.1).mono ?_
 rintro r w5 ⟨v1, rfl, o1, bb⟩
 have HO1 := Lib.hid (HL.out.below bb)
 have HW1 := Lib.hid (o1.ev encB_len)
 have HB1 := Lib.hid (bstep HBK.out bb)
 have HVL := Lib.hid (vbytes_len ds HD.out.1.1).2
 clear o1 bb hws hwr b0 c0 HL HBK
 go_wp2_with (at_builtin; refine wpList_app elemB encB_len encB_one rfl _ _ rfl _ _ rfl rfl HO1.out HW1.out ?q1 ?q2 ?_)
 case q1 => have := HVL.out; have := HM.out; omega
 case q2 => exact HB1.out.size
 intro v8 w6 o8 g8
 have HL := Lib.hid o8
 have HBK := Lib.hid (HB1.out.grown g8 HB1.out.size (fun g q => (HO1.out.block g q).1))
 clear o8 g8 HO1 HW1 HB1 HVL
 have HL1 := Lib.hid (show (L0 ++ vbytes ds).length ≤ 11 by have := (vbytes_len ds HD.out.1.1).2; have := HM.out; rw [List.length_append]; omega)
 generalize hL1 : L0 ++ vbytes ds = L1 at HL HL1 ⊢
 have HE1 := Lib.hid hL1
 clear hL1
 have c1 := below_cell HBK.out C1.out
 have b1 := below_cell HBK.out B1.out
 have hws := HWS.out.2
 have hwr := HD.out.2.2
 go_wp2_with fail
 refine (r1write_ok w6 dt HD.out.1.2).mono ?_
 rintro r w7 ⟨v1, rfl, o1, bb⟩
 have HO1 := Lib.hid (HL.out.below bb)
 have HW1 := Lib.hid (o1.ev encB_len)
 have HB1 := Lib.hid (bstep HBK.out bb)
 have HVL := Lib.hid (vbytes_len dt HD.out.1.2).2
 clear o1 bb hws hwr b1 c1 HL HBK
 go_wp2_with (at_builtin; refine wpList_app elemB encB_len encB_one rfl _ _ rfl _ _ rfl rfl HO1.out HW1.out ?q1 ?q2 ?_)
 case q1 => have := HVL.out; have := HL1.out; omega
 case q2 => exact HB1.out.size
 intro v8 w8 o8 g8
 have HL := Lib.hid o8
 have HBK := Lib.hid (HB1.out.grown g8 HB1.out.size (fun g q => (HO1.out.block g q).1))
 clear o8 g8 HO1 HW1 HB1 HVL
 have HL2 := Lib.hid (show (L1 ++ vbytes dt).length ≤ 21 by have := (vbytes_len dt HD.out.1.2).2; have := HL1.out; rw [List.length_append]; omega)
 generalize hL2 : L1 ++ vbytes dt = L2 at HL HL2 ⊢
 have HE2 := Lib.hid hL2
 clear hL2
 go_wp2
 go_loopg [8, 9] n6 (fun k o i wr => ∃ j : Nat, j + k = n6 ∧ i = .int .i64 j ∧ OV encB 1 5 w3.heap.size wr o (L2 ++ vall ((valsE e).take j)) ∧ Below w3.heap.size w3 wr)
 case atStart => exact ⟨0, by omega, rfl, by simpa [vall] using HL.out, HBK.out⟩
 case round =>
  obtain ⟨j, hj, rfl, ho, hb⟩ := hrel
  have HJ := Lib.hid hj
  have HO := Lib.hid ho
  have HBR := Lib.hid hb
  have hn4 := HN6.out.2
  clear hj ho hb
  by_cases hlt : j < n6
  ·obtain ⟨b, off, c', hsl, hcc, hr⟩ := (HV63.out.below HBR.out).row (by rw [HN6.out.1]; omega)
   rw [HN6.out.1] at hsl
   cases hsl
   obtain ⟨x, hxj⟩ : ∃ x, (valsE e)[j]? = some x := ⟨_, List.getElem?_eq_getElem (by rw [HN6.out.1]; exact hlt)⟩
   have g0 := hr.n1 hxj
   have HXX := Lib.hid (valsE_lt e x (List.mem_of_getElem? hxj))
   have HTK := Lib.hid (show L2 ++ vall ((valsE e).take (j + 1)) = (L2 ++ vall ((valsE e).take j)) ++ vbytes x by rw [vall_take hxj, List.append_assoc])
   have HLN := Lib.hid (show (L2 ++ vall ((valsE e).take j)).length ≤ 100 by
    have h1 := vall_len ((valsE e).take j) (fun y hy => valsE_lt e y (List.mem_of_mem_take hy))
    have h2 := HL2.out
    rw [List.length_take] at h1
    rw [List.length_append]
    omega)
   obtain ⟨M, hM⟩ : ∃ M, L2 ++ vall ((valsE e).take j) = M := ⟨_, rfl⟩
   rw [hM] at HO HTK HLN
   clear hr hxj hM
   go_wp2_with fail
   refine (r1write_ok wr x HXX.out).mono ?_
   rintro r wq ⟨v1, rfl, o1, b1⟩
   have HO1 := Lib.hid (HO.out.below b1)
   have HW1 := Lib.hid (o1.ev encB_len)
   have HB1 := Lib.hid (bstep HBR.out b1)
   have HVL := Lib.hid (vbytes_len x HXX.out).2
   clear o1 b1 g0
   go_wp2_with (at_builtin; refine wpList_app elemB encB_len encB_one rfl _ _ rfl _ _ rfl rfl HO1.out HW1.out ?q1 ?q2 ?_)
   case q1 => have := HLN.out; have := HVL.out; omega
   case q2 => exact HB1.out.size
   intro v' wy o3 g3
   rw [← HTK.out] at o3
   have HO3 := Lib.hid o3
   have HB3' := Lib.hid (HB1.out.grown g3 HB1.out.size (fun g q => (HO1.out.block g q).1))
   clear o3 g3
   go_wp2
   go_roundg (gk - 1)
   case measure => have := HJ.out; omega
   case rel => exact ⟨j + 1, by have := HJ.out; omega, by go_num, HO3.out, HB3'.out⟩
  ·obtain rfl : n6 = j := by have := HJ.out; omega
   have hov := HO.out
   rw [List.take_of_length_le (Nat.le_of_eq HN6.out.1), ← HE2.out, ← HE1.out, List.append_assoc, List.append_assoc, ← HRE.out] at hov
   have HOV := Lib.hid (hov.base_le HB3.out.size)
   clear hov
   go_wp2
   go_ret2
   exact ⟨_, rfl, HOV.out, bstep HB3.out HBR.out⟩
end Go.Proofs.YtalophngappkhaaGreatDoor

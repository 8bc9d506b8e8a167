/- quantumref12.After | quantumlaw12.one: the questions about what is merged. -/
import Derived.Test.YtalophngappkhaaGreatDoorV25
import Derived.Test.YtalophngappkhaaGreatDoorV31
import Derived.Test.YtalophngappkhaaGreatDoorV21
set_option linter.unusedVariables false
set_option linter.unusedSimpArgs false
set_option linter.unusedSectionVars false
namespace Go.Proofs.YtalophngappkhaaGreatDoor
open Go Go.RowKit Go.Shelf
attribute [local go_sem] Oper.semAt_some

set_option maxRecDepth 100000 in
set_option maxHeartbeats 6400000 in
theorem r12after_ok (w : World) (ve vt vg : Value) (lost next fr : Int) (opn : Bool) (evs : List Ev) (gaps : List (Int × Int)) (hv : EV encP 2 w vg gaps) (hl : gaps.length ≤ 100000000) (he : EV encE 11 w ve evs) (hle : evs.length ≤ 100000000) :
  Calls Tryz.prog 50 #[mgA ve vt vg lost next opn, .int .i64 fr] w fun r w' => ∃ v, r = .returned (.tuple #[v, .int .i64 (frsE gaps next opn fr).2]) ∧ OV encE 11 96 w.heap.size w' v (aftL evs gaps next opn fr) ∧ Below w.heap.size w w' := by
 have HX := Lib.hid (RmBox.new w ve vt vg lost next opn)
 have HB := Lib.hid (bel_alloc w (.cells #[ve, vt, vg, .int .i64 lost, .int .i64 next, .bool opn] 91))
 have HV := Lib.hid he
 have HF := Lib.hid (r12first_ok _ ve vt vg lost next fr opn gaps (hv.below HB.out) hl)
 obtain ⟨A, c, hA⟩ := he.shape
 subst hA
 obtain ⟨n, hn⟩ : ∃ n, evs.length = n := ⟨_, rfl⟩
 have HN := Lib.hid hn
 rw [hn] at hle HX HB HV HF ⊢
 obtain ⟨E, hE⟩ : ∃ E, aftL evs gaps next opn fr = E := ⟨_, rfl⟩
 have HE := Lib.hid hE
 obtain ⟨⟨F1, F2⟩, hF⟩ : ∃ F, frsE gaps next opn fr = F := ⟨_, rfl⟩
 have HE2 := Lib.hid (show E = if F2 = 0 then fromE fr evs else [] by rw [← hE]; unfold aftL; rw [hF])
 rw [hE, hF]
 rw [hF] at HF
 dsimp only at HF ⊢
 clear hv hn hE he hl hF
 unfold mgA at HF ⊢
 go_enter Tryz.func50, Tryz.ntmps50
 go_upto_region 1 with fail
 generalize w.alloc (.cells #[.slice A n c, vt, vg, .int .i64 lost, .int .i64 next, .bool opn] 91) = wx at HX HB HF ⊢
 obtain ⟨X, hX⟩ : ∃ X, w.heap.size = X := ⟨_, rfl⟩
 have HXX := Lib.hid hX
 rw [hX] at HX ⊢
 clear hX
 have c0 := HX.out.c0
 have c1 := HX.out.c1
 have c2 := HX.out.c2
 have c3 := HX.out.c3
 have c4 := HX.out.c4
 have c5 := HX.out.c5
 go_wp2_with fail
 refine HF.out.mono ?_
 rintro r w1 ⟨rfl, b1⟩
 have HX1 := Lib.hid (HX.out.below b1)
 have HB1 := Lib.hid (bstep HB.out b1)
 have HSZ := Lib.hid (Nat.lt_of_lt_of_le HX.out.lt b1.size)
 clear HX HB HF b1 c0 c1 c2 c3 c4 c5
 by_cases hz : F2 = 0
 ·subst hz
  have HRE := Lib.hid (show E = fromE fr evs by rw [HE2.out, if_pos rfl])
  obtain ⟨bn, hbn⟩ : ∃ bn, w1.heap.size = bn := ⟨_, rfl⟩
  have HBN := Lib.hid (show bn ≤ w1.heap.size by omega)
  have HXB := Lib.hid (show X < bn by rw [← hbn]; exact HSZ.out)
  clear hbn HE HE2 HSZ
  go_wp2
  go_loopg [8, 9] n (fun k o i wr => ∃ j : Nat, j + k = n ∧ i = .int .i64 j ∧ OV encE 11 96 bn wr o (fromE fr (evs.take j)) ∧ Below w.heap.size w wr ∧ bn ≤ wr.heap.size ∧ RmBox wr X (.slice A n c) vt vg lost next opn)
  case atStart => exact ⟨0, by omega, rfl, OV.nil _ _, HB1.out, HBN.out, HX1.out⟩
  clear HX1 HB1 HBN
  case round =>
   obtain ⟨j, hj, rfl, ho, hb, hs, hx⟩ := hrel
   have HJ := Lib.hid hj
   have HO := Lib.hid ho
   have HBW := Lib.hid hb
   have HS := Lib.hid hs
   have HXW := Lib.hid hx
   have c0 := hx.c0
   clear hj ho hb hs hx
   by_cases hlt : j < n
   ·obtain ⟨b, off, c', hsl, hcc, hr⟩ := (HV.out.below HBW.out).row (by rw [HN.out]; omega)
    rw [HN.out] at hsl
    cases hsl
    obtain ⟨e, hev⟩ : ∃ e, evs[j]? = some e := ⟨_, List.getElem?_eq_getElem (by rw [HN.out]; exact hlt)⟩
    obtain ⟨g0, g1, g2, g3, g4, g5, g6, g7, g8, g9, g10⟩ := hr.ev hev
    have HT := Lib.hid (from_take fr hev)
    clear hr hev
    by_cases hc : fr ≤ e.seq
    ·have d1 : decide (fr ≤ e.seq) = true := by simpa using hc
     have HT2 := Lib.hid (show fromE fr (evs.take (j + 1)) = fromE fr (evs.take j) ++ [e] by rw [HT.out, if_pos hc])
     have HLN := Lib.hid (show (fromE fr (evs.take j)).length ≤ j by unfold fromE; exact Nat.le_trans (List.length_filter_le _ _) (by rw [List.length_take]; omega))
     clear hc HT
     go_wp2_with (at_builtin; refine wpList_app elemREv encE_len encE_one rfl _ _ rfl _ _ rfl rfl (HO.out.alloc _) (EV.newL (xs := [e]) (n := 1) (c := 1) encE_len rfl rfl (Nat.le_refl _)) ?q1 ?q2 ?_)
     case q1 => have := HLN.out; simp; omega
     case q2 => have := HS.out; simp; omega
     intro v' w4 o4 g4'
     rw [← HT2.out] at o4
     have ba := bel_alloc wr (.cells #[.int .i64 e.seq, .int .i64 e.time, .int .u8 e.cpu, .int .u8 e.kind, .int .i64 e.task, .int .i64 e.grp, .int .i64 e.to, .int .i64 e.wt, .int .i64 e.ticks, .int .u64 e.mask, .int .i64 e.got] 96)
     have hwb : w.heap.size ≤ bn := by have := HXX.out; have := HXB.out; omega
     have HB3 := Lib.hid ((bstep HBW.out ba).grown g4' (bstep HBW.out ba).size (fun g q => by have := (HO.out.block g q).1; omega))
     have hxa := HXW.out.below ba
     have HX3 := Lib.hid (show RmBox w4 X (.slice (some ⟨b, off, none⟩) n _) vt vg lost next opn from ⟨(g4'.block X hxa.lt (fun h => by have := (HO.out.block X h.symm).1; have := HXB.out; omega)).trans hxa.cell⟩)
     have HO3 := Lib.hid o4
     have HS3 := Lib.hid (show bn ≤ w4.heap.size from Nat.le_trans HS.out (Nat.le_trans ba.size g4'.size))
     clear o4 g4' ba hwb hxa c0 g0 g1 g2 g3 g4 g5 g6 g7 g8 g9 g10
     go_wp2
     go_roundg (n - (j + 1))
     case measure => have := HJ.out; omega
     case rel => exact ⟨j + 1, by have := HJ.out; omega, by go_num, HO3.out, HB3.out, HS3.out, HX3.out⟩
    ·have d1 : decide (fr ≤ e.seq) = false := by simpa using hc
     have HT2 := Lib.hid (show fromE fr (evs.take (j + 1)) = fromE fr (evs.take j) by rw [HT.out, if_neg hc, List.append_nil])
     clear hc HT
     go_wp2
     go_roundg (n - (j + 1))
     case measure => have := HJ.out; omega
     case rel => exact ⟨j + 1, by have := HJ.out; omega, by go_num, by rw [HT2.out]; exact HO.out, HBW.out, HS.out, HXW.out⟩
   ·obtain rfl : n = j := by have := HJ.out; omega
    go_wp2
    go_ret2
    refine ⟨_, rfl, ?_, HBW.out⟩
    rw [HRE.out]
    have := HO.out
    rw [List.take_of_length_le (Nat.le_of_eq HN.out)] at this
    exact this.base_le (by have := HXX.out; have := HXB.out; omega)
 ·have hz2 : (F2 != 0) = true := by simpa using hz
  have HRE := Lib.hid (show E = [] by rw [HE2.out, if_neg hz])
  clear hz
  go_wp2
  go_ret2
  exact ⟨_, rfl, by rw [HRE.out]; exact OV.nil _ _, HB1.out⟩
end Go.Proofs.YtalophngappkhaaGreatDoor
namespace Go.Proofs.YtalophngappkhaaGreatDoor
open Go Go.RowKit Go.Shelf
attribute [local go_sem] Oper.semAt_some

theorem aftL_len (evs : List Ev) (gaps : List (Int × Int)) (next : Int) (opn : Bool) (fr : Int) : (aftL evs gaps next opn fr).length ≤ evs.length := by
 unfold aftL
 split
 ·unfold fromE; exact List.length_filter_le _ _
 ·exact Nat.zero_le _
set_option maxRecDepth 100000 in
set_option maxHeartbeats 6400000 in
theorem one_ok (w : World) (ve vt vg : Value) (R : List Ev) (T : List Int) (G : List (Int × Int)) (lost next fr : Int) (opn : Bool) (h1 : EV encE 11 w ve R) (h2 : EV encI 1 w vt T) (h3 : EV encP 2 w vg G)
  (b1 : R.length ≤ 1000000) (b2 : T.length * 8 ≤ 140737488355328) (b3 : G.length ≤ 1000000) :
  Calls Tryz.prog 16 #[mgA ve vt vg lost next opn, .int .i64 fr] w fun r w' => r = .returned (.bool true) ∧ Below w.heap.size w w' := by
 have HB := Lib.hid (bel_alloc w (.cells #[ve, vt, vg, .int .i64 lost, .int .i64 next, .bool opn] 39))
 have HX := Lib.hid (MgBox.new w ve vt vg lost next opn)
 have E1 := Lib.hid (And.intro h1 (And.intro h2 h3))
 have HL := Lib.hid (And.intro b1 (And.intro b2 b3))
 clear h1 h2 h3 b1 b2 b3
 obtain ⟨⟨F1, F2⟩, hF⟩ : ∃ F, frsE G next opn fr = F := ⟨_, rfl⟩
 obtain ⟨L, hL⟩ : ∃ L, aftL R G next opn fr = L := ⟨_, rfl⟩
 have HLL := Lib.hid (show L.length ≤ 1000000 by rw [← hL]; exact Nat.le_trans (aftL_len _ _ _ _ _) HL.out.1)
 have HF := Lib.hid (And.intro hF hL)
 clear hF hL
 unfold mgA
 go_enter Tryz.func16, Tryz.ntmps16
 go_upto_region 1 with fail
 generalize w.alloc (.cells #[ve, vt, vg, .int .i64 lost, .int .i64 next, .bool opn] 39) = w1 at HX HB ⊢
 obtain ⟨X, hX⟩ : ∃ X, w.heap.size = X := ⟨_, rfl⟩
 rw [hX] at HX ⊢
 clear hX
 have HT := Lib.hid (turned12_ok w1 ve vt vg R T G lost next opn (E1.out.1.below HB.out) (E1.out.2.1.below HB.out) (E1.out.2.2.below HB.out) HL.out.1 HL.out.2.1 HL.out.2.2)
 unfold mgA at HT
 have a0 := HX.out.c0
 have a1 := HX.out.c1
 have a2 := HX.out.c2
 have a3 := HX.out.c3
 have a4 := HX.out.c4
 have a5 := HX.out.c5
 go_wp2_with fail
 refine HT.out.mono ?_
 rintro r w2 ⟨A1, n1, c1, A2, n2, c2, A3, n3, c3, rfl, o1, o2, o3, bb⟩
 have HX2 := Lib.hid (HX.out.below bb)
 have HB2 := Lib.hid (bstep HB.out bb)
 have HA3 := Lib.hid (bel_alloc w2 (.cells #[.slice A1 n1 c1, .slice A2 n2 c2, .slice A3 n3 c3, .int .i64 lost, .int .i64 next, .bool opn] 91))
 have HU2 := Lib.hid (RmBox.new w2 (.slice A1 n1 c1) (.slice A2 n2 c2) (.slice A3 n3 c3) lost next opn)
 have HO2 := Lib.hid (show EV encE 11 w2 (.slice A1 n1 c1) R ∧ EV encI 1 w2 (.slice A2 n2 c2) T ∧ EV encP 2 w2 (.slice A3 n3 c3) G from ⟨o1.ev encE_len, o2.ev encI_len, o3.ev encP_len⟩)
 clear bb a0 a1 a2 a3 a4 a5 o1 o2 o3 HX HB HT
 go_upto_region 2 with fail
 have HO := Lib.hid (show EV encE 11 _ (.slice A1 n1 c1) R ∧ EV encI 1 _ (.slice A2 n2 c2) T ∧ EV encP 2 _ (.slice A3 n3 c3) G from ⟨HO2.out.1.below HA3.out, HO2.out.2.1.below HA3.out, HO2.out.2.2.below HA3.out⟩)
 have HX := Lib.hid (HX2.out.below HA3.out)
 have HB := Lib.hid (bstep HB2.out HA3.out)
 have HU := HU2
 clear HX2 HB2 HA3 HO2 HU2
 generalize w2.alloc (.cells #[.slice A1 n1 c1, .slice A2 n2 c2, .slice A3 n3 c3, .int .i64 lost, .int .i64 next, .bool opn] 91) = w3 at HU HX HB HO ⊢
 generalize w2.heap.size = U at HU ⊢
 -- merge.First
 have HT := Lib.hid (first_ok w3 ve vt vg lost next fr opn G (E1.out.2.2.below HB.out) (by have := HL.out; omega))
 rw [HF.out.1] at HT
 unfold mgA at HT
 dsimp only at HT
 have a0 := HX.out.c0
 have a1 := HX.out.c1
 have a2 := HX.out.c2
 have a3 := HX.out.c3
 have a4 := HX.out.c4
 have a5 := HX.out.c5
 go_wp2_with fail
 refine HT.out.mono ?_
 rintro r w4 ⟨rfl, bb⟩
 have HX4 := Lib.hid (HX.out.below bb)
 have HU4 := Lib.hid (HU.out.below bb)
 have HB4 := Lib.hid (bstep HB.out bb)
 have HO4 := Lib.hid (And.intro (HO.out.1.below bb) (And.intro (HO.out.2.1.below bb) (HO.out.2.2.below bb)))
 clear bb a0 a1 a2 a3 a4 a5 HX HU HB HO HT
 go_upto_region 3 with fail
 -- the reference's First
 have HT := Lib.hid (r12first_ok w4 (.slice A1 n1 c1) (.slice A2 n2 c2) (.slice A3 n3 c3) lost next fr opn G HO4.out.2.2 (by have := HL.out; omega))
 rw [HF.out.1] at HT
 unfold mgA at HT
 dsimp only at HT
 have a0 := HU4.out.c0
 have a1 := HU4.out.c1
 have a2 := HU4.out.c2
 have a3 := HU4.out.c3
 have a4 := HU4.out.c4
 have a5 := HU4.out.c5
 go_wp2_with fail
 refine HT.out.mono ?_
 rintro r w5 ⟨rfl, bb⟩
 have HX5 := Lib.hid (HX4.out.below bb)
 have HU5 := Lib.hid (HU4.out.below bb)
 have HB5 := Lib.hid (bstep HB4.out bb)
 have HO5 := Lib.hid (And.intro (HO4.out.1.below bb) (And.intro (HO4.out.2.1.below bb) (HO4.out.2.2.below bb)))
 clear bb a0 a1 a2 a3 a4 a5 HX4 HU4 HB4 HO4 HT
 go_upto_region 4 with fail
 -- merge.After
 have HT := Lib.hid (after_ok w5 ve vt vg lost next fr opn R G (E1.out.2.2.below HB5.out) (by have := HL.out; omega) (E1.out.1.below HB5.out) (by have := HL.out; omega))
 rw [HF.out.1, HF.out.2] at HT
 unfold mgA at HT
 dsimp only at HT
 have a0 := HX5.out.c0
 have a1 := HX5.out.c1
 have a2 := HX5.out.c2
 have a3 := HX5.out.c3
 have a4 := HX5.out.c4
 have a5 := HX5.out.c5
 go_wp2_with fail
 refine HT.out.mono ?_
 rintro r w6 ⟨v6, rfl, o6, bb⟩
 have HX6 := Lib.hid (HX5.out.below bb)
 have HU6 := Lib.hid (HU5.out.below bb)
 have HB6 := Lib.hid (bstep HB5.out bb)
 have HO6 := Lib.hid (And.intro (HO5.out.1.below bb) (And.intro (HO5.out.2.1.below bb) (HO5.out.2.2.below bb)))
 obtain ⟨A6, c6, h6⟩ := (o6.ev encE_len).shape
 subst h6
 obtain ⟨n6, hn6⟩ : ∃ n, L.length = n := ⟨_, rfl⟩
 have HN6 := Lib.hid hn6
 rw [hn6] at o6 ⊢
 have HV6 := Lib.hid o6
 have HZ5 := Lib.hid (And.intro bb.size (And.intro HX5.out (And.intro HU5.out HO5.out)))
 have HB56 := Lib.hid bb
 have HSZ := Lib.hid HB5.out.size
 clear bb a0 a1 a2 a3 a4 a5 HX5 HU5 HO5 HT o6 hn6
 go_upto_region 5 with fail
 -- the reference's After
 have HT := Lib.hid (r12after_ok w6 (.slice A1 n1 c1) (.slice A2 n2 c2) (.slice A3 n3 c3) lost next fr opn R G HO6.out.2.2 (by have := HL.out; omega) HO6.out.1 (by have := HL.out; omega))
 rw [HF.out.1, HF.out.2] at HT
 unfold mgA at HT
 dsimp only at HT
 have a0 := HU6.out.c0
 have a1 := HU6.out.c1
 have a2 := HU6.out.c2
 have a3 := HU6.out.c3
 have a4 := HU6.out.c4
 have a5 := HU6.out.c5
 go_wp2_with fail
 refine HT.out.mono ?_
 rintro r w7 ⟨v7, rfl, o7, bb⟩
 have HV7 := Lib.hid (And.intro (HV6.out.below bb) (o7.ev encE_len))
 have HB57 := Lib.hid (bstep HB56.out bb)
 obtain ⟨A7, c7, h7⟩ := (o7.ev encE_len).shape
 subst h7
 rw [HN6.out] at HV7 ⊢
 clear bb a0 a1 a2 a3 a4 a5 HT o7 HX6 HU6 HO6 HB6 HV6 HB56
 go_upto_region 6 with fail
 go_wp2_with fail
 refine (theirs_ok w7 (.slice A6 n6 c6) L (HV7.out.1.ev encE_len) HLL.out).mono ?_
 rintro r w8 ⟨v8, rfl, o8, bb⟩
 have HV8 := Lib.hid (And.intro (HV7.out.1.below bb) (And.intro (HV7.out.2.below bb) (o8.ev encE_len)))
 have HB58 := Lib.hid (bstep HB57.out bb)
 clear bb o8 HV7 HB57
 go_wp2_with fail
 refine (eq_rev w8 v8 (.slice A7 n6 c7) L HV8.out.2.2 HV8.out.2.1 (by have := HLL.out; omega)).mono ?_
 rintro r w9 ⟨rfl, bb⟩
 have HV9 := Lib.hid (HV8.out.1.below bb)
 have HB59 := Lib.hid (bstep HB58.out bb)
 clear bb HV8 HB58
 obtain ⟨g0, hg0⟩ : ∃ g0, w5.heap.size = g0 := ⟨_, rfl⟩
 have HG0 := Lib.hid hg0
 rw [hg0] at HV9
 clear hg0
 have HW := Lib.hid (show Wrt 11 w9 (.slice A6 n6 c6) n6 from by have := HV9.out.wrt encE_len; rw [HN6.out] at this; exact this)
 have HOB := Lib.hid (fun g (h : (Value.slice A6 n6 c6).ownBlock = some g) => (HV9.out.block g h).1)
 clear HV9
 go_wp2
 go_loopg [63] n6 (fun k i wr => ∃ j : Nat, j + k = n6 ∧ i = .int .i64 j ∧ Wrt 11 wr (.slice A6 n6 c6) n6 ∧ Below w5.heap.size w5 wr)
 case atStart => exact ⟨0, by omega, rfl, HW.out, HB59.out⟩
 clear HW HB59
 case round =>
  obtain ⟨j, hj, rfl, hw, hb⟩ := hrel
  have HJ := Lib.hid hj
  have HWR := Lib.hid hw
  have HBR := Lib.hid hb
  have hnn := HLL.out
  rw [HN6.out] at hnn
  clear hj hw hb
  by_cases hlt : j < n6
  ·rcases HWR.out with ⟨h0, _⟩ | ⟨_, g, cc, hv, hwc⟩
   ·omega
   ·cases hv
    have HTG := Lib.hid (HOB.out g rfl)
    obtain ⟨⟨u0, hu0⟩, f0⟩ := hwc (j * 11) (by omega)
    obtain ⟨⟨u1, hu1⟩, f1⟩ := hwc (j * 11 + 1) (by omega)
    obtain ⟨⟨u2, hu2⟩, f2⟩ := hwc (j * 11 + 2) (by omega)
    obtain ⟨⟨u3, hu3⟩, f3⟩ := hwc (j * 11 + 3) (by omega)
    obtain ⟨⟨u4, hu4⟩, f4⟩ := hwc (j * 11 + 4) (by omega)
    obtain ⟨⟨u5, hu5⟩, f5⟩ := hwc (j * 11 + 5) (by omega)
    obtain ⟨⟨u6, hu6⟩, f6⟩ := hwc (j * 11 + 6) (by omega)
    obtain ⟨⟨u7, hu7⟩, f7⟩ := hwc (j * 11 + 7) (by omega)
    obtain ⟨⟨u8, hu8⟩, f8⟩ := hwc (j * 11 + 8) (by omega)
    obtain ⟨⟨u9, hu9⟩, f9⟩ := hwc (j * 11 + 9) (by omega)
    obtain ⟨⟨u10, hu10⟩, f10⟩ := hwc (j * 11 + 10) (by omega)
    clear hwc
    have HS := Lib.hid (fun (W : World) (p : Addr) (u : Value) (hp : p.block = g) (h : Wrt 11 W (.slice (some ⟨g, 0, none⟩) n6 c6) n6 ∧ Below w5.heap.size w5 W) => show Wrt 11 (W.setCell p u) (.slice (some ⟨g, 0, none⟩) n6 c6) n6 ∧ Below w5.heap.size w5 (W.setCell p u) from
     ⟨h.1.setCell p u, h.2.setCell (by rw [hp, HG0.out]; exact HTG.out) u⟩)
    have HRW := Lib.hid (And.intro HWR.out HBR.out)
    go_wp2
    go_roundg (n6 - (j + 1))
    case measure => have := HJ.out; omega
    case rel => exact ⟨j + 1, by have := HJ.out; omega, by go_num, HS.out _ _ _ rfl (HS.out _ _ _ rfl (HS.out _ _ _ rfl (HS.out _ _ _ rfl (HS.out _ _ _ rfl (HS.out _ _ _ rfl (HS.out _ _ _ rfl (HS.out _ _ _ rfl (HS.out _ _ _ rfl (HS.out _ _ _ rfl (HS.out _ _ _ rfl HRW.out))))))))))⟩
  ·obtain rfl : n6 = j := by have := HJ.out; omega
   have hx := HZ5.out.2.1.below HBR.out
   have hu := HZ5.out.2.2.1.below HBR.out
   have hb0 := bstep HB5.out HBR.out
   have HT := Lib.hid (same12_ok wr ve vt vg (.slice A1 n1 c1) (.slice A2 n2 c2) (.slice A3 n3 c3) R T G lost next opn (E1.out.1.below hb0) (E1.out.2.1.below hb0) (E1.out.2.2.below hb0) (HZ5.out.2.2.2.1.below HBR.out) (HZ5.out.2.2.2.2.1.below HBR.out) (HZ5.out.2.2.2.2.2.below HBR.out) HL.out.1 HL.out.2.1 HL.out.2.2)
   have HB0 := Lib.hid hb0
   unfold mgA at HT
   have a0 := hx.c0
   have a1 := hx.c1
   have a2 := hx.c2
   have a3 := hx.c3
   have a4 := hx.c4
   have a5 := hx.c5
   have d0 := hu.c0
   have d1 := hu.c1
   have d2 := hu.c2
   have d3 := hu.c3
   have d4 := hu.c4
   have d5 := hu.c5
   clear hx hu hb0
   go_wp2_with fail
   refine HT.out.mono ?_
   rintro r wz ⟨rfl, bb⟩
   have HBZ := Lib.hid (bstep HB0.out bb)
   clear bb
   go_wp2
   go_ret
   exact ⟨rfl, HBZ.out⟩
end Go.Proofs.YtalophngappkhaaGreatDoor

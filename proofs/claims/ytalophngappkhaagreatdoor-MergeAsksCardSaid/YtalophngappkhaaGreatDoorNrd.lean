/- quantumref12.After. -/
import Derived.Test.YtalophngappkhaaGreatDoorNra
import Derived.Test.YtalophngappkhaaGreatDoorNrc
import Derived.Test.YtalophngappkhaaGreatDoorZ21
set_option linter.unusedVariables false
set_option linter.unusedSimpArgs false
set_option linter.unusedSectionVars false
namespace Go.Proofs.YtalophngappkhaaGreatDoor
open Go Go.RowKit Go.Shelf
attribute [local go_sem] Oper.semAt_some

set_option maxRecDepth 100000 in
set_option maxHeartbeats 6400000 in
theorem r12after_ok (w : World) (ve vt vg : Value) (lost next fr : Int) (opn : Bool) (evs : List Ev) (gaps : List (Int × Int)) (hv : EV encP 2 w vg gaps) (hl : gaps.length ≤ 100000000) (he : EV encE 11 w ve evs) (hle : evs.length ≤ 100000000) :
    Calls Tryz.prog 50 #[mgA ve vt vg lost next opn, .int .i64 fr] w fun r w' => ∃ v, r = .returned (.tuple #[v, .int .i64 (frsE gaps next opn fr).2]) ∧ OV encE 11 96 w.heap.size w' v (aftL evs gaps next opn fr) ∧ Below w.heap.size w w' := by
  have HX := Lib.hid (RmBox.new w ve vt vg lost next opn)
  have HB := Lib.hid (bel_alloc w (.cells #[ve, vt, vg, .int .i64 lost, .int .i64 next, .bool opn] 91))
  have HV := Lib.hid he
  have HF := Lib.hid (r12first_ok _ ve vt vg lost next fr opn gaps (hv.below HB.out) hl)
  obtain ⟨A, c, hA⟩ := he.shape
  subst hA
  obtain ⟨n, hn⟩ : ∃ n, evs.length = n := ⟨_, rfl⟩
  have HN := Lib.hid hn
  rw [hn] at hle HX HB HV HF ⊢
  obtain ⟨E, hE⟩ : ∃ E, aftL evs gaps next opn fr = E := ⟨_, rfl⟩
  have HE := Lib.hid hE
  obtain ⟨⟨F1, F2⟩, hF⟩ : ∃ F, frsE gaps next opn fr = F := ⟨_, rfl⟩
  have HE2 := Lib.hid (show E = if F2 = 0 then fromE fr evs else [] by rw [← hE]; unfold aftL; rw [hF])
  rw [hE, hF]
  rw [hF] at HF
  dsimp only at HF ⊢
  clear hv hn hE he hl hF
  unfold mgA at HF ⊢
  go_enter Tryz.func50, Tryz.ntmps50
  go_upto_region 1 with fail
  generalize w.alloc (.cells #[.slice A n c, vt, vg, .int .i64 lost, .int .i64 next, .bool opn] 91) = wx at HX HB HF ⊢
  obtain ⟨X, hX⟩ : ∃ X, w.heap.size = X := ⟨_, rfl⟩
  have HXX := Lib.hid hX
  rw [hX] at HX ⊢
  clear hX
  have c0 := HX.out.c0
  have c1 := HX.out.c1
  have c2 := HX.out.c2
  have c3 := HX.out.c3
  have c4 := HX.out.c4
  have c5 := HX.out.c5
  go_wp2_with fail
  refine HF.out.mono ?_
  rintro r w1 ⟨rfl, b1⟩
  have HX1 := Lib.hid (HX.out.below b1)
  have HB1 := Lib.hid (bstep HB.out b1)
  have HSZ := Lib.hid (Nat.lt_of_lt_of_le HX.out.lt b1.size)
  clear HX HB HF b1 c0 c1 c2 c3 c4 c5
  by_cases hz : F2 = 0
  · subst hz
    have HRE := Lib.hid (show E = fromE fr evs by rw [HE2.out, if_pos rfl])
    obtain ⟨bn, hbn⟩ : ∃ bn, w1.heap.size = bn := ⟨_, rfl⟩
    have HBN := Lib.hid (show bn ≤ w1.heap.size by omega)
    have HXB := Lib.hid (show X < bn by rw [← hbn]; exact HSZ.out)
    clear hbn HE HE2 HSZ
    go_wp2
    go_loopg [8, 9] n (fun k o i wr => ∃ j : Nat, j + k = n ∧ i = .int .i64 j ∧ OV encE 11 96 bn wr o (fromE fr (evs.take j)) ∧ Below w.heap.size w wr ∧ bn ≤ wr.heap.size ∧ RmBox wr X (.slice A n c) vt vg lost next opn)
    case atStart => exact ⟨0, by omega, rfl, OV.nil _ _, HB1.out, HBN.out, HX1.out⟩
    clear HX1 HB1 HBN
    case round =>
      obtain ⟨j, hj, rfl, ho, hb, hs, hx⟩ := hrel
      have HJ := Lib.hid hj
      have HO := Lib.hid ho
      have HBW := Lib.hid hb
      have HS := Lib.hid hs
      have HXW := Lib.hid hx
      have c0 := hx.c0
      clear hj ho hb hs hx
      by_cases hlt : j < n
      · obtain ⟨b, off, c', hsl, hcc, hr⟩ := (HV.out.below HBW.out).row (by rw [HN.out]; omega)
        rw [HN.out] at hsl
        cases hsl
        obtain ⟨e, hev⟩ : ∃ e, evs[j]? = some e := ⟨_, List.getElem?_eq_getElem (by rw [HN.out]; exact hlt)⟩
        obtain ⟨g0, g1, g2, g3, g4, g5, g6, g7, g8, g9, g10⟩ := hr.ev hev
        have HT := Lib.hid (from_take fr hev)
        clear hr hev
        by_cases hc : fr ≤ e.seq
        · have d1 : decide (fr ≤ e.seq) = true := by simpa using hc
          have HT2 := Lib.hid (show fromE fr (evs.take (j + 1)) = fromE fr (evs.take j) ++ [e] by rw [HT.out, if_pos hc])
          have HLN := Lib.hid (show (fromE fr (evs.take j)).length ≤ j by unfold fromE; exact Nat.le_trans (List.length_filter_le _ _) (by rw [List.length_take]; omega))
          clear hc HT
          go_wp2_with (at_builtin; refine wpList_app elemREv encE_len encE_one rfl _ _ rfl _ _ rfl rfl (HO.out.alloc _) (EV.newL (xs := [e]) (n := 1) (c := 1) encE_len rfl rfl (Nat.le_refl _)) ?q1 ?q2 ?_)
          case q1 => have := HLN.out; simp; omega
          case q2 => have := HS.out; simp; omega
          intro v' w4 o4 g4'
          rw [← HT2.out] at o4
          have ba := bel_alloc wr (.cells #[.int .i64 e.seq, .int .i64 e.time, .int .u8 e.cpu, .int .u8 e.kind, .int .i64 e.task, .int .i64 e.grp, .int .i64 e.to, .int .i64 e.wt, .int .i64 e.ticks, .int .u64 e.mask, .int .i64 e.got] 96)
          have hwb : w.heap.size ≤ bn := by have := HXX.out; have := HXB.out; omega
          have HB3 := Lib.hid ((bstep HBW.out ba).grown g4' (bstep HBW.out ba).size (fun g q => by have := (HO.out.block g q).1; omega))
          have hxa := HXW.out.below ba
          have HX3 := Lib.hid (show RmBox w4 X (.slice (some ⟨b, off, none⟩) n _) vt vg lost next opn from ⟨(g4'.block X hxa.lt (fun h => by have := (HO.out.block X h.symm).1; have := HXB.out; omega)).trans hxa.cell⟩)
          have HO3 := Lib.hid o4
          have HS3 := Lib.hid (show bn ≤ w4.heap.size from Nat.le_trans HS.out (Nat.le_trans ba.size g4'.size))
          clear o4 g4' ba hwb hxa c0 g0 g1 g2 g3 g4 g5 g6 g7 g8 g9 g10
          go_wp2
          go_roundg (n - (j + 1))
          case measure => have := HJ.out; omega
          case rel => exact ⟨j + 1, by have := HJ.out; omega, by go_num, HO3.out, HB3.out, HS3.out, HX3.out⟩
        · have d1 : decide (fr ≤ e.seq) = false := by simpa using hc
          have HT2 := Lib.hid (show fromE fr (evs.take (j + 1)) = fromE fr (evs.take j) by rw [HT.out, if_neg hc, List.append_nil])
          clear hc HT
          go_wp2
          go_roundg (n - (j + 1))
          case measure => have := HJ.out; omega
          case rel => exact ⟨j + 1, by have := HJ.out; omega, by go_num, by rw [HT2.out]; exact HO.out, HBW.out, HS.out, HXW.out⟩
      · obtain rfl : n = j := by have := HJ.out; omega
        go_wp2
        go_ret2
        refine ⟨_, rfl, ?_, HBW.out⟩
        rw [HRE.out]
        have := HO.out
        rw [List.take_of_length_le (Nat.le_of_eq HN.out)] at this
        exact this.base_le (by have := HXX.out; have := HXB.out; omega)
  · have hz2 : (F2 != 0) = true := by simpa using hz
    have HRE := Lib.hid (show E = [] by rw [HE2.out, if_neg hz])
    clear hz
    go_wp2
    go_ret2
    exact ⟨_, rfl, by rw [HRE.out]; exact OV.nil _ _, HB1.out⟩
end Go.Proofs.YtalophngappkhaaGreatDoor

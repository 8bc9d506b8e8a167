/- The law SeqSmall's helper odd. -/
import Derived.Test.YtofjgcbjpmgkdaaTj
set_option linter.unusedVariables false
set_option linter.unusedSimpArgs false
set_option linter.unusedSectionVars false
namespace Go.Proofs.Ytofjgcbjpmgkdaa
open Go.RowKit Go.Shelf

def oddL : List Int := [-9223372036854775808, -1, 0, 1, 2, 3, 4, 281474976710655, 281474976710656, 281474976710657, 281474976710658, 9223372036854775807]
def oddC : List Int := [1, 2, 3, 4, 5, 281474976710656]
theorem oddL_rng : ∀ a ∈ oddL, -9223372036854775808 ≤ a ∧ a ≤ 9223372036854775807 := by decide
theorem oddC_rng : ∀ a ∈ oddC, 1 ≤ a ∧ a ≤ 281474976710656 := by decide
theorem count_many (w : World) (v : Value) (n : Nat) (hn : n ≤ 65536) (hv : EV encP 2 w v (manyR n)) :
    Calls Try.prog 26 #[v] w fun e w' => e = .returned (.tuple #[.int .i64 (n : Int), .int .i64 0]) ∧ Below w.heap.size w w' := by
  obtain ⟨h1, h2⟩ := manyR_can n (by omega)
  have := count_r w v _ hv (right_iff.2 ⟨by rw [manyR_len]; exact hn, h1⟩)
  rwa [h2] at this
theorem count_far (w : World) (v : Value) (n : Nat) (hn : 65536 < n) (hn2 : n ≤ 100000) (hv : EV encP 2 w v (manyR n)) :
    Calls Try.prog 26 #[v] w fun e w' => e = .returned (.tuple #[.int .i64 0, .int .i64 90]) ∧ Below w.heap.size w w' := by
  have := count_ok w v _ hv (by rw [manyR_len]; omega)
  have h : rerr [manyR n] = 90 := by rw [rerr_one, show rightB (manyR n) = false from by rw [Bool.eq_false_iff]; intro h; have := (right_iff.1 h).1; rw [manyR_len] at this; omega]; rfl
  unfold cntV at this
  rwa [h, if_neg (by decide)] at this
theorem of_sevens (w : World) (v : Value) (n : Nat) (h1 : 2 ≤ n) (h2 : n ≤ 65536) (hv : EV encI 1 w v (List.replicate n 7)) :
    Calls Try.prog 23 #[v] w fun e w' => ∃ A c A' c', e = .returned (.tuple #[.slice A 1 c, .slice A' 1 c', .int .i64 0]) ∧ Below w.heap.size w w' := by
  have := of_ok w v _ hv (by simp; omega)
  obtain ⟨e1, e2, e3⟩ := sevens n h1 h2
  rw [e1, e2, e3] at this
  refine this.mono fun e w' ⟨a, b, h1, h2, h3, h4⟩ => ?_
  obtain ⟨A, c, rfl⟩ := (h2.ev encP_len).shape
  obtain ⟨A', c', rfl⟩ := (h3.ev encI_len).shape
  exact ⟨A, c, A', c', h1, h4⟩
theorem of_far (w : World) (v : Value) (n : Nat) (h1 : 65536 < n) (h2 : n ≤ 100000) (hv : EV encI 1 w v (List.replicate n 7)) :
    Calls Try.prog 23 #[v] w fun e w' => ∃ a b, e = .returned (.tuple #[a, b, .int .i64 5]) ∧ Below w.heap.size w w' := by
  have := of_ok w v _ hv (by simp; omega)
  obtain ⟨e1, e2, e3⟩ := sevens_far n h1
  rw [e1, e2, e3] at this
  exact this.mono fun e w' ⟨a, b, h1, h2, h3, h4⟩ => ⟨a, b, h1, h4⟩

set_option maxRecDepth 100000 in
set_option maxHeartbeats 4000000 in
theorem odd_ok (w : World) : Calls Try.prog 34 #[] w fun e w' => e = .returned (.bool true) ∧ Below w.heap.size w w' := by
  obtain ⟨E, hE⟩ : ∃ E, oddL = E := ⟨_, rfl⟩
  have HER := Lib.hid (show ∀ a ∈ E, -9223372036854775808 ≤ a ∧ a ≤ 9223372036854775807 from hE ▸ oddL_rng)
  have HEL := Lib.hid (show E.length = 12 from hE ▸ rfl)
  have HEE := Lib.hid (show E.flatMap encI = oddL.flatMap encI from hE ▸ rfl)
  clear hE
  go_enter Try.func34, Try.ntmps34
  go_wp2_with fail
  have ev0 := EV.newM (e := 3) (w := w) (xs := E) (n := 12) (cs := #[.int .i64 (-9223372036854775808), .int .i64 (-1), .int .i64 0, .int .i64 1, .int .i64 2, .int .i64 3, .int .i64 4, .int .i64 281474976710655, .int .i64 281474976710656, .int .i64 281474976710657, .int .i64 281474976710658, .int .i64 9223372036854775807]) encI_len (by rw [HEE.out]; rfl) HEL.out rfl
  have b0 := bel_alloc w (.cells #[.int .i64 (-9223372036854775808), .int .i64 (-1), .int .i64 0, .int .i64 1, .int .i64 2, .int .i64 3, .int .i64 4, .int .i64 281474976710655, .int .i64 281474976710656, .int .i64 281474976710657, .int .i64 281474976710658, .int .i64 9223372036854775807] 3)
  generalize w.alloc _ = wx at ev0 b0 ⊢
  have EV0 := Lib.hid ev0
  have B0 := Lib.hid b0
  have s0 := b0.size
  obtain ⟨X, hX⟩ : ∃ X, w.heap.size = X := ⟨_, rfl⟩
  rw [hX] at EV0 ⊢
  clear ev0 b0 hX
  go_loopg [3, 5, 7, 24] 12 (fun k _ _ _ i wr => ∃ t : Nat, t + k = 12 ∧ i = .int .i64 t ∧ Below wx.heap.size wx wr)
  case atStart => exact ⟨0, by omega, rfl, Below.refl _ _⟩
  case round =>
    obtain ⟨t, ht, rfl, hb⟩ := hrel
    have HT := Lib.hid ht
    have HB := Lib.hid hb
    have hsz := hb.size
    clear ht hb
    by_cases hlt : t < 12
    · have hd1 : decide ((t : Int) < 12) = true := by rw [decide_eq_true_eq]; omega
      obtain ⟨a, ha, ca⟩ := ((EV0.out.below HB.out).row3 (by rw [HEL.out]; omega)).get1 (i := t) (by rw [HEL.out]; exact hlt)
      have WA := Lib.hid (HER.out a (List.mem_of_getElem? ha))
      rw [Nat.zero_add] at ca
      clear ha
      go_wp2_with fail
      go_loopg [5, 7, 30] 12 (fun k _ _ i wr => ∃ s : Nat, s + k = 12 ∧ i = .int .i64 s ∧ Below wx.heap.size wx wr)
      case atStart => exact ⟨0, by omega, rfl, HB.out⟩
      case round =>
        obtain ⟨s, hs, rfl, hb⟩ := hrel
        have HS := Lib.hid hs
        have HB := Lib.hid hb
        have hsz := hb.size
        clear hs hb ca
        by_cases hls : s < 12
        · have hd2 : decide ((s : Int) < 12) = true := by rw [decide_eq_true_eq]; omega
          obtain ⟨b, hb, cb⟩ := ((EV0.out.below HB.out).row3 (by rw [HEL.out]; omega)).get1 (i := s) (by rw [HEL.out]; exact hls)
          have WB := Lib.hid (HER.out b (List.mem_of_getElem? hb))
          rw [Nat.zero_add] at cb
          clear hb
          go_wp2_with fail
          refine (one_lit1 wr a b a b rfl WA.out.1 WA.out.2).mono ?_
          rintro e w1 ⟨rfl, bb⟩
          have B1 := Lib.hid (HB.out.trans (bb.mono hsz))
          have s1 := B1.out.size
          clear bb
          go_wp2_with fail
          refine (of_lit w1 a b 2 a rfl).mono ?_
          rintro e w2 ⟨rfl, bb⟩
          have B2 := Lib.hid (B1.out.trans (bb.mono s1))
          have s2 := B2.out.size
          clear bb B1
          go_wp2_with fail
          refine (one_ok w2 _ [] a b (EV.nil _ _) (by simp) WA.out.1 WA.out.2).mono ?_
          rintro e w3 ⟨rfl, bb⟩
          have B3 := Lib.hid (B2.out.trans (bb.mono s2))
          have s3 := B3.out.size
          clear bb B2
          go_wp2_with fail
          obtain ⟨C, hC⟩ : ∃ C, oddC = C := ⟨_, rfl⟩
          have HCR := Lib.hid (show ∀ a ∈ C, 1 ≤ a ∧ a ≤ 281474976710656 from hC ▸ oddC_rng)
          have HCL := Lib.hid (show C.length = 6 from hC ▸ rfl)
          have ev1 := EV.newM (e := 3) (w := w3) (xs := C) (n := 6) (cs := #[.int .i64 1, .int .i64 2, .int .i64 3, .int .i64 4, .int .i64 5, .int .i64 281474976710656]) encI_len (by rw [← hC]; rfl) HCL.out rfl
          have b4 := B3.out.trans ((bel_alloc w3 (.cells #[.int .i64 1, .int .i64 2, .int .i64 3, .int .i64 4, .int .i64 5, .int .i64 281474976710656] 3)).mono s3)
          generalize w3.alloc _ = w4 at ev1 b4 ⊢
          have EV1 := Lib.hid ev1
          have B4 := Lib.hid b4
          have s4 := b4.size
          obtain ⟨Y, hY⟩ : ∃ X, w3.heap.size = X := ⟨_, rfl⟩
          rw [hY] at EV1 ⊢
          clear ev1 b4 hY hC
          go_loopg [7, 58] 6 (fun k _ i wr => ∃ u : Nat, u + k = 6 ∧ i = .int .i64 u ∧ Below w4.heap.size w4 wr)
          case atStart => exact ⟨0, by omega, rfl, Below.refl _ _⟩
          case round =>
            obtain ⟨u, hu, rfl, hb⟩ := hrel
            have HU := Lib.hid hu
            have HBU := Lib.hid hb
            have hszu := hb.size
            clear hu hb cb
            by_cases hlu : u < 6
            · have hd3 : decide ((u : Int) < 6) = true := by rw [decide_eq_true_eq]; omega
              obtain ⟨c, hc, cc⟩ := ((EV1.out.below HBU.out).row3 (by rw [HCL.out]; omega)).get1 (i := u) (by rw [HCL.out]; exact hlu)
              have WC := Lib.hid (HCR.out c (List.mem_of_getElem? hc))
              rw [Nat.zero_add] at cc
              clear hc
              go_wp2_with fail
              refine (one_lit2 wr 2 2 a b c a rfl (by have := WC.out; omega) (by have := WC.out; omega)).mono ?_
              rintro e w5 ⟨rfl, bb⟩
              have B5 := Lib.hid (HBU.out.trans (bb.mono hszu))
              have s5 := B5.out.size
              clear bb
              go_wp2_with fail
              refine (two_lit w5 a b c 1 rfl).mono ?_
              rintro e w6 ⟨rfl, bb⟩
              have B6 := Lib.hid (B5.out.trans (bb.mono s5))
              clear bb B5
              go_wp2
              go_roundg (gk - 1)
              case measure => have := HU.out; omega
              case rel => exact ⟨u + 1, by have := HU.out; omega, by go_num, B6.out⟩
            · have hd3 : decide ((u : Int) < 6) = false := by rw [decide_eq_false_iff_not]; omega
              have BF := Lib.hid (B4.out.trans (HBU.out.mono s4))
              go_wp2
              go_roundg (12 - (s + 1))
              case measure => have := HS.out; omega
              case rel => exact ⟨s + 1, by have := HS.out; omega, by go_num, BF.out⟩
        · have hd2 : decide ((s : Int) < 12) = false := by rw [decide_eq_false_iff_not]; omega
          go_wp2
          go_roundg (12 - (t + 1))
          case measure => have := HT.out; omega
          case rel => exact ⟨t + 1, by have := HT.out; omega, by go_num, HB.out⟩
    · have hd1 : decide ((t : Int) < 12) = false := by rw [decide_eq_false_iff_not]; omega
      have BW := Lib.hid (B0.out.trans (HB.out.mono s0))
      have sw := BW.out.size
      clear HB B0
      go_wp2_with fail
      obtain ⟨ws, hws⟩ : ∃ ws, wr = ws := ⟨_, rfl⟩
      have HWS := Lib.hid hws
      obtain ⟨N, hN⟩ : ∃ N : Nat, N = 65537 := ⟨_, rfl⟩
      have HN := Lib.hid hN
      have hN1 : (N : Int) = 65537 := by omega
      clear hws hN
      go_loopg [8, 9, 10, 85] N (fun k vm vn _ i wq => ∃ j : Nat, j + k = N ∧ i = .int .i64 j ∧ OV encP 2 35 ws.heap.size wq vm (manyR j) ∧ OV encI 1 3 ws.heap.size wq vn (List.replicate j 7) ∧ Below ws.heap.size ws wq)
      case atStart => rw [← HWS.out]; exact ⟨0, by omega, rfl, OV.nil _ _, OV.nil _ _, Below.refl _ _⟩
      case round =>
        obtain ⟨j, hj, rfl, hm, hn, hb⟩ := hrel
        have HJ := Lib.hid hj
        have HM := Lib.hid hm
        have HNN := Lib.hid hn
        have HB := Lib.hid hb
        have hszb := hb.size
        have hjN : (j : Int) ≤ 65537 := by omega
        have MS := Lib.hid (manyR_succ j)
        have RS := Lib.hid (show List.replicate (j + 1) (7 : Int) = List.replicate j 7 ++ [7] from by rw [List.replicate_succ'])
        have ML := Lib.hid (manyR_len j)
        clear hj hm hn hb
        by_cases hlj : j < N
        · have hd1 : decide ((j : Int) < 65537) = true := by rw [decide_eq_true_eq]; omega
          clear hN1
          go_wp2_with (at_builtin; refine wpList_app elemR encP_len encP_one rfl (.tmp 88) (.tmp 93) rfl _ _ rfl rfl (HM.out.alloc _) (new_pair (p := 1 + 2 * (j : Int)) (q := 1)) ?q1 ?q2 ?_)
          case q1 => rw [ML.out]; (try simp); omega
          case q2 => (try simp); omega
          intro v1 w1 o1 g1
          have b1 : Below ws.heap.size ws w1 := (HB.out.alloc hszb _).grown g1 (by simp; omega) (fun k hk => (HM.out.block k hk).1)
          have n1 := (HNN.out.alloc (.cells #[.int .i64 (1 + 2 * (j : Int)), .int .i64 1] 35)).keep g1 (HNN.out.ne HM.out (by decide))
          have O1 := Lib.hid o1
          have N1 := Lib.hid n1
          have B1 := Lib.hid b1
          have s1 := b1.size
          clear g1 o1 n1 b1
          go_wp2_with (at_builtin; refine wpList_app elemI encI_len encI_one rfl (.tmp 95) (.tmp 96) rfl _ _ rfl rfl (N1.out.alloc _) (new_one (z := 7)) ?q3 ?q4 ?_)
          case q3 => (try simp); omega
          case q4 => (try simp); omega
          intro v2 w2 o2 g2
          have B2 := Lib.hid ((B1.out.alloc s1 _).grown g2 (by simp; omega) (fun k hk => (N1.out.block k hk).1))
          have O3 := Lib.hid ((O1.out.alloc (.cells #[.int .i64 7] 3)).keep g2 (O1.out.ne N1.out (by decide)))
          have O2 := Lib.hid o2
          clear g2 o2
          go_wp2
          go_roundg (gk - 1)
          case measure => have := HJ.out; omega
          case rel => exact ⟨j + 1, by have := HJ.out; omega, by go_num, by rw [MS.out]; exact O3.out, by rw [RS.out]; exact O2.out, B2.out⟩
        · have hd1 : decide ((j : Int) < 65537) = false := by rw [decide_eq_false_iff_not]; omega
          obtain rfl : j = N := by have := HJ.out; omega
          obtain ⟨gm, cm, hvm, hcm, -, -⟩ := HM.out.row_form encP_len ML.out (by omega)
          obtain ⟨gn, cn, hvn, hcn, -, -⟩ := HNN.out.row_form encI_len (n := j) (by simp) (by omega)
          subst hvm
          subst hvn
          have evm := HM.out.ev encP_len
          have evn := HNN.out.ev encI_len
          have evm2 := evm.row_take (j := 65536) (by rw [ML.out]; omega) ML.out.symm
          have evn2 := evn.row_take (j := 65536) (by simp; omega) (by simp)
          rw [manyR_take (by omega)] at evm2
          rw [List.take_replicate, show min 65536 j = 65536 by omega] at evn2
          have F := (((((Facts.nil wr).snoc (sB w) (BW.out.trans (by rw [HWS.out]; exact HB.out.mono (by rw [← HWS.out]; exact sw)))).snoc (sEV encP 2 _ _) evm).snoc (sEV encI 1 _ _) evn).snoc (sEV encP 2 _ _) evm2).snoc (sEV encI 1 _ _) evn2
          have C1 := Lib.hid (fun (w : World) hv => (show Calls Try.prog 26 #[.slice (some ⟨gm, 0, none⟩) 65536 cm] w fun e w' => e = .returned (.tuple #[.int .i64 65536, .int .i64 0]) ∧ Below w.heap.size w w' from count_many w _ 65536 (by omega) hv))
          have C2 := Lib.hid (fun (w : World) hv => count_far w (.slice (some ⟨gm, 0, none⟩) j cm) j (by omega) (by omega) hv)
          have C3 := Lib.hid (fun (w : World) hv => of_sevens w (.slice (some ⟨gn, 0, none⟩) 65536 cn) 65536 (by omega) (by omega) hv)
          have C4 := Lib.hid (fun (w : World) hv => of_far w (.slice (some ⟨gn, 0, none⟩) j cn) j (by omega) (by omega) hv)
          have c1 : (65536 : Int) ≤ (cm : Int) := by omega
          have c2 : (65536 : Int) ≤ (cn : Int) := by omega
          have c3 : (65536 : Nat) ≤ cm := by omega
          have c4 : (65536 : Nat) ≤ cn := by omega
          clear evm evn evm2 evn2 hN1 HJ hlj hjN hcm hcn HM HNN HB BW MS RS
          go_wp2_with fail
          refine (C1.out _ (F.get 3)).mono ?_
          rintro e x1 ⟨rfl, bb⟩
          replace F := F.below bb
          clear bb
          go_wp2_with fail
          refine (C2.out _ (F.get 1)).mono ?_
          rintro e x2 ⟨rfl, bb⟩
          replace F := F.below bb
          clear bb
          go_wp2_with fail
          refine (C3.out _ (F.get 4)).mono ?_
          rintro e x3 ⟨A5, c5, A6, c6, rfl, bb⟩
          replace F := F.below bb
          clear bb
          go_wp2_with fail
          refine (C4.out _ (F.get 2)).mono ?_
          rintro e x4 ⟨r7, r8, rfl, bb⟩
          have hfin : Below w.heap.size w x4 := (F.below bb).get 0
          clear bb F
          go_wp2
          go_ret
          exact ⟨rfl, hfin⟩
end Go.Proofs.Ytofjgcbjpmgkdaa

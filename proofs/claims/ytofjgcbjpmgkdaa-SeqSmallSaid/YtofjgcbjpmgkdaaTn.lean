/- The walk of the law SeqSmall. -/
import Derived.Test.YtofjgcbjpmgkdaaTk
set_option linter.unusedVariables false
set_option linter.unusedSimpArgs false
set_option linter.unusedSectionVars false
namespace Go.Proofs.Ytofjgcbjpmgkdaa
open Go.RowKit Go.Shelf

def bnd : Nat → Nat
  | 0 => 0
  | i + 1 => 2 * bnd i + 2
theorem bnd_le {i : Nat} (h : i ≤ 5) : bnd i ≤ 62 := by
  rcases (by omega : i = 0 ∨ i = 1 ∨ i = 2 ∨ i = 3 ∨ i = 4 ∨ i = 5) with rfl | rfl | rfl | rfl | rfl | rfl <;> decide
/-- The sets that have been made: each its own row. -/
def SetsOk (B : Nat) (w : World) (xs : List Sl) : Prop := ∀ x ∈ xs, OV encP 2 35 B w x.v x.2 ∧ x.2.length ≤ 1000
theorem SetsOk.below {B : Nat} {w w' : World} {xs : List Sl} (h : SetsOk B w xs) (hb : Below w.heap.size w w') : SetsOk B w' xs := fun x hx => ⟨(h x hx).1.below hb, (h x hx).2⟩
/-- The reference's Both with a literal. -/
theorem rboth_lit (w : World) (v : Value) (l : List (Int × Int)) (x : Int) {m : Nat} (hm : w.heap.size = m) (hv : EV encP 2 w v l) (hl : l.length ≤ 1000) :
    Calls Try.prog 33 #[v, .slice (some ⟨m, 0, none⟩) 1 1, .int .i64 7] (w.alloc (.cells #[.int .i64 x, .int .i64 1] 61)) fun e w' =>
      ∃ r r2 l', e = .returned (.tuple #[r, r2]) ∧ EV encP 2 w' r l' ∧ l'.length ≤ 2 * l.length + 2 ∧ Below w.heap.size w w' := by
  refine (rboth_ok _ v _ l [(x, 1)] 7 (hv.below (bel_alloc _ _)) (EV.newM encP_len rfl rfl hm) (by omega) (by simp) (by omega) (by omega)).mono fun e w' ⟨r, h1, h2, h3⟩ => ⟨r, _, _, h1, h2.ev encP_len, ?_, (bel_alloc _ _).trans (h3.mono (by simp))⟩
  have := bothI_len (tk := tkT 7) (c := rerr [l, [(x, 1)]] = 0) l [(x, 1)]
  simpa using this

set_option maxRecDepth 100000 in
set_option maxHeartbeats 4000000 in
theorem smallLaw_walk (w : World) : Calls Try.prog 10 #[] w fun e w' => e = .returned (.bool true) ∧ Below w.heap.size w w' := by
  go_enter Try.func10, Try.ntmps10
  go_wp2_with fail
  have ev0 := EV.newM (e := 3) (w := w) (xs := [0, 281474976710651]) (n := 2) (cs := #[.int .i64 0, .int .i64 281474976710651]) encI_len rfl rfl rfl
  have b0 := bel_alloc w (.cells #[.int .i64 0, .int .i64 281474976710651] 3)
  generalize w.alloc _ = wx at ev0 b0 ⊢
  have EV0 := Lib.hid ev0
  have B0 := Lib.hid b0
  have s0 := b0.size
  obtain ⟨X, hX⟩ : ∃ X, w.heap.size = X := ⟨_, rfl⟩
  rw [hX] at EV0 ⊢
  clear ev0 b0 hX
  go_loopg [2, 3, 4, 5, 6, 7, 9, 11, 13, 14, 15, 18] 2 (fun k _ _ _ _ _ _ _ _ _ _ _ i wr => ∃ t : Nat, t + k = 2 ∧ i = .int .i64 t ∧ Below wx.heap.size wx wr)
  case atStart => exact ⟨0, by omega, rfl, Below.refl _ _⟩
  case round =>
    obtain ⟨t, ht, rfl, hb⟩ := hrel
    have HT := Lib.hid ht
    have HB := Lib.hid hb
    have hsz := hb.size
    clear ht hb
    by_cases hlt : t < 2
    · have hd1 : decide ((t : Int) < 2) = true := by rw [decide_eq_true_eq]; omega
      obtain ⟨b, hb, cb⟩ := ((EV0.out.below HB.out).row3 (by simp)).get1 (i := t) (by simpa using hlt)
      have hb01 : 0 ≤ b ∧ b ≤ 281474976710651 := by
        have := List.mem_of_getElem? hb
        simp at this; omega
      obtain ⟨hb0, hb1⟩ := hb01
      rw [Nat.zero_add] at cb
      clear hb
      obtain ⟨ws, rfl⟩ : ∃ ws, ws = wr := ⟨_, rfl⟩
      have CB := Lib.hid cb
      go_wp2_with fail
      go_loopg [3, 4, 5, 6, 7, 9, 22] 32 (fun k vs _ _ _ _ _ i wr => ∃ (j : Nat) (xs : List Sl), j + k = 32 ∧ i = .int .i64 j ∧ xs.length = j ∧ OV encS 1 22 ws.heap.size wr vs xs ∧ SetsOk ws.heap.size wr xs ∧ Below ws.heap.size ws wr)
      case atStart => exact ⟨0, [], by omega, rfl, rfl, OV.nil _ _, fun x hx => by simp at hx, Below.refl _ _⟩
      case round =>
        obtain ⟨j, xs, hj, rfl, hxl, ho, hs, hb⟩ := hrel
        have HJ := Lib.hid hj
        have HXL := Lib.hid hxl
        have HO := Lib.hid ho
        have HS := Lib.hid hs
        have HBS := Lib.hid hb
        have hszs := hb.size
        clear hj hxl ho hs hb cb
        by_cases hlj : j < 32
        · have hd2 : decide ((j : Int) < 32) = true := by rw [decide_eq_true_eq]; omega
          obtain ⟨wq, rfl⟩ : ∃ ws, ws = wr := ⟨_, rfl⟩
          go_wp2_with fail
          go_loopg [5, 6, 25] 5 (fun k v _ i wr => ∃ (n : Nat) (l : List (Int × Int)), n + k = 5 ∧ i = .int .i64 n ∧ EV encP 2 wr v l ∧ l.length ≤ bnd n ∧ Below wq.heap.size wq wr)
          case atStart => exact ⟨0, [], by omega, rfl, EV.nil _ _, by simp, Below.refl _ _⟩
          case round =>
            obtain ⟨n, l, hn, rfl, hev, hl, hb⟩ := hrel
            have HN := Lib.hid hn
            have HEV := Lib.hid hev
            have HL := Lib.hid hl
            have HBQ := Lib.hid hb
            have hszq := hb.size
            have hl62 : l.length ≤ 62 := Nat.le_trans hl (bnd_le (by omega))
            clear hn hev hl hb
            by_cases hln : n < 5
            · have hd3 : decide ((n : Int) < 5) = true := by rw [decide_eq_true_eq]; omega
              go_wp2_with fail
              · refine (rboth_lit wr u5 l _ rfl HEV.out (by omega)).mono ?_
                rintro e w1 ⟨r, r2, l', rfl, hev, hl', bb⟩
                have E1 := Lib.hid hev
                have L1 := Lib.hid (show l'.length ≤ bnd (n + 1) from by have := HL.out; show _ ≤ 2 * bnd n + 2; omega)
                have B1 := Lib.hid (HBQ.out.trans (bb.mono hszq))
                clear hev hl' bb
                go_wp2
                go_roundg (gk - 1)
                case measure => have := HN.out; omega
                case rel => exact ⟨n + 1, l', by have := HN.out; omega, by go_num, E1.out, L1.out, B1.out⟩
              · go_roundg (gk - 1)
                case measure => have := HN.out; omega
                case rel => exact ⟨n + 1, l, by have := HN.out; omega, by go_num, HEV.out, by have := HL.out; show _ ≤ 2 * bnd n + 2; omega, HBQ.out⟩
            · have hd3 : decide ((n : Int) < 5) = false := by rw [decide_eq_false_iff_not]; omega
              obtain ⟨A5, c5, rfl⟩ := HEV.out.shape
              have O1 := Lib.hid (HO.out.below HBQ.out)
              have S1 := Lib.hid (HS.out.below HBQ.out)
              have B1 := Lib.hid (HBS.out.trans (HBQ.out.mono hszs))
              have sz1 := B1.out.size
              clear HO HS HBS HBQ hszq hszs HN HL
              obtain ⟨wz, rfl⟩ : ∃ ws, ws = wr := ⟨_, rfl⟩
              go_wp2_with fail
              go_loopg [7, 9, 47] l.length (fun k v _ i wr => ∃ q : Nat, q + k = l.length ∧ i = .int .i64 q ∧ OV encP 2 35 wz.heap.size wr v (l.take q) ∧ Below wz.heap.size wz wr)
              case atStart => exact ⟨0, by omega, rfl, OV.nil _ _, Below.refl _ _⟩
              case round =>
                obtain ⟨q, hq, rfl, ho, hb⟩ := hrel
                have HQ := Lib.hid hq
                have HO := Lib.hid ho
                have HB2 := Lib.hid hb
                have hsz2 := hb.size
                clear hq ho hb
                by_cases hlq : q < l.length
                · obtain ⟨bb, ob, cb, hvb, -, rb⟩ := (HEV.out.below HB2.out).row (by omega)
                  simp only [Value.slice.injEq] at hvb
                  obtain ⟨rfl, -, rfl⟩ := hvb
                  obtain ⟨⟨p, d⟩, hr⟩ : ∃ r, l[q]? = some r := ⟨_, List.getElem?_eq_getElem hlq⟩
                  obtain ⟨x0, x1⟩ := rb.prs hr
                  dsimp only at x0 x1
                  have LT := Lib.hid (show l.take (q + 1) = l.take q ++ [(p, d)] from by rw [List.take_add_one, hr, Option.toList_some])
                  clear hr rb
                  go_wp2_with (at_builtin; refine wpList_app elemR encP_len encP_one rfl (.tmp 51) (.tmp 53) rfl _ _ rfl rfl ((HO.out.alloc _).alloc _) (new_pair2 (p := p) (q := d) (World.size_alloc _ _)) ?q1 ?q2 ?_)
                  case q1 => simp; omega
                  case q2 => (try simp); omega
                  intro v' w2 o2 g2
                  have b2 := Lib.hid (((HB2.out.alloc hsz2 _).alloc (by simp; omega) _).grown g2 (by simp; omega) (fun k hk => (HO.out.block k hk).1))
                  have O2 := Lib.hid o2
                  clear g2 o2
                  go_wp2
                  go_roundg (gk - 1)
                  case measure => have := HQ.out; omega
                  case rel => exact ⟨q + 1, by have := HQ.out; omega, by go_num, by rw [LT.out]; exact O2.out, b2.out⟩
                · have LE := Lib.hid (show l.take q = l from List.take_of_length_le (by omega))
                  have ho := HO.out
                  rw [LE.out] at ho
                  obtain ⟨A7, c7, rfl⟩ := (ho.ev encP_len).shape
                  have HO7 := Lib.hid (ho.base_le (base' := ws.heap.size) sz1)
                  have O2 := Lib.hid (O1.out.below HB2.out)
                  have S2 := Lib.hid (S1.out.below HB2.out)
                  have B2 := Lib.hid (B1.out.trans (HB2.out.mono sz1))
                  have sz2 := B2.out.size
                  clear ho HO O1 S1 B1 HB2
                  go_wp2_with (at_builtin; refine wpList_app elemV encS_len encS_one rfl (.tmp 56) (.tmp 58) rfl _ _ rfl rfl (O2.out.alloc _) (EV.new1 (x := (((A7, l.length, c7), l) : Sl)) rfl (Nat.le_refl _)) ?q3 ?q4 ?_)
                  case q3 => rw [HXL.out]; simp; omega
                  case q4 => (try simp); omega
                  intro v' w2 o3 g3
                  have B3 := Lib.hid ((B2.out.alloc sz2 _).grown g3 (by simp; omega) (fun k hk => (O2.out.block k hk).1))
                  have S3 := Lib.hid (show SetsOk ws.heap.size w2 (xs ++ [(((A7, l.length, c7), l) : Sl)]) from fun x hx => by
                    rcases List.mem_append.1 hx with hx | hx
                    · obtain ⟨h1, h2⟩ := S2.out x hx
                      exact ⟨(h1.alloc _).keep g3 (h1.ne O2.out (by decide)), h2⟩
                    · simp at hx; subst hx
                      exact ⟨(HO7.out.alloc _).keep g3 (HO7.out.ne O2.out (by decide)), by show l.length ≤ 1000; omega⟩)
                  have O3 := Lib.hid o3
                  clear g3 o3
                  go_wp2
                  go_roundg (32 - (j + 1))
                  case measure => have := HJ.out; omega
                  case rel => exact ⟨j + 1, _, by omega, by go_num, by simp [HXL.out], O3.out, S3.out, B3.out⟩
        · have hd2 : decide ((j : Int) < 32) = false := by rw [decide_eq_false_iff_not]; omega
          have ev3 := HO.out.ev encS_len
          obtain ⟨A3, c3, rfl⟩ := ev3.shape
          have EV3 := Lib.hid ev3
          have BT := Lib.hid (HB.out.trans (HBS.out.mono hsz))
          have szt := BT.out.size
          clear ev3 HO HBS hszs HB hsz
          obtain ⟨wt, rfl⟩ : ∃ ws, ws = wr := ⟨_, rfl⟩
          obtain ⟨N, hN⟩ : ∃ N, xs.length = N := ⟨_, rfl⟩
          rw [hN] at EV3 ⊢
          have HN := Lib.hid hN
          have hN32 : N ≤ 32 := by have := HXL.out; have := HJ.out; omega
          clear hN
          go_wp2_with fail
          go_loopg [11, 13, 14, 15, 63] N (fun k _ _ _ _ i wr => ∃ q : Nat, q + k = N ∧ i = .int .i64 q ∧ Below wt.heap.size wt wr)
          case atStart => exact ⟨0, by omega, rfl, Below.refl _ _⟩
          case round =>
            obtain ⟨q, hq, rfl, hb⟩ := hrel
            have HQ := Lib.hid hq
            have HB := Lib.hid hb
            have hszb := hb.size
            clear hq hb
            by_cases hlq : q < N
            · obtain ⟨b3, o3, c3', hvv, -, rr⟩ := EV3.out.row (by rw [HN.out]; omega)
              simp only [Value.slice.injEq] at hvv
              obtain ⟨rfl, -, rfl⟩ := hvv
              obtain ⟨a, ha⟩ : ∃ a, xs[q]? = some a := ⟨_, List.getElem?_eq_getElem (by rw [HN.out]; exact hlq)⟩
              have ca := (rr.below HB.out) q a ha 0 _ rfl
              simp only [Nat.mul_one, Nat.add_zero] at ca
              have SA := Lib.hid (HS.out a (List.mem_of_getElem? ha))
              have RR := Lib.hid rr
              clear ha rr
              go_wp2_with fail
              go_loopg [13, 69] N (fun k _ i wr => ∃ r : Nat, r + k = N ∧ i = .int .i64 r ∧ Below wt.heap.size wt wr)
              case atStart => exact ⟨0, by omega, rfl, HB.out⟩
              case round =>
                obtain ⟨r, hr, rfl, hb⟩ := hrel
                have HR := Lib.hid hr
                have HB := Lib.hid hb
                have hszb := hb.size
                clear hr hb ca
                by_cases hlr : r < N
                · obtain ⟨c, hc⟩ : ∃ a, xs[r]? = some a := ⟨_, List.getElem?_eq_getElem (by rw [HN.out]; exact hlr)⟩
                  have cc := (RR.out.below HB.out) r c hc 0 _ rfl
                  simp only [Nat.mul_one, Nat.add_zero] at cc
                  have SC := Lib.hid (HS.out c (List.mem_of_getElem? hc))
                  have TW := Lib.hid (two_ok wr a.v c.v a.2 c.2 ((SA.out.1.below HB.out).ev encP_len) ((SC.out.1.below HB.out).ev encP_len) (by have := SA.out.2; omega) (by have := SC.out.2; omega))
                  clear hc
                  go_wp2_with fail
                  refine TW.out.mono ?_
                  rintro e w1 ⟨rfl, bb⟩
                  have B1 := Lib.hid (HB.out.trans (bb.mono hszb))
                  clear bb
                  go_wp2
                  go_roundg (gk - 1)
                  case measure => have := HR.out; omega
                  case rel => exact ⟨r + 1, by have := HR.out; omega, by go_num, B1.out⟩
                · go_wp2_with fail
                  go_loopg [14, 15] 9 (fun k vf _ wr => ∃ n : Nat, n + k = 9 ∧ vf = .int .i64 ((n : Int) - 1) ∧ Below wt.heap.size wt wr)
                  case atStart => exact ⟨0, by omega, rfl, HB.out⟩
                  case round =>
                    obtain ⟨n, hn, rfl, hb⟩ := hrel
                    have HNN := Lib.hid hn
                    have HB := Lib.hid hb
                    have hszb := hb.size
                    have hn9 : n ≤ 9 := by omega
                    clear hn hb
                    by_cases hln : n < 9
                    · have hd4 : decide ((n : Int) - 1 < 8) = true := by rw [decide_eq_true_eq]; omega
                      have hd5 : decide ((n : Int) < 9) = true := by rw [decide_eq_true_eq]; omega
                      go_wp2_with fail
                      go_loopg [15] (10 - n) (fun k vn wr => ∃ m : Nat, m + k = 10 ∧ vn = .int .i64 ((m : Int) - 2) ∧ Below wt.heap.size wt wr)
                      case atStart => exact ⟨n, by omega, congrArg (Value.int .i64) (by omega), HB.out⟩
                      case round =>
                        obtain ⟨m, hm, rfl, hb⟩ := hrel
                        have HM := Lib.hid hm
                        have HB := Lib.hid hb
                        have hszb := hb.size
                        have hm10 : m ≤ 10 := by omega
                        clear hm hb
                        by_cases hlm : m < 10
                        · have hd6 : decide ((m : Int) - 2 < 8) = true := by rw [decide_eq_true_eq]; omega
                          have hd7 : decide ((m : Int) < 10) = true := by rw [decide_eq_true_eq]; omega
                          have ON := Lib.hid (fun (f n : Int) (f1 : -9223372036854775808 ≤ f) (f2 : f ≤ 9223372036854775807) => one_ok wr a.v a.2 f n ((SA.out.1.below HB.out).ev encP_len) (by have := SA.out.2; omega) f1 f2)
                          go_wp2_with fail
                          refine (ON.out _ _ (by omega) (by omega)).mono ?_
                          rintro e w1 ⟨rfl, bb⟩
                          have B1 := Lib.hid (HB.out.trans (bb.mono hszb))
                          clear bb
                          go_wp2
                          go_roundg (gk - 1)
                          case measure => have := HM.out; omega
                          case rel => exact ⟨m + 1, by have := HM.out; omega, congrArg (Value.int .i64) (by push_cast; omega), B1.out⟩
                        · have hd6 : decide ((m : Int) - 2 < 8) = false := by rw [decide_eq_false_iff_not]; omega
                          have hd7 : decide ((m : Int) < 10) = false := by rw [decide_eq_false_iff_not]; omega
                          go_wp2
                          go_roundg (9 - (n + 1))
                          case measure => have := HNN.out; omega
                          case rel => exact ⟨n + 1, by have := HNN.out; omega, congrArg (Value.int .i64) (by push_cast; omega), HB.out⟩
                    · have hd4 : decide ((n : Int) - 1 < 8) = false := by rw [decide_eq_false_iff_not]; omega
                      have hd5 : decide ((n : Int) < 9) = false := by rw [decide_eq_false_iff_not]; omega
                      go_wp2
                      go_roundg (N - (q + 1))
                      case measure => have := HQ.out; omega
                      case rel => exact ⟨q + 1, by have := HQ.out; omega, by go_num, HB.out⟩
            · have BF := Lib.hid (BT.out.trans (HB.out.mono szt))
              go_wp2
              go_roundg (2 - (t + 1))
              case measure => have := HT.out; omega
              case rel => exact ⟨t + 1, by have := HT.out; omega, by go_num, BF.out⟩
    · have hd1 : decide ((t : Int) < 2) = false := by rw [decide_eq_false_iff_not]; omega
      have BF := Lib.hid (B0.out.trans (HB.out.mono s0))
      have szf := BF.out.size
      go_wp2_with fail
      refine (odd_ok wr).mono ?_
      rintro e w1 ⟨rfl, bb⟩
      have B1 := Lib.hid (BF.out.trans (bb.mono szf))
      have sz1 := B1.out.size
      clear bb
      go_wp2_with fail
      refine (awake_ok w1).mono ?_
      rintro e w2 ⟨rfl, bb⟩
      have B2 := Lib.hid (B1.out.trans (bb.mono sz1))
      clear bb
      go_wp2
      go_ret
      exact ⟨rfl, B2.out⟩
end Go.Proofs.Ytofjgcbjpmgkdaa

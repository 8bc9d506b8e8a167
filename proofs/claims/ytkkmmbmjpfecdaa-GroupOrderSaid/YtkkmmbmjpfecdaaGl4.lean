/- The walk of the law GroupOrder: it returns true. -/
import Derived.Test.YtkkmmbmjpfecdaaGl3
import Derived.Test.YtkkmmbmjpfecdaaGto
namespace Go.Proofs.Ytkkmmbmjpfecdaa
open Go.RowKit Go.Shelf


theorem order_at (w : World) (v : Value) (gs : List (Int × Int)) (hv : EV encG 2 w v gs) (hok : GOK gs) :
    Calls Try.prog 26 #[v] w fun e w' => ∃ r, e = .returned (.tuple #[r, .int .i64 0]) ∧ OV encI 1 3 w.heap.size w' r (orderL gs) ∧ Below w.heap.size w w' := by
  refine (order_ok w v gs hv (by have := hok.many; omega)).mono ?_
  rintro e w' ⟨r, rfl, ho, hb⟩
  exact ⟨r, by rw [there_zero.2 ⟨hok, by simp⟩], ho, hb⟩


set_option maxRecDepth 100000 in
set_option maxHeartbeats 8000000 in
theorem order_walk (w : World) (vn : Value) (ns : List Nat) (hn : EV encU16 1 w vn ns) (hlt : ∀ n ∈ ns, n < 65536) (hlen : ns.length ≤ 9223372036854775807) (a : Nat) (ha : a < 256) :
    Calls Try.prog 8 #[vn, .int .u8 a] w fun e w' => e = .returned (.bool true) ∧ Below w.heap.size w w' := by
  have HN := Lib.hid hn
  have MO := Lib.hid (made_ok hlt)
  have MW := Lib.hid (fun (w1 : World) (h : Below w.heap.size w w1) => made_walk w1 vn ns (HN.out.below h) hlt (by omega))
  clear hn hlt hlen
  generalize made ns = gs at MO MW
  obtain ⟨hok, hgl⟩ := MO.out
  have hg1 : 0 < gs.length := hok.pos
  have hg2 : gs.length ≤ 256 := hok.many
  have HOK := Lib.hid hok
  clear hgl hok MO HN
  go_enter Try.func8, Try.ntmps8
  go_wp2_with fail
  refine (awake_ok w).mono ?_
  rintro e w1 ⟨rfl, b1⟩
  have M1 := Lib.hid (MW.out w1 b1)
  have s1 := b1.size
  go_wp2_with fail
  refine M1.out.mono ?_
  rintro e w2 ⟨v, rfl, o2, b2⟩
  have l2 := o2.ev encG_len
  have B2 := b1.trans (b2.mono s1)
  clear o2 b1 b2 M1 MW
  obtain ⟨bg, og, cp, hv, hcp, rg2⟩ := l2.row hg1
  subst hv
  obtain ⟨P, hP, hPI⟩ : ∃ P : Nat, P < gs.length ∧ (a : Int) % (gs.length : Int) = (P : Int) := ⟨a % gs.length, Nat.mod_lt _ hg1, by omega⟩
  have HPI := Lib.hid hPI
  clear hPI rg2
  go_wp2_with fail
  rw [HPI.out]
  obtain ⟨I, f, hI, hIu, hIn, hsrt, hparI, hf0, hft⟩ := order_facts HOK.out hP
  obtain ⟨hol, hos⟩ := order_all HOK.out
  have HI := Lib.hid hI
  have SR := Lib.hid hsrt
  have PI := Lib.hid hparI
  have F0 := Lib.hid hf0
  have FT := Lib.hid hft
  have OS := Lib.hid hos
  obtain ⟨⟨pp, pq⟩, hgp⟩ : ∃ r, gs[P]? = some r := ⟨_, List.getElem?_eq_getElem hP⟩
  have GP := Lib.hid hgp
  have PPr := Lib.hid (par_get hgp)
  have l3 := l2
  clear hI hsrt hparI hf0 hft hos hgp
  refine (order_at w2 _ gs l2 HOK.out).mono ?_
  rintro e w3 ⟨vo, rfl, o3, b3⟩
  have l3 := l2.below b3
  have B3 := B2.trans (b3.mono B2.size)
  have o3 := o3.base_le B2.size
  generalize hoL : orderL gs = oL at *
  have HOL := Lib.hid hoL
  clear b3 B2 l2 hoL
  obtain ⟨go, co, hvo, hgo, _⟩ := o3.form (by rw [hol]; exact hg1)
  subst hvo
  rw [hol] at o3 ⊢
  have HLN := Lib.hid hol
  clear hol
  go_wp2_with fail
  refine (under_at w3 _ gs P l3 HOK.out hP).mono ?_
  rintro e w4 ⟨vu, rfl, u4, b4⟩
  have l4 := l3.below b4
  have o4 := o3.below b4
  have B4 := B3.trans (b4.mono B3.size)
  have eu4 := u4.ev encI_len
  generalize hu : underL gs (P : Int) = uL at *
  clear b4 B3 l3 o3 u4 hu
  obtain ⟨Au, cu, rfl⟩ := eu4.shape
  go_wp2_with fail
  refine (kids_at w4 _ gs P l4 HOK.out hP).mono ?_
  rintro e w5 ⟨vk, rfl, k5, b5⟩
  have l5 := l4.below b5
  have o5 := o4.below b5
  have u5 := eu4.below b5
  have B5 := B4.trans (b5.mono B4.size)
  have hkn : (kidsTo gs P gs.length).length ≤ gs.length := Nat.le_trans (List.length_filter_le _ _) (by simp)
  generalize kidsTo gs P gs.length = kk at *
  clear b5 B4 l4 o4 eu4
  obtain ⟨Ak, ck, rfl⟩ := k5.shape
  rw [show (ints kk).length = kk.length from by simp [ints]] at *
  have IX := Lib.hid (index_int w5 _ _ (P : Int) (o5.ev encI_len) (by rw [HLN.out]; omega))
  rw [HI.out] at IX
  obtain ⟨go', oo', co', hvo, hco, ro⟩ := (o5.ev encI_len).row (by rw [HLN.out]; exact hg1)
  simp only [Value.slice.injEq, Option.some.injEq, Addr.mk.injEq, and_true] at hvo
  obtain ⟨⟨rfl, rfl⟩, h, rfl⟩ := hvo
  rw [HLN.out] at hco
  have e5 := EV.mk ((ro.drop I).take uL.length) (c := co - I) (by rw [List.length_take, List.length_drop, HLN.out]; omega)
  rw [show ((oL.drop I).take uL.length).length = uL.length from by rw [List.length_take, List.length_drop, HLN.out]; omega, Nat.mul_one, Nat.zero_add] at e5
  have E5 := Lib.hid e5
  have s5 := B5.size
  have L5 := Lib.hid l5
  have O5 := Lib.hid o5
  have U5 := Lib.hid u5
  have K5 := Lib.hid k5
  have hgo5 := (o5.block go rfl).2
  have hcI : ¬ co = I := by omega
  clear e5 ro l5 o5 u5 k5 h
  go_wp2_with fail
  refine IX.out.mono ?_
  rintro e w6 ⟨rfl, rfl⟩
  clear IX
  go_wp2_with fail
  refine (clone_int w5 _ _ E5.out (by rw [List.length_take]; omega)).mono ?_
  rintro e w6 ⟨vp, rfl, op6, b6⟩
  have SO := Lib.hid (sort_int w6 vp _ _ op6 (by rw [List.length_take]; omega))
  rw [SR.out] at SO
  have hbp := op6.block
  have O6 := Lib.hid (O5.out.below b6)
  have BB6 := Lib.hid b6
  have hs6 := b6.size
  clear b6 op6 E5
  go_wp2_with fail
  refine SO.out.mono ?_
  rintro e w7 ⟨rfl, op7, g7⟩
  have b7 : Below w5.heap.size w5 w7 := BB6.out.grown g7 hs6 (fun k hk => (hbp k hk).1)
  have o7 := O6.out.keep g7 (.inr (fun h => by have := (hbp go h.symm).1; omega))
  have EQ := Lib.hid (equal_int w7 _ _ _ _ (op7.ev encI_len) (U5.out.below b7) (by omega) (by omega))
  rw [show (uL == uL) = true from by simp] at EQ
  have O7 := Lib.hid o7
  have BB7 := Lib.hid b7
  clear SO hbp O6 BB6 op7 g7 b7 o7
  go_wp2_with fail
  refine EQ.out.mono ?_
  rintro e w8 ⟨rfl, qq, rfl⟩
  have O8 := Lib.hid (show OV encI 1 3 w.heap.size (w7.drewN qq) _ _ from O7.out)
  have BB8 := Lib.hid (below_drewN BB7.out qq)
  generalize w7.drewN qq = w8 at O8 BB8 ⊢
  have L8 := Lib.hid (L5.out.below BB8.out)
  have K8 := Lib.hid (K5.out.below BB8.out)
  have B8 := B5.trans (BB8.out.mono s5)
  clear EQ BB7 O7 L5 K5 U5 BB8 O5
  by_cases hP0 : 0 < P
  · obtain ⟨c1, _⟩ := (L8.out.row' hg1).grp GP.out
    obtain ⟨J, hJ, hJI⟩ := PI.out hP0
    rw [PPr.out] at hJ
    dsimp only at c1 hJ
    have IX := Lib.hid (index_int w8 _ _ pp (O8.out.ev encI_len) (by rw [HLN.out]; omega))
    rw [hJ] at IX
    have hji : decide (I < J) = false := by simp; omega
    have hpd : decide (0 < (P : Int)) = true := by simp; omega
    clear hJ
    go_wp2_with fail
    refine IX.out.mono ?_
    rintro e w9 ⟨rfl, rfl⟩
    clear IX c1
    go_wp2_with fail
    go_loopg [15, 106] kk.length (fun k l i wq => ∃ t : Nat, t + k = kk.length ∧ i = .int .i64 t ∧ l = .int .i64 (f t) ∧ w8 = wq)
    case atStart => exact ⟨0, by omega, rfl, by rw [F0.out], rfl⟩
    case round =>
      obtain ⟨t, ht, rfl, rfl, rfl⟩ := hrel
      have HT := Lib.hid ht
      by_cases hlt : t < kk.length
      · obtain ⟨k, hk⟩ : ∃ k, kk[t]? = some k := ⟨_, List.getElem?_eq_getElem hlt⟩
        obtain ⟨f1, f2, f3⟩ := FT.out t k hk
        obtain ⟨bk, okk, ck', hv, -, rk⟩ := K8.out.row (by simp [ints]; omega)
        simp only [Value.slice.injEq] at hv
        obtain ⟨rfl, -, rfl⟩ := hv
        have c1 := rk t (k : Int) (by simp [ints, hk]) 0 _ rfl
        simp only [Nat.mul_one, Nat.add_zero] at c1
        have IX := Lib.hid (index_int w8 _ _ (k : Int) (O8.out.ev encI_len) (by rw [HLN.out]; omega))
        rw [f1] at IX
        obtain ⟨ft1, hft1⟩ : ∃ m, f (t + 1) = m := ⟨_, rfl⟩
        obtain ⟨ft0, hft0⟩ : ∃ m, f t = m := ⟨_, rfl⟩
        rw [hft1] at IX f2 f3
        rw [hft0] at f2 ⊢
        have HF1 := Lib.hid hft1
        clear ht rk hk f1 hft1 hft0
        go_wp2_with fail
        refine IX.out.mono ?_
        rintro e w9 ⟨rfl, rfl⟩
        clear IX
        go_wp2
        go_roundg (gk - 1)
        case measure => have := HT.out; omega
        case rel => exact ⟨t + 1, by have := HT.out; omega, by go_num, by rw [HF1.out], rfl⟩
      · have SO := Lib.hid (sort_int w8 _ _ _ O8.out (by rw [HLN.out]; omega))
        rw [OS.out] at SO
        have hbk := fun k hk => (O8.out.block k hk).1
        generalize f t = ft
        clear ht HT
        go_wp2_with fail
        refine SO.out.mono ?_
        rintro e x1 ⟨rfl, o1, g1⟩
        have bx := B8.grown g1 (by exact B8.size) (fun k hk => hbk k hk)
        have ev1 := o1.ev encI_len
        obtain ⟨go', oo', co', hvo, hco', ro⟩ := ev1.row (by simp [ints]; exact hg1)
        simp only [Value.slice.injEq, Option.some.injEq, Addr.mk.injEq, and_true] at hvo
        obtain ⟨⟨rfl, rfl⟩, -, rfl⟩ := hvo
        have RO := Lib.hid ro
        clear SO hbk o1 g1 ev1 ro
        go_wp2_with fail
        go_loopg [122] gs.length (fun k i wq => ∃ t : Nat, t + k = gs.length ∧ i = .int .i64 t ∧ x1 = wq)
        case atStart => exact ⟨0, by omega, rfl, rfl⟩
        case round =>
          obtain ⟨t, ht, rfl, rfl⟩ := hrel
          have HT := Lib.hid ht
          by_cases hlt : t < gs.length
          · have c1 := RO.out t (t : Int) (by simp [ints, hlt]) 0 _ rfl
            simp only [Nat.mul_one, Nat.add_zero, Nat.zero_add] at c1
            clear ht
            go_wp2
            go_roundg (gk - 1)
            case measure => have := HT.out; omega
            case rel => exact ⟨t + 1, by have := HT.out; omega, by go_num, rfl⟩
          · go_wp2
            go_ret
            exact ⟨rfl, bx⟩
  · have hpd : decide (0 < (P : Int)) = false := by simp; omega
    go_wp2_with fail
    go_loopg [15, 106] kk.length (fun k l i wq => ∃ t : Nat, t + k = kk.length ∧ i = .int .i64 t ∧ l = .int .i64 (f t) ∧ w8 = wq)
    case atStart => exact ⟨0, by omega, rfl, by rw [F0.out], rfl⟩
    case round =>
      obtain ⟨t, ht, rfl, rfl, rfl⟩ := hrel
      have HT := Lib.hid ht
      by_cases hlt : t < kk.length
      · obtain ⟨k, hk⟩ : ∃ k, kk[t]? = some k := ⟨_, List.getElem?_eq_getElem hlt⟩
        obtain ⟨f1, f2, f3⟩ := FT.out t k hk
        obtain ⟨bk, okk, ck', hv, -, rk⟩ := K8.out.row (by simp [ints]; omega)
        simp only [Value.slice.injEq] at hv
        obtain ⟨rfl, -, rfl⟩ := hv
        have c1 := rk t (k : Int) (by simp [ints, hk]) 0 _ rfl
        simp only [Nat.mul_one, Nat.add_zero] at c1
        have IX := Lib.hid (index_int w8 _ _ (k : Int) (O8.out.ev encI_len) (by rw [HLN.out]; omega))
        rw [f1] at IX
        obtain ⟨ft1, hft1⟩ : ∃ m, f (t + 1) = m := ⟨_, rfl⟩
        obtain ⟨ft0, hft0⟩ : ∃ m, f t = m := ⟨_, rfl⟩
        rw [hft1] at IX f2 f3
        rw [hft0] at f2 ⊢
        have HF1 := Lib.hid hft1
        clear ht rk hk f1 hft1 hft0
        go_wp2_with fail
        refine IX.out.mono ?_
        rintro e w9 ⟨rfl, rfl⟩
        clear IX
        go_wp2
        go_roundg (gk - 1)
        case measure => have := HT.out; omega
        case rel => exact ⟨t + 1, by have := HT.out; omega, by go_num, by rw [HF1.out], rfl⟩
      · have SO := Lib.hid (sort_int w8 _ _ _ O8.out (by rw [HLN.out]; omega))
        rw [OS.out] at SO
        have hbk := fun k hk => (O8.out.block k hk).1
        generalize f t = ft
        clear ht HT
        go_wp2_with fail
        refine SO.out.mono ?_
        rintro e x1 ⟨rfl, o1, g1⟩
        have bx := B8.grown g1 (by exact B8.size) (fun k hk => hbk k hk)
        have ev1 := o1.ev encI_len
        obtain ⟨go', oo', co', hvo, hco', ro⟩ := ev1.row (by simp [ints]; exact hg1)
        simp only [Value.slice.injEq, Option.some.injEq, Addr.mk.injEq, and_true] at hvo
        obtain ⟨⟨rfl, rfl⟩, -, rfl⟩ := hvo
        have RO := Lib.hid ro
        clear SO hbk o1 g1 ev1 ro
        go_wp2_with fail
        go_loopg [122] gs.length (fun k i wq => ∃ t : Nat, t + k = gs.length ∧ i = .int .i64 t ∧ x1 = wq)
        case atStart => exact ⟨0, by omega, rfl, rfl⟩
        case round =>
          obtain ⟨t, ht, rfl, rfl⟩ := hrel
          have HT := Lib.hid ht
          by_cases hlt : t < gs.length
          · have c1 := RO.out t (t : Int) (by simp [ints, hlt]) 0 _ rfl
            simp only [Nat.mul_one, Nat.add_zero, Nat.zero_add] at c1
            clear ht
            go_wp2
            go_roundg (gk - 1)
            case measure => have := HT.out; omega
            case rel => exact ⟨t + 1, by have := HT.out; omega, by go_num, rfl⟩
          · go_wp2
            go_ret
            exact ⟨rfl, bx⟩
end Go.Proofs.Ytkkmmbmjpfecdaa

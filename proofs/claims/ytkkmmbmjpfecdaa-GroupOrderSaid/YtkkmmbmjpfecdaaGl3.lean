/- The walk of the law GroupTree: it returns true. -/
import Derived.Test.YtkkmmbmjpfecdaaGl1
import Derived.Test.YtkkmmbmjpfecdaaGtm
namespace Go.Proofs.Ytkkmmbmjpfecdaa
open Go.RowKit Go.Shelf
theorem EV.row' {α : Type} {enc : α → List Value} {k b off n c : Nat} {w : World} {xs : List α} (h : EV enc k w (.slice (some ⟨b, off, none⟩) n c) xs) (hn : 0 < xs.length) : ER enc k w b off xs := by
  obtain ⟨b', o', c', hv, _, r⟩ := h.row hn
  simp only [Value.slice.injEq, Option.some.injEq, Addr.mk.injEq, and_true] at hv
  obtain ⟨⟨rfl, rfl⟩, _, _⟩ := hv
  exact r

theorem under_at (w : World) (v : Value) (gs : List (Int × Int)) (x : Nat) (hv : EV encG 2 w v gs) (hok : GOK gs) (hx : x < gs.length) :
    Calls Try.prog 25 #[v, .int .i64 x] w fun e w' => ∃ r, e = .returned (.tuple #[r, .int .i64 0]) ∧ OV encI 1 3 w.heap.size w' r (underL gs (x : Int)) ∧ Below w.heap.size w w' := by
  refine (under_ok w v gs x hv (by have := hok.many; omega)).mono ?_
  rintro e w' ⟨r, rfl, ho, hb⟩
  exact ⟨r, by rw [there_ok1 hok hx], ho, hb⟩
theorem kids_at (w : World) (v : Value) (gs : List (Int × Int)) (x : Nat) (hv : EV encG 2 w v gs) (hok : GOK gs) (hx : x < gs.length) :
    Calls Try.prog 24 #[v, .int .i64 x] w fun e w' => ∃ r, e = .returned (.tuple #[r, .int .i64 0]) ∧ EV encI 1 w' r (ints (kidsTo gs x gs.length)) ∧ Below w.heap.size w w' := by
  refine (children_ok w v gs x hv (by have := hok.many; omega)).mono ?_
  rintro e w' ⟨r, rfl, ho, hb⟩
  rw [child_eq hok hx] at ho
  exact ⟨r, by rw [there_ok1 hok hx], ho.ev encI_len, hb⟩
theorem depth_at (w : World) (v : Value) (gs : List (Int × Int)) (x : Nat) (hv : EV encG 2 w v gs) (hok : GOK gs) (hx : x < gs.length) :
    Calls Try.prog 23 #[v, .int .i64 x] w fun e w' => e = .returned (.tuple #[.int .i64 (dep gs x : Nat), .int .i64 0]) ∧ Below w.heap.size w w' := by
  refine (depthF_ok w v gs x hv (by have := hok.many; omega)).mono ?_
  rintro e w' ⟨rfl, hb⟩
  refine ⟨?_, hb⟩
  unfold dZ
  rw [there_ok1 hok hx, if_pos rfl, Int.toNat_natCast]


set_option maxRecDepth 100000 in
set_option maxHeartbeats 8000000 in
theorem tree_walk (w : World) (vn : Value) (ns : List Nat) (hn : EV encU16 1 w vn ns) (hlt : ∀ n ∈ ns, n < 65536) (hlen : ns.length ≤ 9223372036854775807) (a : Nat) (ha : a < 256) :
    Calls Try.prog 9 #[vn, .int .u8 a] w fun e w' => e = .returned (.bool true) ∧ Below w.heap.size w w' := by
  have HN := Lib.hid hn
  have MO := Lib.hid (made_ok hlt)
  have MW := Lib.hid (fun (w1 : World) (h : Below w.heap.size w w1) => made_walk w1 vn ns (HN.out.below h) hlt (by omega))
  clear hn hlt hlen
  generalize made ns = gs at MO MW
  obtain ⟨hok, hgl⟩ := MO.out
  have hg1 : 0 < gs.length := hok.pos
  have hg2 : gs.length ≤ 256 := hok.many
  have HOK := Lib.hid hok
  clear hgl hok MO HN
  go_enter Try.func9, Try.ntmps9
  go_wp2_with fail
  refine (awake_ok w).mono ?_
  rintro e w1 ⟨rfl, b1⟩
  have M1 := Lib.hid (MW.out w1 b1)
  have s1 := b1.size
  go_wp2_with fail
  refine M1.out.mono ?_
  rintro e w2 ⟨v, rfl, o2, b2⟩
  have l2 := o2.ev encG_len
  have B2 := b1.trans (b2.mono s1)
  clear o2 b1 b2 M1 MW
  obtain ⟨bg, og, cp, hv, hcp, rg2⟩ := l2.row hg1
  subst hv
  obtain ⟨P, hP, hPI⟩ : ∃ P : Nat, P < gs.length ∧ (a : Int) % (gs.length : Int) = (P : Int) := ⟨a % gs.length, Nat.mod_lt _ hg1, by omega⟩
  have HPI := Lib.hid hPI
  clear hPI rg2
  go_wp2_with fail
  rw [HPI.out]
  have PF := Lib.hid (path_facts HOK.out hP)
  have hd4 := dep_le HOK.out hP
  have US := Lib.hid (under_sum HOK.out hP)
  have UR := Lib.hid (under_srt HOK.out hP)
  have UH := Lib.hid (fun x (hx : x < gs.length) => under_has HOK.out hP hx)
  have KF := Lib.hid (fun k (hk : k ∈ kidsTo gs P gs.length) => kid_facts HOK.out hk)
  have hul := underL_len gs P
  refine (path_at w2 _ gs P l2 HOK.out hP).mono ?_
  rintro e w3 ⟨vp, rfl, p3, b3⟩
  have l3 := l2.below b3
  have B3 := B2.trans (b3.mono B2.size)
  clear b3 B2 l2
  go_wp2_with fail
  refine (under_at w3 _ gs P l3 HOK.out hP).mono ?_
  rintro e w4 ⟨vu, rfl, u4, b4⟩
  have l4 := l3.below b4
  have p4 := p3.below b4
  have B4 := B3.trans (b4.mono B3.size)
  have eu4 := u4.ev encI_len
  clear b4 B3 l3 p3 u4
  go_wp2_with fail
  refine (kids_at w4 _ gs P l4 HOK.out hP).mono ?_
  rintro e w5 ⟨vk, rfl, k5, b5⟩
  have l5 := l4.below b5
  have p5 := p4.below b5
  have u5 := eu4.below b5
  have B5 := B4.trans (b5.mono B4.size)
  clear b5 B4 l4 p4 eu4
  go_wp2_with fail
  refine (depth_at w5 _ gs P l5 HOK.out hP).mono ?_
  rintro e w6 ⟨rfl, b6⟩
  have l6 := l5.below b6
  have p6 := p5.below b6
  have u6 := u5.below b6
  have k6 := k5.below b6
  have B6 := B5.trans (b6.mono B5.size)
  clear b6 B5 l5 p5 u5 k5
  obtain ⟨hpl, hp0, hpd, hpj⟩ := PF.out
  have PJ := Lib.hid hpj
  clear hpj PF
  generalize ints (path gs P) = pl at *
  obtain ⟨bp, op, pc, rfl, hpc, rp6⟩ := p6.row (by omega)
  have c0 := rp6 0 _ hp0 0 _ rfl
  have cd := rp6 _ _ hpd 0 _ rfl
  simp only [Nat.zero_mul, Nat.add_zero] at c0
  simp only [Nat.mul_one, Nat.add_zero] at cd
  rw [hpl] at hpc ⊢
  generalize hdd : dep gs P = d at *
  have HDD := Lib.hid hdd
  have CU := Lib.hid (contains_int w6 _ _ (P : Int) u6 (by omega))
  rw [UH.out P hP, show (path gs P).contains P = true from by simpa using path_self HOK.out.bef hP] at CU
  have SU := Lib.hid (fun w7 (h : w6 = w7) => sorted_int w7 _ _ (h ▸ u6) (by omega))
  have RP6 := Lib.hid rp6
  have L6 := Lib.hid l6
  have U6 := Lib.hid u6
  have K6 := Lib.hid k6
  have s6 := B6.size
  clear hdd hp0 hpd hpl p6 rp6 l6 u6 k6
  go_wp2_with fail
  refine CU.out.mono ?_
  rintro e w7 ⟨rfl, rfl⟩
  go_wp2_with fail
  refine (SU.out _ rfl).mono ?_
  rintro e w7 ⟨⟨bb, rfl, hbb⟩, q, rfl⟩
  obtain rfl : bb = true := hbb.2 UR.out
  have B7 := below_drewN B6 q
  have RP7 := Lib.hid (show ER encI 1 (w6.drewN q) bp op pl from RP6.out)
  have L7 := Lib.hid (show EV encG 2 (w6.drewN q) _ gs from L6.out)
  have U7 := Lib.hid (show EV encI 1 (w6.drewN q) vu _ from U6.out)
  have K7 := Lib.hid (show EV encI 1 (w6.drewN q) vk _ from K6.out)
  generalize w6.drewN q = w7 at *
  clear hbb SU CU RP6 L6 U6 K6 B6 c0 cd UR
  have s7 := B7.size
  have hdl : (d : Int) ≤ (pc : Int) := by omega
  go_wp2_with fail
  go_loopg [103] d (fun k i wr => ∃ j : Nat, j + k = d ∧ i = .int .i64 j ∧ Below w7.heap.size w7 wr)
  case atStart => exact ⟨0, by omega, rfl, Below.refl _ _⟩
  case round =>
    obtain ⟨j, hj, rfl, hb⟩ := hrel
    have HJ := Lib.hid hj
    have HB := Lib.hid hb
    have hszb := hb.size
    by_cases hlt : j < d
    · obtain ⟨x, y, q, h1, h2, hx1, hx2, hgx⟩ := PJ.out j hlt
      have c1 := below_cell hb (RP7.out j _ h1 0 _ rfl)
      have c2 := below_cell hb (RP7.out _ _ h2 0 _ rfl)
      obtain ⟨c3, _⟩ := ((L7.out.row' hg1).below hb).grp hgx
      simp only [Nat.mul_one, Nat.add_zero] at c1 c2
      dsimp only at c3
      clear h1 h2 hgx hj hb
      have hx3 : decide ((gs.length : Int) ≤ (x : Int)) = false := by simp; omega
      have hx4 : decide ((x : Int) < 1) = false := by simp; omega
      have hwj : IntKind.i64.wrap ((j : Int) + 1) = (j : Int) + 1 := IntWalk.i64_in _ (by omega)
      have hj0 : 0 ≤ (j : Int) + 1 := by omega
      have hjl : (j : Int) + 1 < (d : Int) + 1 := by omega
      have hjt : ((j : Int) + 1).toNat = j + 1 := by omega
      have hjd : (j : Int) < (d : Int) + 1 := by omega
      have hsl : w.heap.size ≤ wr.heap.size := by omega
      go_wp2_with fail
      go_quiet (fail)
      generalize hw2 : wr.drewN _ = wr2
      have hb2 : Below w7.heap.size w7 wr2 := by rw [← hw2]; exact below_drewN HB.out _
      clear hw2 c1 c2 c3
      go_wp2
      go_roundg (gk - 1)
      case measure => have := HJ.out; omega
      case rel => exact ⟨j + 1, by have := HJ.out; omega, by go_num, hb2⟩
    · obtain rfl : j = d := by omega
      have L8 := Lib.hid (L7.out.below hb)
      have U8 := Lib.hid (U7.out.below hb)
      have K8 := Lib.hid (K7.out.below hb)
      have B8 := B7.trans (hb.mono s7)
      have s8 := B8.size
      clear L7 U7 K7 B7 hb HB RP7 PJ HDD hszb s6 hj HJ hlt s7 hdl
      generalize hkk : kidsTo gs P gs.length = kk at *
      have hkn : kk.length ≤ gs.length := by rw [← hkk]; exact Nat.le_trans (List.length_filter_le _ _) (by simp)
      obtain ⟨Ak, ck, rfl⟩ := (K8.out).shape
      rw [show (ints kk).length = kk.length from by simp [ints]] at *
      go_wp2_with fail
      have o9 : OV encI 1 3 wr.heap.size (wr.alloc (.cells #[.int .i64 P] 3)) (.slice (some ⟨wr.heap.size, 0, none⟩) 1 1) [(P : Int)] := OV.lit _ _ 1 (Nat.le_refl _) (by decide) rfl rfl rfl
      have b9 := (Below.refl wr.heap.size wr).alloc (Nat.le_refl _) (.cells #[.int .i64 P] 3)
      generalize hw9 : wr.alloc _ = w9 at o9 b9
      generalize hm9 : wr.heap.size = m9 at o9
      have HM9 := Lib.hid hm9
      have B9 := Lib.hid b9
      clear hw9 hm9
      generalize hw8 : wr = w8 at *
      clear hw8
      go_loopg [16, 141] kk.length (fun k v i wq => ∃ t : Nat, t + k = kk.length ∧ i = .int .i64 t ∧ OV encI 1 3 m9 wq v ((P : Int) :: (kk.take t).flatMap (fun k => underL gs (k : Nat))) ∧ Below w8.heap.size w8 wq)
      case atStart => exact ⟨0, by omega, rfl, by simpa using o9, B9.out⟩
      case round =>
        obtain ⟨t, ht, rfl, ho, hb⟩ := hrel
        have HT := Lib.hid ht
        have HB := Lib.hid hb
        have HO := Lib.hid ho
        have hszb := hb.size
        have hfl : ((P : Int) :: (kk.take t).flatMap (fun k => underL gs (k : Nat))).length ≤ 65537 := by
          have h1 := flat_le (fun k : Nat => underL gs (k : Int)) 256 (kk.take t) (fun k _ => Nat.le_trans (underL_len gs _) hg2)
          have h2 : (kk.take t).length ≤ 256 := by rw [List.length_take]; omega
          have h3 := Nat.mul_le_mul_right 256 h2
          rw [List.length_cons]; omega
        have HFL := Lib.hid hfl
        clear hfl
        by_cases hlt : t < kk.length
        · obtain ⟨k, hk⟩ : ∃ k, kk[t]? = some k := ⟨_, List.getElem?_eq_getElem hlt⟩
          obtain ⟨hk1, hk2, ⟨qk, hgk⟩, hdk, htk⟩ := KF.out k (List.mem_of_getElem? hk)
          obtain ⟨bk, okk, ck', hv, _, rk⟩ := (K8.out.below hb).row (by simp [ints]; omega)
          simp only [Value.slice.injEq] at hv
          obtain ⟨rfl, -, rfl⟩ := hv
          have c1 := rk t (k : Int) (by simp [ints, hk]) 0 _ rfl
          simp only [Nat.mul_one, Nat.add_zero] at c1
          obtain ⟨c2, _⟩ := ((L8.out.row' hg1).below hb).grp hgk
          dsimp only at c2
          have L9 := L8.out.below hb
          have hsl : w.heap.size ≤ wr.heap.size := by omega
          clear ht hb ho rk hgk
          go_wp2_with fail
          have HTK : kk.take (t + 1) = kk.take t ++ [k] := by rw [List.take_add_one, hk]; rfl
          have hbm : m9 ≤ wr.heap.size := by rw [← HM9.out]; exact hszb
          have HSM := Lib.hid hbm
          clear hbm
          refine (under_at wr _ gs k L9 HOK.out hk2).mono ?_
          rintro e x1 ⟨vb, rfl, ob, cb⟩
          have L10 := L9.below cb
          have ob1 := ob.ev encI_len
          have ho1 := HO.out.below cb
          have BX1 := HB.out.trans (cb.mono hszb)
          have zx1 := BX1.size
          have BY1 := Lib.hid cb.size
          clear ob cb L9
          go_wp2_with fail
          refine (depth_at x1 _ gs k L10 HOK.out hk2).mono ?_
          rintro e x2 ⟨rfl, cb⟩
          rw [hdk]
          have ob2 := ob1.below cb
          have ho2 := ho1.below cb
          have BX2 := BX1.trans (cb.mono zx1)
          have BY2 := Lib.hid (show m9 ≤ x2.heap.size from by have := HSM.out; have := BY1.out; have := cb.size; omega)
          have hfb := Nat.le_trans (underL_len gs (k : Int)) hg2
          clear cb L10 ob1 ho1 BX1 c1 c2
          go_wp2_with (at_builtin; refine wpList_app elemI encI_len encI_one rfl _ _ rfl _ _ rfl rfl ho2 ob2 ?q1 ?q2 ?_)
          case q1 => have := HFL.out; omega
          case q2 => exact BY2.out
          intro v' x3 o3 g3
          have BX3 : Below w8.heap.size w8 x3 := BX2.grown g3 BX2.size (fun k hk => by rw [HM9.out]; exact (ho2.block k hk).1)
          clear g3 ob2 ho2 hk htk
          go_wp2
          go_roundg (gk - 1)
          case measure => have := HT.out; omega
          case rel => exact ⟨t + 1, by have := HT.out; omega, by go_num, by rw [HTK, List.flatMap_append]; simpa using o3, BX3⟩
        · obtain rfl : t = kk.length := by omega
          rw [List.take_length] at ho HFL
          have SO := Lib.hid (sort_int wr _ _ _ ho (by have := HFL.out; omega))
          rw [US.out] at SO
          have hbk := fun k hk => (ho.block k hk).1
          have L11 := L8.out.below hb
          have U11 := U8.out.below hb
          clear ht ho HT HO HFL
          go_wp2_with fail
          refine SO.out.mono ?_
          rintro e x1 ⟨rfl, o1, g1⟩
          have hd1 : Below w8.heap.size w8 x1 := HB.out.grown g1 hszb (fun k hk => by rw [HM9.out]; exact hbk k hk)
          have EQ := Lib.hid (equal_int x1 _ _ _ _ (U8.out.below hd1) (o1.ev encI_len) (by omega) (by omega))
          rw [show (underL gs (P : Int) == underL gs (P : Int)) = true from by simp] at EQ
          have HD1 := Lib.hid hd1
          clear hd1 g1 o1 hbk SO L11 U11 hb HB
          go_wp2_with fail
          refine EQ.out.mono ?_
          rintro e x2 ⟨rfl, qq, rfl⟩
          have hd2 := below_drewN HD1.out qq
          generalize x1.drewN qq = x2 at hd2 ⊢
          clear EQ HD1
          go_wp2_with fail
          go_loopg [196] gs.length (fun k i wq => ∃ t : Nat, t + k = gs.length ∧ i = .int .i64 t ∧ Below w8.heap.size w8 wq)
          case atStart => exact ⟨0, by omega, rfl, hd2⟩
          case round =>
            obtain ⟨t, ht, rfl, hb⟩ := hrel
            have HT := Lib.hid ht
            have HB := Lib.hid hb
            have hszb := hb.size
            by_cases hlt : t < gs.length
            · have PA := Lib.hid (path_at wr _ gs t (L8.out.below hb) HOK.out hlt)
              have hu := UH.out t hlt
              have hph := path_has P t (gs := gs)
              have hpl := path_le HOK.out.bef t hlt
              have hil : (ints (path gs t)).length = (path gs t).length := by simp [ints]
              generalize (path gs t).contains P = bb at hu hph
              have HU := Lib.hid hu
              have HPH := Lib.hid hph
              have hne : (bb != bb) = false := by simp
              clear ht hb hu hph
              go_wp2_with fail
              refine PA.out.mono ?_
              rintro e x3 ⟨vp, rfl, op3, b3⟩
              have BX := HB.out.trans (b3.mono hszb)
              have C1 := contains_int x3 vp _ (P : Int) op3 (by omega)
              have C2 := contains_int x3 vu _ (t : Int) (U8.out.below BX) (by omega)
              rw [HPH.out] at C1
              rw [HU.out] at C2
              have HC1 := Lib.hid C1
              have HC2 := Lib.hid C2
              clear C1 C2 op3 b3 PA hil hpl
              go_wp2_with fail
              refine HC1.out.mono ?_
              rintro e x4 ⟨rfl, rfl⟩
              go_wp2_with fail
              refine HC2.out.mono ?_
              rintro e x4 ⟨rfl, rfl⟩
              clear HC1 HC2
              go_wp2
              go_roundg (gk - 1)
              case measure => have := HT.out; omega
              case rel => exact ⟨t + 1, by have := HT.out; omega, by go_num, BX⟩
            · have BX := B8.trans (hb.mono s8)
              go_wp2
              go_ret
              exact ⟨rfl, BX⟩
end Go.Proofs.Ytkkmmbmjpfecdaa

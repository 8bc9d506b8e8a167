/- The law GroupTells: its comparison with the reference. -/
import Derived.Test.YtkkmmbmjpfecdaaRd
import Derived.Test.YtkkmmbmjpfecdaaGaw
import Derived.Test.YtkkmmbmjpfecdaaGq
namespace Go.Proofs.Ytkkmmbmjpfecdaa
open Go.RowKit Go.Shelf

theorem equal_same_g (w : World) (r1 r2 : Value) (xs : List (Int × Int)) (h1 : EV encG 2 w r1 xs) (h2 : EV encG 2 w r2 xs) (b : xs.length ≤ 1000000000) :
    Calls Try.prog 21 #[r1, r2] w fun e w' => e = .returned (.bool true) ∧ Below w.heap.size w w' := by
  refine (equal_grp w r1 r2 xs xs h1 h2 b b).mono ?_
  rintro e w' ⟨rfl, q, rfl⟩
  exact ⟨by simp, below_drewN (Below.refl _ _) _⟩
theorem EV.newL2 {w : World} {cs : Array Value} {n : Nat} {xs : List Int} (hcs : cs.toList = xs.flatMap encI) (hn : xs.length = n) {m : Nat} (hm : w.heap.size = m) : EV encI 1 (w.alloc (.cells cs 3)) (.slice (some ⟨m, 0, none⟩) n n) xs := by
  subst hm; exact EV.newL encI_len hcs hn (Nat.le_refl _)


theorem pathL_len (gs : List (Int × Int)) (z : Int) : (pathL gs z).length ≤ gs.length := by
  unfold pathL
  split
  · rename_i h
    obtain ⟨hok, hz⟩ := there_zero.1 h
    obtain ⟨z1, z2⟩ := hz z (by simp)
    have := path_le hok.bef z.toNat (by omega)
    simp [ints]; omega
  · simp
theorem orderL_len (gs : List (Int × Int)) : (orderL gs).length ≤ gs.length := by
  unfold orderL
  split
  · rename_i h
    have hok := (there_zero.1 h).1
    have := ordF_len hok.bef (m := gs.length) (g := 0) (by omega) hok.pos
    simpa [ints] using this
  · simp
theorem addL_len (gs : List (Int × Int)) (p w : Int) : (addL gs p w).length ≤ gs.length + 1 := by unfold addL; split <;> simp
theorem lmeet2 (w : World) (v : Value) (gs : List (Int × Int)) (a b : Int) (hv : EV encG 2 w v gs) (hlen : gs.length ≤ 100000) :
    Calls Try.prog 12 #[v, .slice (some ⟨w.heap.size, 0, none⟩) 2 2] (w.alloc (.cells #[.int .i64 a, .int .i64 b] 3)) fun e w' => e = .returned (.tuple #[.int .i64 (meetZ gs [a, b]), .int .i64 (thereZ gs [a, b])]) ∧ Below w.heap.size w w' :=
  (meet_ok _ v _ gs [a, b] (hv.below ((Below.refl _ _).alloc (Nat.le_refl _) _)) (EV.newL encI_len rfl rfl (Nat.le_refl _)) hlen (by simp)).mono fun e w' h => ⟨h.1, ((Below.refl _ w).alloc (Nat.le_refl _) _).trans (h.2.mono (by simp))⟩
theorem lmeet3 (w : World) (v : Value) (gs : List (Int × Int)) (a b c : Int) (hv : EV encG 2 w v gs) (hlen : gs.length ≤ 100000) :
    Calls Try.prog 12 #[v, .slice (some ⟨w.heap.size, 0, none⟩) 3 3] (w.alloc (.cells #[.int .i64 a, .int .i64 b, .int .i64 c] 3)) fun e w' => e = .returned (.tuple #[.int .i64 (meetZ gs [a, b, c]), .int .i64 (thereZ gs [a, b, c])]) ∧ Below w.heap.size w w' :=
  (meet_ok _ v _ gs [a, b, c] (hv.below ((Below.refl _ _).alloc (Nat.le_refl _) _)) (EV.newL encI_len rfl rfl (Nat.le_refl _)) hlen (by simp)).mono fun e w' h => ⟨h.1, ((Below.refl _ w).alloc (Nat.le_refl _) _).trans (h.2.mono (by simp))⟩
theorem lrmeet2 (w : World) (v : Value) (gs : List (Int × Int)) (a b : Int) (hv : EV encG 2 w v gs) (hlen : gs.length ≤ 100000) :
    Calls Try.prog 41 #[v, .slice (some ⟨w.heap.size, 0, none⟩) 2 2] (w.alloc (.cells #[.int .i64 a, .int .i64 b] 3)) fun e w' => e = .returned (.tuple #[.int .i64 (meetZ gs [a, b]), .int .i64 (thereZ gs [a, b])]) ∧ Below w.heap.size w w' :=
  (rmeet_ok _ v _ gs [a, b] (hv.below ((Below.refl _ _).alloc (Nat.le_refl _) _)) (EV.newL encI_len rfl rfl (Nat.le_refl _)) hlen (by simp)).mono fun e w' h => ⟨h.1, ((Below.refl _ w).alloc (Nat.le_refl _) _).trans (h.2.mono (by simp))⟩
theorem lrmeet3 (w : World) (v : Value) (gs : List (Int × Int)) (a b c : Int) (hv : EV encG 2 w v gs) (hlen : gs.length ≤ 100000) :
    Calls Try.prog 41 #[v, .slice (some ⟨w.heap.size, 0, none⟩) 3 3] (w.alloc (.cells #[.int .i64 a, .int .i64 b, .int .i64 c] 3)) fun e w' => e = .returned (.tuple #[.int .i64 (meetZ gs [a, b, c]), .int .i64 (thereZ gs [a, b, c])]) ∧ Below w.heap.size w w' :=
  (rmeet_ok _ v _ gs [a, b, c] (hv.below ((Below.refl _ _).alloc (Nat.le_refl _) _)) (EV.newL encI_len rfl rfl (Nat.le_refl _)) hlen (by simp)).mono fun e w' h => ⟨h.1, ((Below.refl _ w).alloc (Nat.le_refl _) _).trans (h.2.mono (by simp))⟩
set_option maxRecDepth 100000 in
set_option maxHeartbeats 8000000 in
theorem tells_ok (w : World) (v : Value) (gs : List (Int × Int)) (a b c : Int) (hv : EV encG 2 w v gs) (hlen : gs.length ≤ 100000) :
    Calls Try.prog 17 #[v, .int .i64 a, .int .i64 b, .int .i64 c] w fun e w' => e = .returned (.bool true) ∧ Below w.heap.size w w' := by
  have F := ((Facts.nil w).snoc (sB w) (Below.refl _ _)).snoc (sEV encG 2 v gs) hv
  have hl9 : gs.length ≤ 1000000000 := by omega
  have hp1 : (pathL gs a).length ≤ 1000000000 := by have := pathL_len gs a; omega
  have hp2 : (childL gs a).length ≤ 1000000000 := by have := childL_len gs a; omega
  have hp3 : (underL gs a).length ≤ 1000000000 := by have := underL_len gs a; omega
  have hp4 : (orderL gs).length ≤ 1000000000 := by have := orderL_len gs; omega
  have hp5 : (addL gs b c).length ≤ 1000000000 := by have := addL_len gs b c; omega
  go_enter Try.func17, Try.ntmps17
  go_wp2_with fail
  refine (clone_grp w v gs (F.get 1) hl9).mono ?_
  rintro e w1 ⟨own, rfl, o, b1⟩
  replace F := (F.below b1).snoc (sOV encG 2 38 w.heap.size own gs) o
  have sw1 := b1.size
  have Kown := Lib.hid o.block
  clear b1 o
  go_wp2_with fail
  refine (check_ok w1 own gs (OV.ev (F.get 2) encG_len) hlen).mono ?_
  rintro e w2 ⟨rfl, b2⟩
  replace F := F.below b2
  have sw2 := b2.size
  clear b2
  go_wp2_with fail
  refine (rcheck_ok w2 v gs (F.get 1) hlen).mono ?_
  rintro e w3 ⟨rfl, b3⟩
  replace F := F.below b3
  have sw3 := b3.size
  clear b3
  go_wp2_with fail
  refine (depthF_ok w3 own gs a (OV.ev (F.get 2) encG_len) hlen).mono ?_
  rintro e w4 ⟨rfl, b4⟩
  replace F := F.below b4
  have sw4 := b4.size
  clear b4
  go_wp2_with fail
  refine (rdepth_ok w4 v gs a (F.get 1) hlen).mono ?_
  rintro e w5 ⟨rfl, b5⟩
  replace F := F.below b5
  have sw5 := b5.size
  clear b5
  go_wp2_with fail
  refine (right_ok w5 own gs (OV.ev (F.get 2) encG_len) hlen).mono ?_
  rintro e w6 ⟨rfl, b6⟩
  replace F := F.below b6
  have sw6 := b6.size
  clear b6
  go_wp2_with fail
  refine (rright_ok w6 v gs (F.get 1) hlen).mono ?_
  rintro e w7 ⟨rfl, b7⟩
  replace F := F.below b7
  have sw7 := b7.size
  clear b7
  go_wp2_with fail
  refine (path_ok w7 own gs a (OV.ev (F.get 2) encG_len) hlen).mono ?_
  rintro e w8 ⟨r1, rfl, o, b8⟩
  replace F := (F.below b8).snoc (sOV encI 1 3 w7.heap.size r1 (pathL gs a)) o
  have sw8 := b8.size
  have Kr1 := Lib.hid o.block
  clear b8 o
  go_wp2_with fail
  refine (rpath_ok w8 v gs a (F.get 1) hlen).mono ?_
  rintro e w9 ⟨t1, rfl, o, b9⟩
  replace F := (F.below b9).snoc (sOV encI 1 3 w8.heap.size t1 (pathL gs a)) o
  have sw9 := b9.size
  have Kt1 := Lib.hid o.block
  clear b9 o
  go_wp2_with fail
  refine (children_ok w9 own gs a (OV.ev (F.get 2) encG_len) hlen).mono ?_
  rintro e w10 ⟨r2, rfl, o, b10⟩
  replace F := (F.below b10).snoc (sOV encI 1 3 w9.heap.size r2 (childL gs a)) o
  have sw10 := b10.size
  have Kr2 := Lib.hid o.block
  clear b10 o
  go_wp2_with fail
  refine (rchildren_ok w10 v gs a (F.get 1) hlen).mono ?_
  rintro e w11 ⟨t2, rfl, o, b11⟩
  replace F := (F.below b11).snoc (sOV encI 1 3 w10.heap.size t2 (childL gs a)) o
  have sw11 := b11.size
  have Kt2 := Lib.hid o.block
  clear b11 o
  go_wp2_with fail
  refine (under_ok w11 own gs a (OV.ev (F.get 2) encG_len) hlen).mono ?_
  rintro e w12 ⟨r3, rfl, o, b12⟩
  replace F := (F.below b12).snoc (sOV encI 1 3 w11.heap.size r3 (underL gs a)) o
  have sw12 := b12.size
  have Kr3 := Lib.hid o.block
  clear b12 o
  go_wp2_with fail
  refine (runder_ok w12 v gs a (F.get 1) hlen).mono ?_
  rintro e w13 ⟨t3, rfl, o, b13⟩
  replace F := (F.below b13).snoc (sOV encI 1 3 w12.heap.size t3 (underL gs a)) o
  have sw13 := b13.size
  have Kt3 := Lib.hid o.block
  clear b13 o
  go_wp2_with fail
  refine (order_ok w13 own gs (OV.ev (F.get 2) encG_len) hlen).mono ?_
  rintro e w14 ⟨r4, rfl, o, b14⟩
  replace F := (F.below b14).snoc (sOV encI 1 3 w13.heap.size r4 (orderL gs)) o
  have sw14 := b14.size
  have Kr4 := Lib.hid o.block
  clear b14 o
  go_wp2_with fail
  refine (rorder_ok w14 v gs (F.get 1) hlen).mono ?_
  rintro e w15 ⟨t4, rfl, o, b15⟩
  replace F := (F.below b15).snoc (sOV encI 1 3 w14.heap.size t4 (orderL gs)) o
  have sw15 := b15.size
  have Kt4 := Lib.hid o.block
  clear b15 o
  go_wp2_with fail
  refine (lmeet2 w15 own gs a b (OV.ev (F.get 2) encG_len) hlen).mono ?_
  rintro e w16 ⟨rfl, b16⟩
  replace F := F.below b16
  have sw16 := b16.size
  clear b16
  go_wp2_with fail
  refine (lrmeet2 w16 v gs a b (F.get 1) hlen).mono ?_
  rintro e w17 ⟨rfl, b17⟩
  replace F := F.below b17
  have sw17 := b17.size
  clear b17
  go_wp2_with fail
  refine (lmeet3 w17 own gs a b c (OV.ev (F.get 2) encG_len) hlen).mono ?_
  rintro e w18 ⟨rfl, b18⟩
  replace F := F.below b18
  have sw18 := b18.size
  clear b18
  go_wp2_with fail
  refine (lrmeet3 w18 v gs a b c (F.get 1) hlen).mono ?_
  rintro e w19 ⟨rfl, b19⟩
  replace F := F.below b19
  have sw19 := b19.size
  clear b19
  go_wp2_with fail
  refine (add_ok w19 own gs b c (OV.ev (F.get 2) encG_len) hlen).mono ?_
  rintro e w20 ⟨r5, rfl, o, b20⟩
  replace F := (F.below b20).snoc (sOV encG 2 38 w19.heap.size r5 (addL gs b c)) o
  have sw20 := b20.size
  have Kr5 := Lib.hid o.block
  clear b20 o
  go_wp2_with fail
  refine (radd_ok w20 v gs b c (F.get 1) hlen).mono ?_
  rintro e w21 ⟨t5, rfl, o, b21⟩
  replace F := (F.below b21).snoc (sOV encG 2 38 w20.heap.size t5 (addL gs b c)) o
  have sw21 := b21.size
  have Kt5 := Lib.hid o.block
  clear b21 o
  go_wp2_with fail
  refine (equal_same w21 r1 t1 _ (OV.ev (F.get 3) encI_len) (OV.ev (F.get 4) encI_len) hp1).mono ?_
  rintro e w22 ⟨rfl, b22⟩
  replace F := F.below b22
  have sw22 := b22.size
  clear b22
  go_wp2_with fail
  refine (equal_same w22 r2 t2 _ (OV.ev (F.get 5) encI_len) (OV.ev (F.get 6) encI_len) hp2).mono ?_
  rintro e w23 ⟨rfl, b23⟩
  replace F := F.below b23
  have sw23 := b23.size
  clear b23
  go_wp2_with fail
  refine (equal_same w23 r3 t3 _ (OV.ev (F.get 7) encI_len) (OV.ev (F.get 8) encI_len) hp3).mono ?_
  rintro e w24 ⟨rfl, b24⟩
  replace F := F.below b24
  have sw24 := b24.size
  clear b24
  go_wp2_with fail
  refine (equal_same w24 r4 t4 _ (OV.ev (F.get 9) encI_len) (OV.ev (F.get 10) encI_len) hp4).mono ?_
  rintro e w25 ⟨rfl, b25⟩
  replace F := F.below b25
  have sw25 := b25.size
  clear b25
  go_wp2_with fail
  refine (equal_same_g w25 r5 t5 _ (OV.ev (F.get 11) encG_len) (OV.ev (F.get 12) encG_len) hp5).mono ?_
  rintro e w26 ⟨rfl, b26⟩
  replace F := F.below b26
  have sw26 := b26.size
  clear b26
  have W1 := OV.wrt encI_len (F.get 3 : OV encI 1 3 w7.heap.size w26 r1 (pathL gs a))
  have W2 := OV.wrt encI_len (F.get 5 : OV encI 1 3 w9.heap.size w26 r2 (childL gs a))
  have W3 := OV.wrt encI_len (F.get 7 : OV encI 1 3 w11.heap.size w26 r3 (underL gs a))
  have W4 := OV.wrt encI_len (F.get 9 : OV encI 1 3 w13.heap.size w26 r4 (orderL gs))
  have W5 := OV.wrt encG_len (F.get 11 : OV encG 2 38 w19.heap.size w26 r5 (addL gs b c))
  have E4 : EV encI 1 w26 t1 (pathL gs a) := OV.ev (F.get 4) encI_len
  have EO : EV encG 2 w26 own gs := OV.ev (F.get 2) encG_len
  have BW : Below w.heap.size w w26 := F.get 0
  have HP1 := Lib.hid hp1
  have sz26 : w.heap.size ≤ w26.heap.size := BW.size
  have N1 : ∃ n, n = (pathL gs a).length ∧ n ≤ 1000000000 := ⟨_, rfl, hp1⟩
  have N2 : ∃ n, n = (childL gs a).length ∧ n ≤ 1000000000 := ⟨_, rfl, hp2⟩
  have N3 : ∃ n, n = (underL gs a).length ∧ n ≤ 1000000000 := ⟨_, rfl, hp3⟩
  have N4 : ∃ n, n = (orderL gs).length ∧ n ≤ 1000000000 := ⟨_, rfl, hp4⟩
  have N5 : ∃ n, n = (addL gs b c).length ∧ n ≤ 1000000000 := ⟨_, rfl, hp5⟩
  obtain ⟨n1, e1, l1⟩ := N1
  obtain ⟨n2, e2, l2⟩ := N2
  obtain ⟨n3, e3, l3⟩ := N3
  obtain ⟨n4, e4, l4⟩ := N4
  obtain ⟨n5, e5, l5⟩ := N5
  rw [← e1] at W1
  rw [← e2] at W2
  rw [← e3] at W3
  rw [← e4] at W4
  rw [← e5] at W5
  clear e1 e2 e3 e4 e5 hp1 hp2 hp3 hp4 hp5 F
  obtain ⟨A1, c1, rfl⟩ := W1.shape
  obtain ⟨A2, c2, rfl⟩ := W2.shape
  obtain ⟨A3, c3, rfl⟩ := W3.shape
  obtain ⟨A4, c4, rfl⟩ := W4.shape
  obtain ⟨A5, c5, rfl⟩ := W5.shape
  obtain ⟨rs, hrs⟩ : ∃ rs : List (Value × Nat), rs = [(.slice A1 n1 c1, n1), (.slice A2 n2 c2, n2), (.slice A3 n3 c3, n3), (.slice A4 n4 c4, n4)] := ⟨_, rfl⟩
  have HW := Lib.hid (show ∀ r ∈ rs, Wrt 1 w26 r.1 r.2 ∧ r.2 ≤ 1000000000 from by rw [hrs]; intro r hr; simp at hr; rcases hr with rfl | rfl | rfl | rfl <;> exact ⟨by assumption, by assumption⟩)
  have HRL := Lib.hid (show rs.length = 4 from by rw [hrs]; rfl)
  have HRC := Lib.hid (show ∀ t r, rs[t]? = some r → (w26.alloc (.cells #[.slice A1 n1 c1, .slice A2 n2 c2, .slice A3 n3 c3, .slice A4 n4 c4] 29)).cell? ⟨w26.heap.size, t, none⟩ = some r.1 from fun t r h => by
    rw [cell_of_row (w26.alloc _) w26.heap.size t _ _ (0, 0) (heap_alloc_new w26 _)]
    rw [hrs] at h
    rcases t with _ | _ | _ | _ | t <;> simp at h <;> subst h <;> rfl)
  have HTB := Lib.hid (show ∀ k, ((∃ r ∈ rs, r.1.ownBlock = some k) ∨ Value.ownBlock (.slice A5 n5 c5) = some k) → w1.heap.size ≤ k ∧ k < w26.heap.size ∧ (k < w8.heap.size ∨ w9.heap.size ≤ k) from fun k hk => by
    rw [hrs] at hk
    rcases hk with ⟨r, hr, h⟩ | h
    · simp at hr
      rcases hr with rfl | rfl | rfl | rfl
      · have := Kr1.out k h; omega
      · have := Kr2.out k h; omega
      · have := Kr3.out k h; omega
      · have := Kr4.out k h; omega
    · have := Kr5.out k h; omega)
  have HOB := Lib.hid (fun g h => (Kown.out g h).2)
  have HTK := Lib.hid Kt1.out
  clear hrs W1 W2 W3 W4 Kr1 Kr2 Kr3 Kr4 Kr5 Kt1 Kt2 Kt3 Kt4 Kt5 Kown l1 l2 l3 l4
  go_wp2_with fail
  generalize hwX : w26.alloc _ = wX at HRC ⊢
  have bX : Below w26.heap.size w26 wX := by rw [← hwX]; exact (Below.refl _ _).alloc (Nat.le_refl _) _
  have szX : wX.heap.size = w26.heap.size + 1 := by rw [← hwX]; simp
  have SZX := Lib.hid szX
  have E4 := E4.below bX
  have EO := EO.below bX
  have BW := BW.trans (bX.mono sz26)
  have AW := Lib.hid (show (∀ r ∈ rs, Wrt 1 wX r.1 r.2) ∧ Wrt 2 wX (.slice A5 n5 c5) n5 from ⟨fun r hr => (HW.out r hr).1.below bX, W5.below bX⟩)
  have HN := Lib.hid (fun r hr => (HW.out r hr).2)
  generalize w26.heap.size = X at HRC HTB szX SZX sz26 ⊢
  obtain ⟨T, hT⟩ : ∃ T : Nat → Prop, T = fun k => (∃ r ∈ rs, r.1.ownBlock = some k) ∨ Value.ownBlock (.slice A5 n5 c5) = some k := ⟨_, rfl⟩
  have HT := Lib.hid hT
  have HTB2 := Lib.hid (show ∀ k, T k → w1.heap.size ≤ k ∧ k < X ∧ (k < w8.heap.size ∨ w9.heap.size ≤ k) from by rw [hT]; exact HTB.out)
  clear hwX bX szX W5 HW hT HTB
  go_loopg [268] 4 (fun k i wr => ∃ t : Nat, t + k = 4 ∧ i = .int .i64 t ∧ ((∀ r ∈ rs, Wrt 1 wr r.1 r.2) ∧ Wrt 2 wr (.slice A5 n5 c5) n5) ∧ Mod T wX wr)
  case atStart => exact ⟨0, by omega, rfl, AW.out, Mod.refl _ _⟩
  case round =>
    obtain ⟨t, ht, rfl, haw, hm⟩ := hrel
    have HTT := Lib.hid ht
    have HAW := Lib.hid haw
    have HM := Lib.hid hm
    clear ht haw hm
    by_cases hlt : t < 4
    · obtain ⟨⟨rv, rn⟩, hr⟩ : ∃ r, rs[t]? = some r := ⟨_, List.getElem?_eq_getElem (by rw [HRL.out]; exact hlt)⟩
      have hmem := List.mem_of_getElem? hr
      have hcell := HM.out.cell (HRC.out t _ hr) (fun h => by have := HTB2.out X h; omega)
      have hwr := HAW.out.1 _ hmem
      have hrn := HN.out _ hmem
      have hTr : ∀ k, rv.ownBlock = some k → T k := fun k hk => by rw [HT.out]; exact .inl ⟨_, hmem, hk⟩
      dsimp only at hcell hwr hrn
      clear hr
      rcases hwr with ⟨h0, A, cc, hv⟩ | ⟨h0, g, cc, hv, hwc⟩
      · subst hv
        clear hTr hmem
        have hwn : True := trivial
        go_wp2_with fail
        refine wp_loop_rounds 1 ?_
        rw [rounds_succ]
        go_wp2
        go_roundg (gk - 1)
        case measure => have := HTT.out; omega
        case rel => exact ⟨t + 1, by have := HTT.out; omega, by go_num, HAW.out, HM.out⟩
      · subst hv
        have HTR := Lib.hid (hTr g rfl)
        clear hTr hwc
        go_wp2_with fail
        go_loopg [274] rn (fun k i wq => ∃ q : Nat, q + k = rn ∧ i = .int .i64 q ∧ ((∀ r ∈ rs, Wrt 1 wq r.1 r.2) ∧ Wrt 2 wq (.slice A5 n5 c5) n5) ∧ Mod T wX wq)
        case atStart => exact ⟨0, by omega, rfl, HAW.out, HM.out⟩
        case round =>
          obtain ⟨q, hq, rfl, haw, hm⟩ := hrel
          have HQQ := Lib.hid hq
          have HAW := Lib.hid haw
          have HM := Lib.hid hm
          clear hq haw hm hcell
          by_cases hql : q < rn
          · have hww := HAW.out.1 _ hmem
            dsimp only at hww
            rcases hww with ⟨h00, _⟩ | ⟨_, g', cc', hv', hwc⟩
            · omega
            · simp only [Value.slice.injEq, Option.some.injEq, Addr.mk.injEq, and_true] at hv'
              obtain ⟨rfl, _, rfl⟩ := hv'
              obtain ⟨⟨u, hu⟩, hf⟩ := hwc q (by omega)
              clear hwc
              go_wp2
              go_roundg (gk - 1)
              case measure => have := HQQ.out; omega
              case rel => exact ⟨q + 1, by have := HQQ.out; omega, by go_num, ⟨fun r hr => (HAW.out.1 r hr).setCell _ _, HAW.out.2.setCell _ _⟩, HM.out.trans (Mod.setCell _ HTR.out)⟩
          · go_wp2
            go_roundg (4 - (t + 1))
            case measure => have := HTT.out; omega
            case rel => exact ⟨t + 1, by omega, by go_num, HAW.out, HM.out⟩
    · rcases HAW.out.2 with ⟨h0, A, cc, hv5⟩ | ⟨h0, g, cc, hv5, hwc⟩
      · simp only [Value.slice.injEq] at hv5
        obtain ⟨rfl, -, rfl⟩ := hv5
        subst h0
        all_goals
          go_wp2_with fail
          refine wp_loop_rounds 1 ?_
          rw [rounds_succ]
          all_goals
            all_goals
              have hmT := HM.out
              have hbw := BW.trans ((hmT.below (B := w.heap.size) (fun k hk h => by have := HTB2.out k h; omega) (by have := SZX.out; omega)))
              have eo := EO.mod hmT (fun g o n c hv h => by
                have h1 := HOB.out g (by rw [hv]; rfl)
                have := HTB2.out g h; omega)
              have et := E4.mod hmT (fun g o n c hv h => by
                have h1 := HTK.out g (by rw [hv]; rfl)
                have := HTB2.out g h; omega)
              have ev := hv.below hbw
              have F := (((Facts.nil wr).snoc (sB w) hbw).snoc (sEV encG 2 own gs) eo).snoc (sEV encI 1 t1 (pathL gs a)) et
              replace F := F.snoc (sEV encG 2 v gs) ev
              clear hmT hbw eo et ev E4 EO BW HAW HM HTT HRC
              go_wp2_with fail
              refine (path_ok wr own gs a (F.get 1) hlen).mono ?_
              rintro e x1 ⟨ra, rfl, o, bb⟩
              replace F := (F.below bb).snoc (sOV encI 1 3 wr.heap.size ra (pathL gs a)) o
              clear bb o
              go_wp2_with fail
              refine (equal_same x1 ra t1 _ (OV.ev (F.get 4) encI_len) (F.get 2) HP1.out).mono ?_
              rintro e x2 ⟨rfl, bb⟩
              replace F := F.below bb
              clear bb
              go_wp2_with fail
              refine (equal_same_g x2 own v _ (F.get 1) (F.get 3) hl9).mono ?_
              rintro e x3 ⟨rfl, bb⟩
              have hfin : Below w.heap.size w x3 := (F.below bb).get 0
              clear bb F
              go_wp2
              go_ret
              exact ⟨rfl, hfin⟩
      · simp only [Value.slice.injEq] at hv5
        obtain ⟨rfl, -, rfl⟩ := hv5
        have HTR := Lib.hid (show T g from by rw [HT.out]; exact .inr rfl)
        clear hwc
        go_wp2_with fail
        go_loopg [284] n5 (fun k i wq => ∃ q : Nat, q + k = n5 ∧ i = .int .i64 q ∧ Wrt 2 wq (.slice (some ⟨g, 0, none⟩) n5 c5) n5 ∧ Mod T wX wq)
        case atStart => exact ⟨0, by omega, rfl, HAW.out.2, HM.out⟩
        case round =>
          obtain ⟨q, hq, rfl, haw, hm⟩ := hrel
          have HQQ := Lib.hid hq
          have HAW := Lib.hid haw
          have HM := Lib.hid hm
          clear hq haw hm
          by_cases hql : q < n5
          · rcases HAW.out with ⟨h00, _⟩ | ⟨_, g', cc', hv', hwc⟩
            · omega
            · simp only [Value.slice.injEq, Option.some.injEq, Addr.mk.injEq, and_true] at hv'
              obtain ⟨rfl, _, rfl⟩ := hv'
              obtain ⟨⟨u, hu⟩, hf⟩ := hwc (q * 2 + 1) (by omega)
              clear hwc
              go_wp2
              go_roundg (gk - 1)
              case measure => have := HQQ.out; omega
              case rel => exact ⟨q + 1, by have := HQQ.out; omega, by go_num, HAW.out.setCell _ _, HM.out.trans (Mod.setCell _ HTR.out)⟩
          · have hdone : True := trivial
            all_goals
              have hmT := HM.out
              have hbw := BW.trans ((hmT.below (B := w.heap.size) (fun k hk h => by have := HTB2.out k h; omega) (by have := SZX.out; omega)))
              have eo := EO.mod hmT (fun g o n c hv h => by
                have h1 := HOB.out g (by rw [hv]; rfl)
                have := HTB2.out g h; omega)
              have et := E4.mod hmT (fun g o n c hv h => by
                have h1 := HTK.out g (by rw [hv]; rfl)
                have := HTB2.out g h; omega)
              have ev := hv.below hbw
              have F := (((Facts.nil wr).snoc (sB w) hbw).snoc (sEV encG 2 own gs) eo).snoc (sEV encI 1 t1 (pathL gs a)) et
              replace F := F.snoc (sEV encG 2 v gs) ev
              clear hmT hbw eo et ev E4 EO BW HAW HM HTT HRC
              go_wp2_with fail
              refine (path_ok wr own gs a (F.get 1) hlen).mono ?_
              rintro e x1 ⟨ra, rfl, o, bb⟩
              replace F := (F.below bb).snoc (sOV encI 1 3 wr.heap.size ra (pathL gs a)) o
              clear bb o
              go_wp2_with fail
              refine (equal_same x1 ra t1 _ (OV.ev (F.get 4) encI_len) (F.get 2) HP1.out).mono ?_
              rintro e x2 ⟨rfl, bb⟩
              replace F := F.below bb
              clear bb
              go_wp2_with fail
              refine (equal_same_g x2 own v _ (F.get 1) (F.get 3) hl9).mono ?_
              rintro e x3 ⟨rfl, bb⟩
              have hfin : Below w.heap.size w x3 := (F.below bb).get 0
              clear bb F
              go_wp2
              go_ret
              exact ⟨rfl, hfin⟩
end Go.Proofs.Ytkkmmbmjpfecdaa

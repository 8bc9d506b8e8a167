/- The walk of the law GroupMeets: it returns true. -/
import Derived.Test.YtkkmmbmjpfecdaaGme
import Derived.Test.YtkkmmbmjpfecdaaGmp
namespace Go.Proofs.Ytkkmmbmjpfecdaa
open Go.RowKit Go.Shelf

theorem ER.drop {α : Type} {enc : α → List Value} {k : Nat} {w : World} {b off : Nat} {xs : List α} (h : ER enc k w b off xs) (i : Nat) : ER enc k w b (off + i * k) (xs.drop i) := by
  intro j x hx m u hu
  rw [List.getElem?_drop] at hx
  have := h (i + j) x hx m u hu
  rw [Nat.add_mul, ← Nat.add_assoc] at this
  exact this
theorem ER.take {α : Type} {enc : α → List Value} {k : Nat} {w : World} {b off : Nat} {xs : List α} (h : ER enc k w b off xs) (i : Nat) : ER enc k w b off (xs.take i) := by
  intro j x hx m u hu
  rw [List.getElem?_take] at hx
  split at hx
  · exact h j x hx m u hu
  · cases hx
theorem ER.dropI {w : World} {b off : Nat} {xs : List Int} (h : ER encI 1 w b off xs) (i : Nat) : ER encI 1 w b (off + i) (xs.drop i) := by
  have := h.drop i
  rwa [Nat.mul_one] at this
theorem EV.dropI {w : World} {b off c n : Nat} {xs : List Int} (h : ER encI 1 w b off xs) (i : Nat) (hn : n = xs.length - i) (hc : n ≤ c) : EV encI 1 w (.slice (some ⟨b, off + i, none⟩) n c) (xs.drop i) := by
  have := EV.mk (h.dropI i) (c := c) (by rw [List.length_drop]; omega)
  rw [List.length_drop, ← hn] at this
  exact this

/-- Meet of groups in a literal, as the walks of the laws meet it. -/
theorem meet_lit (w : World) (v : Value) (gs : List (Int × Int)) (zs : List Int) (hv : EV encG 2 w v gs) (hlen : gs.length ≤ 100000) (n m : Nat) (cs : Array Value) (hcs : cs.toList = zs.flatMap encI) (hn : zs.length = n) (hl : n ≤ 1000)
    (hm : w.heap.size = m) (ht : thereZ gs zs = 0) (res : Nat) (hr : meetL gs zs = res) :
    Calls Try.prog 12 #[v, .slice (some ⟨m, 0, none⟩) n n] (w.alloc (.cells cs 3)) fun e w' => e = .returned (.tuple #[.int .i64 res, .int .i64 0]) ∧ Below w.heap.size w w' := by
  subst hm
  refine (meet_ok _ v _ gs zs (hv.below ((Below.refl _ _).alloc (Nat.le_refl _) _)) (EV.newL encI_len hcs hn (Nat.le_refl _)) hlen (by omega)).mono fun e w' h => ⟨?_, ((Below.refl _ w).alloc (Nat.le_refl _) _).trans (h.2.mono (by simp))⟩
  rw [h.1, ht]
  unfold meetZ
  rw [if_pos ht, hr]

/-- The path of a group that there is. -/
theorem path_at (w : World) (v : Value) (gs : List (Int × Int)) (x : Nat) (hv : EV encG 2 w v gs) (hok : GOK gs) (hx : x < gs.length) :
    Calls Try.prog 13 #[v, .int .i64 x] w fun e w' => ∃ r, e = .returned (.tuple #[r, .int .i64 0]) ∧ EV encI 1 w' r (ints (path gs x)) ∧ Below w.heap.size w w' := by
  have ht : thereZ gs [(x : Int)] = 0 := there_zero.2 ⟨hok, fun z hz => by simp at hz; subst hz; omega⟩
  refine (path_ok w v gs x hv (by have := hok.many; omega)).mono ?_
  rintro e w' ⟨r, rfl, ho, hb⟩
  refine ⟨r, by rw [ht], ?_, hb⟩
  have e : pathL gs x = ints (path gs x) := by unfold pathL; rw [if_pos ht, Int.toNat_natCast]
  rw [e] at ho
  exact ho.ev encI_len

set_option maxRecDepth 100000 in
set_option maxHeartbeats 4000000 in
theorem meets_walk (w : World) (vn : Value) (ns : List Nat) (hn : EV encU16 1 w vn ns) (hlt : ∀ n ∈ ns, n < 65536) (hlen : ns.length ≤ 9223372036854775807) (a b c : Nat) (ha : a < 256) (hb : b < 256) (hc : c < 256) :
    Calls Try.prog 3 #[vn, .int .u8 a, .int .u8 b, .int .u8 c] w fun e w' => e = .returned (.bool true) ∧ Below w.heap.size w w' := by
  have HN := Lib.hid hn
  have MO := Lib.hid (made_ok hlt)
  have MW := Lib.hid (fun (w1 : World) (h : Below w.heap.size w w1) => made_walk w1 vn ns (HN.out.below h) hlt (by omega))
  clear hn hlt hlen
  generalize made ns = gs at MO MW
  obtain ⟨hok, hgl⟩ := MO.out
  have hg1 : 0 < gs.length := hok.pos
  have hg2 : gs.length ≤ 256 := hok.many
  have HOK := Lib.hid hok
  clear hgl hok MO
  go_enter Try.func3, Try.ntmps3
  go_wp2_with fail
  refine (awake_ok w).mono ?_
  rintro e w1 ⟨rfl, b1⟩
  have M1 := Lib.hid (MW.out w1 b1)
  have s1 := b1.size
  go_wp2_with fail
  refine M1.out.mono ?_
  rintro e w2 ⟨v, rfl, o2, b2⟩
  have l2 := o2.ev encG_len
  have B2 := b1.trans (b2.mono s1)
  obtain ⟨A, cp, hv⟩ := l2.shape
  subst hv
  clear o2 b1 b2 M1 MW
  go_wp2_with fail
  obtain ⟨X, hX, hXI⟩ : ∃ X : Nat, X < gs.length ∧ (a : Int) % (gs.length : Int) = (X : Int) := ⟨a % gs.length, Nat.mod_lt _ hg1, by omega⟩
  obtain ⟨Y, hY, hYI⟩ : ∃ Y : Nat, Y < gs.length ∧ (b : Int) % (gs.length : Int) = (Y : Int) := ⟨b % gs.length, Nat.mod_lt _ hg1, by omega⟩
  obtain ⟨Z, hZ, hZI⟩ : ∃ Z : Nat, Z < gs.length ∧ (c : Int) % (gs.length : Int) = (Z : Int) := ⟨c % gs.length, Nat.mod_lt _ hg1, by omega⟩
  have HXI := Lib.hid hXI; have HYI := Lib.hid hYI; have HZI := Lib.hid hZI
  clear hXI hYI hZI
  have hz1 : ((gs.length : Int) == 0) = false := by simp; intro h; rw [h] at hg1; simp at hg1
  go_quiet (fail)
  rw [HXI.out, HYI.out, HZI.out]
  generalize hw3 : w2.drewN _ = w3
  have l3 : EV encG 2 w3 (.slice A gs.length cp) gs := by rw [← hw3]; exact l2
  have B3 : Below w.heap.size w w3 := by rw [← hw3]; exact below_drewN B2 _
  have hbef := HOK.out.bef
  have M : ∀ zs : List Int, (∀ z ∈ zs, 0 ≤ z ∧ z < gs.length) → thereZ gs zs = 0 := fun zs h => there_zero.2 ⟨HOK.out, h⟩
  have hmx := meet2_lt hbef hX hY
  have t1 := M [(X : Int), (Y : Int)] (by simp; omega)
  have t2 := M [(Y : Int), (X : Int)] (by simp; omega)
  have t3 := M [(X : Int), (Y : Int), (Z : Int)] (by simp; omega)
  have t4 := M [(meet2 gs X Y : Nat), (Z : Int)] (by simp; omega)
  have t5 := M [(X : Int), (X : Int)] (by simp; omega)
  have r1 : meetL gs [(X : Int), (Y : Int)] = meet2 gs X Y := by simp [meetL]
  have r2 : meetL gs [(Y : Int), (X : Int)] = meet2 gs X Y := by simp [meetL]; exact meet2_comm hbef hY hX
  have r3 : meetL gs [(X : Int), (Y : Int), (Z : Int)] = meet2 gs (meet2 gs X Y) Z := by simp [meetL]
  have r4 : meetL gs [((meet2 gs X Y : Nat) : Int), (Z : Int)] = meet2 gs (meet2 gs X Y) Z := by simp [meetL]
  have r5 : meetL gs [(X : Int), (X : Int)] = X := by simp [meetL, meet2_same]
  obtain ⟨I, J, hI, hJ, hI2, hJ2, hdr, htk⟩ := paths_meet hbef hX hY
  generalize meet2 gs X Y = m at hmx t4 r1 r2 r3 r4 hI hJ
  generalize meet2 gs m Z = al at r3 r4
  have T1 := Lib.hid t1; have T2 := Lib.hid t2; have T3 := Lib.hid t3; have T4 := Lib.hid t4; have T5 := Lib.hid t5
  have R1 := Lib.hid r1; have R2 := Lib.hid r2; have R3 := Lib.hid r3; have R4 := Lib.hid r4; have R5 := Lib.hid r5
  have HI := Lib.hid hI; have HJ := Lib.hid hJ; have HDR := Lib.hid hdr; have HTK := Lib.hid htk
  clear t1 t2 t3 t4 t5 r1 r2 r3 r4 r5 hI hJ hdr htk M hbef B2 hw3 hz1 l2
  have hgl : gs.length ≤ 100000 := by omega
  go_wp2_with fail
  refine (meet_lit w3 _ gs [(X : Int), (Y : Int)] l3 hgl 2 _ _ rfl rfl (by omega) rfl T1.out m R1.out).mono ?_
  rintro e w4 ⟨rfl, b4⟩
  have l4 := l3.below b4
  have B4 := B3.trans (b4.mono B3.size)
  clear l3 b4 B3
  go_wp2_with fail
  refine (meet_lit w4 _ gs [(Y : Int), (X : Int)] l4 hgl 2 _ _ rfl rfl (by omega) rfl T2.out m R2.out).mono ?_
  rintro e w5 ⟨rfl, b5⟩
  have l5 := l4.below b5
  have B5 := B4.trans (b5.mono B4.size)
  clear l4 b5 B4
  go_wp2_with fail
  refine (meet_lit w5 _ gs [(X : Int), (Y : Int), (Z : Int)] l5 hgl 3 _ _ rfl rfl (by omega) rfl T3.out al R3.out).mono ?_
  rintro e w6 ⟨rfl, b6⟩
  have l6 := l5.below b6
  have B6 := B5.trans (b6.mono B5.size)
  clear l5 b6 B5
  go_wp2_with fail
  refine (meet_lit w6 _ gs [(m : Int), (Z : Int)] l6 hgl 2 _ _ rfl rfl (by omega) rfl T4.out al R4.out).mono ?_
  rintro e w7 ⟨rfl, b7⟩
  have l7 := l6.below b7
  have B7 := B6.trans (b7.mono B6.size)
  clear l6 b7 B6
  go_wp2_with fail
  refine (meet_lit w7 _ gs [(X : Int), (X : Int)] l7 hgl 2 _ _ rfl rfl (by omega) rfl T5.out X R5.out).mono ?_
  rintro e w8 ⟨rfl, b8⟩
  have l8 := l7.below b8
  have B8 := B7.trans (b8.mono B7.size)
  clear l7 b8 B7
  go_wp2_with fail
  refine (path_at w8 _ gs X l8 HOK.out hX).mono ?_
  rintro e w9 ⟨p, rfl, p9, b9⟩
  have l9 := l8.below b9
  have B9 := B8.trans (b9.mono B8.size)
  clear l8 b9 B8
  go_wp2_with fail
  refine (path_at w9 _ gs Y l9 HOK.out hY).mono ?_
  rintro e w10 ⟨q, rfl, q10, b10⟩
  have p10 := p9.below b10
  have B10 := B9.trans (b10.mono B9.size)
  have lpx := path_le HOK.out.bef X hX
  have lpy := path_le HOK.out.bef Y hY
  have hli : (ints (path gs X)).length = (path gs X).length := by simp [ints]
  have hlj : (ints (path gs Y)).length = (path gs Y).length := by simp [ints]
  rw [← hli] at hI2 lpx
  rw [← hlj] at hJ2 lpy
  clear l9 b10 B9 p9 hli hlj
  generalize ints (path gs X) = px at *
  generalize ints (path gs Y) = py at *
  obtain ⟨bp, op, cp', rfl, hcp, rp⟩ := p10.row (by omega)
  obtain ⟨bq, oq, cq', rfl, hcq, rq⟩ := q10.row (by omega)
  have IX := Lib.hid (index_int w10 _ px m p10 (by omega))
  have IY := Lib.hid (index_int w10 _ py m q10 (by omega))
  rw [HI.out] at IX
  rw [HJ.out] at IY
  have RP := Lib.hid rp
  have RQ := Lib.hid rq
  have Q10 := Lib.hid q10
  clear p10 q10 rp rq
  go_wp2_with fail
  refine IX.out.mono ?_
  rintro e w11 ⟨rfl, rfl⟩
  clear IX
  go_wp2_with fail
  refine IY.out.mono ?_
  rintro e w11 ⟨rfl, rfl⟩
  clear IY
  go_wp2_with fail
  have EQ : ∀ n, Calls Try.prog 15 #[.slice (some ⟨bp, op + I, none⟩) (px.length - I) (cp' - I), .slice (some ⟨bq, oq + J, none⟩) (py.length - J) (cq' - J)] (w10.drewN n) fun e w' => e = .returned (.bool true) ∧ ∃ q, w' = (w10.drewN n).drewN q := fun n => by
    refine (equal_int (w10.drewN n) _ _ (px.drop I) (py.drop J) (EV.dropI (w := w10.drewN n) RP.out I rfl (by omega)) (EV.dropI (w := w10.drewN n) RQ.out J rfl (by omega)) (by rw [List.length_drop]; omega) (by rw [List.length_drop]; omega)).mono ?_
    rintro e w' ⟨rfl, q, rfl⟩
    exact ⟨by rw [HDR.out]; simp, q, rfl⟩
  have HEQ := Lib.hid EQ
  clear EQ
  have hc1 : ¬ cp' = I := by omega
  have hc2 : ¬ cq' = J := by omega
  have hi1 : (I : Int) ≤ (px.length : Int) := by omega
  have hi2 : (J : Int) ≤ (py.length : Int) := by omega
  go_quiet ((go_at_call 15; exact Calls.quiet_of (HEQ.out _)))
  generalize hw11 : w10.drewN _ = w11
  have B11 : Below w.heap.size w w11 := by rw [← hw11]; exact below_drewN B10 _
  have rp11 : ER encI 1 w11 bp op (px.take I) := by rw [← hw11]; exact RP.out.take I
  have q11 : EV encI 1 w11 (.slice (some ⟨bq, oq, none⟩) py.length cq') py := by rw [← hw11]; exact Q10.out
  have RP11 := Lib.hid rp11
  have CQ := Lib.hid (fun g => contains_int w11 _ py g q11 (by omega))
  clear hw11 HEQ RP RQ Q10 B10 rp11 q11 hc1 hc2 hi1 hi2 HDR
  have hi1 : (I : Int) ≤ (px.length : Int) := by omega
  have hi2 : (I : Int) ≤ (cp' : Int) := by omega
  have hti : (px.take I).length = I := by rw [List.length_take]; omega
  have HTI := Lib.hid hti
  clear hti
  go_wp2
  go_loopg [158] I (fun k i wr => ∃ j : Nat, j + k = I ∧ i = .int .i64 j ∧ w11 = wr)
  case atStart => exact ⟨0, by omega, rfl, rfl⟩
  case round =>
    obtain ⟨j, hj, rfl, rfl⟩ := hrel
    have HJ := Lib.hid hj
    clear hj
    by_cases hlt : j < I
    · obtain ⟨g, hg, cg⟩ := RP11.out.get1 (i := j) (by rw [HTI.out]; exact hlt)
      have hc := CQ.out g
      have hno : py.contains g = false := by
        have := HTK.out g (List.mem_of_getElem? hg)
        simpa using this
      rw [hno] at hc
      have HC := Lib.hid hc
      clear hc hg hno
      go_wp2_with (go_at_call 16; refine HC.out.mono ?_; rintro e w' ⟨rfl, rfl⟩)
      go_roundg (gk - 1)
      case measure => have := HJ.out; omega
      case rel => exact ⟨j + 1, by have := HJ.out; omega, by go_num, rfl⟩
    · go_wp2
      go_ret
      exact ⟨rfl, B11⟩
end Go.Proofs.Ytkkmmbmjpfecdaa

/- package seq: next, Right, right, add | package seq: right, add | The law of a range over a function whose iterator keeps memory of its own, that it makes when it begins. -/
import Derived.Test.YtalophngappkhaaGreatDoorV9
import Derived.Deep.RegionLaw
import Derived.Test.YtalophngappkhaaGreatDoorV1
set_option linter.unusedVariables false
set_option linter.unusedSimpArgs false
set_option linter.unusedSectionVars false
namespace Go.Proofs.YtalophngappkhaaGreatDoor
open Go.RowKit Go.Shelf

theorem next_ok (w : World) (p q : Int) (h1 : -4611686018427387904 ≤ p) (h2 : p ≤ 4611686018427387903) (h3 : -4611686018427387904 ≤ q) (h4 : q ≤ 4611686018427387903) :
  Calls Tryz.prog 71 #[.agg #[.int .i64 p, .int .i64 q]] w fun e w' => e = .returned (.int .i64 (p + q)) ∧ Below w.heap.size w w' := by
 go_enter Tryz.func71, Tryz.ntmps71
 go_wp2
 go_ret
 exact ⟨rfl, (Below.refl _ _).alloc (Nat.le_refl _) _⟩

theorem good_step {l : List (Int × Int)} {i : Nat} {r : Int × Int} (hc : Can 0 (l.take i)) (hr : l[i]? = some r) :
  Can 0 (l.take (i + 1)) ↔ rokB r = true ∧ (0 < i → ∀ s, l[i - 1]? = some s → nxt s < r.1) := by
 rw [List.take_add_one, hr, Option.toList_some, can_snoc]
 rcases Nat.eq_zero_or_pos i with rfl | h0
 ·simp only [List.take_zero, endR]
  exact ⟨fun ⟨_, _, h⟩ => ⟨h, fun h => by omega⟩, fun ⟨h, _⟩ => ⟨can_nil _, by have := rok_iff.1 h; omega, h⟩⟩
 ·have hi := (List.getElem?_eq_some_iff.1 hr).1
  obtain ⟨s, hs⟩ : ∃ s, l[i - 1]? = some s := ⟨_, List.getElem?_eq_getElem (by omega)⟩
  have e : l.take i = l.take (i - 1) ++ [s] := by
   obtain ⟨j, rfl⟩ : ∃ j, i = j + 1 := ⟨i - 1, by omega⟩
   simp only [Nat.add_sub_cancel] at hs ⊢
   rw [List.take_add_one, hs]; rfl
  have he : endR 0 (l.take i) = nxt s := by rw [e, endR_append]
  rw [he]
  exact ⟨fun ⟨_, b, c⟩ => ⟨c, fun _ t ht => by rw [hs] at ht; cases ht; exact b⟩, fun ⟨c, b⟩ => ⟨hc, b h0 s hs, c⟩⟩
theorem can_take {l : List (Int × Int)} {lo : Int} (h : Can lo l) (i : Nat) : Can lo (l.take i) := can_prefix (b := l.drop i) (by rwa [List.take_append_drop])
theorem can_mem_take {l : List (Int × Int)} {i j : Nat} {r : Int × Int} (h : Can 0 (l.take i)) (hj : j < i) (hr : l[j]? = some r) : rokB r = true := by
 have h1 := can_take h (j + 1)
 rw [List.take_take, Nat.min_eq_left (by omega)] at h1
 have h2 := can_take h j
 rw [List.take_take, Nat.min_eq_left (by omega)] at h2
 exact ((good_step h2 hr).1 h1).1

set_option maxRecDepth 100000 in
set_option maxHeartbeats 2000000 in
theorem right_ok (w : World) (v : Value) (l : List (Int × Int)) (hv : EV encP 2 w v l) (hlen : l.length ≤ 1000000000) :
  Calls Tryz.prog 40 #[v] w fun e w' => e = .returned (.bool (rightB l)) ∧ Below w.heap.size w w' := by
 obtain ⟨A, c, rfl⟩ := hv.shape
 by_cases h6 : 65536 < l.length
 ·have e : rightB l = false := by unfold rightB; simp; intro h; omega
  rw [e]
  have k1 : decide (65536 < (l.length : Int)) = true := by simp; omega
  clear hv e
  go_enter Tryz.func40, Tryz.ntmps40
  go_wp2
  go_ret
  exact ⟨rfl, Below.refl _ _⟩
 ·have k1 : decide (65536 < (l.length : Int)) = false := by simp; omega
  have HL := Lib.hid (show rightB l = canB 0 l from by unfold rightB; rw [show decide (l.length ≤ 65536) = true from by simp; omega]; rfl)
  have HV := Lib.hid hv
  clear hv
  go_enter Tryz.func40, Tryz.ntmps40
  go_wp2_with fail
  go_loopg [3, 4, 10] l.length (fun k _ _ i wr => ∃ j : Nat, j + k = l.length ∧ i = .int .i64 j ∧ Below w.heap.size w wr ∧ Can 0 (l.take j))
  case atStart => exact ⟨0, by omega, rfl, Below.refl _ _, can_nil _⟩
  case round =>
   obtain ⟨j, hj, rfl, hb, hc⟩ := hrel
   have HJ := Lib.hid hj
   have HB := Lib.hid hb
   have HC := Lib.hid hc
   have hsz := hb.size
   clear hj hb hc k1
   by_cases hlt : j < l.length
   ·obtain ⟨b, off, c', hvv, hcc, rr⟩ := HV.out.row (by omega)
    simp only [Value.slice.injEq] at hvv
    obtain ⟨rfl, -, rfl⟩ := hvv
    obtain ⟨⟨p, q⟩, hr⟩ : ∃ r, l[j]? = some r := ⟨_, List.getElem?_eq_getElem hlt⟩
    obtain ⟨c0, c1⟩ := (rr.below HB.out).prs hr
    dsimp only at c0 c1
    have GS := Lib.hid (good_step HC.out hr)
    have ROK := Lib.hid (@rok_iff (p, q))
    have BAD := Lib.hid (show ¬ Can 0 (l.take (j + 1)) → rightB l = false from fun h => by
     rw [HL.out]
     cases hx : canB 0 l with
     | false => rfl
     | true => exact absurd (can_take hx (j + 1)) h)
    have hd1 : decide (j < l.length) = true := by simp; omega
    clear hr
    go_wp2_with fail
    by_cases hok : rokB (p, q) = true
    ·obtain ⟨h1, h2, h3, h4⟩ := ROK.out.1 hok
     have d1 : decide (p < 1) = false := by simp; omega
     have d2 : decide (281474976710656 < p) = false := by simp; omega
     have d3 : decide (q < 1) = false := by simp; omega
     have e4 : IntKind.i64.wrap (281474976710657 - p) = 281474976710657 - p := IntWalk.i64_in _ (by omega)
     have d4 : decide (281474976710657 - p < q) = false := by simp; omega
     have HOK := Lib.hid hok
     clear hok
     rcases Nat.eq_zero_or_pos j with hj0 | hj0
     ·have d5 : decide ((0 : Int) < (j : Int)) = false := by simp; omega
      have d5' : decide (0 < j) = false := by simp; omega
      have C1 := Lib.hid (GS.out.2 ⟨HOK.out, fun h => by omega⟩)
      go_quiet (fail)
      clear d1 d2 d3 d4 d5 d5' e4
      go_wp2
      go_roundg (gk - 1)
      case measure => have := HJ.out; omega
      case rel => exact ⟨j + 1, by have := HJ.out; omega, by go_num, below_drewN (HB.out.alloc hsz _) _, C1.out⟩
     ·obtain ⟨⟨p', q'⟩, hs⟩ : ∃ r, l[j - 1]? = some r := ⟨_, List.getElem?_eq_getElem (by omega)⟩
      have hsok := can_mem_take HC.out (j := j - 1) (by omega) hs
      obtain ⟨s1, s2, s3, s4⟩ := rok_iff.1 hsok
      obtain ⟨x0, x1⟩ := (rr.below HB.out).prs hs
      dsimp only at x0 x1 s1 s2 s3 s4
      have d5 : decide ((0 : Int) < (j : Int)) = true := by simp; omega
      have d5' : decide (0 < j) = true := by simp; omega
      have e6 : IntKind.i64.wrap ((j : Int) - 1) = (j : Int) - 1 := IntWalk.i64_in _ (by omega)
      have e7 : (0 : Int) ≤ (j : Int) - 1 := by omega
      have e8 : ((j : Int) - 1).toNat = j - 1 := by omega
      have e9 : (j : Int) - 1 < (l.length : Int) := by omega
      have e10 : (1 : Int) ≤ (j : Int) := by omega
      have e11 : 1 ≤ j := by omega
      have GN := Lib.hid (show (Can 0 (l.take (j + 1)) ↔ p' + q' < p) from by
       rw [GS.out]
       exact ⟨fun h => h.2 hj0 _ hs, fun h => ⟨HOK.out, fun _ t ht => by rw [hs] at ht; cases ht; exact h⟩⟩)
      have hbl : b < wr.heap.size := cell_lt x0
      have a0 := cell_of_row (wr.alloc (.cells #[.int .i64 p, .int .i64 q] 34)) wr.heap.size 0 _ _ (0, 0) (heap_alloc_new wr _)
      have a1 := cell_of_row (wr.alloc (.cells #[.int .i64 p, .int .i64 q] 34)) wr.heap.size 1 _ _ (0, 0) (heap_alloc_new wr _)
      have ba : Below wr.heap.size wr (wr.alloc (.cells #[.int .i64 p, .int .i64 q] 34)) := (Below.refl _ _).alloc (Nat.le_refl _) _
      have x0 := below_cell ba x0
      have x1 := below_cell ba x1
      have bw := HB.out.alloc hsz (.cells #[.int .i64 p, .int .i64 q] 34)
      clear hs c0 c1 ba hsok
      generalize wr.alloc (.cells #[.int .i64 p, .int .i64 q] 34) = wx at a0 a1 x0 x1 bw ⊢
      generalize wr.heap.size = X at a0 a1 ⊢
      have a0 := a0.trans rfl
      have a1 := a1.trans rfl
      have bx : Below wx.heap.size wx wx := Below.refl _ _
      go_region_held3 (fun wz => wz.cell? ⟨X, 0, none⟩ = some (.int .i64 p) ∧ wz.cell? ⟨X, 1, none⟩ = some (.int .i64 q) ∧ wz.cell? ⟨b, off + (j - 1) * 2, none⟩ = some (.int .i64 p') ∧ wz.cell? ⟨b, off + (j - 1) * 2 + 1, none⟩ = some (.int .i64 q'))
       (first | go_keep | exact ⟨below_cell hbz (by assumption), below_cell hbz (by assumption), below_cell hbz (by assumption), below_cell hbz (by assumption)⟩)
       ((go_loud (refine (next_ok _ p' q' (by omega) (by omega) (by omega) (by omega)).mono ?_; rintro e wz ⟨rfl, hbz⟩)))
      all_goals
       have bz : Below w.heap.size w wz := (below_drew bw).trans (hbz.mono bw.size)
       clear e6 e7 e8 e9 e10 e11 d1 d2 d3 d4 d5 d5' e4 hbz bw x0 x1 a0 a1 bx
       by_cases hle : p ≤ p' + q'
       ·have dl : decide (p ≤ p' + q') = true := by simp; omega
        have E := Lib.hid (BAD.out (fun h => by have := GN.out.1 h; omega))
        go_wp2
        go_ret
        exact ⟨ret_bool E.out.symm, bz⟩
       ·have dl : decide (p ≤ p' + q') = false := by simp; omega
        have C1 := Lib.hid (GN.out.2 (by omega))
        go_wp2
        go_roundg (gk - 1)
        case measure => have := HJ.out; omega
        case rel => exact ⟨j + 1, by have := HJ.out; omega, by go_num, bz, C1.out⟩
    ·have E := Lib.hid (BAD.out (fun h => hok (GS.out.1 h).1))
     have HN := Lib.hid (mt ROK.out.2 hok)
     clear hok
     by_cases h1 : p < 1
     ·have d1 : decide (p < 1) = true := by simp; omega
      go_quiet (fail)
      go_wp2
      go_ret
      exact ⟨ret_bool E.out.symm, below_drewN (HB.out.alloc hsz _) _⟩
     ·have d1 : decide (p < 1) = false := by simp; omega
      by_cases h2 : 281474976710656 < p
      ·have d2 : decide (281474976710656 < p) = true := by simp; omega
       all_goals
        all_goals
         go_quiet (fail)
         go_wp2
         go_ret
         exact ⟨ret_bool E.out.symm, below_drewN (HB.out.alloc hsz _) _⟩
      ·have d2 : decide (281474976710656 < p) = false := by simp; omega
       by_cases h3 : q < 1
       ·have d3 : decide (q < 1) = true := by simp; omega
        go_quiet (fail)
        go_wp2
        go_ret
        exact ⟨ret_bool E.out.symm, below_drewN (HB.out.alloc hsz _) _⟩
       ·have d3 : decide (q < 1) = false := by simp; omega
        have e4 : IntKind.i64.wrap (281474976710657 - p) = 281474976710657 - p := IntWalk.i64_in _ (by omega)
        have d4 : decide (281474976710657 - p < q) = true := by simp; have := HN.out; omega
        go_quiet (fail)
        clear e4
        go_wp2
        go_ret
        exact ⟨ret_bool E.out.symm, below_drewN (HB.out.alloc hsz _) _⟩
   ·have e : rightB l = true := by
     rw [HL.out]
     have := HC.out
     rw [List.take_of_length_le (by omega)] at this
     exact this
    have E := Lib.hid e
    clear e
    go_wp2
    go_ret
    exact ⟨ret_bool E.out.symm, HB.out⟩
end Go.Proofs.YtalophngappkhaaGreatDoor
namespace Go.Proofs.YtalophngappkhaaGreatDoor
open Go.RowKit Go.Shelf

/-- A slice of slices: each element's value, and the list that it reads as. -/
def encV (x : Value × List (Int × Int)) : List Value := [x.1]
theorem encV_len (x : Value × List (Int × Int)) : (encV x).length = 1 := rfl
def RowsOf (w : World) (v : Value) (xs : List (Value × List (Int × Int))) : Prop := EV encV 1 w v xs ∧ ∀ x ∈ xs, EV encP 2 w x.1 x.2 ∧ x.2.length ≤ 1000000000
def rerr (ls : List (List (Int × Int))) : Int := if ls.all rightB then 0 else 90
theorem all_take_step {α : Type} {xs : List α} {p : α → Bool} {j : Nat} {x : α} (h : (xs.take j).all p = true) (hx : xs[j]? = some x) (hp : p x = true) : (xs.take (j + 1)).all p = true := by
 rw [List.take_add_one, hx, List.all_append, h]; simp [hp]

set_option maxHeartbeats 1000000 in
theorem right_all (w : World) (v : Value) (xs : List (Value × List (Int × Int))) (hv : RowsOf w v xs) (hlen : xs.length ≤ 1000000000) :
  Calls Tryz.prog 90 #[v] w fun e w' => e = .returned (.int .i64 (rerr (xs.map (·.2)))) ∧ Below w.heap.size w w' := by
 obtain ⟨A, c, rfl⟩ := hv.1.shape
 have HV := Lib.hid hv
 have HE := Lib.hid (show rerr (xs.map (·.2)) = if xs.all (fun x => rightB x.2) then 0 else 90 from by unfold rerr; rw [List.all_map]; rfl)
 generalize rerr (xs.map (·.2)) = re at HE ⊢
 clear hv
 go_enter Tryz.func90, Tryz.ntmps90
 go_wp2_with fail
 go_loopg [4, 7] xs.length (fun k _ i wr => ∃ j : Nat, j + k = xs.length ∧ i = .int .i64 j ∧ Below w.heap.size w wr ∧ (xs.take j).all (fun x => rightB x.2) = true)
 case atStart => exact ⟨0, by omega, rfl, Below.refl _ _, by simp⟩
 case round =>
  obtain ⟨j, hj, rfl, hb, ht⟩ := hrel
  have HJ := Lib.hid hj
  have HB := Lib.hid hb
  have HT := Lib.hid ht
  have hsz := hb.size
  clear hj hb ht
  by_cases hlt : j < xs.length
  ·obtain ⟨b, off, c', hvv, hcc, rr⟩ := HV.out.1.row (by omega)
   simp only [Value.slice.injEq] at hvv
   obtain ⟨rfl, -, rfl⟩ := hvv
   obtain ⟨⟨u, l⟩, hx⟩ : ∃ x, xs[j]? = some x := ⟨_, List.getElem?_eq_getElem hlt⟩
   have hm := List.mem_of_getElem? hx
   have c0 := (rr.below HB.out) j (u, l) hx 0 u rfl
   simp only [Nat.mul_one, Nat.add_zero] at c0
   have RK := Lib.hid (right_ok wr u l ((HV.out.2 _ hm).1.below HB.out) (HV.out.2 _ hm).2)
   have HX := Lib.hid hx
   have HM := Lib.hid hm
   clear hx rr hm
   cases hr : rightB l with
   | true =>
    have HT2 := Lib.hid (all_take_step HT.out HX.out hr)
    rw [hr] at RK
    clear hr
    go_wp2_with fail
    refine RK.out.mono ?_
    rintro e w2 ⟨rfl, b2⟩
    have b2 := HB.out.trans (b2.mono hsz)
    go_wp2
    go_roundg (gk - 1)
    case measure => have := HJ.out; omega
    case rel => exact ⟨j + 1, by have := HJ.out; omega, by go_num, b2, HT2.out⟩
   | false =>
    have E := Lib.hid (show re = 90 from by
     rw [HE.out, if_neg]
     intro h
     have := List.all_eq_true.1 h _ HM.out
     dsimp only at this
     rw [hr] at this; cases this)
    rw [hr] at RK
    clear hr
    go_wp2_with fail
    refine RK.out.mono ?_
    rintro e w2 ⟨rfl, b2⟩
    have b2 := HB.out.trans (b2.mono hsz)
    go_wp2
    go_ret
    exact ⟨ret_int E.out.symm, b2⟩
  ·have E := Lib.hid (show re = 0 from by
    have := HT.out
    rw [List.take_of_length_le (by omega)] at this
    rw [HE.out, if_pos this])
   go_wp2
   go_ret
   exact ⟨ret_int E.out.symm, HB.out⟩
/-- At a call with one list, or two. -/
theorem right_one (w : World) (v : Value) (l : List (Int × Int)) (hv : EV encP 2 w v l) (hlen : l.length ≤ 1000000000) :
  Calls Tryz.prog 90 #[.slice (some ⟨w.heap.size, 0, none⟩) 1 1] (w.alloc (.cells #[v] 35)) fun e w' => e = .returned (.int .i64 (rerr [l])) ∧ Below w.heap.size w w' := by
 refine (right_all _ _ [(v, l)] ⟨EV.newL encV_len rfl rfl (Nat.le_refl _), fun x hx => ?_⟩ (by simp)).mono fun e w' h => ⟨h.1, ((Below.refl _ w).alloc (Nat.le_refl _) _).trans (h.2.mono (by simp))⟩
 simp at hx; subst hx
 exact ⟨hv.below ((Below.refl _ _).alloc (Nat.le_refl _) _), hlen⟩
theorem right_two (w : World) (v u : Value) (l m : List (Int × Int)) (hv : EV encP 2 w v l) (hu : EV encP 2 w u m) (hlen : l.length ≤ 1000000000) (hlen2 : m.length ≤ 1000000000) :
  Calls Tryz.prog 90 #[.slice (some ⟨w.heap.size, 0, none⟩) 2 2] (w.alloc (.cells #[v, u] 35)) fun e w' => e = .returned (.int .i64 (rerr [l, m])) ∧ Below w.heap.size w w' := by
 refine (right_all _ _ [(v, l), (u, m)] ⟨EV.newL encV_len rfl rfl (Nat.le_refl _), fun x hx => ?_⟩ (by simp)).mono fun e w' h => ⟨h.1, ((Below.refl _ w).alloc (Nat.le_refl _) _).trans (h.2.mono (by simp))⟩
 simp at hx
 rcases hx with rfl | rfl
 ·exact ⟨hv.below ((Below.refl _ _).alloc (Nat.le_refl _) _), hlen⟩
 ·exact ⟨hu.below ((Below.refl _ _).alloc (Nat.le_refl _) _), hlen2⟩

theorem hid_cell {w w' : World} (hb : Below w.heap.size w w') {p : Addr} {u : Value} (h : w.cell? p = some u) : w'.cell? p = some u ∧ w'.frozen? p = w.frozen? p := ⟨below_cell hb h, hb.frozen (cell_lt h)⟩
theorem get_last {l : List (Int × Int)} {s : Int × Int} : (l ++ [s])[l.length]? = some s := by simp
theorem set_last (l : List (Int × Int)) (s t : Int × Int) : (l ++ [s]).set l.length t = l ++ [t] := by simp

set_option maxRecDepth 100000 in
set_option maxHeartbeats 2000000 in
theorem add_ok (w : World) (v : Value) (l : List (Int × Int)) (p q : Int) (base : Nat) (hv : OV encP 2 34 base w v l) (hc : Can 0 l) (hlen : l.length ≤ 100000000) (hbase : base ≤ w.heap.size)
  (p1 : 0 ≤ p) (p2 : p ≤ 562949953421312) (q1 : 0 ≤ q) (q2 : q ≤ 562949953421312) :
  Calls Tryz.prog 67 #[v, .agg #[.int .i64 p, .int .i64 q]] w fun e w' => ∃ v', e = .returned v' ∧ OV encP 2 34 base w' v' (addR l (p, q)) ∧ Mod (fun k => v.ownBlock = some k) w w' := by
 rcases List.eq_nil_or_concat l with rfl | ⟨l', s, rfl⟩
 ·obtain ⟨A, c, rfl⟩ := (hv.ev encP_len).shape
  have HV := Lib.hid hv
  have d5 : decide ((0 : Int) < ((0 : Nat) : Int)) = false := by simp
  clear hv hc hlen
  go_enter Tryz.func67, Tryz.ntmps67
  go_wp2_with fail
  go_quiet (fail)
  have a0 := cell_of_row (w.alloc (.cells #[.int .i64 p, .int .i64 q] 34)) w.heap.size 0 _ _ (0, 0) (heap_alloc_new w _)
  have a1 := cell_of_row (w.alloc (.cells #[.int .i64 p, .int .i64 q] 34)) w.heap.size 1 _ _ (0, 0) (heap_alloc_new w _)
  have a0 : ((w.alloc (.cells #[.int .i64 p, .int .i64 q] 34)).drewN nq).cell? ⟨w.heap.size, 0, none⟩ = some (.int .i64 p) := a0
  have a1 : ((w.alloc (.cells #[.int .i64 p, .int .i64 q] 34)).drewN nq).cell? ⟨w.heap.size, 1, none⟩ = some (.int .i64 q) := a1
  have m1 : Mod (fun k => Value.ownBlock (.slice A 0 c) = some k) w ((w.alloc (.cells #[.int .i64 p, .int .i64 q] 34)).drewN nq) := (Mod.alloc _).trans (Mod.drewN _)
  have o1 : OV encP 2 34 base ((w.alloc (.cells #[.int .i64 p, .int .i64 q] 34)).drewN nq) (.slice A 0 c) [] := (HV.out.alloc _).drewN _
  have hs1 : base ≤ ((w.alloc (.cells #[.int .i64 p, .int .i64 q] 34)).drewN nq).heap.size := by simp; omega
  generalize (w.alloc (.cells #[.int .i64 p, .int .i64 q] 34)).drewN nq = w1 at a0 a1 m1 o1 hs1 ⊢
  have M1 := Lib.hid m1
  clear m1 HV d5
  go_wp2_with (at_builtin; refine wpList_app elemR encP_len encP_one rfl (.tmp 33) (.tmp 35) rfl _ _ rfl rfl (o1.alloc _) (new_pair (p := p) (q := q)) ?q1 ?q2 ?_)
  case q1 => simp
  case q2 => (try simp); omega
  intro v' w2 o2 g2
  go_wp2
  go_ret
  exact ⟨v', rfl, o2, M1.out.trans_new (Mod.alloc _ |>.trans_new (T' := fun k => Value.ownBlock (.slice A 0 c) = some k) (Mod.grown g2 (fun g h => h)) (fun _ _ h => h)) (fun _ _ h => h)⟩
 ·rw [List.concat_eq_append] at *
  obtain ⟨c1, c2, c3⟩ := can_snoc.1 hc
  obtain ⟨s1, s2⟩ := s
  obtain ⟨k1, k2, k3, k4⟩ := rok_iff.1 c3
  dsimp only at k1 k2 k3 k4
  have hl : (l' ++ [(s1, s2)]).length = l'.length + 1 := by simp
  obtain ⟨g, cap, hvv, hcap, hg1, hg2⟩ := hv.row_form encP_len hl (by omega)
  subst hvv
  rw [hl] at hlen
  have r := (hv.ev encP_len).row3 (by rw [hl]; omega)
  obtain ⟨x0, x1⟩ := r.prs (get_last (l := l') (s := (s1, s2)))
  dsimp only at x0 x1
  rw [Nat.zero_add] at x0 x1
  have fz : w.frozen? ⟨g, l'.length * 2 + 1, none⟩ = false := hv.frz hl _
  have HV := Lib.hid hv
  have HA := Lib.hid (addR_snoc (s1, s2) (p, q) l')
  obtain ⟨n, hn⟩ : ∃ n, l'.length = n := ⟨_, rfl⟩
  have HN := Lib.hid hn
  rw [hn] at x0 x1 fz hlen hl hcap HV ⊢
  have HL := Lib.hid hl
  have d5 : decide ((0 : Int) < (n : Int) + 1) = true := by rw [decide_eq_true_eq]; omega
  have e6 : IntKind.i64.wrap ((n : Int) + 1 - 1) = (n : Int) := by rw [show (n : Int) + 1 - 1 = (n : Int) by omega]; exact IntWalk.i64_in _ (by omega)
  have e6' : IntKind.i64.wrap (n : Int) = (n : Int) := IntWalk.i64_in _ (by omega)
  have e7 : (0 : Int) ≤ (n : Int) := by omega
  have e9 : (n : Int) < (n : Int) + 1 := by omega
  clear hv hc c1 c2 c3 r hn hl
  go_enter Tryz.func67, Tryz.ntmps67
  go_wp2_with fail
  have a0 := cell_of_row (w.alloc (.cells #[.int .i64 p, .int .i64 q] 34)) w.heap.size 0 _ _ (0, 0) (heap_alloc_new w _)
  have a1 := cell_of_row (w.alloc (.cells #[.int .i64 p, .int .i64 q] 34)) w.heap.size 1 _ _ (0, 0) (heap_alloc_new w _)
  have ba : Below w.heap.size w (w.alloc (.cells #[.int .i64 p, .int .i64 q] 34)) := (Below.refl _ _).alloc (Nat.le_refl _) _
  have x0 := below_cell ba x0
  have x1 := (hid_cell ba x1)
  have fz : (w.alloc (.cells #[.int .i64 p, .int .i64 q] 34)).frozen? ⟨g, n * 2 + 1, none⟩ = false := x1.2.trans fz
  have x1 := x1.1
  have hne : ¬ g = w.heap.size := by omega
  have hgw : g < (w.alloc (.cells #[.int .i64 p, .int .i64 q] 34)).heap.size := by simp; omega
  generalize w.alloc (.cells #[.int .i64 p, .int .i64 q] 34) = wx at a0 a1 x0 x1 ba fz hgw ⊢
  have hX : w.heap.size ≤ w.heap.size := Nat.le_refl _
  obtain ⟨X, hXe⟩ : ∃ X, w.heap.size = X := ⟨_, rfl⟩
  rw [hXe] at a0 a1 hne ⊢
  have a0 := a0.trans rfl
  have a1 := a1.trans rfl
  have BA := Lib.hid ba
  have HXE := Lib.hid hXe
  have FZ := Lib.hid fz
  clear ba hXe hX fz
  go_region_held3 (fun wz => wz.cell? ⟨X, 0, none⟩ = some (.int .i64 p) ∧ wz.cell? ⟨X, 1, none⟩ = some (.int .i64 q) ∧ wz.cell? ⟨g, n * 2, none⟩ = some (.int .i64 s1) ∧ wz.cell? ⟨g, n * 2 + 1, none⟩ = some (.int .i64 s2))
   (first | go_keep | exact ⟨below_cell hbz (by assumption), below_cell hbz (by assumption), below_cell hbz (by assumption), below_cell hbz (by assumption)⟩)
   ((refine (next_ok _ s1 s2 (by omega) (by omega) (by omega) (by omega)).mono ?_; rintro e wz ⟨rfl, hbz⟩))
  all_goals
   rename_i hh
   obtain ⟨y0, y1, y2, y3⟩ := hh
   have fz : wz.frozen? ⟨g, n * 2 + 1, none⟩ = false := (hbz.frozen (p := ⟨g, n * 2 + 1, none⟩) (by simpa using hgw)).trans FZ.out
   have bz : Below w.heap.size w wz := (below_drew BA.out).trans (hbz.mono BA.out.size)
   have BZ := Lib.hid bz
   have OZ := Lib.hid (HV.out.below bz)
   have hzb := bz.size
   clear a0 a1 x0 x1 hbz bz
   by_cases he : s1 + s2 = p
   ·have E := Lib.hid (show addR (l' ++ [(s1, s2)]) (p, q) = l' ++ [(s1, s2 + q)] from by rw [HA.out, if_pos (show nxt (s1, s2) = p from he)])
    have d6 : ((s1 + s2) == p) = true := by simp [he]
    have e8 : IntKind.i64.wrap (s2 + q) = s2 + q := IntWalk.i64_in _ (by omega)
    obtain ⟨o5, _⟩ := OV.setW OZ.out HL.out (i := n) (p := s1) (q := s2) (by rw [← HN.out]; exact get_last) (s2 + q)
    have O5 := Lib.hid (show OV encP 2 34 base (wz.setCell ⟨g, n * 2 + 1, none⟩ (.int .i64 (s2 + q))) (.slice (some ⟨g, 0, none⟩) (n + 1) cap) (addR (l' ++ [(s1, s2)]) (p, q)) from by
     rw [E.out, ← set_last l' (s1, s2) (s1, s2 + q), HN.out]; exact o5)
    clear he HA o5
    go_wp2_with fail
    go_region
    all_goals
     go_wp2_with fail
     go_ret
     refine ⟨_, rfl, ?_, ?_⟩
     ·first | exact O5.out | exact O5.out.drew
     ·have m := (Mod.of_below (T := fun k => Value.ownBlock (.slice (some ⟨g, 0, none⟩) (n + 1) cap) = some k) BZ.out).trans (Mod.setCell (p := ⟨g, n * 2 + 1, none⟩) (.int .i64 (s2 + q)) rfl)
      first | exact m | exact m.trans .drew
   ·have E := Lib.hid (show addR (l' ++ [(s1, s2)]) (p, q) = l' ++ [(s1, s2), (p, q)] from by rw [HA.out, if_neg (show ¬ nxt (s1, s2) = p from he)]; simp)
    have d6 : ((s1 + s2) == p) = false := by simp [he]
    clear he HA e6 e6' e7 e9
    go_wp2_with (at_builtin; refine wpList_app elemR encP_len encP_one rfl (.tmp 33) (.tmp 35) rfl _ _ rfl rfl (OZ.out.alloc _) (new_pair (p := p) (q := q)) ?q1 ?q2 ?_)
    case q1 => rw [HL.out]; simp; omega
    case q2 => (try simp); omega
    intro v' w2 o2 g2
    rw [← E.out] at o2
    have m := (Mod.of_below (T := fun k => Value.ownBlock (.slice (some ⟨g, 0, none⟩) (n + 1) cap) = some k) BZ.out).trans ((Mod.alloc _).trans (Mod.grown g2 (fun g h => h)))
    clear g2
    go_wp2
    go_ret
    exact ⟨_, rfl, o2, m⟩
end Go.Proofs.YtalophngappkhaaGreatDoor
namespace Go.Proofs.YtalophngappkhaaGreatDoor
open Go Go.RowKit

/-- AN ITERATOR WITH MEMORY OF ITS OWN (blocks from the heap's size at its call on, below p): it calls yield at xs 0, xs 1, .. in turn till there are N, or yield says no. -/
def IterP (P : Program) (gf : Nat) (lb : Array Value) (xs : Nat → Array Value) (N : Nat) (S T : Nat → Prop) (w : World) : Prop :=
 ∀ (l : Nat) (J : Nat → Nat → World → Prop) (Jx : Nat → World → Prop) (W : World), w.heap.size ≤ W.heap.size → (∀ k o, w.heap[k]? = some o → S k → W.heap[k]? = some o) →
  (∀ p k W1 W2, J p k W1 → Mod (fun b => T b ∨ (W.heap.size ≤ b ∧ b < p)) W1 W2 → J p k W2) → (∀ p W1 W2, Jx p W1 → Mod (fun b => T b ∨ (W.heap.size ≤ b ∧ b < p)) W1 W2 → Jx p W2) →
  (∀ p k W1, k < N → W.heap.size ≤ p → p ≤ W1.heap.size → J p k W1 → YieldAt W0 0 P l (xs k) W1 fun e W2 => W1.heap.size ≤ W2.heap.size ∧ (∀ k o, W1.heap[k]? = some o → (S k ∨ (W.heap.size ≤ k ∧ k < p)) → W2.heap[k]? = some o) ∧
   ((e = .returned (.bool true) ∧ J p (k + 1) W2) ∨ (e = .returned (.bool false) ∧ Jx p W2))) →
  (∀ p, J p 0 W) →
  CallsIn W0 0 P gf (#[.func (.yield l) #[] #[]] ++ lb) W fun e W' => (∃ v, e = .returned v) ∧ ∃ p, W.heap.size ≤ p ∧ (J p N W' ∨ Jx p W')

theorem wp_rangeP {P : Program} {g : Operand} {ps : Array Tmp} {assign body : Code} {Q : Exit → Act → World → Prop} {a : Act} {w : World}
  {gf : Nat} {lb : Array Value} (hg : a.eval g = .func (.func gf) #[] lb) (eg : ∀ args w, (callFunc gf args).run P w = .ok (.enter gf args) w)
  {xs : Nat → Array Value} {N : Nat} {S T : Nat → Prop} (hit : IterP P gf lb xs N S T w) (hT : ∀ k, T k → k < w.heap.size) (hS : ∀ k, S k → k < w.heap.size) (hps : ∀ k, (xs k).size = ps.size)
  (J : Nat → Nat → World → Prop) (Jx : Nat → Code → World → Prop)
  (hJ : ∀ p k W1 W2, J p k W1 → Chg w.heap.size (fun b => T b ∨ (w.heap.size + 2 ≤ b ∧ b < p)) W1 W2 → J p k W2)
  (hJx : ∀ p c W1 W2, Jx p c W1 → Chg w.heap.size (fun b => T b ∨ (w.heap.size + 2 ≤ b ∧ b < p)) W1 W2 → Jx p c W2)
  (h0 : ∀ p, J p 0 w)
  (hround : ∀ p l k W, k < N → w.heap.size ≤ l → l < W.heap.size → w.heap.size + 2 ≤ p → p ≤ W.heap.size → J p k W →
   assign.wpIn (W0.inRound l) 0 P (Exit.then (fun a₁ W₁ => BK (fun b => S b ∨ (w.heap.size + 2 ≤ b ∧ b < p)) W W₁ ∧ ∀ W₂, Chg w.heap.size (fun _ => False) W₁ W₂ → W₂.heap.size = W₁.heap.size → body.wpIn (W0.inRound l) 0 P (rPost (fun b => S b ∨ (w.heap.size + 2 ≤ b ∧ b < p)) (J p) (Jx p) k W₂) a₁ W₂) (fun _ _ _ => False))
    { tmps := (ps.zip (xs k)).foldl (fun t (p, v) => t.setIfInBounds p v) a.tmps, defers := [] } W)
  (hdone : ∀ (p D : Nat) (W : World), J p N W → w.heap.size ≤ D → D < w.heap.size + 2 → w.heap.size + 2 ≤ p → W.heap[D]? = some (.deferred (some [])) → Q .normal { a with defers := { target := .collected D, args := #[] } :: a.defers } W)
  (hstop : ∀ (p D : Nat) (c : Code) (W : World), Jx p c W → w.heap.size ≤ D → D < w.heap.size + 2 → w.heap.size + 2 ≤ p → W.heap[D]? = some (.deferred (some [])) → c.wpIn W0 0 P Q { a with defers := { target := .collected D, args := #[] } :: a.defers } W) :
  (Code.rangeFunc g ps assign body).wpIn W0 0 P Q a w := by
 refine wpIn_rangeFunc ?_
 intro fn hfn
 obtain ⟨rec, hrec⟩ : ∃ rec : LoopState → Option Code → Loop, rec = fun st pe => { state := st, pending := pe, fn, tmps := a.tmps, params := ps, assign, body, defers := w.heap.size } := ⟨_, rfl⟩
 obtain ⟨W1, hW1⟩ : ∃ W1, (w.alloc (.deferred (some []))).alloc (.loop (rec .ready none)) = W1 := ⟨_, rfl⟩
 have hL1 : W1.heap[w.heap.size + 1]? = some (.loop (rec .ready none)) := by
  rw [← hW1]; have := World.alloc_heap_new (w.alloc (.deferred (some []))) (.loop (rec .ready none)); rwa [World.size_alloc] at this
 have hK1 : W1.heap[w.heap.size]? = some (.deferred (some [])) := by
  rw [← hW1]; exact (Below.heap_alloc _ _ _ (by simp)).trans (World.alloc_heap_new w _)
 have hM1 : Mod (fun _ => False) w W1 := by rw [← hW1]; exact (Mod.alloc _).trans (Mod.alloc _)
 have hsz1 : W1.heap.size = w.heap.size + 2 := by rw [← hW1]; simp
 have hI1 : ∀ p, J p 0 W1 := fun p => hJ p 0 w W1 (h0 p) (Chg.of_mod (hM1.weaken (fun _ _ t => t.elim)))
 refine ⟨w.heap.size + 1, [{ target := .collected w.heap.size, args := #[] }], W1, { target := .fn (.func gf) lb, args := #[.func (.yield (w.heap.size + 1)) #[] #[]] }, W1, gf,
  #[.func (.yield (w.heap.size + 1)) #[] #[]] ++ lb, W1, ?_, ?_, ?_, ?_, fun h => (by simp [Fence.wide] at h), ?_⟩
 ·rw [← hW1, hrec]; exact run_enterLoop_outer _ _ _ _ _
 ·simp only [resolve, hg]
  simp [go_sem]
 ·intro f' hf'; trivial
 ·simp [invoke, go_sem, eg]
 ·have nt : ∀ p i, i < w.heap.size + 2 → ¬ ((w.heap.size ≤ i) ∧ (T i ∨ (W1.heap.size ≤ i ∧ i < p))) := fun p i hi t => by
   obtain ⟨t0, t | t⟩ := t
   ·have := hT _ t; omega
   ·omega
  have nt : ∀ p i, w.heap.size ≤ i ∧ i < w.heap.size + 2 → ¬ (T i ∨ (W1.heap.size ≤ i ∧ i < p)) := fun p i hi t => nt p i hi.2 ⟨hi.1, t⟩
  have conv : ∀ p (A B : World), Mod (fun b => T b ∨ (W1.heap.size ≤ b ∧ b < p)) A B → Chg w.heap.size (fun b => T b ∨ (w.heap.size + 2 ≤ b ∧ b < p)) A B := fun p A B h => by rw [hsz1] at h; exact Chg.of_mod h
  refine (hit (w.heap.size + 1)
   (fun p k W => J p k W ∧ W.heap[w.heap.size + 1]? = some (.loop (rec .ready none)) ∧ W.heap[w.heap.size]? = some (.deferred (some [])))
   (fun p W => ∃ c, Jx p c W ∧ W.heap[w.heap.size + 1]? = some (.loop (rec .done (some c))) ∧ W.heap[w.heap.size]? = some (.deferred (some [])))
   W1 hM1.size (fun k o ho _ => (hM1.block k (Array.getElem?_eq_some_iff.1 ho).1 (fun t => t)).trans ho)
   (fun p k A B hs hm => ⟨hJ p k A B hs.1 (conv p A B hm), ?_, ?_⟩) (fun p A B hs hm => ?_) ?_ (fun p => ⟨hI1 p, hL1, hK1⟩)).mono ?_
  ·exact (hm.block _ (Array.getElem?_eq_some_iff.1 hs.2.1).1 (nt p _ (by omega))).trans hs.2.1
  ·exact (hm.block _ (Array.getElem?_eq_some_iff.1 hs.2.2).1 (nt p _ (by omega))).trans hs.2.2
  ·obtain ⟨c, hc, hl, hk⟩ := hs
   exact ⟨c, hJx p c A B hc (conv p A B hm), (hm.block _ (Array.getElem?_eq_some_iff.1 hl).1 (nt p _ (by omega))).trans hl,
    (hm.block _ (Array.getElem?_eq_some_iff.1 hk).1 (nt p _ (by omega))).trans hk⟩
  ·-- ONE ROUND
   rintro p k W hk hp1 hp2 ⟨hi, hl, hd⟩
   rw [hsz1] at hp1
   obtain ⟨S', hS'⟩ : ∃ S' : Nat → Prop, S' = fun b => S b ∨ (w.heap.size + 2 ≤ b ∧ b < p) := ⟨_, rfl⟩
   have hlt : w.heap.size + 1 < W.heap.size := (Array.getElem?_eq_some_iff.1 hl).1
   have hy := run_yield (P := P) (args := xs k) hl (by rw [hrec]; exact hps k)
   rw [hrec] at hy
   refine ⟨fn, _, assign, body, hy, roundIn_of_wpIn hfn ?_⟩
   have hrd := hround p (w.heap.size + 1) k W hk (by omega) hlt hp1 hp2 hi
   rw [← hS'] at hrd
   refine wpIn_mono hrd ?_
   rintro e a1 Wa hp
   cases e with
   | normal =>
    obtain ⟨hbk, hbody⟩ := hp
    have hla := hbk.same _ _ hl (.inr rfl)
    have hda := hbk.same _ _ hd (.inr rfl)
    have hlta : w.heap.size + 1 < Wa.heap.size := (Array.getElem?_eq_some_iff.1 hla).1
    refine ⟨_, run_beginRound hla (by rw [hrec]), ?_⟩
    obtain ⟨W2, hW2⟩ : ∃ W2, Wa.putObj (w.heap.size + 1) (.loop { rec .ready none with state := .busy }) = W2 := ⟨_, rfl⟩
    rw [hW2]
    have hl2 : W2.heap[w.heap.size + 1]? = some (.loop { rec .ready none with state := .busy }) := by rw [← hW2]; exact World.putObj_heap_same hlta
    have hd2 : W2.heap[w.heap.size]? = some (.deferred (some [])) := by rw [← hW2]; exact (World.putObj_heap_other (by omega)).trans hda
    refine wpIn_mono (hbody W2 (by rw [← hW2]; exact Chg.putObj hla rfl (by omega)) (by rw [← hW2]; simp)) ?_
    have fin : ∀ (jump : Option Code) (W3 : World), BK S' W2 W3 →
      (Instr.endRound (w.heap.size + 1) jump).run P W3 = .ok (.bool jump.isNone) (W3.putObj (w.heap.size + 1) (.loop (rec (if jump.isNone then .ready else .done) jump))) ∧
      W3.heap[w.heap.size + 1]? = some (.loop { rec .ready none with state := .busy }) ∧
      (W3.putObj (w.heap.size + 1) (.loop (rec (if jump.isNone then .ready else .done) jump))).heap[w.heap.size + 1]? = some (.loop (rec (if jump.isNone then .ready else .done) jump)) ∧
      (W3.putObj (w.heap.size + 1) (.loop (rec (if jump.isNone then .ready else .done) jump))).heap[w.heap.size]? = some (.deferred (some [])) ∧
      W.heap.size ≤ (W3.putObj (w.heap.size + 1) (.loop (rec (if jump.isNone then .ready else .done) jump))).heap.size ∧
      (∀ (i : Nat) (o : Obj), W.heap[i]? = some o → (S i ∨ (W1.heap.size ≤ i ∧ i < p)) → (W3.putObj (w.heap.size + 1) (.loop (rec (if jump.isNone then .ready else .done) jump))).heap[i]? = some o) := fun jump W3 hb3 => by
     have hl3 := hb3.same _ _ hl2 (.inr rfl)
     have hd3 := hb3.same _ _ hd2 (.inr rfl)
     have hz2 : W2.heap.size = Wa.heap.size := by rw [← hW2]; simp
     have := run_endRound (P := P) jump hl3
     rw [hrec] at this ⊢
     refine ⟨this, by rw [hrec] at hl3; exact hl3, World.putObj_heap_same (Array.getElem?_eq_some_iff.1 hl3).1, (World.putObj_heap_other (by omega)).trans hd3, ?_, ?_⟩
     ·have h1 := hb3.size; have h2 := hbk.size; simp; omega
     ·intro i o ho hSi
      rw [hsz1] at hSi
      have hSi' : S' i := by rw [hS']; exact hSi
      have hne : i ≠ w.heap.size + 1 := by
       rcases hSi with h | h
       ·have := hS i h; omega
       ·omega
      have e1 := hbk.same i o ho (.inl hSi')
      have e2 : W2.heap[i]? = some o := by rw [← hW2]; exact (World.putObj_heap_other hne).trans e1
      exact (World.putObj_heap_other hne).trans (hb3.same i o e2 (.inl hSi'))
    rintro e a3 W3 hp
    cases e with
    | normal =>
     obtain ⟨hb3, hi3⟩ := hp
     obtain ⟨hr, hl3, hl4, hd4, hz4, hs4⟩ := fin none W3 hb3
     exact ⟨_, _, hr, hz4, hs4, .inl ⟨rfl, hJ _ _ _ _ hi3 (Chg.putObj hl3 rfl (by omega)), hl4, hd4⟩⟩
    | ret =>
     obtain ⟨hb3, hi3⟩ := hp
     obtain ⟨hr, hl3, hl4, hd4, hz4, hs4⟩ := fin (some .ret) W3 hb3
     exact ⟨_, _, hr, hz4, hs4, .inr ⟨rfl, .ret, hJx _ _ _ _ hi3 (Chg.putObj hl3 rfl (by omega)), hl4, hd4⟩⟩
    | exit id =>
     obtain ⟨hb3, hi3⟩ := hp
     obtain ⟨hr, hl3, hl4, hd4, hz4, hs4⟩ := fin (some (.exit id)) W3 hb3
     exact ⟨_, _, hr, hz4, hs4, .inr ⟨rfl, .exit id, hJx _ _ _ _ hi3 (Chg.putObj hl3 rfl (by omega)), hl4, hd4⟩⟩
    | goto t =>
     obtain ⟨hb3, hi3⟩ := hp
     obtain ⟨hr, hl3, hl4, hd4, hz4, hs4⟩ := fin (some (.goto t)) W3 hb3
     exact ⟨_, _, hr, hz4, hs4, .inr ⟨rfl, .goto t, hJx _ _ _ _ hi3 (Chg.putObj hl3 rfl (by omega)), hl4, hd4⟩⟩
    | panic ch => exact hp.elim
    | outgrown => exact hp.elim
   | exit id => exact hp.elim
   | goto t => exact hp.elim
   | ret => exact hp.elim
   | panic ch => exact hp.elim
   | outgrown => exact hp.elim
  ·rintro e W2 ⟨⟨v, rfl⟩, p, hp, (⟨hi, hl, hk⟩ | ⟨c, hi, hl, hk⟩)⟩
   ·rw [hsz1] at hp
    exact ⟨none, _, by have := run_endLoop (P := P) hl (by rw [hrec]; simp); rw [hrec] at this; exact this,
     hdone p _ _ (hJ _ _ _ _ hi (Chg.putObj hl rfl (by omega))) (Nat.le_refl _) (by omega) hp ((World.putObj_heap_other (by omega)).trans hk)⟩
   ·rw [hsz1] at hp
    exact ⟨some c, _, by have := run_endLoop (P := P) hl (by rw [hrec]; simp); rw [hrec] at this; exact this,
     hstop p _ c _ (hJx _ _ _ _ hi (Chg.putObj hl rfl (by omega))) (Nat.le_refl _) (by omega) hp ((World.putObj_heap_other (by omega)).trans hk)⟩
end Go.Proofs.YtalophngappkhaaGreatDoor

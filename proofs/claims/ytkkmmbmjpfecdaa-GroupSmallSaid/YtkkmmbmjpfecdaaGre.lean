/- Contracts of group.Order and of the closure in it that calls itself. -/
import Derived.Test.YtkkmmbmjpfecdaaGrd
import Derived.Test.YtkkmmbmjpfecdaaGmo
namespace Go.Proofs.Ytkkmmbmjpfecdaa
open Go.RowKit Go.Shelf

/-- What holds between the calls of 'gather': the boxes of out, l and gather. -/
structure OS (base Bo Bl Bt : Nat) (ls fv : Value) (w0 w : World) (xs : List Int) : Prop where
  out : ∃ v, Boxed w Bo 29 v ∧ OV encI 1 3 base w v xs
  l : Boxed w Bl 24 ls
  gather : Boxed w Bt 73 fv
  below : Below base w0 w

theorem OS.later {base Bo Bl Bt : Nat} {ls fv : Value} {w0 w1 w : World} {xs : List Int} (h : OS base Bo Bl Bt ls fv w1 w xs) (hb : Below base w0 w1) : OS base Bo Bl Bt ls fv w0 w xs :=
  ⟨h.out, h.l, h.gather, hb.trans h.below⟩

theorem boxed_ne {w : World} {B B' : Nat} {t t' : TypeId} {v v' : Value} (h : Boxed w B t v) (h' : Boxed w B' t' v') (hne : t ≠ t') : B ≠ B' := by
  rintro rfl
  have := (show w.heap[B]? = _ from h).symm.trans h'
  simp at this
  exact hne this.2
theorem os_app {base Bo Bl Bt : Nat} {ls fv v v' : Value} {w w1 : World} {xs : List Int} {z : Int} {tmp : Obj} (bo : Boxed w Bo 29 v) (ov : OV encI 1 3 base w v xs)
    (bl : Boxed w Bl 24 ls) (bt : Boxed w Bt 73 fv) (hsz : base ≤ w.heap.size) (hbo : base ≤ Bo)
    (hown : OV encI 1 3 base w1 v' (xs ++ [z])) (hgrow : (w.alloc tmp).grownBy w1 v.ownBlock) :
    Boxed w1 Bo 29 v ∧ OS base Bo Bl Bt ls fv w (w1.setCell ⟨Bo, 0, none⟩ v') (xs ++ [z]) := by
  obtain ⟨k1, k2, k3, _, k5⟩ := Boxed.appended bo (by decide) ov hsz hbo hown hgrow
  have q1 : Boxed w1 Bl 24 ls := (bl.alloc tmp).kept hgrow (bl.not_row (by decide) ov)
  have q2 : Boxed w1 Bt 73 fv := (bt.alloc tmp).kept hgrow (bt.not_row (by decide) ov)
  exact ⟨k1, ⟨v', k2, k3⟩, q1.setOther (boxed_ne q1 k1 (by decide)), q2.setOther (boxed_ne q2 k1 (by decide)), k5⟩

set_option maxHeartbeats 1000000 in
theorem order1_ok (base Bo Bl Bt b off c : Nat) (gs : List (Int × Int)) (fv : Value) (hfv : fv = .func (.func 48) #[] #[.pointer (some ⟨Bo, 0, none⟩), .pointer (some ⟨Bl, 0, none⟩), .pointer (some ⟨Bt, 0, none⟩)])
    (hlen : gs.length ≤ 100000) (hbo : base ≤ Bo) (hb : b < base) : ∀ (m g : Nat) (w : World) (xs : List Int), gs.length - g ≤ m → g < gs.length →
    base ≤ w.heap.size → ER encG 2 w b off gs → OS base Bo Bl Bt (.slice (some ⟨b, off, none⟩) gs.length c) fv w w xs → xs.length + (ordF gs m g).length ≤ 1000000 →
    Calls Try.prog 48 #[.int .i64 g, .pointer (some ⟨Bo, 0, none⟩), .pointer (some ⟨Bl, 0, none⟩), .pointer (some ⟨Bt, 0, none⟩)] w fun e w' => e = .returned (.tuple #[]) ∧
      OS base Bo Bl Bt (.slice (some ⟨b, off, none⟩) gs.length c) fv w w' (xs ++ ints (ordF gs m g)) := by
  intro m
  induction m with
  | zero => intro g w xs h1 h2; omega
  | succ m ih =>
    intro g w xs hm hg hsz hr hos hln
    have IH := Lib.hid ih
    have HR := Lib.hid hr
    have HLN := Lib.hid hln
    clear ih hr hln
    obtain ⟨⟨v, bo, ov⟩, bl, bt, _⟩ := hos
    have boc := bo.cell
    have BA := Lib.hid (fun (w1 : World) (v' : Value) h1 h2 => os_app (w1 := w1) (v' := v') (z := (g : Int)) (tmp := .cells #[.int .i64 g] 3) bo ov bl bt hsz hbo h1 h2)
    have HFV := Lib.hid hfv
    have hlx : xs.length ≤ 1000000 := by have := HLN.out; omega
    clear bl bt hfv bo
    go_enter Try.func48, Try.ntmps48
    go_wp2_with (at_builtin; refine wpList_app elemI encI_len encI_one rfl _ _ rfl _ _ rfl rfl (ov.alloc _) (new_one (z := (g : Int))) ?q1 ?q2 ?_)
    case q1 => simp; omega
    case q2 => simp; omega
    intro v' w1 hown hgrow
    obtain ⟨gg, cap, hv', hg1, hg2⟩ := hown.form (by simp)
    obtain ⟨k1, k2⟩ := BA.out w1 v' hown hgrow
    have k1c := k1.cell
    have k1f := k1.frozen
    obtain ⟨m1, hm1⟩ : ∃ m1, (xs ++ [(g : Int)]).length = m1 := ⟨_, rfl⟩
    rw [hm1] at hv'
    clear hm1 hown hgrow BA k1 boc ov
    subst hv'
    have K2 := Lib.hid k2
    clear k2
    go_wp2
    go_loopg [5] (gs.length + 1) (fun k i wr => ∃ j : Nat, g + 1 ≤ j ∧ j ≤ gs.length ∧ j + k = gs.length + g + 2 ∧ i = .int .i64 j ∧
      OS base Bo Bl Bt (.slice (some ⟨b, off, none⟩) gs.length c) fv w wr (xs ++ [(g : Int)] ++ ints ((kidsTo gs g j).flatMap (ordF gs m))))
    case atStart =>
      refine ⟨g + 1, by omega, by omega, by omega, by go_num, ?_⟩
      rw [kidsTo_start]
      simpa [ints] using K2.out
    case round =>
      obtain ⟨j, hj1, hj2, hj3, rfl, hos⟩ := hrel
      have HJ := Lib.hid hj3
      have HOS := Lib.hid hos
      have hblc := hos.l.cell
      have hbtc := hos.gather.cell
      rw [HFV.out] at hbtc
      have hszr : base ≤ wr.heap.size := Nat.le_trans hsz hos.below.size
      clear hj3 hos k1c k1f K2
      by_cases hlt : j < gs.length
      · have hr' : ER encG 2 wr b off gs := HR.out.keep fun p u hp hc => (HOS.out.below.cell (by rw [hp]; exact hb)).trans hc
        obtain ⟨⟨p, q⟩, hgj⟩ : ∃ g, gs[j]? = some g := ⟨_, List.getElem?_eq_getElem hlt⟩
        have c0 := (hr'.grp hgj).1
        have hp := par_get hgj
        dsimp only at c0 hp
        have HP := Lib.hid hp
        have HR' := Lib.hid hr'
        have HKL := Lib.hid (kids_len_le (gs := gs) m g (j + 1) (by omega))
        clear hp hgj hr'
        by_cases he : p = (g : Int)
        · have hk : kidsTo gs g (j + 1) = kidsTo gs g j ++ [j] := by rw [kidsTo_succ, if_pos (by unfold kidB; rw [HP.out]; simp [he]; omega)]
          have HK := Lib.hid hk
          have hll : (xs ++ [(g : Int)] ++ ints ((kidsTo gs g j).flatMap (ordF gs m))).length + (ordF gs m j).length ≤ 1000000 := by
            have h1 := HLN.out
            have h2 := HKL.out
            rw [hk, List.flatMap_append, List.length_append, List.flatMap_cons, List.flatMap_nil, List.append_nil] at h2
            simp only [ordF, List.length_cons] at h1
            simp only [List.length_append, List.length_singleton, ints, List.length_map]
            omega
          have CALL := Lib.hid (IH.out j wr _ (by omega) hlt hszr HR'.out ⟨HOS.out.out, HOS.out.l, HOS.out.gather, Below.refl _ _⟩ hll)
          have he' : (p == (g : Int)) = true := by simp [he]
          clear hk hll he
          go_wp2_with fail
          refine CALL.out.mono ?_
          rintro e w2 ⟨rfl, hos2⟩
          have HO2 := Lib.hid (hos2.later HOS.out.below)
          clear hos2
          go_wp2
          go_roundg (gk - 1)
          case measure => have := HJ.out; omega
          case rel =>
            refine ⟨j + 1, by omega, by omega, by have := HJ.out; omega, by go_num, ?_⟩
            have := HO2.out
            rw [HK.out, List.flatMap_append, ints_append, ← List.append_assoc]
            simpa using this
        · have hk : kidsTo gs g (j + 1) = kidsTo gs g j := by rw [kidsTo_succ, if_neg (by unfold kidB; rw [HP.out]; simp [he])]; simp
          have HK := Lib.hid hk
          have he' : (p == (g : Int)) = false := by simp [he]
          clear hk he
          go_wp2
          go_roundg (gk - 1)
          case measure => have := HJ.out; omega
          case rel => exact ⟨j + 1, by omega, by omega, by have := HJ.out; omega, by go_num, by rw [HK.out]; exact HOS.out⟩
      · obtain rfl : j = gs.length := by omega
        go_wp2
        go_end0
        refine ⟨rfl, ?_⟩
        have := HOS.out
        rw [List.append_assoc] at this
        exact this

def orderL (gs : List (Int × Int)) : List Int := if thereZ gs [] = 0 then ints (ordF gs gs.length 0) else []

set_option maxHeartbeats 1000000 in
theorem order_ok (w : World) (v : Value) (gs : List (Int × Int)) (hv : EV encG 2 w v gs) (hlen : gs.length ≤ 100000) :
    Calls Try.prog 26 #[v] w fun e w' => ∃ r, e = .returned (.tuple #[r, .int .i64 (thereZ gs [])]) ∧ OV encI 1 3 w.heap.size w' r (orderL gs) ∧ Below w.heap.size w w' := by
  have HT := Lib.hid (fun (w1 : World) (h : Below w.heap.size w w1) => there_ok w1 v (.slice none 0 0) gs [] (hv.below h) (EV.nil _ _) hlen (by simp))
  obtain ⟨A, c, rfl⟩ := hv.shape
  by_cases ht : thereZ gs [] = 0
  · have hd : orderL gs = ints (ordF gs gs.length 0) := if_pos ht
    obtain ⟨hok, _⟩ := there_zero.1 ht
    obtain ⟨b, off, c', he, hc, hr⟩ := hv.row hok.pos
    simp only [Value.slice.injEq, true_and] at he
    obtain ⟨rfl, rfl⟩ := he
    have hbw : b < w.heap.size := hr.lt hok.pos (fun _ => by simp [encG_len])
    have hol := ordF_len hok.bef (m := gs.length) (g := 0) (by omega) hok.pos
    have C := Lib.hid (fun (w1 : World) (Bo Bl Bt : Nat) (hb : Below w.heap.size w w1) (hbo : w.heap.size ≤ Bo) (h : OS w.heap.size Bo Bl Bt _ _ w1 w1 []) =>
      order1_ok w.heap.size Bo Bl Bt b off c gs _ rfl hlen hbo hbw gs.length 0 w1 [] (by omega) hok.pos hb.size (hr.below hb) h (by simp; omega))
    have HR := Lib.hid hr
    have HOL := Lib.hid hol
    rw [ht] at HT
    rw [ht, hd]
    clear hv hr hd ht hok hol
    go_enter Try.func26, Try.ntmps26
    go_wp2_with fail
    refine (HT.out _ ((Below.refl _ _).alloc (Nat.le_refl _) _)).mono ?_
    rintro e w1 ⟨rfl, hb⟩
    have hb0 := ((Below.refl _ w).alloc (Nat.le_refl _) (.cells #[.slice (some ⟨b, off, none⟩) gs.length c] 24)).trans (hb.mono (by simp))
    have bl : Boxed w1 w.heap.size 24 (.slice (some ⟨b, off, none⟩) gs.length c) := (Boxed.new w _ _).below hb
    have hsz := hb0.size
    have BL := Lib.hid bl
    clear hb HT bl
    go_wp2_with fail
    refine (C.out _ w1.heap.size w.heap.size (w1.heap.size + 1) ((hb0.alloc hsz _).alloc (by simp; omega) _) hsz
      ⟨⟨_, (Boxed.new _ _ _).alloc _, OV.nil _ _⟩, (BL.out.alloc _).alloc _, by have := Boxed.new (w1.alloc (.cells #[.slice none 0 0] 29)) 73 (.func (.func 48) #[] #[.pointer (some ⟨w1.heap.size, 0, none⟩), .pointer (some ⟨w.heap.size, 0, none⟩), .pointer (some ⟨w1.heap.size + 1, 0, none⟩)]); rwa [World.size_alloc] at this, Below.refl _ _⟩).mono ?_
    rintro e w2 ⟨rfl, ⟨r, br, ho⟩, _, _, hb2⟩
    have hb3 := ((hb0.alloc hsz (.cells #[.slice none 0 0] 29)).alloc (by simp; omega) (.cells #[.func (.func 48) #[] #[.pointer (some ⟨w1.heap.size, 0, none⟩), .pointer (some ⟨w.heap.size, 0, none⟩), .pointer (some ⟨w1.heap.size + 1, 0, none⟩)]] 73)).trans hb2
    have brc := br.cell
    have HO := Lib.hid ho
    clear ho hb2 C
    go_wp2
    go_ret2
    exact ⟨r, rfl, by simpa using HO.out, hb3⟩
  · have hd : orderL gs = [] := if_neg ht
    rw [hd]
    generalize thereZ gs [] = t at HT ht ⊢
    have ht' : (t != 0) = true := by simp [ht]
    clear ht hv hd
    go_enter Try.func26, Try.ntmps26
    go_wp2_with fail
    refine (HT.out _ ((Below.refl _ _).alloc (Nat.le_refl _) _)).mono ?_
    rintro e w1 ⟨rfl, hb⟩
    have hb0 := ((Below.refl _ w).alloc (Nat.le_refl _) (.cells #[.slice A gs.length c] 24)).trans (hb.mono (by simp))
    clear hb HT
    go_wp2
    go_ret2
    exact ⟨_, rfl, OV.nil _ _, hb0⟩
end Go.Proofs.Ytkkmmbmjpfecdaa

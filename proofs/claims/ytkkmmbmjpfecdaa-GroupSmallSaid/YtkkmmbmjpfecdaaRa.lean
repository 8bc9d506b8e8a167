/- The reference of layer 19: has, Check, Right, wrong. -/
import Derived.Test.YtkkmmbmjpfecdaaGmq
import Derived.Test.YtkkmmbmjpfecdaaK
import Derived.Test.YtkkmmbmjpfecdaaGtm
namespace Go.Proofs.Ytkkmmbmjpfecdaa
open Go.RowKit Go.Shelf

set_option maxHeartbeats 400000 in
theorem has_ok (w : World) (v1 : Value) (xs : List Int) (v : Int) (h1 : EV encI 1 w v1 xs) (b1 : xs.length ≤ 1000000000) :
    Calls Try.prog 57 #[v1, .int .i64 v] w fun e w' => e = .returned (.bool (xs.contains v)) ∧ w = w' := by
  rcases Nat.eq_zero_or_pos xs.length with h0 | h0
  · obtain rfl : xs = [] := List.eq_nil_of_length_eq_zero h0
    obtain ⟨A, c, rfl⟩ := h1.shape
    clear h1 h0 b1
    go_enter Try.func57, Try.ntmps57
    go_wp2
    refine wp_loop_rounds 1 ?_
    rw [rounds_succ]
    go_wp2
    go_ret
    exact ⟨rfl, rfl⟩
  · obtain ⟨b, off, c, rfl, hc, r1⟩ := h1.row h0
    have R1 := Lib.hid r1
    clear r1 h1
    go_enter Try.func57, Try.ntmps57
    go_wp2
    go_loopg [5] xs.length (fun k i wr => ∃ j : Nat, j + k = xs.length ∧ i = .int .i64 j ∧ w = wr ∧ v ∉ xs.take j)
    case atStart => exact ⟨0, by omega, rfl, rfl, by simp⟩
    case round =>
      obtain ⟨j, hj, rfl, rfl, ht⟩ := hrel
      have HT := Lib.hid ht
      have HJ := Lib.hid hj
      clear ht hj
      by_cases hlt : j < xs.length
      · obtain ⟨x, hx, c1⟩ := R1.out.get1 hlt
        have HX := Lib.hid hx
        clear hx
        by_cases he : x = v
        · subst he
          have E := Lib.hid (show xs.contains x = true by simpa using List.mem_of_getElem? HX.out)
          go_wp2
          go_ret
          exact ⟨ret_bool E.out.symm, rfl⟩
        · have hne : (x == v) = false := by simp [he]
          have HE := Lib.hid he
          clear he
          go_wp2
          go_roundg (gk - 1)
          case measure => have := HJ.out; omega
          case rel => exact ⟨j + 1, by have := HJ.out; omega, by go_num, rfl, notin_step HT.out HX.out (fun e => HE.out e.symm)⟩
      · have e : xs.contains v = false := by
          have := HT.out; rw [List.take_of_length_le (by omega)] at this; simpa using this
        have E := Lib.hid e
        clear e
        go_wp2
        go_ret
        exact ⟨ret_bool E.out.symm, rfl⟩

def dps (gs : List (Int × Int)) (j : Nat) : List Int := (List.range j).map (fun i => ((dep gs i : Nat) : Int))
theorem dps_len (gs : List (Int × Int)) (j : Nat) : (dps gs j).length = j := by simp [dps]
theorem dps_succ (gs : List (Int × Int)) (j : Nat) : dps gs (j + 1) = dps gs j ++ [((dep gs j : Nat) : Int)] := by simp [dps, List.range_succ]
theorem dps_get (gs : List (Int × Int)) {i j : Nat} (h : i < j) : (dps gs j)[i]? = some ((dep gs i : Nat) : Int) := by simp [dps, h]

set_option maxRecDepth 100000 in
set_option maxHeartbeats 2000000 in
theorem rcheck_ok (w : World) (v : Value) (gs : List (Int × Int)) (hv : EV encG 2 w v gs) (hlen : gs.length ≤ 100000) :
    Calls Try.prog 34 #[v] w fun e w' => e = .returned (.tuple #[.int .i64 (checkG gs).1, .int .i64 (checkG gs).2]) ∧ Below w.heap.size w w' := by
  by_cases h256 : 256 < gs.length
  · obtain ⟨A, c, rfl⟩ := hv.shape
    have e : checkG gs = (-1, 5) := by unfold checkG; rw [if_pos h256]
    rw [e]
    clear hv e
    go_enter Try.func34, Try.ntmps34
    go_wp2
    go_ret2
    exact ⟨rfl, Below.refl _ _⟩
  · rcases Nat.eq_zero_or_pos gs.length with h0 | h0
    · obtain rfl : gs = [] := List.eq_nil_of_length_eq_zero h0
      obtain ⟨A, c, rfl⟩ := hv.shape
      clear hv h0 hlen h256
      go_enter Try.func34, Try.ntmps34
      go_wp2
      go_ret2
      exact ⟨rfl, Below.refl _ _⟩
    · obtain ⟨b, off, c, rfl, hc, hr⟩ := hv.row h0
      obtain ⟨g0, hg0⟩ : ∃ g0, gs[0]? = some g0 := ⟨_, List.getElem?_eq_getElem h0⟩
      obtain ⟨c0, c1⟩ := hr.grp hg0
      have HR := Lib.hid hr
      have HG0 := Lib.hid hg0
      clear hr hg0 hv
      obtain ⟨p0, q0⟩ := g0
      simp only [Nat.zero_mul, Nat.add_zero] at c0 c1
      have k1 : decide ((256 : Int) < (gs.length : Int)) = false := by simp; omega
      have k2 : ((gs.length : Int) == 0) = false := by simp; intro h; rw [h] at h0; simp at h0
      by_cases hroot : p0 = 0 ∧ q0 = 1
      · obtain ⟨rfl, rfl⟩ := hroot
        have e : checkG gs = chkF gs (gs.length - 1) 1 := by unfold checkG; rw [if_neg h256, if_neg (by simp [HG0.out])]
        rw [e]
        clear e h256
        go_enter Try.func34, Try.ntmps34
        go_wp2
        go_loopg [4, 5] gs.length (fun k l i wr => ∃ j : Nat, j + k = gs.length ∧ i = .int .i64 j ∧ OV encI 1 3 w.heap.size wr l (dps gs j) ∧ Below w.heap.size w wr ∧ (1 ≤ j → chkF gs (gs.length - 1) 1 = chkF gs (gs.length - j) j) ∧ Bef gs j)
        case atStart => exact ⟨0, by omega, rfl, OV.nil _ _, Below.refl _ _, by omega, fun i h1 h2 => by omega⟩
        case round =>
          obtain ⟨j, hj3, rfl, ho, hb, hch, hbef⟩ := hrel
          have HJ := Lib.hid hj3
          have HB := Lib.hid hb
          have HO := Lib.hid ho
          have hsz := hb.size
          have HC := Lib.hid hch
          have HF := Lib.hid hbef
          have hdl := dps_len gs j
          have HDL := Lib.hid hdl
          clear hj3 hb hch hbef c0 c1 k1 k2 hdl
          by_cases hlt : j < gs.length
          · rcases Nat.eq_zero_or_pos j with hj0 | hj0
            · have hj0' : ((j : Int) == 0) = true := by simp; omega
              have HJ0 := Lib.hid hj0
              clear hj0
              go_wp2_with (at_builtin; refine wpList_app elemI encI_len encI_one rfl _ _ rfl _ _ rfl rfl (HO.out.alloc _) (new_one (z := 0)) ?q1 ?q2 ?_)
              case q1 => rw [HDL.out]; simp; omega
              case q2 => simp; omega
              intro v' w2 ho2 hg2
              have hb2 : Below w.heap.size w w2 := (HB.out.alloc hsz _).grown hg2 (by simp; omega) (fun k hk => (HO.out.block k hk).1)
              clear hg2
              go_wp2
              go_roundg (gk - 1)
              case measure => have := HJ.out; omega
              case rel =>
                have e0 := HJ0.out
                subst e0
                exact ⟨1, by have := HJ.out; omega, by go_num, ho2, hb2, fun _ => rfl, fun i h1 h2 => by omega⟩
            · have hj0' : ((j : Int) == 0) = false := by simp; omega
              obtain ⟨⟨p, q⟩, hg⟩ : ∃ g, gs[j]? = some g := ⟨_, List.getElem?_eq_getElem hlt⟩
              have hr' := HR.out.below HB.out
              obtain ⟨d0, d1⟩ := hr'.grp hg
              have hp := par_get hg
              have hq := wgt_get hg
              dsimp only at d0 d1 hp hq
              have hbl : b < wr.heap.size := cell_lt d0
              have HP := Lib.hid hp
              have HQ := Lib.hid hq
              have HR' := Lib.hid hr'
              clear hp hq hg hr'
              have step : ∀ f, gs.length - j = f + 1 → chkF gs (gs.length - j) j = if par gs j < 0 ∨ (j : Int) ≤ par gs j then ((j : Int), (191 : Int))
                  else if wB (wgt gs j) = false then (j, 192) else if 4 < dep gs j then (j, 193) else chkF gs f (j + 1) := fun f hf => by rw [hf]; rfl
              have ST := Lib.hid (step (gs.length - j - 1) (by omega))
              clear step
              by_cases hbad : p < 0 ∨ (j : Int) ≤ p
              · have e : chkF gs (gs.length - 1) 1 = ((j : Int), 191) := by rw [HC.out hj0, ST.out, HP.out, if_pos hbad]
                have E := Lib.hid e
                clear e ho
                by_cases h : p < 0
                · clear hbad
                  go_wp2
                  go_ret2
                  exact ⟨ret_pair E.out, HB.out⟩
                · have h' : (j : Int) - 1 < p := by omega
                  clear hbad
                  go_wp2
                  go_ret2
                  exact ⟨ret_pair E.out, HB.out⟩
              · have h1 : ¬ p < 0 := fun h => hbad (.inl h)
                have h2 : ¬ (j : Int) - 1 < p := by omega
                have h2' : p < j := by omega
                have hbef : Bef gs (j + 1) := fun i h0 hi => by
                  rcases Nat.lt_or_ge i j with h | h
                  · exact HF.out i h0 h
                  · obtain rfl : i = j := by omega
                    rw [HP.out]; omega
                have hds := dep_succ hbef hj0 (by omega)
                rw [HP.out] at hds
                obtain ⟨pn, rfl⟩ := Int.eq_ofNat_of_zero_le (show 0 ≤ p by omega)
                rw [Int.toNat_natCast] at hds
                have HDS := Lib.hid hds
                have hpl := path_le hbef pn (by omega)
                have hdpl : dep gs pn ≤ pn := by unfold dep; omega
                have HF' := Lib.hid hbef
                have HN := Lib.hid hbad
                clear hbef hbad hds hpl
                by_cases hw : wB q = false
                · have e : chkF gs (gs.length - 1) 1 = ((j : Int), 192) := by rw [HC.out hj0, ST.out, HP.out, HQ.out, if_neg HN.out, if_pos hw]
                  have E := Lib.hid e
                  have hwt : q < 1 ∨ 65536 < q := by unfold wB at hw; simp at hw; omega
                  clear e hw ho
                  by_cases hw1 : q < 1
                  · clear hwt
                    go_wp2
                    go_ret2
                    exact ⟨ret_pair E.out, HB.out⟩
                  · have hw3 : 65536 < q := by omega
                    clear hwt
                    go_wp2
                    go_ret2
                    exact ⟨ret_pair E.out, HB.out⟩
                · have hwt : 1 ≤ q ∧ q ≤ 65536 := by unfold wB at hw; simpa using hw
                  obtain ⟨hw3, hw4⟩ := hwt
                  have HW := Lib.hid hw
                  clear hw
                  obtain ⟨bd, od, cd, hv, hcd, rd⟩ := (HO.out.ev encI_len).row (by rw [HDL.out]; omega)
                  subst hv
                  have cpn := rd pn _ (dps_get gs (by omega)) 0 _ rfl
                  simp only [Nat.mul_one, Nat.add_zero] at cpn
                  have HOL := Lib.hid HO.out
                  rw [HDL.out] at HOL ⊢
                  obtain ⟨dp, hdp⟩ : ∃ m, dep gs pn = m := ⟨_, rfl⟩
                  rw [hdp] at cpn hdpl
                  have HDP := Lib.hid hdp
                  have hdj : (dep gs j : Nat) = dp + 1 := by rw [HDS.out, hdp]
                  have HDJ := Lib.hid hdj
                  clear hdp rd ho hdj
                  go_wp2_with (at_builtin; refine wpList_app elemI encI_len encI_one rfl _ _ rfl _ _ rfl rfl (HOL.out.alloc _) (new_one (z := (dp : Int) + 1)) ?q1 ?q2 ?_)
                  case q1 => rw [HDL.out]; (try simp); omega
                  case q2 => (try simp); omega
                  intro v' w2 ho2 hg2
                  have hb2 : Below w.heap.size w w2 := (HB.out.alloc hsz _).grown hg2 (by first | omega | (simp; omega)) (fun k hk => (HOL.out.block k hk).1)
                  have e2 : dps gs (j + 1) = dps gs j ++ [(dp : Int) + 1] := by rw [dps_succ, HDJ.out]; simp
                  rw [← e2] at ho2
                  obtain ⟨g2, cg, hv', _, _⟩ := ho2.form (by rw [dps_len]; omega)
                  rw [dps_len] at hv'
                  subst hv'
                  have cj := (ho2.ev encI_len).row3 (by rw [dps_len]; omega) j _ (dps_get gs (by omega)) 0 _ rfl
                  simp only [Nat.mul_one, Nat.add_zero, Nat.zero_add] at cj
                  rw [HDJ.out] at cj
                  have HO2 := Lib.hid ho2
                  have HB2 := Lib.hid hb2
                  clear ho2 hg2 e2 hb2
                  by_cases h3 : 4 < dp + 1
                  · have e : chkF gs (gs.length - 1) 1 = ((j : Int), 193) := by rw [HC.out hj0, ST.out, HP.out, HQ.out, if_neg HN.out, if_neg HW.out, if_pos (by rw [HDJ.out]; exact h3)]
                    have E := Lib.hid e
                    clear e
                    go_wp2
                    go_ret2
                    exact ⟨ret_pair E.out, HB2.out⟩
                  · have e : chkF gs (gs.length - 1) 1 = chkF gs (gs.length - (j + 1)) (j + 1) := by
                      rw [HC.out hj0, ST.out, HP.out, HQ.out, if_neg HN.out, if_neg HW.out, if_neg (by rw [HDJ.out]; exact h3), show gs.length - j - 1 = gs.length - (j + 1) from by omega]
                    have E := Lib.hid e
                    clear e
                    go_wp2
                    go_roundg (gk - 1)
                    case measure => have := HJ.out; omega
                    case rel => exact ⟨j + 1, by have := HJ.out; omega, by go_num, HO2.out, HB2.out, fun _ => E.out, HF'.out⟩
          · have e : chkF gs (gs.length - 1) 1 = (-1, 0) := by
              rw [HC.out (by omega), show gs.length - j = 0 by omega]; rfl
            have E := Lib.hid e
            clear e ho
            go_wp2
            go_ret2
            exact ⟨ret_pair E.out, HB.out⟩
      · have e : checkG gs = (0, 190) := by unfold checkG; rw [if_neg h256, if_pos (by rw [HG0.out]; simp; intro h1 h2; exact hroot ⟨h1, h2⟩)]
        rw [e]
        clear e h256
        by_cases hp0 : p0 = 0
        · have hk : (p0 != 0) = false := by simp [hp0]
          have hk2 : (q0 != 1) = true := by simp; intro h; exact hroot ⟨hp0, h⟩
          clear hroot hp0
          go_enter Try.func34, Try.ntmps34
          go_wp2
          go_ret2
          exact ⟨rfl, Below.refl _ _⟩
        · have hk : (p0 != 0) = true := by simp [hp0]
          clear hroot hp0
          go_enter Try.func34, Try.ntmps34
          go_wp2
          go_ret2
          exact ⟨rfl, Below.refl _ _⟩

theorem rright_ok (w : World) (v : Value) (gs : List (Int × Int)) (hv : EV encG 2 w v gs) (hlen : gs.length ≤ 100000) :
    Calls Try.prog 36 #[v] w fun e w' => e = .returned (.bool (rightB gs)) ∧ Below w.heap.size w w' := by
  have H := Lib.hid (rcheck_ok w v gs hv hlen)
  have E := Lib.hid (show rightB gs = ((checkG gs).2 == 0) from rfl)
  go_enter Try.func36, Try.ntmps36
  go_wp2_with fail
  refine H.out.mono ?_
  rintro e w' ⟨rfl, hb⟩
  have HB := Lib.hid hb
  clear H hb hv
  generalize (checkG gs).1 = c1
  generalize (checkG gs).2 = c2 at E ⊢
  go_wp2
  go_ret
  exact ⟨ret_bool E.out.symm, HB.out⟩

theorem wrong_ok (w : World) (v : Value) (gs : List (Int × Int)) (z : Int) (hv : EV encG 2 w v gs) (hlen : gs.length ≤ 100000) :
    Calls Try.prog 56 #[v, .int .i64 z] w fun e w' => e = .returned (.int .i64 (thereZ gs [z])) ∧ Below w.heap.size w w' := by
  obtain ⟨A, c, rfl⟩ := hv.shape
  have H := Lib.hid (rright_ok w _ gs hv hlen)
  cases hr : rightB gs with
  | false =>
    have e : thereZ gs [z] = 194 := by unfold thereZ; rw [if_pos hr]
    rw [hr] at H
    rw [e]
    clear hr e hv
    go_enter Try.func56, Try.ntmps56
    go_wp2_with fail
    refine H.out.mono ?_
    rintro e w' ⟨rfl, hb⟩
    go_wp2
    go_ret
    exact ⟨rfl, hb⟩
  | true =>
    rw [hr] at H
    by_cases hz : z < 0 ∨ (gs.length : Int) ≤ z
    · have e : thereZ gs [z] = 2 := by unfold thereZ; rw [if_neg (by simp [hr]), if_pos (by simp [outB]; exact hz)]
      rw [e]
      clear hr e hv
      by_cases hz0 : z < 0
      · clear hz
        go_enter Try.func56, Try.ntmps56
        go_wp2_with fail
        refine H.out.mono ?_
        rintro e w' ⟨rfl, hb⟩
        go_wp2
        go_ret
        exact ⟨rfl, hb⟩
      · have hz1 : (gs.length : Int) ≤ z := by omega
        clear hz
        go_enter Try.func56, Try.ntmps56
        go_wp2_with fail
        refine H.out.mono ?_
        rintro e w' ⟨rfl, hb⟩
        go_wp2
        go_ret
        exact ⟨rfl, hb⟩
    · have e : thereZ gs [z] = 0 := by unfold thereZ; rw [if_neg (by simp [hr]), if_neg (by simp [outB]; omega)]
      rw [e]
      have hz1 : ¬ z < 0 := by omega
      have hz2 : z < (gs.length : Int) := by omega
      clear hr e hv hz
      go_enter Try.func56, Try.ntmps56
      go_wp2_with fail
      refine H.out.mono ?_
      rintro e w' ⟨rfl, hb⟩
      go_wp2
      go_ret
      exact ⟨rfl, hb⟩
end Go.Proofs.Ytkkmmbmjpfecdaa

/- The reference of layer 19: has, Check, Right, wrong | The reference of layer 19: Path, Depth, Children, Under | The reference of layer 21: Shaped. -/
import Derived.Test.YtenngfkgfdogjaaZ4
import Derived.Test.YtenngfkgfdogjaaZ2
import Derived.BigQuiet
import Derived.Deep.QuietTactic
set_option linter.unusedVariables false
set_option linter.unusedSimpArgs false
set_option linter.unusedSectionVars false
namespace Go.Proofs.Ytenngfkgfdogjaa
open Go.RowKit Go.Shelf

def dps (gs : List (Int × Int)) (j : Nat) : List Int := (List.range j).map (fun i => ((dep gs i : Nat) : Int))
theorem dps_len (gs : List (Int × Int)) (j : Nat) : (dps gs j).length = j := by simp [dps]
theorem dps_succ (gs : List (Int × Int)) (j : Nat) : dps gs (j + 1) = dps gs j ++ [((dep gs j : Nat) : Int)] := by simp [dps, List.range_succ]
theorem dps_get (gs : List (Int × Int)) {i j : Nat} (h : i < j) : (dps gs j)[i]? = some ((dep gs i : Nat) : Int) := by simp [dps, h]

set_option maxRecDepth 100000 in
set_option maxHeartbeats 2000000 in
theorem rcheck_ok (w : World) (v : Value) (gs : List (Int × Int)) (hv : EV encG 2 w v gs) (hlen : gs.length ≤ 100000) :
    Calls Try.prog 123 #[v] w fun e w' => e = .returned (.tuple #[.int .i64 (checkG gs).1, .int .i64 (checkG gs).2]) ∧ Below w.heap.size w w' := by
  by_cases h256 : 256 < gs.length
  · obtain ⟨A, c, rfl⟩ := hv.shape
    have e : checkG gs = (-1, 5) := by unfold checkG; rw [if_pos h256]
    rw [e]
    clear hv e
    go_enter Try.func123, Try.ntmps123
    go_wp2
    go_ret2
    exact ⟨rfl, Below.refl _ _⟩
  · rcases Nat.eq_zero_or_pos gs.length with h0 | h0
    · obtain rfl : gs = [] := List.eq_nil_of_length_eq_zero h0
      obtain ⟨A, c, rfl⟩ := hv.shape
      clear hv h0 hlen h256
      go_enter Try.func123, Try.ntmps123
      go_wp2
      go_ret2
      exact ⟨rfl, Below.refl _ _⟩
    · obtain ⟨b, off, c, rfl, hc, hr⟩ := hv.row h0
      obtain ⟨g0, hg0⟩ : ∃ g0, gs[0]? = some g0 := ⟨_, List.getElem?_eq_getElem h0⟩
      obtain ⟨c0, c1⟩ := hr.grp hg0
      have HR := Lib.hid hr
      have HG0 := Lib.hid hg0
      clear hr hg0 hv
      obtain ⟨p0, q0⟩ := g0
      simp only [Nat.zero_mul, Nat.add_zero] at c0 c1
      have k1 : decide ((256 : Int) < (gs.length : Int)) = false := by simp; omega
      have k2 : ((gs.length : Int) == 0) = false := by simp; intro h; rw [h] at h0; simp at h0
      by_cases hroot : p0 = 0 ∧ q0 = 1
      · obtain ⟨rfl, rfl⟩ := hroot
        have e : checkG gs = chkF gs (gs.length - 1) 1 := by unfold checkG; rw [if_neg h256, if_neg (by simp [HG0.out])]
        rw [e]
        clear e h256
        go_enter Try.func123, Try.ntmps123
        go_wp2
        go_loopg [4, 5] gs.length (fun k l i wr => ∃ j : Nat, j + k = gs.length ∧ i = .int .i64 j ∧ OV encI 1 3 w.heap.size wr l (dps gs j) ∧ Below w.heap.size w wr ∧ (1 ≤ j → chkF gs (gs.length - 1) 1 = chkF gs (gs.length - j) j) ∧ Bef gs j)
        case atStart => exact ⟨0, by omega, rfl, OV.nil _ _, Below.refl _ _, by omega, fun i h1 h2 => by omega⟩
        case round =>
          obtain ⟨j, hj3, rfl, ho, hb, hch, hbef⟩ := hrel
          have HJ := Lib.hid hj3
          have HB := Lib.hid hb
          have HO := Lib.hid ho
          have hsz := hb.size
          have HC := Lib.hid hch
          have HF := Lib.hid hbef
          have hdl := dps_len gs j
          have HDL := Lib.hid hdl
          clear hj3 hb hch hbef c0 c1 k1 k2 hdl
          by_cases hlt : j < gs.length
          · rcases Nat.eq_zero_or_pos j with hj0 | hj0
            · have hj0' : ((j : Int) == 0) = true := by simp; omega
              have HJ0 := Lib.hid hj0
              clear hj0
              go_wp2_with (at_builtin; refine wpList_app elemI encI_len encI_one rfl _ _ rfl _ _ rfl rfl (HO.out.alloc _) (new_one (z := 0)) ?q1 ?q2 ?_)
              case q1 => rw [HDL.out]; simp; omega
              case q2 => simp; omega
              intro v' w2 ho2 hg2
              have hb2 : Below w.heap.size w w2 := (HB.out.alloc hsz _).grown hg2 (by simp; omega) (fun k hk => (HO.out.block k hk).1)
              clear hg2
              go_wp2
              go_roundg (gk - 1)
              case measure => have := HJ.out; omega
              case rel =>
                have e0 := HJ0.out
                subst e0
                exact ⟨1, by have := HJ.out; omega, by go_num, ho2, hb2, fun _ => rfl, fun i h1 h2 => by omega⟩
            · have hj0' : ((j : Int) == 0) = false := by simp; omega
              obtain ⟨⟨p, q⟩, hg⟩ : ∃ g, gs[j]? = some g := ⟨_, List.getElem?_eq_getElem hlt⟩
              have hr' := HR.out.below HB.out
              obtain ⟨d0, d1⟩ := hr'.grp hg
              have hp := par_get hg
              have hq := wgt_get hg
              dsimp only at d0 d1 hp hq
              have hbl : b < wr.heap.size := cell_lt d0
              have HP := Lib.hid hp
              have HQ := Lib.hid hq
              have HR' := Lib.hid hr'
              clear hp hq hg hr'
              have step : ∀ f, gs.length - j = f + 1 → chkF gs (gs.length - j) j = if par gs j < 0 ∨ (j : Int) ≤ par gs j then ((j : Int), (191 : Int))
                  else if wB (wgt gs j) = false then (j, 192) else if 4 < dep gs j then (j, 193) else chkF gs f (j + 1) := fun f hf => by rw [hf]; rfl
              have ST := Lib.hid (step (gs.length - j - 1) (by omega))
              clear step
              by_cases hbad : p < 0 ∨ (j : Int) ≤ p
              · have e : chkF gs (gs.length - 1) 1 = ((j : Int), 191) := by rw [HC.out hj0, ST.out, HP.out, if_pos hbad]
                have E := Lib.hid e
                clear e ho
                by_cases h : p < 0
                · clear hbad
                  go_wp2
                  go_ret2
                  exact ⟨ret_pair E.out, HB.out⟩
                · have h' : (j : Int) - 1 < p := by omega
                  clear hbad
                  go_wp2
                  go_ret2
                  exact ⟨ret_pair E.out, HB.out⟩
              · have h1 : ¬ p < 0 := fun h => hbad (.inl h)
                have h2 : ¬ (j : Int) - 1 < p := by omega
                have h2' : p < j := by omega
                have hbef : Bef gs (j + 1) := fun i h0 hi => by
                  rcases Nat.lt_or_ge i j with h | h
                  · exact HF.out i h0 h
                  · obtain rfl : i = j := by omega
                    rw [HP.out]; omega
                have hds := dep_succ hbef hj0 (by omega)
                rw [HP.out] at hds
                obtain ⟨pn, rfl⟩ := Int.eq_ofNat_of_zero_le (show 0 ≤ p by omega)
                rw [Int.toNat_natCast] at hds
                have HDS := Lib.hid hds
                have hpl := path_le hbef pn (by omega)
                have hdpl : dep gs pn ≤ pn := by unfold dep; omega
                have HF' := Lib.hid hbef
                have HN := Lib.hid hbad
                clear hbef hbad hds hpl
                by_cases hw : wB q = false
                · have e : chkF gs (gs.length - 1) 1 = ((j : Int), 192) := by rw [HC.out hj0, ST.out, HP.out, HQ.out, if_neg HN.out, if_pos hw]
                  have E := Lib.hid e
                  have hwt : q < 1 ∨ 65536 < q := by unfold wB at hw; simp at hw; omega
                  clear e hw ho
                  by_cases hw1 : q < 1
                  · clear hwt
                    go_wp2
                    go_ret2
                    exact ⟨ret_pair E.out, HB.out⟩
                  · have hw3 : 65536 < q := by omega
                    clear hwt
                    go_wp2
                    go_ret2
                    exact ⟨ret_pair E.out, HB.out⟩
                · have hwt : 1 ≤ q ∧ q ≤ 65536 := by unfold wB at hw; simpa using hw
                  obtain ⟨hw3, hw4⟩ := hwt
                  have HW := Lib.hid hw
                  clear hw
                  obtain ⟨bd, od, cd, hv, hcd, rd⟩ := (HO.out.ev encI_len).row (by rw [HDL.out]; omega)
                  subst hv
                  have cpn := rd pn _ (dps_get gs (by omega)) 0 _ rfl
                  simp only [Nat.mul_one, Nat.add_zero] at cpn
                  have HOL := Lib.hid HO.out
                  rw [HDL.out] at HOL ⊢
                  obtain ⟨dp, hdp⟩ : ∃ m, dep gs pn = m := ⟨_, rfl⟩
                  rw [hdp] at cpn hdpl
                  have HDP := Lib.hid hdp
                  have hdj : (dep gs j : Nat) = dp + 1 := by rw [HDS.out, hdp]
                  have HDJ := Lib.hid hdj
                  clear hdp rd ho hdj
                  go_wp2_with (at_builtin; refine wpList_app elemI encI_len encI_one rfl _ _ rfl _ _ rfl rfl (HOL.out.alloc _) (new_one (z := (dp : Int) + 1)) ?q1 ?q2 ?_)
                  case q1 => rw [HDL.out]; (try simp); omega
                  case q2 => (try simp); omega
                  intro v' w2 ho2 hg2
                  have hb2 : Below w.heap.size w w2 := (HB.out.alloc hsz _).grown hg2 (by first | omega | (simp; omega)) (fun k hk => (HOL.out.block k hk).1)
                  have e2 : dps gs (j + 1) = dps gs j ++ [(dp : Int) + 1] := by rw [dps_succ, HDJ.out]; simp
                  rw [← e2] at ho2
                  obtain ⟨g2, cg, hv', _, _⟩ := ho2.form (by rw [dps_len]; omega)
                  rw [dps_len] at hv'
                  subst hv'
                  have cj := (ho2.ev encI_len).row3 (by rw [dps_len]; omega) j _ (dps_get gs (by omega)) 0 _ rfl
                  simp only [Nat.mul_one, Nat.add_zero, Nat.zero_add] at cj
                  rw [HDJ.out] at cj
                  have HO2 := Lib.hid ho2
                  have HB2 := Lib.hid hb2
                  clear ho2 hg2 e2 hb2
                  by_cases h3 : 4 < dp + 1
                  · have e : chkF gs (gs.length - 1) 1 = ((j : Int), 193) := by rw [HC.out hj0, ST.out, HP.out, HQ.out, if_neg HN.out, if_neg HW.out, if_pos (by rw [HDJ.out]; exact h3)]
                    have E := Lib.hid e
                    clear e
                    go_wp2
                    go_ret2
                    exact ⟨ret_pair E.out, HB2.out⟩
                  · have e : chkF gs (gs.length - 1) 1 = chkF gs (gs.length - (j + 1)) (j + 1) := by
                      rw [HC.out hj0, ST.out, HP.out, HQ.out, if_neg HN.out, if_neg HW.out, if_neg (by rw [HDJ.out]; exact h3), show gs.length - j - 1 = gs.length - (j + 1) from by omega]
                    have E := Lib.hid e
                    clear e
                    go_wp2
                    go_roundg (gk - 1)
                    case measure => have := HJ.out; omega
                    case rel => exact ⟨j + 1, by have := HJ.out; omega, by go_num, HO2.out, HB2.out, fun _ => E.out, HF'.out⟩
          · have e : chkF gs (gs.length - 1) 1 = (-1, 0) := by
              rw [HC.out (by omega), show gs.length - j = 0 by omega]; rfl
            have E := Lib.hid e
            clear e ho
            go_wp2
            go_ret2
            exact ⟨ret_pair E.out, HB.out⟩
      · have e : checkG gs = (0, 190) := by unfold checkG; rw [if_neg h256, if_pos (by rw [HG0.out]; simp; intro h1 h2; exact hroot ⟨h1, h2⟩)]
        rw [e]
        clear e h256
        by_cases hp0 : p0 = 0
        · have hk : (p0 != 0) = false := by simp [hp0]
          have hk2 : (q0 != 1) = true := by simp; intro h; exact hroot ⟨hp0, h⟩
          clear hroot hp0
          go_enter Try.func123, Try.ntmps123
          go_wp2
          go_ret2
          exact ⟨rfl, Below.refl _ _⟩
        · have hk : (p0 != 0) = true := by simp [hp0]
          clear hroot hp0
          go_enter Try.func123, Try.ntmps123
          go_wp2
          go_ret2
          exact ⟨rfl, Below.refl _ _⟩

theorem rright_ok (w : World) (v : Value) (gs : List (Int × Int)) (hv : EV encG 2 w v gs) (hlen : gs.length ≤ 100000) :
    Calls Try.prog 99 #[v] w fun e w' => e = .returned (.bool (rightB gs)) ∧ Below w.heap.size w w' := by
  have H := Lib.hid (rcheck_ok w v gs hv hlen)
  have E := Lib.hid (show rightB gs = ((checkG gs).2 == 0) from rfl)
  go_enter Try.func99, Try.ntmps99
  go_wp2_with fail
  refine H.out.mono ?_
  rintro e w' ⟨rfl, hb⟩
  have HB := Lib.hid hb
  clear H hb hv
  generalize (checkG gs).1 = c1
  generalize (checkG gs).2 = c2 at E ⊢
  go_wp2
  go_ret
  exact ⟨ret_bool E.out.symm, HB.out⟩

theorem wrong_ok (w : World) (v : Value) (gs : List (Int × Int)) (z : Int) (hv : EV encG 2 w v gs) (hlen : gs.length ≤ 100000) :
    Calls Try.prog 122 #[v, .int .i64 z] w fun e w' => e = .returned (.int .i64 (thereZ gs [z])) ∧ Below w.heap.size w w' := by
  obtain ⟨A, c, rfl⟩ := hv.shape
  have H := Lib.hid (rright_ok w _ gs hv hlen)
  cases hr : rightB gs with
  | false =>
    have e : thereZ gs [z] = 194 := by unfold thereZ; rw [if_pos hr]
    rw [hr] at H
    rw [e]
    clear hr e hv
    go_enter Try.func122, Try.ntmps122
    go_wp2_with fail
    refine H.out.mono ?_
    rintro e w' ⟨rfl, hb⟩
    go_wp2
    go_ret
    exact ⟨rfl, hb⟩
  | true =>
    rw [hr] at H
    by_cases hz : z < 0 ∨ (gs.length : Int) ≤ z
    · have e : thereZ gs [z] = 2 := by unfold thereZ; rw [if_neg (by simp [hr]), if_pos (by simp [outB]; exact hz)]
      rw [e]
      clear hr e hv
      by_cases hz0 : z < 0
      · clear hz
        go_enter Try.func122, Try.ntmps122
        go_wp2_with fail
        refine H.out.mono ?_
        rintro e w' ⟨rfl, hb⟩
        go_wp2
        go_ret
        exact ⟨rfl, hb⟩
      · have hz1 : (gs.length : Int) ≤ z := by omega
        clear hz
        go_enter Try.func122, Try.ntmps122
        go_wp2_with fail
        refine H.out.mono ?_
        rintro e w' ⟨rfl, hb⟩
        go_wp2
        go_ret
        exact ⟨rfl, hb⟩
    · have e : thereZ gs [z] = 0 := by unfold thereZ; rw [if_neg (by simp [hr]), if_neg (by simp [outB]; omega)]
      rw [e]
      have hz1 : ¬ z < 0 := by omega
      have hz2 : z < (gs.length : Int) := by omega
      clear hr e hv hz
      go_enter Try.func122, Try.ntmps122
      go_wp2_with fail
      refine H.out.mono ?_
      rintro e w' ⟨rfl, hb⟩
      go_wp2
      go_ret
      exact ⟨rfl, hb⟩
end Go.Proofs.Ytenngfkgfdogjaa
namespace Go.Proofs.Ytenngfkgfdogjaa
open Go.RowKit Go.Shelf
theorem ints_append (a b : List Nat) : ints (a ++ b) = ints a ++ ints b := by simp [ints]

set_option maxHeartbeats 1000000 in
theorem rpath_ok (w : World) (v : Value) (gs : List (Int × Int)) (z : Int) (hv : EV encG 2 w v gs) (hlen : gs.length ≤ 100000) :
    Calls Try.prog 121 #[v, .int .i64 z] w fun e w' => ∃ r, e = .returned (.tuple #[r, .int .i64 (thereZ gs [z])]) ∧ OV encI 1 3 w.heap.size w' r (pathL gs z) ∧ Below w.heap.size w w' := by
  have HT := Lib.hid (wrong_ok w v gs z hv hlen)
  by_cases ht : thereZ gs [z] = 0
  · have hd : pathL gs z = ints (path gs z.toNat) := if_pos ht
    obtain ⟨hok, hz⟩ := there_zero.1 ht
    obtain ⟨hz1, hz2⟩ := hz z (by simp)
    obtain ⟨g, rfl⟩ := Int.eq_ofNat_of_zero_le hz1
    rw [Int.toNat_natCast] at hd
    obtain ⟨b, off, c, rfl, hc, hr⟩ := hv.row hok.pos
    have hg : g < gs.length := by omega
    have HU := Lib.hid (path_up hok.bef (Nat.le_refl _) g hg)
    have hh := path_head hok.bef hg
    have hpl := path_le hok.bef g hg
    have hpp := path_len_pos hok.bef hg
    have HR := Lib.hid hr
    rw [ht] at HT
    rw [ht, hd]
    clear hv hr hz hz1 hd ht hok
    generalize path gs g = p at *
    have HH := Lib.hid hh
    clear hh
    go_enter Try.func121, Try.ntmps121
    go_wp2_with fail
    refine HT.out.mono ?_
    rintro e w1 ⟨rfl, b1⟩
    have s1 := b1.size
    have o1 : OV encI 1 3 w.heap.size (w1.alloc (.cells #[.int .i64 g] 3)) (.slice (some ⟨w1.heap.size, 0, none⟩) 1 1) (ints (p.take 1)) := by
      have : ints (p.take 1) = [(g : Int)] := by
        have h := HH.out
        cases p with
        | nil => simp at h
        | cons a r => simp at h; subst h; simp [ints]
      rw [this]
      exact OV.lit _ _ 1 s1 (by decide) rfl rfl rfl
    have c1 := b1.alloc s1 (.cells #[.int .i64 g] 3)
    clear b1
    go_wp2_with fail
    generalize w1.alloc _ = w2 at o1 c1 ⊢
    generalize w1.heap.size = m1 at o1 ⊢
    go_loopg [7] p.length (fun k v wr => ∃ i : Nat, i + k = p.length ∧ i < p.length ∧ OV encI 1 3 w.heap.size wr v (ints (p.take (i + 1))) ∧ Below w.heap.size w wr)
    case atStart => exact ⟨0, by omega, by omega, o1, c1⟩
    case round =>
      obtain ⟨i, hi, hi2, ho, hb⟩ := hrel
      have HI := Lib.hid hi
      have HO := Lib.hid ho
      have HB := Lib.hid hb
      have hsz := hb.size
      have hl : (ints (p.take (i + 1))).length = i + 1 := by simp [ints]; omega
      have HL := Lib.hid hl
      obtain ⟨gv, cv, hvv, _, _⟩ := ho.form (by omega)
      rw [hl] at hvv
      subst hvv
      obtain ⟨x, hx⟩ : ∃ x, p[i]? = some x := ⟨_, List.getElem?_eq_getElem hi2⟩
      obtain ⟨hx1, hx2, hx3⟩ := HU.out i x hx
      have cx := (ho.ev encI_len).row3 (by omega) i (x : Int) (by simp [ints, List.getElem?_take, hx]) 0 _ rfl
      simp only [Nat.mul_one, Nat.add_zero, Nat.zero_add] at cx
      clear hi ho hb hl o1 c1
      by_cases h0 : 0 < x
      · obtain ⟨hp1, hp2, hp3⟩ := hx3 h0
        obtain ⟨⟨y, q⟩, hgx⟩ : ∃ r, gs[x]? = some r := ⟨_, List.getElem?_eq_getElem hx1⟩
        have hpy := par_get hgx
        dsimp only at hpy
        rw [hpy] at hp1 hp2 hp3
        obtain ⟨cy, _⟩ := (HR.out.below HB.out).grp hgx
        dsimp only at cy
        have hi3 := (List.getElem?_eq_some_iff.1 hp1).1
        have HS := Lib.hid (show ints (p.take (i + 1 + 1)) = ints (p.take (i + 1)) ++ [y] from by
          rw [List.take_add_one, hp1, ints_append]; simp [ints]; omega)
        clear hx hx2 hx3 hp1 hpy hgx
        go_wp2_with (at_builtin; refine wpList_app elemI encI_len encI_one rfl _ _ rfl _ _ rfl rfl (HO.out.alloc _) (new_one (z := y)) ?q1 ?q2 ?_)
        case q1 => rw [HL.out]; (try simp); omega
        case q2 => (try simp); omega
        intro v' w3 o3 g3
        rw [← HS.out] at o3
        have b3 : Below w.heap.size w w3 := (HB.out.alloc hsz _).grown g3 (by first | omega | (simp; omega)) (fun k hk => (HO.out.block k hk).1)
        clear g3
        go_wp2
        go_roundg (gk - 1)
        case measure => have := HI.out; omega
        case rel => exact ⟨i + 1, by have := HI.out; omega, hi3, o3, b3⟩
      · obtain rfl : x = 0 := by omega
        have he := hx2 rfl
        have HO2 := Lib.hid HO.out
        rw [List.take_of_length_le (by omega)] at HO2
        clear hx hx2 hx3 hx1 he
        go_wp2
        go_ret2
        exact ⟨_, rfl, HO2.out, HB.out⟩
  · have hd : pathL gs z = [] := if_neg ht
    rw [hd]
    have hne : (thereZ gs [z] != 0) = true := by simpa using ht
    clear ht hd hv
    generalize thereZ gs [z] = e0 at *
    obtain ⟨e1, he1⟩ : ∃ e1, e0 = e1 := ⟨_, rfl⟩
    clear he1
    go_enter Try.func121, Try.ntmps121
    go_wp2_with fail
    refine HT.out.mono ?_
    rintro e w1 ⟨rfl, b1⟩
    go_wp2
    go_ret2
    exact ⟨_, rfl, OV.nil _ _, b1⟩

set_option maxHeartbeats 1000000 in
theorem rchildren_ok (w : World) (v : Value) (gs : List (Int × Int)) (z : Int) (hv : EV encG 2 w v gs) (hlen : gs.length ≤ 100000) :
    Calls Try.prog 98 #[v, .int .i64 z] w fun e w' => ∃ r, e = .returned (.tuple #[r, .int .i64 (thereZ gs [z])]) ∧ OV encI 1 3 w.heap.size w' r (childL gs z) ∧ Below w.heap.size w w' := by
  have HT := Lib.hid (wrong_ok w v gs z hv hlen)
  by_cases ht : thereZ gs [z] = 0
  · have hd : childL gs z = chosen (childB gs z.toNat) gs.length := if_pos ht
    obtain ⟨hok, hz⟩ := there_zero.1 ht
    obtain ⟨hz1, hz2⟩ := hz z (by simp)
    obtain ⟨g, rfl⟩ := Int.eq_ofNat_of_zero_le hz1
    rw [Int.toNat_natCast] at hd
    obtain ⟨b, off, c, rfl, hc, hr⟩ := hv.row hok.pos
    have hpos := hok.pos
    have HR := Lib.hid hr
    have hc1 : chosen (childB gs g) 1 = [] := by simp [chosen, childB, ints]
    have HC1 := Lib.hid hc1
    rw [ht] at HT
    rw [ht, hd]
    clear hv hr hz hz1 hd ht hok hc1
    go_enter Try.func98, Try.ntmps98
    go_wp2_with fail
    refine HT.out.mono ?_
    rintro e w1 ⟨rfl, b1⟩
    go_wp2_with fail
    go_loopg [7, 8] gs.length (fun k v i wr => ∃ x : Nat, 1 ≤ x ∧ x + k = gs.length + 1 ∧ x ≤ gs.length ∧ i = .int .i64 x ∧ OV encI 1 3 w.heap.size wr v (chosen (childB gs g) x) ∧ Below w.heap.size w wr)
    case atStart => exact ⟨1, by omega, by omega, by omega, rfl, by rw [HC1.out]; exact OV.nil _ _, b1⟩
    case round =>
      obtain ⟨x, hx0, hxk, hxl, rfl, ho, hb⟩ := hrel
      have HX := Lib.hid hxk
      have HO := Lib.hid ho
      have HB := Lib.hid hb
      have hsz := hb.size
      have hcl := chosen_len (childB gs g) x
      have HCL := Lib.hid hcl
      clear hxk ho hb hcl b1
      by_cases hlt : x < gs.length
      · obtain ⟨⟨y, q⟩, hgx⟩ : ∃ r, gs[x]? = some r := ⟨_, List.getElem?_eq_getElem hlt⟩
        have hpy := par_get hgx
        dsimp only at hpy
        obtain ⟨cy, _⟩ := (HR.out.below HB.out).grp hgx
        dsimp only at cy
        by_cases hyg : y = (g : Int)
        · have hye : (y == (g : Int)) = true := by simpa using hyg
          have HS := Lib.hid (show chosen (childB gs g) (x + 1) = chosen (childB gs g) x ++ [(x : Int)] from by
            rw [chosen_succ, if_pos (by unfold childB; rw [hpy, hyg]; simp; omega)])
          subst hyg
          clear hgx hpy
          go_wp2_with (at_builtin; refine wpList_app elemI encI_len encI_one rfl _ _ rfl _ _ rfl rfl (HO.out.alloc _) (new_one (z := (x : Int))) ?q1 ?q2 ?_)
          case q1 => have := HCL.out; (try simp); omega
          case q2 => (try simp); omega
          intro v' w3 o3 g3
          rw [← HS.out] at o3
          have b3 : Below w.heap.size w w3 := (HB.out.alloc hsz _).grown g3 (by first | omega | (simp; omega)) (fun k hk => (HO.out.block k hk).1)
          clear g3
          go_wp2
          go_roundg (gk - 1)
          case measure => have := HX.out; omega
          case rel => exact ⟨x + 1, by omega, by have := HX.out; omega, by omega, by go_num, o3, b3⟩
        · have hye : (y == (g : Int)) = false := by simpa using hyg
          have HS := Lib.hid (show chosen (childB gs g) (x + 1) = chosen (childB gs g) x from by
            rw [chosen_succ, if_neg (by unfold childB; rw [hpy]; simp [hyg])]; simp)
          clear hgx hpy hyg
          go_wp2
          go_roundg (gk - 1)
          case measure => have := HX.out; omega
          case rel => exact ⟨x + 1, by omega, by have := HX.out; omega, by omega, by go_num, by rw [HS.out]; exact HO.out, HB.out⟩
      · obtain rfl : x = gs.length := by omega
        go_wp2
        go_ret2
        exact ⟨_, rfl, HO.out, HB.out⟩
  · have hd : childL gs z = [] := if_neg ht
    rw [hd]
    have hne : (thereZ gs [z] != 0) = true := by simpa using ht
    clear ht hd hv
    generalize thereZ gs [z] = e0 at *
    go_enter Try.func98, Try.ntmps98
    go_wp2_with fail
    refine HT.out.mono ?_
    rintro e w1 ⟨rfl, b1⟩
    go_wp2
    go_ret2
    exact ⟨_, rfl, OV.nil _ _, b1⟩

end Go.Proofs.Ytenngfkgfdogjaa
namespace Go.Proofs.Ytenngfkgfdogjaa
open Go Go.RowKit Go.Shelf
attribute [local go_sem] Oper.semAt_some

set_option maxRecDepth 100000 in
set_option maxHeartbeats 3200000 in
theorem rshaped_t11 (w wc : World) (B : Nat) (c : StC) (s : St) {u0 u2 u4 u5 u6 u7 u8 u9 u10 u11 u12 u13 u14 u15 u16 u17 u18 u19 u20 u21 u22 u23 u24 u25 u26 u27 u28 u29 u30 u31 u32 u33 u34 u35 u36 u37 u38 u39 u40 u41 u42 u43 u44 u45 u46 u47 u48 u49 u50 u51 u52 u53 u54 u55 u56 u57 u58 u59 u60 u61 u62 u63 u64 u65 u66 u67 u68 u69 u70 u71 u72 u73 u74 u75 u76 u77 u78 u79 u80 u81 u82 u83 u84 u85 u86 u87 u88 u89 u90 u91 u92 u93 u94 u95 u96 u97 u98 u99 u100 u101 u102 u103 u104 u105 u106 u107 u108 u109 u110 u111 u112 u113 u114 u115 u116 u117 u118 u119 u120 u121 u122 u123 u124 u125 u126 u127 u128 : Value} (h : StAt wc c s) (hB : StBox wc B c s) (hb : Below w.heap.size w wc) (n1 : 1 ≤ s.n) (n2 : s.n ≤ 64) (hg : s.gs.length ≤ 256) (ht : s.ts.length ≤ 1000000)
    (hE : shapedB s = tksOk s.n s.gs.length 0 s.ts) :
    Code.wp Try.prog (tailR Try.f69 11) (bodyPost Try.prog Try.f69 fun e w' => e = .returned (.bool (shapedB s)) ∧ Below w.heap.size w w')
      ⟨#[u0, .pointer (some ⟨B, 0, none⟩), u2, .int .i64 s.n, u4, u5, u6, u7, u8, u9, u10, u11, u12, u13, u14, u15, u16, u17, u18, u19, u20, u21, u22, u23, u24, u25, u26, u27, u28, u29, u30, u31, u32, u33, u34, u35, u36, u37, u38, u39, u40, u41, u42, u43, u44, u45, u46, u47, u48, u49, u50, u51, u52, u53, u54, u55, u56, u57, u58, u59, u60, u61, u62, u63, u64, u65, u66, u67, u68, u69, u70, u71, u72, u73, u74, u75, u76, u77, u78, u79, u80, u81, u82, u83, u84, u85, u86, u87, u88, u89, u90, u91, u92, u93, u94, u95, u96, u97, u98, u99, u100, u101, u102, u103, u104, u105, u106, u107, u108, u109, u110, u111, u112, u113, u114, u115, u116, u117, u118, u119, u120, u121, u122, u123, u124, u125, u126, u127, u128], []⟩ wc := by
  conv => arg 2; whnf
  conv => arg 4; dsimp only
  have sc := hb.size
  obtain ⟨Ag, cg, hvg⟩ := h.eg.shape
  obtain ⟨At, ct, hvt⟩ := h.et.shape
  have HT := Lib.hid h.et
  have HBX := Lib.hid hB
  have HB := Lib.hid hb
  have HE := Lib.hid hE
  have HVG := Lib.hid hvg
  have HVT := Lib.hid hvt
  clear h hB hb hE hvg hvt
  obtain ⟨L, hL⟩ : ∃ L, s.ts.length = L := ⟨_, rfl⟩
  have HL := Lib.hid hL
  rw [hL] at ht HVT
  clear hL
  go_wp2
  go_loopg [5] L (fun k i wr => ∃ (j : Nat) (lv : Int), j + k = L ∧ i = .int .i64 j ∧ 0 ≤ lv ∧ lv ≤ 65535 ∧ (j = 0 → lv = 0) ∧ (0 < j → ∃ p, s.ts[j - 1]? = some p ∧ p.id = lv ∧ 1 ≤ lv) ∧ shapedB s = tksOk s.n s.gs.length lv (s.ts.drop j) ∧ Below wc.heap.size wc wr)
  case atStart => exact ⟨0, 0, by omega, rfl, by omega, by omega, fun _ => rfl, fun h => by omega, HE.out, Below.refl _ _⟩
  case round =>
    obtain ⟨j, lv, hj, rfl, hl0, hl1, hj0, hjp, her, hbr⟩ := hrel
    have HJ := Lib.hid hj
    have HJ0 := Lib.hid hj0
    have HJP := Lib.hid hjp
    have HER := Lib.hid her
    have HBR := Lib.hid hbr
    have sr := hbr.size
    obtain ⟨b0, b1, b2, b3, b4, b5, b6⟩ := (HBX.out.below hbr).cell
    rw [HVG.out] at b2
    rw [HVT.out] at b5
    clear hj hj0 hjp her hbr b0 b1 b3 b4 b6
    by_cases hlt : j < L
    · have hd : decide ((j : Int) < (L : Int)) = true := by rw [decide_eq_true_eq]; omega
      obtain ⟨t, ht⟩ : ∃ t, s.ts[j]? = some t := ⟨_, List.getElem?_eq_getElem (by rw [HL.out]; omega)⟩
      obtain ⟨b, off, c', hv, _, hr⟩ := (HT.out.below HBR.out).row (by rw [HL.out]; omega)
      rw [HVT.out] at hv
      simp only [Value.slice.injEq] at hv
      obtain ⟨rfl, hz, rfl⟩ := hv
      clear hz
      obtain ⟨c0, c1, c2, c3, c4, c5, c6, c7⟩ := hr.tk ht
      have HR := Lib.hid hr
      clear hr
      go_upto_region 15 with fail
      obtain ⟨d0, d1, d2, d3, _⟩ := (show ER encT 8 (wr.alloc (.cells #[.int .i64 t.id, .int .i64 t.g, .int .i64 t.wt, .int .i64 t.cpu, .int .u64 t.mask, .bool t.rdy, .int .u64 t.v, .int .u32 t.r] 61)) wr.heap.size 0 [t] from ((EV.newL (xs := [t]) (n := 1) (c := 1) encT_len rfl rfl (Nat.le_refl _)).row3 (by simp))).tk (i := 0) rfl
      simp only [Nat.zero_mul, Nat.zero_add] at d0 d1 d2 d3
      have HB2 := Lib.hid (HBR.out.trans ((bel_alloc wr (.cells #[.int .i64 t.id, .int .i64 t.g, .int .i64 t.wt, .int .i64 t.cpu, .int .u64 t.mask, .bool t.rdy, .int .u64 t.v, .int .u32 t.r] 61)).mono sr))
      have HR2 := Lib.hid (HR.out.below (bel_alloc wr (.cells #[.int .i64 t.id, .int .i64 t.g, .int .i64 t.wt, .int .i64 t.cpu, .int .u64 t.mask, .bool t.rdy, .int .u64 t.v, .int .u32 t.r] 61)))
      obtain ⟨_, _, e2, _, _, e5, _⟩ := (HBX.out.below HB2.out).cell
      rw [HVG.out] at e2
      rw [HVT.out] at e5
      have TD := Lib.hid (tks_drop (n := s.n) (G := s.gs.length) (last := lv) ht)
      clear b2 b5 c0 c1 c2 c3 c4 c5 c6 c7 HR
      generalize wr.alloc (.cells #[.int .i64 t.id, .int .i64 t.g, .int .i64 t.wt, .int .i64 t.cpu, .int .u64 t.mask, .bool t.rdy, .int .u64 t.v, .int .u32 t.r] 61) = w1 at d0 d1 d2 d3 HB2 HR2 e2 e5 ⊢
      obtain ⟨P, hP⟩ : ∃ P, wr.heap.size = P := ⟨_, rfl⟩
      rw [hP] at d0 d1 d2 d3 ⊢
      clear hP
      have FIN := Lib.hid (fun (x : Bool) (hx : tkOk s.n s.gs.length lv t = x) => (by rw [HER.out, TD.out, hx] : shapedB s = (x && tksOk s.n s.gs.length t.id (s.ts.drop (j + 1)))))
      have HT1 := Lib.hid ht
      clear ht
      have hw1 := HB2.out.size
      have ID := Lib.hid (fun h : tkOk s.n s.gs.length lv t = true => (tkOk_iff.1 h).1)
      by_cases hid1 : t.id < 1
      · have X := Lib.hid (FIN.out false (by unfold tkOk; have : inB t.id (lv + 1) 65535 = false := by (rw [Bool.eq_false_iff, ne_eq, inB_iff]; omega)
                                             rw [this]; rfl))
        clear FIN
        go_quiet (fail)
        go_wp2
        go_ret
        exact ⟨ret_bool X.out.symm, HB.out.trans ((below_drewN HB2.out _).mono sc)⟩
      by_cases hid2 : 65535 < t.id
      · have X := Lib.hid (FIN.out false (by unfold tkOk; have : inB t.id (lv + 1) 65535 = false := by (rw [Bool.eq_false_iff, ne_eq, inB_iff]; omega)
                                             rw [this]; rfl))
        clear FIN
        go_quiet (fail)
        go_wp2
        go_ret
        exact ⟨ret_bool X.out.symm, HB.out.trans ((below_drewN HB2.out _).mono sc)⟩
      rcases Nat.eq_zero_or_pos j with hj00 | hj00
      · have hlv := HJ0.out hj00
        have dj : decide (0 < (j : Int)) = false := by simp; omega
        go_quiet (fail)
        by_cases hok : tkOk s.n s.gs.length lv t = true
        · have X := Lib.hid (FIN.out true hok)
          obtain ⟨i1, i2, i3, i4⟩ := tkOk_iff.1 hok
          clear FIN hok
          have q1 : decide (t.g < 0) = false := by simp; omega
          have q2 : decide ((s.gs.length : Int) ≤ t.g) = false := by simp; omega
          have q3 : decide (t.wt < 1) = false := by simp; omega
          have q4 : decide (65536 < t.wt) = false := by simp; omega
          have q5 : decide (t.cpu < 0) = false := by simp; omega
          have q6 : decide (s.n ≤ t.cpu) = false := by simp; omega
          go_wp2
          go_roundg (gk - 1)
          case measure => have := HJ.out; omega
          case rel => exact ⟨j + 1, t.id, by have := HJ.out; omega, by go_num, by omega, by omega, fun h => by omega, fun _ => ⟨t, HT1.out, rfl, by omega⟩, by rw [X.out]; rfl, below_drewN HB2.out _⟩
        · have X := Lib.hid (FIN.out false (by simpa using hok))
          have hn : ¬ ((0 ≤ t.g ∧ t.g < s.gs.length) ∧ (1 ≤ t.wt ∧ t.wt ≤ 65536) ∧ 0 ≤ t.cpu ∧ t.cpu < s.n) := fun h => hok (tkOk_iff.2 ⟨by omega, by omega, by omega, by omega⟩)
          have HN := Lib.hid hn
          clear FIN hok hn
          by_cases q1 : t.g < 0
          · go_wp2
            go_ret
            exact ⟨ret_bool X.out.symm, HB.out.trans ((below_drewN HB2.out _).mono sc)⟩
          by_cases q2 : (s.gs.length : Int) ≤ t.g
          · go_wp2
            go_ret
            exact ⟨ret_bool X.out.symm, HB.out.trans ((below_drewN HB2.out _).mono sc)⟩
          by_cases q3 : t.wt < 1
          · go_wp2
            go_ret
            exact ⟨ret_bool X.out.symm, HB.out.trans ((below_drewN HB2.out _).mono sc)⟩
          by_cases q4 : 65536 < t.wt
          · go_wp2
            go_ret
            exact ⟨ret_bool X.out.symm, HB.out.trans ((below_drewN HB2.out _).mono sc)⟩
          by_cases q5 : t.cpu < 0
          · go_wp2
            go_ret
            exact ⟨ret_bool X.out.symm, HB.out.trans ((below_drewN HB2.out _).mono sc)⟩
          by_cases q6 : s.n ≤ t.cpu
          · go_wp2
            go_ret
            exact ⟨ret_bool X.out.symm, HB.out.trans ((below_drewN HB2.out _).mono sc)⟩
          exact absurd ⟨⟨by omega, by omega⟩, ⟨by omega, by omega⟩, by omega, by omega⟩ HN.out
      · obtain ⟨p, hp, hpl, hp1⟩ := HJP.out hj00
        obtain ⟨p0, _⟩ := HR2.out.tk hp
        have wj : IntKind.i64.wrap ((j : Int) - 1) = ((j - 1 : Nat) : Int) := by rw [IntWalk.i64_in _ (by omega)]; omega
        rw [hpl] at p0
        have dj : decide (0 < (j : Int)) = true := by simp; omega
        have HP := Lib.hid hp
        clear hp hpl
        by_cases hle : t.id ≤ lv
        · have X := Lib.hid (FIN.out false (by unfold tkOk; have : inB t.id (lv + 1) 65535 = false := by (rw [Bool.eq_false_iff, ne_eq, inB_iff]; omega)
                                               rw [this]; rfl))
          clear FIN
          go_quiet (fail)
          go_wp2
          go_ret
          exact ⟨ret_bool X.out.symm, HB.out.trans ((below_drewN HB2.out _).mono sc)⟩
        go_quiet (fail)
        by_cases hok : tkOk s.n s.gs.length lv t = true
        · have X := Lib.hid (FIN.out true hok)
          obtain ⟨i1, i2, i3, i4⟩ := tkOk_iff.1 hok
          clear FIN hok
          have q1 : decide (t.g < 0) = false := by simp; omega
          have q2 : decide ((s.gs.length : Int) ≤ t.g) = false := by simp; omega
          have q3 : decide (t.wt < 1) = false := by simp; omega
          have q4 : decide (65536 < t.wt) = false := by simp; omega
          have q5 : decide (t.cpu < 0) = false := by simp; omega
          have q6 : decide (s.n ≤ t.cpu) = false := by simp; omega
          go_wp2
          go_roundg (gk - 1)
          case measure => have := HJ.out; omega
          case rel => exact ⟨j + 1, t.id, by have := HJ.out; omega, by go_num, by omega, by omega, fun h => by omega, fun _ => ⟨t, HT1.out, rfl, by omega⟩, by rw [X.out]; rfl, below_drewN HB2.out _⟩
        · have X := Lib.hid (FIN.out false (by simpa using hok))
          have hn : ¬ ((0 ≤ t.g ∧ t.g < s.gs.length) ∧ (1 ≤ t.wt ∧ t.wt ≤ 65536) ∧ 0 ≤ t.cpu ∧ t.cpu < s.n) := fun h => hok (tkOk_iff.2 ⟨by omega, by omega, by omega, by omega⟩)
          have HN := Lib.hid hn
          clear FIN hok hn
          by_cases q1 : t.g < 0
          · go_wp2
            go_ret
            exact ⟨ret_bool X.out.symm, HB.out.trans ((below_drewN HB2.out _).mono sc)⟩
          by_cases q2 : (s.gs.length : Int) ≤ t.g
          · go_wp2
            go_ret
            exact ⟨ret_bool X.out.symm, HB.out.trans ((below_drewN HB2.out _).mono sc)⟩
          by_cases q3 : t.wt < 1
          · go_wp2
            go_ret
            exact ⟨ret_bool X.out.symm, HB.out.trans ((below_drewN HB2.out _).mono sc)⟩
          by_cases q4 : 65536 < t.wt
          · go_wp2
            go_ret
            exact ⟨ret_bool X.out.symm, HB.out.trans ((below_drewN HB2.out _).mono sc)⟩
          by_cases q5 : t.cpu < 0
          · go_wp2
            go_ret
            exact ⟨ret_bool X.out.symm, HB.out.trans ((below_drewN HB2.out _).mono sc)⟩
          by_cases q6 : s.n ≤ t.cpu
          · go_wp2
            go_ret
            exact ⟨ret_bool X.out.symm, HB.out.trans ((below_drewN HB2.out _).mono sc)⟩
          exact absurd ⟨⟨by omega, by omega⟩, ⟨by omega, by omega⟩, by omega, by omega⟩ HN.out
    · have hd : decide ((j : Int) < (L : Int)) = false := by rw [decide_eq_false_iff_not]; omega
      have X := Lib.hid (show shapedB s = true from by rw [HER.out, List.drop_eq_nil_of_le (by rw [HL.out]; omega)]; rfl)
      clear HER
      go_wp2_with fail
      go_ret
      exact ⟨ret_bool X.out.symm, HB.out.trans (HBR.out.mono sc)⟩
end Go.Proofs.Ytenngfkgfdogjaa

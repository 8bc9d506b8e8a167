/- The reference of layer 19: has, Check, Right, wrong | The reference of layer 19: Path, Depth, Children, Under | A region that draws its order, by one step for each operation: those that write or make memory have an invariant that tells which of them are done | append(append([]T{}, xs...), ys...) in a region that draws its order: what is known between the steps | The reference of layer 28: Check, home, without | The reference of layer 28: Check, home | The reference of layer 28: above; ticks in memory. -/
import Derived.Test.YtaplangfppohdaaDoorZ31
import Derived.Test.YtaplangfppohdaaDoorZ1
import Derived.Test.YtaplangfppohdaaDoorZ2
import Derived.Test.YtaplangfppohdaaDoorZ5
import Derived.Test.YtaplangfppohdaaDoorZ6
import Derived.Test.YtaplangfppohdaaDoorZ20
set_option linter.unusedVariables false
set_option linter.unusedSimpArgs false
set_option linter.unusedSectionVars false
namespace Go.Proofs.YtaplangfppohdaaDoor
open Go.RowKit Go.Shelf

def dps (gs : List (Int × Int)) (j : Nat) : List Int := (List.range j).map (fun i => ((dep gs i : Nat) : Int))
theorem dps_len (gs : List (Int × Int)) (j : Nat) : (dps gs j).length = j := by simp [dps]
theorem dps_succ (gs : List (Int × Int)) (j : Nat) : dps gs (j + 1) = dps gs j ++ [((dep gs j : Nat) : Int)] := by simp [dps, List.range_succ]
theorem dps_get (gs : List (Int × Int)) {i j : Nat} (h : i < j) : (dps gs j)[i]? = some ((dep gs i : Nat) : Int) := by simp [dps, h]

set_option maxRecDepth 100000 in
set_option maxHeartbeats 2000000 in
theorem rcheck_ok (w : World) (v : Value) (gs : List (Int × Int)) (hv : EV encG 2 w v gs) (hlen : gs.length ≤ 100000) :
    Calls Tryd.prog 106 #[v] w fun e w' => e = .returned (.tuple #[.int .i64 (checkG gs).1, .int .i64 (checkG gs).2]) ∧ Below w.heap.size w w' := by
  by_cases h256 : 256 < gs.length
  · obtain ⟨A, c, rfl⟩ := hv.shape
    have e : checkG gs = (-1, 5) := by unfold checkG; rw [if_pos h256]
    rw [e]
    clear hv e
    go_enter Tryd.func106, Tryd.ntmps106
    go_wp2
    go_ret2
    exact ⟨rfl, Below.refl _ _⟩
  · rcases Nat.eq_zero_or_pos gs.length with h0 | h0
    · obtain rfl : gs = [] := List.eq_nil_of_length_eq_zero h0
      obtain ⟨A, c, rfl⟩ := hv.shape
      clear hv h0 hlen h256
      go_enter Tryd.func106, Tryd.ntmps106
      go_wp2
      go_ret2
      exact ⟨rfl, Below.refl _ _⟩
    · obtain ⟨b, off, c, rfl, hc, hr⟩ := hv.row h0
      obtain ⟨g0, hg0⟩ : ∃ g0, gs[0]? = some g0 := ⟨_, List.getElem?_eq_getElem h0⟩
      obtain ⟨c0, c1⟩ := hr.grp hg0
      have HR := Lib.hid hr
      have HG0 := Lib.hid hg0
      clear hr hg0 hv
      obtain ⟨p0, q0⟩ := g0
      simp only [Nat.zero_mul, Nat.add_zero] at c0 c1
      have k1 : decide ((256 : Int) < (gs.length : Int)) = false := by simp; omega
      have k2 : ((gs.length : Int) == 0) = false := by simp; intro h; rw [h] at h0; simp at h0
      by_cases hroot : p0 = 0 ∧ q0 = 1
      · obtain ⟨rfl, rfl⟩ := hroot
        have e : checkG gs = chkF gs (gs.length - 1) 1 := by unfold checkG; rw [if_neg h256, if_neg (by simp [HG0.out])]
        rw [e]
        clear e h256
        go_enter Tryd.func106, Tryd.ntmps106
        go_wp2
        go_loopg [4, 5] gs.length (fun k l i wr => ∃ j : Nat, j + k = gs.length ∧ i = .int .i64 j ∧ OV encI 1 3 w.heap.size wr l (dps gs j) ∧ Below w.heap.size w wr ∧ (1 ≤ j → chkF gs (gs.length - 1) 1 = chkF gs (gs.length - j) j) ∧ Bef gs j)
        case atStart => exact ⟨0, by omega, rfl, OV.nil _ _, Below.refl _ _, by omega, fun i h1 h2 => by omega⟩
        case round =>
          obtain ⟨j, hj3, rfl, ho, hb, hch, hbef⟩ := hrel
          have HJ := Lib.hid hj3
          have HB := Lib.hid hb
          have HO := Lib.hid ho
          have hsz := hb.size
          have HC := Lib.hid hch
          have HF := Lib.hid hbef
          have hdl := dps_len gs j
          have HDL := Lib.hid hdl
          clear hj3 hb hch hbef c0 c1 k1 k2 hdl
          by_cases hlt : j < gs.length
          · rcases Nat.eq_zero_or_pos j with hj0 | hj0
            · have hj0' : ((j : Int) == 0) = true := by simp; omega
              have HJ0 := Lib.hid hj0
              clear hj0
              go_wp2_with (at_builtin; refine wpList_app elemI encI_len encI_one rfl _ _ rfl _ _ rfl rfl (HO.out.alloc _) (new_one (z := 0)) ?q1 ?q2 ?_)
              case q1 => rw [HDL.out]; simp; omega
              case q2 => simp; omega
              intro v' w2 ho2 hg2
              have hb2 : Below w.heap.size w w2 := (HB.out.alloc hsz _).grown hg2 (by simp; omega) (fun k hk => (HO.out.block k hk).1)
              clear hg2
              go_wp2
              go_roundg (gk - 1)
              case measure => have := HJ.out; omega
              case rel =>
                have e0 := HJ0.out
                subst e0
                exact ⟨1, by have := HJ.out; omega, by go_num, ho2, hb2, fun _ => rfl, fun i h1 h2 => by omega⟩
            · have hj0' : ((j : Int) == 0) = false := by simp; omega
              obtain ⟨⟨p, q⟩, hg⟩ : ∃ g, gs[j]? = some g := ⟨_, List.getElem?_eq_getElem hlt⟩
              have hr' := HR.out.below HB.out
              obtain ⟨d0, d1⟩ := hr'.grp hg
              have hp := par_get hg
              have hq := wgt_get hg
              dsimp only at d0 d1 hp hq
              have hbl : b < wr.heap.size := cell_lt d0
              have HP := Lib.hid hp
              have HQ := Lib.hid hq
              have HR' := Lib.hid hr'
              clear hp hq hg hr'
              have step : ∀ f, gs.length - j = f + 1 → chkF gs (gs.length - j) j = if par gs j < 0 ∨ (j : Int) ≤ par gs j then ((j : Int), (191 : Int))
                  else if wB (wgt gs j) = false then (j, 192) else if 4 < dep gs j then (j, 193) else chkF gs f (j + 1) := fun f hf => by rw [hf]; rfl
              have ST := Lib.hid (step (gs.length - j - 1) (by omega))
              clear step
              by_cases hbad : p < 0 ∨ (j : Int) ≤ p
              · have e : chkF gs (gs.length - 1) 1 = ((j : Int), 191) := by rw [HC.out hj0, ST.out, HP.out, if_pos hbad]
                have E := Lib.hid e
                clear e ho
                by_cases h : p < 0
                · clear hbad
                  go_wp2
                  go_ret2
                  exact ⟨ret_pair E.out, HB.out⟩
                · have h' : (j : Int) - 1 < p := by omega
                  clear hbad
                  go_wp2
                  go_ret2
                  exact ⟨ret_pair E.out, HB.out⟩
              · have h1 : ¬ p < 0 := fun h => hbad (.inl h)
                have h2 : ¬ (j : Int) - 1 < p := by omega
                have h2' : p < j := by omega
                have hbef : Bef gs (j + 1) := fun i h0 hi => by
                  rcases Nat.lt_or_ge i j with h | h
                  · exact HF.out i h0 h
                  · obtain rfl : i = j := by omega
                    rw [HP.out]; omega
                have hds := dep_succ hbef hj0 (by omega)
                rw [HP.out] at hds
                obtain ⟨pn, rfl⟩ := Int.eq_ofNat_of_zero_le (show 0 ≤ p by omega)
                rw [Int.toNat_natCast] at hds
                have HDS := Lib.hid hds
                have hpl := path_le hbef pn (by omega)
                have hdpl : dep gs pn ≤ pn := by unfold dep; omega
                have HF' := Lib.hid hbef
                have HN := Lib.hid hbad
                clear hbef hbad hds hpl
                by_cases hw : wB q = false
                · have e : chkF gs (gs.length - 1) 1 = ((j : Int), 192) := by rw [HC.out hj0, ST.out, HP.out, HQ.out, if_neg HN.out, if_pos hw]
                  have E := Lib.hid e
                  have hwt : q < 1 ∨ 65536 < q := by unfold wB at hw; simp at hw; omega
                  clear e hw ho
                  by_cases hw1 : q < 1
                  · clear hwt
                    go_wp2
                    go_ret2
                    exact ⟨ret_pair E.out, HB.out⟩
                  · have hw3 : 65536 < q := by omega
                    clear hwt
                    go_wp2
                    go_ret2
                    exact ⟨ret_pair E.out, HB.out⟩
                · have hwt : 1 ≤ q ∧ q ≤ 65536 := by unfold wB at hw; simpa using hw
                  obtain ⟨hw3, hw4⟩ := hwt
                  have HW := Lib.hid hw
                  clear hw
                  obtain ⟨bd, od, cd, hv, hcd, rd⟩ := (HO.out.ev encI_len).row (by rw [HDL.out]; omega)
                  subst hv
                  have cpn := rd pn _ (dps_get gs (by omega)) 0 _ rfl
                  simp only [Nat.mul_one, Nat.add_zero] at cpn
                  have HOL := Lib.hid HO.out
                  rw [HDL.out] at HOL ⊢
                  obtain ⟨dp, hdp⟩ : ∃ m, dep gs pn = m := ⟨_, rfl⟩
                  rw [hdp] at cpn hdpl
                  have HDP := Lib.hid hdp
                  have hdj : (dep gs j : Nat) = dp + 1 := by rw [HDS.out, hdp]
                  have HDJ := Lib.hid hdj
                  clear hdp rd ho hdj
                  go_wp2_with (at_builtin; refine wpList_app elemI encI_len encI_one rfl _ _ rfl _ _ rfl rfl (HOL.out.alloc _) (new_one (z := (dp : Int) + 1)) ?q1 ?q2 ?_)
                  case q1 => rw [HDL.out]; (try simp); omega
                  case q2 => (try simp); omega
                  intro v' w2 ho2 hg2
                  have hb2 : Below w.heap.size w w2 := (HB.out.alloc hsz _).grown hg2 (by first | omega | (simp; omega)) (fun k hk => (HOL.out.block k hk).1)
                  have e2 : dps gs (j + 1) = dps gs j ++ [(dp : Int) + 1] := by rw [dps_succ, HDJ.out]; simp
                  rw [← e2] at ho2
                  obtain ⟨g2, cg, hv', _, _⟩ := ho2.form (by rw [dps_len]; omega)
                  rw [dps_len] at hv'
                  subst hv'
                  have cj := (ho2.ev encI_len).row3 (by rw [dps_len]; omega) j _ (dps_get gs (by omega)) 0 _ rfl
                  simp only [Nat.mul_one, Nat.add_zero, Nat.zero_add] at cj
                  rw [HDJ.out] at cj
                  have HO2 := Lib.hid ho2
                  have HB2 := Lib.hid hb2
                  clear ho2 hg2 e2 hb2
                  by_cases h3 : 4 < dp + 1
                  · have e : chkF gs (gs.length - 1) 1 = ((j : Int), 193) := by rw [HC.out hj0, ST.out, HP.out, HQ.out, if_neg HN.out, if_neg HW.out, if_pos (by rw [HDJ.out]; exact h3)]
                    have E := Lib.hid e
                    clear e
                    go_wp2
                    go_ret2
                    exact ⟨ret_pair E.out, HB2.out⟩
                  · have e : chkF gs (gs.length - 1) 1 = chkF gs (gs.length - (j + 1)) (j + 1) := by
                      rw [HC.out hj0, ST.out, HP.out, HQ.out, if_neg HN.out, if_neg HW.out, if_neg (by rw [HDJ.out]; exact h3), show gs.length - j - 1 = gs.length - (j + 1) from by omega]
                    have E := Lib.hid e
                    clear e
                    go_wp2
                    go_roundg (gk - 1)
                    case measure => have := HJ.out; omega
                    case rel => exact ⟨j + 1, by have := HJ.out; omega, by go_num, HO2.out, HB2.out, fun _ => E.out, HF'.out⟩
          · have e : chkF gs (gs.length - 1) 1 = (-1, 0) := by
              rw [HC.out (by omega), show gs.length - j = 0 by omega]; rfl
            have E := Lib.hid e
            clear e ho
            go_wp2
            go_ret2
            exact ⟨ret_pair E.out, HB.out⟩
      · have e : checkG gs = (0, 190) := by unfold checkG; rw [if_neg h256, if_pos (by rw [HG0.out]; simp; intro h1 h2; exact hroot ⟨h1, h2⟩)]
        rw [e]
        clear e h256
        by_cases hp0 : p0 = 0
        · have hk : (p0 != 0) = false := by simp [hp0]
          have hk2 : (q0 != 1) = true := by simp; intro h; exact hroot ⟨hp0, h⟩
          clear hroot hp0
          go_enter Tryd.func106, Tryd.ntmps106
          go_wp2
          go_ret2
          exact ⟨rfl, Below.refl _ _⟩
        · have hk : (p0 != 0) = true := by simp [hp0]
          clear hroot hp0
          go_enter Tryd.func106, Tryd.ntmps106
          go_wp2
          go_ret2
          exact ⟨rfl, Below.refl _ _⟩

theorem rright_ok (w : World) (v : Value) (gs : List (Int × Int)) (hv : EV encG 2 w v gs) (hlen : gs.length ≤ 100000) :
    Calls Tryd.prog 82 #[v] w fun e w' => e = .returned (.bool (rightB gs)) ∧ Below w.heap.size w w' := by
  have H := Lib.hid (rcheck_ok w v gs hv hlen)
  have E := Lib.hid (show rightB gs = ((checkG gs).2 == 0) from rfl)
  go_enter Tryd.func82, Tryd.ntmps82
  go_wp2_with fail
  refine H.out.mono ?_
  rintro e w' ⟨rfl, hb⟩
  have HB := Lib.hid hb
  clear H hb hv
  generalize (checkG gs).1 = c1
  generalize (checkG gs).2 = c2 at E ⊢
  go_wp2
  go_ret
  exact ⟨ret_bool E.out.symm, HB.out⟩

theorem wrong_ok (w : World) (v : Value) (gs : List (Int × Int)) (z : Int) (hv : EV encG 2 w v gs) (hlen : gs.length ≤ 100000) :
    Calls Tryd.prog 123 #[v, .int .i64 z] w fun e w' => e = .returned (.int .i64 (thereZ gs [z])) ∧ Below w.heap.size w w' := by
  obtain ⟨A, c, rfl⟩ := hv.shape
  have H := Lib.hid (rright_ok w _ gs hv hlen)
  cases hr : rightB gs with
  | false =>
    have e : thereZ gs [z] = 194 := by unfold thereZ; rw [if_pos hr]
    rw [hr] at H
    rw [e]
    clear hr e hv
    go_enter Tryd.func123, Tryd.ntmps123
    go_wp2_with fail
    refine H.out.mono ?_
    rintro e w' ⟨rfl, hb⟩
    go_wp2
    go_ret
    exact ⟨rfl, hb⟩
  | true =>
    rw [hr] at H
    by_cases hz : z < 0 ∨ (gs.length : Int) ≤ z
    · have e : thereZ gs [z] = 2 := by unfold thereZ; rw [if_neg (by simp [hr]), if_pos (by simp [outB]; exact hz)]
      rw [e]
      clear hr e hv
      by_cases hz0 : z < 0
      · clear hz
        go_enter Tryd.func123, Tryd.ntmps123
        go_wp2_with fail
        refine H.out.mono ?_
        rintro e w' ⟨rfl, hb⟩
        go_wp2
        go_ret
        exact ⟨rfl, hb⟩
      · have hz1 : (gs.length : Int) ≤ z := by omega
        clear hz
        go_enter Tryd.func123, Tryd.ntmps123
        go_wp2_with fail
        refine H.out.mono ?_
        rintro e w' ⟨rfl, hb⟩
        go_wp2
        go_ret
        exact ⟨rfl, hb⟩
    · have e : thereZ gs [z] = 0 := by unfold thereZ; rw [if_neg (by simp [hr]), if_neg (by simp [outB]; omega)]
      rw [e]
      have hz1 : ¬ z < 0 := by omega
      have hz2 : z < (gs.length : Int) := by omega
      clear hr e hv hz
      go_enter Tryd.func123, Tryd.ntmps123
      go_wp2_with fail
      refine H.out.mono ?_
      rintro e w' ⟨rfl, hb⟩
      go_wp2
      go_ret
      exact ⟨rfl, hb⟩
end Go.Proofs.YtaplangfppohdaaDoor
namespace Go.Proofs.YtaplangfppohdaaDoor
open Go.RowKit Go.Shelf
theorem ints_append (a b : List Nat) : ints (a ++ b) = ints a ++ ints b := by simp [ints]

set_option maxHeartbeats 1000000 in
theorem rpath_ok (w : World) (v : Value) (gs : List (Int × Int)) (z : Int) (hv : EV encG 2 w v gs) (hlen : gs.length ≤ 100000) :
    Calls Tryd.prog 110 #[v, .int .i64 z] w fun e w' => ∃ r, e = .returned (.tuple #[r, .int .i64 (thereZ gs [z])]) ∧ OV encI 1 3 w.heap.size w' r (pathL gs z) ∧ Below w.heap.size w w' := by
  have HT := Lib.hid (wrong_ok w v gs z hv hlen)
  by_cases ht : thereZ gs [z] = 0
  · have hd : pathL gs z = ints (path gs z.toNat) := if_pos ht
    obtain ⟨hok, hz⟩ := there_zero.1 ht
    obtain ⟨hz1, hz2⟩ := hz z (by simp)
    obtain ⟨g, rfl⟩ := Int.eq_ofNat_of_zero_le hz1
    rw [Int.toNat_natCast] at hd
    obtain ⟨b, off, c, rfl, hc, hr⟩ := hv.row hok.pos
    have hg : g < gs.length := by omega
    have HU := Lib.hid (path_up hok.bef (Nat.le_refl _) g hg)
    have hh := path_head hok.bef hg
    have hpl := path_le hok.bef g hg
    have hpp := path_len_pos hok.bef hg
    have HR := Lib.hid hr
    rw [ht] at HT
    rw [ht, hd]
    clear hv hr hz hz1 hd ht hok
    generalize path gs g = p at *
    have HH := Lib.hid hh
    clear hh
    go_enter Tryd.func110, Tryd.ntmps110
    go_wp2_with fail
    refine HT.out.mono ?_
    rintro e w1 ⟨rfl, b1⟩
    have s1 := b1.size
    have o1 : OV encI 1 3 w.heap.size (w1.alloc (.cells #[.int .i64 g] 3)) (.slice (some ⟨w1.heap.size, 0, none⟩) 1 1) (ints (p.take 1)) := by
      have : ints (p.take 1) = [(g : Int)] := by
        have h := HH.out
        cases p with
        | nil => simp at h
        | cons a r => simp at h; subst h; simp [ints]
      rw [this]
      exact OV.lit _ _ 1 s1 (by decide) rfl rfl rfl
    have c1 := b1.alloc s1 (.cells #[.int .i64 g] 3)
    clear b1
    go_wp2_with fail
    generalize w1.alloc _ = w2 at o1 c1 ⊢
    generalize w1.heap.size = m1 at o1 ⊢
    go_loopg [7] p.length (fun k v wr => ∃ i : Nat, i + k = p.length ∧ i < p.length ∧ OV encI 1 3 w.heap.size wr v (ints (p.take (i + 1))) ∧ Below w.heap.size w wr)
    case atStart => exact ⟨0, by omega, by omega, o1, c1⟩
    case round =>
      obtain ⟨i, hi, hi2, ho, hb⟩ := hrel
      have HI := Lib.hid hi
      have HO := Lib.hid ho
      have HB := Lib.hid hb
      have hsz := hb.size
      have hl : (ints (p.take (i + 1))).length = i + 1 := by simp [ints]; omega
      have HL := Lib.hid hl
      obtain ⟨gv, cv, hvv, _, _⟩ := ho.form (by omega)
      rw [hl] at hvv
      subst hvv
      obtain ⟨x, hx⟩ : ∃ x, p[i]? = some x := ⟨_, List.getElem?_eq_getElem hi2⟩
      obtain ⟨hx1, hx2, hx3⟩ := HU.out i x hx
      have cx := (ho.ev encI_len).row3 (by omega) i (x : Int) (by simp [ints, List.getElem?_take, hx]) 0 _ rfl
      simp only [Nat.mul_one, Nat.add_zero, Nat.zero_add] at cx
      clear hi ho hb hl o1 c1
      by_cases h0 : 0 < x
      · obtain ⟨hp1, hp2, hp3⟩ := hx3 h0
        obtain ⟨⟨y, q⟩, hgx⟩ : ∃ r, gs[x]? = some r := ⟨_, List.getElem?_eq_getElem hx1⟩
        have hpy := par_get hgx
        dsimp only at hpy
        rw [hpy] at hp1 hp2 hp3
        obtain ⟨cy, _⟩ := (HR.out.below HB.out).grp hgx
        dsimp only at cy
        have hi3 := (List.getElem?_eq_some_iff.1 hp1).1
        have HS := Lib.hid (show ints (p.take (i + 1 + 1)) = ints (p.take (i + 1)) ++ [y] from by
          rw [List.take_add_one, hp1, ints_append]; simp [ints]; omega)
        clear hx hx2 hx3 hp1 hpy hgx
        go_wp2_with (at_builtin; refine wpList_app elemI encI_len encI_one rfl _ _ rfl _ _ rfl rfl (HO.out.alloc _) (new_one (z := y)) ?q1 ?q2 ?_)
        case q1 => rw [HL.out]; (try simp); omega
        case q2 => (try simp); omega
        intro v' w3 o3 g3
        rw [← HS.out] at o3
        have b3 : Below w.heap.size w w3 := (HB.out.alloc hsz _).grown g3 (by first | omega | (simp; omega)) (fun k hk => (HO.out.block k hk).1)
        clear g3
        go_wp2
        go_roundg (gk - 1)
        case measure => have := HI.out; omega
        case rel => exact ⟨i + 1, by have := HI.out; omega, hi3, o3, b3⟩
      · obtain rfl : x = 0 := by omega
        have he := hx2 rfl
        have HO2 := Lib.hid HO.out
        rw [List.take_of_length_le (by omega)] at HO2
        clear hx hx2 hx3 hx1 he
        go_wp2
        go_ret2
        exact ⟨_, rfl, HO2.out, HB.out⟩
  · have hd : pathL gs z = [] := if_neg ht
    rw [hd]
    have hne : (thereZ gs [z] != 0) = true := by simpa using ht
    clear ht hd hv
    generalize thereZ gs [z] = e0 at *
    obtain ⟨e1, he1⟩ : ∃ e1, e0 = e1 := ⟨_, rfl⟩
    clear he1
    go_enter Tryd.func110, Tryd.ntmps110
    go_wp2_with fail
    refine HT.out.mono ?_
    rintro e w1 ⟨rfl, b1⟩
    go_wp2
    go_ret2
    exact ⟨_, rfl, OV.nil _ _, b1⟩

end Go.Proofs.YtaplangfppohdaaDoor
namespace Go.Proofs.YtaplangfppohdaaDoor
open Go Go.RowKit

section
variable {P : Program} {ops : Array Oper} {Q : Exit → Act → World → Prop}
theorem wp_region_dag {id : Nat} {a : Act} {w : World} (hm : P.follows .mixedOrders = true) (N : Nat) (hN : ops.size = N) (M : Nat → Bool)
    (b : (Nat → Value) → Act) (F : Nat → Value → Prop) (B : (Nat → Bool) → (Nat → Value) → World → Prop)
    (hB : ∀ d d' x i v w, M i = false → (∀ m, M m = true → d' m = d m) → B d x w → B d' (upd x i v) w)
    (hgd : (List.range N).all (fun i => ((ops[i]?).map (·.guard.isNone)).getD false) = true)
    (hord : (List.range N).all (fun i => ((ops[i]?).map (fun o => o.after.all fun e => !Region.binds .any e || decide (e.on < i))).getD false) = true)
    (hpure : ∀ i o, i < N → M i = false → ops[i]? = some o → ∀ d x w, B d x w → (∀ j, depB .any ops i j = true → M j = false → F j (x j)) → (∀ j, depB .any ops i j = true → d j = true) → (∀ j, depB .any ops j i = true → d j = false) → (∀ q, d q = true → ∀ j, depB .any ops q j = true → d j = true) →
      ∀ Kt : Act → World → Prop, (∀ v, F i v → Kt (b (upd x i v)) w) → o.wp P (b x) w Kt Q)
    (hmem : ∀ i o, i < N → M i = true → ops[i]? = some o → ∀ d d' x w, B d x w → (∀ j, depB .any ops i j = true → M j = false → F j (x j)) → (∀ j, depB .any ops i j = true → d j = true) → (∀ j, depB .any ops j i = true → d j = false) → d i = false → d' i = true → (∀ m, m ≠ i → d' m = d m) → (∀ q, d q = true → ∀ j, depB .any ops q j = true → d j = true) →
      ∀ Kt : Act → World → Prop, (∀ v w', B d' (upd x i v) w' → Kt (b (upd x i v)) w') → o.wp P (b x) w Kt Q)
    (hend : ∀ d x w, (∀ i, i < N → d i = true) → B d x w → (∀ j, j < N → M j = false → F j (x j)) → Q .normal (b x) w)
    (x0 : Nat → Value) (h0 : a = b x0) (hB0 : B (fun _ => false) x0 w.drew) : (Code.region id ops true).wp P Q a w := by
  refine wp_region_any hm ?_
  have hwant : ∀ i o, ops[i]? = some o → ∀ ts, Region.wanted o (yielded ops ts) = true := fun i o ho ts => by
    have hi := (Array.getElem?_eq_some_iff.1 ho).1
    have := List.all_eq_true.1 hgd i (List.mem_range.2 (by omega))
    rw [ho] at this
    simp only [Option.map_some, Option.getD_some, Option.isNone_iff_eq_none] at this
    simp [Region.wanted, this]
  refine wpAny_inv (I := fun listed a w => ∃ x, a = b x ∧ (∀ i, listed.getD i false = true → ∀ j, depB .any ops i j = true → listed.getD j false = true) ∧ B (fun j => listed.getD j false) x w ∧ ∀ j, j < N → M j = false → listed.getD j false = true → F j (x j)) ?_ ?_ _ _ _ _ (by simp) ?_ ?_
  · rintro listed a w i hs ⟨x, rfl, hld, hb, hf⟩ hi
    obtain ⟨h1, h2, o, ho, hdep⟩ := ready_mem hi
    have hdp : ∀ j, depB .any ops i j = true → listed.getD j false = true := fun j hj => by
      unfold depB at hj
      rw [ho] at hj
      simp only [Option.any_some] at hj
      rw [← Array.any_toList] at hj
      obtain ⟨e, he, hj⟩ := List.any_eq_true.1 hj
      rw [Bool.and_eq_true, beq_iff_eq] at hj
      rw [← hj.2]; exact hdep e he hj.1
    have hlt : ∀ j, listed.getD j false = true → j < N := fun j hj => by
      rcases Nat.lt_or_ge j listed.size with h' | h'
      · omega
      · rw [Array.getD_eq_getD_getElem?, Array.getElem?_eq_none h'] at hj; simp at hj
    have hil : listed.getD i false = false := by
      rw [Array.getD_eq_getD_getElem?, Array.getElem?_eq_getElem (by omega)] at h2 ⊢
      simpa using h2
    have hfd : ∀ j, depB .any ops i j = true → M j = false → F j (x j) := fun j hj hn => hf j (hlt j (hdp j hj)) hn (hdp j hj)
    have hnot : ∀ j, depB .any ops j i = true → listed.getD j false = false := fun j hj => by
      cases h : listed.getD j false with
      | false => rfl
      | true => rw [hld j h i hj] at hil; cases hil
    unfold wpOp; rw [ho]; simp only
    rw [if_pos (hwant i o ho _)]
    refine .inl ?_
    have hset : ∀ j, j ≠ i → (listed.setIfInBounds i true).getD j false = listed.getD j false := fun j hj => by
      rw [Array.getD_eq_getD_getElem?, Array.getElem?_setIfInBounds_ne (fun e => hj e.symm), ← Array.getD_eq_getD_getElem?]
    have hset' : (listed.setIfInBounds i true).getD i false = true := by
      rw [Array.getD_eq_getD_getElem?, Array.getElem?_setIfInBounds_self_of_lt (by omega)]; rfl
    have hld' : ∀ q, (listed.setIfInBounds i true).getD q false = true → ∀ j, depB .any ops q j = true → (listed.setIfInBounds i true).getD j false = true := fun q hq j hj => by
      by_cases e : j = i
      · subst e; exact hset'
      · rw [hset _ e]
        by_cases e2 : q = i
        · subst e2; exact hdp j hj
        · rw [hset _ e2] at hq; exact hld q hq j hj
    cases hic : M i with
    | false =>
      refine hpure i o (by omega) hic ho _ x w hb hfd hdp hnot hld _ (fun v hv => ⟨upd x i v, rfl, hld', hB _ _ x i v w hic (fun m hm => ?_) hb, fun j hj hjc hlj => ?_⟩)
      · exact hset m (fun e => by subst e; rw [hic] at hm; cases hm)
      · by_cases e : j = i
        · subst e; rw [upd_self]; exact hv
        · rw [hset _ e] at hlj
          rw [upd_ne e]; exact hf j hj hjc hlj
    | true =>
      refine hmem i o (by omega) hic ho _ (fun j => (listed.setIfInBounds i true).getD j false) x w hb hfd hdp hnot hil hset' hset hld _ (fun v w' hv => ⟨upd x i v, rfl, hld', hv, fun j hj hjc hlj => ?_⟩)
      have hjne : j ≠ i := fun e => by subst e; rw [hic] at hjc; cases hjc
      rw [hset _ hjne] at hlj
      rw [upd_ne hjne]; exact hf j hj hjc hlj
  · rintro listed a w hs ⟨x, rfl, hld, hb, hf⟩ hr
    have hle : ∀ q, q < N → listed.getD q false = true := by
      intro q
      induction q using Nat.strongRecOn with
      | _ q ih =>
        intro hq
        have hks : q < listed.size := by omega
        cases hv : listed.getD q false with
        | true => rfl
        | false =>
          exfalso
          have hmem : q ∈ Region.ready .any ops listed := by
            unfold Region.ready
            refine List.mem_filter.2 ⟨List.mem_range.2 (by omega), ?_⟩
            rw [Bool.and_eq_true]
            refine ⟨?_, ?_⟩
            · rw [Array.getD_eq_getD_getElem?, Array.getElem?_eq_getElem hks] at hv ⊢
              simpa using hv
            · have ho := List.all_eq_true.1 hord q (List.mem_range.2 (by omega))
              rw [Array.getElem?_eq_getElem (show q < ops.size by omega)] at ho ⊢
              simp only [Option.map_some, Option.getD_some] at ho ⊢
              rw [← Array.all_toList] at ho ⊢
              rw [List.all_eq_true] at ho ⊢
              intro e he
              have hon := ho e he
              cases hbe : Region.binds .any e with
              | false => rfl
              | true =>
                rw [hbe] at hon
                have hon' : e.on < q := by simpa using hon
                rw [ih e.on hon' (by omega)]; rfl
          rw [hr] at hmem; cases hmem
    exact hend _ x w hle hb (fun j hj hjc => hf j hj hjc (hle j hj))
  · refine Nat.le_trans List.countP_le_length ?_
    simp
  · refine ⟨x0, h0, fun i hi => ?_, ?_, fun j hj _ h => ?_⟩
    · rw [Array.getD_eq_getD_getElem?, Array.getElem?_replicate] at hi
      split at hi <;> simp at hi
    · have : (fun j => (Array.replicate ops.size false).getD j false) = fun _ => false := by
        funext j
        rw [Array.getD_eq_getD_getElem?, Array.getElem?_replicate]
        split <;> simp
      rw [this]; exact hB0
    · rw [Array.getD_eq_getD_getElem?, Array.getElem?_replicate] at h
      split at h <;> simp at h
theorem notyet {d : Nat → Bool} {i j : Nat} (hcl : ∀ q, d q = true → ∀ j, depB .any ops q j = true → d j = true) (h : d j = false) (hd : depB .any ops i j = true) : d i = false := by
  cases hi : d i with
  | false => rfl
  | true => rw [hcl i hi j hd] at h; cases h
end
end Go.Proofs.YtaplangfppohdaaDoor
namespace Go.Proofs.YtaplangfppohdaaDoor
open Go Go.RowKit

structure AL {α : Type} (enc : α → List Value) (k : Nat) (e : TypeId) (w3 : World) (xs ys : List α) (d0 d2 d8 d9 : Bool) (v0 v2 v8 v9 : Value) (W : World) : Prop where
  bel : Below w3.heap.size w3 W
  p0 : d0 = true → d2 = false → OV enc k e w3.heap.size W v0 []
  p2 : d2 = true → d9 = false → OV enc k e w3.heap.size W v2 xs
  p8 : d8 = true → d9 = false → EV enc k W v8 ys ∧ ∃ q n c, v8 = .slice (some ⟨q, 0, none⟩) n c ∧ q < W.heap.size ∧ w3.heap.size ≤ q ∧ (d0 = true → d2 = false → v0.ownBlock ≠ some q) ∧ (d2 = true → d9 = false → v2.ownBlock ≠ some q)
  p9 : d9 = true → OV enc k e w3.heap.size W v9 (xs ++ ys)
section
variable {α : Type} {enc : α → List Value} {k : Nat} {e : TypeId} {w3 W : World} {xs ys : List α} {d0 d2 d8 d9 : Bool} {v0 v2 v8 v9 u : Value}
theorem AL.start : AL enc k e w3 xs ys false false false false v0 v2 v8 v9 w3.drew :=
  ⟨below_drew (Below.refl _ _), fun h => (by cases h), fun h => (by cases h), fun h => (by cases h), fun h => (by cases h)⟩
theorem AL.b0 (h : AL enc k e w3 xs ys false d2 d8 d9 v0 v2 v8 v9 W) (h2 : d2 = false) (h9 : d9 = false) : AL enc k e w3 xs ys true d2 d8 d9 (.slice (some ⟨W.heap.size, 0, none⟩) 0 0) v2 v8 v9 (W.alloc (.cells #[] e)) := by
  subst h2 h9
  refine ⟨h.bel.alloc h.bel.size _, fun _ _ => OV.made W 0 #[] h.bel.size (Nat.zero_le _) (by simp), fun h => (by cases h), fun h8 _ => ?_, fun h => (by cases h)⟩
  obtain ⟨a1, q, n, c, a2, a3, a4, _, a6⟩ := h.p8 h8 rfl
  refine ⟨a1.below ((Below.refl _ _).alloc (Nat.le_refl _) _), q, n, c, a2, by simp; omega, a4, fun _ _ e => ?_, fun h => (by cases h)⟩
  simp [Value.ownBlock] at e
  omega
theorem AL.b8 (h : AL enc k e w3 xs ys d0 d2 false d9 v0 v2 v8 v9 W) (h9 : d9 = false) {cs : Array Value} {n : Nat} (hy : EV enc k (W.alloc (.cells cs e)) (.slice (some ⟨W.heap.size, 0, none⟩) n n) ys) : AL enc k e w3 xs ys d0 d2 true d9 v0 v2 (.slice (some ⟨W.heap.size, 0, none⟩) n n) v9 (W.alloc (.cells cs e)) := by
  subst h9
  refine ⟨h.bel.alloc h.bel.size _, fun a b => (h.p0 a b).alloc _, fun a b => (h.p2 a b).alloc _, fun _ _ => ⟨hy, _, n, n, rfl, by simp, h.bel.size, fun a b e => ?_, fun a b e => ?_⟩, fun h => (by cases h)⟩
  · have := ((h.p0 a b).block _ e).2; omega
  · have := ((h.p2 a b).block _ e).2; omega
theorem AL.app1 (h : AL enc k e w3 xs ys true false d8 d9 v0 v2 v8 v9 W) (h9 : d9 = false) {v' : Value} {w' : World} (ho : OV enc k e w3.heap.size w' v' xs) (hg : W.grownBy w' v0.ownBlock) (ha : v'.ownBlock = v0.ownBlock ∨ v'.ownBlock = some W.heap.size) : AL enc k e w3 xs ys true true d8 d9 v0 v' v8 v9 w' := by
  subst h9
  have h0 := h.p0 rfl rfl
  refine ⟨h.bel.grown hg h.bel.size (fun q hq => (h0.block q hq).1), fun _ h => (by cases h), fun _ _ => ho, fun h8 _ => ?_, fun h => (by cases h)⟩
  obtain ⟨a1, q, n, c, a2, a3, a4, a5, _⟩ := h.p8 h8 rfl
  refine ⟨a1.grown hg (fun b o n' c' hv => by rw [a2] at hv; simp only [Value.slice.injEq, Option.some.injEq, Addr.mk.injEq] at hv; rw [← hv.1.1]; exact a5 rfl rfl), q, n, c, a2, by have := hg.size; omega, a4, fun _ h => (by cases h), fun _ _ e => ?_⟩
  · rcases ha with h | h
    · exact a5 rfl rfl (h ▸ e)
    · rw [h] at e
      have := Option.some.inj e
      omega
theorem AL.app2 (h : AL enc k e w3 xs ys d0 true true false v0 v2 v8 v9 W) {v' : Value} {w' : World} (ho : OV enc k e w3.heap.size w' v' (xs ++ ys)) (hg : W.grownBy w' v2.ownBlock) (h0 : d0 = true) : AL enc k e w3 xs ys d0 true true true v0 v2 v8 v' w' :=
  ⟨h.bel.grown hg h.bel.size (fun q hq => ((h.p2 rfl rfl).block q hq).1), fun _ h => (by cases h), fun _ h => (by cases h), fun _ h => (by cases h), fun _ => ho⟩
theorem wp_app_at {P : Program} {bytes base : Nat} {t : TypeId} {w : World} {o : Oper} {a : Act} {K : Act → World → Prop} {Q : Exit → Act → World → Prop} (T : ElemT P t e k bytes) (hk : ∀ x, (enc x).length = k) (h1 : ∀ x, ∀ u ∈ enc x, u.oneCell' = true)
    (s x : Operand) (ho : o.op = .call { callee := .builtin .append, args := #[s, x], argTypes := #[t, t] })
    (v sv : Value) (hs : a.eval s = v) (hx : a.eval x = sv) (hown : OV enc k e base w v xs) (hys : EV enc k w sv ys) (hn : xs.length + ys.length ≤ 1000000000) (hbase : base ≤ w.heap.size)
    (h : ∀ v' w', OV enc k e base w' v' (xs ++ ys) → w.grownBy w' v.ownBlock → (v'.ownBlock = v.ownBlock ∨ v'.ownBlock = some w.heap.size) → K (a.put o.dst v') w') : Oper.wp P o a w K Q := by
  obtain ⟨v', w', hr, h2, h3, h4⟩ := run_app_at T hk h1 o.type hown hys hn hbase
  unfold Oper.wp execOp
  simp only [ho, resolve, invoke, builtin, Sem.run_bind, Sem.run_pure, Result.andThen_ok, List.map_toArray, List.map_cons, List.map_nil, hs, hx, hr]
  exact h v' w' h2 h3 h4
end
end Go.Proofs.YtaplangfppohdaaDoor
namespace Go.Proofs.YtaplangfppohdaaDoor
open Go.RowKit Go.Shelf
attribute [local go_sem] Oper.semAt_some

theorem elemRH : ElemT Tryd.prog 120 121 2 16 := ⟨Tryd.underlying120, by
  have h : (Tryd.prog.info? 121).map (fun i => (i.zero, i.size, i.bytes)) = some (some (.agg #[.int .i64 0, .int .i64 0]), 2, 16) := by kernel_rfl
  obtain ⟨i, h1, h2, h3, h4⟩ := info_parts h
  exact ⟨i, _, h1, h2, h3, h4, rfl⟩, by omega, by omega⟩
set_option maxHeartbeats 1600000 in
theorem without_ok (w : World) (v : Value) (hs : List (Int × Int)) (k : Nat) (hv : EV encG 2 w v hs) (hk : k < hs.length) (hl : hs.length ≤ 1000000) :
    Calls Tryd.prog 109 #[v, .int .i64 k] w fun e w' => ∃ r, e = .returned r ∧ OV encG 2 121 w.heap.size w' r (hs.take k ++ hs.drop (k + 1)) ∧ Below w.heap.size w w' := by
  obtain ⟨b, off, c, rfl, hc, _⟩ := hv.row (by omega)
  have HT := Lib.hid (EV.row_take (j := k) hv (by omega) rfl)
  have HD := Lib.hid (EV.row_drop (j := k + 1) hv (by omega) (by omega))
  obtain ⟨n, hn⟩ : ∃ n, hs.length = n := ⟨_, rfl⟩
  rw [hn] at hk hl hc HD ⊢
  obtain ⟨dA, hdA⟩ : ∃ dA : Option Addr, (if c = k + 1 then some ⟨b, off, none⟩ else some ⟨b, off + (k + 1) * 2, none⟩) = dA := ⟨_, rfl⟩
  have HDA := Lib.hid hdA
  replace HD := Lib.hid (show EV encG 2 w (.slice dA (n - (k + 1)) (c - (k + 1))) (hs.drop (k + 1)) from by
    rw [← hdA]
    split
    · rw [show n - (k + 1) = 0 by omega, List.drop_of_length_le (by omega)]
      exact EV.nil _ _
    · exact HD.out)
  clear hdA
  have HTL := Lib.hid (show hs.length = n ∧ n ≤ 1000000 from ⟨hn, hl⟩)
  have K1 := Lib.hid (show (0 : Int) ≤ (k : Int) ∧ (k : Int) ≤ (c : Int) from by omega)
  have K2 := Lib.hid (show (0 : Int) ≤ (k : Int) + 1 ∧ (k : Int) + 1 ≤ (n : Int) ∧ (n : Int) ≤ (c : Int) ∧ ((k : Int) + 1).toNat = k + 1 from by omega)
  have XW := Lib.hid (show IntKind.i64.wrap ((k : Int) + 1) = (k : Int) + 1 from IntWalk.i64_in _ (by omega))
  go_enter Tryd.func109, Tryd.ntmps109
  go_upto_region 1 with fail
  refine wp_region_chain (by kernel_rfl) 11 rfl 4 (fun m => match m with | 0 => 0 | 1 => 4 | 2 => 9 | _ => 10) (fun x => ⟨#[.slice (some ⟨b, off, none⟩) n c, .int .i64 (k : Nat), undef, undef, x 10, x 0, x 1, x 2, x 3, x 4, x 5, x 6, x 7, x 8, x 9], []⟩) (fun iF vF => match iF with | 1 => vF = .slice (some ⟨b, off, none⟩) n c | 2 => vF = .int .i64 (k : Nat) | 3 => vF = .slice (some ⟨b, off, none⟩) k c | 5 => vF = .slice (some ⟨b, off, none⟩) n c | 6 => vF = .int .i64 (k : Nat) | 7 => vF = .int .i64 ((k : Int) + 1) | 8 => vF = .slice dA (n - (k + 1)) (c - (k + 1)) | _ => True)
    (fun m x W => (m = 0 → Below w.heap.size w W) ∧ (m = 1 → OV encG 2 121 w.heap.size W (x 0) [] ∧ (∃ b0, x 0 = .slice (some ⟨b0, 0, none⟩) 0 0) ∧ Below w.heap.size w W) ∧ (m = 2 → OV encG 2 121 w.heap.size W (x 4) (hs.take k) ∧ Below w.heap.size w W) ∧ (m = 3 → OV encG 2 121 w.heap.size W (x 9) (hs.take k ++ hs.drop (k + 1)) ∧ Below w.heap.size w W) ∧ (m = 4 → OV encG 2 121 w.heap.size W (x 10) (hs.take k ++ hs.drop (k + 1)) ∧ Below w.heap.size w W)) (by kernel_rfl) ?hB (by kernel_rfl) (by kernel_rfl) ?hpure ?hchain ?hend (fun i => (#[undef, undef, undef, undef, undef, undef, undef, undef, undef, undef, (.slice none 0 0)] : Array Value).getD i undef) rfl ?hstart
  case hstart =>
    try dsimp only
    exact ⟨fun _ => below_drew (Below.refl _ _), fun h => (by first | exact h.elim | omega | cases h), fun h => (by first | exact h.elim | omega | cases h), fun h => (by first | exact h.elim | omega | cases h), fun h => (by first | exact h.elim | omega | cases h)⟩
  case hB =>
    intro m x i v W hi h
    have h0 : ¬ 0 = i := by rintro rfl; exact absurd (show true = false from hi) (by simp)
    have h4 : ¬ 4 = i := by rintro rfl; exact absurd (show true = false from hi) (by simp)
    have h9 : ¬ 9 = i := by rintro rfl; exact absurd (show true = false from hi) (by simp)
    have h10 : ¬ 10 = i := by rintro rfl; exact absurd (show true = false from hi) (by simp)
    try dsimp only at h ⊢
    rw [upd_ne h0, upd_ne h4, upd_ne h9, upd_ne h10]
    exact h
  case hpure =>
    intro iF o hi hnc ho m x W hk hB hd hbf hx K hK
    rcases (show iF = 0 ∨ iF = 1 ∨ iF = 2 ∨ iF = 3 ∨ iF = 4 ∨ iF = 5 ∨ iF = 6 ∨ iF = 7 ∨ iF = 8 ∨ iF = 9 ∨ iF = 10 by omega) with rfl | rfl | rfl | rfl | rfl | rfl | rfl | rfl | rfl | rfl | rfl
    · exact absurd (show true = false from hnc) (by simp)
    · obtain rfl := Option.some.inj ho
      clear ho hd hx hbf hB hnc hi
      simp only [upd, reduceIte, Nat.reduceEqDiff] at hK
      try dsimp only
      go_simp
      exact hK _ rfl
    · obtain rfl := Option.some.inj ho
      clear ho hd hx hbf hB hnc hi
      simp only [upd, reduceIte, Nat.reduceEqDiff] at hK
      try dsimp only
      go_simp
      exact hK _ rfl
    · obtain rfl := Option.some.inj ho
      have e1 : x 1 = .slice (some ⟨b, off, none⟩) n c := hd 1 (by kernel_rfl) (by kernel_rfl)
      have e2 : x 2 = .int .i64 (k : Nat) := hd 2 (by kernel_rfl) (by kernel_rfl)
      have i1 := K1.out
      clear ho hd hx hbf hB hnc hi
      simp only [upd, reduceIte, Nat.reduceEqDiff, e1, e2] at hK
      try dsimp only
      go_simp
      exact hK _ rfl
    · exact absurd (show true = false from hnc) (by simp)
    · obtain rfl := Option.some.inj ho
      clear ho hd hx hbf hB hnc hi
      simp only [upd, reduceIte, Nat.reduceEqDiff] at hK
      try dsimp only
      go_simp
      exact hK _ rfl
    · obtain rfl := Option.some.inj ho
      clear ho hd hx hbf hB hnc hi
      simp only [upd, reduceIte, Nat.reduceEqDiff] at hK
      try dsimp only
      go_simp
      exact hK _ rfl
    · obtain rfl := Option.some.inj ho
      have e6 : x 6 = .int .i64 (k : Nat) := hd 6 (by kernel_rfl) (by kernel_rfl)
      have xw := XW.out
      clear ho hd hx hbf hB hnc hi
      simp only [upd, reduceIte, Nat.reduceEqDiff, e6] at hK
      try dsimp only
      go_simp
      exact hK _ rfl
    · obtain rfl := Option.some.inj ho
      have e5 : x 5 = .slice (some ⟨b, off, none⟩) n c := hd 5 (by kernel_rfl) (by kernel_rfl)
      have e7 : x 7 = .int .i64 ((k : Int) + 1) := hd 7 (by kernel_rfl) (by kernel_rfl)
      have i1 := K2.out
      clear ho hd hx hbf hB hnc hi
      simp only [upd, reduceIte, Nat.reduceEqDiff, e5, e7] at hK
      try dsimp only
      go_simp
      exact hK _ (by rw [HDA.out])
    · exact absurd (show true = false from hnc) (by simp)
    · exact absurd (show true = false from hnc) (by simp)
  case hchain =>
    intro m o hk ho x W hB hd K hK
    rcases (show m = 0 ∨ m = 1 ∨ m = 2 ∨ m = 3 by omega) with rfl | rfl | rfl | rfl
    · obtain rfl := Option.some.inj ho
      clear ho hd hk
      have hW := hB.1 rfl
      simp only [upd, reduceIte, Nat.reduceEqDiff] at hK
      try dsimp only
      go_simp
      refine hK _ _ ?_
      try dsimp only
      exact ⟨fun h => (by first | exact h.elim | omega | cases h), fun _ => ⟨OV.made W 0 #[] hW.size (Nat.zero_le _) rfl, ⟨_, rfl⟩, hW.alloc hW.size _⟩, fun h => (by first | exact h.elim | omega | cases h), fun h => (by first | exact h.elim | omega | cases h), fun h => (by first | exact h.elim | omega | cases h)⟩
    · obtain rfl := Option.some.inj ho
      have e3 : x 3 = .slice (some ⟨b, off, none⟩) k c := hd 3 (by kernel_rfl) (by kernel_rfl)
      clear ho hd hk
      obtain ⟨o0, -, hW⟩ := hB.2.1 rfl
      simp only [upd, reduceIte, Nat.reduceEqDiff, e3] at hK
      try dsimp only
      refine wp_app elemRH encG_len encG_one (.tmp 5) (.tmp 8) rfl (x 0) (.slice (some ⟨b, off, none⟩) k c) rfl (by rw [← e3]; rfl) o0 (HT.out.below (hW.mono (Nat.le_refl _))) (by have := HTL.out; simp; omega) hW.size ?_
      intro v1 w1 o1 g1
      go_simp
      refine hK _ _ ?_
      try dsimp only
      exact ⟨fun h => (by first | exact h.elim | omega | cases h), fun h => (by first | exact h.elim | omega | cases h), fun _ => ⟨by simpa using o1, hW.grown g1 hW.size (fun q hq => (o0.block q hq).1)⟩, fun h => (by first | exact h.elim | omega | cases h), fun h => (by first | exact h.elim | omega | cases h)⟩
    · obtain rfl := Option.some.inj ho
      have e8 : x 8 = .slice dA (n - (k + 1)) (c - (k + 1)) := hd 8 (by kernel_rfl) (by kernel_rfl)
      clear ho hd hk
      obtain ⟨o0, hW⟩ := hB.2.2.1 rfl
      simp only [upd, reduceIte, Nat.reduceEqDiff, e8] at hK
      try dsimp only
      refine wp_app elemRH encG_len encG_one (.tmp 9) (.tmp 13) rfl (x 4) (.slice dA (n - (k + 1)) (c - (k + 1))) rfl (by rw [← e8]; rfl) o0 (HD.out.below (hW.mono (Nat.le_refl _))) (by have := HTL.out; simp; omega) hW.size ?_
      intro v1 w1 o1 g1
      go_simp
      refine hK _ _ ?_
      try dsimp only
      exact ⟨fun h => (by first | exact h.elim | omega | cases h), fun h => (by first | exact h.elim | omega | cases h), fun h => (by first | exact h.elim | omega | cases h), fun _ => ⟨o1, hW.grown g1 hW.size (fun q hq => (o0.block q hq).1)⟩, fun h => (by first | exact h.elim | omega | cases h)⟩
    · obtain rfl := Option.some.inj ho
      clear ho hd hk
      obtain ⟨o0, hW⟩ := hB.2.2.2.1 rfl
      simp only [upd, reduceIte, Nat.reduceEqDiff] at hK
      try dsimp only
      go_simp
      refine hK _ _ ?_
      try dsimp only
      exact ⟨fun h => (by first | exact h.elim | omega | cases h), fun h => (by first | exact h.elim | omega | cases h), fun h => (by first | exact h.elim | omega | cases h), fun h => (by first | exact h.elim | omega | cases h), fun _ => ⟨o0, hW⟩⟩
  case hend =>
    intro x W hB hd
    obtain ⟨o1, hW⟩ := hB.2.2.2.2 rfl
    clear hB hd
    try dsimp only
    generalize x 10 = v at o1 ⊢
    go_wp2
    go_ret
    exact ⟨_, rfl, o1, hW⟩
end Go.Proofs.YtaplangfppohdaaDoor
namespace Go.Proofs.YtaplangfppohdaaDoor
open Go.RowKit Go.Shelf
attribute [local go_sem] Oper.semAt_some

def homeI (hs : List (Int × Int)) (t : Int) : Nat := hs.findIdx fun h => decide (h.1 = t)
def homeZ (hs : List (Int × Int)) (t : Int) : Int := if homeI hs t < hs.length then (homeI hs t : Int) else -1
set_option maxHeartbeats 800000 in
theorem rhome_ok (w : World) (v : Value) (hs : List (Int × Int)) (t : Int) (hv : EV encG 2 w v hs) (hl : hs.length ≤ 1000000) :
    Calls Tryd.prog 107 #[v, .int .i64 t] w fun e w' => e = .returned (.int .i64 (homeZ hs t)) ∧ w' = w := by
  obtain ⟨A, c, rfl⟩ := hv.shape
  have HV := Lib.hid hv
  obtain ⟨n, hn⟩ : ∃ n, hs.length = n := ⟨_, rfl⟩
  have HN := Lib.hid hn
  rw [hn] at hl HV ⊢
  clear hv hn
  go_enter Tryd.func107, Tryd.ntmps107
  go_wp2
  go_loopg [5] n (fun k i wr => ∃ j : Nat, j + k = n ∧ i = .int .i64 j ∧ (∀ q, q < j → ∀ h, hs[q]? = some h → h.1 ≠ t) ∧ wr = w)
  case atStart => exact ⟨0, by omega, rfl, fun q hq => by omega, rfl⟩
  case round =>
    obtain ⟨j, hj, rfl, ha, rfl⟩ := hrel
    have HJ := Lib.hid hj
    have HA := Lib.hid ha
    clear hj ha
    by_cases hlt : j < n
    · obtain ⟨b, off, c', hs1, hc, hr⟩ := HV.out.row (by rw [HN.out]; omega)
      rw [HN.out] at hs1 hc
      simp only [Value.slice.injEq, true_and] at hs1
      obtain ⟨rfl, rfl⟩ := hs1
      obtain ⟨⟨p, q⟩, hx⟩ : ∃ y, hs[j]? = some y := ⟨_, List.getElem?_eq_getElem (by rw [HN.out]; exact hlt)⟩
      obtain ⟨c1, c2⟩ := hr.grp hx
      dsimp only at c1 c2
      have HX := Lib.hid hx
      clear hr hx
      by_cases he : p = t
      · subst he
        have HZ := Lib.hid (show homeZ hs p = (j : Int) from by
          have : homeI hs p = j := by
            unfold homeI
            rw [List.findIdx_eq (by rw [HN.out]; exact hlt)]
            refine ⟨by rw [show hs[j]'(by rw [HN.out]; exact hlt) = (p, q) from by have := HX.out; rw [List.getElem?_eq_getElem (by rw [HN.out]; exact hlt)] at this; exact Option.some.inj this]; simp, fun m hm => ?_⟩
            have hml : m < hs.length := by rw [HN.out]; omega
            simpa using HA.out m hm hs[m] (List.getElem?_eq_getElem hml)
          unfold homeZ
          rw [this, if_pos (by rw [HN.out]; exact hlt)])
        go_wp2
        go_ret
        exact ⟨ret_int HZ.out.symm, rfl⟩
      · have he2 : (p == t) = false := by simp [he]
        have HE := Lib.hid he
        clear he
        go_wp2
        go_roundg (gk - 1)
        case measure => have := HJ.out; omega
        case rel =>
          refine ⟨j + 1, by have := HJ.out; omega, by go_num, fun m hm h hh => ?_, rfl⟩
          rcases Nat.lt_or_ge m j with h1 | h1
          · exact HA.out m h1 h hh
          · obtain rfl : m = j := by omega
            rw [HX.out] at hh
            cases hh
            exact HE.out
    · obtain rfl : n = j := by have := HJ.out; omega
      have HZ := Lib.hid (show homeZ hs t = -1 from by
        unfold homeZ
        rw [if_neg]
        unfold homeI
        rw [List.findIdx_lt_length]
        rintro ⟨x, hx, h2⟩
        obtain ⟨m, hm, rfl⟩ := List.getElem_of_mem hx
        exact HA.out m (by rw [← HN.out]; exact hm) _ (List.getElem?_eq_getElem hm) (by simpa using h2))
      go_wp2
      go_ret
      exact ⟨ret_int HZ.out.symm, rfl⟩
set_option maxHeartbeats 1600000 in
theorem rqcheck_ok (w : World) (v1 v2 : Value) (gs : List (Int × Int)) (rs : List Ru) (h1 : EV encG 2 w v1 gs) (h2 : EV encRu 3 w v2 rs) (l1 : gs.length ≤ 100000) (l2 : rs.length ≤ 1000000000) :
    Calls Tryd.prog 54 #[v1, v2] w fun e w' => e = .returned (.tuple #[.int .i64 (chkR gs rs).1, .int .i64 (chkR gs rs).2]) ∧ Below w.heap.size w w' := by
  obtain ⟨A1, c1, rfl⟩ := h1.shape
  obtain ⟨A2, c2, rfl⟩ := h2.shape
  have HR := Lib.hid (rright_ok w _ gs h1 l1)
  have H2 := Lib.hid h2
  clear h1 h2
  obtain ⟨m, hm⟩ : ∃ m, m = rs.length := ⟨_, rfl⟩
  have HM := Lib.hid hm
  rw [← hm] at l2 ⊢
  clear hm
  obtain ⟨g, hg⟩ : ∃ g, g = gs.length := ⟨_, rfl⟩
  have HG := Lib.hid hg
  rw [← hg] at l1 HR ⊢
  clear hg
  cases hr : rightB gs with
  | false =>
    have HC := Lib.hid (show chkR gs rs = (-1, 194) from if_pos hr)
    rw [hr] at HR
    clear hr
    go_enter Tryd.func54, Tryd.ntmps54
    go_wp2_with fail
    refine HR.out.mono ?_
    rintro e w1 ⟨rfl, hb⟩
    go_wp2
    go_ret2
    exact ⟨by rw [HC.out]; rfl, hb⟩
  | true =>
    have HC := Lib.hid (show chkR gs rs = if badR g rs < m then ((badR g rs : Int), 280) else (-1, 0) from by rw [HG.out, HM.out]; exact if_neg (by simp [hr]))
    rw [hr] at HR
    clear hr
    go_enter Tryd.func54, Tryd.ntmps54
    go_wp2_with fail
    refine HR.out.mono ?_
    rintro e w1 ⟨rfl, hb⟩
    have HB := Lib.hid hb
    clear hb HR
    go_wp2
    go_loopg [6, 7] m (fun k i q wr => ∃ j : Nat, j + k = m ∧ i = .int .i64 j ∧ (∀ q, q < j → RuOk g (ruAt rs q)) ∧ Below w.heap.size w wr)
    case atStart => exact ⟨0, by omega, rfl, fun q hq => by omega, HB.out⟩
    case round =>
      obtain ⟨j, hj, rfl, ha, hb⟩ := hrel
      have HJ := Lib.hid hj
      have HA := Lib.hid ha
      have HB := Lib.hid hb
      clear hj ha hb
      by_cases hlt : j < m
      · have hev := H2.out.below HB.out
        obtain ⟨b, off, c', hsl, hcc, hrr⟩ := hev.row (by have := HM.out; omega)
        cases hsl
        obtain ⟨g0, g1, g2⟩ := hrr.ru (j := j) (by rw [← HM.out]; exact hlt)
        have HX := Lib.hid (show RuOk g (ruAt rs j) ↔ _ from by unfold RuOk; exact Iff.rfl)
        have HBAD := Lib.hid (fun hb => badR_at (n := g) (rs := rs) (j := j) (by rw [← HM.out]; exact hlt) HA.out hb)
        clear hev hrr
        generalize hru : ruAt rs j = ru at *
        have HRU := Lib.hid hru
        clear hru
        obtain ⟨rg, rp, rl⟩ := ru
        dsimp only at g0 g1 g2
        have HBN := Lib.hid (HB.out.trans ((Below.refl wr.heap.size wr).alloc (Nat.le_refl _) (.cells #[.int .i64 rg, .int .i64 rp, .int .i64 rl] 119) |>.mono HB.out.size))
        by_cases hbad : rg < 0 ∨ (g : Int) ≤ rg ∨ rp < 1 ∨ 4294967296 < rp ∨ rl < 0 ∨ rp < rl
        · have hB := Lib.hid (HBAD.out (fun hp => by have := HX.out.1 hp; simp at this; omega))
          have HF := Lib.hid (show chkR gs rs = ((j : Int), 280) from by rw [HC.out, hB.out, if_pos hlt])
          clear HC hB HBAD
          go_wp2
          all_goals first | (go_ret2; exact ⟨ret_pair HF.out, HBN.out⟩) | omega
        · have HOK := Lib.hid (HX.out.2 (by dsimp only; omega))
          clear HBAD
          have a1 : 0 ≤ rg := by omega
          have a2 : rg < (g : Int) := by omega
          have a3 : 1 ≤ rp := by omega
          have a4 : rp ≤ 4294967296 := by omega
          have a5 : 0 ≤ rl := by omega
          have a6 : rl ≤ rp := by omega
          clear hbad
          go_wp2
          go_roundg (gk - 1)
          case measure => have := HJ.out; omega
          case rel =>
            refine ⟨j + 1, by have := HJ.out; omega, by go_num, fun q hq => ?_, HBN.out⟩
            rcases Nat.lt_or_ge q j with h | h
            · exact HA.out q h
            · obtain rfl : q = j := by omega
              rw [HRU.out]; exact HOK.out
      · obtain rfl : m = j := by have := HJ.out; omega
        have hB := Lib.hid (badR_none (n := g) (rs := rs) (fun q hq => HA.out q (by rw [HM.out]; exact hq)))
        clear hlt
        go_wp2
        go_ret2
        exact ⟨by rw [HC.out, hB.out, ← HM.out, if_neg (by omega)]; rfl, HB.out⟩
end Go.Proofs.YtaplangfppohdaaDoor
namespace Go.Proofs.YtaplangfppohdaaDoor
open Go.RowKit Go.Shelf
attribute [local go_sem] Oper.semAt_some

def encRn (t : Rn) : List Value := [.int .i64 t.cpu, .int .i64 t.time, .int .i64 t.ticks, .int .i64 t.grp]
theorem encRn_len (t : Rn) : (encRn t).length = 4 := rfl
theorem encRn_one (t : Rn) : ∀ u ∈ encRn t, u.oneCell' = true := by intro u hu; simp [encRn] at hu; rcases hu with rfl | rfl | rfl | rfl <;> rfl
theorem ER.rn {w : World} {b off : Nat} {l : List Rn} (h : ER encRn 4 w b off l) {i : Nat} {x : Rn} (hi : l[i]? = some x) :
    w.cell? ⟨b, off + i * 4, none⟩ = some (.int .i64 x.cpu) ∧ w.cell? ⟨b, off + i * 4 + 1, none⟩ = some (.int .i64 x.time) ∧ w.cell? ⟨b, off + i * 4 + 2, none⟩ = some (.int .i64 x.ticks) ∧ w.cell? ⟨b, off + i * 4 + 3, none⟩ = some (.int .i64 x.grp) :=
  ⟨h i x hi 0 _ rfl, h i x hi 1 _ rfl, h i x hi 2 _ rfl, h i x hi 3 _ rfl⟩
theorem pathL_len (gs : List (Int × Int)) (z : Int) : (pathL gs z).length ≤ gs.length := by
  unfold pathL
  split
  · rename_i h
    obtain ⟨hok, hz⟩ := there_zero.1 h
    obtain ⟨z1, z2⟩ := hz z (by simp)
    have := path_le hok.bef z.toNat (by omega)
    simp [ints]; omega
  · simp
set_option maxHeartbeats 800000 in
theorem above_ok (w : World) (v : Value) (gs : List (Int × Int)) (g z : Int) (hv : EV encG 2 w v gs) (hl : gs.length ≤ 100000) :
    Calls Tryd.prog 84 #[v, .int .i64 g, .int .i64 z] w fun e w' => e = .returned (.bool ((pathL gs z).contains g)) ∧ Below w.heap.size w w' := by
  have HP := Lib.hid (rpath_ok w v gs z hv hl)
  clear hv
  obtain ⟨xs, hxs⟩ : ∃ xs, pathL gs z = xs := ⟨_, rfl⟩
  have hxl := pathL_len gs z
  rw [hxs] at HP hxl ⊢
  clear hxs
  go_enter Tryd.func84, Tryd.ntmps84
  go_wp2_with fail
  refine HP.out.mono ?_
  rintro e w1 ⟨r, rfl, o1, b1⟩
  obtain ⟨A, c, rfl⟩ := (o1.ev encI_len).shape
  obtain ⟨n, hn⟩ : ∃ n, xs.length = n := ⟨_, rfl⟩
  have HV := Lib.hid (o1.ev encI_len)
  have HB := Lib.hid b1
  have HN := Lib.hid hn
  have hn9 : n ≤ 1000000000 := by omega
  rw [hn] at HV ⊢
  clear o1 b1 HP hn hxl
  go_wp2
  go_loopg [9] n (fun k i wr => ∃ j : Nat, j + k = n ∧ i = .int .i64 j ∧ (∀ x ∈ xs.take j, x ≠ g) ∧ wr = w1)
  case atStart => exact ⟨0, by omega, rfl, by simp, rfl⟩
  case round =>
    obtain ⟨j, hj, rfl, ha, rfl⟩ := hrel
    have HJ := Lib.hid hj
    have HA := Lib.hid ha
    clear hj ha
    by_cases hlt : j < n
    · obtain ⟨b, off, c', hs1, hc, hr⟩ := HV.out.row (by rw [HN.out]; omega)
      rw [HN.out] at hs1 hc
      simp only [Value.slice.injEq, true_and] at hs1
      obtain ⟨rfl, rfl⟩ := hs1
      obtain ⟨x, hx, c1⟩ := hr.get1 (i := j) (by rw [HN.out]; exact hlt)
      have HX := Lib.hid hx
      clear hr hx
      by_cases he : x = g
      · subst he
        have HM := Lib.hid (show xs.contains x = true from by simpa using List.mem_of_getElem? HX.out)
        go_wp2
        go_ret
        exact ⟨ret_bool HM.out.symm, HB.out⟩
      · have he2 : (x == g) = false := by simp [he]
        have HE := Lib.hid he
        clear he
        go_wp2
        go_roundg (gk - 1)
        case measure => have := HJ.out; omega
        case rel =>
          refine ⟨j + 1, by have := HJ.out; omega, by go_num, fun y hy => ?_, rfl⟩
          rw [List.take_add_one, HX.out] at hy
          rcases List.mem_append.1 hy with h | h
          · exact HA.out y h
          · simp at h; subst h; exact HE.out
    · obtain rfl : n = j := by have := HJ.out; omega
      have HM := Lib.hid (show xs.contains g = false from by
        have h := HA.out
        rw [← HN.out, List.take_length] at h
        simpa using fun hm => h g hm rfl)
      go_wp2
      go_ret
      exact ⟨ret_bool HM.out.symm, HB.out⟩
end Go.Proofs.YtaplangfppohdaaDoor

/- The reference of layer 19: Path, Depth, Children, Under. -/
import Derived.Test.YtkkmmbmjpfecdaaRa
namespace Go.Proofs.Ytkkmmbmjpfecdaa
open Go.RowKit Go.Shelf

set_option maxHeartbeats 1000000 in
theorem rpath_ok (w : World) (v : Value) (gs : List (Int × Int)) (z : Int) (hv : EV encG 2 w v gs) (hlen : gs.length ≤ 100000) :
    Calls Try.prog 37 #[v, .int .i64 z] w fun e w' => ∃ r, e = .returned (.tuple #[r, .int .i64 (thereZ gs [z])]) ∧ OV encI 1 3 w.heap.size w' r (pathL gs z) ∧ Below w.heap.size w w' := by
  have HT := Lib.hid (wrong_ok w v gs z hv hlen)
  by_cases ht : thereZ gs [z] = 0
  · have hd : pathL gs z = ints (path gs z.toNat) := if_pos ht
    obtain ⟨hok, hz⟩ := there_zero.1 ht
    obtain ⟨hz1, hz2⟩ := hz z (by simp)
    obtain ⟨g, rfl⟩ := Int.eq_ofNat_of_zero_le hz1
    rw [Int.toNat_natCast] at hd
    obtain ⟨b, off, c, rfl, hc, hr⟩ := hv.row hok.pos
    have hg : g < gs.length := by omega
    have HU := Lib.hid (path_up hok.bef (Nat.le_refl _) g hg)
    have hh := path_head hok.bef hg
    have hpl := path_le hok.bef g hg
    have hpp := path_len_pos hok.bef hg
    have HR := Lib.hid hr
    rw [ht] at HT
    rw [ht, hd]
    clear hv hr hz hz1 hd ht hok
    generalize path gs g = p at *
    have HH := Lib.hid hh
    clear hh
    go_enter Try.func37, Try.ntmps37
    go_wp2_with fail
    refine HT.out.mono ?_
    rintro e w1 ⟨rfl, b1⟩
    have s1 := b1.size
    have o1 : OV encI 1 3 w.heap.size (w1.alloc (.cells #[.int .i64 g] 3)) (.slice (some ⟨w1.heap.size, 0, none⟩) 1 1) (ints (p.take 1)) := by
      have : ints (p.take 1) = [(g : Int)] := by
        have h := HH.out
        cases p with
        | nil => simp at h
        | cons a r => simp at h; subst h; simp [ints]
      rw [this]
      exact OV.lit _ _ 1 s1 (by decide) rfl rfl rfl
    have c1 := b1.alloc s1 (.cells #[.int .i64 g] 3)
    clear b1
    go_wp2_with fail
    generalize w1.alloc _ = w2 at o1 c1 ⊢
    generalize w1.heap.size = m1 at o1 ⊢
    go_loopg [7] p.length (fun k v wr => ∃ i : Nat, i + k = p.length ∧ i < p.length ∧ OV encI 1 3 w.heap.size wr v (ints (p.take (i + 1))) ∧ Below w.heap.size w wr)
    case atStart => exact ⟨0, by omega, by omega, o1, c1⟩
    case round =>
      obtain ⟨i, hi, hi2, ho, hb⟩ := hrel
      have HI := Lib.hid hi
      have HO := Lib.hid ho
      have HB := Lib.hid hb
      have hsz := hb.size
      have hl : (ints (p.take (i + 1))).length = i + 1 := by simp [ints]; omega
      have HL := Lib.hid hl
      obtain ⟨gv, cv, hvv, _, _⟩ := ho.form (by omega)
      rw [hl] at hvv
      subst hvv
      obtain ⟨x, hx⟩ : ∃ x, p[i]? = some x := ⟨_, List.getElem?_eq_getElem hi2⟩
      obtain ⟨hx1, hx2, hx3⟩ := HU.out i x hx
      have cx := (ho.ev encI_len).row3 (by omega) i (x : Int) (by simp [ints, List.getElem?_take, hx]) 0 _ rfl
      simp only [Nat.mul_one, Nat.add_zero, Nat.zero_add] at cx
      clear hi ho hb hl o1 c1
      by_cases h0 : 0 < x
      · obtain ⟨hp1, hp2, hp3⟩ := hx3 h0
        obtain ⟨⟨y, q⟩, hgx⟩ : ∃ r, gs[x]? = some r := ⟨_, List.getElem?_eq_getElem hx1⟩
        have hpy := par_get hgx
        dsimp only at hpy
        rw [hpy] at hp1 hp2 hp3
        obtain ⟨cy, _⟩ := (HR.out.below HB.out).grp hgx
        dsimp only at cy
        have hi3 := (List.getElem?_eq_some_iff.1 hp1).1
        have HS := Lib.hid (show ints (p.take (i + 1 + 1)) = ints (p.take (i + 1)) ++ [y] from by
          rw [List.take_add_one, hp1, ints_append]; simp [ints]; omega)
        clear hx hx2 hx3 hp1 hpy hgx
        go_wp2_with (at_builtin; refine wpList_app elemI encI_len encI_one rfl _ _ rfl _ _ rfl rfl (HO.out.alloc _) (new_one (z := y)) ?q1 ?q2 ?_)
        case q1 => rw [HL.out]; (try simp); omega
        case q2 => (try simp); omega
        intro v' w3 o3 g3
        rw [← HS.out] at o3
        have b3 : Below w.heap.size w w3 := (HB.out.alloc hsz _).grown g3 (by first | omega | (simp; omega)) (fun k hk => (HO.out.block k hk).1)
        clear g3
        go_wp2
        go_roundg (gk - 1)
        case measure => have := HI.out; omega
        case rel => exact ⟨i + 1, by have := HI.out; omega, hi3, o3, b3⟩
      · obtain rfl : x = 0 := by omega
        have he := hx2 rfl
        have HO2 := Lib.hid HO.out
        rw [List.take_of_length_le (by omega)] at HO2
        clear hx hx2 hx3 hx1 he
        go_wp2
        go_ret2
        exact ⟨_, rfl, HO2.out, HB.out⟩
  · have hd : pathL gs z = [] := if_neg ht
    rw [hd]
    have hne : (thereZ gs [z] != 0) = true := by simpa using ht
    clear ht hd hv
    generalize thereZ gs [z] = e0 at *
    obtain ⟨e1, he1⟩ : ∃ e1, e0 = e1 := ⟨_, rfl⟩
    clear he1
    go_enter Try.func37, Try.ntmps37
    go_wp2_with fail
    refine HT.out.mono ?_
    rintro e w1 ⟨rfl, b1⟩
    go_wp2
    go_ret2
    exact ⟨_, rfl, OV.nil _ _, b1⟩

set_option maxHeartbeats 400000 in
theorem rdepth_ok (w : World) (v : Value) (gs : List (Int × Int)) (z : Int) (hv : EV encG 2 w v gs) (hlen : gs.length ≤ 100000) :
    Calls Try.prog 35 #[v, .int .i64 z] w fun e w' => e = .returned (.tuple #[.int .i64 (dZ gs z), .int .i64 (thereZ gs [z])]) ∧ Below w.heap.size w w' := by
  have HP := Lib.hid (rpath_ok w v gs z hv hlen)
  clear hv
  by_cases ht : thereZ gs [z] = 0
  · have hd : dZ gs z = (dep gs z.toNat : Nat) := if_pos ht
    have hp : (pathL gs z).length = dep gs z.toNat + 1 := by
      obtain ⟨hok, hz⟩ := there_zero.1 ht
      obtain ⟨hz1, hz2⟩ := hz z (by simp)
      have := path_len_pos hok.bef (g := z.toNat) (by omega)
      unfold pathL dep; rw [if_pos ht]; simp [ints]; omega
    have hdl : dep gs z.toNat ≤ 4 := by
      obtain ⟨hok, hz⟩ := there_zero.1 ht
      obtain ⟨hz1, hz2⟩ := hz z (by simp)
      exact dep_le hok (by omega)
    rw [ht] at HP ⊢
    rw [hd]
    have HPL := Lib.hid hp
    generalize dep gs z.toNat = d at *
    clear ht hd hp
    go_enter Try.func35, Try.ntmps35
    go_wp2_with fail
    refine HP.out.mono ?_
    rintro e w1 ⟨r, rfl, o1, b1⟩
    obtain ⟨A, c, hr⟩ := (o1.ev encI_len).shape
    rw [HPL.out] at hr
    subst hr
    clear o1 HP
    go_wp2
    go_ret2
    exact ⟨rfl, b1⟩
  · have hd : dZ gs z = 0 := if_neg ht
    rw [hd]
    have hne : (thereZ gs [z] != 0) = true := by simpa using ht
    clear ht hd
    generalize thereZ gs [z] = e0 at *
    go_enter Try.func35, Try.ntmps35
    go_wp2_with fail
    refine HP.out.mono ?_
    rintro e w1 ⟨r, rfl, o1, b1⟩
    clear o1 HP
    go_wp2
    go_ret2
    exact ⟨rfl, b1⟩

set_option maxHeartbeats 1000000 in
theorem rchildren_ok (w : World) (v : Value) (gs : List (Int × Int)) (z : Int) (hv : EV encG 2 w v gs) (hlen : gs.length ≤ 100000) :
    Calls Try.prog 38 #[v, .int .i64 z] w fun e w' => ∃ r, e = .returned (.tuple #[r, .int .i64 (thereZ gs [z])]) ∧ OV encI 1 3 w.heap.size w' r (childL gs z) ∧ Below w.heap.size w w' := by
  have HT := Lib.hid (wrong_ok w v gs z hv hlen)
  by_cases ht : thereZ gs [z] = 0
  · have hd : childL gs z = chosen (childB gs z.toNat) gs.length := if_pos ht
    obtain ⟨hok, hz⟩ := there_zero.1 ht
    obtain ⟨hz1, hz2⟩ := hz z (by simp)
    obtain ⟨g, rfl⟩ := Int.eq_ofNat_of_zero_le hz1
    rw [Int.toNat_natCast] at hd
    obtain ⟨b, off, c, rfl, hc, hr⟩ := hv.row hok.pos
    have hpos := hok.pos
    have HR := Lib.hid hr
    have hc1 : chosen (childB gs g) 1 = [] := by simp [chosen, childB, ints]
    have HC1 := Lib.hid hc1
    rw [ht] at HT
    rw [ht, hd]
    clear hv hr hz hz1 hd ht hok hc1
    go_enter Try.func38, Try.ntmps38
    go_wp2_with fail
    refine HT.out.mono ?_
    rintro e w1 ⟨rfl, b1⟩
    go_wp2_with fail
    go_loopg [7, 8] gs.length (fun k v i wr => ∃ x : Nat, 1 ≤ x ∧ x + k = gs.length + 1 ∧ x ≤ gs.length ∧ i = .int .i64 x ∧ OV encI 1 3 w.heap.size wr v (chosen (childB gs g) x) ∧ Below w.heap.size w wr)
    case atStart => exact ⟨1, by omega, by omega, by omega, rfl, by rw [HC1.out]; exact OV.nil _ _, b1⟩
    case round =>
      obtain ⟨x, hx0, hxk, hxl, rfl, ho, hb⟩ := hrel
      have HX := Lib.hid hxk
      have HO := Lib.hid ho
      have HB := Lib.hid hb
      have hsz := hb.size
      have hcl := chosen_len (childB gs g) x
      have HCL := Lib.hid hcl
      clear hxk ho hb hcl b1
      by_cases hlt : x < gs.length
      · obtain ⟨⟨y, q⟩, hgx⟩ : ∃ r, gs[x]? = some r := ⟨_, List.getElem?_eq_getElem hlt⟩
        have hpy := par_get hgx
        dsimp only at hpy
        obtain ⟨cy, _⟩ := (HR.out.below HB.out).grp hgx
        dsimp only at cy
        by_cases hyg : y = (g : Int)
        · have hye : (y == (g : Int)) = true := by simpa using hyg
          have HS := Lib.hid (show chosen (childB gs g) (x + 1) = chosen (childB gs g) x ++ [(x : Int)] from by
            rw [chosen_succ, if_pos (by unfold childB; rw [hpy, hyg]; simp; omega)])
          subst hyg
          clear hgx hpy
          go_wp2_with (at_builtin; refine wpList_app elemI encI_len encI_one rfl _ _ rfl _ _ rfl rfl (HO.out.alloc _) (new_one (z := (x : Int))) ?q1 ?q2 ?_)
          case q1 => have := HCL.out; (try simp); omega
          case q2 => (try simp); omega
          intro v' w3 o3 g3
          rw [← HS.out] at o3
          have b3 : Below w.heap.size w w3 := (HB.out.alloc hsz _).grown g3 (by first | omega | (simp; omega)) (fun k hk => (HO.out.block k hk).1)
          clear g3
          go_wp2
          go_roundg (gk - 1)
          case measure => have := HX.out; omega
          case rel => exact ⟨x + 1, by omega, by have := HX.out; omega, by omega, by go_num, o3, b3⟩
        · have hye : (y == (g : Int)) = false := by simpa using hyg
          have HS := Lib.hid (show chosen (childB gs g) (x + 1) = chosen (childB gs g) x from by
            rw [chosen_succ, if_neg (by unfold childB; rw [hpy]; simp [hyg])]; simp)
          clear hgx hpy hyg
          go_wp2
          go_roundg (gk - 1)
          case measure => have := HX.out; omega
          case rel => exact ⟨x + 1, by omega, by have := HX.out; omega, by omega, by go_num, by rw [HS.out]; exact HO.out, HB.out⟩
      · obtain rfl : x = gs.length := by omega
        go_wp2
        go_ret2
        exact ⟨_, rfl, HO.out, HB.out⟩
  · have hd : childL gs z = [] := if_neg ht
    rw [hd]
    have hne : (thereZ gs [z] != 0) = true := by simpa using ht
    clear ht hd hv
    generalize thereZ gs [z] = e0 at *
    go_enter Try.func38, Try.ntmps38
    go_wp2_with fail
    refine HT.out.mono ?_
    rintro e w1 ⟨rfl, b1⟩
    go_wp2
    go_ret2
    exact ⟨_, rfl, OV.nil _ _, b1⟩

set_option maxHeartbeats 1000000 in
theorem runder_ok (w : World) (v : Value) (gs : List (Int × Int)) (z : Int) (hv : EV encG 2 w v gs) (hlen : gs.length ≤ 100000) :
    Calls Try.prog 39 #[v, .int .i64 z] w fun e w' => ∃ r, e = .returned (.tuple #[r, .int .i64 (thereZ gs [z])]) ∧ OV encI 1 3 w.heap.size w' r (underL gs z) ∧ Below w.heap.size w w' := by
  have HT := Lib.hid (wrong_ok w v gs z hv hlen)
  by_cases ht : thereZ gs [z] = 0
  · have hd : underL gs z = chosen (underB gs z.toNat) gs.length := if_pos ht
    obtain ⟨hok, hz⟩ := there_zero.1 ht
    obtain ⟨hz1, hz2⟩ := hz z (by simp)
    obtain ⟨g, rfl⟩ := Int.eq_ofNat_of_zero_le hz1
    rw [Int.toNat_natCast] at hd
    obtain ⟨A, c, rfl⟩ := hv.shape
    have HV := Lib.hid hv
    have HOK := Lib.hid hok
    rw [ht] at HT
    rw [ht, hd]
    clear hv hz hz1 hd ht hok
    go_enter Try.func39, Try.ntmps39
    go_wp2_with fail
    refine HT.out.mono ?_
    rintro e w1 ⟨rfl, b1⟩
    go_wp2_with fail
    go_loopg [7, 8] gs.length (fun k v i wr => ∃ x : Nat, x + k = gs.length ∧ i = .int .i64 x ∧ OV encI 1 3 w.heap.size wr v (chosen (underB gs g) x) ∧ Below w.heap.size w wr)
    case atStart => exact ⟨0, by omega, rfl, OV.nil _ _, b1⟩
    case round =>
      obtain ⟨x, hxk, rfl, ho, hb⟩ := hrel
      have HX := Lib.hid hxk
      have HO := Lib.hid ho
      have HB := Lib.hid hb
      have hsz := hb.size
      have hcl := chosen_len (underB gs g) x
      have HCL := Lib.hid hcl
      by_cases hlt : x < gs.length
      · have PA := Lib.hid (rpath_ok wr _ gs x (HV.out.below hb) hlen)
        have ht := there_ok1 HOK.out hlt
        have hpe := path_eq HOK.out hlt
        have hpl := path_le HOK.out.bef x hlt
        have hil : (ints (path gs x)).length = (path gs x).length := by simp [ints]
        rw [ht, hpe] at PA
        have hph := path_has g x (gs := gs)
        have hub : (path gs x).contains g = underB gs g x := rfl
        rw [hub] at hph
        have HPH := Lib.hid hph
        clear hxk ho hb hcl b1 ht hpe hph hub
        go_wp2_with fail
        refine PA.out.mono ?_
        rintro e w2 ⟨r, rfl, o2, b2⟩
        have hb2 := HB.out.trans (b2.mono hsz)
        have ho2 := HO.out.below b2
        have HA := Lib.hid (has_ok w2 r _ (g : Int) (o2.ev encI_len) (by omega))
        rw [HPH.out] at HA
        have hsz2 := hb2.size
        clear o2 b2 PA hil hpl
        cases hu : underB gs g x with
        | true =>
          have HS := Lib.hid (show chosen (underB gs g) (x + 1) = chosen (underB gs g) x ++ [(x : Int)] from by rw [chosen_succ, if_pos hu])
          rw [hu] at HA
          clear hu
          go_wp2_with fail
          refine HA.out.mono ?_
          rintro e w3 ⟨rfl, rfl⟩
          go_wp2_with (at_builtin; refine wpList_app elemI encI_len encI_one rfl _ _ rfl _ _ rfl rfl (ho2.alloc _) (new_one (z := (x : Int))) ?q1 ?q2 ?_)
          case q1 => have := HCL.out; (try simp); omega
          case q2 => (try simp); omega
          intro v' w3 o3 g3
          rw [← HS.out] at o3
          have b3 : Below w.heap.size w w3 := (hb2.alloc hsz2 _).grown g3 (by first | omega | (simp; omega)) (fun k hk => (ho2.block k hk).1)
          clear g3
          go_wp2
          go_roundg (gk - 1)
          case measure => have := HX.out; omega
          case rel => exact ⟨x + 1, by have := HX.out; omega, by go_num, o3, b3⟩
        | false =>
          have HS := Lib.hid (show chosen (underB gs g) (x + 1) = chosen (underB gs g) x from by rw [chosen_succ, if_neg (by simp [hu])]; simp)
          rw [hu] at HA
          clear hu
          go_wp2_with fail
          refine HA.out.mono ?_
          rintro e w3 ⟨rfl, rfl⟩
          go_wp2
          go_roundg (gk - 1)
          case measure => have := HX.out; omega
          case rel => exact ⟨x + 1, by have := HX.out; omega, by go_num, by rw [HS.out]; exact ho2, hb2⟩
      · obtain rfl : x = gs.length := by omega
        clear hxk ho hb hcl b1
        go_wp2
        go_ret2
        exact ⟨_, rfl, HO.out, HB.out⟩
  · have hd : underL gs z = [] := if_neg ht
    rw [hd]
    have hne : (thereZ gs [z] != 0) = true := by simpa using ht
    clear ht hd hv
    generalize thereZ gs [z] = e0 at *
    go_enter Try.func39, Try.ntmps39
    go_wp2_with fail
    refine HT.out.mono ?_
    rintro e w1 ⟨rfl, b1⟩
    go_wp2
    go_ret2
    exact ⟨_, rfl, OV.nil _ _, b1⟩
end Go.Proofs.Ytkkmmbmjpfecdaa

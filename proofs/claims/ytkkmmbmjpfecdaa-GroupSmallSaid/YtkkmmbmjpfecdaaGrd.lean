/- Contracts of group.those, Children, Under. -/
import Derived.Test.YtkkmmbmjpfecdaaGrc
namespace Go.Proofs.Ytkkmmbmjpfecdaa
open Go.RowKit Go.Shelf
attribute [local go_sem] Oper.semAt_some

set_option maxHeartbeats 400000 in
theorem those_ok (w : World) (A : Option Addr) (n c : Nat) (gf : Nat) (lb : Array Value) (p : Nat → Bool) (hn : n ≤ 100000) (eg : ∀ args w, (callFunc gf args).run Try.prog w = .ok (.enter gf args) w)
    (hp : ∀ (W : World) (x : Nat), Below w.heap.size w W → x < n → Calls Try.prog gf (#[.int .i64 x] ++ lb) W fun e W' => e = .returned (.bool (p x)) ∧ Below W.heap.size W W') :
    Calls Try.prog 45 #[.slice A n c, .func (.func gf) #[] lb] w fun e w' => ∃ r, e = .returned r ∧ OV encI 1 3 w.heap.size w' r (chosen p n) ∧ Below w.heap.size w w' := by
  have HP := Lib.hid hp
  clear hp
  go_enter Try.func45, Try.ntmps45
  go_wp2
  go_loopg [5, 9] n (fun k v i wr => ∃ j : Nat, j + k = n ∧ i = .int .i64 j ∧ OV encI 1 3 w.heap.size wr v (chosen p j) ∧ Below w.heap.size w wr)
  case atStart => exact ⟨0, by omega, rfl, OV.nil _ _, Below.refl _ _⟩
  case round =>
    rename_i v0 _ _ _ _
    obtain ⟨j, hj, rfl, ho, hb⟩ := hrel
    have HJ := Lib.hid hj
    have HO := Lib.hid ho
    have HB := Lib.hid hb
    have hsz := hb.size
    clear hj ho hb
    by_cases hlt : j < n
    · have hc := HP.out wr j HB.out hlt
      have HC := Lib.hid hc
      clear hc
      have hcl := chosen_len p j
      have HS := Lib.hid (chosen_succ p j)
      go_wp2_with fail
      refine HC.out.mono ?_
      rintro e w1 ⟨rfl, hb1⟩
      have hbw := HB.out.trans (hb1.mono hsz)
      have how := HO.out.below hb1
      have hsz1 := hbw.size
      clear HC hb1
      cases hpj : p j with
      | false =>
        rw [hpj] at HS
        have HPJ := Lib.hid hpj
        clear hpj
        go_wp2
        go_roundg (gk - 1)
        case measure => have := HJ.out; omega
        case rel => exact ⟨j + 1, by have := HJ.out; omega, by go_num, by rw [HS.out]; simpa using how, hbw⟩
      | true =>
        rw [hpj] at HS
        have HPJ := Lib.hid hpj
        clear hpj
        go_wp2_with (at_builtin; refine wpList_app elemI encI_len encI_one rfl _ _ rfl _ _ rfl rfl (how.alloc _) (new_one (z := (j : Int))) ?q1 ?q2 ?_)
        case q1 => simp; omega
        case q2 => simp; omega
        intro v' w2 ho2 hg2
        have hb2 : Below w.heap.size w w2 := (hbw.alloc hsz1 _).grown hg2 (by simp; omega) (fun k hk => (how.block k hk).1)
        clear hg2
        go_wp2
        go_roundg (gk - 1)
        case measure => have := HJ.out; omega
        case rel => exact ⟨j + 1, by have := HJ.out; omega, by go_num, by rw [HS.out]; exact ho2, hb2⟩
    · obtain rfl : j = n := by have := HJ.out; omega
      go_wp2
      go_ret
      exact ⟨_, rfl, HO.out, HB.out⟩

set_option maxHeartbeats 400000 in
theorem child1_ok (w : World) (Bl Bg b off c x : Nat) (g : Int) (gs : List (Int × Int)) (hx : x < gs.length) (hlen : gs.length ≤ 100000) (hr : ER encG 2 w b off gs)
    (h1 : w.cell? ⟨Bl, 0, none⟩ = some (.slice (some ⟨b, off, none⟩) gs.length c)) (h2 : w.cell? ⟨Bg, 0, none⟩ = some (.int .i64 g)) :
    Calls Try.prog 46 #[.int .i64 x, .pointer (some ⟨Bl, 0, none⟩), .pointer (some ⟨Bg, 0, none⟩)] w fun e w' => e = .returned (.bool (decide (0 < x) && (par gs x == g))) ∧ Below w.heap.size w w' := by
  obtain ⟨⟨p, q⟩, hg⟩ : ∃ g, gs[x]? = some g := ⟨_, List.getElem?_eq_getElem hx⟩
  have c0 := (hr.grp hg).1
  have hp := par_get hg
  dsimp only at c0 hp
  rw [hp]
  clear hr hg hp
  by_cases h0 : 0 < x
  · have h0' : (0 : Int) < (x : Int) := by omega
    rw [show decide (0 < x) = true from by simp [h0], Bool.true_and]
    go_enter Try.func46, Try.ntmps46
    go_wp2
    go_quiet (fail)
    go_wp2
    go_ret
    exact ⟨rfl, below_drewN (Below.refl _ _) _⟩
  · obtain rfl : x = 0 := by omega
    have h0' : decide ((0 : Int) < ((0 : Nat) : Int)) = false := by simp
    go_enter Try.func46, Try.ntmps46
    go_wp2
    go_quiet (fail)
    go_wp2
    go_ret
    exact ⟨rfl, below_drewN (Below.refl _ _) _⟩


/-- A function with one range over a function returns, its result lies in a cell. -/
theorem results_cell47 (w : World) (tmps : Array Value) (B : Nat) (b : Bool) (ht : tmps.getD 4 undef = .pointer (some ⟨B, 0, none⟩)) (hc : w.cell? ⟨B, 0, none⟩ = some (.bool b)) :
    (results Try.f47 tmps).run Try.prog w = .ok (.bool b) w := by
  have ht' : tmps[4]?.getD undef = .pointer (some ⟨B, 0, none⟩) := by simpa using ht
  simp [results, Try.results47, go_sem, ht', hc]
theorem post_mark_cell {P : Program} {fn : Func} {R : Ending → World → Prop} {tmps : Array Value} {w : World} {D : Nat} {v : Value}
    (hK : w.heap[D]? = some (.deferred (some []))) (hr : (results fn tmps).run P (w.putObj D (.deferred none)) = .ok v (w.putObj D (.deferred none))) (hR : R (.returned v) (w.putObj D (.deferred none))) :
    bodyPostM W0 0 P fn R .ret { tmps, defers := [{ target := .collected D, args := #[] }] } w :=
  ⟨by simp, .inl ⟨_, _, rfl, run_takeDeferred hK, ⟨_, hr, hR⟩⟩⟩
theorem notin_path {p : List Nat} {g k x : Nat} (h : g ∉ p.take k) (hx : p[k]? = some x) (hne : ¬ x = g) : g ∉ p.take (k + 1) := notin_step h hx (fun e => hne e.symm)

set_option maxHeartbeats 400000 in
theorem under1_ok (w : World) (Bl Bg b off c x g : Nat) (gs : List (Int × Int)) (hok : GOK gs) (hx : x < gs.length) (hlen : gs.length ≤ 100000) (hr : ER encG 2 w b off gs)
    (h1 : w.cell? ⟨Bl, 0, none⟩ = some (.slice (some ⟨b, off, none⟩) gs.length c)) (h2 : w.cell? ⟨Bg, 0, none⟩ = some (.int .i64 g)) :
    Calls Try.prog 47 #[.int .i64 x, .pointer (some ⟨Bl, 0, none⟩), .pointer (some ⟨Bg, 0, none⟩)] w fun e w' => e = .returned (.bool (underB gs g x)) ∧ Below w.heap.size w w' := by
  refine of_in ?_
  have D := Lib.hid (fun (w1 : World) (Bg Bl : Nat) (h : Below w.heap.size w w1) h1 h2 h3 h4 h5 => up1_iter w1 Bg Bl b off c x gs (path gs x) (path_up hok.bef (Nat.le_refl _) x hx) (path_head hok.bef hx) h1 h2 h3 (hr.below h) hlen h4 h5)
  have hbl : b < w.heap.size := hr.lt hok.pos (fun _ => by simp [encG_len])
  have hBg := cell_lt h2
  simp only at hBg
  have HU := Lib.hid (show underB gs g x = (path gs x).contains g from rfl)
  have HBB := Lib.hid h2
  clear hr hok
  generalize path gs x = p at D HU
  have hfn : ∀ f, W0.fn f := fun _ => trivial
  have hd0 : W0.depth = none := rfl
  have h1' : ∀ o, (w.alloc o).cell? ⟨Bl, 0, none⟩ = some (.slice (some ⟨b, off, none⟩) gs.length c) := fun o => below_cell ((Below.refl _ _).alloc (Nat.le_refl _) o) h1
  refine callsIn_of_wp_marks Try.func47 rfl trivial ?_ rfl
  simp only [Try.ntmps47, List.size_toArray, List.length_cons, List.length_nil, Nat.reduceAdd, Nat.reduceSub, Array.replicate_succ, Array.replicate_zero, List.push_toArray, List.append_toArray, List.nil_append, List.cons_append]
  gi_wp2
  clear h1'
  refine (up_ok _ _ _ _ _).mono ?_
  rintro e w1 ⟨rfl, hw⟩
  have hb0 : Below w.heap.size w w1 := by rw [← hw]; exact (((Below.refl _ _).alloc (Nat.le_refl _) _).alloc (by simp) _).alloc (by simp; omega) _
  have hz : w1.heap.size = w.heap.size + 3 := by rw [← hw]; simp
  have bx : Boxed w1 w.heap.size 4 (.bool false) := by rw [← hw]; exact ((Boxed.new _ _ _).alloc _).alloc _
  have i := D.out w1 (w.heap.size + 2) (w.heap.size + 1) hb0 (by rw [← hw]; simp [go_sem]) (by rw [← hw]; simp [go_sem]) (by rw [← hw]; simp [go_sem]) (by omega) (by omega)
  have h2' := hb0.cell (p := ⟨Bg, 0, none⟩) hBg
  rw [HBB.out] at h2'
  have HZ := Lib.hid hz
  clear hw h1 h2
  gi_wp2
  refine wp_range (xs := fun k => #[.int .i64 (p[k]?.getD 0 : Nat)]) rfl (enters_of Try.func55 (by kernel_rfl) rfl) i
    (fun k e => by subst e; omega) (fun k e => by omega) (fun k => rfl)
    (fun k W => Boxed W w.heap.size 4 (.bool false) ∧ g ∉ p.take k ∧ Below w.heap.size w W) (fun jc W => jc = .ret ∧ Boxed W w.heap.size 4 (.bool true) ∧ g ∈ p ∧ Below w.heap.size w W)
    (fun k W1 W2 h hc => ⟨h.1.chg hc (fun e => by simp at e), h.2.1, hc.below h.2.2 (Nat.le_refl _) (by omega) (fun k e => by omega)⟩)
    (fun k W1 W2 h hc => ⟨h.1, h.2.1.chg hc (fun e => by simp at e), h.2.2.1, hc.below h.2.2.2 (Nat.le_refl _) (by omega) (fun k e => by omega)⟩) ⟨bx, by simp, hb0⟩ ?round ?done ?stop
  case round =>
    rintro l k W hk hl hl2 ⟨q1, q2, q3⟩
    obtain ⟨y, hy⟩ : ∃ y, p[k]? = some y := ⟨_, List.getElem?_eq_getElem hk⟩
    rw [hy, Option.getD_some]
    have HY := Lib.hid hy
    have HN := Lib.hid q2
    clear hy q2
    gi_wp2
    refine ⟨BK.refl _ _, fun W2 hc hq => ?_⟩
    have g1 := q1.chg hc (fun t => t)
    have g3 := hc.below q3 (Nat.le_refl _) (by omega) (fun k t => t.elim)
    have g4 := g3.cell (p := ⟨Bg, 0, none⟩) hBg
    rw [HBB.out] at g4
    have g1c := g1.cell
    have g1f := g1.frozen
    clear q1 q3 hc hq bx i h2'
    by_cases he : y = g
    · subst he
      gi_wp2
      exact ⟨BK.setCell _ g1.cell (by simp; omega), rfl, g1.set _, List.mem_of_getElem? HY.out, g3.setCell (Nat.le_refl _) _⟩
    · have he' : ((y : Int) == (g : Int)) = false := by simp; omega
      have HE := Lib.hid he
      clear he
      gi_wp2
      exact ⟨BK.refl _ _, g1, notin_path HN.out HY.out HE.out, g3⟩
  case done =>
    rintro D W ⟨q1, q2, q3⟩ hD hK
    have q1c := q1.cell
    have q1f := q1.frozen
    have e : underB gs g x = false := by
      rw [HU.out]
      rw [List.take_of_length_le (Nat.le_refl _)] at q2
      simpa using q2
    have E := Lib.hid e
    have HQ := Lib.hid q2
    have hne : D ≠ w.heap.size := by omega
    have hK2 : (W.setCell ⟨w.heap.size, 0, none⟩ (.bool false)).heap[D]? = some (.deferred (some [])) := (Below.heap_setCell _ _ _ _ hne).trans hK
    clear bx i e q2 h2'
    gi_wp2
    refine post_mark_cell hK2 (results_cell47 _ _ w.heap.size false rfl ?_) ⟨ret_bool E.out.symm, below_putObj (q3.setCell (Nat.le_refl _) _) (by omega) _⟩
    have := (q1.set (.bool false)).chg (Chg.putObj (B := 0) (T := fun _ => False) (o' := .deferred none) hK2 rfl (Nat.zero_le _)) (fun t => t)
    exact this.cell
  case stop =>
    rintro D jc W ⟨rfl, q1, q2, q3⟩ hD hK
    have e : underB gs g x = true := by
      rw [HU.out]
      simpa using q2
    have E := Lib.hid e
    have HQ := Lib.hid q2
    clear bx i e q2 h2'
    gi_wp2
    refine post_mark_cell hK (results_cell47 _ _ w.heap.size true rfl ?_) ⟨ret_bool E.out.symm, below_putObj q3 (by omega) _⟩
    have := q1.chg (Chg.putObj (B := 0) (T := fun _ => False) (o' := .deferred none) hK rfl (Nat.zero_le _)) (fun t => t)
    exact this.cell

set_option maxHeartbeats 400000 in
theorem children_ok (w : World) (v : Value) (gs : List (Int × Int)) (z : Int) (hv : EV encG 2 w v gs) (hlen : gs.length ≤ 100000) :
    Calls Try.prog 24 #[v, .int .i64 z] w fun e w' => ∃ r, e = .returned (.tuple #[r, .int .i64 (thereZ gs [z])]) ∧ OV encI 1 3 w.heap.size w' r (childL gs z) ∧ Below w.heap.size w w' := by
  have HT := Lib.hid (fun (w1 : World) (h : Below w.heap.size w w1) => there_one w1 v gs z (hv.below h) hlen)
  obtain ⟨A, c, rfl⟩ := hv.shape
  by_cases ht : thereZ gs [z] = 0
  · have hd : childL gs z = chosen (childB gs z.toNat) gs.length := if_pos ht
    obtain ⟨hok, hz⟩ := there_zero.1 ht
    obtain ⟨hz1, hz2⟩ := hz z (by simp)
    obtain ⟨g, rfl⟩ := Int.eq_ofNat_of_zero_le hz1
    rw [Int.toNat_natCast] at hd
    obtain ⟨b, off, c', he, hc, hr⟩ := hv.row hok.pos
    simp only [Value.slice.injEq, true_and] at he
    obtain ⟨rfl, rfl⟩ := he
    have C := Lib.hid (fun (w1 : World) (Bl Bg : Nat) (h : Below w.heap.size w w1) (h1 : w1.cell? ⟨Bl, 0, none⟩ = some (.slice (some ⟨b, off, none⟩) gs.length c)) (h2 : w1.cell? ⟨Bg, 0, none⟩ = some (.int .i64 g)) =>
      those_ok w1 (some ⟨b, off, none⟩) gs.length c 46 #[.pointer (some ⟨Bl, 0, none⟩), .pointer (some ⟨Bg, 0, none⟩)] (childB gs g) hlen (enters_of Try.func46 (by kernel_rfl) rfl)
        (fun W x hb hx => child1_ok W Bl Bg b off c x g gs hx hlen (hr.below (h.trans (hb.mono h.size))) (below_cell hb h1) (below_cell hb h2)))
    rw [ht] at HT
    rw [ht, hd]
    clear hv hr hz hz1 hd ht hok
    go_enter Try.func24, Try.ntmps24
    go_wp2_with fail
    refine (HT.out _ (((Below.refl _ _).alloc (Nat.le_refl _) _).alloc (by simp) _) _ (by simp)).mono ?_
    rintro e w1 ⟨rfl, hb⟩
    have hb0 := (((Below.refl _ w).alloc (Nat.le_refl _) (.cells #[.slice (some ⟨b, off, none⟩) gs.length c] 24)).alloc (by simp) (.cells #[.int .i64 g] 3)).trans (hb.mono (by simp; omega))
    have c0 := below_cell hb (p := ⟨w.heap.size, 0, none⟩) (u := .slice (some ⟨b, off, none⟩) gs.length c) (by simp [go_sem])
    have c1 := below_cell hb (p := ⟨w.heap.size + 1, 0, none⟩) (u := .int .i64 g) (by simp [go_sem])
    have hsz := hb0.size
    clear hb HT
    go_wp2_with fail
    refine (C.out w1 w.heap.size (w.heap.size + 1) hb0 c0 c1).mono ?_
    rintro e w2 ⟨r, rfl, ho, hb2⟩
    have hb3 := hb0.trans (hb2.mono hsz)
    have ho' := ho.base_le hsz
    clear ho hb2 c0 c1
    go_wp2
    go_ret2
    exact ⟨r, rfl, ho', hb3⟩
  · have hd : childL gs z = [] := if_neg ht
    rw [hd]
    generalize thereZ gs [z] = t at HT ht ⊢
    have ht' : (t != 0) = true := by simp [ht]
    clear ht hv hd
    go_enter Try.func24, Try.ntmps24
    go_wp2_with fail
    refine (HT.out _ (((Below.refl _ _).alloc (Nat.le_refl _) _).alloc (by simp) _) _ (by simp)).mono ?_
    rintro e w1 ⟨rfl, hb⟩
    have hb0 := (((Below.refl _ w).alloc (Nat.le_refl _) (.cells #[.slice A gs.length c] 24)).alloc (by simp) (.cells #[.int .i64 z] 3)).trans (hb.mono (by simp; omega))
    clear hb HT
    go_wp2
    go_ret2
    exact ⟨_, rfl, OV.nil _ _, hb0⟩

set_option maxHeartbeats 400000 in
theorem under_ok (w : World) (v : Value) (gs : List (Int × Int)) (z : Int) (hv : EV encG 2 w v gs) (hlen : gs.length ≤ 100000) :
    Calls Try.prog 25 #[v, .int .i64 z] w fun e w' => ∃ r, e = .returned (.tuple #[r, .int .i64 (thereZ gs [z])]) ∧ OV encI 1 3 w.heap.size w' r (underL gs z) ∧ Below w.heap.size w w' := by
  have HT := Lib.hid (fun (w1 : World) (h : Below w.heap.size w w1) => there_one w1 v gs z (hv.below h) hlen)
  obtain ⟨A, c, rfl⟩ := hv.shape
  by_cases ht : thereZ gs [z] = 0
  · have hd : underL gs z = chosen (underB gs z.toNat) gs.length := if_pos ht
    obtain ⟨hok, hz⟩ := there_zero.1 ht
    obtain ⟨hz1, hz2⟩ := hz z (by simp)
    obtain ⟨g, rfl⟩ := Int.eq_ofNat_of_zero_le hz1
    rw [Int.toNat_natCast] at hd
    obtain ⟨b, off, c', he, hc, hr⟩ := hv.row hok.pos
    simp only [Value.slice.injEq, true_and] at he
    obtain ⟨rfl, rfl⟩ := he
    have C := Lib.hid (fun (w1 : World) (Bl Bg : Nat) (h : Below w.heap.size w w1) (h1 : w1.cell? ⟨Bl, 0, none⟩ = some (.slice (some ⟨b, off, none⟩) gs.length c)) (h2 : w1.cell? ⟨Bg, 0, none⟩ = some (.int .i64 g)) =>
      those_ok w1 (some ⟨b, off, none⟩) gs.length c 47 #[.pointer (some ⟨Bl, 0, none⟩), .pointer (some ⟨Bg, 0, none⟩)] (underB gs g) hlen (enters_of Try.func47 (by kernel_rfl) rfl)
        (fun W x hb hx => under1_ok W Bl Bg b off c x g gs hok hx hlen (hr.below (h.trans (hb.mono h.size))) (below_cell hb h1) (below_cell hb h2)))
    rw [ht] at HT
    rw [ht, hd]
    clear hv hr hz hz1 hd ht hok
    go_enter Try.func25, Try.ntmps25
    go_wp2_with fail
    refine (HT.out _ (((Below.refl _ _).alloc (Nat.le_refl _) _).alloc (by simp) _) _ (by simp)).mono ?_
    rintro e w1 ⟨rfl, hb⟩
    have hb0 := (((Below.refl _ w).alloc (Nat.le_refl _) (.cells #[.slice (some ⟨b, off, none⟩) gs.length c] 24)).alloc (by simp) (.cells #[.int .i64 g] 3)).trans (hb.mono (by simp; omega))
    have c0 := below_cell hb (p := ⟨w.heap.size, 0, none⟩) (u := .slice (some ⟨b, off, none⟩) gs.length c) (by simp [go_sem])
    have c1 := below_cell hb (p := ⟨w.heap.size + 1, 0, none⟩) (u := .int .i64 g) (by simp [go_sem])
    have hsz := hb0.size
    clear hb HT
    go_wp2_with fail
    refine (C.out w1 w.heap.size (w.heap.size + 1) hb0 c0 c1).mono ?_
    rintro e w2 ⟨r, rfl, ho, hb2⟩
    have hb3 := hb0.trans (hb2.mono hsz)
    have ho' := ho.base_le hsz
    clear ho hb2 c0 c1
    go_wp2
    go_ret2
    exact ⟨r, rfl, ho', hb3⟩
  · have hd : underL gs z = [] := if_neg ht
    rw [hd]
    generalize thereZ gs [z] = t at HT ht ⊢
    have ht' : (t != 0) = true := by simp [ht]
    clear ht hv hd
    go_enter Try.func25, Try.ntmps25
    go_wp2_with fail
    refine (HT.out _ (((Below.refl _ _).alloc (Nat.le_refl _) _).alloc (by simp) _) _ (by simp)).mono ?_
    rintro e w1 ⟨rfl, hb⟩
    have hb0 := (((Below.refl _ w).alloc (Nat.le_refl _) (.cells #[.slice A gs.length c] 24)).alloc (by simp) (.cells #[.int .i64 z] 3)).trans (hb.mono (by simp; omega))
    clear hb HT
    go_wp2
    go_ret2
    exact ⟨_, rfl, OV.nil _ _, hb0⟩

end Go.Proofs.Ytkkmmbmjpfecdaa

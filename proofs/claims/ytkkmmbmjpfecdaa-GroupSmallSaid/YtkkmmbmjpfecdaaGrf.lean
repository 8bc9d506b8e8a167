/- Contracts of group.Meet and group.Add. -/
import Derived.Test.YtkkmmbmjpfecdaaGre
namespace Go.Proofs.Ytkkmmbmjpfecdaa
open Go.RowKit Go.Shelf

section
variable {gs : List (Int × Int)}
/-- Where two groups meet: the later one of both goes up. -/
def m2F (gs : List (Int × Int)) : Nat → Nat → Nat → Nat
  | 0, a, _ => a
  | f + 1, a, b => if a = b then a else if b < a then m2F gs f (par gs a).toNat b else m2F gs f a (par gs b).toNat
def meet2 (gs : List (Int × Int)) (a b : Nat) : Nat := m2F gs (a + b) a b
theorem m2F_eq (h : Bef gs gs.length) : ∀ f a b, a < gs.length → b < gs.length → a + b ≤ f → m2F gs f a b = meet2 gs a b := by
  intro f
  induction f using Nat.strongRecOn with
  | _ f ih =>
    intro a b ha hb hf
    by_cases hab : a = b
    · subst hab
      unfold meet2
      cases f <;> cases a <;> simp [m2F]
    · rcases Nat.lt_or_ge b a with hlt | hge
      · obtain ⟨f', rfl⟩ : ∃ f', f = f' + 1 := ⟨f - 1, by omega⟩
        obtain ⟨k, hk⟩ : ∃ k, a + b = k + 1 := ⟨a + b - 1, by omega⟩
        obtain ⟨h1, h2⟩ := h a (by omega) ha
        unfold meet2
        rw [hk]
        simp only [m2F, if_neg hab, if_pos hlt]
        rw [ih f' (by omega) _ _ (by omega) hb (by omega), ← ih k (by omega) _ _ (by omega) hb (by omega)]
      · obtain ⟨f', rfl⟩ : ∃ f', f = f' + 1 := ⟨f - 1, by omega⟩
        obtain ⟨k, hk⟩ : ∃ k, a + b = k + 1 := ⟨a + b - 1, by omega⟩
        obtain ⟨h1, h2⟩ := h b (by omega) hb
        unfold meet2
        rw [hk]
        simp only [m2F, if_neg hab, if_neg (Nat.not_lt.2 hge)]
        rw [ih f' (by omega) _ _ ha (by omega) (by omega), ← ih k (by omega) _ _ ha (by omega) (by omega)]
theorem meet2_same (a : Nat) : meet2 gs a a = a := by
  unfold meet2
  cases h : a + a with
  | zero => rfl
  | succ k => simp [m2F]
theorem meet2_left (h : Bef gs gs.length) {a b : Nat} (ha : a < gs.length) (hb : b < gs.length) (hlt : b < a) : meet2 gs a b = meet2 gs (par gs a).toNat b := by
  obtain ⟨h1, h2⟩ := h a (by omega) ha
  obtain ⟨k, hk⟩ : ∃ k, a + b = k + 1 := ⟨a + b - 1, by omega⟩
  show m2F gs (a + b) a b = _
  rw [hk]
  simp only [m2F, if_neg (show ¬ a = b by omega), if_pos hlt]
  exact m2F_eq h k _ _ (by omega) hb (by omega)
theorem meet2_right (h : Bef gs gs.length) {a b : Nat} (ha : a < gs.length) (hb : b < gs.length) (hlt : a < b) : meet2 gs a b = meet2 gs a (par gs b).toNat := by
  obtain ⟨h1, h2⟩ := h b (by omega) hb
  obtain ⟨k, hk⟩ : ∃ k, a + b = k + 1 := ⟨a + b - 1, by omega⟩
  show m2F gs (a + b) a b = _
  rw [hk]
  simp only [m2F, if_neg (show ¬ a = b by omega), if_neg (show ¬ b < a by omega)]
  exact m2F_eq h k _ _ ha (by omega) (by omega)
theorem meet2_le (h : Bef gs gs.length) : ∀ n a b, a + b ≤ n → a < gs.length → b < gs.length → meet2 gs a b ≤ a ∧ meet2 gs a b ≤ b := by
  intro n
  induction n with
  | zero =>
    intro a b hn ha hb
    obtain rfl : a = 0 := by omega
    obtain rfl : b = 0 := by omega
    rw [meet2_same]; omega
  | succ n ih =>
    intro a b hn ha hb
    rcases Nat.lt_trichotomy a b with hlt | rfl | hlt
    · obtain ⟨h1, h2⟩ := h b (by omega) hb
      rw [meet2_right h ha hb hlt]
      have := ih a (par gs b).toNat (by omega) ha (by omega)
      omega
    · rw [meet2_same]; omega
    · obtain ⟨h1, h2⟩ := h a (by omega) ha
      rw [meet2_left h ha hb hlt]
      have := ih (par gs a).toNat b (by omega) (by omega) hb
      omega
/-- Meet. -/
def meetL (gs : List (Int × Int)) : List Int → Nat
  | [] => 0
  | z :: r => r.foldl (fun a z => meet2 gs a z.toNat) z.toNat
def meetZ (gs : List (Int × Int)) (zs : List Int) : Int := if thereZ gs zs = 0 then meetL gs zs else 0
end

set_option maxHeartbeats 1000000 in
theorem meet_ok (w : World) (v vs : Value) (gs : List (Int × Int)) (zs : List Int) (hv : EV encG 2 w v gs) (hs : EV encI 1 w vs zs) (hlen : gs.length ≤ 100000) (hlz : zs.length ≤ 100000) :
    Calls Try.prog 12 #[v, vs] w fun e w' => e = .returned (.tuple #[.int .i64 (meetZ gs zs), .int .i64 (thereZ gs zs)]) ∧ Below w.heap.size w w' := by
  have HT := Lib.hid (there_ok w v vs gs zs hv hs hlen hlz)
  by_cases ht : thereZ gs zs = 0
  · have hd : meetZ gs zs = meetL gs zs := if_pos ht
    obtain ⟨hok, hz⟩ := there_zero.1 ht
    obtain ⟨b, off, c, rfl, hc, hr⟩ := hv.row hok.pos
    rw [ht] at HT
    rw [ht, hd]
    cases zs with
    | nil =>
      obtain ⟨A, c', rfl⟩ := hs.shape
      clear hv hs hr hd ht hz hok
      go_enter Try.func12, Try.ntmps12
      go_wp2_with (go_at_call 31; refine HT.out.mono ?_; rintro e w1 ⟨rfl, hb⟩)
      go_ret2
      exact ⟨rfl, hb⟩
    | cons z0 zr =>
      obtain ⟨b', off', c', rfl, hc', hrs⟩ := hs.row (by simp)
      have HR := Lib.hid hr
      have HRS := Lib.hid hrs
      have HZ := Lib.hid hz
      have HOK := Lib.hid hok
      have hz0 := (hz z0 (by simp)).1
      clear hv hs hr hd ht hrs hz hok
      obtain ⟨a0, rfl⟩ := Int.eq_ofNat_of_zero_le hz0
      cases zr with
      | nil =>
        have e : meetL gs [(a0 : Int)] = a0 := by simp [meetL]
        rw [e]
        clear e HZ
        simp only [List.length_cons, List.length_nil, Nat.zero_add] at hc' ⊢
        by_cases hc1 : c' = 1
        all_goals
          first | subst hc1 | skip
          go_enter Try.func12, Try.ntmps12
          go_wp2_with (go_at_call 31; refine HT.out.mono ?_; rintro e w1 ⟨rfl, hb⟩; have HB := Lib.hid hb; have c0 := (HRS.out.below hb).get1 (i := 0) (by simp); simp only [List.getElem?_cons_zero, Option.some.injEq, exists_eq_left', Nat.add_zero] at c0; clear hb)
          refine wp_loop_rounds 1 ?_
          rw [rounds_succ]
          go_wp2
          go_ret2
          exact ⟨rfl, HB.out⟩
      | cons z1 zr =>
        have hz0' := ((HZ.out a0 (by simp)).2)
        have HLZ := Lib.hid (show (a0 : Int) :: z1 :: zr = (a0 : Int) :: (z1 :: zr) from rfl)
        obtain ⟨zt, hzt⟩ : ∃ zt, z1 :: zr = zt := ⟨_, rfl⟩
        have hzl : 1 ≤ zt.length := by rw [← hzt]; simp
        rw [hzt] at HT HRS HZ hlz hc' ⊢
        clear HLZ hzt
        have HE := Lib.hid (show meetL gs ((a0 : Int) :: zt) = zt.foldl (fun a z => meet2 gs a z.toNat) a0 from by simp [meetL])
        generalize meetL gs ((a0 : Int) :: zt) = res at HE ⊢
        simp only [List.length_cons] at hlz hc' ⊢
        have hc1 : ¬ c' = 1 := by omega
        go_enter Try.func12, Try.ntmps12
        go_wp2_with (go_at_call 31; refine HT.out.mono ?_; rintro e w1 ⟨rfl, hb⟩; have HB := Lib.hid hb; have c0 := (HRS.out.below hb).get1 (i := 0) (by simp); simp only [List.getElem?_cons_zero, Option.some.injEq, exists_eq_left', Nat.add_zero] at c0; clear hb)
        have hr1 := HR.out.below HB.out
        have hrs1 := HRS.out.below HB.out
        have HR1 := Lib.hid hr1
        have HRS1 := Lib.hid hrs1
        clear hr1 hrs1 c0
        go_loopg [7, 25] zt.length (fun k v i wr => ∃ a j : Nat, j + k = zt.length ∧ i = .int .i64 j ∧ v = .int .i64 a ∧ a < gs.length ∧ w1 = wr ∧ (zt.take j).foldl (fun a z => meet2 gs a z.toNat) a0 = a)
        case atStart => exact ⟨a0, 0, by omega, rfl, rfl, by omega, rfl, rfl⟩
        case round =>
          obtain ⟨a, j, hj, rfl, rfl, ha, rfl, hf⟩ := hrel
          have HJ := Lib.hid hj
          have HF := Lib.hid hf
          clear hj hf
          by_cases hlt : j < zt.length
          · obtain ⟨z, hz, cz⟩ := HRS1.out.get1 (i := j + 1) (by simp; omega)
            have cz' : w1.cell? ⟨b', off' + 1 + j, none⟩ = some (.int .i64 z) := by rw [Nat.add_assoc, Nat.add_comm 1 j]; exact cz
            rw [List.getElem?_cons_succ] at hz
            have hzz := HZ.out z (List.mem_cons_of_mem _ (List.mem_of_getElem? hz))
            obtain ⟨y0, rfl⟩ := Int.eq_ofNat_of_zero_le hzz.1
            have hy0 : y0 < gs.length := by omega
            have HZJ := Lib.hid hz
            clear hz cz hzz
            go_wp2
            obtain ⟨gko, hgko⟩ : ∃ n, n = gk := ⟨_, rfl⟩
            have HGK := Lib.hid hgko
            clear hgko
            go_loopg [7, 9] (a + y0) (fun k v u wr => ∃ x y : Nat, x + y ≤ k ∧ v = .int .i64 x ∧ u = .int .i64 y ∧ x < gs.length ∧ y < gs.length ∧ w1 = wr ∧ meet2 gs x y = meet2 gs a y0)
            case atStart => exact ⟨a, y0, by omega, rfl, rfl, ha, hy0, rfl, rfl⟩
            case round =>
              obtain ⟨x, y, hk, rfl, rfl, hx, hy, rfl, hm⟩ := hrel
              have HM := Lib.hid hm
              clear hm
              obtain ⟨⟨p, q⟩, hg⟩ : ∃ g, gs[x]? = some g := ⟨_, List.getElem?_eq_getElem hx⟩
              obtain ⟨⟨p', q'⟩, hg'⟩ : ∃ g, gs[y]? = some g := ⟨_, List.getElem?_eq_getElem hy⟩
              have d0 := (HR1.out.grp hg).1
              have d1 := (HR1.out.grp hg').1
              have hp := par_get hg
              have hp' := par_get hg'
              dsimp only at d0 d1 hp hp'
              rcases Nat.lt_trichotomy x y with hxy | rfl | hxy
              · obtain ⟨h1, h2⟩ := HOK.out.bef y (by omega) hy
                have HME := Lib.hid (meet2_right HOK.out.bef hx hy hxy)
                rw [hp'] at h1 h2 HME
                obtain ⟨p2, rfl⟩ := Int.eq_ofNat_of_zero_le h1
                have hne : ((x : Int) != (y : Int)) = true := by simp; omega
                clear hg hg' hp hp' h1
                go_wp2
                go_roundg (gk - 1)
                case measure => omega
                case rel => exact ⟨x, p2, by omega, rfl, rfl, hx, by omega, rfl, by rw [← HM.out, HME.out, Int.toNat_natCast]⟩
              · have hne : ((x : Int) != (x : Int)) = false := by simp
                have HS := Lib.hid (meet2_same (gs := gs) x)
                clear hg hg' hp hp'
                go_wp2
                go_roundg (gko - 1)
                case measure => have := HJ.out; have := HGK.out; omega
                case rel =>
                  refine ⟨x, j + 1, by have := HJ.out; have := HGK.out; omega, by go_num, rfl, hx, rfl, ?_⟩
                  rw [List.take_add_one, HZJ.out, List.foldl_append, HF.out, ← HS.out, HM.out]
                  simp
              · obtain ⟨h1, h2⟩ := HOK.out.bef x (by omega) hx
                have HME := Lib.hid (meet2_left HOK.out.bef hx hy hxy)
                rw [hp] at h1 h2 HME
                obtain ⟨p2, rfl⟩ := Int.eq_ofNat_of_zero_le h1
                have hne : ((x : Int) != (y : Int)) = true := by simp; omega
                clear hg hg' hp hp' h1
                go_wp2
                go_roundg (gk - 1)
                case measure => omega
                case rel => exact ⟨p2, y, by omega, rfl, rfl, by omega, hy, rfl, by rw [← HM.out, HME.out, Int.toNat_natCast]⟩
          · have e : res = a := by
              have := HF.out
              rw [List.take_of_length_le (by omega)] at this
              rw [HE.out, this]
            have E := Lib.hid e
            clear e
            go_wp2
            go_ret2
            exact ⟨by rw [E.out]; rfl, HB.out⟩
  · have hd : meetZ gs zs = 0 := if_neg ht
    obtain ⟨A, c, rfl⟩ := hv.shape
    obtain ⟨A', c', rfl⟩ := hs.shape
    rw [hd]
    generalize thereZ gs zs = t at HT ht ⊢
    have ht' : (t != 0) = true := by simp [ht]
    clear ht hv hd hs
    go_enter Try.func12, Try.ntmps12
    go_wp2_with (go_at_call 31; refine HT.out.mono ?_; rintro e w1 ⟨rfl, hb⟩)
    go_ret2
    exact ⟨rfl, hb⟩

theorem elemG : ElemT Try.prog 24 38 2 16 := ⟨Try.underlying24, by
  have h : (Try.prog.info? 38).map (fun i => (i.zero, i.size, i.bytes)) = some (some (.agg #[.int .i64 0, .int .i64 0]), 2, 16) := by kernel_rfl
  obtain ⟨i, h1, h2, h3, h4⟩ := info_parts h
  exact ⟨i, _, h1, h2, h3, h4, rfl⟩, by omega, by omega⟩
set_option maxHeartbeats 400000 in
theorem clone_grp (w : World) (v1 : Value) (xs : List (Int × Int)) (h1 : EV encG 2 w v1 xs) (b1 : xs.length ≤ 1000000000) :
    Calls Try.prog 18 #[v1] w fun e w' => ∃ v, e = .returned v ∧ OV encG 2 38 w.heap.size w' v xs ∧ Below w.heap.size w w' := by
  obtain ⟨A, c, rfl⟩ := h1.shape
  have H1 := Lib.hid h1
  clear h1
  have heq : ∀ (w : World) (a : Option Addr) (n c n' c' : Nat), (binOp .eql 24 (.slice a n c) (.slice none n' c')).run Try.prog w = .ok (.bool a.isNone) w := fun w a n c n' c' => Lib.run_eql_slice_nil w _ _ a n c n' c' Try.underlying24
  cases A with
  | none =>
    obtain rfl : xs = [] := by
      rcases H1.out with ⟨h, _⟩ | ⟨_, b, off, c', h, _⟩
      · exact h
      · cases h
    clear H1 b1
    go_enter Try.func18, Try.ntmps18
    go_wp2
    go_ret
    exact ⟨_, rfl, OV.nil _ _, Below.refl _ _⟩
  | some ad =>
    go_enter Try.func18, Try.ntmps18
    go_wp2_with (at_builtin; refine wpList_app elemG encG_len encG_one rfl _ _ rfl _ _ rfl rfl (OV.made w 0 #[] (Nat.le_refl _) (Nat.zero_le _) rfl) (H1.out.keep fun p u hc => ?qc) ?qn ?qb ?_)
    case qc => exact (World.cell?_alloc_lt w _ p (cell_lt hc)).trans hc
    case qn => simpa using b1
    case qb => simp
    intro v' w1 hown hgrow
    go_wp2
    go_ret
    refine ⟨v', rfl, by simpa using hown, ((Below.refl _ w).alloc (Nat.le_refl _) _).grown hgrow (by simp) (by intro k hk; simp [Value.ownBlock] at hk; omega)⟩


def addE (gs : List (Int × Int)) (p wt : Int) : Int :=
  if thereZ gs [p] ≠ 0 then thereZ gs [p] else if wB wt = false then 2 else if gs.length = 256 then 5 else if dep gs p.toNat = 4 then 193 else 0
def addL (gs : List (Int × Int)) (p wt : Int) : List (Int × Int) := if addE gs p wt = 0 then gs ++ [(p, wt)] else []

set_option maxHeartbeats 1000000 in
theorem add_ok (w : World) (v : Value) (gs : List (Int × Int)) (z wt : Int) (hv : EV encG 2 w v gs) (hlen : gs.length ≤ 100000) :
    Calls Try.prog 19 #[v, .int .i64 z, .int .i64 wt] w fun e w' => ∃ r, e = .returned (.tuple #[r, .int .i64 (addE gs z wt)]) ∧ OV encG 2 38 w.heap.size w' r (addL gs z wt) ∧ Below w.heap.size w w' := by
  have HT := Lib.hid (there_one w v gs z hv hlen _ rfl)
  have HA := Lib.hid (show addE gs z wt = if thereZ gs [z] ≠ 0 then thereZ gs [z] else if wB wt = false then 2 else if gs.length = 256 then 5 else if dep gs z.toNat = 4 then 193 else 0 from rfl)
  have HL := Lib.hid (show addL gs z wt = if addE gs z wt = 0 then gs ++ [(z, wt)] else [] from rfl)
  by_cases ht : thereZ gs [z] = 0
  · obtain ⟨hok, hz⟩ := there_zero.1 ht
    obtain ⟨hz1, hz2⟩ := hz z (by simp)
    obtain ⟨g, rfl⟩ := Int.eq_ofNat_of_zero_le hz1
    obtain ⟨b, off, c, rfl, hc, hr⟩ := hv.row hok.pos
    have hg : g < gs.length := by omega
    have hbl : b < w.heap.size := hr.lt hok.pos (fun _ => by simp [encG_len])
    have D := Lib.hid (fun (w1 : World) (h : Below w.heap.size w w1) => of_in (depth_ok w1 b off c g gs (path gs g) (path_up hok.bef (Nat.le_refl _) g hg) (path_head hok.bef hg) (hr.below h) hlen (by have := path_le hok.bef g hg; omega) (by have := h.size; omega)))
    have CL := Lib.hid (fun (w1 : World) (h : Below w.heap.size w w1) => clone_grp w1 _ gs (hv.below h) (by omega))
    have hp := path_len_pos hok.bef hg
    have e : ((path gs g).length : Int) - 1 = dep gs g := by unfold dep; omega
    have hm := hok.many
    rw [e] at D
    rw [ht] at HT
    rw [ht, if_neg (by simp), Int.toNat_natCast] at HA
    generalize dep gs g = d at D HA
    clear hv hr hz hz1 ht e hok hp
    cases hw : wB wt with
    | false =>
      have e : addE gs g wt = 2 := by rw [HA.out, if_pos hw]
      rw [HL.out, e, if_neg (by simp)]
      clear HA HL D e
      go_enter Try.func19, Try.ntmps19
      go_wp2_with (first | (go_at_call 31; refine HT.out.mono ?_; rintro e w' ⟨rfl, hb⟩) | (go_at_call 43; refine (weighs_ok _ _).mono ?_; rintro e w' ⟨rfl, rfl⟩))
      go_ret2
      exact ⟨_, rfl, OV.nil _ _, hb⟩
    | true =>
      by_cases h256 : gs.length = 256
      · have e : addE gs g wt = 5 := by rw [HA.out, if_neg (by simp [hw]), if_pos h256]
        have h' : ((gs.length : Int) == 256) = true := by simp; omega
        rw [HL.out, e, if_neg (by simp)]
        clear HA HL D e h256
        go_enter Try.func19, Try.ntmps19
        go_wp2_with (first | (go_at_call 31; refine HT.out.mono ?_; rintro e w' ⟨rfl, hb⟩) | (go_at_call 43; refine (weighs_ok _ _).mono ?_; rintro e w' ⟨rfl, rfl⟩))
        go_ret2
        exact ⟨_, rfl, OV.nil _ _, hb⟩
      · have h' : ((gs.length : Int) == 256) = false := by simp; omega
        by_cases hd : d = 4
        · have e : addE gs g wt = 193 := by rw [HA.out, if_neg (by simp [hw]), if_neg h256, if_pos hd]
          subst hd
          rw [HL.out, e, if_neg (by simp)]
          clear HA HL e h256
          go_enter Try.func19, Try.ntmps19
          go_wp2_with (first | (go_at_call 31; refine HT.out.mono ?_; rintro e w' ⟨rfl, hb⟩; have hd1 := D.out _ hb; have HD1 := Lib.hid hd1; clear hd1) | (go_at_call 43; refine (weighs_ok _ _).mono ?_; rintro e w' ⟨rfl, rfl⟩) | (go_at_call 44; refine HD1.out.mono ?_; rintro e w2 ⟨rfl, hb2⟩))
          go_ret2
          exact ⟨_, rfl, OV.nil _ _, hb.trans (hb2.mono hb.size)⟩
        · have e : addE gs g wt = 0 := by rw [HA.out, if_neg (by simp [hw]), if_neg h256, if_neg hd]
          have hd' : ((d : Int) == 4) = false := by simp; omega
          rw [HL.out, e, if_pos rfl]
          clear HA HL e h256 hd
          go_enter Try.func19, Try.ntmps19
          go_wp2_with (first | (go_at_call 31; refine HT.out.mono ?_; rintro e w' ⟨rfl, hb⟩; have hd1 := D.out _ hb; have HD1 := Lib.hid hd1; clear hd1) | (go_at_call 43; refine (weighs_ok _ _).mono ?_; rintro e w' ⟨rfl, rfl⟩) | (go_at_call 44; refine HD1.out.mono ?_; rintro e w2 ⟨rfl, hb2⟩))
          have hb3 := hb.trans (hb2.mono hb.size)
          have hsz3 := hb3.size
          refine (CL.out w2 hb3).mono ?_
          rintro e w3 ⟨v3, rfl, ho3, hb4⟩
          have ho4 := ho3.base_le hsz3
          have hb5 := hb3.trans (hb4.mono hsz3)
          have hsz5 := hb5.size
          have hnew : EV encG 2 (w3.alloc (.cells #[.int .i64 g, .int .i64 wt] 38)) (.slice (some ⟨w3.heap.size, 0, none⟩) 1 1) [((g : Int), wt)] := EV.new1 rfl (Nat.le_refl _)
          clear hb2 hb3 ho3 hb4 D CL HD1
          go_wp2_with (at_builtin; refine wpList_app elemG encG_len encG_one rfl _ _ rfl _ _ rfl rfl (ho4.alloc _) hnew ?q1 ?q2 ?_)
          case q1 => simp; omega
          case q2 => simp; omega
          intro v' w4 hown hgrow
          have hb6 : Below w.heap.size w w4 := (hb5.alloc hsz5 _).grown hgrow (by simp; omega) (fun k hk => (ho4.block k hk).1)
          clear hgrow hnew
          go_wp2
          go_ret2
          exact ⟨_, rfl, hown, hb6⟩
  · have e : addE gs z wt = thereZ gs [z] := by rw [HA.out, if_pos ht]
    rw [HL.out, e, if_neg ht]
    generalize thereZ gs [z] = t at HT ht ⊢
    have ht' : (t != 0) = true := by simp [ht]
    clear ht hv HA HL e
    go_enter Try.func19, Try.ntmps19
    go_wp2_with (go_at_call 31; refine HT.out.mono ?_; rintro e w' ⟨rfl, hb⟩)
    go_ret2
    exact ⟨_, rfl, OV.nil _ _, hb⟩
end Go.Proofs.Ytkkmmbmjpfecdaa

/- The reference: Both. -/
import Derived.Test.YtalophngappkhaaGreatDoorSu
import Derived.Deep.CutBlock
import Derived.StillTailTactics
set_option linter.unusedVariables false
set_option linter.unusedSimpArgs false
set_option linter.unusedSectionVars false
namespace Go.Proofs.YtalophngappkhaaGreatDoor
open Go.RowKit Go.Shelf

theorem bdr_rng {a : List (Int × Int)} (ha : Can 0 a) : ∀ x ∈ bdr a, 1 ≤ x ∧ x ≤ 281474976710657 := fun x hx => by
  obtain ⟨r, hr, e⟩ := bdr_mem.1 hx
  obtain ⟨i, hi⟩ := List.getElem?_of_mem hr
  obtain ⟨h1, h2, h3, h4⟩ := rok_iff.1 (can_get ha hi).1
  have : nxt r = r.1 + r.2 := rfl
  omega
/-- All borders of two sets, in order. -/
structure Brd (a b : List (Int × Int)) (o : List Int) : Prop where
  pw : o.Pairwise (· < ·)
  mem : ∀ x, x ∈ o ↔ x ∈ bdr a ++ bdr b
  ca : Can 0 a
  cb : Can 0 b
section
variable {tk : Bool → Bool → Bool} {a b : List (Int × Int)} {o : List Int} {out : List (Int × Int)} {j : Nat} {p q : Int}
theorem Brd.lt (h : Brd a b o) {i j : Nat} {x y : Int} (hij : i < j) (hx : o[i]? = some x) (hy : o[j]? = some y) : x < y := by
  have h1 := (List.getElem?_eq_some_iff.1 hx)
  have h2 := (List.getElem?_eq_some_iff.1 hy)
  obtain ⟨a1, rfl⟩ := h1
  obtain ⟨a2, rfl⟩ := h2
  exact List.pairwise_iff_getElem.1 h.pw i j a1 a2 hij
theorem Brd.rng (h : Brd a b o) {x : Int} (hx : x ∈ o) : 1 ≤ x ∧ x ≤ 281474976710657 := by
  rcases List.mem_append.1 ((h.mem x).1 hx) with hx | hx
  · exact bdr_rng h.ca x hx
  · exact bdr_rng h.cb x hx
theorem Brd.ina (h : Brd a b o) {x : Int} (hx : x ∈ bdr a) : x ∈ o := (h.mem x).2 (List.mem_append_left _ hx)
theorem Brd.inb (h : Brd a b o) {x : Int} (hx : x ∈ bdr b) : x ∈ o := (h.mem x).2 (List.mem_append_right _ hx)
theorem Brd.first (h : Brd a b o) (hp : o[0]? = some p) : ∀ x ∈ o, p ≤ x := fun x hx => by
  obtain ⟨i, hi⟩ := List.getElem?_of_mem hx
  rcases Nat.eq_zero_or_pos i with rfl | h0
  · rw [hp] at hi; cases hi; exact Int.le_refl _
  · exact Int.le_of_lt (h.lt h0 hp hi)
theorem Brd.gap (h : Brd a b o) (hp : o[j]? = some p) (hq : o[j + 1]? = some q) : ∀ x ∈ o, ¬ (p < x ∧ x < q) := fun x hx ⟨h1, h2⟩ => by
  obtain ⟨i, hi⟩ := List.getElem?_of_mem hx
  rcases Nat.lt_trichotomy i j with hl | rfl | hl
  · have := h.lt hl hi hp; omega
  · rw [hp] at hi; cases hi; omega
  · rcases Nat.lt_or_ge (j + 1) i with h3 | h3
    · have := h.lt h3 hq hi; omega
    · obtain rfl : i = j + 1 := by omega
      rw [hq] at hi; cases hi; omega
theorem Brd.last (h : Brd a b o) (hp : o[j]? = some p) (hj : o.length ≤ j + 1) : ∀ x ∈ o, x ≤ p := fun x hx => by
  obtain ⟨i, hi⟩ := List.getElem?_of_mem hx
  have hil := (List.getElem?_eq_some_iff.1 hi).1
  rcases Nat.lt_or_ge i j with hl | hl
  · exact Int.le_of_lt (h.lt hl hi hp)
  · obtain rfl : i = j := by omega
    rw [hp] at hi; cases hi; exact Int.le_refl _
/-- Where j borders have been passed. -/
def RbI (tk : Bool → Bool → Bool) (a b : List (Int × Int)) (o : List Int) (j : Nat) (out : List (Int × Int)) : Prop :=
  out.length ≤ j ∧ ((j = 0 ∧ out = []) ∨ ∃ p, o[j]? = some p ∧ Rb tk a b p out)
theorem RbI.at_ (h : RbI tk a b o j out) (ht : tk false false = false) (hb : Brd a b o) (hp : o[j]? = some p) : Rb tk a b p out := by
  rcases h.2 with ⟨rfl, rfl⟩ | ⟨p', hp', hr⟩
  · exact rb0 ht (by have := hb.rng (List.mem_of_getElem? hp); omega) (fun x hx => hb.first hp x (hb.ina hx)) (fun x hx => hb.first hp x (hb.inb hx))
  · rw [hp] at hp'; cases hp'; exact hr
theorem RbI.next (h : RbI tk a b o j out) (ht : tk false false = false) (hb : Brd a b o) (hp : o[j]? = some p) (hq : o[j + 1]? = some q) :
    1 ≤ p ∧ p < q ∧ q ≤ 281474976710657 ∧ Can 0 out ∧ endR 0 out ≤ p ∧ RbI tk a b o (j + 1) (if tk (hasR a p) (hasR b p) = true then addR out (p, q - p) else out) := by
  have h1 := h.at_ ht hb hp
  have hp1 := (hb.rng (List.mem_of_getElem? hp)).1
  have hq1 := (hb.rng (List.mem_of_getElem? hq)).2
  have hlt := hb.lt (Nat.lt_succ_self j) hp hq
  refine ⟨hp1, hlt, hq1, h1.can, h1.le, ?_, .inr ⟨q, hq, h1.step hp1 hlt hq1 (fun x hx => hb.gap hp hq x (hb.ina hx)) (fun x hx => hb.gap hp hq x (hb.inb hx))⟩⟩
  have := h.1
  have := addR_len out (p, q - p)
  split <;> omega
theorem RbI.done (h : RbI tk a b o j out) (ht : tk false false = false) (hb : Brd a b o) (hj : o.length ≤ j + 1) : out = bothL tk a b := by
  rcases Nat.eq_zero_or_pos o.length with h0 | h0
  · have ho : o = [] := List.eq_nil_of_length_eq_zero h0
    subst ho
    have hout : out = [] := by
      rcases h.2 with ⟨_, rfl⟩ | ⟨p, hp, _⟩
      · rfl
      · simp at hp
    subst hout
    refine rb_both ht hb.ca hb.cb (can_nil _) fun n => ?_
    rw [has_none (l := a) (.inl fun x hx => by have := hb.ina hx; simp at this), has_none (l := b) (.inl fun x hx => by have := hb.inb hx; simp at this), ht]; rfl
  · have hjl : j < o.length := by
      rcases h.2 with ⟨rfl, _⟩ | ⟨p, hp, _⟩
      · exact h0
      · exact (List.getElem?_eq_some_iff.1 hp).1
    have hp : o[j]? = some o[j] := List.getElem?_eq_getElem hjl
    have h1 := h.at_ ht hb hp
    exact rb_both ht hb.ca hb.cb h1.can fun n => h1.done ht (fun x hx => hb.last hp hj x (hb.ina hx)) (fun x hx => hb.last hp hj x (hb.inb hx)) n
end
/-- What the reference's Both is asked to take. -/
def tkT (t : Int) (x y : Bool) : Bool := (x && !y && decide (t % 2 = 1)) || (!x && y && decide (t / 2 % 2 = 1)) || (x && y && decide (t / 4 = 1))
theorem tkT_ff (t : Int) : tkT t false false = false := rfl
theorem tkT7 : tkT 7 = tkU := by funext x y; cases x <;> cases y <;> rfl
theorem tkT4 : tkT 4 = tkC := by funext x y; cases x <;> cases y <;> rfl
theorem tkT1 : tkT 1 = tkW := by funext x y; cases x <;> cases y <;> rfl
theorem addR_len' (l : List (Int × Int)) (r : Int × Int) (h : l.length ≤ 300000) : (addR l r).length ≤ 300001 := by have := addR_len l r; omega

set_option maxRecDepth 100000 in
set_option maxHeartbeats 4000000 in
theorem rboth_ok (w : World) (v u : Value) (a b : List (Int × Int)) (t : Int) (hv : EV encP 2 w v a) (hu : EV encP 2 w u b) (hla : a.length ≤ 100000000) (hlb : b.length ≤ 100000000) (ht0 : 0 ≤ t) (ht7 : t ≤ 7) :
    Calls Tryz.prog 75 #[v, u, .int .i64 t] w fun e w' => ∃ r, e = .returned (.tuple #[r, .int .i64 (rerr [a, b])]) ∧ OV encP 2 137 w.heap.size w' r (if rerr [a, b] = 0 then bothL (tkT t) a b else []) ∧ Below w.heap.size w w' := by
  have RA := Lib.hid (rright_ok w v a hv (by omega))
  have RB := Lib.hid (fun (w2 : World) (h : Below w.heap.size w w2) => rright_ok w2 u b (hu.below h) (by omega))
  have HE := Lib.hid (show rerr [a, b] = if rightB a = true ∧ rightB b = true then 0 else 90 from by
    by_cases h : rightB a = true ∧ rightB b = true
    · rw [if_pos h]; exact rerr_two.2 h
    · rw [if_neg h]; exact (rerr_vals _).resolve_left (fun x => h (rerr_two.1 x)))
  obtain ⟨A1, c1, rfl⟩ := hv.shape
  obtain ⟨A2, c2, rfl⟩ := hu.shape
  have HV := Lib.hid hv
  have HU := Lib.hid hu
  cases hra : rightB a with
  | false =>
    rw [hra] at HE RA
    rw [HE.out, if_neg (by simp), if_neg (by simp)]
    clear hv hu hra RB
    go_enter Tryz.func75, Tryz.ntmps75
    go_wp2_with fail
    refine RA.out.mono ?_
    rintro e w1 ⟨rfl, b1⟩
    go_wp2
    go_ret2
    exact ⟨_, rfl, OV.nil _ _, b1⟩
  | true =>
  cases hrb : rightB b with
  | false =>
    rw [hra, hrb] at HE
    rw [hra] at RA
    rw [hrb] at RB
    rw [HE.out, if_neg (by simp), if_neg (by simp)]
    clear hv hu hra hrb
    go_enter Tryz.func75, Tryz.ntmps75
    go_wp2_with fail
    refine RA.out.mono ?_
    rintro e w1 ⟨rfl, b1⟩
    have s1 := b1.size
    go_wp2_with fail
    refine (RB.out w1 b1).mono ?_
    rintro e w2 ⟨rfl, b2⟩
    have b2 := b1.trans (b2.mono s1)
    go_wp2
    go_ret2
    exact ⟨_, rfl, OV.nil _ _, b2⟩
  | true =>
    have hca := (right_iff.1 hra)
    have hcb := (right_iff.1 hrb)
    have BO := Lib.hid (fun (w2 : World) (h : Below w.heap.size w w2) => rborders_ok w2 _ _ a b (hv.below h) (hu.below h) hca.1 hcb.1 hca.2 hcb.2)
    have HA := Lib.hid (fun (w2 : World) (h : Below w.heap.size w w2) (n : Int) (k : Nat) => (rhas_ok (w2.drewN k) _ a n (hv.below (below_drewN h _)) (by omega) hca.2).mono (fun e w' h' => (show e = .returned (.bool (hasR a n)) ∧ ∃ m, w' = (w2.drewN k).drewN m from ⟨h'.1, h'.2.imp fun m e => e.symm⟩)))
    have HB := Lib.hid (fun (w2 : World) (h : Below w.heap.size w w2) (n : Int) (k : Nat) => (rhas_ok (w2.drewN k) _ b n (hu.below (below_drewN h _)) (by omega) hcb.2).mono (fun e w' h' => (show e = .returned (.bool (hasR b n)) ∧ ∃ m, w' = (w2.drewN k).drewN m from ⟨h'.1, h'.2.imp fun m e => e.symm⟩)))
    have CA := Lib.hid hca.2
    have CB := Lib.hid hcb.2
    rw [hra, hrb] at HE
    rw [hra] at RA
    rw [hrb] at RB
    rw [HE.out, if_pos (by simp), if_pos rfl]
    clear hv hu hra hrb hca hcb HE
    obtain ⟨res, hres⟩ : ∃ res, bothL (tkT t) a b = res := ⟨_, rfl⟩
    rw [hres]
    have HRES := Lib.hid hres
    clear hres
    go_enter Tryz.func75, Tryz.ntmps75
    go_wp2_with fail
    refine RA.out.mono ?_
    rintro e w1 ⟨rfl, b1⟩
    have s1 := b1.size
    go_wp2_with fail
    refine (RB.out w1 b1).mono ?_
    rintro e w2 ⟨rfl, b2⟩
    have b2 := b1.trans (b2.mono s1)
    have s2 := b2.size
    clear RA RB
    go_wp2_with fail
    refine (BO.out w2 b2).mono ?_
    rintro e w3 ⟨r, o, rfl, o3, hpw, hmem, hol, b3⟩
    have BRD := Lib.hid (show Brd a b o from ⟨hpw, hmem, CA.out, CB.out⟩)
    have b3 := b2.trans (b3.mono s2)
    have s3 := b3.size
    have B3 := Lib.hid b3
    have ev3 := o3.ev encI_len
    obtain ⟨A3, c3, rfl⟩ := ev3.shape
    obtain ⟨N, hN⟩ : ∃ n, o.length = n := ⟨_, rfl⟩
    rw [hN] at ev3 hol ⊢
    have HN := Lib.hid hN
    have EV3 := Lib.hid ev3
    clear BO b1 b2 b3 hpw hmem o3 ev3 hN
    go_wp2_with fail
    go_loopg [9, 10] N (fun k vo i wr => ∃ (j : Nat) (out : List (Int × Int)), j + k = N ∧ i = .int .i64 j ∧ RbI (tkT t) a b o j out ∧ OV encP 2 137 w3.heap.size wr vo out ∧ Below w3.heap.size w3 wr)
    case atStart => exact ⟨0, [], by omega, rfl, ⟨Nat.zero_le _, .inl ⟨rfl, rfl⟩⟩, OV.nil _ _, Below.refl _ _⟩
    case round =>
      obtain ⟨j, out, hj, rfl, hi, ho, hb⟩ := hrel
      have HJ := Lib.hid hj
      have HI := Lib.hid hi
      have HO := Lib.hid ho
      have HBB := Lib.hid hb
      have hsz := hb.size
      have hjN : j ≤ N := by omega
      have hol2 : out.length ≤ 262144 := by have := hi.1; omega
      clear hj hi ho hb
      by_cases hlt : j + 1 < N
      · obtain ⟨p, hp⟩ : ∃ p, o[j]? = some p := ⟨_, List.getElem?_eq_getElem (by rw [HN.out]; omega)⟩
        obtain ⟨q, hq⟩ : ∃ q, o[j + 1]? = some q := ⟨_, List.getElem?_eq_getElem (by rw [HN.out]; omega)⟩
        obtain ⟨bb, ob, cb, hvb, -, rb⟩ := (EV3.out.below HBB.out).row (by rw [HN.out]; omega)
        simp only [Value.slice.injEq] at hvb
        obtain ⟨rfl, -, rfl⟩ := hvb
        obtain ⟨p', hp', x0⟩ := rb.get1 (i := j) (by rw [HN.out]; omega)
        obtain ⟨q', hq', x1⟩ := rb.get1 (i := j + 1) (by rw [HN.out]; omega)
        rw [hp] at hp'
        rw [hq] at hq'
        cases hp'
        cases hq'
        obtain ⟨p1, pq, q1, hcan, hend, hnx⟩ := HI.out.next (tkT_ff t) BRD.out hp hq
        have NX := Lib.hid hnx
        have bw : Below w.heap.size w wr := B3.out.trans (HBB.out.mono s3)
        have HA2 := Lib.hid (fun k => HA.out wr bw p k)
        have HB2 := Lib.hid (fun k => HB.out wr bw p k)
        have CAN := Lib.hid hcan
        have HEND := Lib.hid hend
        clear rb hp hq hcan hend hnx bw
        have hd1 : decide (j + 1 < N) = true := by rw [decide_eq_true_eq]; exact hlt
        have hjl : j < N := by omega
        have hd0 : decide (j < N) = true := by rw [decide_eq_true_eq]; exact hjl
        have e1 : IntKind.i64.wrap ((j : Int) + 1) = (j : Int) + 1 := IntWalk.i64_in _ (by omega)
        have e2 : (0 : Int) ≤ (j : Int) + 1 := by omega
        have e3 : ((j : Int) + 1).toNat = j + 1 := by omega
        generalize hasR a p = x at HA2 NX
        generalize hasR b p = y at HB2 NX
        go_wp2_with fail
        go_quiet ((go_at_call 101; first | (with_reducible exact Calls.quiet_of (HA2.out _)) | (with_reducible exact Calls.quiet_of (HB2.out _))))
        have HQ := Lib.hid (show OV encP 2 137 w3.heap.size (wr.drewN nq) u9 out ∧ Below w3.heap.size w3 (wr.drewN nq) from ⟨HO.out, below_drewN HBB.out _⟩)
        clear HA2 HB2 HO HBB
        have x0 : (wr.drewN nq).cell? ⟨bb, ob + j, none⟩ = some (.int .i64 p) := x0
        have x1 : (wr.drewN nq).cell? ⟨bb, ob + (j + 1), none⟩ = some (.int .i64 q) := x1
        generalize wr.drewN nq = wn at HQ x0 x1 ⊢
        go_upto_region 9 with fail
        go_cut [13] (fun vis wx => vis = .bool (tkT t x y) ∧ wn = wx)
        case first =>
          cases x <;> cases y
          all_goals go_wp2_with fail
          all_goals go_meet
          all_goals
            exact ⟨congrArg Value.bool (by first | rfl | (unfold tkT; simp; done) | (unfold tkT; simp; assumption) | (unfold tkT; rw [Bool.eq_iff_iff]; simp)), rfl⟩
        case rest =>
          obtain ⟨rfl, rfl⟩ := hcut
          generalize tkT t x y = is at NX ⊢
          cases is with
          | false =>
            have NX2 := Lib.hid (show RbI (tkT t) a b o (j + 1) out from by have := NX.out; rwa [if_neg (by simp)] at this)
            clear NX
            go_wp2_with fail
            go_roundg (gk - 1)
            case measure => have := HJ.out; omega
            case rel => exact ⟨j + 1, out, by have := HJ.out; omega, by go_num, NX2.out, HQ.out.1, HQ.out.2⟩
          | true =>
            have NX2 := Lib.hid (show RbI (tkT t) a b o (j + 1) (addR out (p, q - p)) from by have := NX.out; rwa [if_pos rfl] at this)
            have e4 : IntKind.i64.wrap (q - p) = q - p := IntWalk.i64_in _ (by omega)
            clear NX
            by_cases hm : ∃ (l' : List (Int × Int)) (s : Int × Int), out = l' ++ [s] ∧ nxt s = p
            · obtain ⟨l', s, rfl, heq⟩ := hm
              obtain ⟨k1, k2, k3⟩ := can_snoc.1 CAN.out
              obtain ⟨s1, s2⟩ := s
              obtain ⟨k4, k5, k6, k7⟩ := rok_iff.1 k3
              have he := HEND.out
              rw [endR_append] at he
              have he2 : s1 + s2 ≤ p := he
              dsimp only at k4 k5 k6 k7
              have hl : (l' ++ [(s1, s2)]).length = l'.length + 1 := by simp
              obtain ⟨g, cap, hvv, hcap, hg1, hg2⟩ := HQ.out.1.row_form encP_len hl (by omega)
              subst hvv
              rw [hl] at hol2
              have r := (HQ.out.1.ev encP_len).row3 (by rw [hl]; omega)
              obtain ⟨y0, y1⟩ := r.prs (get_last (l := l') (s := (s1, s2)))
              dsimp only at y0 y1
              rw [Nat.zero_add] at y0 y1
              have fz : wn.frozen? ⟨g, l'.length * 2 + 1, none⟩ = false := HQ.out.1.frz hl _
              have HA := Lib.hid (addR_snoc (s1, s2) (p, q - p) l')
              obtain ⟨n, hn⟩ : ∃ n, l'.length = n := ⟨_, rfl⟩
              have HN2 := Lib.hid hn
              rw [hn] at y0 y1 fz hol2 hl hcap HQ ⊢
              have HL := Lib.hid hl
              have d5 : decide ((0 : Int) < (n : Int) + 1) = true := by rw [decide_eq_true_eq]; omega
              have e6 : IntKind.i64.wrap ((n : Int) + 1 - 1) = (n : Int) := by rw [show (n : Int) + 1 - 1 = (n : Int) by omega]; exact IntWalk.i64_in _ (by omega)
              have e6' : IntKind.i64.wrap (n : Int) = (n : Int) := IntWalk.i64_in _ (by omega)
              have e7 : (0 : Int) ≤ (n : Int) := by omega
              have e9 : (n : Int) < (n : Int) + 1 := by omega
              have e10 : IntKind.i64.wrap (s1 + s2) = s1 + s2 := IntWalk.i64_in _ (by omega)
              have e11 : IntKind.i64.wrap (q - s1) = q - s1 := IntWalk.i64_in _ (by omega)
              clear k1 k2 k3 he r hn hl
              have heq : s1 + s2 = p := heq
              have E := Lib.hid (show addR (l' ++ [(s1, s2)]) (p, q - p) = l' ++ [(s1, q - s1)] from by rw [HA.out, if_pos (show nxt (s1, s2) = p from heq), show s2 + (q - p) = q - s1 by omega])
              have d6 : ((s1 + s2) == p) = true := by simp [heq]
              clear HA heq
              go_wp2_with fail
              go_quiet (fail)
              have HQ := Lib.hid (show OV encP 2 137 w3.heap.size (wn.drewN nq) _ _ ∧ Below w3.heap.size w3 (wn.drewN nq) from ⟨HQ.out.1, below_drewN HQ.out.2 _⟩)
              have x0 : (wn.drewN nq).cell? ⟨bb, ob + j, none⟩ = some (.int .i64 p) := x0
              have x1 : (wn.drewN nq).cell? ⟨bb, ob + (j + 1), none⟩ = some (.int .i64 q) := x1
              have y0 : (wn.drewN nq).cell? ⟨g, n * 2, none⟩ = some (.int .i64 s1) := y0
              have y1 : (wn.drewN nq).cell? ⟨g, n * 2 + 1, none⟩ = some (.int .i64 s2) := y1
              have fz : (wn.drewN nq).frozen? ⟨g, n * 2 + 1, none⟩ = false := fz
              generalize wn.drewN nq = wm at HQ x0 x1 y0 y1 fz ⊢
              go_wp2_with fail
              go_still_tail 17, (by kernel_rfl)
              change wpList _ _ _ _ _ wm.drew
              have HQ := Lib.hid (show OV encP 2 137 w3.heap.size wm.drew _ _ ∧ Below w3.heap.size w3 wm.drew from ⟨HQ.out.1, below_drew HQ.out.2⟩)
              have y1 : wm.drew.cell? ⟨g, n * 2 + 1, none⟩ = some (.int .i64 s2) := y1
              have fz : wm.drew.frozen? ⟨g, n * 2 + 1, none⟩ = false := fz
              generalize wm.drew = wd at HQ y1 fz ⊢
              obtain ⟨o5, _⟩ := OV.setW HQ.out.1 HL.out (i := n) (p := s1) (q := s2) (by rw [← HN2.out]; exact get_last) (q - s1)
              have O5 := Lib.hid (show OV encP 2 137 w3.heap.size (wd.setCell ⟨g, n * 2 + 1, none⟩ (.int .i64 (q - s1))) (.slice (some ⟨g, 0, none⟩) (n + 1) cap) (addR (l' ++ [(s1, s2)]) (p, q - p)) from by
                rw [E.out, ← set_last l' (s1, s2) (s1, q - s1), HN2.out]; exact o5)
              have B5 := Lib.hid (HQ.out.2.setCell (p := ⟨g, n * 2 + 1, none⟩) hg1 (.int .i64 (q - s1)))
              clear o5 e1 e2 e3 e4 e6 e6' e7 e9 e10 e11 d5 d6
              go_wp2_with fail
              go_roundg (gk - 1)
              case measure => have := HJ.out; omega
              case rel => exact ⟨j + 1, _, by have := HJ.out; omega, by go_num, NX2.out, O5.out, B5.out⟩
            · have E := Lib.hid (show addR out (p, q - p) = out ++ [(p, q - p)] from by
                rcases List.eq_nil_or_concat out with rfl | ⟨l', s, rfl⟩
                · rfl
                · rw [List.concat_eq_append] at *
                  rw [addR_snoc, if_neg (fun h => hm ⟨l', s, rfl, h⟩)])
              have HM := Lib.hid hm
              clear hm
              obtain ⟨A4, c4, rfl⟩ := (HQ.out.1.ev encP_len).shape
              obtain ⟨M, hM⟩ : ∃ n, out.length = n := ⟨_, rfl⟩
              have HML := Lib.hid hM
              rw [hM] at hol2 HQ ⊢
              clear hM
              go_wp2_with fail
              go_cut [14, 104] (fun _ v wx => v = .bool false ∧ (OV encP 2 137 w3.heap.size wx (.slice A4 M c4) out ∧ Below w3.heap.size w3 wx) ∧ wx.cell? ⟨bb, ob + j, none⟩ = some (.int .i64 p) ∧ wx.cell? ⟨bb, ob + (j + 1), none⟩ = some (.int .i64 q))
              case first =>
                rcases List.eq_nil_or_concat out with rfl | ⟨l', s, rfl⟩
                · obtain rfl : M = 0 := HML.out.symm
                  have d5 : decide ((0 : Int) < ((0 : Nat) : Int)) = false := by simp
                  go_wp2_with fail
                  go_quiet (fail)
                  go_wp2_with fail
                  go_meet
                  exact ⟨rfl, ⟨HQ.out.1, below_drewN HQ.out.2 _⟩, x0, x1⟩
                · rw [List.concat_eq_append] at *
                  obtain ⟨k1, k2, k3⟩ := can_snoc.1 CAN.out
                  obtain ⟨s1, s2⟩ := s
                  obtain ⟨k4, k5, k6, k7⟩ := rok_iff.1 k3
                  have he := HEND.out
                  rw [endR_append] at he
                  have he2 : s1 + s2 ≤ p := he
                  dsimp only at k4 k5 k6 k7
                  have hl : (l' ++ [(s1, s2)]).length = l'.length + 1 := by simp
                  obtain ⟨g, cap, hvv, hcap, hg1, hg2⟩ := HQ.out.1.row_form encP_len hl (by omega)
                  simp only [Value.slice.injEq] at hvv
                  obtain ⟨rfl, hM1, rfl⟩ := hvv
                  have r := (HQ.out.1.ev encP_len).row3 (by rw [hl]; omega)
                  obtain ⟨y0, y1⟩ := r.prs (get_last (l := l') (s := (s1, s2)))
                  dsimp only at y0 y1
                  rw [Nat.zero_add] at y0 y1
                  have fz : wn.frozen? ⟨g, l'.length * 2 + 1, none⟩ = false := HQ.out.1.frz (hl.trans hM1.symm) _
                  have HA := Lib.hid (addR_snoc (s1, s2) (p, q - p) l')
                  obtain ⟨n, hn⟩ : ∃ n, l'.length = n := ⟨_, rfl⟩
                  have HN2 := Lib.hid hn
                  rw [hn] at y0 y1 fz hl hcap hM1
                  subst hM1
                  have HL := Lib.hid hl
                  have d5 : decide ((0 : Int) < (n : Int) + 1) = true := by rw [decide_eq_true_eq]; omega
                  have e6 : IntKind.i64.wrap ((n : Int) + 1 - 1) = (n : Int) := by rw [show (n : Int) + 1 - 1 = (n : Int) by omega]; exact IntWalk.i64_in _ (by omega)
                  have e6' : IntKind.i64.wrap (n : Int) = (n : Int) := IntWalk.i64_in _ (by omega)
                  have e7 : (0 : Int) ≤ (n : Int) := by omega
                  have e9 : (n : Int) < (n : Int) + 1 := by omega
                  have e10 : IntKind.i64.wrap (s1 + s2) = s1 + s2 := IntWalk.i64_in _ (by omega)
                  have e11 : IntKind.i64.wrap (q - s1) = q - s1 := IntWalk.i64_in _ (by omega)
                  clear k1 k2 k3 he r hn hl
                  have heq : ¬ s1 + s2 = p := fun h => HM.out ⟨l', (s1, s2), rfl, h⟩
                  have d6 : ((s1 + s2) == p) = false := by simp [heq]
                  clear HA heq
                  go_wp2_with fail
                  go_quiet (fail)
                  go_wp2_with fail
                  go_meet
                  exact ⟨rfl, ⟨HQ.out.1, below_drewN HQ.out.2 _⟩, x0, x1⟩
              case rest =>
                obtain ⟨rfl, hq, x0, x1⟩ := hcut
                rename_i wm
                have HQ := Lib.hid hq
                clear hq
                go_wp2_with fail
                go_region_law (go_loud (refine step_app elemQ encP_len encP_one (by rfl) (.tmp 122) (.tmp 138) (by rfl) (.slice A4 M c4) (.slice (some ⟨_, 0, none⟩) 1 1) (by rfl) (by rfl) (by exact (HQ.out.1.alloc _).drewN _) (by exact (new_pair (p := p) (q := q - p))) (by rw [HML.out]; simp; omega) (by have := HQ.out.2.size; simp; omega) ?_; intro v1 w1 o1 g1; have b1 : Below w3.heap.size w3 w1 := (below_drewN (HQ.out.2.alloc HQ.out.2.size _) _).grown g1 (by have := HQ.out.2.size; simp; omega) (fun k hk => (HQ.out.1.block k hk).1); clear g1))
                all_goals
                  clear e1 e2 e3 e4
                  go_wp2
                  go_roundg (gk - 1)
                  case measure => have := HJ.out; omega
                  case rel => exact ⟨j + 1, _, by have := HJ.out; omega, by go_num, NX2.out, by rw [E.out]; simpa using o1, b1⟩
      · have hd1 : decide (j + 1 < N) = false := by rw [decide_eq_false_iff_not]; exact hlt
        have R := Lib.hid (show out = res from by rw [← HRES.out]; exact HI.out.done (tkT_ff t) BRD.out (by rw [HN.out]; omega))
        have OF := Lib.hid (HO.out.base_le s3)
        have BF := Lib.hid (B3.out.trans (HBB.out.mono s3))
        go_wp2
        go_ret2
        exact ⟨_, rfl, by rw [← R.out]; exact OF.out, BF.out⟩
end Go.Proofs.YtalophngappkhaaGreatDoor

/- package seq: right, add. -/
import Derived.Test.YtofjgcbjpmgkdaaSa
set_option linter.unusedVariables false
set_option linter.unusedSimpArgs false
set_option linter.unusedSectionVars false
namespace Go.Proofs.Ytofjgcbjpmgkdaa
open Go.RowKit Go.Shelf

/-- A slice of slices: each element's value, and the list that it reads as. -/
def encV (x : Value × List (Int × Int)) : List Value := [x.1]
theorem encV_len (x : Value × List (Int × Int)) : (encV x).length = 1 := rfl
def RowsOf (w : World) (v : Value) (xs : List (Value × List (Int × Int))) : Prop := EV encV 1 w v xs ∧ ∀ x ∈ xs, EV encP 2 w x.1 x.2 ∧ x.2.length ≤ 1000000000
def rerr (ls : List (List (Int × Int))) : Int := if ls.all rightB then 0 else 90
theorem RowsOf.below {w w' : World} {v : Value} {xs : List (Value × List (Int × Int))} (h : RowsOf w v xs) (hb : Below w.heap.size w w') : RowsOf w' v xs :=
  ⟨h.1.below hb, fun x hx => ⟨(h.2 x hx).1.below hb, (h.2 x hx).2⟩⟩
theorem all_take_step {α : Type} {xs : List α} {p : α → Bool} {j : Nat} {x : α} (h : (xs.take j).all p = true) (hx : xs[j]? = some x) (hp : p x = true) : (xs.take (j + 1)).all p = true := by
  rw [List.take_add_one, hx, List.all_append, h]; simp [hp]

set_option maxHeartbeats 1000000 in
theorem right_all (w : World) (v : Value) (xs : List (Value × List (Int × Int))) (hv : RowsOf w v xs) (hlen : xs.length ≤ 1000000000) :
    Calls Try.prog 40 #[v] w fun e w' => e = .returned (.int .i64 (rerr (xs.map (·.2)))) ∧ Below w.heap.size w w' := by
  obtain ⟨A, c, rfl⟩ := hv.1.shape
  have HV := Lib.hid hv
  have HE := Lib.hid (show rerr (xs.map (·.2)) = if xs.all (fun x => rightB x.2) then 0 else 90 from by unfold rerr; rw [List.all_map]; rfl)
  generalize rerr (xs.map (·.2)) = re at HE ⊢
  clear hv
  go_enter Try.func40, Try.ntmps40
  go_wp2_with fail
  go_loopg [4, 7] xs.length (fun k _ i wr => ∃ j : Nat, j + k = xs.length ∧ i = .int .i64 j ∧ Below w.heap.size w wr ∧ (xs.take j).all (fun x => rightB x.2) = true)
  case atStart => exact ⟨0, by omega, rfl, Below.refl _ _, by simp⟩
  case round =>
    obtain ⟨j, hj, rfl, hb, ht⟩ := hrel
    have HJ := Lib.hid hj
    have HB := Lib.hid hb
    have HT := Lib.hid ht
    have hsz := hb.size
    clear hj hb ht
    by_cases hlt : j < xs.length
    · obtain ⟨b, off, c', hvv, hcc, rr⟩ := HV.out.1.row (by omega)
      simp only [Value.slice.injEq] at hvv
      obtain ⟨rfl, -, rfl⟩ := hvv
      obtain ⟨⟨u, l⟩, hx⟩ : ∃ x, xs[j]? = some x := ⟨_, List.getElem?_eq_getElem hlt⟩
      have hm := List.mem_of_getElem? hx
      have c0 := (rr.below HB.out) j (u, l) hx 0 u rfl
      simp only [Nat.mul_one, Nat.add_zero] at c0
      have RK := Lib.hid (right_ok wr u l ((HV.out.2 _ hm).1.below HB.out) (HV.out.2 _ hm).2)
      have HX := Lib.hid hx
      have HM := Lib.hid hm
      clear hx rr hm
      cases hr : rightB l with
      | true =>
        have HT2 := Lib.hid (all_take_step HT.out HX.out hr)
        rw [hr] at RK
        clear hr
        go_wp2_with fail
        refine RK.out.mono ?_
        rintro e w2 ⟨rfl, b2⟩
        have b2 := HB.out.trans (b2.mono hsz)
        go_wp2
        go_roundg (gk - 1)
        case measure => have := HJ.out; omega
        case rel => exact ⟨j + 1, by have := HJ.out; omega, by go_num, b2, HT2.out⟩
      | false =>
        have E := Lib.hid (show re = 90 from by
          rw [HE.out, if_neg]
          intro h
          have := List.all_eq_true.1 h _ HM.out
          dsimp only at this
          rw [hr] at this; cases this)
        rw [hr] at RK
        clear hr
        go_wp2_with fail
        refine RK.out.mono ?_
        rintro e w2 ⟨rfl, b2⟩
        have b2 := HB.out.trans (b2.mono hsz)
        go_wp2
        go_ret
        exact ⟨ret_int E.out.symm, b2⟩
    · have E := Lib.hid (show re = 0 from by
        have := HT.out
        rw [List.take_of_length_le (by omega)] at this
        rw [HE.out, if_pos this])
      go_wp2
      go_ret
      exact ⟨ret_int E.out.symm, HB.out⟩
/-- At a call with one list, or two. -/
theorem right_one (w : World) (v : Value) (l : List (Int × Int)) (hv : EV encP 2 w v l) (hlen : l.length ≤ 1000000000) :
    Calls Try.prog 40 #[.slice (some ⟨w.heap.size, 0, none⟩) 1 1] (w.alloc (.cells #[v] 22)) fun e w' => e = .returned (.int .i64 (rerr [l])) ∧ Below w.heap.size w w' := by
  refine (right_all _ _ [(v, l)] ⟨EV.newL encV_len rfl rfl (Nat.le_refl _), fun x hx => ?_⟩ (by simp)).mono fun e w' h => ⟨h.1, ((Below.refl _ w).alloc (Nat.le_refl _) _).trans (h.2.mono (by simp))⟩
  simp at hx; subst hx
  exact ⟨hv.below ((Below.refl _ _).alloc (Nat.le_refl _) _), hlen⟩
theorem right_two (w : World) (v u : Value) (l m : List (Int × Int)) (hv : EV encP 2 w v l) (hu : EV encP 2 w u m) (hlen : l.length ≤ 1000000000) (hlen2 : m.length ≤ 1000000000) :
    Calls Try.prog 40 #[.slice (some ⟨w.heap.size, 0, none⟩) 2 2] (w.alloc (.cells #[v, u] 22)) fun e w' => e = .returned (.int .i64 (rerr [l, m])) ∧ Below w.heap.size w w' := by
  refine (right_all _ _ [(v, l), (u, m)] ⟨EV.newL encV_len rfl rfl (Nat.le_refl _), fun x hx => ?_⟩ (by simp)).mono fun e w' h => ⟨h.1, ((Below.refl _ w).alloc (Nat.le_refl _) _).trans (h.2.mono (by simp))⟩
  simp at hx
  rcases hx with rfl | rfl
  · exact ⟨hv.below ((Below.refl _ _).alloc (Nat.le_refl _) _), hlen⟩
  · exact ⟨hu.below ((Below.refl _ _).alloc (Nat.le_refl _) _), hlen2⟩

theorem hid_cell {w w' : World} (hb : Below w.heap.size w w') {p : Addr} {u : Value} (h : w.cell? p = some u) : w'.cell? p = some u ∧ w'.frozen? p = w.frozen? p := ⟨below_cell hb h, hb.frozen (cell_lt h)⟩
theorem get_last {l : List (Int × Int)} {s : Int × Int} : (l ++ [s])[l.length]? = some s := by simp
theorem set_last (l : List (Int × Int)) (s t : Int × Int) : (l ++ [s]).set l.length t = l ++ [t] := by simp

set_option maxRecDepth 100000 in
set_option maxHeartbeats 2000000 in
theorem add_ok (w : World) (v : Value) (l : List (Int × Int)) (p q : Int) (base : Nat) (hv : OV encP 2 35 base w v l) (hc : Can 0 l) (hlen : l.length ≤ 100000000) (hbase : base ≤ w.heap.size)
    (p1 : 0 ≤ p) (p2 : p ≤ 562949953421312) (q1 : 0 ≤ q) (q2 : q ≤ 562949953421312) :
    Calls Try.prog 49 #[v, .agg #[.int .i64 p, .int .i64 q]] w fun e w' => ∃ v', e = .returned v' ∧ OV encP 2 35 base w' v' (addR l (p, q)) ∧ Mod (fun k => v.ownBlock = some k) w w' := by
  rcases List.eq_nil_or_concat l with rfl | ⟨l', s, rfl⟩
  · obtain ⟨A, c, rfl⟩ := (hv.ev encP_len).shape
    have HV := Lib.hid hv
    have d5 : decide ((0 : Int) < ((0 : Nat) : Int)) = false := by simp
    clear hv hc hlen
    go_enter Try.func49, Try.ntmps49
    go_wp2_with fail
    go_quiet (fail)
    have a0 := cell_of_row (w.alloc (.cells #[.int .i64 p, .int .i64 q] 35)) w.heap.size 0 _ _ (0, 0) (heap_alloc_new w _)
    have a1 := cell_of_row (w.alloc (.cells #[.int .i64 p, .int .i64 q] 35)) w.heap.size 1 _ _ (0, 0) (heap_alloc_new w _)
    have a0 : ((w.alloc (.cells #[.int .i64 p, .int .i64 q] 35)).drewN nq).cell? ⟨w.heap.size, 0, none⟩ = some (.int .i64 p) := a0
    have a1 : ((w.alloc (.cells #[.int .i64 p, .int .i64 q] 35)).drewN nq).cell? ⟨w.heap.size, 1, none⟩ = some (.int .i64 q) := a1
    have m1 : Mod (fun k => Value.ownBlock (.slice A 0 c) = some k) w ((w.alloc (.cells #[.int .i64 p, .int .i64 q] 35)).drewN nq) := (Mod.alloc _).trans (Mod.drewN _)
    have o1 : OV encP 2 35 base ((w.alloc (.cells #[.int .i64 p, .int .i64 q] 35)).drewN nq) (.slice A 0 c) [] := (HV.out.alloc _).drewN _
    have hs1 : base ≤ ((w.alloc (.cells #[.int .i64 p, .int .i64 q] 35)).drewN nq).heap.size := by simp; omega
    generalize (w.alloc (.cells #[.int .i64 p, .int .i64 q] 35)).drewN nq = w1 at a0 a1 m1 o1 hs1 ⊢
    have M1 := Lib.hid m1
    clear m1 HV d5
    go_wp2_with (at_builtin; refine wpList_app elemR encP_len encP_one rfl (.tmp 33) (.tmp 35) rfl _ _ rfl rfl (o1.alloc _) (new_pair (p := p) (q := q)) ?q1 ?q2 ?_)
    case q1 => simp
    case q2 => (try simp); omega
    intro v' w2 o2 g2
    go_wp2
    go_ret
    exact ⟨v', rfl, o2, M1.out.trans_new (Mod.alloc _ |>.trans_new (T' := fun k => Value.ownBlock (.slice A 0 c) = some k) (Mod.grown g2 (fun g h => h)) (fun _ _ h => h)) (fun _ _ h => h)⟩
  · rw [List.concat_eq_append] at *
    obtain ⟨c1, c2, c3⟩ := can_snoc.1 hc
    obtain ⟨s1, s2⟩ := s
    obtain ⟨k1, k2, k3, k4⟩ := rok_iff.1 c3
    dsimp only at k1 k2 k3 k4
    have hl : (l' ++ [(s1, s2)]).length = l'.length + 1 := by simp
    obtain ⟨g, cap, hvv, hcap, hg1, hg2⟩ := hv.row_form encP_len hl (by omega)
    subst hvv
    rw [hl] at hlen
    have r := (hv.ev encP_len).row3 (by rw [hl]; omega)
    obtain ⟨x0, x1⟩ := r.prs (get_last (l := l') (s := (s1, s2)))
    dsimp only at x0 x1
    rw [Nat.zero_add] at x0 x1
    have fz : w.frozen? ⟨g, l'.length * 2 + 1, none⟩ = false := hv.frz hl _
    have HV := Lib.hid hv
    have HA := Lib.hid (addR_snoc (s1, s2) (p, q) l')
    obtain ⟨n, hn⟩ : ∃ n, l'.length = n := ⟨_, rfl⟩
    have HN := Lib.hid hn
    rw [hn] at x0 x1 fz hlen hl hcap HV ⊢
    have HL := Lib.hid hl
    have d5 : decide ((0 : Int) < (n : Int) + 1) = true := by rw [decide_eq_true_eq]; omega
    have e6 : IntKind.i64.wrap ((n : Int) + 1 - 1) = (n : Int) := by rw [show (n : Int) + 1 - 1 = (n : Int) by omega]; exact IntWalk.i64_in _ (by omega)
    have e6' : IntKind.i64.wrap (n : Int) = (n : Int) := IntWalk.i64_in _ (by omega)
    have e7 : (0 : Int) ≤ (n : Int) := by omega
    have e9 : (n : Int) < (n : Int) + 1 := by omega
    clear hv hc c1 c2 c3 r hn hl
    go_enter Try.func49, Try.ntmps49
    go_wp2_with fail
    have a0 := cell_of_row (w.alloc (.cells #[.int .i64 p, .int .i64 q] 35)) w.heap.size 0 _ _ (0, 0) (heap_alloc_new w _)
    have a1 := cell_of_row (w.alloc (.cells #[.int .i64 p, .int .i64 q] 35)) w.heap.size 1 _ _ (0, 0) (heap_alloc_new w _)
    have ba : Below w.heap.size w (w.alloc (.cells #[.int .i64 p, .int .i64 q] 35)) := (Below.refl _ _).alloc (Nat.le_refl _) _
    have x0 := below_cell ba x0
    have x1 := (hid_cell ba x1)
    have fz : (w.alloc (.cells #[.int .i64 p, .int .i64 q] 35)).frozen? ⟨g, n * 2 + 1, none⟩ = false := x1.2.trans fz
    have x1 := x1.1
    have hne : ¬ g = w.heap.size := by omega
    have hgw : g < (w.alloc (.cells #[.int .i64 p, .int .i64 q] 35)).heap.size := by simp; omega
    generalize w.alloc (.cells #[.int .i64 p, .int .i64 q] 35) = wx at a0 a1 x0 x1 ba fz hgw ⊢
    have hX : w.heap.size ≤ w.heap.size := Nat.le_refl _
    obtain ⟨X, hXe⟩ : ∃ X, w.heap.size = X := ⟨_, rfl⟩
    rw [hXe] at a0 a1 hne ⊢
    have a0 := a0.trans rfl
    have a1 := a1.trans rfl
    have BA := Lib.hid ba
    have HXE := Lib.hid hXe
    have FZ := Lib.hid fz
    clear ba hXe hX fz
    go_region_held3 (fun wz => wz.cell? ⟨X, 0, none⟩ = some (.int .i64 p) ∧ wz.cell? ⟨X, 1, none⟩ = some (.int .i64 q) ∧ wz.cell? ⟨g, n * 2, none⟩ = some (.int .i64 s1) ∧ wz.cell? ⟨g, n * 2 + 1, none⟩ = some (.int .i64 s2))
      (first | go_keep | exact ⟨below_cell hbz (by assumption), below_cell hbz (by assumption), below_cell hbz (by assumption), below_cell hbz (by assumption)⟩)
      ((refine (next_ok _ s1 s2 (by omega) (by omega) (by omega) (by omega)).mono ?_; rintro e wz ⟨rfl, hbz⟩))
    all_goals
      rename_i hh
      obtain ⟨y0, y1, y2, y3⟩ := hh
      have fz : wz.frozen? ⟨g, n * 2 + 1, none⟩ = false := (hbz.frozen (p := ⟨g, n * 2 + 1, none⟩) (by simpa using hgw)).trans FZ.out
      have bz : Below w.heap.size w wz := (below_drew BA.out).trans (hbz.mono BA.out.size)
      have BZ := Lib.hid bz
      have OZ := Lib.hid (HV.out.below bz)
      have hzb := bz.size
      clear a0 a1 x0 x1 hbz bz
      by_cases he : s1 + s2 = p
      · have E := Lib.hid (show addR (l' ++ [(s1, s2)]) (p, q) = l' ++ [(s1, s2 + q)] from by rw [HA.out, if_pos (show nxt (s1, s2) = p from he)])
        have d6 : ((s1 + s2) == p) = true := by simp [he]
        have e8 : IntKind.i64.wrap (s2 + q) = s2 + q := IntWalk.i64_in _ (by omega)
        obtain ⟨o5, _⟩ := OV.setW OZ.out HL.out (i := n) (p := s1) (q := s2) (by rw [← HN.out]; exact get_last) (s2 + q)
        have O5 := Lib.hid (show OV encP 2 35 base (wz.setCell ⟨g, n * 2 + 1, none⟩ (.int .i64 (s2 + q))) (.slice (some ⟨g, 0, none⟩) (n + 1) cap) (addR (l' ++ [(s1, s2)]) (p, q)) from by
          rw [E.out, ← set_last l' (s1, s2) (s1, s2 + q), HN.out]; exact o5)
        clear he HA o5
        go_wp2_with fail
        go_region
        all_goals
          go_wp2_with fail
          go_ret
          refine ⟨_, rfl, ?_, ?_⟩
          · first | exact O5.out | exact O5.out.drew
          · have m := (Mod.of_below (T := fun k => Value.ownBlock (.slice (some ⟨g, 0, none⟩) (n + 1) cap) = some k) BZ.out).trans (Mod.setCell (p := ⟨g, n * 2 + 1, none⟩) (.int .i64 (s2 + q)) rfl)
            first | exact m | exact m.trans .drew
      · have E := Lib.hid (show addR (l' ++ [(s1, s2)]) (p, q) = l' ++ [(s1, s2), (p, q)] from by rw [HA.out, if_neg (show ¬ nxt (s1, s2) = p from he)]; simp)
        have d6 : ((s1 + s2) == p) = false := by simp [he]
        clear he HA e6 e6' e7 e9
        go_wp2_with (at_builtin; refine wpList_app elemR encP_len encP_one rfl (.tmp 33) (.tmp 35) rfl _ _ rfl rfl (OZ.out.alloc _) (new_pair (p := p) (q := q)) ?q1 ?q2 ?_)
        case q1 => rw [HL.out]; simp; omega
        case q2 => (try simp); omega
        intro v' w2 o2 g2
        rw [← E.out] at o2
        have m := (Mod.of_below (T := fun k => Value.ownBlock (.slice (some ⟨g, 0, none⟩) (n + 1) cap) = some k) BZ.out).trans ((Mod.alloc _).trans (Mod.grown g2 (fun g h => h)))
        clear g2
        go_wp2
        go_ret
        exact ⟨_, rfl, o2, m⟩
end Go.Proofs.Ytofjgcbjpmgkdaa

/- slices.Clone and slices.Equal at groups, rules, homes, events; the reference's Over; rows turned for the reference | QuotaAccounts: the law's comparison, from its end | QuotaAccounts: the law's comparison of what is over. -/
import Derived.Test.YtaplangfppohdaaDoorZ40
import Derived.Test.YtaplangfppohdaaDoorZ14
import Derived.Test.YtaplangfppohdaaDoorZ25
set_option linter.unusedVariables false
set_option linter.unusedSimpArgs false
set_option linter.unusedSectionVars false
namespace Go.Proofs.YtaplangfppohdaaDoor
open Go.RowKit Go.Shelf
attribute [local go_sem] Oper.semAt_some

theorem ER.ho {w : World} {b off i : Nat} {l : List (Int × Int)} (h : ER encG 2 w b off l) {x : Int × Int} (hi : l[i]? = some x) : w.cell? ⟨b, off + i * 2, none⟩ = some (.int .i64 x.1) ∧ w.cell? ⟨b, off + i * 2 + 1, none⟩ = some (.int .i64 x.2) := ⟨h i x hi 0 _ rfl, h i x hi 1 _ rfl⟩
set_option maxHeartbeats 400000 in
theorem clone_grp (w : World) (v1 : Value) (xs : List (Int × Int)) (h1 : EV encG 2 w v1 xs) (b1 : xs.length ≤ 1000000000) :
    Calls Tryd.prog 50 #[v1] w fun e w' => ∃ v, e = .returned v ∧ OV encG 2 53 w.heap.size w' v xs ∧ Below w.heap.size w w' := by
  obtain ⟨A, c, rfl⟩ := h1.shape
  have H1 := Lib.hid h1
  clear h1
  have heq : ∀ (w : World) (a : Option Addr) (n c n' c' : Nat), (binOp .eql 37 (.slice a n c) (.slice none n' c')).run Tryd.prog w = .ok (.bool a.isNone) w := fun w a n c n' c' => Lib.run_eql_slice_nil w _ _ a n c n' c' Tryd.underlying37
  cases A with
  | none =>
    obtain rfl : xs = [] := by
      rcases H1.out with ⟨h, _⟩ | ⟨_, b, off, c', h, _⟩
      · exact h
      · cases h
    clear H1 b1
    go_enter Tryd.func50, Tryd.ntmps50
    go_wp2
    go_ret
    exact ⟨_, rfl, OV.nil _ _, Below.refl _ _⟩
  | some ad =>
    go_enter Tryd.func50, Tryd.ntmps50
    go_wp2_with (at_builtin; refine wpList_app elemG encG_len encG_one rfl _ _ rfl _ _ rfl rfl (OV.made w 0 #[] (Nat.le_refl _) (Nat.zero_le _) rfl) (H1.out.keep fun p u hc => ?qc) ?qn ?qb ?_)
    case qc => exact (World.cell?_alloc_lt w _ p (cell_lt hc)).trans hc
    case qn => simpa using b1
    case qb => simp
    intro v' w1 hown hgrow
    go_wp2
    go_ret
    refine ⟨v', rfl, by simpa using hown, ((Below.refl _ w).alloc (Nat.le_refl _) _).grown hgrow (by simp) (by intro k hk; simp [Value.ownBlock] at hk; omega)⟩

theorem elemRuQ : ElemT Tryd.prog 42 44 3 24 := ⟨Tryd.underlying42, by
  have h : (Tryd.prog.info? 44).map (fun i => (i.zero, i.size, i.bytes)) = some (some (.agg #[.int .i64 0, .int .i64 0, .int .i64 0]), 3, 24) := by kernel_rfl
  obtain ⟨i, h1, h2, h3, h4⟩ := info_parts h
  exact ⟨i, _, h1, h2, h3, h4, rfl⟩, by omega, by omega⟩
set_option maxHeartbeats 400000 in
theorem clone_rule (w : World) (v1 : Value) (xs : List (Ru)) (h1 : EV encRu 3 w v1 xs) (b1 : xs.length ≤ 1000000000) :
    Calls Tryd.prog 51 #[v1] w fun e w' => ∃ v, e = .returned v ∧ OV encRu 3 44 w.heap.size w' v xs ∧ Below w.heap.size w w' := by
  obtain ⟨A, c, rfl⟩ := h1.shape
  have H1 := Lib.hid h1
  clear h1
  have heq : ∀ (w : World) (a : Option Addr) (n c n' c' : Nat), (binOp .eql 42 (.slice a n c) (.slice none n' c')).run Tryd.prog w = .ok (.bool a.isNone) w := fun w a n c n' c' => Lib.run_eql_slice_nil w _ _ a n c n' c' Tryd.underlying42
  cases A with
  | none =>
    obtain rfl : xs = [] := by
      rcases H1.out with ⟨h, _⟩ | ⟨_, b, off, c', h, _⟩
      · exact h
      · cases h
    clear H1 b1
    go_enter Tryd.func51, Tryd.ntmps51
    go_wp2
    go_ret
    exact ⟨_, rfl, OV.nil _ _, Below.refl _ _⟩
  | some ad =>
    go_enter Tryd.func51, Tryd.ntmps51
    go_wp2_with (at_builtin; refine wpList_app elemRuQ encRu_len encRu_one rfl _ _ rfl _ _ rfl rfl (OV.made w 0 #[] (Nat.le_refl _) (Nat.zero_le _) rfl) (H1.out.keep fun p u hc => ?qc) ?qn ?qb ?_)
    case qc => exact (World.cell?_alloc_lt w _ p (cell_lt hc)).trans hc
    case qn => simpa using b1
    case qb => simp
    intro v' w1 hown hgrow
    go_wp2
    go_ret
    refine ⟨v', rfl, by simpa using hown, ((Below.refl _ w).alloc (Nat.le_refl _) _).grown hgrow (by simp) (by intro k hk; simp [Value.ownBlock] at hk; omega)⟩

set_option maxHeartbeats 400000 in
theorem clone_home (w : World) (v1 : Value) (xs : List (Int × Int)) (h1 : EV encG 2 w v1 xs) (b1 : xs.length ≤ 1000000000) :
    Calls Tryd.prog 52 #[v1] w fun e w' => ∃ v, e = .returned v ∧ OV encG 2 61 w.heap.size w' v xs ∧ Below w.heap.size w w' := by
  obtain ⟨A, c, rfl⟩ := h1.shape
  have H1 := Lib.hid h1
  clear h1
  have heq : ∀ (w : World) (a : Option Addr) (n c n' c' : Nat), (binOp .eql 38 (.slice a n c) (.slice none n' c')).run Tryd.prog w = .ok (.bool a.isNone) w := fun w a n c n' c' => Lib.run_eql_slice_nil w _ _ a n c n' c' Tryd.underlying38
  cases A with
  | none =>
    obtain rfl : xs = [] := by
      rcases H1.out with ⟨h, _⟩ | ⟨_, b, off, c', h, _⟩
      · exact h
      · cases h
    clear H1 b1
    go_enter Tryd.func52, Tryd.ntmps52
    go_wp2
    go_ret
    exact ⟨_, rfl, OV.nil _ _, Below.refl _ _⟩
  | some ad =>
    go_enter Tryd.func52, Tryd.ntmps52
    go_wp2_with (at_builtin; refine wpList_app elemHo encG_len encG_one rfl _ _ rfl _ _ rfl rfl (OV.made w 0 #[] (Nat.le_refl _) (Nat.zero_le _) rfl) (H1.out.keep fun p u hc => ?qc) ?qn ?qb ?_)
    case qc => exact (World.cell?_alloc_lt w _ p (cell_lt hc)).trans hc
    case qn => simpa using b1
    case qb => simp
    intro v' w1 hown hgrow
    go_wp2
    go_ret
    refine ⟨v', rfl, by simpa using hown, ((Below.refl _ w).alloc (Nat.le_refl _) _).grown hgrow (by simp) (by intro k hk; simp [Value.ownBlock] at hk; omega)⟩

theorem elemEvQ : ElemT Tryd.prog 39 59 11 80 := ⟨Tryd.underlying39, by
  have h : (Tryd.prog.info? 59).map (fun i => (i.zero, i.size, i.bytes)) = some (some (.agg #[.int .i64 0, .int .i64 0, .int .u8 0, .int .u8 0, .int .i64 0, .int .i64 0, .int .i64 0, .int .i64 0, .int .i64 0, .int .u64 0, .int .i64 0]), 11, 80) := by kernel_rfl
  obtain ⟨i, h1, h2, h3, h4⟩ := info_parts h
  exact ⟨i, _, h1, h2, h3, h4, rfl⟩, by omega, by omega⟩
set_option maxHeartbeats 400000 in
theorem clone_ev (w : World) (v1 : Value) (xs : List (Ev)) (h1 : EV encE 11 w v1 xs) (b1 : xs.length ≤ 1000000000) :
    Calls Tryd.prog 53 #[v1] w fun e w' => ∃ v, e = .returned v ∧ OV encE 11 59 w.heap.size w' v xs ∧ Below w.heap.size w w' := by
  obtain ⟨A, c, rfl⟩ := h1.shape
  have H1 := Lib.hid h1
  clear h1
  have heq : ∀ (w : World) (a : Option Addr) (n c n' c' : Nat), (binOp .eql 39 (.slice a n c) (.slice none n' c')).run Tryd.prog w = .ok (.bool a.isNone) w := fun w a n c n' c' => Lib.run_eql_slice_nil w _ _ a n c n' c' Tryd.underlying39
  cases A with
  | none =>
    obtain rfl : xs = [] := by
      rcases H1.out with ⟨h, _⟩ | ⟨_, b, off, c', h, _⟩
      · exact h
      · cases h
    clear H1 b1
    go_enter Tryd.func53, Tryd.ntmps53
    go_wp2
    go_ret
    exact ⟨_, rfl, OV.nil _ _, Below.refl _ _⟩
  | some ad =>
    go_enter Tryd.func53, Tryd.ntmps53
    go_wp2_with (at_builtin; refine wpList_app elemEvQ encE_len encE_one rfl _ _ rfl _ _ rfl rfl (OV.made w 0 #[] (Nat.le_refl _) (Nat.zero_le _) rfl) (H1.out.keep fun p u hc => ?qc) ?qn ?qb ?_)
    case qc => exact (World.cell?_alloc_lt w _ p (cell_lt hc)).trans hc
    case qn => simpa using b1
    case qb => simp
    intro v' w1 hown hgrow
    go_wp2
    go_ret
    refine ⟨v', rfl, by simpa using hown, ((Below.refl _ w).alloc (Nat.le_refl _) _).grown hgrow (by simp) (by intro k hk; simp [Value.ownBlock] at hk; omega)⟩

set_option maxHeartbeats 1600000 in
theorem eq_grp (w : World) (v1 v2 : Value) (xs : List (Int × Int)) (h1 : EV encG 2 w v1 xs) (h2 : EV encG 2 w v2 xs) (b1 : xs.length ≤ 17592186044416) :
    Calls Tryd.prog 57 #[v1, v2] w fun e w' => e = .returned (.bool true) ∧ Below w.heap.size w w' := by
  rcases Nat.eq_zero_or_pos xs.length with h0 | h0
  · obtain rfl : xs = [] := List.eq_nil_of_length_eq_zero h0
    obtain ⟨A, c, rfl⟩ := h1.shape
    obtain ⟨A', c', rfl⟩ := h2.shape
    clear h1 h2 h0 b1
    go_enter Tryd.func57, Tryd.ntmps57
    go_wp2
    refine wp_loop_rounds 1 ?_
    rw [rounds_succ]
    go_wp2
    go_ret
    exact ⟨rfl, Below.refl _ _⟩
  · obtain ⟨b, off, c, rfl, hc, r1⟩ := h1.row h0
    obtain ⟨b', off', c', rfl, hc', r2⟩ := h2.row h0
    have R1 := Lib.hid r1; have R2 := Lib.hid r2
    obtain ⟨L, hL⟩ : ∃ L, xs.length = L := ⟨_, rfl⟩
    have HL := Lib.hid hL
    rw [hL] at b1 hc hc' ⊢
    clear r1 r2 h1 h2 h0 hL
    go_enter Tryd.func57, Tryd.ntmps57
    go_wp2
    go_loopg [13] L (fun k i wr => ∃ j : Nat, j + k = L ∧ i = .int .i64 j ∧ (∃ n, w.drewN n = wr))
    case atStart => exact ⟨0, by omega, rfl, ⟨0, rfl⟩⟩
    case round =>
      obtain ⟨j, hj, rfl, ⟨n, rfl⟩⟩ := hrel
      have HJ := Lib.hid hj
      clear hj
      by_cases hlt : j < L
      · obtain ⟨x, hx⟩ : ∃ x, xs[j]? = some x := ⟨_, List.getElem?_eq_getElem (by rw [HL.out]; exact hlt)⟩
        obtain ⟨c0, c1⟩ := R1.out.ho hx; obtain ⟨d0, d1⟩ := R2.out.ho hx
        clear hx
        go_wp2
        go_quiet (fail)
        go_wp2
        go_roundg (gk - 1)
        case measure => have := HJ.out; omega
        case rel => exact ⟨j + 1, by have := HJ.out; omega, by go_num, (by first | exact ⟨_, rfl⟩ | exact dn2 _ _ _)⟩
      · go_wp2
        go_ret
        exact ⟨rfl, below_drewN (Below.refl _ _) _⟩
set_option maxHeartbeats 1600000 in
theorem eq_rule (w : World) (v1 v2 : Value) (xs : List (Ru)) (h1 : EV encRu 3 w v1 xs) (h2 : EV encRu 3 w v2 xs) (b1 : xs.length ≤ 17592186044416) :
    Calls Tryd.prog 58 #[v1, v2] w fun e w' => e = .returned (.bool true) ∧ Below w.heap.size w w' := by
  rcases Nat.eq_zero_or_pos xs.length with h0 | h0
  · obtain rfl : xs = [] := List.eq_nil_of_length_eq_zero h0
    obtain ⟨A, c, rfl⟩ := h1.shape
    obtain ⟨A', c', rfl⟩ := h2.shape
    clear h1 h2 h0 b1
    go_enter Tryd.func58, Tryd.ntmps58
    go_wp2
    refine wp_loop_rounds 1 ?_
    rw [rounds_succ]
    go_wp2
    go_ret
    exact ⟨rfl, Below.refl _ _⟩
  · obtain ⟨b, off, c, rfl, hc, r1⟩ := h1.row h0
    obtain ⟨b', off', c', rfl, hc', r2⟩ := h2.row h0
    have R1 := Lib.hid r1; have R2 := Lib.hid r2
    obtain ⟨L, hL⟩ : ∃ L, xs.length = L := ⟨_, rfl⟩
    have HL := Lib.hid hL
    rw [hL] at b1 hc hc' ⊢
    clear r1 r2 h1 h2 h0 hL
    go_enter Tryd.func58, Tryd.ntmps58
    go_wp2
    go_loopg [13] L (fun k i wr => ∃ j : Nat, j + k = L ∧ i = .int .i64 j ∧ (∃ n, w.drewN n = wr))
    case atStart => exact ⟨0, by omega, rfl, ⟨0, rfl⟩⟩
    case round =>
      obtain ⟨j, hj, rfl, ⟨n, rfl⟩⟩ := hrel
      have HJ := Lib.hid hj
      clear hj
      by_cases hlt : j < L
      · obtain ⟨x, hx⟩ : ∃ x, xs[j]? = some x := ⟨_, List.getElem?_eq_getElem (by rw [HL.out]; exact hlt)⟩
        obtain ⟨c0, c1, c2⟩ := R1.out.rux hx; obtain ⟨d0, d1, d2⟩ := R2.out.rux hx
        clear hx
        go_wp2
        go_quiet (fail)
        go_wp2
        go_roundg (gk - 1)
        case measure => have := HJ.out; omega
        case rel => exact ⟨j + 1, by have := HJ.out; omega, by go_num, (by first | exact ⟨_, rfl⟩ | exact dn2 _ _ _)⟩
      · go_wp2
        go_ret
        exact ⟨rfl, below_drewN (Below.refl _ _) _⟩
set_option maxHeartbeats 1600000 in
theorem eq_home (w : World) (v1 v2 : Value) (xs : List (Int × Int)) (h1 : EV encG 2 w v1 xs) (h2 : EV encG 2 w v2 xs) (b1 : xs.length ≤ 17592186044416) :
    Calls Tryd.prog 59 #[v1, v2] w fun e w' => e = .returned (.bool true) ∧ Below w.heap.size w w' := by
  rcases Nat.eq_zero_or_pos xs.length with h0 | h0
  · obtain rfl : xs = [] := List.eq_nil_of_length_eq_zero h0
    obtain ⟨A, c, rfl⟩ := h1.shape
    obtain ⟨A', c', rfl⟩ := h2.shape
    clear h1 h2 h0 b1
    go_enter Tryd.func59, Tryd.ntmps59
    go_wp2
    refine wp_loop_rounds 1 ?_
    rw [rounds_succ]
    go_wp2
    go_ret
    exact ⟨rfl, Below.refl _ _⟩
  · obtain ⟨b, off, c, rfl, hc, r1⟩ := h1.row h0
    obtain ⟨b', off', c', rfl, hc', r2⟩ := h2.row h0
    have R1 := Lib.hid r1; have R2 := Lib.hid r2
    obtain ⟨L, hL⟩ : ∃ L, xs.length = L := ⟨_, rfl⟩
    have HL := Lib.hid hL
    rw [hL] at b1 hc hc' ⊢
    clear r1 r2 h1 h2 h0 hL
    go_enter Tryd.func59, Tryd.ntmps59
    go_wp2
    go_loopg [13] L (fun k i wr => ∃ j : Nat, j + k = L ∧ i = .int .i64 j ∧ (∃ n, w.drewN n = wr))
    case atStart => exact ⟨0, by omega, rfl, ⟨0, rfl⟩⟩
    case round =>
      obtain ⟨j, hj, rfl, ⟨n, rfl⟩⟩ := hrel
      have HJ := Lib.hid hj
      clear hj
      by_cases hlt : j < L
      · obtain ⟨x, hx⟩ : ∃ x, xs[j]? = some x := ⟨_, List.getElem?_eq_getElem (by rw [HL.out]; exact hlt)⟩
        obtain ⟨c0, c1⟩ := R1.out.ho hx; obtain ⟨d0, d1⟩ := R2.out.ho hx
        clear hx
        go_wp2
        go_quiet (fail)
        go_wp2
        go_roundg (gk - 1)
        case measure => have := HJ.out; omega
        case rel => exact ⟨j + 1, by have := HJ.out; omega, by go_num, (by first | exact ⟨_, rfl⟩ | exact dn2 _ _ _)⟩
      · go_wp2
        go_ret
        exact ⟨rfl, below_drewN (Below.refl _ _) _⟩
set_option maxHeartbeats 1600000 in
theorem eq_ev (w : World) (v1 v2 : Value) (xs : List (Ev)) (h1 : EV encE 11 w v1 xs) (h2 : EV encE 11 w v2 xs) (b1 : xs.length ≤ 17592186044416) :
    Calls Tryd.prog 60 #[v1, v2] w fun e w' => e = .returned (.bool true) ∧ Below w.heap.size w w' := by
  rcases Nat.eq_zero_or_pos xs.length with h0 | h0
  · obtain rfl : xs = [] := List.eq_nil_of_length_eq_zero h0
    obtain ⟨A, c, rfl⟩ := h1.shape
    obtain ⟨A', c', rfl⟩ := h2.shape
    clear h1 h2 h0 b1
    go_enter Tryd.func60, Tryd.ntmps60
    go_wp2
    refine wp_loop_rounds 1 ?_
    rw [rounds_succ]
    go_wp2
    go_ret
    exact ⟨rfl, Below.refl _ _⟩
  · obtain ⟨b, off, c, rfl, hc, r1⟩ := h1.row h0
    obtain ⟨b', off', c', rfl, hc', r2⟩ := h2.row h0
    have R1 := Lib.hid r1; have R2 := Lib.hid r2
    obtain ⟨L, hL⟩ : ∃ L, xs.length = L := ⟨_, rfl⟩
    have HL := Lib.hid hL
    rw [hL] at b1 hc hc' ⊢
    clear r1 r2 h1 h2 h0 hL
    go_enter Tryd.func60, Tryd.ntmps60
    go_wp2
    go_loopg [13] L (fun k i wr => ∃ j : Nat, j + k = L ∧ i = .int .i64 j ∧ (∃ n, w.drewN n = wr))
    case atStart => exact ⟨0, by omega, rfl, ⟨0, rfl⟩⟩
    case round =>
      obtain ⟨j, hj, rfl, ⟨n, rfl⟩⟩ := hrel
      have HJ := Lib.hid hj
      clear hj
      by_cases hlt : j < L
      · obtain ⟨x, hx⟩ : ∃ x, xs[j]? = some x := ⟨_, List.getElem?_eq_getElem (by rw [HL.out]; exact hlt)⟩
        obtain ⟨c0, c1, c2, c3, c4, c5, c6, c7, c8, c9, c10⟩ := R1.out.ev hx; obtain ⟨d0, d1, d2, d3, d4, d5, d6, d7, d8, d9, d10⟩ := R2.out.ev hx
        clear hx
        go_wp2
        go_quiet (fail)
        go_wp2
        go_roundg (gk - 1)
        case measure => have := HJ.out; omega
        case rel => exact ⟨j + 1, by have := HJ.out; omega, by go_num, (by first | exact ⟨_, rfl⟩ | exact dn2 _ _ _)⟩
      · go_wp2
        go_ret
        exact ⟨rfl, below_drewN (Below.refl _ _) _⟩
theorem overL_succ {us : List Us} {j : Nat} {u : Us} (h : us[j]? = some u) : overL (us.take (j + 1)) = overL (us.take j) ++ if 0 < u.d then [u] else [] := by
  unfold overL
  rw [List.take_add_one, h, List.filter_append]
  congr 1
  by_cases hd : 0 < u.d <;> simp [hd]
theorem overL_len (us : List Us) (j : Nat) : (overL (us.take j)).length ≤ us.length := Nat.le_trans (List.length_filter_le _ _) (by simp; omega)
set_option maxHeartbeats 1600000 in
theorem rover_ok (w : World) (v : Value) (us : List Us) (h : EV encUs 5 w v us) (hl : us.length ≤ 900000000) :
    Calls Tryd.prog 56 #[v] w fun e w' => ∃ v', e = .returned v' ∧ OV encUs 5 128 w.heap.size w' v' (overL us) ∧ Below w.heap.size w w' := by
  obtain ⟨A, c, rfl⟩ := h.shape
  obtain ⟨n, hn⟩ : ∃ n, us.length = n := ⟨_, rfl⟩
  have HV := Lib.hid h
  have HN := Lib.hid hn
  rw [hn] at HV hl ⊢
  clear h hn
  go_enter Tryd.func56, Tryd.ntmps56
  go_wp2
  go_loopg [3, 4] n (fun k v i wr => ∃ j : Nat, j + k = n ∧ i = .int .i64 j ∧ OV encUs 5 128 w.heap.size wr v (overL (us.take j)) ∧ Below w.heap.size w wr)
  case atStart => exact ⟨0, by omega, rfl, OV.nil _ _, Below.refl _ _⟩
  case round =>
    obtain ⟨j, hj, rfl, ho, hb⟩ := hrel
    have HJ := Lib.hid hj
    have HO := Lib.hid ho
    have HB := Lib.hid hb
    clear hj ho hb
    by_cases hlt : j < n
    · obtain ⟨u, hu⟩ : ∃ u, us[j]? = some u := ⟨_, List.getElem?_eq_getElem (by rw [HN.out]; exact hlt)⟩
      obtain ⟨b, off, c', hs, hc, hr⟩ := (HV.out.below HB.out).row (by rw [HN.out]; omega)
      rw [HN.out] at hs hc
      simp only [Value.slice.injEq, true_and] at hs
      obtain ⟨rfl, rfl⟩ := hs
      obtain ⟨c0, c1, c2, c3, c4⟩ := hr.us hu
      have HX := Lib.hid (overL_succ hu)
      have HLE := Lib.hid (overL_len us j)
      clear hr hu
      by_cases hd : 0 < u.d
      · have HX2 := Lib.hid (show overL (us.take (j + 1)) = overL (us.take j) ++ [u] from by rw [HX.out, if_pos hd])
        go_wp2_with (at_builtin; refine wpList_app elemRU encUs_len encUs_one rfl _ _ rfl _ _ rfl rfl (HO.out.alloc _) (new_ruseM (u := u) (by simp)) ?q1 ?q2 ?_)
        case q1 => have := HLE.out; have := HN.out; simp; omega
        case q2 => have := HB.out.size; simp; omega
        intro v' w3 ho3 hg3
        have HO3 := Lib.hid ho3
        have HB3 := Lib.hid ((HB.out.alloc HB.out.size (.cells #[.int .i64 u.r, .int .i64 u.c, .int .i64 u.p, .int .i64 u.t, .int .i64 u.d] 128)).grown hg3 (by have := HB.out.size; simp; omega) (fun k hk => (HO.out.block k hk).1))
        clear ho3 hg3
        go_wp2
        go_roundg (gk - 1)
        case measure => have := HJ.out; omega
        case rel => exact ⟨j + 1, by have := HJ.out; omega, by go_num, by rw [HX2.out]; exact HO3.out, HB3.out⟩
      · have HX2 := Lib.hid (show overL (us.take (j + 1)) = overL (us.take j) from by rw [HX.out, if_neg hd, List.append_nil])
        go_wp2
        go_roundg (gk - 1)
        case measure => have := HJ.out; omega
        case rel => exact ⟨j + 1, by have := HJ.out; omega, by go_num, by rw [HX2.out]; exact HO.out, HB.out⟩
    · obtain rfl : n = j := by have := HJ.out; omega
      have HF := Lib.hid HO.out
      rw [← HN.out, List.take_length] at HF
      go_wp2
      go_ret
      exact ⟨_, rfl, HF.out, HB.out⟩
end Go.Proofs.YtaplangfppohdaaDoor
namespace Go.Proofs.YtaplangfppohdaaDoor
open Go.RowKit Go.Shelf
attribute [local go_sem] Oper.semAt_some

/-- What the law's comparison keeps. -/
def AccF (w w1 : World) (v0 v1 v2 v3 k0 k1 k2 k3 vu vw : Value) (B0 B1 : Nat) (gs : List (Int × Int)) (rs : List Ru) (hs : List (Int × Int)) (l : List Ev) (us : List Us) : Prop :=
  Facts w1 [sEV encG 2 v0 gs, sEV encRu 3 v1 rs, sEV encG 2 v2 hs, sEV encE 11 v3 l, sEV encG 2 k0 gs, sEV encRu 3 k1 rs, sEV encG 2 k2 hs, sEV encE 11 k3 l, sOV encUs 5 50 B0 vu us, sOV encUs 5 128 B1 vw us, sB w]
set_option maxRecDepth 100000 in
set_option maxHeartbeats 3200000 in
theorem acc_t44 (w w1 : World) (v0 v1 v2 v3 k0 k1 k2 k3 : Value) (n cu cw B0 B1 : Nat) (Au Aw : Option Addr) (gs : List (Int × Int)) (rs : List Ru) (hs : List (Int × Int)) (l : List Ev) (us : List Us) {u4 u5 u6 u7 u8 u13 u14 u15 u16 u17 u18 u19 u20 u21 u22 u23 u24 u25 u27 u29 u30 u31 u32 u33 u34 u35 u36 u37 u38 u39 u40 u41 u42 u43 u44 u45 u46 u47 u48 u49 u50 u51 u52 u53 u54 u55 u56 u57 u58 u59 u60 u61 u62 u63 u64 u65 u66 u67 u68 u69 u70 u71 u72 u73 u74 u75 u76 u77 u78 u79 u80 u81 u82 u83 u84 u85 u86 u87 u88 u89 u90 u91 u92 u93 u94 u95 u96 u97 u98 u99 u100 u101 u102 u103 u104 u105 u106 u107 u108 u109 u110 u111 u112 u113 u114 u115 u116 u117 u118 u119 u120 u121 u122 u123 u124 u125 u126 u127 u128 u129 u130 u131 u132 u133 u134 u135 u136 u137 u138 u139 u140 u141 u142 u143 u144 u145 u146 u147 u148 u149 u150 u151 u152 u153 u154 u155 u156 u157 u158 u159 u160 u161 u162 u163 u164 u165 u166 u167 u168 u169 u170 u171 u172 u173 u174 u175 u176 u177 u178 u179 u180 u181 u182 u183 u184 u185 u186 u187 u188 u189 u190 u191 u192 u193 u194 u195 u196 u197 u198 u199 u200 u201 u202 u203 u204 : Value}
    (HF : Hid (AccF w w1 v0 v1 v2 v3 k0 k1 k2 k3 (.slice Au n cu) (.slice Aw n cw) B0 B1 gs rs hs l us)) (HN : Hid (us.length = n)) (hn : n ≤ 900000000) (hb : gs.length ≤ 100000 ∧ rs.length ≤ 100000 ∧ hs.length ≤ 100000 ∧ l.length ≤ 100000) :
    Code.wp Tryd.prog (tailR Tryd.f20 44) (bodyPost Tryd.prog Tryd.f20 fun e w' => e = .returned (.bool true) ∧ Below w.heap.size w w')
      ⟨#[v0, v1, v2, v3, u4, u5, u6, u7, u8, k0, k1, k2, k3, u13, u14, u15, u16, u17, u18, u19, u20, u21, u22, u23, u24, u25, .slice Au n cu, u27, .slice Aw n cw, u29, u30, u31, u32, u33, u34, u35, u36, u37, u38, u39, u40, u41, u42, u43, u44, u45, u46, u47, u48, u49, u50, u51, u52, u53, u54, u55, u56, u57, u58, u59, u60, u61, u62, u63, u64, u65, u66, u67, u68, u69, u70, u71, u72, u73, u74, u75, u76, u77, u78, u79, u80, u81, u82, u83, u84, u85, u86, u87, u88, u89, u90, u91, u92, u93, u94, u95, u96, u97, u98, u99, u100, u101, u102, u103, u104, u105, u106, u107, u108, u109, u110, u111, u112, u113, u114, u115, u116, u117, u118, u119, u120, u121, u122, u123, u124, u125, u126, u127, u128, u129, u130, u131, u132, u133, u134, u135, u136, u137, u138, u139, u140, u141, u142, u143, u144, u145, u146, u147, u148, u149, u150, u151, u152, u153, u154, u155, u156, u157, u158, u159, u160, u161, u162, u163, u164, u165, u166, u167, u168, u169, u170, u171, u172, u173, u174, u175, u176, u177, u178, u179, u180, u181, u182, u183, u184, u185, u186, u187, u188, u189, u190, u191, u192, u193, u194, u195, u196, u197, u198, u199, u200, u201, u202, u203, u204], []⟩ w1 := by
  conv => arg 2; whnf
  conv => arg 4; dsimp only
  go_wp2
  go_loopg [36, 174] n (fun k _ i wr => ∃ j : Nat, j + k = n ∧ i = .int .i64 j ∧ Below w1.heap.size w1 wr)
  case atStart => exact ⟨0, by omega, rfl, Below.refl _ _⟩
  case round =>
    obtain ⟨j, hj, rfl, hbl⟩ := hrel
    have HJ := Lib.hid hj
    have HB := Lib.hid hbl
    have F := HF.out
    unfold AccF at F
    replace F := F.below hbl
    clear hj hbl
    by_cases hlt : j < n
    · obtain ⟨u, hu⟩ : ∃ u, us[j]? = some u := ⟨_, List.getElem?_eq_getElem (by rw [HN.out]; exact hlt)⟩
      obtain ⟨b, off, c', hs1, hc, hr⟩ := (OV.ev (F.get 8) encUs_len).row (by rw [HN.out]; omega)
      rw [HN.out] at hs1 hc
      simp only [Value.slice.injEq, true_and] at hs1
      obtain ⟨rfl, rfl⟩ := hs1
      obtain ⟨c0, c1, c2, c3, c4⟩ := hr.us hu
      obtain ⟨b2, off2, c2', hs2, hc2, hr2⟩ := (OV.ev (F.get 9) encUs_len).row (by rw [HN.out]; omega)
      rw [HN.out] at hs2 hc2
      simp only [Value.slice.injEq, true_and] at hs2
      obtain ⟨rfl, rfl⟩ := hs2
      obtain ⟨d0, d1, d2, d3, d4⟩ := hr2.us hu
      clear hr hr2 hu F
      go_wp2_with fail
      go_quiet (fail)
      go_wp2
      go_roundg (gk - 1)
      case measure => have := HJ.out; omega
      case rel => exact ⟨j + 1, by have := HJ.out; omega, by go_num, below_drewN HB.out _⟩
    · obtain rfl : n = j := by have := HJ.out; omega
      have HE1 := Lib.hid (eq_grp wr k0 v0 gs (F.get 4) (F.get 0) (by omega))
      clear hlt
      go_wp2_with fail
      refine HE1.out.mono ?_
      rintro e w2 ⟨rfl, b2⟩
      replace F := F.below b2
      clear b2 HE1
      go_wp2_with fail
      refine (eq_rule w2 k1 v1 rs (F.get 5) (F.get 1) (by omega)).mono ?_
      rintro e w3 ⟨rfl, b3⟩
      replace F := F.below b3
      clear b3
      go_wp2_with fail
      refine (eq_home w3 k2 v2 hs (F.get 6) (F.get 2) (by omega)).mono ?_
      rintro e w4 ⟨rfl, b4⟩
      replace F := F.below b4
      clear b4
      go_wp2_with fail
      refine (eq_ev w4 k3 v3 l (F.get 7) (F.get 3) (by omega)).mono ?_
      rintro e w5 ⟨rfl, b5⟩
      replace F := F.below b5
      clear b5
      have HZ := Lib.hid (F.get 10 : Below w.heap.size w w5)
      clear F
      go_wp2
      go_ret
      exact ⟨rfl, HZ.out⟩
end Go.Proofs.YtaplangfppohdaaDoor
namespace Go.Proofs.YtaplangfppohdaaDoor
open Go.RowKit Go.Shelf
attribute [local go_sem] Oper.semAt_some

def zapU (os : List Us) (j : Nat) : List Us := List.replicate j ⟨0, 0, 0, 0, 0⟩ ++ os.drop j
theorem zapU_len (os : List Us) {j : Nat} (h : j ≤ os.length) : (zapU os j).length = os.length := by unfold zapU; simp; omega
theorem zapU_get {os : List Us} {j : Nat} : (zapU os j)[j]? = os[j]? := by unfold zapU; rw [List.getElem?_append_right (by simp)]; simp
theorem zapU_succ {os : List Us} {j : Nat} (h : j < os.length) : (zapU os j).set j ⟨0, 0, 0, 0, 0⟩ = zapU os (j + 1) := by
  unfold zapU
  rw [List.set_append_right _ _ (by simp)]
  rw [List.length_replicate, Nat.sub_self, List.drop_eq_getElem_cons h, List.set_cons_zero, List.replicate_succ', List.append_assoc]
  rfl
theorem zap5 {e : TypeId} {base g n cap j : Nat} {W : World} {xs : List Us} {x : Us} (h : OV encUs 5 e base W (.slice (some ⟨g, 0, none⟩) n cap) xs) (hn : xs.length = n) (hx : xs[j]? = some x) :
    OV encUs 5 e base (((((W.setCell ⟨g, j * 5, none⟩ (.int .i64 0)).setCell ⟨g, j * 5 + 1, none⟩ (.int .i64 0)).setCell ⟨g, j * 5 + 2, none⟩ (.int .i64 0)).setCell ⟨g, j * 5 + 3, none⟩ (.int .i64 0)).setCell ⟨g, j * 5 + 4, none⟩ (.int .i64 0)) (.slice (some ⟨g, 0, none⟩) n cap) (xs.set j ⟨0, 0, 0, 0, 0⟩) ∧
    W.grownBy (((((W.setCell ⟨g, j * 5, none⟩ (.int .i64 0)).setCell ⟨g, j * 5 + 1, none⟩ (.int .i64 0)).setCell ⟨g, j * 5 + 2, none⟩ (.int .i64 0)).setCell ⟨g, j * 5 + 3, none⟩ (.int .i64 0)).setCell ⟨g, j * 5 + 4, none⟩ (.int .i64 0)) (some g) := by
  have hj : j < xs.length := (List.getElem?_eq_some_iff.1 hx).1
  have hg : ∀ y : Us, (xs.set j y)[j]? = some y := fun y => by simp [hj]
  have hl : ∀ y : Us, (xs.set j y).length = n := fun y => by rw [List.length_set, hn]
  obtain ⟨o1, g1⟩ := h.setF encUs_len hn hx (j := 0) (by omega) ⟨0, x.c, x.p, x.t, x.d⟩ (.int .i64 0) rfl
  obtain ⟨o2, g2⟩ := o1.setF encUs_len (hl _) (hg _) (j := 1) (by omega) ⟨0, 0, x.p, x.t, x.d⟩ (.int .i64 0) rfl
  rw [List.set_set] at o2
  obtain ⟨o3, g3⟩ := o2.setF encUs_len (hl _) (hg _) (j := 2) (by omega) ⟨0, 0, 0, x.t, x.d⟩ (.int .i64 0) rfl
  rw [List.set_set] at o3
  obtain ⟨o4, g4⟩ := o3.setF encUs_len (hl _) (hg _) (j := 3) (by omega) ⟨0, 0, 0, 0, x.d⟩ (.int .i64 0) rfl
  rw [List.set_set] at o4
  obtain ⟨o5, g5⟩ := o4.setF encUs_len (hl _) (hg _) (j := 4) (by omega) ⟨0, 0, 0, 0, 0⟩ (.int .i64 0) rfl
  rw [List.set_set] at o5
  exact ⟨o5, (((g1.trans g2).trans g3).trans g4).trans g5⟩
set_option maxRecDepth 100000 in
set_option maxHeartbeats 3200000 in
theorem acc_t34 (w w1 : World) (v0 v1 v2 v3 k0 k1 k2 k3 v30 : Value) (n cu cw B0 B1 : Nat) (Au Aw : Option Addr) (gs : List (Int × Int)) (rs : List Ru) (hs : List (Int × Int)) (l : List Ev) (us : List Us) {u4 u5 u6 u7 u8 u13 u14 u15 u16 u17 u18 u19 u20 u21 u22 u23 u24 u25 u27 u29 u31 u32 u33 u34 u35 u36 u37 u38 u39 u40 u41 u42 u43 u44 u45 u46 u47 u48 u49 u50 u51 u52 u53 u54 u55 u56 u57 u58 u59 u60 u61 u62 u63 u64 u65 u66 u67 u68 u69 u70 u71 u72 u73 u74 u75 u76 u77 u78 u79 u80 u81 u82 u83 u84 u85 u86 u87 u88 u89 u90 u91 u92 u93 u94 u95 u96 u97 u98 u99 u100 u101 u102 u103 u104 u105 u106 u107 u108 u109 u110 u111 u112 u113 u114 u115 u116 u117 u118 u119 u120 u121 u122 u123 u124 u125 u126 u127 u128 u129 u130 u131 u132 u133 u134 u135 u136 u137 u138 u139 u140 u141 u142 u143 u144 u145 u146 u147 u148 u149 u150 u151 u152 u153 u154 u155 u156 u157 u158 u159 u160 u161 u162 u163 u164 u165 u166 u167 u168 u169 u170 u171 u172 u173 u174 u175 u176 u177 u178 u179 u180 u181 u182 u183 u184 u185 u186 u187 u188 u189 u190 u191 u192 u193 u194 u195 u196 u197 u198 u199 u200 u201 u202 u203 u204 : Value}
    (HF : Hid (AccF w w1 v0 v1 v2 v3 k0 k1 k2 k3 (.slice Au n cu) (.slice Aw n cw) B0 B1 gs rs hs l us)) (HV : Hid (EV encUs 5 w1 v30 us)) (HN : Hid (us.length = n)) (hn : n ≤ 900000000) (hb : gs.length ≤ 100000 ∧ rs.length ≤ 100000 ∧ hs.length ≤ 100000 ∧ l.length ≤ 100000) :
    Code.wp Tryd.prog (tailR Tryd.f20 34) (bodyPost Tryd.prog Tryd.f20 fun e w' => e = .returned (.bool true) ∧ Below w.heap.size w w')
      ⟨#[v0, v1, v2, v3, u4, u5, u6, u7, u8, k0, k1, k2, k3, u13, u14, u15, u16, u17, u18, u19, u20, u21, u22, u23, u24, u25, .slice Au n cu, u27, .slice Aw n cw, u29, v30, u31, u32, u33, u34, u35, u36, u37, u38, u39, u40, u41, u42, u43, u44, u45, u46, u47, u48, u49, u50, u51, u52, u53, u54, u55, u56, u57, u58, u59, u60, u61, u62, u63, u64, u65, u66, u67, u68, u69, u70, u71, u72, u73, u74, u75, u76, u77, u78, u79, u80, u81, u82, u83, u84, u85, u86, u87, u88, u89, u90, u91, u92, u93, u94, u95, u96, u97, u98, u99, u100, u101, u102, u103, u104, u105, u106, u107, u108, u109, u110, u111, u112, u113, u114, u115, u116, u117, u118, u119, u120, u121, u122, u123, u124, u125, u126, u127, u128, u129, u130, u131, u132, u133, u134, u135, u136, u137, u138, u139, u140, u141, u142, u143, u144, u145, u146, u147, u148, u149, u150, u151, u152, u153, u154, u155, u156, u157, u158, u159, u160, u161, u162, u163, u164, u165, u166, u167, u168, u169, u170, u171, u172, u173, u174, u175, u176, u177, u178, u179, u180, u181, u182, u183, u184, u185, u186, u187, u188, u189, u190, u191, u192, u193, u194, u195, u196, u197, u198, u199, u200, u201, u202, u203, u204], []⟩ w1 := by
  conv => arg 2; whnf
  conv => arg 4; dsimp only
  have F := HF.out
  unfold AccF at F
  have HOV := Lib.hid (over_ok w1 (.slice Au n cu) us (OV.ev (F.get 8) encUs_len) (by rw [HN.out]; omega))
  have HOR := Lib.hid (fun W (h : EV encUs 5 W v30 us) => rover_ok W v30 us h (by rw [HN.out]; omega))
  have HML := Lib.hid (show (overL us).length ≤ n from by rw [← HN.out]; exact List.length_filter_le _ _)
  clear F
  go_wp2_with fail
  refine HOV.out.mono ?_
  rintro e w2 ⟨vo, rfl, o2, b2⟩
  have HO2 := Lib.hid o2
  have HB2 := Lib.hid b2
  clear o2 b2 HOV
  go_wp2_with fail
  refine (HOR.out _ (HV.out.below HB2.out)).mono ?_
  rintro e w3 ⟨vl, rfl, o3, b3⟩
  obtain ⟨Ao, co, hvo⟩ := (HO2.out.ev encUs_len).shape
  obtain ⟨Al, cl, hvl⟩ := (o3.ev encUs_len).shape
  generalize overL us = os at HO2 o3 hvo hvl HML
  obtain ⟨M, hM⟩ : ∃ M, os.length = M := ⟨_, rfl⟩
  rw [hM] at hvo hvl HML
  subst hvo hvl
  have HM := Lib.hid hM
  have HO3 := Lib.hid (HO2.out.below b3)
  have HL3 := Lib.hid o3
  have HB3 := Lib.hid (HB2.out.trans (b3.mono HB2.out.size))
  have hMn := HML.out
  clear o3 b3 HO2 HB2 hM HOR
  go_upto_block 8 with fail
  go_cut [] (fun wx => Below w1.heap.size w1 wx)
  case first =>
    go_wp2
    go_loopg [35, 155] M (fun k _ i wr => ∃ j : Nat, j + k = M ∧ i = .int .i64 j ∧ OV encUs 5 50 w1.heap.size wr (.slice Ao M co) (zapU os j) ∧ OV encUs 5 128 w2.heap.size wr (.slice Al M cl) os ∧ Below w1.heap.size w1 wr)
    case atStart => exact ⟨0, by omega, rfl, HO3.out, HL3.out, HB3.out⟩
    case round =>
      obtain ⟨j, hj, rfl, ho, hl, hbl⟩ := hrel
      have HJ := Lib.hid hj
      have HO := Lib.hid ho
      have HL := Lib.hid hl
      have HB := Lib.hid hbl
      clear hj ho hl hbl HO3 HL3 HB3
      by_cases hlt : j < M
      · obtain ⟨x, hx⟩ : ∃ x, os[j]? = some x := ⟨_, List.getElem?_eq_getElem (by rw [HM.out]; exact hlt)⟩
        have hzl := zapU_len os (j := j) (by rw [HM.out]; omega)
        obtain ⟨g, cap, hs1, hcap, hbg, hgs⟩ := HO.out.row_form encUs_len (n := M) (by rw [hzl, HM.out]) (by omega)
        simp only [Value.slice.injEq, true_and] at hs1
        obtain ⟨rfl, rfl⟩ := hs1
        have hrow := (OV.ev HO.out encUs_len).row3 (by rw [hzl, HM.out]; omega)
        obtain ⟨c0, c1, c2, c3, c4⟩ := hrow.us (show (zapU os j)[j]? = some x by rw [zapU_get]; exact hx)
        simp only [Nat.zero_add] at c0 c1 c2 c3 c4
        obtain ⟨b2, off2, c2', hs2, hc2, hr2⟩ := (OV.ev HL.out encUs_len).row (by rw [HM.out]; omega)
        rw [HM.out] at hs2 hc2
        simp only [Value.slice.injEq, true_and] at hs2
        obtain ⟨rfl, rfl⟩ := hs2
        obtain ⟨d0, d1, d2, d3, d4⟩ := hr2.us hx
        have HFZ := Lib.hid (fun (W : World) (h : OV encUs 5 50 w1.heap.size W (.slice (some ⟨g, 0, none⟩) M co) (zapU os j)) (i : Nat) => h.frz (by rw [hzl, HM.out]) i)
        have hf0 := HFZ.out _ HO.out (j * 5)
        have hf1 := HFZ.out _ HO.out (j * 5 + 1)
        have hf2 := HFZ.out _ HO.out (j * 5 + 2)
        have hf3 := HFZ.out _ HO.out (j * 5 + 3)
        have hf4 := HFZ.out _ HO.out (j * 5 + 4)
        clear hrow hr2
        go_wp2_with fail
        go_quiet (fail)
        have HON := Lib.hid (HO.out.drewN nq)
        have HLN := Lib.hid (HL.out.drewN nq)
        have HBN := Lib.hid (below_drewN HB.out nq)
        replace c0 : (wr.drewN nq).cell? ⟨g, j * 5, none⟩ = some (.int .i64 x.r) := c0
        replace c1 : (wr.drewN nq).cell? ⟨g, j * 5 + 1, none⟩ = some (.int .i64 x.c) := c1
        replace c2 : (wr.drewN nq).cell? ⟨g, j * 5 + 2, none⟩ = some (.int .i64 x.p) := c2
        replace c3 : (wr.drewN nq).cell? ⟨g, j * 5 + 3, none⟩ = some (.int .i64 x.t) := c3
        replace c4 : (wr.drewN nq).cell? ⟨g, j * 5 + 4, none⟩ = some (.int .i64 x.d) := c4
        replace hf0 : (wr.drewN nq).frozen? ⟨g, j * 5, none⟩ = false := hf0
        replace hf1 : (wr.drewN nq).frozen? ⟨g, j * 5 + 1, none⟩ = false := hf1
        replace hf2 : (wr.drewN nq).frozen? ⟨g, j * 5 + 2, none⟩ = false := hf2
        replace hf3 : (wr.drewN nq).frozen? ⟨g, j * 5 + 3, none⟩ = false := hf3
        replace hf4 : (wr.drewN nq).frozen? ⟨g, j * 5 + 4, none⟩ = false := hf4
        generalize wr.drewN nq = wm at HON HLN HBN c0 c1 c2 c3 c4 hf0 hf1 hf2 hf3 hf4 ⊢
        clear d0 d1 d2 d3 d4
        obtain ⟨oz, gz⟩ := zap5 HON.out (by rw [hzl, HM.out]) (show (zapU os j)[j]? = some x by rw [zapU_get]; exact hx)
        rw [zapU_succ (by rw [HM.out]; exact hlt)] at oz
        have HOZ := Lib.hid oz
        have HLZ := Lib.hid (HLN.out.keep gz ((HLN.out.ne HON.out (by decide))))
        have HBZ := Lib.hid (HBN.out.grown gz HBN.out.size (fun k hk => by cases hk; exact hbg))
        clear oz gz
        go_wp2
        go_roundg (gk - 1)
        case measure => have := HJ.out; omega
        case rel => exact ⟨j + 1, by have := HJ.out; omega, by go_num, HOZ.out, HLZ.out, HBZ.out⟩
      · go_wp2
        go_meet
        exact HB.out
  case rest =>
    refine (‹∀ (a : Act) (w : World), Code.wp _ _ _ a w → _› : ∀ (a : Act) (w : World), _ → _) _ _ (acc_t44 w _ v0 v1 v2 v3 k0 k1 k2 k3 n cu cw B0 B1 Au Aw gs rs hs l us (Lib.hid ((HF.out : Facts _ _).below hcut)) HN hn hb)
end Go.Proofs.YtaplangfppohdaaDoor

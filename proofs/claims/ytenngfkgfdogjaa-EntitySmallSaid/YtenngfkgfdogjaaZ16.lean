/- slices.Equal where both are the same; slices.EqualFunc at rows; slices.Contains at keys | slices.EqualFunc at rows that are the same; quantumlaw21's keys, small, Same. -/
import Derived.Test.YtenngfkgfdogjaaZ15
import Derived.Test.YtenngfkgfdogjaaZ13
set_option linter.unusedVariables false
set_option linter.unusedSimpArgs false
set_option linter.unusedSectionVars false
namespace Go.Proofs.Ytenngfkgfdogjaa
open Go Go.RowKit Go.Shelf
attribute [local go_sem] Oper.semAt_some

theorem ER.u1 {w : World} {b off : Nat} {l : List Int} (h : ER encU 1 w b off l) {i : Nat} {x : Int} (hi : l[i]? = some x) : w.cell? ⟨b, off + i, none⟩ = some (.int .u64 x) := by
  have := h i x hi 0 _ rfl; simpa using this
theorem ER.i1 {w : World} {b off : Nat} {l : List Int} (h : ER encI 1 w b off l) {i : Nat} {x : Int} (hi : l[i]? = some x) : w.cell? ⟨b, off + i, none⟩ = some (.int .i64 x) := by
  have := h i x hi 0 _ rfl; simpa using this
set_option maxHeartbeats 1600000 in
theorem eq_u64 (w : World) (v1 v2 : Value) (xs : List (Int)) (h1 : EV encU 1 w v1 xs) (h2 : EV encU 1 w v2 xs) (b1 : xs.length ≤ 17592186044416) :
    Calls Try.prog 19 #[v1, v2] w fun e w' => e = .returned (.bool true) ∧ Below w.heap.size w w' := by
  rcases Nat.eq_zero_or_pos xs.length with h0 | h0
  · obtain rfl : xs = [] := List.eq_nil_of_length_eq_zero h0
    obtain ⟨A, c, rfl⟩ := h1.shape
    obtain ⟨A', c', rfl⟩ := h2.shape
    clear h1 h2 h0 b1
    go_enter Try.func19, Try.ntmps19
    go_wp2
    refine wp_loop_rounds 1 ?_
    rw [rounds_succ]
    go_wp2
    go_ret
    exact ⟨rfl, Below.refl _ _⟩
  · obtain ⟨b, off, c, rfl, hc, r1⟩ := h1.row h0
    obtain ⟨b', off', c', rfl, hc', r2⟩ := h2.row h0
    have R1 := Lib.hid r1; have R2 := Lib.hid r2
    obtain ⟨L, hL⟩ : ∃ L, xs.length = L := ⟨_, rfl⟩
    have HL := Lib.hid hL
    rw [hL] at b1 hc hc' ⊢
    clear r1 r2 h1 h2 h0 hL
    go_enter Try.func19, Try.ntmps19
    go_wp2
    go_loopg [13] L (fun k i wr => ∃ j : Nat, j + k = L ∧ i = .int .i64 j ∧ (∃ n, w.drewN n = wr))
    case atStart => exact ⟨0, by omega, rfl, ⟨0, rfl⟩⟩
    case round =>
      obtain ⟨j, hj, rfl, ⟨n, rfl⟩⟩ := hrel
      have HJ := Lib.hid hj
      clear hj
      by_cases hlt : j < L
      · obtain ⟨x, hx⟩ : ∃ x, xs[j]? = some x := ⟨_, List.getElem?_eq_getElem (by rw [HL.out]; exact hlt)⟩
        have c0 := R1.out.u1 hx; have d0 := R2.out.u1 hx
        clear hx
        go_wp2
        go_quiet (fail)
        go_wp2
        go_roundg (gk - 1)
        case measure => have := HJ.out; omega
        case rel => exact ⟨j + 1, by have := HJ.out; omega, by go_num, (by first | exact ⟨_, rfl⟩ | exact dn2 _ _ _)⟩
      · go_wp2
        go_ret
        exact ⟨rfl, below_drewN (Below.refl _ _) _⟩
set_option maxHeartbeats 1600000 in
theorem eq_int (w : World) (v1 v2 : Value) (xs : List (Int)) (h1 : EV encI 1 w v1 xs) (h2 : EV encI 1 w v2 xs) (b1 : xs.length ≤ 17592186044416) :
    Calls Try.prog 36 #[v1, v2] w fun e w' => e = .returned (.bool true) ∧ Below w.heap.size w w' := by
  rcases Nat.eq_zero_or_pos xs.length with h0 | h0
  · obtain rfl : xs = [] := List.eq_nil_of_length_eq_zero h0
    obtain ⟨A, c, rfl⟩ := h1.shape
    obtain ⟨A', c', rfl⟩ := h2.shape
    clear h1 h2 h0 b1
    go_enter Try.func36, Try.ntmps36
    go_wp2
    refine wp_loop_rounds 1 ?_
    rw [rounds_succ]
    go_wp2
    go_ret
    exact ⟨rfl, Below.refl _ _⟩
  · obtain ⟨b, off, c, rfl, hc, r1⟩ := h1.row h0
    obtain ⟨b', off', c', rfl, hc', r2⟩ := h2.row h0
    have R1 := Lib.hid r1; have R2 := Lib.hid r2
    obtain ⟨L, hL⟩ : ∃ L, xs.length = L := ⟨_, rfl⟩
    have HL := Lib.hid hL
    rw [hL] at b1 hc hc' ⊢
    clear r1 r2 h1 h2 h0 hL
    go_enter Try.func36, Try.ntmps36
    go_wp2
    go_loopg [13] L (fun k i wr => ∃ j : Nat, j + k = L ∧ i = .int .i64 j ∧ (∃ n, w.drewN n = wr))
    case atStart => exact ⟨0, by omega, rfl, ⟨0, rfl⟩⟩
    case round =>
      obtain ⟨j, hj, rfl, ⟨n, rfl⟩⟩ := hrel
      have HJ := Lib.hid hj
      clear hj
      by_cases hlt : j < L
      · obtain ⟨x, hx⟩ : ∃ x, xs[j]? = some x := ⟨_, List.getElem?_eq_getElem (by rw [HL.out]; exact hlt)⟩
        have c0 := R1.out.i1 hx; have d0 := R2.out.i1 hx
        clear hx
        go_wp2
        go_quiet (fail)
        go_wp2
        go_roundg (gk - 1)
        case measure => have := HJ.out; omega
        case rel => exact ⟨j + 1, by have := HJ.out; omega, by go_num, (by first | exact ⟨_, rfl⟩ | exact dn2 _ _ _)⟩
      · go_wp2
        go_ret
        exact ⟨rfl, below_drewN (Below.refl _ _) _⟩
set_option maxHeartbeats 1600000 in
theorem eq_key (w : World) (v1 v2 : Value) (xs : List (Ky)) (h1 : EV encY 3 w v1 xs) (h2 : EV encY 3 w v2 xs) (b1 : xs.length ≤ 17592186044416) :
    Calls Try.prog 23 #[v1, v2] w fun e w' => e = .returned (.bool true) ∧ Below w.heap.size w w' := by
  rcases Nat.eq_zero_or_pos xs.length with h0 | h0
  · obtain rfl : xs = [] := List.eq_nil_of_length_eq_zero h0
    obtain ⟨A, c, rfl⟩ := h1.shape
    obtain ⟨A', c', rfl⟩ := h2.shape
    clear h1 h2 h0 b1
    go_enter Try.func23, Try.ntmps23
    go_wp2
    refine wp_loop_rounds 1 ?_
    rw [rounds_succ]
    go_wp2
    go_ret
    exact ⟨rfl, Below.refl _ _⟩
  · obtain ⟨b, off, c, rfl, hc, r1⟩ := h1.row h0
    obtain ⟨b', off', c', rfl, hc', r2⟩ := h2.row h0
    have R1 := Lib.hid r1; have R2 := Lib.hid r2
    obtain ⟨L, hL⟩ : ∃ L, xs.length = L := ⟨_, rfl⟩
    have HL := Lib.hid hL
    rw [hL] at b1 hc hc' ⊢
    clear r1 r2 h1 h2 h0 hL
    go_enter Try.func23, Try.ntmps23
    go_wp2
    go_loopg [13] L (fun k i wr => ∃ j : Nat, j + k = L ∧ i = .int .i64 j ∧ (∃ n, w.drewN n = wr))
    case atStart => exact ⟨0, by omega, rfl, ⟨0, rfl⟩⟩
    case round =>
      obtain ⟨j, hj, rfl, ⟨n, rfl⟩⟩ := hrel
      have HJ := Lib.hid hj
      clear hj
      by_cases hlt : j < L
      · obtain ⟨x, hx⟩ : ∃ x, xs[j]? = some x := ⟨_, List.getElem?_eq_getElem (by rw [HL.out]; exact hlt)⟩
        obtain ⟨c0, c1, c2⟩ := R1.out.ky hx; obtain ⟨d0, d1, d2⟩ := R2.out.ky hx
        clear hx
        go_wp2
        go_quiet (fail)
        go_wp2
        go_roundg (gk - 1)
        case measure => have := HJ.out; omega
        case rel => exact ⟨j + 1, by have := HJ.out; omega, by go_num, (by first | exact ⟨_, rfl⟩ | exact dn2 _ _ _)⟩
      · go_wp2
        go_ret
        exact ⟨rfl, below_drewN (Below.refl _ _) _⟩
set_option maxHeartbeats 1600000 in
theorem eq_task (w : World) (v1 v2 : Value) (xs : List (Tk)) (h1 : EV encT 8 w v1 xs) (h2 : EV encT 8 w v2 xs) (b1 : xs.length ≤ 17592186044416) :
    Calls Try.prog 101 #[v1, v2] w fun e w' => e = .returned (.bool true) ∧ Below w.heap.size w w' := by
  rcases Nat.eq_zero_or_pos xs.length with h0 | h0
  · obtain rfl : xs = [] := List.eq_nil_of_length_eq_zero h0
    obtain ⟨A, c, rfl⟩ := h1.shape
    obtain ⟨A', c', rfl⟩ := h2.shape
    clear h1 h2 h0 b1
    go_enter Try.func101, Try.ntmps101
    go_wp2
    refine wp_loop_rounds 1 ?_
    rw [rounds_succ]
    go_wp2
    go_ret
    exact ⟨rfl, Below.refl _ _⟩
  · obtain ⟨b, off, c, rfl, hc, r1⟩ := h1.row h0
    obtain ⟨b', off', c', rfl, hc', r2⟩ := h2.row h0
    have R1 := Lib.hid r1; have R2 := Lib.hid r2
    obtain ⟨L, hL⟩ : ∃ L, xs.length = L := ⟨_, rfl⟩
    have HL := Lib.hid hL
    rw [hL] at b1 hc hc' ⊢
    clear r1 r2 h1 h2 h0 hL
    go_enter Try.func101, Try.ntmps101
    go_wp2
    go_loopg [13] L (fun k i wr => ∃ j : Nat, j + k = L ∧ i = .int .i64 j ∧ (∃ n, w.drewN n = wr))
    case atStart => exact ⟨0, by omega, rfl, ⟨0, rfl⟩⟩
    case round =>
      obtain ⟨j, hj, rfl, ⟨n, rfl⟩⟩ := hrel
      have HJ := Lib.hid hj
      clear hj
      by_cases hlt : j < L
      · obtain ⟨x, hx⟩ : ∃ x, xs[j]? = some x := ⟨_, List.getElem?_eq_getElem (by rw [HL.out]; exact hlt)⟩
        obtain ⟨c0, c1, c2, c3, c4, c5, c6, c7⟩ := R1.out.tk hx; obtain ⟨d0, d1, d2, d3, d4, d5, d6, d7⟩ := R2.out.tk hx
        clear hx
        go_wp2
        go_quiet (fail)
        go_wp2
        go_roundg (gk - 1)
        case measure => have := HJ.out; omega
        case rel => exact ⟨j + 1, by have := HJ.out; omega, by go_num, (by first | exact ⟨_, rfl⟩ | exact dn2 _ _ _)⟩
      · go_wp2
        go_ret
        exact ⟨rfl, below_drewN (Below.refl _ _) _⟩
set_option maxHeartbeats 1600000 in
theorem eq_spot (w : World) (v1 v2 : Value) (xs : List (Sp)) (h1 : EV encS 3 w v1 xs) (h2 : EV encS 3 w v2 xs) (b1 : xs.length ≤ 17592186044416) :
    Calls Try.prog 103 #[v1, v2] w fun e w' => e = .returned (.bool true) ∧ Below w.heap.size w w' := by
  rcases Nat.eq_zero_or_pos xs.length with h0 | h0
  · obtain rfl : xs = [] := List.eq_nil_of_length_eq_zero h0
    obtain ⟨A, c, rfl⟩ := h1.shape
    obtain ⟨A', c', rfl⟩ := h2.shape
    clear h1 h2 h0 b1
    go_enter Try.func103, Try.ntmps103
    go_wp2
    refine wp_loop_rounds 1 ?_
    rw [rounds_succ]
    go_wp2
    go_ret
    exact ⟨rfl, Below.refl _ _⟩
  · obtain ⟨b, off, c, rfl, hc, r1⟩ := h1.row h0
    obtain ⟨b', off', c', rfl, hc', r2⟩ := h2.row h0
    have R1 := Lib.hid r1; have R2 := Lib.hid r2
    obtain ⟨L, hL⟩ : ∃ L, xs.length = L := ⟨_, rfl⟩
    have HL := Lib.hid hL
    rw [hL] at b1 hc hc' ⊢
    clear r1 r2 h1 h2 h0 hL
    go_enter Try.func103, Try.ntmps103
    go_wp2
    go_loopg [13] L (fun k i wr => ∃ j : Nat, j + k = L ∧ i = .int .i64 j ∧ (∃ n, w.drewN n = wr))
    case atStart => exact ⟨0, by omega, rfl, ⟨0, rfl⟩⟩
    case round =>
      obtain ⟨j, hj, rfl, ⟨n, rfl⟩⟩ := hrel
      have HJ := Lib.hid hj
      clear hj
      by_cases hlt : j < L
      · obtain ⟨x, hx⟩ : ∃ x, xs[j]? = some x := ⟨_, List.getElem?_eq_getElem (by rw [HL.out]; exact hlt)⟩
        obtain ⟨c0, c1, c2⟩ := R1.out.sp hx; obtain ⟨d0, d1, d2⟩ := R2.out.sp hx
        clear hx
        go_wp2
        go_quiet (fail)
        go_wp2
        go_roundg (gk - 1)
        case measure => have := HJ.out; omega
        case rel => exact ⟨j + 1, by have := HJ.out; omega, by go_num, (by first | exact ⟨_, rfl⟩ | exact dn2 _ _ _)⟩
      · go_wp2
        go_ret
        exact ⟨rfl, below_drewN (Below.refl _ _) _⟩
set_option maxHeartbeats 1600000 in
theorem eq_grp (w : World) (v1 v2 : Value) (xs : List (Int × Int)) (h1 : EV encG 2 w v1 xs) (h2 : EV encG 2 w v2 xs) (b1 : xs.length ≤ 17592186044416) :
    Calls Try.prog 100 #[v1, v2] w fun e w' => e = .returned (.bool true) ∧ Below w.heap.size w w' := by
  rcases Nat.eq_zero_or_pos xs.length with h0 | h0
  · obtain rfl : xs = [] := List.eq_nil_of_length_eq_zero h0
    obtain ⟨A, c, rfl⟩ := h1.shape
    obtain ⟨A', c', rfl⟩ := h2.shape
    clear h1 h2 h0 b1
    go_enter Try.func100, Try.ntmps100
    go_wp2
    refine wp_loop_rounds 1 ?_
    rw [rounds_succ]
    go_wp2
    go_ret
    exact ⟨rfl, Below.refl _ _⟩
  · obtain ⟨b, off, c, rfl, hc, r1⟩ := h1.row h0
    obtain ⟨b', off', c', rfl, hc', r2⟩ := h2.row h0
    have R1 := Lib.hid r1; have R2 := Lib.hid r2
    obtain ⟨L, hL⟩ : ∃ L, xs.length = L := ⟨_, rfl⟩
    have HL := Lib.hid hL
    rw [hL] at b1 hc hc' ⊢
    clear r1 r2 h1 h2 h0 hL
    go_enter Try.func100, Try.ntmps100
    go_wp2
    go_loopg [13] L (fun k i wr => ∃ j : Nat, j + k = L ∧ i = .int .i64 j ∧ (∃ n, w.drewN n = wr))
    case atStart => exact ⟨0, by omega, rfl, ⟨0, rfl⟩⟩
    case round =>
      obtain ⟨j, hj, rfl, ⟨n, rfl⟩⟩ := hrel
      have HJ := Lib.hid hj
      clear hj
      by_cases hlt : j < L
      · obtain ⟨x, hx⟩ : ∃ x, xs[j]? = some x := ⟨_, List.getElem?_eq_getElem (by rw [HL.out]; exact hlt)⟩
        obtain ⟨c0, c1⟩ := R1.out.grp hx; obtain ⟨d0, d1⟩ := R2.out.grp hx
        clear hx
        go_wp2
        go_quiet (fail)
        go_wp2
        go_roundg (gk - 1)
        case measure => have := HJ.out; omega
        case rel => exact ⟨j + 1, by have := HJ.out; omega, by go_num, (by first | exact ⟨_, rfl⟩ | exact dn2 _ _ _)⟩
      · go_wp2
        go_ret
        exact ⟨rfl, below_drewN (Below.refl _ _) _⟩
end Go.Proofs.Ytenngfkgfdogjaa
namespace Go.Proofs.Ytenngfkgfdogjaa
open Go Go.RowKit Go.Shelf
attribute [local go_sem] Oper.semAt_some

set_option maxHeartbeats 1600000 in
theorem eqf_u64 (w : World) (v1 v2 : Value) (xs ys : List (SV × List Int)) (h1 : EV encV 1 w v1 xs) (h2 : EV encV 1 w v2 ys) (r1 : ∀ x ∈ xs, EV encU 1 w (SV.v x.1) x.2) (r2 : ∀ x ∈ ys, EV encU 1 w (SV.v x.1) x.2)
    (he : xs.map Prod.snd = ys.map Prod.snd) (b1 : xs.length ≤ 17592186044416) (bi : ∀ x ∈ xs, x.2.length ≤ 17592186044416) :
    Calls Try.prog 18 #[v1, v2, .func (.func 19) #[] #[]] w fun e w' => e = .returned (.bool true) ∧ Below w.heap.size w w' := by
  have eg : ∀ args w, (callFunc 19 args).run Try.prog w = .ok (.enter 19 args) w := enters_of Try.func19 (by kernel_rfl) rfl
  have hle : xs.length = ys.length := by have := congrArg List.length he; simpa using this
  rcases Nat.eq_zero_or_pos xs.length with h0 | h0
  · obtain rfl : xs = [] := List.eq_nil_of_length_eq_zero h0
    obtain rfl : ys = [] := List.eq_nil_of_length_eq_zero (by simpa using hle.symm)
    obtain ⟨A, c, rfl⟩ := h1.shape
    obtain ⟨A', c', rfl⟩ := h2.shape
    clear h1 h2 h0 b1 r1 r2 he hle bi
    go_enter Try.func18, Try.ntmps18
    go_wp2
    refine wp_loop_rounds 1 ?_
    rw [rounds_succ]
    go_wp2
    go_ret
    exact ⟨rfl, Below.refl _ _⟩
  · obtain ⟨b, off, c, rfl, hc, q1⟩ := h1.row h0
    obtain ⟨b', off', c', rfl, hc', q2⟩ := h2.row (hle ▸ h0)
    have Q1 := Lib.hid q1; have Q2 := Lib.hid q2
    obtain ⟨L, hL⟩ : ∃ L, xs.length = L := ⟨_, rfl⟩
    have HL := Lib.hid hL
    rw [← hle] at hc' ⊢
    have HLE := Lib.hid hle
    rw [hL] at b1 hc hc' ⊢
    have R1 := Lib.hid r1
    have R2 := Lib.hid r2
    have HE := Lib.hid he
    have BI := Lib.hid bi
    clear q1 q2 h1 h2 h0 hL r1 r2 he bi hle
    go_enter Try.func18, Try.ntmps18
    go_wp2
    go_loopg [17] L (fun k i wr => ∃ j : Nat, j + k = L ∧ i = .int .i64 j ∧ Below w.heap.size w wr)
    case atStart => exact ⟨0, by omega, rfl, Below.refl _ _⟩
    case round =>
      obtain ⟨j, hj, rfl, hb⟩ := hrel
      have HJ := Lib.hid hj
      have HB := Lib.hid hb
      clear hj
      by_cases hlt : j < L
      · obtain ⟨x, hx⟩ : ∃ x, xs[j]? = some x := ⟨_, List.getElem?_eq_getElem (by rw [HL.out]; exact hlt)⟩
        obtain ⟨y, hy⟩ : ∃ y, ys[j]? = some y := ⟨_, List.getElem?_eq_getElem (by rw [← HLE.out, HL.out]; exact hlt)⟩
        have hxy : x.2 = y.2 := by
          have := congrArg (·[j]?) HE.out
          simp only [List.getElem?_map, hx, hy, Option.map_some] at this
          exact Option.some.inj this
        have d0 := below_cell hb (Q1.out j x hx 0 _ rfl)
        have d1 := below_cell hb (Q2.out j y hy 0 _ rfl)
        simp only [Nat.mul_one, Nat.add_zero] at d0 d1
        have hxm := List.mem_of_getElem? hx
        have e1 := (R1.out x hxm).below hb
        have e2 := (R2.out y (List.mem_of_getElem? hy)).below hb
        rw [← hxy] at e2
        have CL := Lib.hid (fun W (hW : Below wr.heap.size wr W) => eq_u64 W _ _ x.2 (e1.below hW) (e2.below hW) (BI.out x hxm))
        have hd : decide ((j : Int) < (L : Int)) = true := by rw [decide_eq_true_eq]; omega
        have hsz := hb.size
        clear hx hy hxm e1 e2 hxy hb
        go_wp2_with fail
        refine (CL.out wr (Below.refl _ _)).mono ?_
        rintro e w2 ⟨rfl, bb⟩
        have HB2 := Lib.hid (HB.out.trans (bb.mono hsz))
        clear bb d0 d1 CL
        go_wp2
        go_roundg (gk - 1)
        case measure => have := HJ.out; omega
        case rel => exact ⟨j + 1, by have := HJ.out; omega, by go_num, HB2.out⟩
      · have hd : decide ((j : Int) < (L : Int)) = false := by rw [decide_eq_false_iff_not]; omega
        clear hb
        go_wp2
        go_ret
        exact ⟨rfl, HB.out⟩
set_option maxHeartbeats 1600000 in
theorem eqf_spot (w : World) (v1 v2 : Value) (xs ys : List (Value × List Sp)) (h1 : EV encR 1 w v1 xs) (h2 : EV encR 1 w v2 ys) (r1 : ∀ x ∈ xs, EV encS 3 w ( x.1) x.2) (r2 : ∀ x ∈ ys, EV encS 3 w ( x.1) x.2)
    (he : xs.map Prod.snd = ys.map Prod.snd) (b1 : xs.length ≤ 17592186044416) (bi : ∀ x ∈ xs, x.2.length ≤ 17592186044416) :
    Calls Try.prog 102 #[v1, v2, .func (.func 103) #[] #[]] w fun e w' => e = .returned (.bool true) ∧ Below w.heap.size w w' := by
  have eg : ∀ args w, (callFunc 103 args).run Try.prog w = .ok (.enter 103 args) w := enters_of Try.func103 (by kernel_rfl) rfl
  have hle : xs.length = ys.length := by have := congrArg List.length he; simpa using this
  rcases Nat.eq_zero_or_pos xs.length with h0 | h0
  · obtain rfl : xs = [] := List.eq_nil_of_length_eq_zero h0
    obtain rfl : ys = [] := List.eq_nil_of_length_eq_zero (by simpa using hle.symm)
    obtain ⟨A, c, rfl⟩ := h1.shape
    obtain ⟨A', c', rfl⟩ := h2.shape
    clear h1 h2 h0 b1 r1 r2 he hle bi
    go_enter Try.func102, Try.ntmps102
    go_wp2
    refine wp_loop_rounds 1 ?_
    rw [rounds_succ]
    go_wp2
    go_ret
    exact ⟨rfl, Below.refl _ _⟩
  · obtain ⟨b, off, c, rfl, hc, q1⟩ := h1.row h0
    obtain ⟨b', off', c', rfl, hc', q2⟩ := h2.row (hle ▸ h0)
    have Q1 := Lib.hid q1; have Q2 := Lib.hid q2
    obtain ⟨L, hL⟩ : ∃ L, xs.length = L := ⟨_, rfl⟩
    have HL := Lib.hid hL
    rw [← hle] at hc' ⊢
    have HLE := Lib.hid hle
    rw [hL] at b1 hc hc' ⊢
    have R1 := Lib.hid r1
    have R2 := Lib.hid r2
    have HE := Lib.hid he
    have BI := Lib.hid bi
    clear q1 q2 h1 h2 h0 hL r1 r2 he bi hle
    go_enter Try.func102, Try.ntmps102
    go_wp2
    go_loopg [17] L (fun k i wr => ∃ j : Nat, j + k = L ∧ i = .int .i64 j ∧ Below w.heap.size w wr)
    case atStart => exact ⟨0, by omega, rfl, Below.refl _ _⟩
    case round =>
      obtain ⟨j, hj, rfl, hb⟩ := hrel
      have HJ := Lib.hid hj
      have HB := Lib.hid hb
      clear hj
      by_cases hlt : j < L
      · obtain ⟨x, hx⟩ : ∃ x, xs[j]? = some x := ⟨_, List.getElem?_eq_getElem (by rw [HL.out]; exact hlt)⟩
        obtain ⟨y, hy⟩ : ∃ y, ys[j]? = some y := ⟨_, List.getElem?_eq_getElem (by rw [← HLE.out, HL.out]; exact hlt)⟩
        have hxy : x.2 = y.2 := by
          have := congrArg (·[j]?) HE.out
          simp only [List.getElem?_map, hx, hy, Option.map_some] at this
          exact Option.some.inj this
        have d0 := below_cell hb (Q1.out j x hx 0 _ rfl)
        have d1 := below_cell hb (Q2.out j y hy 0 _ rfl)
        simp only [Nat.mul_one, Nat.add_zero] at d0 d1
        have hxm := List.mem_of_getElem? hx
        have e1 := (R1.out x hxm).below hb
        have e2 := (R2.out y (List.mem_of_getElem? hy)).below hb
        rw [← hxy] at e2
        have CL := Lib.hid (fun W (hW : Below wr.heap.size wr W) => eq_spot W _ _ x.2 (e1.below hW) (e2.below hW) (BI.out x hxm))
        have hd : decide ((j : Int) < (L : Int)) = true := by rw [decide_eq_true_eq]; omega
        have hsz := hb.size
        clear hx hy hxm e1 e2 hxy hb
        go_wp2_with fail
        refine (CL.out wr (Below.refl _ _)).mono ?_
        rintro e w2 ⟨rfl, bb⟩
        have HB2 := Lib.hid (HB.out.trans (bb.mono hsz))
        clear bb d0 d1 CL
        go_wp2
        go_roundg (gk - 1)
        case measure => have := HJ.out; omega
        case rel => exact ⟨j + 1, by have := HJ.out; omega, by go_num, HB2.out⟩
      · have hd : decide ((j : Int) < (L : Int)) = false := by rw [decide_eq_false_iff_not]; omega
        clear hb
        go_wp2
        go_ret
        exact ⟨rfl, HB.out⟩

set_option maxHeartbeats 1600000 in
theorem keys_ok (w : World) (v1 v2 : Value) (xs : List Ky) (h1 : EV encY 3 w v1 xs) (h2 : EV encY 3 w v2 xs) (b1 : xs.length ≤ 17592186044416) :
    Calls Try.prog 70 #[v1, v2] w fun e w' => e = .returned (.bool true) ∧ Below w.heap.size w w' := by
  rcases Nat.eq_zero_or_pos xs.length with h0 | h0
  · obtain rfl : xs = [] := List.eq_nil_of_length_eq_zero h0
    obtain ⟨A, c, rfl⟩ := h1.shape
    obtain ⟨A', c', rfl⟩ := h2.shape
    clear h1 h2 h0 b1
    go_enter Try.func70, Try.ntmps70
    go_wp2
    refine wp_loop_rounds 1 ?_
    rw [rounds_succ]
    go_wp2
    go_ret
    exact ⟨rfl, Below.refl _ _⟩
  · obtain ⟨b, off, c, rfl, hc, r1⟩ := h1.row h0
    obtain ⟨b', off', c', rfl, hc', r2⟩ := h2.row h0
    have R1 := Lib.hid r1; have R2 := Lib.hid r2
    obtain ⟨L, hL⟩ : ∃ L, xs.length = L := ⟨_, rfl⟩
    have HL := Lib.hid hL
    rw [hL] at b1 hc hc' ⊢
    clear r1 r2 h1 h2 h0 hL
    go_enter Try.func70, Try.ntmps70
    go_wp2
    go_loopg [13] L (fun k i wr => ∃ j : Nat, j + k = L ∧ i = .int .i64 j ∧ (∃ n, w.drewN n = wr))
    case atStart => exact ⟨0, by omega, rfl, ⟨0, rfl⟩⟩
    case round =>
      obtain ⟨j, hj, rfl, ⟨n, rfl⟩⟩ := hrel
      have HJ := Lib.hid hj
      clear hj
      by_cases hlt : j < L
      · obtain ⟨x, hx⟩ : ∃ x, xs[j]? = some x := ⟨_, List.getElem?_eq_getElem (by rw [HL.out]; exact hlt)⟩
        obtain ⟨c0, c1, c2⟩ := R1.out.ky hx; obtain ⟨d0, d1, d2⟩ := R2.out.ky hx
        clear hx
        go_wp2
        go_quiet (fail)
        go_wp2
        go_roundg (gk - 1)
        case measure => have := HJ.out; omega
        case rel => exact ⟨j + 1, by have := HJ.out; omega, by go_num, (by first | exact ⟨_, rfl⟩ | exact dn2 _ _ _)⟩
      · go_wp2
        go_ret
        exact ⟨rfl, below_drewN (Below.refl _ _) _⟩

def smallB (s : St) : Bool := decide (s.gs.length ≤ 12) && decide (s.ts.length ≤ 40) && decide (s.n ≤ 8)
set_option maxHeartbeats 1600000 in
theorem small_ok (w : World) (c : StC) (s : St) (h : StAt w c s) :
    Calls Try.prog 32 #[c.val s] w fun e w' => e = .returned (.bool (smallB s)) ∧ Below w.heap.size w w' := by
  have CC := Lib.hid (show c.cells s = #[.int .i64 s.n, .int .u64 s.cr, c.vg, c.vc, c.vu, c.vt, c.vs] from rfl)
  have a1 := bel_alloc w (.cells (c.cells s) 38)
  have BX := StBox.new w c s
  obtain ⟨b0, b1, b2, b3, b4, b5, b6⟩ := BX.cell
  obtain ⟨Ag, cg, hg⟩ := h.eg.shape
  obtain ⟨At, ct, ht⟩ := h.et.shape
  rw [hg] at b2
  rw [ht] at b5
  have HG := Lib.hid hg
  have HT := Lib.hid ht
  unfold StC.val
  simp only [CC.out] at a1 b0 b2 b5 ⊢
  clear h hg ht BX b1 b3 b4 b6
  go_enter Try.func32, Try.ntmps32
  go_upto_region 1 with fail
  have HA := Lib.hid a1
  generalize w.alloc (.cells #[.int .i64 s.n, .int .u64 s.cr, c.vg, c.vc, c.vu, c.vt, c.vs] 38) = w1 at b0 b2 b5 HA ⊢
  clear a1
  by_cases h1 : s.gs.length ≤ 12
  case neg =>
    have hd : decide ((s.gs.length : Int) ≤ 12) = false := by rw [decide_eq_false_iff_not]; omega
    have X := Lib.hid (show smallB s = false by unfold smallB; rw [decide_eq_false h1]; rfl)
    clear h1
    go_wp2
    go_ret
    exact ⟨ret_bool X.out.symm, HA.out⟩
  have hd1 : decide ((s.gs.length : Int) ≤ 12) = true := by rw [decide_eq_true_eq]; omega
  by_cases h2 : s.ts.length ≤ 40
  case neg =>
    have hd : decide ((s.ts.length : Int) ≤ 40) = false := by rw [decide_eq_false_iff_not]; omega
    have X := Lib.hid (show smallB s = false by unfold smallB; rw [decide_eq_true h1, decide_eq_false h2]; rfl)
    clear h1 h2
    go_wp2
    go_ret
    exact ⟨ret_bool X.out.symm, HA.out⟩
  have hd2 : decide ((s.ts.length : Int) ≤ 40) = true := by rw [decide_eq_true_eq]; omega
  have X := Lib.hid (show smallB s = decide (s.n ≤ 8) by unfold smallB; rw [decide_eq_true h1, decide_eq_true h2]; rfl)
  clear h1 h2
  by_cases h3 : s.n ≤ 8
  all_goals
    have X2 := Lib.hid (X.out.trans (by first | exact decide_eq_true h3 | exact decide_eq_false h3))
    go_wp2
    go_ret
    exact ⟨ret_bool X2.out.symm, HA.out⟩
end Go.Proofs.Ytenngfkgfdogjaa

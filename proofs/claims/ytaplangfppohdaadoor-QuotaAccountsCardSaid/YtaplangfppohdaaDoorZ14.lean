/- slices.Equal where both are the same, and slices.Clone, at the structs of quotas | The law's own check of the chapter's examples (awake): it returns true. -/
import Derived.Test.YtaplangfppohdaaDoorZ12
import Derived.Test.YtaplangfppohdaaDoorZ6
import Derived.Test.YtaplangfppohdaaDoorZ13
set_option linter.unusedVariables false
set_option linter.unusedSimpArgs false
set_option linter.unusedSectionVars false
namespace Go.Proofs.YtaplangfppohdaaDoor
open Go Go.RowKit Go.Shelf
attribute [local go_sem] Oper.semAt_some


section
variable {w : World} {b off i : Nat}
theorem ER.i1 {l : List Int} (h : ER encI 1 w b off l) {x : Int} (hi : l[i]? = some x) : w.cell? ⟨b, off + i, none⟩ = some (.int .i64 x) := by
  have := h i x hi 0 _ rfl; simpa using this
theorem ER.pt {l : List (Int × Int)} (h : ER encG 2 w b off l) {x : Int × Int} (hi : l[i]? = some x) : w.cell? ⟨b, off + i * 2, none⟩ = some (.int .i64 x.1) ∧ w.cell? ⟨b, off + i * 2 + 1, none⟩ = some (.int .i64 x.2) := ⟨h i x hi 0 _ rfl, h i x hi 1 _ rfl⟩
theorem ER.rux {l : List Ru} (h : ER encRu 3 w b off l) {x : Ru} (hi : l[i]? = some x) : w.cell? ⟨b, off + i * 3, none⟩ = some (.int .i64 x.g) ∧ w.cell? ⟨b, off + i * 3 + 1, none⟩ = some (.int .i64 x.p) ∧ w.cell? ⟨b, off + i * 3 + 2, none⟩ = some (.int .i64 x.l) := ⟨h i x hi 0 _ rfl, h i x hi 1 _ rfl, h i x hi 2 _ rfl⟩
theorem ER.us {l : List Us} (h : ER encUs 5 w b off l) {x : Us} (hi : l[i]? = some x) : w.cell? ⟨b, off + i * 5, none⟩ = some (.int .i64 x.r) ∧ w.cell? ⟨b, off + i * 5 + 1, none⟩ = some (.int .i64 x.c) ∧ w.cell? ⟨b, off + i * 5 + 2, none⟩ = some (.int .i64 x.p) ∧ w.cell? ⟨b, off + i * 5 + 3, none⟩ = some (.int .i64 x.t) ∧ w.cell? ⟨b, off + i * 5 + 4, none⟩ = some (.int .i64 x.d) :=
  ⟨h i x hi 0 _ rfl, h i x hi 1 _ rfl, h i x hi 2 _ rfl, h i x hi 3 _ rfl, h i x hi 4 _ rfl⟩
end
set_option maxHeartbeats 1600000 in
theorem eq_int (w : World) (v1 v2 : Value) (xs : List (Int)) (h1 : EV encI 1 w v1 xs) (h2 : EV encI 1 w v2 xs) (b1 : xs.length ≤ 17592186044416) :
    Calls Tryd.prog 28 #[v1, v2] w fun e w' => e = .returned (.bool true) ∧ Below w.heap.size w w' := by
  rcases Nat.eq_zero_or_pos xs.length with h0 | h0
  · obtain rfl : xs = [] := List.eq_nil_of_length_eq_zero h0
    obtain ⟨A, c, rfl⟩ := h1.shape
    obtain ⟨A', c', rfl⟩ := h2.shape
    clear h1 h2 h0 b1
    go_enter Tryd.func28, Tryd.ntmps28
    go_wp2
    refine wp_loop_rounds 1 ?_
    rw [rounds_succ]
    go_wp2
    go_ret
    exact ⟨rfl, Below.refl _ _⟩
  · obtain ⟨b, off, c, rfl, hc, r1⟩ := h1.row h0
    obtain ⟨b', off', c', rfl, hc', r2⟩ := h2.row h0
    have R1 := Lib.hid r1; have R2 := Lib.hid r2
    obtain ⟨L, hL⟩ : ∃ L, xs.length = L := ⟨_, rfl⟩
    have HL := Lib.hid hL
    rw [hL] at b1 hc hc' ⊢
    clear r1 r2 h1 h2 h0 hL
    go_enter Tryd.func28, Tryd.ntmps28
    go_wp2
    go_loopg [13] L (fun k i wr => ∃ j : Nat, j + k = L ∧ i = .int .i64 j ∧ (∃ n, w.drewN n = wr))
    case atStart => exact ⟨0, by omega, rfl, ⟨0, rfl⟩⟩
    case round =>
      obtain ⟨j, hj, rfl, ⟨n, rfl⟩⟩ := hrel
      have HJ := Lib.hid hj
      clear hj
      by_cases hlt : j < L
      · obtain ⟨x, hx⟩ : ∃ x, xs[j]? = some x := ⟨_, List.getElem?_eq_getElem (by rw [HL.out]; exact hlt)⟩
        have c0 := R1.out.i1 hx; have d0 := R2.out.i1 hx
        clear hx
        go_wp2
        go_quiet (fail)
        go_wp2
        go_roundg (gk - 1)
        case measure => have := HJ.out; omega
        case rel => exact ⟨j + 1, by have := HJ.out; omega, by go_num, (by first | exact ⟨_, rfl⟩ | exact dn2 _ _ _)⟩
      · go_wp2
        go_ret
        exact ⟨rfl, below_drewN (Below.refl _ _) _⟩
set_option maxHeartbeats 1600000 in
theorem eq_part (w : World) (v1 v2 : Value) (xs : List (Int × Int)) (h1 : EV encG 2 w v1 xs) (h2 : EV encG 2 w v2 xs) (b1 : xs.length ≤ 17592186044416) :
    Calls Tryd.prog 21 #[v1, v2] w fun e w' => e = .returned (.bool true) ∧ Below w.heap.size w w' := by
  rcases Nat.eq_zero_or_pos xs.length with h0 | h0
  · obtain rfl : xs = [] := List.eq_nil_of_length_eq_zero h0
    obtain ⟨A, c, rfl⟩ := h1.shape
    obtain ⟨A', c', rfl⟩ := h2.shape
    clear h1 h2 h0 b1
    go_enter Tryd.func21, Tryd.ntmps21
    go_wp2
    refine wp_loop_rounds 1 ?_
    rw [rounds_succ]
    go_wp2
    go_ret
    exact ⟨rfl, Below.refl _ _⟩
  · obtain ⟨b, off, c, rfl, hc, r1⟩ := h1.row h0
    obtain ⟨b', off', c', rfl, hc', r2⟩ := h2.row h0
    have R1 := Lib.hid r1; have R2 := Lib.hid r2
    obtain ⟨L, hL⟩ : ∃ L, xs.length = L := ⟨_, rfl⟩
    have HL := Lib.hid hL
    rw [hL] at b1 hc hc' ⊢
    clear r1 r2 h1 h2 h0 hL
    go_enter Tryd.func21, Tryd.ntmps21
    go_wp2
    go_loopg [13] L (fun k i wr => ∃ j : Nat, j + k = L ∧ i = .int .i64 j ∧ (∃ n, w.drewN n = wr))
    case atStart => exact ⟨0, by omega, rfl, ⟨0, rfl⟩⟩
    case round =>
      obtain ⟨j, hj, rfl, ⟨n, rfl⟩⟩ := hrel
      have HJ := Lib.hid hj
      clear hj
      by_cases hlt : j < L
      · obtain ⟨x, hx⟩ : ∃ x, xs[j]? = some x := ⟨_, List.getElem?_eq_getElem (by rw [HL.out]; exact hlt)⟩
        obtain ⟨c0, c1⟩ := R1.out.pt hx; obtain ⟨d0, d1⟩ := R2.out.pt hx
        clear hx
        go_wp2
        go_quiet (fail)
        go_wp2
        go_roundg (gk - 1)
        case measure => have := HJ.out; omega
        case rel => exact ⟨j + 1, by have := HJ.out; omega, by go_num, (by first | exact ⟨_, rfl⟩ | exact dn2 _ _ _)⟩
      · go_wp2
        go_ret
        exact ⟨rfl, below_drewN (Below.refl _ _) _⟩
set_option maxHeartbeats 1600000 in
theorem eq_use (w : World) (v1 v2 : Value) (xs : List (Us)) (h1 : EV encUs 5 w v1 xs) (h2 : EV encUs 5 w v2 xs) (b1 : xs.length ≤ 17592186044416) :
    Calls Tryd.prog 29 #[v1, v2] w fun e w' => e = .returned (.bool true) ∧ Below w.heap.size w w' := by
  rcases Nat.eq_zero_or_pos xs.length with h0 | h0
  · obtain rfl : xs = [] := List.eq_nil_of_length_eq_zero h0
    obtain ⟨A, c, rfl⟩ := h1.shape
    obtain ⟨A', c', rfl⟩ := h2.shape
    clear h1 h2 h0 b1
    go_enter Tryd.func29, Tryd.ntmps29
    go_wp2
    refine wp_loop_rounds 1 ?_
    rw [rounds_succ]
    go_wp2
    go_ret
    exact ⟨rfl, Below.refl _ _⟩
  · obtain ⟨b, off, c, rfl, hc, r1⟩ := h1.row h0
    obtain ⟨b', off', c', rfl, hc', r2⟩ := h2.row h0
    have R1 := Lib.hid r1; have R2 := Lib.hid r2
    obtain ⟨L, hL⟩ : ∃ L, xs.length = L := ⟨_, rfl⟩
    have HL := Lib.hid hL
    rw [hL] at b1 hc hc' ⊢
    clear r1 r2 h1 h2 h0 hL
    go_enter Tryd.func29, Tryd.ntmps29
    go_wp2
    go_loopg [13] L (fun k i wr => ∃ j : Nat, j + k = L ∧ i = .int .i64 j ∧ (∃ n, w.drewN n = wr))
    case atStart => exact ⟨0, by omega, rfl, ⟨0, rfl⟩⟩
    case round =>
      obtain ⟨j, hj, rfl, ⟨n, rfl⟩⟩ := hrel
      have HJ := Lib.hid hj
      clear hj
      by_cases hlt : j < L
      · obtain ⟨x, hx⟩ : ∃ x, xs[j]? = some x := ⟨_, List.getElem?_eq_getElem (by rw [HL.out]; exact hlt)⟩
        obtain ⟨c0, c1, c2, c3, c4⟩ := R1.out.us hx; obtain ⟨d0, d1, d2, d3, d4⟩ := R2.out.us hx
        clear hx
        go_wp2
        go_quiet (fail)
        go_wp2
        go_roundg (gk - 1)
        case measure => have := HJ.out; omega
        case rel => exact ⟨j + 1, by have := HJ.out; omega, by go_num, (by first | exact ⟨_, rfl⟩ | exact dn2 _ _ _)⟩
      · go_wp2
        go_ret
        exact ⟨rfl, below_drewN (Below.refl _ _) _⟩
end Go.Proofs.YtaplangfppohdaaDoor
namespace Go.Proofs.YtaplangfppohdaaDoor
open Go.RowKit Go.Shelf
attribute [local go_sem] Oper.semAt_some

def tickE (n c t k g : Int) : Ev := ⟨n, t, c, 5, 0, 0, 0, 0, k, 0, g⟩
theorem load_ev {w : World} {Y : Nat} {e : Ev} (h : w.heap[Y]? = some (.cells (encE e).toArray 59 (0, 0))) : (loadVar 59 ⟨Y, 0, none⟩).run Tryd.prog w = .ok (evA e) w := by
  have h1 : (isAgg 59).run Tryd.prog w = .ok true w := by kernel_rfl
  have h2 : (Go.sizeOf 59).run Tryd.prog w = .ok 11 w := by kernel_rfl
  have q : ∀ (j : Nat) (u : Value), (encE e)[j]? = some u → w.cell? ⟨Y, j, none⟩ = some u := fun j u hu => by rw [World.cell?, h]; simpa using hu
  have q0 := q 0 _ rfl
  have q1 := q 1 _ rfl
  have q2 := q 2 _ rfl
  have q3 := q 3 _ rfl
  have q4 := q 4 _ rfl
  have q5 := q 5 _ rfl
  have q6 := q 6 _ rfl
  have q7 := q 7 _ rfl
  have q8 := q 8 _ rfl
  have q9 := q 9 _ rfl
  have q10 := q 10 _ rfl
  clear q h
  unfold loadVar
  simp [Sem.run_bind, h1, h2, Result.andThen, loadCells, loadCellsFrom, go_sem, q0, q1, q2, q3, q4, q5, q6, q7, q8, q9, q10, evA]
theorem tick_ok (w : World) (n c t k g : Int) (hc : 0 ≤ c ∧ c ≤ 255) :
    Calls Tryd.prog 27 #[.int .i64 n, .int .i64 c, .int .i64 t, .int .i64 k, .int .i64 g] w fun e w' => e = .returned (evA (tickE n c t k g)) ∧ Below w.heap.size w w' := by
  go_enter Tryd.func27, Tryd.ntmps27
  go_wp2
  exact bodyPost_ret (v := evA (tickE n c t k g)) (results_cell1 rfl _ _ _ rfl (load_ev (e := tickE n c t k g) (World.alloc_heap_new w _))) rfl ⟨rfl, bel_alloc _ _⟩
theorem spread_ex : spE 25 12 10 = 0 ∧ spL 25 12 10 = [(1, 7), (2, 5)] := by decide
theorem debts_ex1 : dbtE [(1, 7), (2, 5)] 4 = 0 ∧ dbtL [(1, 7), (2, 5)] 4 = [3, 4] := by decide
theorem debts_ex2 : dbtE [(1, 7), (4, 5)] 4 = 0 ∧ dbtL [(1, 7), (4, 5)] 4 = [3, 1] := by decide
theorem acc_ex : accE [(0, 1), (0, 5)] [⟨1, 10, 4⟩] [(7, 1)] [tickE 1 2 25 12 7] = 0 ∧ accL [(0, 1), (0, 5)] [⟨1, 10, 4⟩] [(7, 1)] [tickE 1 2 25 12 7] = [⟨0, 2, 1, 7, 3⟩, ⟨0, 2, 2, 5, 4⟩] := by decide
theorem until_ex : untN 9 4 = 3 ∧ untE 9 4 = 0 ∧ untE 9 0 = 6 ∧ untN 9 0 = 0 ∧ untN 0 0 = 0 ∧ untE 0 0 = 0 := by decide
theorem aw_ac (w wa wt : World) (m m2 : Nat) (hm : w.heap.size = m) (hU : UsesAt w) (hwa : wa = ((w.alloc (.cells #[.int .i64 0, .int .i64 1, .int .i64 0, .int .i64 5] 53)).alloc (.cells #[.int .i64 1, .int .i64 10, .int .i64 4] 44)).alloc (.cells #[.int .i64 7, .int .i64 1] 61))
    (hb : Below wa.heap.size wa wt) (hm2 : wt.heap.size = m2) :
    Calls Tryd.prog 16 #[.slice (some ⟨m, 0, none⟩) 2 2, .slice (some ⟨m + 1, 0, none⟩) 1 1, .slice (some ⟨m + 1 + 1, 0, none⟩) 1 1, .slice (some ⟨m2, 0, none⟩) 1 1] (wt.alloc (.cells #[.int .i64 1, .int .i64 25, .int .u8 2, .int .u8 5, .int .i64 0, .int .i64 0, .int .i64 0, .int .i64 0, .int .i64 12, .int .u64 0, .int .i64 7] 59))
    fun e w' => ∃ r, e = .returned (.tuple #[r, .int .i64 0]) ∧ OV encUs 5 50 w.heap.size w' r [⟨0, 2, 1, 7, 3⟩, ⟨0, 2, 2, 5, 4⟩] ∧ Below w.heap.size w w' := by
  obtain ⟨wz, hwz⟩ : ∃ x : World, x = wt.alloc (.cells #[.int .i64 1, .int .i64 25, .int .u8 2, .int .u8 5, .int .i64 0, .int .i64 0, .int .i64 0, .int .i64 0, .int .i64 12, .int .u64 0, .int .i64 7] 59) := ⟨_, rfl⟩
  have hz : Below wt.heap.size wt wz := by rw [hwz]; exact bel_alloc _ _
  have ha : Below w.heap.size w wa := by rw [hwa]; exact ((bel_alloc w _).trans ((bel_alloc _ _).mono (by simp))).trans ((bel_alloc _ _).mono (by simp; omega))
  have hsz : wa.heap.size = m + 3 := by rw [hwa]; simp [hm]
  have g1 : EV encG 2 wa (.slice (some ⟨m, 0, none⟩) 2 2) [(0, 1), (0, 5)] := by
    rw [hwa]; exact ((EV.newM (e := 53) (cs := #[.int .i64 0, .int .i64 1, .int .i64 0, .int .i64 5]) (n := 2) encG_len rfl rfl hm).below (bel_alloc _ _)).below (bel_alloc _ _)
  have g2 : EV encRu 3 wa (.slice (some ⟨m + 1, 0, none⟩) 1 1) [⟨1, 10, 4⟩] := by
    rw [hwa]; exact (EV.newM (e := 44) (cs := #[.int .i64 1, .int .i64 10, .int .i64 4]) (n := 1) encRu_len rfl rfl (by simp [hm])).below (bel_alloc _ _)
  have g3 : EV encG 2 wa (.slice (some ⟨m + 1 + 1, 0, none⟩) 1 1) [(7, 1)] := by
    rw [hwa]; exact EV.newM (e := 61) (cs := #[.int .i64 7, .int .i64 1]) (n := 1) encG_len rfl rfl (by simp [hm])
  have g4 : EV encE 11 wz (.slice (some ⟨m2, 0, none⟩) 1 1) [tickE 1 2 25 12 7] := by
    rw [hwz]; exact EV.newM encE_len rfl rfl hm2
  have bz : Below wa.heap.size wa wz := hb.trans (hz.mono hb.size)
  have bw : Below w.heap.size w wz := ha.trans (bz.mono ha.size)
  have := account_ok wz _ _ _ _ _ _ _ _ (g1.below bz) (g2.below bz) (g3.below bz) g4 (hU.below bw) (by decide) (by decide) (by decide) (by decide) (fun e he => by simp only [List.mem_singleton] at he; subst he; constructor <;> decide) (fun h hh => by simp only [List.mem_singleton] at hh; subst hh; decide)
  rw [acc_ex.1, acc_ex.2] at this
  rw [← hwz]
  exact this.mono fun e w' ⟨r, h1, h2, h3⟩ => ⟨r, h1, h2.base_le bw.size, bw.trans (h3.mono bw.size)⟩
theorem aw_d2 (w : World) (m : Nat) (hm : w.heap.size = m) : Calls Tryd.prog 12 #[.slice (some ⟨m, 0, none⟩) 2 2, .int .i64 4] (w.alloc (.cells #[.int .i64 1, .int .i64 7, .int .i64 4, .int .i64 5] 27))
    fun e w' => ∃ r, e = .returned (.tuple #[r, .int .i64 0]) ∧ OV encI 1 3 w.heap.size w' r [3, 1] ∧ Below w.heap.size w w' := by
  have := debts_ok (w.alloc (.cells #[.int .i64 1, .int .i64 7, .int .i64 4, .int .i64 5] 27)) _ [(1, 7), (4, 5)] 4 (EV.newM (e := 27) (cs := #[.int .i64 1, .int .i64 7, .int .i64 4, .int .i64 5]) (n := 2) encG_len rfl rfl hm) (by decide)
  rw [debts_ex2.1, debts_ex2.2] at this
  exact this.mono fun e w' ⟨r, h1, h2, h3⟩ => ⟨r, h1, h2.base_le (by simp), (bel_alloc _ _).trans (h3.mono (by simp))⟩
theorem aw_s (w : World) : Calls Tryd.prog 18 #[.int .i64 25, .int .i64 12, .int .i64 10] w fun e w' => ∃ r, e = .returned (.tuple #[r, .int .i64 0]) ∧ OV encG 2 27 w.heap.size w' r [(1, 7), (2, 5)] ∧ Below w.heap.size w w' := by
  have := spread_ok w 25 12 10
  rwa [spread_ex.1, spread_ex.2] at this
theorem aw_d1 (w : World) (v : Value) (hv : EV encG 2 w v [(1, 7), (2, 5)]) : Calls Tryd.prog 12 #[v, .int .i64 4] w fun e w' => ∃ r, e = .returned (.tuple #[r, .int .i64 0]) ∧ OV encI 1 3 w.heap.size w' r [3, 4] ∧ Below w.heap.size w w' := by
  have := debts_ok w v _ 4 hv (by decide)
  rwa [debts_ex1.1, debts_ex1.2] at this
theorem aw_u (w : World) (d l n e : Int) (hd : d ≤ 9223372036854775807) (h1 : untN d l = n) (h2 : untE d l = e) : Calls Tryd.prog 19 #[.int .i64 d, .int .i64 l] w fun r w' => r = .returned (.tuple #[.int .i64 n, .int .i64 e]) ∧ Below w.heap.size w w' := by
  subst h1 h2
  exact (until_ok w d l hd).mono fun r w' ⟨h, h'⟩ => ⟨h, by rw [h']; exact Below.refl _ _⟩
theorem eqi_lit (w : World) (r : Value) (xs ys : List Int) (n m : Nat) (cs : Array Value) (h : EV encI 1 w r xs) (hm : w.heap.size = m) (hcs : cs.toList = ys.flatMap encI) (hn : ys.length = n) (hy : n ≤ 1000) (he : xs = ys) :
    Calls Tryd.prog 28 #[r, .slice (some ⟨m, 0, none⟩) n n] (w.alloc (.cells cs 3)) fun e w' => e = .returned (.bool true) ∧ Below w.heap.size w w' := by
  subst he
  exact (eq_int _ r _ xs (h.below (bel_alloc _ _)) (EV.newM encI_len hcs hn hm) (by omega)).mono fun e w' h => ⟨h.1, (bel_alloc _ _).trans (h.2.mono (by simp))⟩
theorem eqp_lit (w : World) (r : Value) (xs ys : List (Int × Int)) (n m : Nat) (cs : Array Value) (h : EV encG 2 w r xs) (hm : w.heap.size = m) (hcs : cs.toList = ys.flatMap encG) (hn : ys.length = n) (hy : n ≤ 1000) (he : xs = ys) :
    Calls Tryd.prog 21 #[r, .slice (some ⟨m, 0, none⟩) n n] (w.alloc (.cells cs 27)) fun e w' => e = .returned (.bool true) ∧ Below w.heap.size w w' := by
  subst he
  exact (eq_part _ r _ xs (h.below (bel_alloc _ _)) (EV.newM encG_len hcs hn hm) (by omega)).mono fun e w' h => ⟨h.1, (bel_alloc _ _).trans (h.2.mono (by simp))⟩
theorem equ_lit (w : World) (r : Value) (xs ys : List Us) (n m : Nat) (cs : Array Value) (h : EV encUs 5 w r xs) (hm : w.heap.size = m) (hcs : cs.toList = ys.flatMap encUs) (hn : ys.length = n) (hy : n ≤ 1000) (he : xs = ys) :
    Calls Tryd.prog 29 #[r, .slice (some ⟨m, 0, none⟩) n n] (w.alloc (.cells cs 50)) fun e w' => e = .returned (.bool true) ∧ Below w.heap.size w w' := by
  subst he
  exact (eq_use _ r _ xs (h.below (bel_alloc _ _)) (EV.newM encUs_len hcs hn hm) (by omega)).mono fun e w' h => ⟨h.1, (bel_alloc _ _).trans (h.2.mono (by simp))⟩

set_option maxRecDepth 100000 in
set_option maxHeartbeats 4000000 in
theorem awake_ok (w : World) (hU : UsesAt w) : Calls Tryd.prog 11 #[] w fun e w' => e = .returned (.bool true) ∧ Below w.heap.size w w' := by
  have F := (Facts.nil w).snoc (sB w) (Below.refl _ _)
  have HU := Lib.hid hU
  clear hU
  go_enter Tryd.func11, Tryd.ntmps11
  go_wp2_with fail
  refine (aw_s w).mono ?_
  rintro e w1 ⟨l, rfl, o, bb⟩
  replace F := (F.below bb).snoc (sOV encG 2 27 w.heap.size l [(1, 7), (2, 5)]) o
  have sw1 := bb.size
  have Kl := Lib.hid o.block
  clear bb o
  go_wp2_with fail
  refine (aw_d1 w1 l (OV.ev (F.get 1) encG_len)).mono ?_
  rintro e w2 ⟨a, rfl, o, bb⟩
  replace F := (F.below bb).snoc (sOV encI 1 3 w1.heap.size a [3, 4]) o
  have sw2 := bb.size
  have Ka := Lib.hid o.block
  clear bb o
  go_wp2_with fail
  refine (aw_d2 w2 _ rfl).mono ?_
  rintro e w3 ⟨b, rfl, o, bb⟩
  replace F := (F.below bb).snoc (sOV encI 1 3 w2.heap.size b [3, 1]) o
  have sw3 := bb.size
  have Kb := Lib.hid o.block
  clear bb o
  go_wp2_with fail
  obtain ⟨wa, hwa⟩ : ∃ x : World, x = ((w3.alloc (.cells #[.int .i64 0, .int .i64 1, .int .i64 0, .int .i64 5] 53)).alloc (.cells #[.int .i64 1, .int .i64 10, .int .i64 4] 44)).alloc (.cells #[.int .i64 7, .int .i64 1] 61) := ⟨_, rfl⟩
  rw [← hwa]
  have HWA := Lib.hid hwa
  clear hwa
  refine (tick_ok wa 1 2 25 12 7 (by omega)).mono ?_
  rintro e wt ⟨rfl, hbt⟩
  have HBT := Lib.hid hbt
  clear hbt
  unfold evA tickE
  dsimp only
  have HU3 := Lib.hid (HU.out.below (F.get 0))
  go_wp2_with fail
  refine (aw_ac w3 wa wt _ _ rfl HU3.out HWA.out HBT.out rfl).mono ?_
  rintro e w4 ⟨u, rfl, o, bb⟩
  replace F := (F.below bb).snoc (sOV encUs 5 50 w3.heap.size u [⟨0, 2, 1, 7, 3⟩, ⟨0, 2, 2, 5, 4⟩]) o
  have sw4 := bb.size
  have Ku := Lib.hid o.block
  clear bb o
  go_wp2_with fail
  refine (aw_u w4 9 4 3 0 (by omega) until_ex.1 until_ex.2.1).mono ?_
  rintro e w5 ⟨rfl, bb⟩
  replace F := F.below bb
  have sw5 := bb.size
  clear bb
  go_wp2_with fail
  refine (aw_u w5 9 0 0 6 (by omega) until_ex.2.2.2.1 until_ex.2.2.1).mono ?_
  rintro e w6 ⟨rfl, bb⟩
  replace F := F.below bb
  have sw6 := bb.size
  clear bb
  go_wp2_with fail
  refine (aw_u w6 0 0 0 0 (by omega) until_ex.2.2.2.2.1 until_ex.2.2.2.2.2).mono ?_
  rintro e w7 ⟨rfl, bb⟩
  replace F := F.below bb
  have sw7 := bb.size
  clear bb
  go_wp2_with fail
  refine (eqp_lit w7 l _ [(1, 7), (2, 5)] 2 _ _ (OV.ev (F.get 1) encG_len) rfl rfl rfl (by decide) rfl).mono ?_
  rintro e w8 ⟨rfl, bb⟩
  replace F := F.below bb
  have sw8 := bb.size
  clear bb
  go_wp2_with fail
  refine (eqi_lit w8 a _ [3, 4] 2 _ _ (OV.ev (F.get 2) encI_len) rfl rfl rfl (by decide) rfl).mono ?_
  rintro e w9 ⟨rfl, bb⟩
  replace F := F.below bb
  have sw9 := bb.size
  clear bb
  go_wp2_with fail
  refine (eqi_lit w9 b _ [3, 1] 2 _ _ (OV.ev (F.get 3) encI_len) rfl rfl rfl (by decide) rfl).mono ?_
  rintro e wA ⟨rfl, bb⟩
  replace F := F.below bb
  have swA := bb.size
  clear bb
  go_wp2_with fail
  refine (equ_lit wA u _ [⟨0, 2, 1, 7, 3⟩, ⟨0, 2, 2, 5, 4⟩] 2 _ _ (OV.ev (F.get 4) encUs_len) rfl rfl rfl (by decide) rfl).mono ?_
  rintro e wB ⟨rfl, bb⟩
  replace F := F.below bb
  have swB := bb.size
  clear bb
  go_wp2
  go_ret
  exact ⟨rfl, F.get 0⟩
end Go.Proofs.YtaplangfppohdaaDoor

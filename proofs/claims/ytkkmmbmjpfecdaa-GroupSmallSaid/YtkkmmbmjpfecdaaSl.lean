/- Contracts of the library's functions on slices: what each returns for slices that read as lists. -/
import Derived.Test.YtkkmmbmjpfecdaaRows
import Derived.Test.YtkkmmbmjpfecdaaBase
import Derived.Test.YtkkmmbmjpfecdaaApp
import Derived.WalkKit
import Derived.WalkSpells
import Derived.WalkLawsBesides
import Derived.Outline
import Derived.OwnWalkIn
import Derived.TacticsInMore
import Derived.LoopNIn
import Derived.LoopIn
import Derived.Shelf.Abstract
import Derived.Shelf.RegionOpen
import Derived.Deep.LoopGhost
import Derived.BigQuiet
import Derived.Deep.QuietTactic
import Derived.Deep.DeepFit
import Derived.Deep.AppendLies
import Derived.Laws.EntriesVeiled
namespace Go.Proofs.Ytkkmmbmjpfecdaa
open Go.RowKit Go.Shelf

theorem elemI : ElemT Try.prog 29 3 1 8 := ⟨Try.underlying29, by
  have h : (Try.prog.info? 3).map (fun i => (i.zero, i.size, i.bytes)) = some (some (.int .i64 0), 1, 8) := by kernel_rfl
  obtain ⟨i, h1, h2, h3, h4⟩ := info_parts h
  exact ⟨i, _, h1, h2, h3, h4, rfl⟩, by omega, by omega⟩

theorem take_eq_step {α : Type} {xs ys : List α} {j : Nat} (h : xs.take j = ys.take j) (hx : j < xs.length) (hy : j < ys.length) (he : xs[j] = ys[j]) : xs.take (j + 1) = ys.take (j + 1) := by
  rw [List.take_succ_eq_append_getElem hx, List.take_succ_eq_append_getElem hy, h, he]

theorem take_eq_step' {α : Type} {xs ys : List α} {j : Nat} {x : α} (h : xs.take j = ys.take j) (hx : xs[j]? = some x) (hy : ys[j]? = some x) : xs.take (j + 1) = ys.take (j + 1) := by
  rw [List.take_add_one, List.take_add_one, h, hx, hy]

set_option maxHeartbeats 400000 in
theorem equal_int (w : World) (v1 v2 : Value) (xs ys : List Int) (h1 : EV encI 1 w v1 xs) (h2 : EV encI 1 w v2 ys) (b1 : xs.length ≤ 1000000000) (b2 : ys.length ≤ 1000000000) :
    Calls Try.prog 15 #[v1, v2] w fun e w' => e = .returned (.bool (xs == ys)) ∧ ∃ n, w.drewN n = w' := by
  by_cases hl : xs.length = ys.length
  · rcases Nat.eq_zero_or_pos xs.length with h0 | h0
    · obtain rfl : xs = [] := List.eq_nil_of_length_eq_zero h0
      obtain rfl : ys = [] := List.eq_nil_of_length_eq_zero (by simpa using hl.symm)
      obtain ⟨A, c, rfl⟩ := h1.shape
      obtain ⟨A', c', rfl⟩ := h2.shape
      clear h1 h2 hl h0 b1 b2
      go_enter Try.func15, Try.ntmps15
      go_wp2
      refine wp_loop_rounds 1 ?_
      rw [rounds_succ]
      go_wp2
      go_ret
      exact ⟨rfl, 0, rfl⟩
    · obtain ⟨b, off, c, rfl, hc, r1⟩ := h1.row h0
      obtain ⟨b', off', c', rfl, hc', r2⟩ := h2.row (hl ▸ h0)
      rw [← hl]
      have R1 := Lib.hid r1; have R2 := Lib.hid r2; have HL := Lib.hid hl
      clear r1 r2 hl h1 h2
      go_enter Try.func15, Try.ntmps15
      go_wp2
      go_loopg [13] xs.length (fun k i wr => ∃ j : Nat, j + k = xs.length ∧ i = .int .i64 j ∧ (∃ n, w.drewN n = wr) ∧ xs.take j = ys.take j)
      case atStart => exact ⟨0, by omega, rfl, ⟨0, rfl⟩, rfl⟩
      case round =>
        obtain ⟨j, hj, rfl, ⟨n, rfl⟩, ht⟩ := hrel
        have HT := Lib.hid ht
        have HJ := Lib.hid hj
        clear ht hj
        by_cases hlt : j < xs.length
        · obtain ⟨x, hx, c1⟩ := R1.out.get1 hlt
          obtain ⟨y, hy, c2⟩ := R2.out.get1 (HL.out ▸ hlt)
          have HX := Lib.hid hx
          have HY := Lib.hid hy
          clear hx hy
          by_cases he : x = y
          · subst he
            go_wp2
            go_quiet (fail)
            go_wp2
            go_roundg (gk - 1)
            case measure => have := HJ.out; omega
            case rel => exact ⟨j + 1, by have := HJ.out; omega, by go_num, (by first | exact ⟨_, rfl⟩ | exact dn2 _ _ _), take_eq_step' HT.out HX.out HY.out⟩
          · have hne : (x != y) = true := by simp [he]
            have HE := Lib.hid he
            clear he
            go_wp2
            go_quiet (fail)
            go_wp2
            go_ret
            exact ⟨ret_bool (beq_ne_of_get HX.out HY.out HE.out).symm, (by first | exact ⟨_, rfl⟩ | exact dn2 _ _ _)⟩
        · have hj : j = xs.length := by have := HJ.out; omega
          have e : (xs == ys) = true := by
            have := HT.out
            rw [List.take_of_length_le (by omega), List.take_of_length_le (by have := HL.out; omega)] at this
            simp [this]
          have E := Lib.hid e
          clear e hj
          go_wp2
          go_ret
          exact ⟨ret_bool E.out.symm, n, rfl⟩
  · obtain ⟨A, c, rfl⟩ := h1.shape
    obtain ⟨A', c', rfl⟩ := h2.shape
    have hne : ((xs.length : Int) != ys.length) = true := by simp; omega
    have e : (xs == ys) = false := by simp; rintro rfl; exact hl rfl
    have E := Lib.hid e
    clear h1 h2 e hl
    go_enter Try.func15, Try.ntmps15
    go_wp2
    go_ret
    exact ⟨ret_bool E.out.symm, 0, rfl⟩
/-- The index of the first v, or -1. -/
def idxZ (xs : List Int) (v : Int) : Int := if v ∈ xs then (xs.idxOf v : Int) else -1
theorem idxZ_at {xs : List Int} {v : Int} {j : Nat} (h : v ∉ xs.take j) (hx : xs[j]? = some v) : idxZ xs v = j := by
  have hj := (List.getElem?_eq_some_iff.1 hx).1
  have hm : v ∈ xs := List.mem_of_getElem? hx
  unfold idxZ
  rw [if_pos hm]
  congr 1
  have hd : xs.drop j = v :: xs.drop (j + 1) := by
    rw [List.drop_eq_getElem_cons hj]
    congr 1
    have := List.getElem?_eq_getElem hj
    rw [hx] at this
    exact (Option.some.inj this).symm
  rw [← List.take_append_drop j xs, List.idxOf_append, if_neg h, hd, List.idxOf_cons_self, List.length_take]
  omega
theorem idxZ_none {xs : List Int} {v : Int} (h : v ∉ xs) : idxZ xs v = -1 := by unfold idxZ; rw [if_neg h]
theorem notin_step {α : Type} {xs : List α} {v x : α} {j : Nat} (h : v ∉ xs.take j) (hx : xs[j]? = some x) (hne : ¬ v = x) : v ∉ xs.take (j + 1) := by
  rw [List.take_add_one, hx]
  simp only [Option.toList_some, List.mem_append, List.mem_singleton, not_or]
  exact ⟨h, hne⟩

set_option maxHeartbeats 400000 in
theorem index_int (w : World) (v1 : Value) (xs : List Int) (v : Int) (h1 : EV encI 1 w v1 xs) (b1 : xs.length ≤ 1000000000) :
    Calls Try.prog 14 #[v1, .int .i64 v] w fun e w' => e = .returned (.int .i64 (idxZ xs v)) ∧ w = w' := by
  rcases Nat.eq_zero_or_pos xs.length with h0 | h0
  · obtain rfl : xs = [] := List.eq_nil_of_length_eq_zero h0
    obtain ⟨A, c, rfl⟩ := h1.shape
    clear h1 h0 b1
    go_enter Try.func14, Try.ntmps14
    go_wp2
    refine wp_loop_rounds 1 ?_
    rw [rounds_succ]
    go_wp2
    go_ret
    exact ⟨rfl, rfl⟩
  · obtain ⟨b, off, c, rfl, hc, r1⟩ := h1.row h0
    have R1 := Lib.hid r1
    clear r1 h1
    go_enter Try.func14, Try.ntmps14
    go_wp2
    go_loopg [8] xs.length (fun k i wr => ∃ j : Nat, j + k = xs.length ∧ i = .int .i64 j ∧ w = wr ∧ v ∉ xs.take j)
    case atStart => exact ⟨0, by omega, rfl, rfl, by simp⟩
    case round =>
      obtain ⟨j, hj, rfl, rfl, ht⟩ := hrel
      have HT := Lib.hid ht
      have HJ := Lib.hid hj
      clear ht hj
      by_cases hlt : j < xs.length
      · obtain ⟨x, hx, c1⟩ := R1.out.get1 hlt
        have HX := Lib.hid hx
        clear hx
        by_cases he : v = x
        · subst he
          go_wp2
          go_ret
          exact ⟨ret_int (idxZ_at HT.out HX.out).symm, rfl⟩
        · have hne : (v == x) = false := by simp [he]
          have HE := Lib.hid he
          clear he
          go_wp2
          go_roundg (gk - 1)
          case measure => have := HJ.out; omega
          case rel => exact ⟨j + 1, by have := HJ.out; omega, by go_num, rfl, notin_step HT.out HX.out HE.out⟩
      · have e : idxZ xs v = -1 := idxZ_none (by have := HT.out; rwa [List.take_of_length_le (by omega)] at this)
        have E := Lib.hid e
        clear e
        go_wp2
        go_ret
        exact ⟨ret_int E.out.symm, rfl⟩

theorem contains_idx (xs : List Int) (v : Int) : decide (0 ≤ idxZ xs v) = xs.contains v := by
  unfold idxZ
  by_cases h : v ∈ xs
  · rw [if_pos h]; simp [h]
  · rw [if_neg h]; simp [h]
theorem idxZ_ge (xs : List Int) (v : Int) : -1 ≤ idxZ xs v ∧ idxZ xs v ≤ xs.length := by
  unfold idxZ
  split
  · have := List.idxOf_le_length (a := v) (l := xs); omega
  · omega

set_option maxHeartbeats 400000 in
theorem contains_int (w : World) (v1 : Value) (xs : List Int) (v : Int) (h1 : EV encI 1 w v1 xs) (b1 : xs.length ≤ 1000000000) :
    Calls Try.prog 16 #[v1, .int .i64 v] w fun e w' => e = .returned (.bool (xs.contains v)) ∧ w = w' := by
  have E := Lib.hid (contains_idx xs v)
  go_enter Try.func16, Try.ntmps16
  go_wp2_with fail
  refine (index_int _ _ xs v h1 b1).mono ?_
  rintro e w' ⟨rfl, rfl⟩
  generalize hi : idxZ xs v = i at E ⊢
  clear hi
  go_wp2
  go_ret
  exact ⟨ret_bool E.out, rfl⟩

set_option maxHeartbeats 400000 in
theorem clone_int (w : World) (v1 : Value) (xs : List (Int)) (h1 : EV encI 1 w v1 xs) (b1 : xs.length ≤ 1000000000) :
    Calls Try.prog 27 #[v1] w fun e w' => ∃ v, e = .returned v ∧ OV encI 1 3 w.heap.size w' v xs ∧ Below w.heap.size w w' := by
  obtain ⟨A, c, rfl⟩ := h1.shape
  have H1 := Lib.hid h1
  clear h1
  have heq : ∀ (w : World) (a : Option Addr) (n c n' c' : Nat), (binOp .eql 29 (.slice a n c) (.slice none n' c')).run Try.prog w = .ok (.bool a.isNone) w := fun w a n c n' c' => Lib.run_eql_slice_nil w _ _ a n c n' c' Try.underlying29
  cases A with
  | none =>
    obtain rfl : xs = [] := by
      rcases H1.out with ⟨h, _⟩ | ⟨_, b, off, c', h, _⟩
      · exact h
      · cases h
    clear H1 b1
    go_enter Try.func27, Try.ntmps27
    go_wp2
    go_ret
    exact ⟨_, rfl, OV.nil _ _, Below.refl _ _⟩
  | some ad =>
    go_enter Try.func27, Try.ntmps27
    go_wp2_with (at_builtin; refine wpList_app elemI encI_len encI_one rfl _ _ rfl _ _ rfl rfl (OV.made w 0 #[] (Nat.le_refl _) (Nat.zero_le _) rfl) (H1.out.keep fun p u hc => ?qc) ?qn ?qb ?_)
    case qc => exact (World.cell?_alloc_lt w _ p (cell_lt hc)).trans hc
    case qn => simpa using b1
    case qb => simp
    intro v' w1 hown hgrow
    go_wp2
    go_ret
    refine ⟨v', rfl, by simpa using hown, ((Below.refl _ w).alloc (Nat.le_refl _) _).grown hgrow (by simp) (by intro k hk; simp [Value.ownBlock] at hk; omega)⟩


set_option maxHeartbeats 400000 in
theorem less_int (w : World) (x y : Int) :
    Calls Try.prog 51 #[.int .i64 x, .int .i64 y] w fun e w' => e = .returned (.bool (decide (x < y))) ∧ w = w' := by
  have nan : ∀ (z : Int) (w : World), Calls Try.prog 68 #[.int .i64 z] w fun e w' => e = .returned (.bool false) ∧ w = w' := by
    intro z w
    go_enter Try.func68, Try.ntmps68
    go_wp2
    go_ret
    exact ⟨rfl, rfl⟩
  have NAN := Lib.hid nan
  clear nan
  by_cases h : x < y
  all_goals
    go_enter Try.func51, Try.ntmps51
    go_wp2_with (go_at_call 68; refine (NAN.out _ _).mono ?_; rintro e w' ⟨rfl, rfl⟩)
    go_ret
    exact ⟨by simp [h], rfl⟩
def Srt (xs : List Int) : Prop := ∀ i x y, xs[i]? = some x → xs[i + 1]? = some y → x ≤ y
set_option maxHeartbeats 400000 in
theorem sorted_int (w : World) (v1 : Value) (xs : List Int) (h1 : EV encI 1 w v1 xs) (b1 : xs.length ≤ 1000000000) :
    Calls Try.prog 29 #[v1] w fun e w' => (∃ b : Bool, e = .returned (.bool b) ∧ (b = true ↔ Srt xs)) ∧ ∃ n, w.drewN n = w' := by
  rcases Nat.eq_zero_or_pos xs.length with h0 | h0
  · obtain rfl : xs = [] := List.eq_nil_of_length_eq_zero h0
    obtain ⟨A, c, rfl⟩ := h1.shape
    clear h1 h0 b1
    go_enter Try.func29, Try.ntmps29
    go_wp2
    refine wp_loop_rounds 1 ?_
    rw [rounds_succ]
    go_wp2
    go_ret
    exact ⟨⟨true, rfl, by simp [Srt]⟩, 0, rfl⟩
  · obtain ⟨b, off, c, rfl, hc, r1⟩ := h1.row h0
    have R1 := Lib.hid r1
    clear r1 h1
    go_enter Try.func29, Try.ntmps29
    go_wp2
    go_loopg [3] xs.length (fun k i wr => ∃ j : Nat, j < xs.length ∧ j = k - 1 ∧ 0 < k ∧ i = .int .i64 j ∧ (∃ n, w.drewN n = wr) ∧ ∀ i x y, j ≤ i → xs[i]? = some x → xs[i + 1]? = some y → x ≤ y)
    case atStart =>
      refine ⟨xs.length - 1, by omega, rfl, by omega, ?_, ⟨0, rfl⟩, fun i x y h _ hy => ?_⟩
      · congr 1; omega
      · have := (List.getElem?_eq_some_iff.1 hy).1; omega
    case round =>
      obtain ⟨j, hj1, hj2, hj3, rfl, hw, ht⟩ := hrel
      have RW : ER encI 1 wr b off xs := by obtain ⟨n, rfl⟩ := hw; exact R1.out
      have HW := Lib.hid hw
      have HT := Lib.hid ht
      have HJ := Lib.hid hj2
      clear ht hj2 hw
      by_cases hlt : 0 < j
      · obtain ⟨x, hx, c1⟩ := RW.get1 hj1
        obtain ⟨y, hy, c2⟩ := RW.get1 (i := j - 1) (by omega)
        have e1 : ((j : Int) - 1).toNat = j - 1 := by omega
        have e2 : (0 : Int) ≤ (j : Int) - 1 := by omega
        have e3 : (j : Int) - 1 < (xs.length : Int) := by omega
        have e4 : (1 : Int) ≤ (j : Int) := by omega
        have e5 : IntKind.i64.wrap ((j : Int) - 1) = (j : Int) - 1 := IntWalk.i64_in _ (by omega)
        have HX := Lib.hid hx
        have HRW := Lib.hid RW
        clear RW
        have HY := Lib.hid hy
        clear hx hy
        by_cases he : x < y
        · go_wp2
          go_quiet ((go_at_call 51; exact Calls.quiet_of_same ((less_int _ _ _).mono (fun e w' h => ⟨h.1, h.2.symm⟩))))
          clear e1 e2 e3 e4 e5
          go_wp2
          go_ret
          refine ⟨⟨false, rfl, by simp only [Bool.false_eq_true, false_iff]; intro hs; have := hs (j - 1) y x HY.out (by rw [show j - 1 + 1 = j from by omega]; exact HX.out); omega⟩, (by obtain ⟨n, rfl⟩ := HW.out; exact (by first | exact ⟨_, rfl⟩ | exact dn2 _ _ _))⟩
        · go_wp2
          go_quiet ((go_at_call 51; exact Calls.quiet_of_same ((less_int _ _ _).mono (fun e w' h => ⟨h.1, h.2.symm⟩))))
          clear e1 e2 e3 e4 e5
          go_wp2
          go_roundg (gk - 1)
          case measure => have := HJ.out; omega
          case rel =>
            refine ⟨j - 1, by omega, by have := HJ.out; omega, by have := HJ.out; omega, by congr 1; omega, (by obtain ⟨n, rfl⟩ := HW.out; exact (by first | exact ⟨_, rfl⟩ | exact dn2 _ _ _)), fun i a b hi ha hb => ?_⟩
            by_cases hij : i = j - 1
            · subst hij
              rw [show j - 1 + 1 = j from by omega] at hb
              have h1 := HX.out; have h2 := HY.out
              rw [ha] at h2; rw [hb] at h1; cases h1; cases h2; omega
            · exact HT.out i a b (by omega) ha hb
      · have HRW := Lib.hid RW
        clear RW
        go_wp2
        go_ret
        exact ⟨⟨true, rfl, by simp only [true_iff]; exact fun i x y => HT.out i x y (by omega)⟩, HW.out⟩
/-- What a predicate on ints hands back, in the world w but for draws. -/
def PredI (g : Nat) (lb : Array Value) (w : World) (p : Int → Bool) (xs : List Int) : Prop :=
  (∀ args w, (callFunc g args).run Try.prog w = .ok (.enter g args) w) ∧
  ∀ n, ∀ x ∈ xs, Calls Try.prog g (#[.int .i64 x] ++ lb) (w.drewN n) fun e w' => e = .returned (.bool (p x)) ∧ ∃ m, (w.drewN n).drewN m = w'
theorem any_step {xs : List Int} {p : Int → Bool} {j : Nat} {x : Int} (h : (xs.take j).any p = false) (hx : xs[j]? = some x) (hp : p x = false) : (xs.take (j + 1)).any p = false := by
  rw [List.take_add_one, hx, List.any_append, h]; simp [hp]
set_option maxHeartbeats 400000 in
theorem containsFunc_int (w : World) (v1 : Value) (xs : List Int) (g : Nat) (lb : Array Value) (p : Int → Bool) (h1 : EV encI 1 w v1 xs) (b1 : xs.length ≤ 1000000000) (hp : PredI g lb w p xs) :
    Calls Try.prog 52 #[v1, .func (.func g) #[] lb] w fun e w' => e = .returned (.bool (xs.any p)) ∧ ∃ n, w.drewN n = w' := by
  have idx : Calls Try.prog 69 #[v1, .func (.func g) #[] lb] w fun e w' => ∃ i : Int, (e = .returned (.int .i64 i) ∧ (decide (0 ≤ i) = xs.any p) ∧ i ≤ xs.length) ∧ ∃ n, w.drewN n = w' := by
    obtain ⟨eg, hp⟩ := hp
    have HP := Lib.hid hp
    clear hp
    rcases Nat.eq_zero_or_pos xs.length with h0 | h0
    · obtain rfl : xs = [] := List.eq_nil_of_length_eq_zero h0
      obtain ⟨A, c, rfl⟩ := h1.shape
      clear h1 h0 b1 HP
      go_enter Try.func69, Try.ntmps69
      go_wp2
      refine wp_loop_rounds 1 ?_
      rw [rounds_succ]
      go_wp2
      go_ret
      exact ⟨-1, ⟨rfl, rfl, by omega⟩, 0, rfl⟩
    · obtain ⟨b, off, c, rfl, hc, r1⟩ := h1.row h0
      have R1 := Lib.hid r1
      clear r1 h1
      go_enter Try.func69, Try.ntmps69
      go_wp2
      go_loopg [8] xs.length (fun k i wr => ∃ j : Nat, j + k = xs.length ∧ i = .int .i64 j ∧ (∃ n, w.drewN n = wr) ∧ (xs.take j).any p = false)
      case atStart => exact ⟨0, by omega, rfl, ⟨0, rfl⟩, by simp⟩
      case round =>
        obtain ⟨j, hj, rfl, ⟨n, rfl⟩, ht⟩ := hrel
        have HT := Lib.hid ht
        have HJ := Lib.hid hj
        clear ht hj
        by_cases hlt : j < xs.length
        · obtain ⟨x, hx, c1⟩ := R1.out.get1 hlt
          have hpx := HP.out n x (List.mem_of_getElem? hx)
          have HPX := Lib.hid hpx
          have HX := Lib.hid hx
          clear hx hpx
          go_wp2_with fail
          refine HPX.out.mono ?_
          rintro e w' ⟨rfl, m, rfl⟩
          clear HPX
          cases hb : p x with
          | true =>
            have HB := Lib.hid hb
            clear hb
            go_wp2
            go_ret
            refine ⟨j, ⟨rfl, ?_, by omega⟩, (by first | exact ⟨_, rfl⟩ | exact dn2 _ _ _)⟩
            have : xs.any p = true := List.any_eq_true.2 ⟨x, List.mem_of_getElem? HX.out, HB.out⟩
            rw [this]; simp
          | false =>
            have HB := Lib.hid hb
            clear hb
            go_wp2
            go_roundg (gk - 1)
            case measure => have := HJ.out; omega
            case rel => exact ⟨j + 1, by have := HJ.out; omega, by go_num, (by first | exact ⟨_, rfl⟩ | exact dn2 _ _ _), any_step HT.out HX.out HB.out⟩
        · have e : xs.any p = false := by have := HT.out; rwa [List.take_of_length_le (by omega)] at this
          have E := Lib.hid e
          clear e
          go_wp2
          go_ret
          exact ⟨-1, ⟨rfl, E.out.symm, by omega⟩, n, rfl⟩
  go_enter Try.func52, Try.ntmps52
  go_wp2_with fail
  refine idx.mono ?_
  rintro e w' ⟨i, ⟨rfl, h2, h3⟩, n, rfl⟩
  have H2 := Lib.hid h2
  clear h2 h1 idx hp
  go_wp2
  go_ret
  exact ⟨ret_bool H2.out, n, rfl⟩
end Go.Proofs.Ytkkmmbmjpfecdaa

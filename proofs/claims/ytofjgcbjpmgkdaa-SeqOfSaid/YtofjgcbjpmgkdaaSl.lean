/- Contracts of the library's functions on slices: what each returns for slices that read as lists. -/
import Derived.Test.YtofjgcbjpmgkdaaRows
import Derived.Test.YtofjgcbjpmgkdaaBase
import Derived.Test.YtofjgcbjpmgkdaaApp
import Derived.WalkKit
import Derived.WalkSpells
import Derived.WalkLawsBesides
import Derived.Outline
import Derived.OwnWalkIn
import Derived.TacticsInMore
import Derived.LoopNIn
import Derived.LoopIn
import Derived.Shelf.Abstract
import Derived.Shelf.RegionOpen
import Derived.Deep.LoopGhost
import Derived.BigQuiet
import Derived.Deep.QuietTactic
import Derived.Deep.DeepFit
import Derived.Deep.AppendLies
import Derived.Laws.EntriesVeiled
set_option linter.unusedVariables false
set_option linter.unusedSimpArgs false
set_option linter.unusedSectionVars false
namespace Go.Proofs.Ytofjgcbjpmgkdaa
open Go.RowKit Go.Shelf

theorem elemI : ElemT Try.prog 38 3 1 8 := ⟨Try.underlying38, by
  have h : (Try.prog.info? 3).map (fun i => (i.zero, i.size, i.bytes)) = some (some (.int .i64 0), 1, 8) := by kernel_rfl
  obtain ⟨i, h1, h2, h3, h4⟩ := info_parts h
  exact ⟨i, _, h1, h2, h3, h4, rfl⟩, by omega, by omega⟩

theorem take_eq_step {α : Type} {xs ys : List α} {j : Nat} (h : xs.take j = ys.take j) (hx : j < xs.length) (hy : j < ys.length) (he : xs[j] = ys[j]) : xs.take (j + 1) = ys.take (j + 1) := by
  rw [List.take_succ_eq_append_getElem hx, List.take_succ_eq_append_getElem hy, h, he]

theorem take_eq_step' {α : Type} {xs ys : List α} {j : Nat} {x : α} (h : xs.take j = ys.take j) (hx : xs[j]? = some x) (hy : ys[j]? = some x) : xs.take (j + 1) = ys.take (j + 1) := by
  rw [List.take_add_one, List.take_add_one, h, hx, hy]

set_option maxHeartbeats 400000 in
theorem equal_int (w : World) (v1 v2 : Value) (xs ys : List Int) (h1 : EV encI 1 w v1 xs) (h2 : EV encI 1 w v2 ys) (b1 : xs.length ≤ 1000000000) (b2 : ys.length ≤ 1000000000) :
    Calls Try.prog 24 #[v1, v2] w fun e w' => e = .returned (.bool (xs == ys)) ∧ ∃ n, w.drewN n = w' := by
  by_cases hl : xs.length = ys.length
  · rcases Nat.eq_zero_or_pos xs.length with h0 | h0
    · obtain rfl : xs = [] := List.eq_nil_of_length_eq_zero h0
      obtain rfl : ys = [] := List.eq_nil_of_length_eq_zero (by simpa using hl.symm)
      obtain ⟨A, c, rfl⟩ := h1.shape
      obtain ⟨A', c', rfl⟩ := h2.shape
      clear h1 h2 hl h0 b1 b2
      go_enter Try.func24, Try.ntmps24
      go_wp2
      refine wp_loop_rounds 1 ?_
      rw [rounds_succ]
      go_wp2
      go_ret
      exact ⟨rfl, 0, rfl⟩
    · obtain ⟨b, off, c, rfl, hc, r1⟩ := h1.row h0
      obtain ⟨b', off', c', rfl, hc', r2⟩ := h2.row (hl ▸ h0)
      rw [← hl]
      have R1 := Lib.hid r1; have R2 := Lib.hid r2; have HL := Lib.hid hl
      clear r1 r2 hl h1 h2
      go_enter Try.func24, Try.ntmps24
      go_wp2
      go_loopg [13] xs.length (fun k i wr => ∃ j : Nat, j + k = xs.length ∧ i = .int .i64 j ∧ (∃ n, w.drewN n = wr) ∧ xs.take j = ys.take j)
      case atStart => exact ⟨0, by omega, rfl, ⟨0, rfl⟩, rfl⟩
      case round =>
        obtain ⟨j, hj, rfl, ⟨n, rfl⟩, ht⟩ := hrel
        have HT := Lib.hid ht
        have HJ := Lib.hid hj
        clear ht hj
        by_cases hlt : j < xs.length
        · obtain ⟨x, hx, c1⟩ := R1.out.get1 hlt
          obtain ⟨y, hy, c2⟩ := R2.out.get1 (HL.out ▸ hlt)
          have HX := Lib.hid hx
          have HY := Lib.hid hy
          clear hx hy
          by_cases he : x = y
          · subst he
            go_wp2
            go_quiet (fail)
            go_wp2
            go_roundg (gk - 1)
            case measure => have := HJ.out; omega
            case rel => exact ⟨j + 1, by have := HJ.out; omega, by go_num, (by first | exact ⟨_, rfl⟩ | exact dn2 _ _ _), take_eq_step' HT.out HX.out HY.out⟩
          · have hne : (x != y) = true := by simp [he]
            have HE := Lib.hid he
            clear he
            go_wp2
            go_quiet (fail)
            go_wp2
            go_ret
            exact ⟨ret_bool (beq_ne_of_get HX.out HY.out HE.out).symm, (by first | exact ⟨_, rfl⟩ | exact dn2 _ _ _)⟩
        · have hj : j = xs.length := by have := HJ.out; omega
          have e : (xs == ys) = true := by
            have := HT.out
            rw [List.take_of_length_le (by omega), List.take_of_length_le (by have := HL.out; omega)] at this
            simp [this]
          have E := Lib.hid e
          clear e hj
          go_wp2
          go_ret
          exact ⟨ret_bool E.out.symm, n, rfl⟩
  · obtain ⟨A, c, rfl⟩ := h1.shape
    obtain ⟨A', c', rfl⟩ := h2.shape
    have hne : ((xs.length : Int) != ys.length) = true := by simp; omega
    have e : (xs == ys) = false := by simp; rintro rfl; exact hl rfl
    have E := Lib.hid e
    clear h1 h2 e hl
    go_enter Try.func24, Try.ntmps24
    go_wp2
    go_ret
    exact ⟨ret_bool E.out.symm, 0, rfl⟩
/-- The index of the first v, or -1. -/
def idxZ (xs : List Int) (v : Int) : Int := if v ∈ xs then (xs.idxOf v : Int) else -1
theorem idxZ_at {xs : List Int} {v : Int} {j : Nat} (h : v ∉ xs.take j) (hx : xs[j]? = some v) : idxZ xs v = j := by
  have hj := (List.getElem?_eq_some_iff.1 hx).1
  have hm : v ∈ xs := List.mem_of_getElem? hx
  unfold idxZ
  rw [if_pos hm]
  congr 1
  have hd : xs.drop j = v :: xs.drop (j + 1) := by
    rw [List.drop_eq_getElem_cons hj]
    congr 1
    have := List.getElem?_eq_getElem hj
    rw [hx] at this
    exact (Option.some.inj this).symm
  rw [← List.take_append_drop j xs, List.idxOf_append, if_neg h, hd, List.idxOf_cons_self, List.length_take]
  omega
theorem idxZ_none {xs : List Int} {v : Int} (h : v ∉ xs) : idxZ xs v = -1 := by unfold idxZ; rw [if_neg h]
theorem notin_step {α : Type} {xs : List α} {v x : α} {j : Nat} (h : v ∉ xs.take j) (hx : xs[j]? = some x) (hne : ¬ v = x) : v ∉ xs.take (j + 1) := by
  rw [List.take_add_one, hx]
  simp only [Option.toList_some, List.mem_append, List.mem_singleton, not_or]
  exact ⟨h, hne⟩

theorem contains_idx (xs : List Int) (v : Int) : decide (0 ≤ idxZ xs v) = xs.contains v := by
  unfold idxZ
  by_cases h : v ∈ xs
  · rw [if_pos h]; simp [h]
  · rw [if_neg h]; simp [h]
theorem idxZ_ge (xs : List Int) (v : Int) : -1 ≤ idxZ xs v ∧ idxZ xs v ≤ xs.length := by
  unfold idxZ
  split
  · have := List.idxOf_le_length (a := v) (l := xs); omega
  · omega

set_option maxHeartbeats 400000 in
theorem clone_int (w : World) (v1 : Value) (xs : List (Int)) (h1 : EV encI 1 w v1 xs) (b1 : xs.length ≤ 1000000000) :
    Calls Try.prog 45 #[v1] w fun e w' => ∃ v, e = .returned v ∧ OV encI 1 3 w.heap.size w' v xs ∧ Below w.heap.size w w' := by
  obtain ⟨A, c, rfl⟩ := h1.shape
  have H1 := Lib.hid h1
  clear h1
  have heq : ∀ (w : World) (a : Option Addr) (n c n' c' : Nat), (binOp .eql 38 (.slice a n c) (.slice none n' c')).run Try.prog w = .ok (.bool a.isNone) w := fun w a n c n' c' => Lib.run_eql_slice_nil w _ _ a n c n' c' Try.underlying38
  cases A with
  | none =>
    obtain rfl : xs = [] := by
      rcases H1.out with ⟨h, _⟩ | ⟨_, b, off, c', h, _⟩
      · exact h
      · cases h
    clear H1 b1
    go_enter Try.func45, Try.ntmps45
    go_wp2
    go_ret
    exact ⟨_, rfl, OV.nil _ _, Below.refl _ _⟩
  | some ad =>
    go_enter Try.func45, Try.ntmps45
    go_wp2_with (at_builtin; refine wpList_app elemI encI_len encI_one rfl _ _ rfl _ _ rfl rfl (OV.made w 0 #[] (Nat.le_refl _) (Nat.zero_le _) rfl) (H1.out.keep fun p u hc => ?qc) ?qn ?qb ?_)
    case qc => exact (World.cell?_alloc_lt w _ p (cell_lt hc)).trans hc
    case qn => simpa using b1
    case qb => simp
    intro v' w1 hown hgrow
    go_wp2
    go_ret
    refine ⟨v', rfl, by simpa using hown, ((Below.refl _ w).alloc (Nat.le_refl _) _).grown hgrow (by simp) (by intro k hk; simp [Value.ownBlock] at hk; omega)⟩


set_option maxHeartbeats 400000 in
theorem less_int (w : World) (x y : Int) :
    Calls Try.prog 79 #[.int .i64 x, .int .i64 y] w fun e w' => e = .returned (.bool (decide (x < y))) ∧ w = w' := by
  have nan : ∀ (z : Int) (w : World), Calls Try.prog 89 #[.int .i64 z] w fun e w' => e = .returned (.bool false) ∧ w = w' := by
    intro z w
    go_enter Try.func89, Try.ntmps89
    go_wp2
    go_ret
    exact ⟨rfl, rfl⟩
  have NAN := Lib.hid nan
  clear nan
  by_cases h : x < y
  all_goals
    go_enter Try.func79, Try.ntmps79
    go_wp2_with (go_at_call 89; refine (NAN.out _ _).mono ?_; rintro e w' ⟨rfl, rfl⟩)
    go_ret
    exact ⟨by simp [h], rfl⟩
end Go.Proofs.Ytofjgcbjpmgkdaa

/- package seq: next, Right, right, add. -/
import Derived.Test.YtofjgcbjpmgkdaaPr
import Derived.Test.YtofjgcbjpmgkdaaSm
import Derived.Deep.RegionLaw
set_option linter.unusedVariables false
set_option linter.unusedSimpArgs false
set_option linter.unusedSectionVars false
namespace Go.Proofs.Ytofjgcbjpmgkdaa
open Go.RowKit Go.Shelf

theorem next_ok (w : World) (p q : Int) (h1 : -4611686018427387904 ≤ p) (h2 : p ≤ 4611686018427387903) (h3 : -4611686018427387904 ≤ q) (h4 : q ≤ 4611686018427387903) :
    Calls Try.prog 41 #[.agg #[.int .i64 p, .int .i64 q]] w fun e w' => e = .returned (.int .i64 (p + q)) ∧ Below w.heap.size w w' := by
  go_enter Try.func41, Try.ntmps41
  go_wp2
  go_ret
  exact ⟨rfl, (Below.refl _ _).alloc (Nat.le_refl _) _⟩

/-- Run i of a list is as it should be, if those before it are. -/
def goodB (l : List (Int × Int)) (i : Nat) : Bool := canB 0 (l.take (i + 1))
theorem good_step {l : List (Int × Int)} {i : Nat} {r : Int × Int} (hc : Can 0 (l.take i)) (hr : l[i]? = some r) :
    Can 0 (l.take (i + 1)) ↔ rokB r = true ∧ (0 < i → ∀ s, l[i - 1]? = some s → nxt s < r.1) := by
  rw [List.take_add_one, hr, Option.toList_some, can_snoc]
  rcases Nat.eq_zero_or_pos i with rfl | h0
  · simp only [List.take_zero, endR]
    exact ⟨fun ⟨_, _, h⟩ => ⟨h, fun h => by omega⟩, fun ⟨h, _⟩ => ⟨can_nil _, by have := rok_iff.1 h; omega, h⟩⟩
  · have hi := (List.getElem?_eq_some_iff.1 hr).1
    obtain ⟨s, hs⟩ : ∃ s, l[i - 1]? = some s := ⟨_, List.getElem?_eq_getElem (by omega)⟩
    have e : l.take i = l.take (i - 1) ++ [s] := by
      obtain ⟨j, rfl⟩ : ∃ j, i = j + 1 := ⟨i - 1, by omega⟩
      simp only [Nat.add_sub_cancel] at hs ⊢
      rw [List.take_add_one, hs]; rfl
    have he : endR 0 (l.take i) = nxt s := by rw [e, endR_append]
    rw [he]
    exact ⟨fun ⟨_, b, c⟩ => ⟨c, fun _ t ht => by rw [hs] at ht; cases ht; exact b⟩, fun ⟨c, b⟩ => ⟨hc, b h0 s hs, c⟩⟩
theorem can_take {l : List (Int × Int)} {lo : Int} (h : Can lo l) (i : Nat) : Can lo (l.take i) := can_prefix (b := l.drop i) (by rwa [List.take_append_drop])
theorem can_mem_take {l : List (Int × Int)} {i j : Nat} {r : Int × Int} (h : Can 0 (l.take i)) (hj : j < i) (hr : l[j]? = some r) : rokB r = true := by
  have h1 := can_take h (j + 1)
  rw [List.take_take, Nat.min_eq_left (by omega)] at h1
  have h2 := can_take h j
  rw [List.take_take, Nat.min_eq_left (by omega)] at h2
  exact ((good_step h2 hr).1 h1).1

set_option maxRecDepth 100000 in
set_option maxHeartbeats 2000000 in
theorem right_ok (w : World) (v : Value) (l : List (Int × Int)) (hv : EV encP 2 w v l) (hlen : l.length ≤ 1000000000) :
    Calls Try.prog 18 #[v] w fun e w' => e = .returned (.bool (rightB l)) ∧ Below w.heap.size w w' := by
  obtain ⟨A, c, rfl⟩ := hv.shape
  by_cases h6 : 65536 < l.length
  · have e : rightB l = false := by unfold rightB; simp; intro h; omega
    rw [e]
    have k1 : decide (65536 < (l.length : Int)) = true := by simp; omega
    clear hv e
    go_enter Try.func18, Try.ntmps18
    go_wp2
    go_ret
    exact ⟨rfl, Below.refl _ _⟩
  · have k1 : decide (65536 < (l.length : Int)) = false := by simp; omega
    have HL := Lib.hid (show rightB l = canB 0 l from by unfold rightB; rw [show decide (l.length ≤ 65536) = true from by simp; omega]; rfl)
    have HV := Lib.hid hv
    clear hv
    go_enter Try.func18, Try.ntmps18
    go_wp2_with fail
    go_loopg [3, 4, 10] l.length (fun k _ _ i wr => ∃ j : Nat, j + k = l.length ∧ i = .int .i64 j ∧ Below w.heap.size w wr ∧ Can 0 (l.take j))
    case atStart => exact ⟨0, by omega, rfl, Below.refl _ _, can_nil _⟩
    case round =>
      obtain ⟨j, hj, rfl, hb, hc⟩ := hrel
      have HJ := Lib.hid hj
      have HB := Lib.hid hb
      have HC := Lib.hid hc
      have hsz := hb.size
      clear hj hb hc k1
      by_cases hlt : j < l.length
      · obtain ⟨b, off, c', hvv, hcc, rr⟩ := HV.out.row (by omega)
        simp only [Value.slice.injEq] at hvv
        obtain ⟨rfl, -, rfl⟩ := hvv
        obtain ⟨⟨p, q⟩, hr⟩ : ∃ r, l[j]? = some r := ⟨_, List.getElem?_eq_getElem hlt⟩
        obtain ⟨c0, c1⟩ := (rr.below HB.out).prs hr
        dsimp only at c0 c1
        have GS := Lib.hid (good_step HC.out hr)
        have ROK := Lib.hid (@rok_iff (p, q))
        have BAD := Lib.hid (show ¬ Can 0 (l.take (j + 1)) → rightB l = false from fun h => by
          rw [HL.out]
          cases hx : canB 0 l with
          | false => rfl
          | true => exact absurd (can_take hx (j + 1)) h)
        have hd1 : decide (j < l.length) = true := by simp; omega
        clear hr
        go_wp2_with fail
        by_cases hok : rokB (p, q) = true
        · obtain ⟨h1, h2, h3, h4⟩ := ROK.out.1 hok
          have d1 : decide (p < 1) = false := by simp; omega
          have d2 : decide (281474976710656 < p) = false := by simp; omega
          have d3 : decide (q < 1) = false := by simp; omega
          have e4 : IntKind.i64.wrap (281474976710657 - p) = 281474976710657 - p := IntWalk.i64_in _ (by omega)
          have d4 : decide (281474976710657 - p < q) = false := by simp; omega
          have HOK := Lib.hid hok
          clear hok
          rcases Nat.eq_zero_or_pos j with hj0 | hj0
          · have d5 : decide ((0 : Int) < (j : Int)) = false := by simp; omega
            have d5' : decide (0 < j) = false := by simp; omega
            have C1 := Lib.hid (GS.out.2 ⟨HOK.out, fun h => by omega⟩)
            go_quiet (fail)
            clear d1 d2 d3 d4 d5 d5' e4
            go_wp2
            go_roundg (gk - 1)
            case measure => have := HJ.out; omega
            case rel => exact ⟨j + 1, by have := HJ.out; omega, by go_num, below_drewN (HB.out.alloc hsz _) _, C1.out⟩
          · obtain ⟨⟨p', q'⟩, hs⟩ : ∃ r, l[j - 1]? = some r := ⟨_, List.getElem?_eq_getElem (by omega)⟩
            have hsok := can_mem_take HC.out (j := j - 1) (by omega) hs
            obtain ⟨s1, s2, s3, s4⟩ := rok_iff.1 hsok
            obtain ⟨x0, x1⟩ := (rr.below HB.out).prs hs
            dsimp only at x0 x1 s1 s2 s3 s4
            have d5 : decide ((0 : Int) < (j : Int)) = true := by simp; omega
            have d5' : decide (0 < j) = true := by simp; omega
            have e6 : IntKind.i64.wrap ((j : Int) - 1) = (j : Int) - 1 := IntWalk.i64_in _ (by omega)
            have e7 : (0 : Int) ≤ (j : Int) - 1 := by omega
            have e8 : ((j : Int) - 1).toNat = j - 1 := by omega
            have e9 : (j : Int) - 1 < (l.length : Int) := by omega
            have e10 : (1 : Int) ≤ (j : Int) := by omega
            have e11 : 1 ≤ j := by omega
            have GN := Lib.hid (show (Can 0 (l.take (j + 1)) ↔ p' + q' < p) from by
              rw [GS.out]
              exact ⟨fun h => h.2 hj0 _ hs, fun h => ⟨HOK.out, fun _ t ht => by rw [hs] at ht; cases ht; exact h⟩⟩)
            have hbl : b < wr.heap.size := cell_lt x0
            have a0 := cell_of_row (wr.alloc (.cells #[.int .i64 p, .int .i64 q] 35)) wr.heap.size 0 _ _ (0, 0) (heap_alloc_new wr _)
            have a1 := cell_of_row (wr.alloc (.cells #[.int .i64 p, .int .i64 q] 35)) wr.heap.size 1 _ _ (0, 0) (heap_alloc_new wr _)
            have ba : Below wr.heap.size wr (wr.alloc (.cells #[.int .i64 p, .int .i64 q] 35)) := (Below.refl _ _).alloc (Nat.le_refl _) _
            have x0 := below_cell ba x0
            have x1 := below_cell ba x1
            have bw := HB.out.alloc hsz (.cells #[.int .i64 p, .int .i64 q] 35)
            clear hs c0 c1 ba hsok
            generalize wr.alloc (.cells #[.int .i64 p, .int .i64 q] 35) = wx at a0 a1 x0 x1 bw ⊢
            generalize wr.heap.size = X at a0 a1 ⊢
            have a0 := a0.trans rfl
            have a1 := a1.trans rfl
            have bx : Below wx.heap.size wx wx := Below.refl _ _
            go_region_held3 (fun wz => wz.cell? ⟨X, 0, none⟩ = some (.int .i64 p) ∧ wz.cell? ⟨X, 1, none⟩ = some (.int .i64 q) ∧ wz.cell? ⟨b, off + (j - 1) * 2, none⟩ = some (.int .i64 p') ∧ wz.cell? ⟨b, off + (j - 1) * 2 + 1, none⟩ = some (.int .i64 q'))
              (first | go_keep | exact ⟨below_cell hbz (by assumption), below_cell hbz (by assumption), below_cell hbz (by assumption), below_cell hbz (by assumption)⟩)
              ((go_loud (refine (next_ok _ p' q' (by omega) (by omega) (by omega) (by omega)).mono ?_; rintro e wz ⟨rfl, hbz⟩)))
            all_goals
              have bz : Below w.heap.size w wz := (below_drew bw).trans (hbz.mono bw.size)
              clear e6 e7 e8 e9 e10 e11 d1 d2 d3 d4 d5 d5' e4 hbz bw x0 x1 a0 a1 bx
              by_cases hle : p ≤ p' + q'
              · have dl : decide (p ≤ p' + q') = true := by simp; omega
                have E := Lib.hid (BAD.out (fun h => by have := GN.out.1 h; omega))
                go_wp2
                go_ret
                exact ⟨ret_bool E.out.symm, bz⟩
              · have dl : decide (p ≤ p' + q') = false := by simp; omega
                have C1 := Lib.hid (GN.out.2 (by omega))
                go_wp2
                go_roundg (gk - 1)
                case measure => have := HJ.out; omega
                case rel => exact ⟨j + 1, by have := HJ.out; omega, by go_num, bz, C1.out⟩
        · have E := Lib.hid (BAD.out (fun h => hok (GS.out.1 h).1))
          have HN := Lib.hid (mt ROK.out.2 hok)
          clear hok
          by_cases h1 : p < 1
          · have d1 : decide (p < 1) = true := by simp; omega
            go_quiet (fail)
            go_wp2
            go_ret
            exact ⟨ret_bool E.out.symm, below_drewN (HB.out.alloc hsz _) _⟩
          · have d1 : decide (p < 1) = false := by simp; omega
            by_cases h2 : 281474976710656 < p
            · have d2 : decide (281474976710656 < p) = true := by simp; omega
              all_goals
                all_goals
                  go_quiet (fail)
                  go_wp2
                  go_ret
                  exact ⟨ret_bool E.out.symm, below_drewN (HB.out.alloc hsz _) _⟩
            · have d2 : decide (281474976710656 < p) = false := by simp; omega
              by_cases h3 : q < 1
              · have d3 : decide (q < 1) = true := by simp; omega
                go_quiet (fail)
                go_wp2
                go_ret
                exact ⟨ret_bool E.out.symm, below_drewN (HB.out.alloc hsz _) _⟩
              · have d3 : decide (q < 1) = false := by simp; omega
                have e4 : IntKind.i64.wrap (281474976710657 - p) = 281474976710657 - p := IntWalk.i64_in _ (by omega)
                have d4 : decide (281474976710657 - p < q) = true := by simp; have := HN.out; omega
                go_quiet (fail)
                clear e4
                go_wp2
                go_ret
                exact ⟨ret_bool E.out.symm, below_drewN (HB.out.alloc hsz _) _⟩
      · have e : rightB l = true := by
          rw [HL.out]
          have := HC.out
          rw [List.take_of_length_le (by omega)] at this
          exact this
        have E := Lib.hid e
        clear e
        go_wp2
        go_ret
        exact ⟨ret_bool E.out.symm, HB.out⟩
end Go.Proofs.Ytofjgcbjpmgkdaa

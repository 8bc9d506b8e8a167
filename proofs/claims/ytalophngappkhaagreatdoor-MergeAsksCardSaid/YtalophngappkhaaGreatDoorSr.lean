/- The reference: Right, has. -/
import Derived.Test.YtalophngappkhaaGreatDoorZ18
set_option linter.unusedVariables false
set_option linter.unusedSimpArgs false
set_option linter.unusedSectionVars false
namespace Go.Proofs.YtalophngappkhaaGreatDoor
open Go.RowKit Go.Shelf

set_option maxRecDepth 100000 in
set_option maxHeartbeats 2000000 in
theorem rright_ok (w : World) (v : Value) (l : List (Int × Int)) (hv : EV encP 2 w v l) (hlen : l.length ≤ 1000000000) :
    Calls Tryz.prog 79 #[v] w fun e w' => e = .returned (.bool (rightB l)) ∧ Below w.heap.size w w' := by
  obtain ⟨A, c, rfl⟩ := hv.shape
  by_cases h6 : 65536 < l.length
  · have e : rightB l = false := by unfold rightB; simp; intro h; omega
    rw [e]
    have k1 : decide (65536 < (l.length : Int)) = true := by simp; omega
    clear hv e
    go_enter Tryz.func79, Tryz.ntmps79
    go_wp2
    go_ret
    exact ⟨rfl, Below.refl _ _⟩
  · have k1 : decide (65536 < (l.length : Int)) = false := by simp; omega
    have HL := Lib.hid (show rightB l = canB 0 l from by unfold rightB; rw [show decide (l.length ≤ 65536) = true from by simp; omega]; rfl)
    have HV := Lib.hid hv
    clear hv
    go_enter Tryz.func79, Tryz.ntmps79
    go_wp2_with fail
    go_loopg [3] l.length (fun k i wr => ∃ j : Nat, j + k = l.length ∧ i = .int .i64 j ∧ Below w.heap.size w wr ∧ Can 0 (l.take j))
    case atStart => exact ⟨0, by omega, rfl, Below.refl _ _, can_nil _⟩
    case round =>
      obtain ⟨j, hj, rfl, hb, hc⟩ := hrel
      have HJ := Lib.hid hj
      have HB := Lib.hid hb
      have HC := Lib.hid hc
      have hsz := hb.size
      clear hj hb hc k1
      by_cases hlt : j < l.length
      · obtain ⟨b, off, c', hvv, hcc, rr⟩ := HV.out.row (by omega)
        simp only [Value.slice.injEq] at hvv
        obtain ⟨rfl, -, rfl⟩ := hvv
        obtain ⟨⟨p, q⟩, hr⟩ : ∃ r, l[j]? = some r := ⟨_, List.getElem?_eq_getElem hlt⟩
        obtain ⟨c0, c1⟩ := (rr.below HB.out).prs hr
        dsimp only at c0 c1
        have GS := Lib.hid (good_step HC.out hr)
        have ROK := Lib.hid (@rok_iff (p, q))
        have BAD := Lib.hid (show ¬ Can 0 (l.take (j + 1)) → rightB l = false from fun h => by
          rw [HL.out]
          cases hx : canB 0 l with
          | false => rfl
          | true => exact absurd (can_take hx (j + 1)) h)
        have hd1 : decide (j < l.length) = true := by simp; omega
        clear hr
        by_cases hok : rokB (p, q) = true
        · obtain ⟨h1, h2, h3, h4⟩ := ROK.out.1 hok
          have d1 : decide (p < 1) = false := by simp; omega
          have d2 : decide (281474976710656 < p) = false := by simp; omega
          have d3 : decide (q < 1) = false := by simp; omega
          have d4 : decide (281474976710656 < q) = false := by simp; omega
          have e4 : IntKind.i64.wrap (p + q) = p + q := IntWalk.i64_in _ (by omega)
          have e5 : IntKind.i64.wrap (p + q - 1) = p + q - 1 := IntWalk.i64_in _ (by omega)
          have d6 : decide (281474976710656 < p + q - 1) = false := by simp; omega
          have HOK := Lib.hid hok
          clear hok
          go_wp2_with fail
          go_quiet (fail)
          clear d1 d2 d3 d4 d6 e4 e5
          go_wp2_with fail
          rcases Nat.eq_zero_or_pos j with hj0 | hj0
          · have d5 : decide ((0 : Int) < (j : Int)) = false := by simp; omega
            have d5' : decide (0 < j) = false := by simp; omega
            have C1 := Lib.hid (GS.out.2 ⟨HOK.out, fun h => by omega⟩)
            go_quiet (fail)
            clear d5 d5'
            go_wp2
            go_roundg (gk - 1)
            case measure => have := HJ.out; omega
            case rel => exact ⟨j + 1, by have := HJ.out; omega, by go_num, below_drewN HB.out _, C1.out⟩
          · obtain ⟨⟨p', q'⟩, hs⟩ : ∃ r, l[j - 1]? = some r := ⟨_, List.getElem?_eq_getElem (by omega)⟩
            have hsok := can_mem_take HC.out (j := j - 1) (by omega) hs
            obtain ⟨s1, s2, s3, s4⟩ := rok_iff.1 hsok
            obtain ⟨x0, x1⟩ := (rr.below HB.out).prs hs
            dsimp only at x0 x1 s1 s2 s3 s4
            have d5 : decide ((0 : Int) < (j : Int)) = true := by simp; omega
            have d5' : decide (0 < j) = true := by simp; omega
            have e6 : IntKind.i64.wrap ((j : Int) - 1) = (j : Int) - 1 := IntWalk.i64_in _ (by omega)
            have e7 : (0 : Int) ≤ (j : Int) - 1 := by omega
            have e8 : ((j : Int) - 1).toNat = j - 1 := by omega
            have e9 : (j : Int) - 1 < (l.length : Int) := by omega
            have e10 : (1 : Int) ≤ (j : Int) := by omega
            have e11 : 1 ≤ j := by omega
            have e12 : IntKind.i64.wrap (p' + q') = p' + q' := IntWalk.i64_in _ (by omega)
            have e13 : IntKind.i64.wrap (p' + q' + 1) = p' + q' + 1 := IntWalk.i64_in _ (by omega)
            have GN := Lib.hid (show (Can 0 (l.take (j + 1)) ↔ p' + q' < p) from by
              rw [GS.out]
              exact ⟨fun h => h.2 hj0 _ hs, fun h => ⟨HOK.out, fun _ t ht => by rw [hs] at ht; cases ht; exact h⟩⟩)
            clear hs hsok
            by_cases hle : p < p' + q' + 1
            · have dl : decide (p < p' + q' + 1) = true := by simp; omega
              have E := Lib.hid (BAD.out (fun h => by have := GN.out.1 h; omega))
              go_quiet (fail)
              clear e6 e7 e8 e9 e10 e11 e12 e13
              go_wp2
              go_ret
              exact ⟨ret_bool E.out.symm, below_drewN (below_drewN HB.out _) _⟩
            · have dl : decide (p < p' + q' + 1) = false := by simp; omega
              have C1 := Lib.hid (GN.out.2 (by omega))
              go_quiet (fail)
              clear e6 e7 e8 e9 e10 e11 e12 e13
              go_wp2
              go_roundg (gk - 1)
              case measure => have := HJ.out; omega
              case rel => exact ⟨j + 1, by have := HJ.out; omega, by go_num, below_drewN HB.out _, C1.out⟩
        · have E := Lib.hid (BAD.out (fun h => hok (GS.out.1 h).1))
          have HN := Lib.hid (mt ROK.out.2 hok)
          clear hok
          go_wp2_with fail
          by_cases h1 : p < 1
          · have d1 : decide (p < 1) = true := by simp; omega
            go_quiet (fail)
            go_wp2
            go_ret
            exact ⟨ret_bool E.out.symm, below_drewN HB.out _⟩
          · have d1 : decide (p < 1) = false := by simp; omega
            by_cases h2 : 281474976710656 < p
            · have d2 : decide (281474976710656 < p) = true := by simp; omega
              go_quiet (fail)
              go_wp2
              go_ret
              exact ⟨ret_bool E.out.symm, below_drewN HB.out _⟩
            · have d2 : decide (281474976710656 < p) = false := by simp; omega
              by_cases h3 : q < 1
              · have d3 : decide (q < 1) = true := by simp; omega
                go_quiet (fail)
                go_wp2
                go_ret
                exact ⟨ret_bool E.out.symm, below_drewN HB.out _⟩
              · have d3 : decide (q < 1) = false := by simp; omega
                by_cases h4 : 281474976710656 < q
                · have d4 : decide (281474976710656 < q) = true := by simp; omega
                  go_quiet (fail)
                  go_wp2
                  go_ret
                  exact ⟨ret_bool E.out.symm, below_drewN HB.out _⟩
                · have d4 : decide (281474976710656 < q) = false := by simp; omega
                  have e4 : IntKind.i64.wrap (p + q) = p + q := IntWalk.i64_in _ (by omega)
                  have e5 : IntKind.i64.wrap (p + q - 1) = p + q - 1 := IntWalk.i64_in _ (by omega)
                  have d6 : decide (281474976710656 < p + q - 1) = true := by simp; have := HN.out; omega
                  go_quiet (fail)
                  go_wp2
                  go_ret
                  exact ⟨ret_bool E.out.symm, below_drewN HB.out _⟩
      · have e : rightB l = true := by
          rw [HL.out]
          have := HC.out
          rw [List.take_of_length_le (by omega)] at this
          exact this
        have E := Lib.hid e
        clear e
        go_wp2
        go_ret
        exact ⟨ret_bool E.out.symm, HB.out⟩

theorem has_take {l : List (Int × Int)} {j : Nat} {r : Int × Int} {n : Int} (h : hasR (l.take j) n = false) (hr : l[j]? = some r) (hn : decide (r.1 ≤ n ∧ n < nxt r) = false) : hasR (l.take (j + 1)) n = false := by
  rw [List.take_add_one, hr, Option.toList_some, hasR_append, h, hasR_cons, hn, hasR_nil]; rfl
theorem has_at {l : List (Int × Int)} {j : Nat} {r : Int × Int} {n : Int} (hr : l[j]? = some r) (hn : decide (r.1 ≤ n ∧ n < nxt r) = true) : hasR l n = true := by
  unfold hasR
  exact List.any_eq_true.2 ⟨r, List.mem_of_getElem? hr, hn⟩
set_option maxRecDepth 100000 in
set_option maxHeartbeats 2000000 in
theorem rhas_ok (w : World) (v : Value) (l : List (Int × Int)) (n : Int) (hv : EV encP 2 w v l) (hlen : l.length ≤ 1000000000) (hc : Can 0 l) :
    Calls Tryz.prog 101 #[v, .int .i64 n] w fun e w' => e = .returned (.bool (hasR l n)) ∧ ∃ k, w.drewN k = w' := by
  obtain ⟨A, c, rfl⟩ := hv.shape
  have HV := Lib.hid hv
  have HR := Lib.hid (show ∀ j : Nat, ∀ r : Int × Int, l[j]? = some r → rokB r = true from fun j r hr => can_mem_take (i := j + 1) (can_take hc _) (by omega) hr)
  obtain ⟨h, hh⟩ : ∃ h, hasR l n = h := ⟨_, rfl⟩
  rw [hh]
  have HH := Lib.hid hh
  clear hv hc hh
  go_enter Tryz.func101, Tryz.ntmps101
  go_wp2_with fail
  go_loopg [5] l.length (fun k i wr => ∃ j : Nat, j + k = l.length ∧ i = .int .i64 j ∧ (∃ q, w.drewN q = wr) ∧ hasR (l.take j) n = false)
  case atStart => exact ⟨0, by omega, rfl, ⟨0, rfl⟩, by simp [hasR_nil]⟩
  case round =>
    obtain ⟨j, hj, rfl, ⟨nd, rfl⟩, hc⟩ := hrel
    have HJ := Lib.hid hj
    have HC := Lib.hid hc
    clear hj hc
    by_cases hlt : j < l.length
    · obtain ⟨b, off, c', hvv, hcc, rr⟩ := HV.out.row (by omega)
      simp only [Value.slice.injEq] at hvv
      obtain ⟨rfl, -, rfl⟩ := hvv
      obtain ⟨⟨p, q⟩, hr⟩ : ∃ r, l[j]? = some r := ⟨_, List.getElem?_eq_getElem hlt⟩
      obtain ⟨c0, c1⟩ := rr.prs hr
      dsimp only at c0 c1
      obtain ⟨h1, h2, h3, h4⟩ := rok_iff.1 (HR.out j _ hr)
      dsimp only at h1 h2 h3 h4
      have hd1 : decide (j < l.length) = true := by simp; omega
      have e4 : IntKind.i64.wrap (p + q) = p + q := IntWalk.i64_in _ (by omega)
      have NO := Lib.hid (show decide (p ≤ n ∧ n < p + q) = false → hasR (l.take (j + 1)) n = false from fun h => has_take HC.out hr h)
      have YES := Lib.hid (show decide (p ≤ n ∧ n < p + q) = true → h = true from fun h => by rw [← HH.out]; exact has_at hr h)
      clear hr
      go_wp2_with fail
      by_cases k1 : p ≤ n
      · have d1 : decide (p ≤ n) = true := by simp; omega
        by_cases k2 : n < p + q
        · have d2 : decide (n < p + q) = true := by simp; omega
          have E := Lib.hid (YES.out (by simp; omega))
          go_quiet (fail)
          clear e4
          go_wp2
          go_ret
          exact ⟨ret_bool E.out.symm, (by first | exact ⟨_, rfl⟩ | exact dn2 _ _ _)⟩
        · have d2 : decide (n < p + q) = false := by simp; omega
          have E := Lib.hid (NO.out (by simp; omega))
          go_quiet (fail)
          clear e4
          go_wp2
          go_roundg (gk - 1)
          case measure => have := HJ.out; omega
          case rel => exact ⟨j + 1, by have := HJ.out; omega, by go_num, (by first | exact ⟨_, rfl⟩ | exact dn2 _ _ _), E.out⟩
      · have d1 : decide (p ≤ n) = false := by simp; omega
        have E := Lib.hid (NO.out (by simp; omega))
        go_quiet (fail)
        clear e4
        go_wp2
        go_roundg (gk - 1)
        case measure => have := HJ.out; omega
        case rel => exact ⟨j + 1, by have := HJ.out; omega, by go_num, (by first | exact ⟨_, rfl⟩ | exact dn2 _ _ _), E.out⟩
    · have e : h = false := by
        rw [← HH.out]
        have := HC.out
        rwa [List.take_of_length_le (by omega)] at this
      have E := Lib.hid e
      clear e
      go_wp2
      go_ret
      exact ⟨ret_bool E.out.symm, nd, rfl⟩
end Go.Proofs.YtalophngappkhaaGreatDoor

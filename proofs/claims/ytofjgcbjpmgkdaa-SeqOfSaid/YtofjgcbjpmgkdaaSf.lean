/- package seq: Count, Has. -/
import Derived.Test.YtofjgcbjpmgkdaaSe
set_option linter.unusedVariables false
set_option linter.unusedSimpArgs false
set_option linter.unusedSectionVars false
namespace Go.Proofs.Ytofjgcbjpmgkdaa
open Go.RowKit Go.Shelf

theorem can_get : ∀ {l : List (Int × Int)} {lo : Int}, Can lo l → ∀ {i : Nat} {r : Int × Int}, l[i]? = some r → rokB r = true ∧ lo < r.1
  | [], _, _, i, r, h => by simp at h
  | s :: l, lo, hc, 0, r, h => by
    obtain ⟨a, b, c⟩ := can_cons.1 hc
    simp at h; subst h; exact ⟨b, a⟩
  | s :: l, lo, hc, i + 1, r, h => by
    obtain ⟨a, b, c⟩ := can_cons.1 hc
    have := can_get c (i := i) (r := r) (by simpa using h)
    have := nxt_gt b
    exact ⟨(can_get c (i := i) (r := r) (by simpa using h)).1, by omega⟩
theorem can_lt : ∀ {l : List (Int × Int)} {lo : Int}, Can lo l → ∀ {i j : Nat} {r s : Int × Int}, i < j → l[i]? = some r → l[j]? = some s → nxt r < s.1
  | [], _, _, i, j, r, s, _, h, _ => by simp at h
  | x :: l, lo, hc, 0, j, r, s, hij, h, h2 => by
    obtain ⟨a, b, c⟩ := can_cons.1 hc
    obtain ⟨j, rfl⟩ : ∃ j', j = j' + 1 := ⟨j - 1, by omega⟩
    simp at h; subst h
    exact (can_get c (i := j) (r := s) (by simpa using h2)).2
  | x :: l, lo, hc, i + 1, j, r, s, hij, h, h2 => by
    obtain ⟨a, b, c⟩ := can_cons.1 hc
    obtain ⟨j, rfl⟩ : ∃ j', j = j' + 1 := ⟨j - 1, by omega⟩
    exact can_lt c (i := i) (j := j) (by omega) (by simpa using h) (by simpa using h2)
theorem hasR_iff {l : List (Int × Int)} {n : Int} : hasR l n = true ↔ ∃ (i : Nat) (r : Int × Int), l[i]? = some r ∧ r.1 ≤ n ∧ n < nxt r := by
  unfold hasR
  rw [List.any_eq_true]
  constructor
  · rintro ⟨r, hr, h⟩
    obtain ⟨i, hi⟩ := List.getElem?_of_mem hr
    exact ⟨i, r, hi, by simpa using h⟩
  · rintro ⟨i, r, hi, h⟩
    exact ⟨r, List.mem_of_getElem? hi, by simpa using h⟩
/-- What the search for a number tells. -/
theorem search_has {l : List (Int × Int)} (hc : Can 0 l) (n : Int) (I : Nat) (hI : I ≤ l.length) (h1 : ∀ k r, k < I → l[k]? = some r → r.1 < max n 0) (h2 : ∀ k r, I ≤ k → l[k]? = some r → max n 0 ≤ r.1) :
    hasR l n = true ↔ (∃ r, l[I]? = some r ∧ r.1 = max n 0) ∨ (0 < I ∧ ∃ r, l[I - 1]? = some r ∧ n < nxt r) := by
  rw [hasR_iff]
  constructor
  · rintro ⟨k, r, hk, ha, hb⟩
    have hr := rok_iff.1 (can_get hc hk).1
    have hkl := (List.getElem?_eq_some_iff.1 hk).1
    rcases Nat.lt_or_ge k I with h | h
    · right
      refine ⟨by omega, ?_⟩
      obtain ⟨s, hs⟩ : ∃ s, l[I - 1]? = some s := ⟨_, List.getElem?_eq_getElem (by omega)⟩
      refine ⟨s, hs, ?_⟩
      rcases Nat.lt_or_ge k (I - 1) with h3 | h3
      · have := can_lt hc h3 hk hs
        have := nxt_gt (can_get hc hs).1
        omega
      · obtain rfl : k = I - 1 := by omega
        rw [hk] at hs; cases hs; exact hb
    · left
      have h3 := h2 k r h hk
      rcases Nat.lt_or_ge I k with h4 | h4
      · obtain ⟨s, hs⟩ : ∃ s, l[I]? = some s := ⟨_, List.getElem?_eq_getElem (by omega)⟩
        have h5 := can_lt hc h4 hs hk
        have h6 := nxt_gt (can_get hc hs).1
        have h7 := h2 I s (Nat.le_refl _) hs
        omega
      · obtain rfl : k = I := by omega
        exact ⟨r, hk, by omega⟩
  · rintro (⟨r, hr, he⟩ | ⟨h0, r, hr, hb⟩)
    · have h3 := rok_iff.1 (can_get hc hr).1
      exact ⟨I, r, hr, by omega, by unfold nxt; omega⟩
    · have h3 := rok_iff.1 (can_get hc hr).1
      have h4 := h1 (I - 1) r (by omega) hr
      exact ⟨I - 1, r, hr, by omega, hb⟩

theorem cmp_ok (w : World) (p q n : Int) (p1 : 1 ≤ p) (p2 : p ≤ 281474976710656) (n1 : -9223372036854775808 ≤ n) (n2 : n ≤ 9223372036854775807) :
    Calls Try.prog 52 #[.agg #[.int .i64 p, .int .i64 q], .int .i64 n] w fun e w' => e = .returned (.int .i64 (p - max n 0)) ∧ Below w.heap.size w w' := by
  have h1 : 0 ≤ max n 0 := by omega
  have h2 : max n 0 ≤ 9223372036854775807 := by omega
  go_enter Try.func52, Try.ntmps52
  go_wp2
  all_goals
    go_ret
    exact ⟨ret_int (by omega), (Below.refl _ _).alloc (Nat.le_refl _) _⟩

set_option maxRecDepth 100000 in
set_option maxHeartbeats 2000000 in
theorem bsearch_ok (w : World) (v : Value) (l : List (Int × Int)) (n : Int) (hv : EV encP 2 w v l) (hc : Can 0 l) (hlen : l.length ≤ 100000000) (n1 : -9223372036854775808 ≤ n) (n2 : n ≤ 9223372036854775807) :
    Calls Try.prog 51 #[v, .int .i64 n, .func (.func 52) #[] #[]] w fun e w' =>
      (∃ (I : Nat) (b : Bool), e = .returned (.tuple #[.int .i64 I, .bool b]) ∧ I ≤ l.length ∧ (∀ k r, k < I → l[k]? = some r → r.1 < max n 0) ∧ (∀ k r, I ≤ k → l[k]? = some r → max n 0 ≤ r.1) ∧ (b = true ↔ ∃ r, l[I]? = some r ∧ r.1 = max n 0)) ∧ Below w.heap.size w w' := by
  obtain ⟨A, c, rfl⟩ := hv.shape
  have HV := Lib.hid hv
  have HC := Lib.hid hc
  obtain ⟨nl, hnl⟩ : ∃ m, l.length = m := ⟨_, rfl⟩
  rw [hnl] at HV hlen ⊢
  have HNL := Lib.hid hnl
  clear hv hc hnl
  have eg := enters_of Try.func52 (by kernel_rfl) rfl
  go_enter Try.func51, Try.ntmps51
  go_wp2_with fail
  go_loopg [9, 10, 11] nl (fun k i j _ wr => ∃ (a b : Nat), b - a ≤ k ∧ a ≤ b ∧ b ≤ nl ∧ i = .int .i64 a ∧ j = .int .i64 b ∧ Below w.heap.size w wr ∧ (∀ k r, k < a → l[k]? = some r → r.1 < max n 0) ∧ (∀ k r, b ≤ k → l[k]? = some r → max n 0 ≤ r.1))
  case atStart => exact ⟨0, nl, by omega, by omega, Nat.le_refl _, rfl, rfl, Below.refl _ _, fun k r h => by omega, fun k r h hr => by have := (List.getElem?_eq_some_iff.1 hr).1; have := HNL.out; omega⟩
  case round =>
    obtain ⟨a, b, hk, hab, hbn, rfl, rfl, hb, hlo, hhi⟩ := hrel
    have HK := Lib.hid hk
    have HB := Lib.hid hb
    have HLO := Lib.hid hlo
    have HHI := Lib.hid hhi
    have hsz := hb.size
    clear hk hb hlo hhi
    by_cases hlt : a < b
    · obtain ⟨h, hh, h1, h2⟩ : ∃ h : Nat, ((a : Int) + (b : Int)) / 2 = (h : Int) ∧ a ≤ h ∧ h < b := ⟨(a + b) / 2, by omega, by omega, by omega⟩
      obtain ⟨bb, ob, cb, hvb, -, rb⟩ := HV.out.row (by have := HNL.out; omega)
      simp only [Value.slice.injEq] at hvb
      obtain ⟨rfl, -, rfl⟩ := hvb
      obtain ⟨⟨p, q⟩, hr⟩ : ∃ r, l[h]? = some r := ⟨_, List.getElem?_eq_getElem (by have := HNL.out; omega)⟩
      obtain ⟨x0, x1⟩ := (rb.below HB.out).prs hr
      dsimp only at x0 x1
      obtain ⟨q1, q2, _, _⟩ := rok_iff.1 (can_get HC.out hr).1
      dsimp only at q1 q2
      have HR := Lib.hid hr
      have hhn : (h : Int) < (nl : Int) := by omega
      clear hr rb
      go_wp2_with fail
      refine (cmp_ok _ p q n q1 q2 n1 n2).mono ?_
      rintro e w2 ⟨rfl, b2⟩
      have b2 := HB.out.trans (b2.mono hsz)
      by_cases hlt2 : p < max n 0
      · have d1 : decide (p - max n 0 < 0) = true := by simp; omega
        have hs : p - max n 0 < 0 := by omega
        go_wp2
        go_roundg (gk - 1)
        case measure => have := HK.out; omega
        case rel => exact ⟨h + 1, b, by have := HK.out; omega, by omega, hbn, by go_num, rfl, b2, fun k r hk hkr => by
            rcases Nat.lt_or_ge k h with h3 | h3
            · have h4 := HR.out
              have := can_lt HC.out h3 hkr h4
              have := nxt_gt (can_get HC.out hkr).1
              dsimp only at *; omega
            · obtain rfl : k = h := by omega
              rw [HR.out] at hkr; cases hkr; exact hlt2, HHI.out⟩
      · have d1 : decide (p - max n 0 < 0) = false := by simp; omega
        have hs : ¬ p - max n 0 < 0 := by omega
        go_wp2
        go_roundg (gk - 1)
        case measure => have := HK.out; omega
        case rel => exact ⟨a, h, by have := HK.out; omega, by omega, by omega, rfl, rfl, b2, HLO.out, fun k r hk hkr => by
            rcases Nat.lt_or_ge h k with h3 | h3
            · have h4 := HR.out
              have := can_lt HC.out h3 h4 hkr
              have := nxt_gt (can_get HC.out h4).1
              dsimp only at *; omega
            · obtain rfl : k = h := by omega
              rw [HR.out] at hkr; cases hkr; dsimp only; omega⟩
    · obtain rfl : a = b := by omega
      by_cases hal : a < nl
      · obtain ⟨bb, ob, cb, hvb, -, rb⟩ := HV.out.row (by have := HNL.out; omega)
        simp only [Value.slice.injEq] at hvb
        obtain ⟨rfl, -, rfl⟩ := hvb
        obtain ⟨⟨p, q⟩, hr⟩ : ∃ r, l[a]? = some r := ⟨_, List.getElem?_eq_getElem (by have := HNL.out; omega)⟩
        obtain ⟨x0, x1⟩ := (rb.below HB.out).prs hr
        dsimp only at x0 x1
        obtain ⟨q1, q2, _, _⟩ := rok_iff.1 (can_get HC.out hr).1
        dsimp only at q1 q2
        have HR := Lib.hid hr
        have dal : decide (a < nl) = true := by simp; omega
        clear hr rb hlt
        go_wp2_with fail
        refine (cmp_ok _ p q n q1 q2 n1 n2).mono ?_
        rintro e w2 ⟨rfl, b2⟩
        have b2 := HB.out.trans (b2.mono hsz)
        obtain ⟨bl, hbl⟩ : ∃ bl, ((p - max n 0) == 0) = bl := ⟨_, rfl⟩
        have HBL := Lib.hid hbl
        go_wp2
        go_ret2
        refine ⟨⟨a, _, rfl, by omega, HLO.out, HHI.out, ?_⟩, b2⟩
        rw [← HBL.out, beq_iff_eq]
        exact ⟨fun h => ⟨_, HR.out, by dsimp only; omega⟩, fun ⟨r, h, h2⟩ => by rw [HR.out] at h; cases h; dsimp only at h2; omega⟩
      · have dal : decide (a < nl) = false := by simp; omega
        clear hlt
        go_wp2
        go_ret2
        refine ⟨⟨a, false, rfl, by omega, HLO.out, HHI.out, ?_⟩, HB.out⟩
        simp only [Bool.false_eq_true, false_iff]
        rintro ⟨r, h, _⟩
        have := (List.getElem?_eq_some_iff.1 h).1
        have := HNL.out
        omega

def hasV (l : List (Int × Int)) (n : Int) : Bool := if rerr [l] = 0 then hasR l n else false
def cntV (l : List (Int × Int)) : Int := if rerr [l] = 0 then cntR l else 0
theorem rerr_one_can {l : List (Int × Int)} (h : rerr [l] = 0) : l.length ≤ 65536 ∧ Can 0 l := by
  rw [rerr_one] at h
  cases hr : rightB l with
  | true => exact right_iff.1 hr
  | false => rw [hr] at h; simp at h

theorem ret_bi {a a' : Bool} {k : IntKind} {b : Int} (h : a = a') : Ending.returned (.tuple #[.bool a, .int k b]) = .returned (.tuple #[.bool a', .int k b]) := by rw [h]
set_option maxHeartbeats 1000000 in
theorem has_ok (w : World) (v : Value) (l : List (Int × Int)) (n : Int) (hv : EV encP 2 w v l) (hlen : l.length ≤ 100000000) (n1 : -9223372036854775808 ≤ n) (n2 : n ≤ 9223372036854775807) :
    Calls Try.prog 31 #[v, .int .i64 n] w fun e w' => e = .returned (.tuple #[.bool (hasV l n), .int .i64 (rerr [l])]) ∧ Below w.heap.size w w' := by
  obtain ⟨A, c, rfl⟩ := hv.shape
  have RT := Lib.hid (right_one w _ l hv (by omega))
  have HV := Lib.hid hv
  have HH := Lib.hid (show hasV l n = if rerr [l] = 0 then hasR l n else false from rfl)
  by_cases he : rerr [l] = 0
  · obtain ⟨hl, hc⟩ := rerr_one_can he
    rw [he] at RT ⊢
    rw [he, if_pos rfl] at HH
    have HC := Lib.hid hc
    have BS := Lib.hid (fun (w1 : World) (h : Below w.heap.size w w1) => bsearch_ok w1 _ l n (hv.below h) hc hlen n1 n2)
    clear hc hv he
    generalize hasV l n = hV at HH ⊢
    go_enter Try.func31, Try.ntmps31
    go_wp2_with fail
    refine RT.out.mono ?_
    rintro e w1 ⟨rfl, b1⟩
    have s1 := b1.size
    have B1 := Lib.hid (BS.out w1 b1)
    go_wp2_with fail
    refine B1.out.mono ?_
    rintro e w2 ⟨⟨I, b, rfl, hI, hlo, hhi, hb⟩, b2⟩
    have b2 := b1.trans (b2.mono s1)
    have SH := Lib.hid (search_has HC.out n I hI hlo hhi)
    rw [← hb] at SH
    clear B1 BS RT hlo hhi hb b1
    cases b with
    | true =>
      have E := Lib.hid (show hV = true from by rw [HH.out]; exact SH.out.2 (.inl rfl))
      go_wp2
      go_ret2
      exact ⟨ret_bi E.out.symm, b2⟩
    | false =>
      rcases Nat.eq_zero_or_pos I with h0 | h0
      · have E := Lib.hid (show hV = false from by
          rw [HH.out]
          cases hx : hasR l n with
          | false => rfl
          | true => rcases SH.out.1 hx with h | ⟨h, _⟩
                    · cases h
                    · omega)
        have d0 : decide ((0 : Int) < (I : Int)) = false := by simp; omega
        have d0' : decide (0 < I) = false := by simp; omega
        go_wp2
        go_ret2
        exact ⟨ret_bi E.out.symm, b2⟩
      · obtain ⟨bb, ob, cb, hvb, -, rb⟩ := HV.out.row (by omega)
        simp only [Value.slice.injEq] at hvb
        obtain ⟨rfl, -, rfl⟩ := hvb
        obtain ⟨⟨p, q⟩, hr⟩ : ∃ r, l[I - 1]? = some r := ⟨_, List.getElem?_eq_getElem (by omega)⟩
        obtain ⟨x0, x1⟩ := (rb.below b2).prs hr
        dsimp only at x0 x1
        obtain ⟨q1, q2, q3, q4⟩ := rok_iff.1 (can_get HC.out hr).1
        dsimp only at q1 q2 q3 q4
        have d0 : decide ((0 : Int) < (I : Int)) = true := by simp; omega
        have d0' : decide (0 < I) = true := by simp; omega
        have hi1 : ((I : Int) - 1).toNat = I - 1 := by omega
        have hi2 : (1 : Int) ≤ (I : Int) := by omega
        have hi3 : (I : Int) - 1 < (l.length : Int) := by omega
        have E := Lib.hid (show hV = decide (n < p + q) from by
          rw [HH.out, Bool.eq_iff_iff, SH.out, decide_eq_true_eq]
          exact ⟨fun h => by
            rcases h with h | ⟨_, r, h1, h2⟩
            · cases h
            · rw [hr] at h1; cases h1; exact h2, fun h => .inr ⟨h0, _, hr, h⟩⟩)
        have s2 := b2.size
        clear hr rb
        go_wp2_with fail
        refine (next_ok _ p q (by omega) (by omega) (by omega) (by omega)).mono ?_
        rintro e w3 ⟨rfl, b3⟩
        have b3 := b2.trans (b3.mono s2)
        clear hi1 hi2 hi3 x0 x1 d0 d0'
        go_wp2
        go_ret2
        exact ⟨ret_bi E.out.symm, b3⟩
  · have hne : (rerr [l] != 0) = true := by simp [he]
    have h90 : rerr [l] = 90 := (rerr_vals [l]).resolve_left he
    rw [if_neg he] at HH
    rw [HH.out, h90]
    rw [h90] at RT
    clear he hne h90 HH hv
    go_enter Try.func31, Try.ntmps31
    go_wp2_with fail
    refine RT.out.mono ?_
    rintro e w1 ⟨rfl, b1⟩
    go_wp2
    go_ret2
    exact ⟨rfl, b1⟩

theorem cnt_take {l : List (Int × Int)} {j : Nat} {r : Int × Int} (h : l[j]? = some r) : cntR (l.take (j + 1)) = cntR (l.take j) + r.2 := by
  rw [List.take_add_one, h, Option.toList_some, cntR_append]
  simp [cntR]
theorem cnt_take_le {l : List (Int × Int)} (hc : Can 0 l) (j : Nat) : 0 ≤ cntR (l.take j) ∧ cntR (l.take j) ≤ 281474976710657 := by
  have h1 := cnt_le (can_take hc j)
  have h2 := end_le (by omega) (can_take hc j)
  omega

set_option maxHeartbeats 1000000 in
theorem count_ok (w : World) (v : Value) (l : List (Int × Int)) (hv : EV encP 2 w v l) (hlen : l.length ≤ 100000000) :
    Calls Try.prog 26 #[v] w fun e w' => e = .returned (.tuple #[.int .i64 (cntV l), .int .i64 (rerr [l])]) ∧ Below w.heap.size w w' := by
  obtain ⟨A, c, rfl⟩ := hv.shape
  have RT := Lib.hid (fun (w1 : World) (h : Below w.heap.size w w1) => right_one w1 _ l (hv.below h) (by omega))
  have HV := Lib.hid hv
  have HH := Lib.hid (show cntV l = if rerr [l] = 0 then cntR l else 0 from rfl)
  have R9 := Lib.hid (rerr_vals [l])
  have RC := Lib.hid (@rerr_one_can l)
  generalize cntV l = cV at HH ⊢
  generalize rerr [l] = re at *
  clear hv
  go_enter Try.func26, Try.ntmps26
  go_wp2_with fail
  go_loopg [4, 6, 10] l.length (fun k n _ i wr => ∃ (j : Nat) (z : Int), j + k = l.length ∧ i = .int .i64 j ∧ n = .int .i64 z ∧ Below w.heap.size w wr ∧ (re = 0 → z = cntR (l.take j)))
  case atStart => exact ⟨0, 0, by omega, rfl, rfl, Below.refl _ _, fun _ => by simp [cntR]⟩
  case round =>
    obtain ⟨j, z, hj, rfl, rfl, hb, hz⟩ := hrel
    have HJ := Lib.hid hj
    have HB := Lib.hid hb
    have HZ := Lib.hid hz
    have hsz := hb.size
    clear hj hb hz
    by_cases hlt : j < l.length
    · obtain ⟨bb, ob, cb, hvb, -, rb⟩ := HV.out.row (by omega)
      simp only [Value.slice.injEq] at hvb
      obtain ⟨rfl, -, rfl⟩ := hvb
      obtain ⟨⟨p, q⟩, hr⟩ : ∃ r, l[j]? = some r := ⟨_, List.getElem?_eq_getElem hlt⟩
      obtain ⟨x0, x1⟩ := (rb.below HB.out).prs hr
      dsimp only at x0 x1
      have HR := Lib.hid hr
      clear hr rb
      go_wp2
      go_roundg (gk - 1)
      case measure => have := HJ.out; omega
      case rel => exact ⟨j + 1, _, by have := HJ.out; omega, by go_num, rfl, HB.out.alloc hsz _, fun h => by
          have h1 := (RC.out h).2
          have h2 := cnt_take_le h1 (j + 1)
          rw [cnt_take HR.out] at h2 ⊢
          rw [HZ.out h]
          exact IntWalk.wrap64_in _ (by dsimp only at *; omega)⟩
    · have s1 := HB.out.size
      have RR := Lib.hid (RT.out wr HB.out)
      clear RT
      rcases R9.out with rfl | rfl
      · have E := Lib.hid (show z = cV from by
          rw [HH.out, if_pos rfl, HZ.out rfl, List.take_of_length_le (by omega)])
        clear HH HZ
        go_wp2_with fail
        refine RR.out.mono ?_
        rintro e w2 ⟨rfl, b2⟩
        have b2 := HB.out.trans (b2.mono s1)
        go_wp2
        go_ret2
        exact ⟨ret_two E.out rfl, b2⟩
      · have E := Lib.hid (show cV = 0 from by rw [HH.out, if_neg (by simp)])
        clear HH HZ
        go_wp2_with fail
        refine RR.out.mono ?_
        rintro e w2 ⟨rfl, b2⟩
        have b2 := HB.out.trans (b2.mono s1)
        go_wp2
        go_ret2
        exact ⟨ret_two E.out.symm rfl, b2⟩
end Go.Proofs.Ytofjgcbjpmgkdaa

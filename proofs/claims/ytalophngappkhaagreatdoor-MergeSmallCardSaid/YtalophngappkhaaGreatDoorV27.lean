/- The reference: Right, has | Plain laws for the reference's borders and Both | The reference: borders | The reference: Both | The reference: Missing, First. -/
import Derived.Test.YtalophngappkhaaGreatDoorV18
import Derived.Deep.CutBlock
import Derived.StillTailTactics
set_option linter.unusedVariables false
set_option linter.unusedSimpArgs false
set_option linter.unusedSectionVars false
namespace Go.Proofs.YtalophngappkhaaGreatDoor
open Go.RowKit Go.Shelf

set_option maxRecDepth 100000 in
set_option maxHeartbeats 2000000 in
theorem rright_ok (w : World) (v : Value) (l : List (Int × Int)) (hv : EV encP 2 w v l) (hlen : l.length ≤ 1000000000) :
  Calls Tryz.prog 79 #[v] w fun e w' => e = .returned (.bool (rightB l)) ∧ Below w.heap.size w w' := by
 obtain ⟨A, c, rfl⟩ := hv.shape
 by_cases h6 : 65536 < l.length
 ·have e : rightB l = false := by unfold rightB; simp; intro h; omega
  rw [e]
  have k1 : decide (65536 < (l.length : Int)) = true := by simp; omega
  clear hv e
  go_enter Tryz.func79, Tryz.ntmps79
  go_wp2
  go_ret
  exact ⟨rfl, Below.refl _ _⟩
 ·have k1 : decide (65536 < (l.length : Int)) = false := by simp; omega
  have HL := Lib.hid (show rightB l = canB 0 l from by unfold rightB; rw [show decide (l.length ≤ 65536) = true from by simp; omega]; rfl)
  have HV := Lib.hid hv
  clear hv
  go_enter Tryz.func79, Tryz.ntmps79
  go_wp2_with fail
  go_loopg [3] l.length (fun k i wr => ∃ j : Nat, j + k = l.length ∧ i = .int .i64 j ∧ Below w.heap.size w wr ∧ Can 0 (l.take j))
  case atStart => exact ⟨0, by omega, rfl, Below.refl _ _, can_nil _⟩
  case round =>
   obtain ⟨j, hj, rfl, hb, hc⟩ := hrel
   have HJ := Lib.hid hj
   have HB := Lib.hid hb
   have HC := Lib.hid hc
   have hsz := hb.size
   clear hj hb hc k1
   by_cases hlt : j < l.length
   ·obtain ⟨b, off, c', hvv, hcc, rr⟩ := HV.out.row (by omega)
    simp only [Value.slice.injEq] at hvv
    obtain ⟨rfl, -, rfl⟩ := hvv
    obtain ⟨⟨p, q⟩, hr⟩ : ∃ r, l[j]? = some r := ⟨_, List.getElem?_eq_getElem hlt⟩
    obtain ⟨c0, c1⟩ := (rr.below HB.out).prs hr
    dsimp only at c0 c1
    have GS := Lib.hid (good_step HC.out hr)
    have ROK := Lib.hid (@rok_iff (p, q))
    have BAD := Lib.hid (show ¬ Can 0 (l.take (j + 1)) → rightB l = false from fun h => by
     rw [HL.out]
     cases hx : canB 0 l with
     | false => rfl
     | true => exact absurd (can_take hx (j + 1)) h)
    have hd1 : decide (j < l.length) = true := by simp; omega
    clear hr
    by_cases hok : rokB (p, q) = true
    ·obtain ⟨h1, h2, h3, h4⟩ := ROK.out.1 hok
     have d1 : decide (p < 1) = false := by simp; omega
     have d2 : decide (281474976710656 < p) = false := by simp; omega
     have d3 : decide (q < 1) = false := by simp; omega
     have d4 : decide (281474976710656 < q) = false := by simp; omega
     have e4 : IntKind.i64.wrap (p + q) = p + q := IntWalk.i64_in _ (by omega)
     have e5 : IntKind.i64.wrap (p + q - 1) = p + q - 1 := IntWalk.i64_in _ (by omega)
     have d6 : decide (281474976710656 < p + q - 1) = false := by simp; omega
     have HOK := Lib.hid hok
     clear hok
     go_wp2_with fail
     go_quiet (fail)
     clear d1 d2 d3 d4 d6 e4 e5
     go_wp2_with fail
     rcases Nat.eq_zero_or_pos j with hj0 | hj0
     ·have d5 : decide ((0 : Int) < (j : Int)) = false := by simp; omega
      have d5' : decide (0 < j) = false := by simp; omega
      have C1 := Lib.hid (GS.out.2 ⟨HOK.out, fun h => by omega⟩)
      go_quiet (fail)
      clear d5 d5'
      go_wp2
      go_roundg (gk - 1)
      case measure => have := HJ.out; omega
      case rel => exact ⟨j + 1, by have := HJ.out; omega, by go_num, below_drewN HB.out _, C1.out⟩
     ·obtain ⟨⟨p', q'⟩, hs⟩ : ∃ r, l[j - 1]? = some r := ⟨_, List.getElem?_eq_getElem (by omega)⟩
      have hsok := can_mem_take HC.out (j := j - 1) (by omega) hs
      obtain ⟨s1, s2, s3, s4⟩ := rok_iff.1 hsok
      obtain ⟨x0, x1⟩ := (rr.below HB.out).prs hs
      dsimp only at x0 x1 s1 s2 s3 s4
      have d5 : decide ((0 : Int) < (j : Int)) = true := by simp; omega
      have d5' : decide (0 < j) = true := by simp; omega
      have e6 : IntKind.i64.wrap ((j : Int) - 1) = (j : Int) - 1 := IntWalk.i64_in _ (by omega)
      have e7 : (0 : Int) ≤ (j : Int) - 1 := by omega
      have e8 : ((j : Int) - 1).toNat = j - 1 := by omega
      have e9 : (j : Int) - 1 < (l.length : Int) := by omega
      have e10 : (1 : Int) ≤ (j : Int) := by omega
      have e11 : 1 ≤ j := by omega
      have e12 : IntKind.i64.wrap (p' + q') = p' + q' := IntWalk.i64_in _ (by omega)
      have e13 : IntKind.i64.wrap (p' + q' + 1) = p' + q' + 1 := IntWalk.i64_in _ (by omega)
      have GN := Lib.hid (show (Can 0 (l.take (j + 1)) ↔ p' + q' < p) from by
       rw [GS.out]
       exact ⟨fun h => h.2 hj0 _ hs, fun h => ⟨HOK.out, fun _ t ht => by rw [hs] at ht; cases ht; exact h⟩⟩)
      clear hs hsok
      by_cases hle : p < p' + q' + 1
      ·have dl : decide (p < p' + q' + 1) = true := by simp; omega
       have E := Lib.hid (BAD.out (fun h => by have := GN.out.1 h; omega))
       go_quiet (fail)
       clear e6 e7 e8 e9 e10 e11 e12 e13
       go_wp2
       go_ret
       exact ⟨ret_bool E.out.symm, below_drewN (below_drewN HB.out _) _⟩
      ·have dl : decide (p < p' + q' + 1) = false := by simp; omega
       have C1 := Lib.hid (GN.out.2 (by omega))
       go_quiet (fail)
       clear e6 e7 e8 e9 e10 e11 e12 e13
       go_wp2
       go_roundg (gk - 1)
       case measure => have := HJ.out; omega
       case rel => exact ⟨j + 1, by have := HJ.out; omega, by go_num, below_drewN HB.out _, C1.out⟩
    ·have E := Lib.hid (BAD.out (fun h => hok (GS.out.1 h).1))
     have HN := Lib.hid (mt ROK.out.2 hok)
     clear hok
     go_wp2_with fail
     by_cases h1 : p < 1
     ·have d1 : decide (p < 1) = true := by simp; omega
      go_quiet (fail)
      go_wp2
      go_ret
      exact ⟨ret_bool E.out.symm, below_drewN HB.out _⟩
     ·have d1 : decide (p < 1) = false := by simp; omega
      by_cases h2 : 281474976710656 < p
      ·have d2 : decide (281474976710656 < p) = true := by simp; omega
       go_quiet (fail)
       go_wp2
       go_ret
       exact ⟨ret_bool E.out.symm, below_drewN HB.out _⟩
      ·have d2 : decide (281474976710656 < p) = false := by simp; omega
       by_cases h3 : q < 1
       ·have d3 : decide (q < 1) = true := by simp; omega
        go_quiet (fail)
        go_wp2
        go_ret
        exact ⟨ret_bool E.out.symm, below_drewN HB.out _⟩
       ·have d3 : decide (q < 1) = false := by simp; omega
        by_cases h4 : 281474976710656 < q
        ·have d4 : decide (281474976710656 < q) = true := by simp; omega
         go_quiet (fail)
         go_wp2
         go_ret
         exact ⟨ret_bool E.out.symm, below_drewN HB.out _⟩
        ·have d4 : decide (281474976710656 < q) = false := by simp; omega
         have e4 : IntKind.i64.wrap (p + q) = p + q := IntWalk.i64_in _ (by omega)
         have e5 : IntKind.i64.wrap (p + q - 1) = p + q - 1 := IntWalk.i64_in _ (by omega)
         have d6 : decide (281474976710656 < p + q - 1) = true := by simp; have := HN.out; omega
         go_quiet (fail)
         go_wp2
         go_ret
         exact ⟨ret_bool E.out.symm, below_drewN HB.out _⟩
   ·have e : rightB l = true := by
     rw [HL.out]
     have := HC.out
     rw [List.take_of_length_le (by omega)] at this
     exact this
    have E := Lib.hid e
    clear e
    go_wp2
    go_ret
    exact ⟨ret_bool E.out.symm, HB.out⟩

theorem has_take {l : List (Int × Int)} {j : Nat} {r : Int × Int} {n : Int} (h : hasR (l.take j) n = false) (hr : l[j]? = some r) (hn : decide (r.1 ≤ n ∧ n < nxt r) = false) : hasR (l.take (j + 1)) n = false := by
 rw [List.take_add_one, hr, Option.toList_some, hasR_append, h, hasR_cons, hn, hasR_nil]; rfl
theorem has_at {l : List (Int × Int)} {j : Nat} {r : Int × Int} {n : Int} (hr : l[j]? = some r) (hn : decide (r.1 ≤ n ∧ n < nxt r) = true) : hasR l n = true := by
 unfold hasR
 exact List.any_eq_true.2 ⟨r, List.mem_of_getElem? hr, hn⟩
set_option maxRecDepth 100000 in
set_option maxHeartbeats 2000000 in
theorem rhas_ok (w : World) (v : Value) (l : List (Int × Int)) (n : Int) (hv : EV encP 2 w v l) (hlen : l.length ≤ 1000000000) (hc : Can 0 l) :
  Calls Tryz.prog 101 #[v, .int .i64 n] w fun e w' => e = .returned (.bool (hasR l n)) ∧ ∃ k, w.drewN k = w' := by
 obtain ⟨A, c, rfl⟩ := hv.shape
 have HV := Lib.hid hv
 have HR := Lib.hid (show ∀ j : Nat, ∀ r : Int × Int, l[j]? = some r → rokB r = true from fun j r hr => can_mem_take (i := j + 1) (can_take hc _) (by omega) hr)
 obtain ⟨h, hh⟩ : ∃ h, hasR l n = h := ⟨_, rfl⟩
 rw [hh]
 have HH := Lib.hid hh
 clear hv hc hh
 go_enter Tryz.func101, Tryz.ntmps101
 go_wp2_with fail
 go_loopg [5] l.length (fun k i wr => ∃ j : Nat, j + k = l.length ∧ i = .int .i64 j ∧ (∃ q, w.drewN q = wr) ∧ hasR (l.take j) n = false)
 case atStart => exact ⟨0, by omega, rfl, ⟨0, rfl⟩, by simp [hasR_nil]⟩
 case round =>
  obtain ⟨j, hj, rfl, ⟨nd, rfl⟩, hc⟩ := hrel
  have HJ := Lib.hid hj
  have HC := Lib.hid hc
  clear hj hc
  by_cases hlt : j < l.length
  ·obtain ⟨b, off, c', hvv, hcc, rr⟩ := HV.out.row (by omega)
   simp only [Value.slice.injEq] at hvv
   obtain ⟨rfl, -, rfl⟩ := hvv
   obtain ⟨⟨p, q⟩, hr⟩ : ∃ r, l[j]? = some r := ⟨_, List.getElem?_eq_getElem hlt⟩
   obtain ⟨c0, c1⟩ := rr.prs hr
   dsimp only at c0 c1
   obtain ⟨h1, h2, h3, h4⟩ := rok_iff.1 (HR.out j _ hr)
   dsimp only at h1 h2 h3 h4
   have hd1 : decide (j < l.length) = true := by simp; omega
   have e4 : IntKind.i64.wrap (p + q) = p + q := IntWalk.i64_in _ (by omega)
   have NO := Lib.hid (show decide (p ≤ n ∧ n < p + q) = false → hasR (l.take (j + 1)) n = false from fun h => has_take HC.out hr h)
   have YES := Lib.hid (show decide (p ≤ n ∧ n < p + q) = true → h = true from fun h => by rw [← HH.out]; exact has_at hr h)
   clear hr
   go_wp2_with fail
   by_cases k1 : p ≤ n
   ·have d1 : decide (p ≤ n) = true := by simp; omega
    by_cases k2 : n < p + q
    ·have d2 : decide (n < p + q) = true := by simp; omega
     have E := Lib.hid (YES.out (by simp; omega))
     go_quiet (fail)
     clear e4
     go_wp2
     go_ret
     exact ⟨ret_bool E.out.symm, (by first | exact ⟨_, rfl⟩ | exact dn2 _ _ _)⟩
    ·have d2 : decide (n < p + q) = false := by simp; omega
     have E := Lib.hid (NO.out (by simp; omega))
     go_quiet (fail)
     clear e4
     go_wp2
     go_roundg (gk - 1)
     case measure => have := HJ.out; omega
     case rel => exact ⟨j + 1, by have := HJ.out; omega, by go_num, (by first | exact ⟨_, rfl⟩ | exact dn2 _ _ _), E.out⟩
   ·have d1 : decide (p ≤ n) = false := by simp; omega
    have E := Lib.hid (NO.out (by simp; omega))
    go_quiet (fail)
    clear e4
    go_wp2
    go_roundg (gk - 1)
    case measure => have := HJ.out; omega
    case rel => exact ⟨j + 1, by have := HJ.out; omega, by go_num, (by first | exact ⟨_, rfl⟩ | exact dn2 _ _ _), E.out⟩
  ·have e : h = false := by
    rw [← HH.out]
    have := HC.out
    rwa [List.take_of_length_le (by omega)] at this
   have E := Lib.hid e
   clear e
   go_wp2
   go_ret
   exact ⟨ret_bool E.out.symm, nd, rfl⟩
end Go.Proofs.YtalophngappkhaaGreatDoor
namespace Go.Proofs.YtalophngappkhaaGreatDoor

def bdr (l : List (Int × Int)) : List Int := l.flatMap (fun r => [r.1, nxt r])
theorem bdr_mem {l : List (Int × Int)} {x : Int} : x ∈ bdr l ↔ ∃ r ∈ l, x = r.1 ∨ x = nxt r := by
 unfold bdr; rw [List.mem_flatMap]; simp
theorem has_const {p n : Int} (hpn : p ≤ n) : ∀ {l : List (Int × Int)}, (∀ x ∈ bdr l, ¬ (p < x ∧ x ≤ n)) → hasR l n = hasR l p
 | [], _ => rfl
 | r :: l, h => by
  have h1 := h r.1 (bdr_mem.2 ⟨r, List.mem_cons_self, .inl rfl⟩)
  have h2 := h (nxt r) (bdr_mem.2 ⟨r, List.mem_cons_self, .inr rfl⟩)
  have h3 := has_const hpn (l := l) (fun x hx => h x (by
   obtain ⟨s, hs, e⟩ := bdr_mem.1 hx
   exact bdr_mem.2 ⟨s, List.mem_cons_of_mem _ hs, e⟩))
  rw [hasR_cons, hasR_cons, h3]
  congr 1
  rw [Bool.eq_iff_iff, decide_eq_true_eq, decide_eq_true_eq]
  omega
theorem has_mem {l : List (Int × Int)} {n : Int} (h : hasR l n = true) : ∃ r ∈ l, r.1 ≤ n ∧ n < nxt r := by
 unfold hasR at h
 obtain ⟨r, hr, h⟩ := List.any_eq_true.1 h
 exact ⟨r, hr, by simpa using h⟩
theorem has_none {l : List (Int × Int)} {n : Int} (h : (∀ x ∈ bdr l, n < x) ∨ (∀ x ∈ bdr l, x ≤ n)) : hasR l n = false := by
 cases hb : hasR l n with
 | false => rfl
 | true =>
  obtain ⟨r, hr, h1, h2⟩ := has_mem hb
  rcases h with h | h
  ·have := h r.1 (bdr_mem.2 ⟨r, hr, .inl rfl⟩); omega
  ·have := h (nxt r) (bdr_mem.2 ⟨r, hr, .inr rfl⟩); omega

/-- The smallest border past the last one. -/
def minG (last : Int) (bs : List Int) : Int := bs.foldl (fun m x => if last < x ∧ x < m then x else m) 281474976710658
theorem minG_snoc (last : Int) (bs : List Int) (x : Int) : minG last (bs ++ [x]) = if last < x ∧ x < minG last bs then x else minG last bs := by
 unfold minG; rw [List.foldl_append]; rfl
theorem minG_spec (last : Int) (bs : List Int) : (minG last bs = 281474976710658 ∨ (minG last bs ∈ bs ∧ last < minG last bs)) ∧ (∀ x ∈ bs, last < x → minG last bs ≤ x) ∧ minG last bs ≤ 281474976710658 := by
 rcases List.eq_nil_or_concat bs with rfl | ⟨l, y, rfl⟩
 ·exact ⟨.inl rfl, fun x h => by simp at h, Int.le_refl _⟩
 ·rw [List.concat_eq_append, minG_snoc]
  obtain ⟨h1, h2, h3⟩ := minG_spec last l
  by_cases hc : last < y ∧ y < minG last l
  ·rw [if_pos hc]
   refine ⟨.inr ⟨by simp, hc.1⟩, fun x hx hl => ?_, by omega⟩
   rcases List.mem_append.1 hx with hx | hx
   ·have := h2 x hx hl; omega
   ·simp at hx; omega
  ·rw [if_neg hc]
   refine ⟨h1.imp id (fun h => ⟨List.mem_append_left _ h.1, h.2⟩), fun x hx hl => ?_, h3⟩
   rcases List.mem_append.1 hx with hx | hx
   ·exact h2 x hx hl
   ·simp at hx; omega
termination_by bs.length
decreasing_by all_goals (simp_all <;> omega)

structure Asc (bs o : List Int) (last : Int) : Prop where
 pw : o.Pairwise (· < ·)
 mem : ∀ x, x ∈ o ↔ x ∈ bs ∧ x ≤ last
theorem asc0 {bs : List Int} (h : ∀ x ∈ bs, 1 ≤ x) : Asc bs [] 0 := ⟨List.Pairwise.nil, fun x => by
 constructor
 ·intro h; simp at h
 ·rintro ⟨h1, h2⟩; have := h x h1; omega⟩
theorem Asc.step {bs o : List Int} {last : Int} (h : Asc bs o last) (hm : minG last bs ≤ 281474976710657) : Asc bs (o ++ [minG last bs]) (minG last bs) ∧ last < minG last bs ∧ minG last bs ∈ bs := by
 obtain ⟨h1, h2, h3⟩ := minG_spec last bs
 rcases h1 with h1 | ⟨h1, h4⟩
 ·omega
 refine ⟨⟨List.pairwise_append.2 ⟨h.pw, List.pairwise_singleton _ _, fun a ha b hb => ?_⟩, fun x => ?_⟩, h4, h1⟩
 ·simp at hb; have := ((h.mem a).1 ha).2; omega
 ·rw [List.mem_append, h.mem x, List.mem_singleton]
  constructor
  ·rintro (⟨a, b⟩ | rfl)
   ·exact ⟨a, by omega⟩
   ·exact ⟨h1, Int.le_refl _⟩
  ·rintro ⟨a, b⟩
   by_cases hx : x ≤ last
   ·exact .inl ⟨a, hx⟩
   ·have := h2 x a (by omega); exact .inr (by omega)
theorem Asc.done {bs o : List Int} {last : Int} (h : Asc bs o last) (hb : ∀ x ∈ bs, x ≤ 281474976710657) (hm : ¬ minG last bs ≤ 281474976710657) : ∀ x, x ∈ o ↔ x ∈ bs := by
 intro x
 rw [h.mem x]
 refine ⟨fun h => h.1, fun hx => ⟨hx, ?_⟩⟩
 obtain ⟨h1, h2, h3⟩ := minG_spec last bs
 by_cases hl : x ≤ last
 ·exact hl
 ·have := h2 x hx (by omega); have := hb x hx; omega

/-- The reference's Both, up to the border p. -/
structure Rb (tk : Bool → Bool → Bool) (a b : List (Int × Int)) (p : Int) (out : List (Int × Int)) : Prop where
 can : Can 0 out
 le : endR 0 out ≤ p
 has : ∀ n, n < p → hasR out n = tk (hasR a n) (hasR b n)
theorem rb0 {tk : Bool → Bool → Bool} {a b : List (Int × Int)} {p : Int} (ht : tk false false = false) (hp : 0 ≤ p) (ha : ∀ x ∈ bdr a, p ≤ x) (hb : ∀ x ∈ bdr b, p ≤ x) : Rb tk a b p [] :=
 ⟨can_nil _, hp, fun n hn => by
  rw [has_none (l := a) (.inl fun x hx => by have := ha x hx; omega), has_none (l := b) (.inl fun x hx => by have := hb x hx; omega), ht]; rfl⟩
theorem Rb.step {tk : Bool → Bool → Bool} {a b : List (Int × Int)} {p q : Int} {out : List (Int × Int)} (h : Rb tk a b p out) (hp : 1 ≤ p) (hpq : p < q) (hq : q ≤ 281474976710657)
  (ha : ∀ x ∈ bdr a, ¬ (p < x ∧ x < q)) (hb : ∀ x ∈ bdr b, ¬ (p < x ∧ x < q)) :
  Rb tk a b q (if tk (hasR a p) (hasR b p) = true then addR out (p, q - p) else out) := by
 have hin : ∀ n, p ≤ n → n < q → tk (hasR a n) (hasR b n) = tk (hasR a p) (hasR b p) := fun n h1 h2 => by
  rw [has_const (l := a) h1 (fun x hx => by have := ha x hx; omega), has_const (l := b) h1 (fun x hx => by have := hb x hx; omega)]
 cases ht : tk (hasR a p) (hasR b p) with
 | true =>
  rw [if_pos rfl]
  obtain ⟨a1, a2, a3⟩ := addR_spec h.can (p := p) (c := q - p) h.le hp (by omega) (by omega)
  refine ⟨a1, by omega, fun n hn => ?_⟩
  rw [a3 n]
  by_cases hl : n < p
  ·rw [h.has n hl, show decide (p ≤ n ∧ n < p + (q - p)) = false from by simp; omega, Bool.or_false]
  ·rw [hin n (by omega) hn, ht, show decide (p ≤ n ∧ n < p + (q - p)) = true from by simp; omega, Bool.or_true]
 | false =>
  rw [if_neg (by simp)]
  refine ⟨h.can, by have := h.le; omega, fun n hn => ?_⟩
  by_cases hl : n < p
  ·exact h.has n hl
  ·rw [hin n (by omega) hn, ht]
   exact has_end h.can (by have := h.le; omega)
theorem Rb.done {tk : Bool → Bool → Bool} {a b : List (Int × Int)} {p : Int} {out : List (Int × Int)} (h : Rb tk a b p out) (ht : tk false false = false) (ha : ∀ x ∈ bdr a, x ≤ p) (hb : ∀ x ∈ bdr b, x ≤ p) (n : Int) :
  hasR out n = tk (hasR a n) (hasR b n) := by
 by_cases hl : n < p
 ·exact h.has n hl
 ·rw [has_none (l := a) (.inr fun x hx => by have := ha x hx; omega), has_none (l := b) (.inr fun x hx => by have := hb x hx; omega), ht]
  exact has_end h.can (by have := h.le; omega)
/-- What the reference's Both gives is what package seq's sweep gives. -/
theorem rb_both {tk : Bool → Bool → Bool} {a b out : List (Int × Int)} (ht : tk false false = false) (ha : Can 0 a) (hb : Can 0 b) (hc : Can 0 out) (h : ∀ n, hasR out n = tk (hasR a n) (hasR b n)) : out = bothL tk a b := by
 obtain ⟨h1, h2⟩ := both_spec (take := tk) ht ha hb
 exact can_unique hc h1 (fun n => by rw [h n, h2 n])
end Go.Proofs.YtalophngappkhaaGreatDoor
namespace Go.Proofs.YtalophngappkhaaGreatDoor
open Go.RowKit Go.Shelf

theorem bdr_snoc (l : List (Int × Int)) (r : Int × Int) : bdr (l ++ [r]) = bdr l ++ [r.1, nxt r] := by unfold bdr; rw [List.flatMap_append]; simp
theorem bdr_take {l : List (Int × Int)} {j : Nat} {r : Int × Int} (h : l[j]? = some r) : bdr (l.take (j + 1)) = bdr (l.take j) ++ [r.1, nxt r] := by
 rw [List.take_add_one, h, Option.toList_some, bdr_snoc]
theorem bdr_len (l : List (Int × Int)) : (bdr l).length = 2 * l.length := by
 induction l with
 | nil => rfl
 | cons r l ih => show (r.1 :: nxt r :: bdr l).length = _; simp [ih]; omega
theorem new_ints2 {w : World} {p q : Int} {e : TypeId} : EV encI 1 (w.alloc (.cells #[.int .i64 p, .int .i64 q] e)) (.slice (some ⟨w.heap.size, 0, none⟩) 2 2) [p, q] := EV.newL encI_len rfl rfl (Nat.le_refl _)

theorem filt_lt {last m : Int} (h : last < m) : ∀ {bs : List Int}, m ∈ bs → (bs.filter (fun x => decide (m < x))).length < (bs.filter (fun x => decide (last < x))).length
 | [], hm => by simp at hm
 | y :: bs, hm => by
  have mono : ∀ l : List Int, (l.filter (fun x => decide (m < x))).length ≤ (l.filter (fun x => decide (last < x))).length := fun l => by
   induction l with
   | nil => simp
   | cons z l ih =>
    simp only [List.filter_cons]
    by_cases h1 : m < z
    ·rw [if_pos (by simpa using h1), if_pos (by simp; omega)]; simpa using ih
    ·rw [if_neg (by simpa using h1)]; split <;> first | (simp only [List.length_cons]; omega) | omega
  simp only [List.filter_cons]
  by_cases hy : y = m
  ·subst hy
   rw [if_neg (by simp), if_pos (by simpa using h)]
   have := mono bs; simp only [List.length_cons]; omega
  ·have := filt_lt h (bs := bs) (by rcases List.mem_cons.1 hm with e | e; exact absurd e.symm hy; exact e)
   by_cases h1 : m < y
   ·rw [if_pos (by simpa using h1), if_pos (by simp; omega)]; simpa using this
   ·rw [if_neg (by simpa using h1)]; split <;> first | (simp only [List.length_cons]; omega) | omega
set_option maxRecDepth 100000 in
set_option maxHeartbeats 2000000 in
theorem rborders_ok (w : World) (v u : Value) (a b : List (Int × Int)) (hv : EV encP 2 w v a) (hu : EV encP 2 w u b) (hla : a.length ≤ 65536) (hlb : b.length ≤ 65536) (hca : Can 0 a) (hcb : Can 0 b) :
  Calls Tryz.prog 100 #[v, u] w fun e w' => ∃ r o, e = .returned r ∧ OV encI 1 3 w.heap.size w' r o ∧ o.Pairwise (· < ·) ∧ (∀ x, x ∈ o ↔ x ∈ bdr a ++ bdr b) ∧ o.length ≤ 262144 ∧ Below w.heap.size w w' := by
 obtain ⟨A1, c1, rfl⟩ := hv.shape
 obtain ⟨A2, c2, rfl⟩ := hu.shape
 have HV := Lib.hid hv
 have HU := Lib.hid hu
 have RA := Lib.hid (show ∀ j : Nat, ∀ r : Int × Int, a[j]? = some r → rokB r = true from fun j r hr => can_mem_take (i := j + 1) (can_take hca _) (by omega) hr)
 have RB := Lib.hid (show ∀ j : Nat, ∀ r : Int × Int, b[j]? = some r → rokB r = true from fun j r hr => can_mem_take (i := j + 1) (can_take hcb _) (by omega) hr)
 have BS := Lib.hid (show ∀ x ∈ bdr a ++ bdr b, 1 ≤ x ∧ x ≤ 281474976710657 from fun x hx => by
  rcases List.mem_append.1 hx with hx | hx
  ·obtain ⟨r, hr, e⟩ := bdr_mem.1 hx
   obtain ⟨i, hi⟩ := List.getElem?_of_mem hr
   obtain ⟨h1, h2, h3, h4⟩ := rok_iff.1 (RA.out i r hi)
   have : nxt r = r.1 + r.2 := rfl
   omega
  ·obtain ⟨r, hr, e⟩ := bdr_mem.1 hx
   obtain ⟨i, hi⟩ := List.getElem?_of_mem hr
   obtain ⟨h1, h2, h3, h4⟩ := rok_iff.1 (RB.out i r hi)
   have : nxt r = r.1 + r.2 := rfl
   omega)
 clear hv hu hca hcb
 go_enter Tryz.func100, Tryz.ntmps100
 go_wp2_with fail
 go_loopg [5, 6] a.length (fun k s i wr => ∃ j : Nat, j + k = a.length ∧ i = .int .i64 j ∧ OV encI 1 3 w.heap.size wr s (bdr (a.take j)) ∧ Below w.heap.size w wr)
 case atStart => exact ⟨0, by omega, rfl, OV.nil _ _, Below.refl _ _⟩
 case round =>
  obtain ⟨j, hj, rfl, ho, hb⟩ := hrel
  have HJ := Lib.hid hj
  have HB := Lib.hid hb
  have HO := Lib.hid ho
  have hsz := hb.size
  clear hj hb ho
  by_cases hlt : j < a.length
  ·obtain ⟨bb, ob, cb, hvb, -, rb⟩ := HV.out.row (by omega)
   simp only [Value.slice.injEq] at hvb
   obtain ⟨rfl, -, rfl⟩ := hvb
   obtain ⟨⟨p, q⟩, hr⟩ : ∃ r, a[j]? = some r := ⟨_, List.getElem?_eq_getElem hlt⟩
   obtain ⟨x0, x1⟩ := (rb.below HB.out).prs hr
   dsimp only at x0 x1
   obtain ⟨h1, h2, h3, h4⟩ := rok_iff.1 (RA.out j _ hr)
   dsimp only at h1 h2 h3 h4
   have e4 : IntKind.i64.wrap (p + q) = p + q := IntWalk.i64_in _ (by omega)
   have hl2 : (bdr (a.take j)).length ≤ 131072 := by rw [bdr_len, List.length_take]; omega
   have hd1 : decide (j < a.length) = true := by simp; omega
   have BT := Lib.hid (bdr_take hr)
   clear hr rb
   go_wp2_with fail
   go_region_law (go_loud (refine step_app elemI encI_len encI_one (by rfl) (.tmp 18) (.tmp 35) (by rfl) u5 (.slice (some ⟨wr.heap.size, 0, none⟩) 2 2) (by rfl) (by rfl) (by exact (HO.out.alloc _).drewN _) (by exact (new_ints2 (p := p) (q := p + q))) (by simp; omega) (by simp; omega) ?_; intro v1 w1 o1 g1; have b1 : Below w.heap.size w w1 := (below_drewN (HB.out.alloc hsz _) _).grown g1 (by simp; omega) (fun k hk => (HO.out.block k hk).1); clear g1))
   all_goals
    clear e4
    go_wp2
    go_roundg (gk - 1)
    case measure => have := HJ.out; omega
    case rel => exact ⟨j + 1, by have := HJ.out; omega, by go_num, by rw [BT.out]; exact o1, b1⟩
  ·obtain rfl : j = a.length := by have := HJ.out; omega
   have HO2 := Lib.hid (show OV encI 1 3 w.heap.size wr u5 (bdr a) from by have := HO.out; rwa [List.take_of_length_le (by omega)] at this)
   clear HO HJ
   go_wp2_with fail
   go_loopg [5, 7] b.length (fun k s i wr => ∃ j : Nat, j + k = b.length ∧ i = .int .i64 j ∧ OV encI 1 3 w.heap.size wr s (bdr a ++ bdr (b.take j)) ∧ Below w.heap.size w wr)
   case atStart => exact ⟨0, by omega, rfl, by simpa [bdr] using HO2.out, HB.out⟩
   case round =>
    obtain ⟨j, hj, rfl, ho, hb⟩ := hrel
    have HJ := Lib.hid hj
    have HB := Lib.hid hb
    have HO := Lib.hid ho
    have hsz := hb.size
    clear hj hb ho
    by_cases hlt : j < b.length
    ·obtain ⟨bb, ob, cb, hvb, -, rb⟩ := HU.out.row (by omega)
     simp only [Value.slice.injEq] at hvb
     obtain ⟨rfl, -, rfl⟩ := hvb
     obtain ⟨⟨p, q⟩, hr⟩ : ∃ r, b[j]? = some r := ⟨_, List.getElem?_eq_getElem hlt⟩
     obtain ⟨x0, x1⟩ := (rb.below HB.out).prs hr
     dsimp only at x0 x1
     obtain ⟨h1, h2, h3, h4⟩ := rok_iff.1 (RB.out j _ hr)
     dsimp only at h1 h2 h3 h4
     have e4 : IntKind.i64.wrap (p + q) = p + q := IntWalk.i64_in _ (by omega)
     have hl2 : (bdr a ++ bdr (b.take j)).length ≤ 262144 := by rw [List.length_append, bdr_len, bdr_len, List.length_take]; omega
     have hd1 : decide (j < b.length) = true := by simp; omega
     have BT := Lib.hid (bdr_take hr)
     clear hr rb
     go_wp2_with fail
     go_region_law (go_loud (refine step_app elemI encI_len encI_one (by rfl) (.tmp 43) (.tmp 60) (by rfl) u5 (.slice (some ⟨wr.heap.size, 0, none⟩) 2 2) (by rfl) (by rfl) (by exact (HO.out.alloc _).drewN _) (by exact (new_ints2 (p := p) (q := p + q))) (by have := hl2; simp at this ⊢; omega) (by simp; omega) ?_; intro v1 w1 o1 g1; have b1 : Below w.heap.size w w1 := (below_drewN (HB.out.alloc hsz _) _).grown g1 (by simp; omega) (fun k hk => (HO.out.block k hk).1); clear g1))
     all_goals
      clear e4
      go_wp2
      go_roundg (gk - 1)
      case measure => have := HJ.out; omega
      case rel => exact ⟨j + 1, by have := HJ.out; omega, by go_num, by rw [BT.out, ← List.append_assoc]; exact o1, b1⟩
    ·obtain rfl : j = b.length := by have := HJ.out; omega
     have HO3 := Lib.hid (show OV encI 1 3 w.heap.size wr u5 (bdr a ++ bdr b) from by have := HO.out; rwa [List.take_of_length_le (by omega)] at this)
     clear HO HJ
     have HBR := Lib.hid HB.out
     have hbs1 : ∀ x ∈ bdr a ++ bdr b, 1 ≤ x ∧ x ≤ 281474976710657 := BS.out
     have hbl : (bdr a ++ bdr b).length ≤ 262144 := by rw [List.length_append, bdr_len, bdr_len]; omega
     have hev := HO3.out.ev encI_len
     obtain ⟨bs, hbs⟩ : ∃ bs, bdr a ++ bdr b = bs := ⟨_, rfl⟩
     rw [hbs] at hbs1 hbl hev
     have HBE := Lib.hid hbs
     clear hbs
     obtain ⟨nA, hnA⟩ : ∃ n, bs.length = n := ⟨_, rfl⟩
     have hna : nA ≤ 262144 := by rw [← hnA]; exact hbl
     obtain ⟨A3, c3, he⟩ := hev.shape
     rw [hnA] at he
     subst he
     have hszw := HB.out.size
     have HEV := Lib.hid hev
     have HBS := Lib.hid hbs1
     have HNA := Lib.hid hnA
     clear HO2 HO3 hev hbs1 hnA HB hbl
     obtain ⟨ws, rfl⟩ : ∃ ws, ws = wr := ⟨_, rfl⟩
     go_wp2_with fail
     go_loopg [8, 9, 10, 11] (bs.filter (fun x => decide (0 < x))).length (fun k o la _ _ wn => ∃ (os : List Int) (last : Int), la = .int .i64 last ∧ Asc bs os last ∧ k = (bs.filter (fun x => decide (last < x))).length ∧ os.length + k ≤ 262144 ∧ 0 ≤ last ∧ OV encI 1 3 ws.heap.size wn o os ∧ Below ws.heap.size ws wn)
     case atStart => exact ⟨[], 0, rfl, asc0 (fun x hx => (HBS.out x hx).1), rfl, by
      have := List.length_filter_le (fun x => decide ((0 : Int) < x)) bs
      have := HNA.out
      simp; omega, by omega, OV.nil _ _, Below.refl _ _⟩
     case round =>
      obtain ⟨os, last, rfl, hasc, hk, hln, hl0, ho, hb⟩ := hrel
      have HASC := Lib.hid hasc
      have HK := Lib.hid hk
      have HLN := Lib.hid hln
      have HO := Lib.hid ho
      have HB := Lib.hid hb
      have hszn := hb.size
      clear hasc hk hln ho hb
      go_wp2_with fail
      go_loopg [10, 11] nA (fun k nx i wq => ∃ j : Nat, j + k = nA ∧ i = .int .i64 j ∧ nx = .int .i64 (minG last (bs.take j)) ∧ wr = wq)
      case atStart => exact ⟨0, by omega, rfl, rfl, rfl⟩
      case round =>
       obtain ⟨j, hj, rfl, rfl, rfl⟩ := hrel
       have HJ := Lib.hid hj
       clear hj
       by_cases hlt : j < nA
       ·obtain ⟨bb, ob, cb, hvb, -, rb⟩ := (HEV.out.below HB.out).row (by rw [HNA.out]; omega)
        simp only [Value.slice.injEq] at hvb
        obtain ⟨rfl, -, rfl⟩ := hvb
        obtain ⟨x, hx, cx⟩ := rb.get1 (i := j) (by rw [HNA.out]; exact hlt)
        have HM := Lib.hid (show minG last (bs.take (j + 1)) = if last < x ∧ x < minG last (bs.take j) then x else minG last (bs.take j) from by rw [List.take_add_one, hx, Option.toList_some, minG_snoc])
        clear hx rb
        generalize minG last (bs.take j) = m at HM ⊢
        by_cases k1 : last < x
        ·by_cases k2 : x < m
         ·have E := Lib.hid (HM.out.trans (if_pos ⟨k1, k2⟩))
          have d1 : decide (last < x) = true := by rw [decide_eq_true_eq]; exact k1
          have d2 : decide (x < m) = true := by rw [decide_eq_true_eq]; exact k2
          go_wp2
          go_roundg (gk - 1)
          case measure => have := HJ.out; omega
          case rel => exact ⟨j + 1, by have := HJ.out; omega, by go_num, by rw [E.out], rfl⟩
         ·have E := Lib.hid (HM.out.trans (if_neg (fun h => k2 h.2)))
          have d1 : decide (last < x) = true := by rw [decide_eq_true_eq]; exact k1
          have d2 : decide (x < m) = false := by rw [decide_eq_false_iff_not]; exact k2
          go_wp2
          go_roundg (gk - 1)
          case measure => have := HJ.out; omega
          case rel => exact ⟨j + 1, by have := HJ.out; omega, by go_num, by rw [E.out], rfl⟩
        ·have E := Lib.hid (HM.out.trans (if_neg (fun h => k1 h.1)))
         have d1 : decide (last < x) = false := by rw [decide_eq_false_iff_not]; exact k1
         go_wp2
         go_roundg (gk - 1)
         case measure => have := HJ.out; omega
         case rel => exact ⟨j + 1, by have := HJ.out; omega, by go_num, by rw [E.out], rfl⟩
       ·have E := Lib.hid (show minG last (bs.take j) = minG last bs from by rw [List.take_of_length_le (by rw [HNA.out]; omega)])
        generalize minG last (bs.take j) = m at E ⊢
        have HSP := Lib.hid (minG_spec last bs)
        by_cases k1 : 281474976710657 < m
        ·have d1 : decide (281474976710657 < m) = true := by rw [decide_eq_true_eq]; exact k1
         have DN := Lib.hid (HASC.out.done (fun x hx => (HBS.out x hx).2) (by rw [← E.out]; omega))
         have BF := Lib.hid (HBR.out.trans (HB.out.mono hszw))
         have OF := Lib.hid (HO.out.base_le hszw)
         go_wp2
         go_ret
         exact ⟨_, os, rfl, OF.out, HASC.out.pw, by rw [HBE.out]; exact DN.out, by have := HLN.out; omega, BF.out⟩
        ·have d1 : decide (281474976710657 < m) = false := by rw [decide_eq_false_iff_not]; exact k1
         have ST := Lib.hid (HASC.out.step (by rw [← E.out]; omega))
         rw [← E.out] at ST
         have hol : os.length ≤ 262144 := by have := HLN.out; omega
         go_wp2_with (at_builtin; refine wpList_app elemI encI_len encI_one rfl (.tmp 89) (.tmp 91) rfl _ _ rfl rfl (HO.out.alloc _) (new_one (z := m)) ?q1 ?q2 ?_)
         case q1 => first | omega | (simp; omega)
         case q2 => (try simp); omega
         intro v' x2 o3 g2
         have b3 := Lib.hid ((HB.out.alloc hszn _).grown g2 (by simp; omega) (fun k hk => (HO.out.block k hk).1))
         clear g2
         go_wp2
         go_roundg (bs.filter (fun x => decide (m < x))).length
         case measure => rw [HK.out]; exact filt_lt ST.out.2.1 ST.out.2.2
         case rel => exact ⟨os ++ [m], m, rfl, ST.out.1, rfl, by have := HLN.out; have := HK.out; have := filt_lt ST.out.2.1 ST.out.2.2; simp; omega, by have := ST.out.2.1; omega, o3, b3.out⟩
end Go.Proofs.YtalophngappkhaaGreatDoor
namespace Go.Proofs.YtalophngappkhaaGreatDoor
open Go.RowKit Go.Shelf

theorem bdr_rng {a : List (Int × Int)} (ha : Can 0 a) : ∀ x ∈ bdr a, 1 ≤ x ∧ x ≤ 281474976710657 := fun x hx => by
 obtain ⟨r, hr, e⟩ := bdr_mem.1 hx
 obtain ⟨i, hi⟩ := List.getElem?_of_mem hr
 obtain ⟨h1, h2, h3, h4⟩ := rok_iff.1 (can_get ha hi).1
 have : nxt r = r.1 + r.2 := rfl
 omega
/-- All borders of two sets, in order. -/
structure Brd (a b : List (Int × Int)) (o : List Int) : Prop where
 pw : o.Pairwise (· < ·)
 mem : ∀ x, x ∈ o ↔ x ∈ bdr a ++ bdr b
 ca : Can 0 a
 cb : Can 0 b
section
variable {tk : Bool → Bool → Bool} {a b : List (Int × Int)} {o : List Int} {out : List (Int × Int)} {j : Nat} {p q : Int}
theorem Brd.lt (h : Brd a b o) {i j : Nat} {x y : Int} (hij : i < j) (hx : o[i]? = some x) (hy : o[j]? = some y) : x < y := by
 have h1 := (List.getElem?_eq_some_iff.1 hx)
 have h2 := (List.getElem?_eq_some_iff.1 hy)
 obtain ⟨a1, rfl⟩ := h1
 obtain ⟨a2, rfl⟩ := h2
 exact List.pairwise_iff_getElem.1 h.pw i j a1 a2 hij
theorem Brd.rng (h : Brd a b o) {x : Int} (hx : x ∈ o) : 1 ≤ x ∧ x ≤ 281474976710657 := by
 rcases List.mem_append.1 ((h.mem x).1 hx) with hx | hx
 ·exact bdr_rng h.ca x hx
 ·exact bdr_rng h.cb x hx
theorem Brd.ina (h : Brd a b o) {x : Int} (hx : x ∈ bdr a) : x ∈ o := (h.mem x).2 (List.mem_append_left _ hx)
theorem Brd.inb (h : Brd a b o) {x : Int} (hx : x ∈ bdr b) : x ∈ o := (h.mem x).2 (List.mem_append_right _ hx)
theorem Brd.first (h : Brd a b o) (hp : o[0]? = some p) : ∀ x ∈ o, p ≤ x := fun x hx => by
 obtain ⟨i, hi⟩ := List.getElem?_of_mem hx
 rcases Nat.eq_zero_or_pos i with rfl | h0
 ·rw [hp] at hi; cases hi; exact Int.le_refl _
 ·exact Int.le_of_lt (h.lt h0 hp hi)
theorem Brd.gap (h : Brd a b o) (hp : o[j]? = some p) (hq : o[j + 1]? = some q) : ∀ x ∈ o, ¬ (p < x ∧ x < q) := fun x hx ⟨h1, h2⟩ => by
 obtain ⟨i, hi⟩ := List.getElem?_of_mem hx
 rcases Nat.lt_trichotomy i j with hl | rfl | hl
 ·have := h.lt hl hi hp; omega
 ·rw [hp] at hi; cases hi; omega
 ·rcases Nat.lt_or_ge (j + 1) i with h3 | h3
  ·have := h.lt h3 hq hi; omega
  ·obtain rfl : i = j + 1 := by omega
   rw [hq] at hi; cases hi; omega
theorem Brd.last (h : Brd a b o) (hp : o[j]? = some p) (hj : o.length ≤ j + 1) : ∀ x ∈ o, x ≤ p := fun x hx => by
 obtain ⟨i, hi⟩ := List.getElem?_of_mem hx
 have hil := (List.getElem?_eq_some_iff.1 hi).1
 rcases Nat.lt_or_ge i j with hl | hl
 ·exact Int.le_of_lt (h.lt hl hi hp)
 ·obtain rfl : i = j := by omega
  rw [hp] at hi; cases hi; exact Int.le_refl _
/-- Where j borders have been passed. -/
def RbI (tk : Bool → Bool → Bool) (a b : List (Int × Int)) (o : List Int) (j : Nat) (out : List (Int × Int)) : Prop :=
 out.length ≤ j ∧ ((j = 0 ∧ out = []) ∨ ∃ p, o[j]? = some p ∧ Rb tk a b p out)
theorem RbI.at_ (h : RbI tk a b o j out) (ht : tk false false = false) (hb : Brd a b o) (hp : o[j]? = some p) : Rb tk a b p out := by
 rcases h.2 with ⟨rfl, rfl⟩ | ⟨p', hp', hr⟩
 ·exact rb0 ht (by have := hb.rng (List.mem_of_getElem? hp); omega) (fun x hx => hb.first hp x (hb.ina hx)) (fun x hx => hb.first hp x (hb.inb hx))
 ·rw [hp] at hp'; cases hp'; exact hr
theorem RbI.next (h : RbI tk a b o j out) (ht : tk false false = false) (hb : Brd a b o) (hp : o[j]? = some p) (hq : o[j + 1]? = some q) :
  1 ≤ p ∧ p < q ∧ q ≤ 281474976710657 ∧ Can 0 out ∧ endR 0 out ≤ p ∧ RbI tk a b o (j + 1) (if tk (hasR a p) (hasR b p) = true then addR out (p, q - p) else out) := by
 have h1 := h.at_ ht hb hp
 have hp1 := (hb.rng (List.mem_of_getElem? hp)).1
 have hq1 := (hb.rng (List.mem_of_getElem? hq)).2
 have hlt := hb.lt (Nat.lt_succ_self j) hp hq
 refine ⟨hp1, hlt, hq1, h1.can, h1.le, ?_, .inr ⟨q, hq, h1.step hp1 hlt hq1 (fun x hx => hb.gap hp hq x (hb.ina hx)) (fun x hx => hb.gap hp hq x (hb.inb hx))⟩⟩
 have := h.1
 have := addR_len out (p, q - p)
 split <;> omega
theorem RbI.done (h : RbI tk a b o j out) (ht : tk false false = false) (hb : Brd a b o) (hj : o.length ≤ j + 1) : out = bothL tk a b := by
 rcases Nat.eq_zero_or_pos o.length with h0 | h0
 ·have ho : o = [] := List.eq_nil_of_length_eq_zero h0
  subst ho
  have hout : out = [] := by
   rcases h.2 with ⟨_, rfl⟩ | ⟨p, hp, _⟩
   ·rfl
   ·simp at hp
  subst hout
  refine rb_both ht hb.ca hb.cb (can_nil _) fun n => ?_
  rw [has_none (l := a) (.inl fun x hx => by have := hb.ina hx; simp at this), has_none (l := b) (.inl fun x hx => by have := hb.inb hx; simp at this), ht]; rfl
 ·have hjl : j < o.length := by
   rcases h.2 with ⟨rfl, _⟩ | ⟨p, hp, _⟩
   ·exact h0
   ·exact (List.getElem?_eq_some_iff.1 hp).1
  have hp : o[j]? = some o[j] := List.getElem?_eq_getElem hjl
  have h1 := h.at_ ht hb hp
  exact rb_both ht hb.ca hb.cb h1.can fun n => h1.done ht (fun x hx => hb.last hp hj x (hb.ina hx)) (fun x hx => hb.last hp hj x (hb.inb hx)) n
end
/-- What the reference's Both is asked to take. -/
def tkT (t : Int) (x y : Bool) : Bool := (x && !y && decide (t % 2 = 1)) || (!x && y && decide (t / 2 % 2 = 1)) || (x && y && decide (t / 4 = 1))
theorem tkT_ff (t : Int) : tkT t false false = false := rfl
theorem tkT7 : tkT 7 = tkU := by funext x y; cases x <;> cases y <;> rfl
theorem tkT1 : tkT 1 = tkW := by funext x y; cases x <;> cases y <;> rfl
set_option maxRecDepth 100000 in
set_option maxHeartbeats 4000000 in
theorem rboth_ok (w : World) (v u : Value) (a b : List (Int × Int)) (t : Int) (hv : EV encP 2 w v a) (hu : EV encP 2 w u b) (hla : a.length ≤ 100000000) (hlb : b.length ≤ 100000000) (ht0 : 0 ≤ t) (ht7 : t ≤ 7) :
  Calls Tryz.prog 75 #[v, u, .int .i64 t] w fun e w' => ∃ r, e = .returned (.tuple #[r, .int .i64 (rerr [a, b])]) ∧ OV encP 2 137 w.heap.size w' r (if rerr [a, b] = 0 then bothL (tkT t) a b else []) ∧ Below w.heap.size w w' := by
 have RA := Lib.hid (rright_ok w v a hv (by omega))
 have RB := Lib.hid (fun (w2 : World) (h : Below w.heap.size w w2) => rright_ok w2 u b (hu.below h) (by omega))
 have HE := Lib.hid (show rerr [a, b] = if rightB a = true ∧ rightB b = true then 0 else 90 from by
  by_cases h : rightB a = true ∧ rightB b = true
  ·rw [if_pos h]; exact rerr_two.2 h
  ·rw [if_neg h]; exact (rerr_vals _).resolve_left (fun x => h (rerr_two.1 x)))
 obtain ⟨A1, c1, rfl⟩ := hv.shape
 obtain ⟨A2, c2, rfl⟩ := hu.shape
 have HV := Lib.hid hv
 have HU := Lib.hid hu
 cases hra : rightB a with
 | false =>
  rw [hra] at HE RA
  rw [HE.out, if_neg (by simp), if_neg (by simp)]
  clear hv hu hra RB
  go_enter Tryz.func75, Tryz.ntmps75
  go_wp2_with fail
  refine RA.out.mono ?_
  rintro e w1 ⟨rfl, b1⟩
  go_wp2
  go_ret2
  exact ⟨_, rfl, OV.nil _ _, b1⟩
 | true =>
 cases hrb : rightB b with
 | false =>
  rw [hra, hrb] at HE
  rw [hra] at RA
  rw [hrb] at RB
  rw [HE.out, if_neg (by simp), if_neg (by simp)]
  clear hv hu hra hrb
  go_enter Tryz.func75, Tryz.ntmps75
  go_wp2_with fail
  refine RA.out.mono ?_
  rintro e w1 ⟨rfl, b1⟩
  have s1 := b1.size
  go_wp2_with fail
  refine (RB.out w1 b1).mono ?_
  rintro e w2 ⟨rfl, b2⟩
  have b2 := b1.trans (b2.mono s1)
  go_wp2
  go_ret2
  exact ⟨_, rfl, OV.nil _ _, b2⟩
 | true =>
  have hca := (right_iff.1 hra)
  have hcb := (right_iff.1 hrb)
  have BO := Lib.hid (fun (w2 : World) (h : Below w.heap.size w w2) => rborders_ok w2 _ _ a b (hv.below h) (hu.below h) hca.1 hcb.1 hca.2 hcb.2)
  have HA := Lib.hid (fun (w2 : World) (h : Below w.heap.size w w2) (n : Int) (k : Nat) => (rhas_ok (w2.drewN k) _ a n (hv.below (below_drewN h _)) (by omega) hca.2).mono (fun e w' h' => (show e = .returned (.bool (hasR a n)) ∧ ∃ m, w' = (w2.drewN k).drewN m from ⟨h'.1, h'.2.imp fun m e => e.symm⟩)))
  have HB := Lib.hid (fun (w2 : World) (h : Below w.heap.size w w2) (n : Int) (k : Nat) => (rhas_ok (w2.drewN k) _ b n (hu.below (below_drewN h _)) (by omega) hcb.2).mono (fun e w' h' => (show e = .returned (.bool (hasR b n)) ∧ ∃ m, w' = (w2.drewN k).drewN m from ⟨h'.1, h'.2.imp fun m e => e.symm⟩)))
  have CA := Lib.hid hca.2
  have CB := Lib.hid hcb.2
  rw [hra, hrb] at HE
  rw [hra] at RA
  rw [hrb] at RB
  rw [HE.out, if_pos (by simp), if_pos rfl]
  clear hv hu hra hrb hca hcb HE
  obtain ⟨res, hres⟩ : ∃ res, bothL (tkT t) a b = res := ⟨_, rfl⟩
  rw [hres]
  have HRES := Lib.hid hres
  clear hres
  go_enter Tryz.func75, Tryz.ntmps75
  go_wp2_with fail
  refine RA.out.mono ?_
  rintro e w1 ⟨rfl, b1⟩
  have s1 := b1.size
  go_wp2_with fail
  refine (RB.out w1 b1).mono ?_
  rintro e w2 ⟨rfl, b2⟩
  have b2 := b1.trans (b2.mono s1)
  have s2 := b2.size
  clear RA RB
  go_wp2_with fail
  refine (BO.out w2 b2).mono ?_
  rintro e w3 ⟨r, o, rfl, o3, hpw, hmem, hol, b3⟩
  have BRD := Lib.hid (show Brd a b o from ⟨hpw, hmem, CA.out, CB.out⟩)
  have b3 := b2.trans (b3.mono s2)
  have s3 := b3.size
  have B3 := Lib.hid b3
  have ev3 := o3.ev encI_len
  obtain ⟨A3, c3, rfl⟩ := ev3.shape
  obtain ⟨N, hN⟩ : ∃ n, o.length = n := ⟨_, rfl⟩
  rw [hN] at ev3 hol ⊢
  have HN := Lib.hid hN
  have EV3 := Lib.hid ev3
  clear BO b1 b2 b3 hpw hmem o3 ev3 hN
  go_wp2_with fail
  go_loopg [9, 10] N (fun k vo i wr => ∃ (j : Nat) (out : List (Int × Int)), j + k = N ∧ i = .int .i64 j ∧ RbI (tkT t) a b o j out ∧ OV encP 2 137 w3.heap.size wr vo out ∧ Below w3.heap.size w3 wr)
  case atStart => exact ⟨0, [], by omega, rfl, ⟨Nat.zero_le _, .inl ⟨rfl, rfl⟩⟩, OV.nil _ _, Below.refl _ _⟩
  case round =>
   obtain ⟨j, out, hj, rfl, hi, ho, hb⟩ := hrel
   have HJ := Lib.hid hj
   have HI := Lib.hid hi
   have HO := Lib.hid ho
   have HBB := Lib.hid hb
   have hsz := hb.size
   have hjN : j ≤ N := by omega
   have hol2 : out.length ≤ 262144 := by have := hi.1; omega
   clear hj hi ho hb
   by_cases hlt : j + 1 < N
   ·obtain ⟨p, hp⟩ : ∃ p, o[j]? = some p := ⟨_, List.getElem?_eq_getElem (by rw [HN.out]; omega)⟩
    obtain ⟨q, hq⟩ : ∃ q, o[j + 1]? = some q := ⟨_, List.getElem?_eq_getElem (by rw [HN.out]; omega)⟩
    obtain ⟨bb, ob, cb, hvb, -, rb⟩ := (EV3.out.below HBB.out).row (by rw [HN.out]; omega)
    simp only [Value.slice.injEq] at hvb
    obtain ⟨rfl, -, rfl⟩ := hvb
    obtain ⟨p', hp', x0⟩ := rb.get1 (i := j) (by rw [HN.out]; omega)
    obtain ⟨q', hq', x1⟩ := rb.get1 (i := j + 1) (by rw [HN.out]; omega)
    rw [hp] at hp'
    rw [hq] at hq'
    cases hp'
    cases hq'
    obtain ⟨p1, pq, q1, hcan, hend, hnx⟩ := HI.out.next (tkT_ff t) BRD.out hp hq
    have NX := Lib.hid hnx
    have bw : Below w.heap.size w wr := B3.out.trans (HBB.out.mono s3)
    have HA2 := Lib.hid (fun k => HA.out wr bw p k)
    have HB2 := Lib.hid (fun k => HB.out wr bw p k)
    have CAN := Lib.hid hcan
    have HEND := Lib.hid hend
    clear rb hp hq hcan hend hnx bw
    have hd1 : decide (j + 1 < N) = true := by rw [decide_eq_true_eq]; exact hlt
    have hjl : j < N := by omega
    have hd0 : decide (j < N) = true := by rw [decide_eq_true_eq]; exact hjl
    have e1 : IntKind.i64.wrap ((j : Int) + 1) = (j : Int) + 1 := IntWalk.i64_in _ (by omega)
    have e2 : (0 : Int) ≤ (j : Int) + 1 := by omega
    have e3 : ((j : Int) + 1).toNat = j + 1 := by omega
    generalize hasR a p = x at HA2 NX
    generalize hasR b p = y at HB2 NX
    go_wp2_with fail
    go_quiet ((go_at_call 101; first | (with_reducible exact Calls.quiet_of (HA2.out _)) | (with_reducible exact Calls.quiet_of (HB2.out _))))
    have HQ := Lib.hid (show OV encP 2 137 w3.heap.size (wr.drewN nq) u9 out ∧ Below w3.heap.size w3 (wr.drewN nq) from ⟨HO.out, below_drewN HBB.out _⟩)
    clear HA2 HB2 HO HBB
    have x0 : (wr.drewN nq).cell? ⟨bb, ob + j, none⟩ = some (.int .i64 p) := x0
    have x1 : (wr.drewN nq).cell? ⟨bb, ob + (j + 1), none⟩ = some (.int .i64 q) := x1
    generalize wr.drewN nq = wn at HQ x0 x1 ⊢
    go_upto_region 9 with fail
    go_cut [13] (fun vis wx => vis = .bool (tkT t x y) ∧ wn = wx)
    case first =>
     cases x <;> cases y
     all_goals go_wp2_with fail
     all_goals go_meet
     all_goals
      exact ⟨congrArg Value.bool (by first | rfl | (unfold tkT; simp; done) | (unfold tkT; simp; assumption) | (unfold tkT; rw [Bool.eq_iff_iff]; simp)), rfl⟩
    case rest =>
     obtain ⟨rfl, rfl⟩ := hcut
     generalize tkT t x y = is at NX ⊢
     cases is with
     | false =>
      have NX2 := Lib.hid (show RbI (tkT t) a b o (j + 1) out from by have := NX.out; rwa [if_neg (by simp)] at this)
      clear NX
      go_wp2_with fail
      go_roundg (gk - 1)
      case measure => have := HJ.out; omega
      case rel => exact ⟨j + 1, out, by have := HJ.out; omega, by go_num, NX2.out, HQ.out.1, HQ.out.2⟩
     | true =>
      have NX2 := Lib.hid (show RbI (tkT t) a b o (j + 1) (addR out (p, q - p)) from by have := NX.out; rwa [if_pos rfl] at this)
      have e4 : IntKind.i64.wrap (q - p) = q - p := IntWalk.i64_in _ (by omega)
      clear NX
      by_cases hm : ∃ (l' : List (Int × Int)) (s : Int × Int), out = l' ++ [s] ∧ nxt s = p
      ·obtain ⟨l', s, rfl, heq⟩ := hm
       obtain ⟨k1, k2, k3⟩ := can_snoc.1 CAN.out
       obtain ⟨s1, s2⟩ := s
       obtain ⟨k4, k5, k6, k7⟩ := rok_iff.1 k3
       have he := HEND.out
       rw [endR_append] at he
       have he2 : s1 + s2 ≤ p := he
       dsimp only at k4 k5 k6 k7
       have hl : (l' ++ [(s1, s2)]).length = l'.length + 1 := by simp
       obtain ⟨g, cap, hvv, hcap, hg1, hg2⟩ := HQ.out.1.row_form encP_len hl (by omega)
       subst hvv
       rw [hl] at hol2
       have r := (HQ.out.1.ev encP_len).row3 (by rw [hl]; omega)
       obtain ⟨y0, y1⟩ := r.prs (get_last (l := l') (s := (s1, s2)))
       dsimp only at y0 y1
       rw [Nat.zero_add] at y0 y1
       have fz : wn.frozen? ⟨g, l'.length * 2 + 1, none⟩ = false := HQ.out.1.frz hl _
       have HA := Lib.hid (addR_snoc (s1, s2) (p, q - p) l')
       obtain ⟨n, hn⟩ : ∃ n, l'.length = n := ⟨_, rfl⟩
       have HN2 := Lib.hid hn
       rw [hn] at y0 y1 fz hol2 hl hcap HQ ⊢
       have HL := Lib.hid hl
       have d5 : decide ((0 : Int) < (n : Int) + 1) = true := by rw [decide_eq_true_eq]; omega
       have e6 : IntKind.i64.wrap ((n : Int) + 1 - 1) = (n : Int) := by rw [show (n : Int) + 1 - 1 = (n : Int) by omega]; exact IntWalk.i64_in _ (by omega)
       have e6' : IntKind.i64.wrap (n : Int) = (n : Int) := IntWalk.i64_in _ (by omega)
       have e7 : (0 : Int) ≤ (n : Int) := by omega
       have e9 : (n : Int) < (n : Int) + 1 := by omega
       have e10 : IntKind.i64.wrap (s1 + s2) = s1 + s2 := IntWalk.i64_in _ (by omega)
       have e11 : IntKind.i64.wrap (q - s1) = q - s1 := IntWalk.i64_in _ (by omega)
       clear k1 k2 k3 he r hn hl
       have heq : s1 + s2 = p := heq
       have E := Lib.hid (show addR (l' ++ [(s1, s2)]) (p, q - p) = l' ++ [(s1, q - s1)] from by rw [HA.out, if_pos (show nxt (s1, s2) = p from heq), show s2 + (q - p) = q - s1 by omega])
       have d6 : ((s1 + s2) == p) = true := by simp [heq]
       clear HA heq
       go_wp2_with fail
       go_quiet (fail)
       have HQ := Lib.hid (show OV encP 2 137 w3.heap.size (wn.drewN nq) _ _ ∧ Below w3.heap.size w3 (wn.drewN nq) from ⟨HQ.out.1, below_drewN HQ.out.2 _⟩)
       have x0 : (wn.drewN nq).cell? ⟨bb, ob + j, none⟩ = some (.int .i64 p) := x0
       have x1 : (wn.drewN nq).cell? ⟨bb, ob + (j + 1), none⟩ = some (.int .i64 q) := x1
       have y0 : (wn.drewN nq).cell? ⟨g, n * 2, none⟩ = some (.int .i64 s1) := y0
       have y1 : (wn.drewN nq).cell? ⟨g, n * 2 + 1, none⟩ = some (.int .i64 s2) := y1
       have fz : (wn.drewN nq).frozen? ⟨g, n * 2 + 1, none⟩ = false := fz
       generalize wn.drewN nq = wm at HQ x0 x1 y0 y1 fz ⊢
       go_wp2_with fail
       go_still_tail 17, (by kernel_rfl)
       change wpList _ _ _ _ _ wm.drew
       have HQ := Lib.hid (show OV encP 2 137 w3.heap.size wm.drew _ _ ∧ Below w3.heap.size w3 wm.drew from ⟨HQ.out.1, below_drew HQ.out.2⟩)
       have y1 : wm.drew.cell? ⟨g, n * 2 + 1, none⟩ = some (.int .i64 s2) := y1
       have fz : wm.drew.frozen? ⟨g, n * 2 + 1, none⟩ = false := fz
       generalize wm.drew = wd at HQ y1 fz ⊢
       obtain ⟨o5, _⟩ := OV.setW HQ.out.1 HL.out (i := n) (p := s1) (q := s2) (by rw [← HN2.out]; exact get_last) (q - s1)
       have O5 := Lib.hid (show OV encP 2 137 w3.heap.size (wd.setCell ⟨g, n * 2 + 1, none⟩ (.int .i64 (q - s1))) (.slice (some ⟨g, 0, none⟩) (n + 1) cap) (addR (l' ++ [(s1, s2)]) (p, q - p)) from by
        rw [E.out, ← set_last l' (s1, s2) (s1, q - s1), HN2.out]; exact o5)
       have B5 := Lib.hid (HQ.out.2.setCell (p := ⟨g, n * 2 + 1, none⟩) hg1 (.int .i64 (q - s1)))
       clear o5 e1 e2 e3 e4 e6 e6' e7 e9 e10 e11 d5 d6
       go_wp2_with fail
       go_roundg (gk - 1)
       case measure => have := HJ.out; omega
       case rel => exact ⟨j + 1, _, by have := HJ.out; omega, by go_num, NX2.out, O5.out, B5.out⟩
      ·have E := Lib.hid (show addR out (p, q - p) = out ++ [(p, q - p)] from by
        rcases List.eq_nil_or_concat out with rfl | ⟨l', s, rfl⟩
        ·rfl
        ·rw [List.concat_eq_append] at *
         rw [addR_snoc, if_neg (fun h => hm ⟨l', s, rfl, h⟩)])
       have HM := Lib.hid hm
       clear hm
       obtain ⟨A4, c4, rfl⟩ := (HQ.out.1.ev encP_len).shape
       obtain ⟨M, hM⟩ : ∃ n, out.length = n := ⟨_, rfl⟩
       have HML := Lib.hid hM
       rw [hM] at hol2 HQ ⊢
       clear hM
       go_wp2_with fail
       go_cut [14, 104] (fun _ v wx => v = .bool false ∧ (OV encP 2 137 w3.heap.size wx (.slice A4 M c4) out ∧ Below w3.heap.size w3 wx) ∧ wx.cell? ⟨bb, ob + j, none⟩ = some (.int .i64 p) ∧ wx.cell? ⟨bb, ob + (j + 1), none⟩ = some (.int .i64 q))
       case first =>
        rcases List.eq_nil_or_concat out with rfl | ⟨l', s, rfl⟩
        ·obtain rfl : M = 0 := HML.out.symm
         have d5 : decide ((0 : Int) < ((0 : Nat) : Int)) = false := by simp
         go_wp2_with fail
         go_quiet (fail)
         go_wp2_with fail
         go_meet
         exact ⟨rfl, ⟨HQ.out.1, below_drewN HQ.out.2 _⟩, x0, x1⟩
        ·rw [List.concat_eq_append] at *
         obtain ⟨k1, k2, k3⟩ := can_snoc.1 CAN.out
         obtain ⟨s1, s2⟩ := s
         obtain ⟨k4, k5, k6, k7⟩ := rok_iff.1 k3
         have he := HEND.out
         rw [endR_append] at he
         have he2 : s1 + s2 ≤ p := he
         dsimp only at k4 k5 k6 k7
         have hl : (l' ++ [(s1, s2)]).length = l'.length + 1 := by simp
         obtain ⟨g, cap, hvv, hcap, hg1, hg2⟩ := HQ.out.1.row_form encP_len hl (by omega)
         simp only [Value.slice.injEq] at hvv
         obtain ⟨rfl, hM1, rfl⟩ := hvv
         have r := (HQ.out.1.ev encP_len).row3 (by rw [hl]; omega)
         obtain ⟨y0, y1⟩ := r.prs (get_last (l := l') (s := (s1, s2)))
         dsimp only at y0 y1
         rw [Nat.zero_add] at y0 y1
         have fz : wn.frozen? ⟨g, l'.length * 2 + 1, none⟩ = false := HQ.out.1.frz (hl.trans hM1.symm) _
         have HA := Lib.hid (addR_snoc (s1, s2) (p, q - p) l')
         obtain ⟨n, hn⟩ : ∃ n, l'.length = n := ⟨_, rfl⟩
         have HN2 := Lib.hid hn
         rw [hn] at y0 y1 fz hl hcap hM1
         subst hM1
         have HL := Lib.hid hl
         have d5 : decide ((0 : Int) < (n : Int) + 1) = true := by rw [decide_eq_true_eq]; omega
         have e6 : IntKind.i64.wrap ((n : Int) + 1 - 1) = (n : Int) := by rw [show (n : Int) + 1 - 1 = (n : Int) by omega]; exact IntWalk.i64_in _ (by omega)
         have e6' : IntKind.i64.wrap (n : Int) = (n : Int) := IntWalk.i64_in _ (by omega)
         have e7 : (0 : Int) ≤ (n : Int) := by omega
         have e9 : (n : Int) < (n : Int) + 1 := by omega
         have e10 : IntKind.i64.wrap (s1 + s2) = s1 + s2 := IntWalk.i64_in _ (by omega)
         have e11 : IntKind.i64.wrap (q - s1) = q - s1 := IntWalk.i64_in _ (by omega)
         clear k1 k2 k3 he r hn hl
         have heq : ¬ s1 + s2 = p := fun h => HM.out ⟨l', (s1, s2), rfl, h⟩
         have d6 : ((s1 + s2) == p) = false := by simp [heq]
         clear HA heq
         go_wp2_with fail
         go_quiet (fail)
         go_wp2_with fail
         go_meet
         exact ⟨rfl, ⟨HQ.out.1, below_drewN HQ.out.2 _⟩, x0, x1⟩
       case rest =>
        obtain ⟨rfl, hq, x0, x1⟩ := hcut
        rename_i wm
        have HQ := Lib.hid hq
        clear hq
        go_wp2_with fail
        go_region_law (go_loud (refine step_app elemQ encP_len encP_one (by rfl) (.tmp 122) (.tmp 138) (by rfl) (.slice A4 M c4) (.slice (some ⟨_, 0, none⟩) 1 1) (by rfl) (by rfl) (by exact (HQ.out.1.alloc _).drewN _) (by exact (new_pair (p := p) (q := q - p))) (by rw [HML.out]; simp; omega) (by have := HQ.out.2.size; simp; omega) ?_; intro v1 w1 o1 g1; have b1 : Below w3.heap.size w3 w1 := (below_drewN (HQ.out.2.alloc HQ.out.2.size _) _).grown g1 (by have := HQ.out.2.size; simp; omega) (fun k hk => (HQ.out.1.block k hk).1); clear g1))
        all_goals
         clear e1 e2 e3 e4
         go_wp2
         go_roundg (gk - 1)
         case measure => have := HJ.out; omega
         case rel => exact ⟨j + 1, _, by have := HJ.out; omega, by go_num, NX2.out, by rw [E.out]; simpa using o1, b1⟩
   ·have hd1 : decide (j + 1 < N) = false := by rw [decide_eq_false_iff_not]; exact hlt
    have R := Lib.hid (show out = res from by rw [← HRES.out]; exact HI.out.done (tkT_ff t) BRD.out (by rw [HN.out]; omega))
    have OF := Lib.hid (HO.out.base_le s3)
    have BF := Lib.hid (B3.out.trans (HBB.out.mono s3))
    go_wp2
    go_ret2
    exact ⟨_, rfl, by rw [← R.out]; exact OF.out, BF.out⟩
end Go.Proofs.YtalophngappkhaaGreatDoor
namespace Go.Proofs.YtalophngappkhaaGreatDoor
open Go.RowKit Go.Shelf

set_option maxHeartbeats 1000000 in
theorem rmissing_ok (w : World) (v : Value) (l : List (Int × Int)) (f n : Int) (hv : EV encP 2 w v l) (hlen : l.length ≤ 100000000) :
  Calls Tryz.prog 76 #[v, .int .i64 f, .int .i64 n] w fun e w' => ∃ r, e = .returned (.tuple #[r, .int .i64 (missE l f n)]) ∧ OV encP 2 137 w.heap.size w' r (missL l f n) ∧ Below w.heap.size w w' := by
 obtain ⟨A, c, rfl⟩ := hv.shape
 have RT := Lib.hid (rright_ok w _ l hv (by omega))
 have HV := Lib.hid hv
 have HE := Lib.hid (show missE l f n = if rerr [l] ≠ 0 then 90 else if f < 1 ∨ n < f ∨ 281474976710657 < n then 2 else 0 from rfl)
 have HL := Lib.hid (show missL l f n = if missE l f n ≠ 0 then [] else if f = n then [] else bothL tkW [(f, n - f)] l from rfl)
 by_cases he : rerr [l] = 0
 ·rw [he, if_neg (by simp)] at HE
  have hr : rightB l = true := by rw [rerr_one] at he; cases h : rightB l with
   | true => rfl
   | false => rw [h] at he; simp at he
  rw [hr] at RT
  have HR := Lib.hid hr
  clear hr he hv
  by_cases hbad : f < 1 ∨ n < f ∨ 281474976710657 < n
  ·rw [if_pos hbad] at HE
   rw [HE.out, if_pos (by simp)] at HL
   rw [HE.out, HL.out]
   clear HE HL
   rcases (by omega : f < 1 ∨ (¬ f < 1 ∧ n < f) ∨ (¬ f < 1 ∧ ¬ n < f ∧ 281474976710657 < n)) with h | ⟨h, h2⟩ | ⟨h, h2, h3⟩
   all_goals
    clear hbad
    go_enter Tryz.func76, Tryz.ntmps76
    go_wp2_with fail
    refine RT.out.mono ?_
    rintro e w1 ⟨rfl, b1⟩
    go_wp2
    go_ret2
    exact ⟨_, rfl, OV.nil _ _, b1⟩
  ·rw [if_neg hbad] at HE
   rw [HE.out, if_neg (by simp)] at HL
   rw [HE.out]
   have h1 : ¬ f < 1 := fun h => hbad (.inl h)
   have h2 : ¬ n < f := fun h => hbad (.inr (.inl h))
   have h3 : ¬ 281474976710657 < n := fun h => hbad (.inr (.inr h))
   have h4 : 1 ≤ f := by omega
   have h5 : f ≤ n := by omega
   have h6 : n ≤ 281474976710657 := by omega
   clear hbad HE
   by_cases hfn : f = n
   ·subst hfn
    rw [if_pos rfl] at HL
    rw [HL.out]
    clear HL
    go_enter Tryz.func76, Tryz.ntmps76
    go_wp2_with fail
    refine RT.out.mono ?_
    rintro e w1 ⟨rfl, b1⟩
    go_wp2
    go_ret2
    exact ⟨_, rfl, OV.nil _ _, b1⟩
   ·have hd : (f == n) = false := by simp [hfn]
    have hr2 : rerr [[(f, n - f)], l] = 0 := rerr_two.2 ⟨right_span h4 (by omega) h6, HR.out⟩
    rw [if_neg hfn] at HL
    rw [HL.out]
    clear HL hfn
    have WO := Lib.hid (fun (w1 : World) (h : Below w.heap.size w w1) (m : Nat) (hm : w1.heap.size = m) => rboth_ok (w1.alloc (.cells #[.int .i64 f, .int .i64 (n - f)] 137)) (.slice (some ⟨m, 0, none⟩) 1 1) _ [(f, n - f)] l 1 (hm ▸ new_pair) ((HV.out.below h).below ((Below.refl _ _).alloc (Nat.le_refl _) _)) (by simp) hlen (by omega) (by omega))
    rw [hr2, if_pos rfl, tkT1] at WO
    clear hr2
    go_enter Tryz.func76, Tryz.ntmps76
    go_wp2_with fail
    refine RT.out.mono ?_
    rintro e w1 ⟨rfl, b1⟩
    have s1 := b1.size
    go_wp2_with fail
    refine (WO.out w1 b1 _ rfl).mono ?_
    rintro e w2 ⟨r, rfl, o2, b2⟩
    have b3 := (b1.alloc s1 (.cells #[.int .i64 f, .int .i64 (n - f)] 137)).trans (b2.mono (by simp; omega))
    have o3 := o2.base_le (base' := w.heap.size) (by simp; omega)
    clear b2 o2 WO
    go_wp2
    go_ret2
    exact ⟨_, rfl, o3, b3⟩
 ·have hne : (rerr [l] != 0) = true := by simp [he]
  have h90 : rerr [l] = 90 := (rerr_vals [l]).resolve_left he
  rw [if_pos he] at HE
  rw [HE.out, if_pos (by simp)] at HL
  rw [HE.out, HL.out]
  have hr : rightB l = false := by cases h : rightB l with
   | false => rfl
   | true => rw [rerr_one, h] at h90; simp at h90
  rw [hr] at RT
  clear he hne h90 HE HL hv hr
  go_enter Tryz.func76, Tryz.ntmps76
  go_wp2_with fail
  refine RT.out.mono ?_
  rintro e w1 ⟨rfl, b1⟩
  go_wp2
  go_ret2
  exact ⟨_, rfl, OV.nil _ _, b1⟩


end Go.Proofs.YtalophngappkhaaGreatDoor

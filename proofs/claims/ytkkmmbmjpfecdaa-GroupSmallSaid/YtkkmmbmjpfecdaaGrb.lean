/- Contracts of group.Right, there, Depth, Path, Children, Under. -/
import Derived.Test.YtkkmmbmjpfecdaaGra
namespace Go.Proofs.Ytkkmmbmjpfecdaa
open Go.RowKit Go.Shelf
attribute [local go_sem] Oper.semAt_some

set_option maxHeartbeats 400000 in
theorem right_ok (w : World) (v : Value) (gs : List (Int × Int)) (hv : EV encG 2 w v gs) (hlen : gs.length ≤ 100000) :
    Calls Try.prog 22 #[v] w fun e w' => e = .returned (.bool (rightB gs)) ∧ Below w.heap.size w w' := by
  have H := Lib.hid (check_ok w v gs hv hlen)
  have E := Lib.hid (show rightB gs = ((checkG gs).2 == 0) from rfl)
  generalize checkG gs = c at H E
  generalize rightB gs = r at E ⊢
  obtain ⟨c1, c2⟩ := c
  clear hv
  by_cases hc : c2 = 0
  · subst hc
    go_enter Try.func22, Try.ntmps22
    go_wp2_with (go_at_call 20; refine H.out.mono ?_; rintro e w' ⟨rfl, hb⟩)
    go_ret
    exact ⟨ret_bool E.out.symm, hb⟩
  · have hc' : (c2 == 0) = false := by simp [hc]
    have E' := Lib.hid (show false = r by rw [E.out]; exact hc'.symm)
    clear hc
    go_enter Try.func22, Try.ntmps22
    go_wp2_with (go_at_call 20; refine H.out.mono ?_; rintro e w' ⟨rfl, hb⟩)
    go_ret
    exact ⟨ret_bool E'.out, hb⟩

def outB (n : Nat) (g : Int) : Bool := decide (g < 0) || decide ((n : Int) ≤ g)
/-- What 'there' returns. -/
def thereZ (gs : List (Int × Int)) (zs : List Int) : Int := if rightB gs = false then 194 else if zs.any (outB gs.length) then 2 else 0

set_option maxHeartbeats 400000 in
theorem there1_ok (w : World) (A : Option Addr) (n c B : Nat) (x : Int) (hc : w.cell? ⟨B, 0, none⟩ = some (.slice A n c)) (hn : n ≤ 100000) :
    Calls Try.prog 53 #[.int .i64 x, .pointer (some ⟨B, 0, none⟩)] w fun e w' => e = .returned (.bool (outB n x)) ∧ w = w' := by
  by_cases h1 : x < 0
  · go_enter Try.func53, Try.ntmps53
    go_wp2
    go_ret
    exact ⟨by simp [outB, h1], rfl⟩
  · by_cases h2 : (n : Int) ≤ x
    all_goals
      go_enter Try.func53, Try.ntmps53
      go_wp2
      go_ret
      exact ⟨by simp [outB, h1, h2], rfl⟩

set_option maxHeartbeats 400000 in
theorem there_ok (w : World) (v vs : Value) (gs : List (Int × Int)) (zs : List Int) (hv : EV encG 2 w v gs) (hs : EV encI 1 w vs zs) (hlen : gs.length ≤ 100000) (hlz : zs.length ≤ 100000) :
    Calls Try.prog 31 #[v, vs] w fun e w' => e = .returned (.int .i64 (thereZ gs zs)) ∧ Below w.heap.size w w' := by
  obtain ⟨A, c, rfl⟩ := hv.shape
  have HV := Lib.hid hv
  have HS := Lib.hid hs
  clear hv hs
  have H1 := Lib.hid (fun (w1 : World) (h : Below w.heap.size w w1) => right_ok w1 _ gs (HV.out.below h) hlen)
  have T1 := Lib.hid (fun (h : rightB gs = false) => show thereZ gs zs = 194 from if_pos h)
  have T2 := Lib.hid (fun (h : rightB gs = true) => show thereZ gs zs = if zs.any (outB gs.length) then 2 else 0 from if_neg (by simp [h]))
  generalize thereZ gs zs = t at T1 T2 ⊢
  generalize hr : rightB gs = r at H1 T1 T2
  clear hr
  cases r with
  | false =>
    obtain rfl := T1.out rfl
    clear T1 T2
    go_enter Try.func31, Try.ntmps31
    go_wp2_with (go_at_call 22; refine (H1.out _ ((Below.refl _ _).alloc (Nat.le_refl _) _)).mono ?_; rintro e w' ⟨rfl, hb⟩)
    go_ret
    exact ⟨rfl, ((Below.refl _ w).alloc (Nat.le_refl _) _).trans (hb.mono (by simp))⟩
  | true =>
    have T := Lib.hid (T2.out rfl)
    clear T1 T2
    have H3 := Lib.hid (fun (w1 : World) (h : Below w.heap.size w w1) (hc : w1.cell? ⟨w.heap.size, 0, none⟩ = some (.slice A gs.length c)) =>
      containsFunc_int w1 vs zs 53 #[.pointer (some ⟨w.heap.size, 0, none⟩)] (outB gs.length) (HS.out.below h) (by omega)
        ⟨enters_of Try.func53 (by kernel_rfl) rfl, fun n x _ => (there1_ok (w1.drewN n) A gs.length c w.heap.size x hc hlen).mono fun e w' h => ⟨h.1, 0, h.2⟩⟩)
    generalize zs.any (outB gs.length) = r at T H3
    obtain rfl := T.out
    clear T
    cases r with
    | false =>
      go_enter Try.func31, Try.ntmps31
      go_wp2_with (go_at_call 22; refine (H1.out _ ((Below.refl _ _).alloc (Nat.le_refl _) _)).mono ?_; rintro e w' ⟨rfl, hb⟩; have hb0 := ((Below.refl _ w).alloc (Nat.le_refl _) (.cells #[.slice A gs.length c] 24)).trans (hb.mono (by simp)); have hcl := below_cell hb (p := ⟨w.heap.size, 0, none⟩) (u := .slice A gs.length c) (by simp [go_sem]))
      refine (H3.out _ hb0 hcl).mono ?_
      rintro e w2 ⟨rfl, n, rfl⟩
      go_wp2
      go_ret
      exact ⟨rfl, below_drewN hb0 _⟩
    | true =>
      go_enter Try.func31, Try.ntmps31
      go_wp2_with (go_at_call 22; refine (H1.out _ ((Below.refl _ _).alloc (Nat.le_refl _) _)).mono ?_; rintro e w' ⟨rfl, hb⟩; have hb0 := ((Below.refl _ w).alloc (Nat.le_refl _) (.cells #[.slice A gs.length c] 24)).trans (hb.mono (by simp)); have hcl := below_cell hb (p := ⟨w.heap.size, 0, none⟩) (u := .slice A gs.length c) (by simp [go_sem]))
      refine (H3.out _ hb0 hcl).mono ?_
      rintro e w2 ⟨rfl, n, rfl⟩
      go_wp2
      go_ret
      exact ⟨rfl, below_drewN hb0 _⟩
end Go.Proofs.Ytkkmmbmjpfecdaa

/- Contracts of group.Depth, Path, Children, Under. -/
import Derived.Test.YtkkmmbmjpfecdaaGrb
namespace Go.Proofs.Ytkkmmbmjpfecdaa
open Go.RowKit Go.Shelf
attribute [local go_sem] Oper.semAt_some

section
variable {gs : List (Int × Int)}
theorem there_zero {zs : List Int} : thereZ gs zs = 0 ↔ GOK gs ∧ ∀ z ∈ zs, 0 ≤ z ∧ z < gs.length := by
  unfold thereZ
  cases hr : rightB gs with
  | false =>
    simp only [if_true, show ((194 : Int) = 0) = False from by simp, false_iff]
    intro h
    rw [right_iff.2 h.1] at hr; cases hr
  | true =>
    rw [if_neg (by simp)]
    have hg := right_iff.1 hr
    by_cases h : zs.any (outB gs.length) = true
    · rw [if_pos h]
      simp only [show ((2 : Int) = 0) = False from by simp, false_iff]
      intro h2
      obtain ⟨z, hz, ho⟩ := List.any_eq_true.1 h
      have := h2.2 z hz
      simp [outB] at ho; omega
    · rw [if_neg h]
      simp only [true_iff]
      refine ⟨hg, fun z hz => ?_⟩
      have : ¬ outB gs.length z = true := fun ho => h (List.any_eq_true.2 ⟨z, hz, ho⟩)
      simp [outB] at this; omega
def ints (l : List Nat) : List Int := l.map (fun n : Nat => (n : Int))
/-- Depth. -/
def dZ (gs : List (Int × Int)) (g : Int) : Int := if thereZ gs [g] = 0 then dep gs g.toNat else 0
def pathL (gs : List (Int × Int)) (g : Int) : List Int := if thereZ gs [g] = 0 then ints (path gs g.toNat) else []
/-- Groups that a function chooses. -/
def chosen (p : Nat → Bool) (n : Nat) : List Int := ints ((List.range n).filter p)
def childB (gs : List (Int × Int)) (g : Nat) (x : Nat) : Bool := decide (0 < x) && (par gs x == g)
def underB (gs : List (Int × Int)) (g : Nat) (x : Nat) : Bool := (path gs x).contains g
def childL (gs : List (Int × Int)) (g : Int) : List Int := if thereZ gs [g] = 0 then chosen (childB gs g.toNat) gs.length else []
def underL (gs : List (Int × Int)) (g : Int) : List Int := if thereZ gs [g] = 0 then chosen (underB gs g.toNat) gs.length else []
theorem chosen_succ (p : Nat → Bool) (n : Nat) : chosen p (n + 1) = chosen p n ++ if p n then [(n : Int)] else [] := by
  unfold chosen ints
  rw [List.range_succ, List.filter_append, List.map_append]
  congr 1
  cases h : p n <;> simp [h]
theorem chosen_len (p : Nat → Bool) (n : Nat) : (chosen p n).length ≤ n := by
  unfold chosen ints
  rw [List.length_map]
  have := List.length_filter_le p (List.range n)
  simpa using this
end

theorem new_one {w : World} {z : Int} {e : TypeId} : EV encI 1 (w.alloc (.cells #[.int .i64 z] e)) (.slice (some ⟨w.heap.size, 0, none⟩) 1 1) [z] := EV.new1 rfl (Nat.le_refl _)

/-- 'there' of one group, as the walks meet it. -/
theorem there_one (w : World) (v : Value) (gs : List (Int × Int)) (z : Int) (hv : EV encG 2 w v gs) (hlen : gs.length ≤ 100000) (m : Nat) (hm : w.heap.size = m) :
    Calls Try.prog 31 #[v, .slice (some ⟨m, 0, none⟩) 1 1] (w.alloc (.cells #[.int .i64 z] 3)) fun e w' => e = .returned (.int .i64 (thereZ gs [z])) ∧ Below w.heap.size w w' := hm ▸
  (there_ok _ v _ gs [z] (hv.below ((Below.refl _ _).alloc (Nat.le_refl _) _)) new_one hlen (by simp)).mono fun e w' h => ⟨h.1, ((Below.refl _ w).alloc (Nat.le_refl _) _).trans (h.2.mono (by simp))⟩

set_option maxHeartbeats 400000 in
theorem depthF_ok (w : World) (v : Value) (gs : List (Int × Int)) (z : Int) (hv : EV encG 2 w v gs) (hlen : gs.length ≤ 100000) :
    Calls Try.prog 23 #[v, .int .i64 z] w fun e w' => e = .returned (.tuple #[.int .i64 (dZ gs z), .int .i64 (thereZ gs [z])]) ∧ Below w.heap.size w w' := by
  have HT := Lib.hid (there_one w v gs z hv hlen _ rfl)
  by_cases ht : thereZ gs [z] = 0
  · have hd : dZ gs z = dep gs z.toNat := if_pos ht
    obtain ⟨hok, hz⟩ := there_zero.1 ht
    obtain ⟨hz1, hz2⟩ := hz z (by simp)
    obtain ⟨g, rfl⟩ := Int.eq_ofNat_of_zero_le hz1
    rw [Int.toNat_natCast] at hd
    obtain ⟨b, off, c, rfl, hc, hr⟩ := hv.row hok.pos
    have hg : g < gs.length := by omega
    have hbl : b < w.heap.size := hr.lt hok.pos (fun _ => by simp [encG_len])
    have D := Lib.hid (fun (w1 : World) (h : Below w.heap.size w w1) => of_in (depth_ok w1 b off c g gs (path gs g) (path_up hok.bef (Nat.le_refl _) g hg) (path_head hok.bef hg) (hr.below h) hlen (by have := path_le hok.bef g hg; omega) (by have := h.size; omega)))
    rw [ht] at HT
    rw [ht, hd]
    have hp := path_len_pos hok.bef hg
    have e : ((path gs g).length : Int) - 1 = dep gs g := by unfold dep; omega
    rw [e] at D
    clear hv hr hz hz1 hd ht e hok
    go_enter Try.func23, Try.ntmps23
    go_wp2_with (go_at_call 31; refine HT.out.mono ?_; rintro e w' ⟨rfl, hb⟩)
    refine (D.out _ hb).mono ?_
    rintro e w2 ⟨rfl, hb2⟩
    go_wp2
    go_ret2
    exact ⟨rfl, hb.trans (hb2.mono hb.size)⟩
  · have hd : dZ gs z = 0 := if_neg ht
    rw [hd]
    generalize thereZ gs [z] = t at HT ht ⊢
    have ht' : (t != 0) = true := by simp [ht]
    clear ht hv hd
    go_enter Try.func23, Try.ntmps23
    go_wp2_with (go_at_call 31; refine HT.out.mono ?_; rintro e w' ⟨rfl, hb⟩)
    go_ret2
    exact ⟨rfl, hb⟩

set_option maxHeartbeats 400000 in
theorem path_ok (w : World) (v : Value) (gs : List (Int × Int)) (z : Int) (hv : EV encG 2 w v gs) (hlen : gs.length ≤ 100000) :
    Calls Try.prog 13 #[v, .int .i64 z] w fun e w' => ∃ r, e = .returned (.tuple #[r, .int .i64 (thereZ gs [z])]) ∧ OV encI 1 3 w.heap.size w' r (pathL gs z) ∧ Below w.heap.size w w' := by
  have HT := Lib.hid (there_one w v gs z hv hlen _ rfl)
  by_cases ht : thereZ gs [z] = 0
  · have hd : pathL gs z = ints (path gs z.toNat) := if_pos ht
    obtain ⟨hok, hz⟩ := there_zero.1 ht
    obtain ⟨hz1, hz2⟩ := hz z (by simp)
    obtain ⟨g, rfl⟩ := Int.eq_ofNat_of_zero_le hz1
    rw [Int.toNat_natCast] at hd
    obtain ⟨b, off, c, rfl, hc, hr⟩ := hv.row hok.pos
    have hg : g < gs.length := by omega
    have hbl : b < w.heap.size := hr.lt hok.pos (fun _ => by simp [encG_len])
    have D := Lib.hid (fun (w1 : World) (Bg Bl : Nat) (h : Below w.heap.size w w1) h1 h2 h3 h4 h5 => up1_iter w1 Bg Bl b off c g gs (path gs g) (path_up hok.bef (Nat.le_refl _) g hg) (path_head hok.bef hg) h1 h2 h3 (hr.below h) hlen h4 h5)
    have HL := Lib.hid (path_le hok.bef g hg)
    rw [ht] at HT
    rw [ht, hd]
    clear hv hr hz hz1 hd ht hok
    go_enter Try.func13, Try.ntmps13
    go_wp2_with (go_at_call 31; refine HT.out.mono ?_; rintro e w' ⟨rfl, hb⟩)
    refine (of_in (up_ok _ _ _ _ _)).mono ?_
    rintro e w2 ⟨rfl, hw2⟩
    go_wp2_with fail
    have hb2 : Below w.heap.size w w2 := by rw [← hw2]; exact (hb.alloc hb.size _).alloc (by have := hb.size; simp; omega) _
    have hsz : w2.heap.size = w'.heap.size + 2 := by rw [← hw2]; simp
    have hsz0 := hb.size
    have i := D.out w2 (w'.heap.size + 1) w'.heap.size hb2 (by rw [← hw2]; simp [go_sem]) (by rw [← hw2]; simp [go_sem]) (by rw [← hw2]; simp [go_sem]) (by omega) (by omega)
    have hM : ∀ w3, Mod (fun k => k = w'.heap.size + 1) w2 w3 → Below w.heap.size w w3 := fun w3 h => hb2.trans (h.below (fun k hk e => by omega) (by omega))
    have HW2 := Lib.hid hw2
    clear hw2
    refine (collect_int w2 55 _ (fun k => ((path gs g)[k]?.getD 0 : Nat)) _ _ _ (enters_of Try.func55 (by kernel_rfl) rfl) i (fun k e => by omega) (fun k e => by omega) (by have := HL.out; omega)).mono ?_
    rintro e w3 ⟨r, rfl, ho, hm⟩
    have hb3 := hM _ hm
    have ho' : OV encI 1 3 w.heap.size w3 r (ints (path gs g)) := by
      have e : upto (fun k => ((path gs g)[k]?.getD 0 : Nat)) (path gs g).length = ints (path gs g) := by
        apply List.ext_getElem (by simp [upto, ints])
        intro i h1 h2
        have h3 : i < (path gs g).length := by simpa [upto] using h1
        simp [upto, ints, h3]
      rw [e] at ho
      exact ho.base_le (by omega)
    clear ho hm hM i hsz
    go_wp2
    go_ret2
    exact ⟨r, rfl, ho', hb3⟩
  · have hd : pathL gs z = [] := if_neg ht
    rw [hd]
    generalize thereZ gs [z] = t at HT ht ⊢
    have ht' : (t != 0) = true := by simp [ht]
    clear ht hv hd
    go_enter Try.func13, Try.ntmps13
    go_wp2_with (go_at_call 31; refine HT.out.mono ?_; rintro e w' ⟨rfl, hb⟩)
    go_ret2
    exact ⟨_, rfl, OV.nil _ _, hb⟩
end Go.Proofs.Ytkkmmbmjpfecdaa

/- quantumref12.First. -/
import Derived.Test.YtalophngappkhaaGreatDoorNrb
import Derived.Test.YtalophngappkhaaGreatDoorSv
import Derived.Test.YtalophngappkhaaGreatDoorZ21
set_option linter.unusedVariables false
set_option linter.unusedSimpArgs false
set_option linter.unusedSectionVars false
namespace Go.Proofs.YtalophngappkhaaGreatDoor
open Go Go.RowKit Go.Shelf
attribute [local go_sem] Oper.semAt_some

structure RmBox (w : World) (Y : Nat) (ve vt vg : Value) (lost next : Int) (opn : Bool) : Prop where
  cell : w.heap[Y]? = some (.cells #[ve, vt, vg, .int .i64 lost, .int .i64 next, .bool opn] 91 (0, 0))
namespace RmBox
variable {w w' : World} {Y : Nat} {ve vt vg : Value} {lost next : Int} {opn : Bool}
theorem new (w : World) (ve vt vg : Value) (lost next : Int) (opn : Bool) : RmBox (w.alloc (.cells #[ve, vt, vg, .int .i64 lost, .int .i64 next, .bool opn] 91)) w.heap.size ve vt vg lost next opn := ⟨heap_alloc_new w _⟩
theorem lt (h : RmBox w Y ve vt vg lost next opn) : Y < w.heap.size := (Array.getElem?_eq_some_iff.1 h.cell).1
theorem c0 (h : RmBox w Y ve vt vg lost next opn) : w.cell? ⟨Y, 0, none⟩ = some ve := (cell_of_row w Y 0 _ _ (0, 0) h.cell).trans rfl
theorem c1 (h : RmBox w Y ve vt vg lost next opn) : w.cell? ⟨Y, 1, none⟩ = some vt := (cell_of_row w Y 1 _ _ (0, 0) h.cell).trans rfl
theorem c2 (h : RmBox w Y ve vt vg lost next opn) : w.cell? ⟨Y, 2, none⟩ = some vg := (cell_of_row w Y 2 _ _ (0, 0) h.cell).trans rfl
theorem c3 (h : RmBox w Y ve vt vg lost next opn) : w.cell? ⟨Y, 3, none⟩ = some (.int .i64 lost) := (cell_of_row w Y 3 _ _ (0, 0) h.cell).trans rfl
theorem c4 (h : RmBox w Y ve vt vg lost next opn) : w.cell? ⟨Y, 4, none⟩ = some (.int .i64 next) := (cell_of_row w Y 4 _ _ (0, 0) h.cell).trans rfl
theorem c5 (h : RmBox w Y ve vt vg lost next opn) : w.cell? ⟨Y, 5, none⟩ = some (.bool opn) := (cell_of_row w Y 5 _ _ (0, 0) h.cell).trans rfl
theorem below (h : RmBox w Y ve vt vg lost next opn) (hb : Below w.heap.size w w') : RmBox w' Y ve vt vg lost next opn := ⟨(hb.block Y h.lt).trans h.cell⟩
end RmBox
set_option maxRecDepth 100000 in
set_option maxHeartbeats 6400000 in
theorem r12first_ok (w : World) (ve vt vg : Value) (lost next fr : Int) (opn : Bool) (gaps : List (Int × Int)) (hv : EV encP 2 w vg gaps) (hl : gaps.length ≤ 100000000) :
    Calls Tryz.prog 49 #[mgA ve vt vg lost next opn, .int .i64 fr] w fun r w' => r = .returned (.tuple #[.int .i64 (frsE gaps next opn fr).1, .int .i64 (frsE gaps next opn fr).2]) ∧ Below w.heap.size w w' := by
  have HX := Lib.hid (RmBox.new w ve vt vg lost next opn)
  have HB := Lib.hid (bel_alloc w (.cells #[ve, vt, vg, .int .i64 lost, .int .i64 next, .bool opn] 91))
  have HV := Lib.hid hv
  have HR := Lib.hid (rright_ok _ vg gaps (hv.below HB.out) (by omega))
  obtain ⟨A, c, hA⟩ := hv.shape
  subst hA
  obtain ⟨n, hn⟩ : ∃ n, gaps.length = n := ⟨_, rfl⟩
  have HN := Lib.hid hn
  rw [hn] at hl HX HB HV HR ⊢
  obtain ⟨E, hE⟩ : ∃ E, frsE gaps next opn fr = E := ⟨_, rfl⟩
  have HE := Lib.hid hE
  rw [hE]
  clear hv hn hE
  unfold mgA
  go_enter Tryz.func49, Tryz.ntmps49
  go_upto_region 1 with fail
  generalize w.alloc (.cells #[ve, vt, .slice A n c, .int .i64 lost, .int .i64 next, .bool opn] 91) = wx at HX HB HR ⊢
  generalize w.heap.size = X at HX ⊢
  have c2 := HX.out.c2
  go_wp2_with fail
  refine HR.out.mono ?_
  rintro r w1 ⟨rfl, b1⟩
  have HX1 := Lib.hid (HX.out.below b1)
  have HB1 := Lib.hid (bstep HB.out b1)
  clear HX HB HR b1 c2
  by_cases hr : rightB gaps = true
  · have HRT := Lib.hid (right_iff.1 hr)
    have c4 := HX1.out.c4
    by_cases hb : fr < 1 ∨ next < fr ∨ 281474976710657 < next
    · have HEE := Lib.hid (show E = (0, 2) by rw [← HE.out]; unfold frsE; rw [if_neg (by rw [hr]; simp), if_pos hb])
      rw [hr]
      clear hr
      by_cases h1 : fr < 1
      · have d1 : decide (fr < 1) = true := by simpa using h1
        clear hb h1
        go_wp2
        go_ret2
        exact ⟨by rw [HEE.out]; rfl, HB1.out⟩
      · have d1 : decide (fr < 1) = false := by simpa using h1
        by_cases h2 : next < fr
        · have d2 : decide (next < fr) = true := by simpa using h2
          clear hb h1 h2
          go_wp2
          go_ret2
          exact ⟨by rw [HEE.out]; rfl, HB1.out⟩
        · have d2 : decide (next < fr) = false := by simpa using h2
          have d3 : decide (281474976710657 < next) = true := by simp; omega
          clear hb h1 h2
          go_wp2
          go_ret2
          exact ⟨by rw [HEE.out]; rfl, HB1.out⟩
    · have HEE := Lib.hid (show E = match frsG gaps next fr with | some n => (n, 122) | none => if opn then (0, 123) else (0, 0) by rw [← HE.out]; unfold frsE; rw [if_neg (by rw [hr]; simp), if_neg hb]; cases frsG gaps next fr <;> rfl)
      have d1 : decide (fr < 1) = false := by simp; omega
      have d2 : decide (next < fr) = false := by simp; omega
      have d3 : decide (281474976710657 < next) = false := by simp; omega
      have HFR := Lib.hid (show 1 ≤ fr ∧ next ≤ 281474976710657 ∧ fr ≤ next by omega)
      rw [hr]
      clear hr hb
      have c2 := HX1.out.c2
      have c5 := HX1.out.c5
      have HEND := Lib.hid (show frsG gaps next fr = none → E = if opn then (0, 123) else (0, 0) from fun h => by rw [HEE.out, h])
      by_cases h4 : fr < next
      · have d4 : decide (fr < next) = true := by simpa using h4
        obtain ⟨F1, F2⟩ := first_both (t := tkT 4) (fun x y => by cases x <;> cases y <;> rfl) HRT.out.2 HFR.out.1 h4 HFR.out.2.1
        have HF1 := Lib.hid F1
        have HF2 := Lib.hid F2
        have h1 := HFR.out.1
        have h3 := HFR.out.2.1
        have hwr : IntKind.i64.wrap (next - fr) = next - fr := IntWalk.i64_in _ (by omega)
        have HR0 := Lib.hid (show rerr [gaps, [(fr, next - fr)]] = 0 from by
          have e1 : rightB gaps = true := right_iff.2 HRT.out
          have e2 : rightB [(fr, next - fr)] = true := right_iff.2 ⟨by simp, can_one h1 h4 h3⟩
          unfold rerr; simp [e1, e2])
        have HNU := Lib.hid (EV.newL (w := w1) (e := 137) (cs := #[.int .i64 fr, .int .i64 (next - fr)]) (xs := [((fr, next - fr) : Int × Int)]) (n := 1) (c := 1) encP_len rfl rfl (Nat.le_refl _))
        have HNB := Lib.hid (bel_alloc w1 (.cells #[.int .i64 fr, .int .i64 (next - fr)] 137))
        clear F1 F2 h4
        go_wp2_with fail
        refine (rboth_ok _ (.slice A n c) _ gaps [(fr, next - fr)] 4 ((HV.out.below HB1.out).below HNB.out) HNU.out (by rw [HN.out]; omega) (by simp) (by omega) (by omega)).mono ?_
        rintro r w2 ⟨v2, rfl, o2, b2⟩
        rw [HR0.out] at o2 ⊢
        rw [if_pos rfl] at o2
        have HX2 := Lib.hid ((HX1.out.below HNB.out).below b2)
        have HB2 := Lib.hid (bstep (bstep HB1.out HNB.out) b2)
        clear b2 HNU HNB c2 c4 c5 hwr d1 d2 d3 d4 HX1 HB1
        rcases hg : frsG gaps next fr with _ | m
        · rw [HF1.out hg] at o2
          obtain ⟨A2, c2', rfl⟩ := (o2.ev encP_len).shape
          have c5 := HX2.out.c5
          have HEN := Lib.hid (HEND.out hg)
          clear hg o2 h1 h3
          cases opn
          · go_wp2
            go_ret2
            exact ⟨by rw [HEN.out]; rfl, HB2.out⟩
          · go_wp2
            go_ret2
            exact ⟨by rw [HEN.out]; rfl, HB2.out⟩
        · obtain ⟨cc, l, hcl⟩ := HF2.out m hg
          rw [hcl] at o2
          obtain ⟨b, off, c', rfl, hcc, rr⟩ := (o2.ev encP_len).row (by simp)
          obtain ⟨k0, k1⟩ := rr.prs (show ((m, cc) :: l)[0]? = some (m, cc) from rfl)
          have HEN := Lib.hid (show E = (m, 122) by rw [HEE.out, hg])
          obtain ⟨L, hL⟩ : ∃ L, ((m, cc) :: l).length = L := ⟨_, rfl⟩
          have hL0 : 0 < L := by rw [← hL]; simp
          rw [hL]
          clear hg hcl o2 h1 h3 hcc rr hL
          dsimp only at k0
          simp only [Nat.zero_mul, Nat.add_zero] at k0
          go_wp2
          go_ret2
          exact ⟨by rw [HEN.out]; rfl, HB2.out⟩
      · have d4 : decide (fr < next) = false := by simpa using h4
        have hg : frsG gaps next fr = none := by
          rcases hg : frsG gaps next fr with _ | m
          · rfl
          · obtain ⟨_, a, b, _⟩ := (frsG_spec (next := next) (fr := fr) HRT.out.2).1 m hg
            omega
        have HEN := Lib.hid (HEND.out hg)
        clear h4 hg
        cases opn
        · go_wp2
          go_ret2
          exact ⟨by rw [HEN.out]; rfl, HB1.out⟩
        · go_wp2
          go_ret2
          exact ⟨by rw [HEN.out]; rfl, HB1.out⟩
  · have hrf : rightB gaps = false := by simpa using hr
    have HEE := Lib.hid (show E = (0, 90) by rw [← HE.out]; unfold frsE; rw [if_pos hrf])
    rw [hrf]
    clear hr hrf
    go_wp2
    go_ret2
    exact ⟨by rw [HEE.out]; rfl, HB1.out⟩
end Go.Proofs.YtalophngappkhaaGreatDoor

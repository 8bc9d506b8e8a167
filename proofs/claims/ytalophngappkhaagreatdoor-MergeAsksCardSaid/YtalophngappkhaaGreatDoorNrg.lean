/- quantumlaw12.same, where both are the same. -/
import Derived.Test.YtalophngappkhaaGreatDoorNrf
set_option linter.unusedVariables false
set_option linter.unusedSimpArgs false
set_option linter.unusedSectionVars false
namespace Go.Proofs.YtalophngappkhaaGreatDoor
open Go Go.RowKit Go.Shelf
attribute [local go_sem] Oper.semAt_some

set_option maxRecDepth 100000 in
set_option maxHeartbeats 6400000 in
theorem same12_ok (w : World) (ve vt vg ue ut ug : Value) (R : List Ev) (T : List Int) (G : List (Int × Int)) (lost next : Int) (opn : Bool) (h1 : EV encE 11 w ve R) (h2 : EV encI 1 w vt T) (h3 : EV encP 2 w vg G) (k1 : EV encE 11 w ue R) (k2 : EV encI 1 w ut T) (k3 : EV encP 2 w ug G)
    (b1 : R.length ≤ 1000000) (b2 : T.length * 8 ≤ 140737488355328) (b3 : G.length ≤ 1000000) :
    Calls Tryz.prog 45 #[mgA ve vt vg lost next opn, mgA ue ut ug lost next opn] w fun r w' => r = .returned (.bool true) ∧ Below w.heap.size w w' := by
  have HB1 := Lib.hid (bel_alloc w (.cells #[ve, vt, vg, .int .i64 lost, .int .i64 next, .bool opn] 39))
  have HX := Lib.hid ((MgBox.new w ve vt vg lost next opn).below (bel_alloc _ (.cells #[ue, ut, ug, .int .i64 lost, .int .i64 next, .bool opn] 91)))
  have HY := Lib.hid (RmBox.new (w.alloc (.cells #[ve, vt, vg, .int .i64 lost, .int .i64 next, .bool opn] 39)) ue ut ug lost next opn)
  have HB := Lib.hid (bstep HB1.out (bel_alloc _ (.cells #[ue, ut, ug, .int .i64 lost, .int .i64 next, .bool opn] 91)))
  have E1 := Lib.hid (And.intro h1 (And.intro h2 h3))
  have E2 := Lib.hid (And.intro k1 (And.intro k2 k3))
  have HL := Lib.hid (And.intro b1 (And.intro b2 b3))
  clear h1 h2 h3 k1 k2 k3 HB1 b1 b2 b3
  unfold mgA
  go_enter Tryz.func45, Tryz.ntmps45
  go_upto_region 1 with fail
  have hsz : (w.alloc (.cells #[ve, vt, vg, .int .i64 lost, .int .i64 next, .bool opn] 39)).heap.size = w.heap.size + 1 := by simp
  try rw [hsz] at HY
  generalize (w.alloc (.cells #[ve, vt, vg, .int .i64 lost, .int .i64 next, .bool opn] 39)).alloc (.cells #[ue, ut, ug, .int .i64 lost, .int .i64 next, .bool opn] 91) = w1 at HX HY HB ⊢
  clear hsz
  generalize w.heap.size + 1 = Y at HY ⊢
  obtain ⟨X, hX⟩ : ∃ X, w.heap.size = X := ⟨_, rfl⟩
  rw [hX] at HX ⊢
  clear hX
  have HT := Lib.hid (turned12_ok w1 ve vt vg R T G lost next opn (E1.out.1.below HB.out) (E1.out.2.1.below HB.out) (E1.out.2.2.below HB.out) HL.out.1 HL.out.2.1 HL.out.2.2)
  have a0 := HX.out.c0
  have a1 := HX.out.c1
  have a2 := HX.out.c2
  have a3 := HX.out.c3
  have a4 := HX.out.c4
  have a5 := HX.out.c5
  unfold mgA at HT
  go_wp2_with fail
  refine HT.out.mono ?_
  rintro r w2 ⟨A1, n1, c1, A2, n2, c2, A3, n3, c3, rfl, o1, o2, o3, bb⟩
  have HY2 := Lib.hid (HY.out.below bb)
  have HB2 := Lib.hid (bstep HB.out bb)
  have HA3 := Lib.hid (bel_alloc w2 (.cells #[.slice A1 n1 c1, .slice A2 n2 c2, .slice A3 n3 c3, .int .i64 lost, .int .i64 next, .bool opn] 91))
  have HU := Lib.hid (RmBox.new w2 (.slice A1 n1 c1) (.slice A2 n2 c2) (.slice A3 n3 c3) lost next opn)
  have HO := Lib.hid (show EV encE 11 w2 (.slice A1 n1 c1) R ∧ EV encI 1 w2 (.slice A2 n2 c2) T ∧ EV encP 2 w2 (.slice A3 n3 c3) G from ⟨o1.ev encE_len, o2.ev encI_len, o3.ev encP_len⟩)
  clear bb a0 a1 a2 a3 a4 a5 o1 o2 o3 HX HY HB HT E1
  go_upto_region 2 with fail
  have HO3 := Lib.hid (show EV encE 11 _ (.slice A1 n1 c1) R ∧ EV encI 1 _ (.slice A2 n2 c2) T ∧ EV encP 2 _ (.slice A3 n3 c3) G from ⟨HO.out.1.below HA3.out, HO.out.2.1.below HA3.out, HO.out.2.2.below HA3.out⟩)
  have HY3 := Lib.hid (HY2.out.below HA3.out)
  have HB3 := Lib.hid (bstep HB2.out HA3.out)
  clear HY2 HB2 HA3 HO
  generalize w2.alloc (.cells #[.slice A1 n1 c1, .slice A2 n2 c2, .slice A3 n3 c3, .int .i64 lost, .int .i64 next, .bool opn] 91) = w3 at HU HY3 HB3 HO3 ⊢
  generalize w2.heap.size = U at HU ⊢
  have a0 := HU.out.c0
  have d0 := HY3.out.c0
  go_wp2_with fail
  refine (eq_rev w3 (.slice A1 n1 c1) ue R HO3.out.1 (E2.out.1.below HB3.out) (by have := HL.out; omega)).mono ?_
  rintro r w4 ⟨rfl, bb⟩
  have HB4 := Lib.hid (bstep HB3.out bb)
  have HU4 := Lib.hid (HU.out.below bb)
  have HY4 := Lib.hid (HY3.out.below bb)
  have HO4 := Lib.hid (And.intro (HO3.out.2.1.below bb) (HO3.out.2.2.below bb))
  clear bb a0 d0 HU HY3 HB3 HO3
  have a1 := HU4.out.c1
  have d1 := HY4.out.c1
  go_wp2_with fail
  refine (eq_int w4 (.slice A2 n2 c2) ut T HO4.out.1 (E2.out.2.1.below HB4.out) (by have := HL.out; omega)).mono ?_
  rintro r w5 ⟨rfl, bb⟩
  have HB5 := Lib.hid (bstep HB4.out bb)
  have HU5 := Lib.hid (HU4.out.below bb)
  have HY5 := Lib.hid (HY4.out.below bb)
  have HO5 := Lib.hid (HO4.out.2.below bb)
  clear bb a1 d1 HU4 HY4 HB4 HO4
  have a2 := HU5.out.c2
  have d2 := HY5.out.c2
  go_wp2_with fail
  refine (equal_rrun_same w5 (.slice A3 n3 c3) ug G HO5.out (E2.out.2.2.below HB5.out) (by have := HL.out; omega)).mono ?_
  rintro r w6 ⟨rfl, bb⟩
  have HB6 := Lib.hid (bstep HB5.out bb)
  have HU6 := Lib.hid (HU5.out.below bb)
  have HY6 := Lib.hid (HY5.out.below bb)
  clear bb a2 d2 HU5 HY5 HB5 HO5
  have a3 := HU6.out.c3
  have d3 := HY6.out.c3
  have a4 := HU6.out.c4
  have d4 := HY6.out.c4
  have a5 := HU6.out.c5
  have d5 := HY6.out.c5
  cases opn
  all_goals
    go_wp2
    go_ret
    exact ⟨rfl, HB6.out⟩
end Go.Proofs.YtalophngappkhaaGreatDoor

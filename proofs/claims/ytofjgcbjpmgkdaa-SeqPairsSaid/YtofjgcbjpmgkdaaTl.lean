/- The walks of the laws SeqTells, SeqPairs and SeqNumbers, and how their arguments read. -/
import Derived.Test.YtofjgcbjpmgkdaaSz
import Derived.Test.YtofjgcbjpmgkdaaTa
import Derived.Test.YtofjgcbjpmgkdaaTb
import Derived.Test.YtofjgcbjpmgkdaaTc
import Derived.Test.YtofjgcbjpmgkdaaOp
set_option linter.unusedVariables false
set_option linter.unusedSimpArgs false
set_option linter.unusedSectionVars false
namespace Go.Proofs.Ytofjgcbjpmgkdaa
open Go Go.RowKit Go.Deep Go.ChangeShapes Go.WideShapes

def RunArg (w : World) (v : Value) (gs : List (Int × Int)) : Prop := EV encP 2 w v gs ∧ gs.length ≤ maxLen
theorem run_open {H : Type} {encd : TypeId × Value → H} {w : World} {base : Nat} {spare : Nat → Bool} {held : Bool} {fuel : Nat} {v : Value} {x : DataW H × List MemPlace}
    (h : DataW.trod encd Try.prog w base spare held fuel 22 [v] = some x) : ∃ gs, RunArg w v gs := by
  obtain ⟨A, len, cap, xs, rfl, h1, h2, h3, _⟩ := open_rows (enc := encP) (k := 2) Try.underlying22 (by kernel_rfl) (by omega)
    (fun n cs y hy => flat_two Try.underlying35 (by kernel_rfl) rfl rfl (by kernel_rfl) (by kernel_rfl) Try.underlying3 Try.underlying3 hy) h
  exact ⟨xs, h1, by omega⟩

set_option maxRecDepth 100000 in
set_option maxHeartbeats 1000000 in
theorem tellsLaw_walk (w : World) (v : Value) (l : List (Int × Int)) (a b : Int) (h : RunArg w v l) (ha : (Lit.int .i64 a).wf = true) (hb : (Lit.int .i64 b).wf = true) :
    Calls Try.prog 9 #[v, .int .i64 a, .int .i64 b] w fun e w' => e = .returned (.bool true) ∧ Below w.heap.size w w' := by
  obtain ⟨hv, hm⟩ := h
  unfold maxLen at hm
  have wa := wf_i64 ha
  obtain ⟨A, cc, rfl⟩ := hv.shape
  by_cases h1 : 60 < l.length
  · clear hv ha hb wa
    go_enter Try.func9, Try.ntmps9
    go_wp2_with fail
    refine (awake_ok w).mono ?_
    rintro e w1 ⟨rfl, b1⟩
    go_wp2
    go_ret
    exact ⟨rfl, b1⟩
  · have TE := Lib.hid (one_ok w _ l a b hv (by omega) wa.1 wa.2)
    clear hv ha hb wa
    go_enter Try.func9, Try.ntmps9
    go_wp2_with fail
    refine TE.out.mono ?_
    rintro e w0 ⟨rfl, b0⟩
    have s0 := b0.size
    go_wp2_with fail
    refine (awake_ok w0).mono ?_
    rintro e w1 ⟨rfl, b1⟩
    have b2 := b0.trans (b1.mono s0)
    go_wp2
    go_ret
    exact ⟨rfl, b2⟩
set_option maxRecDepth 100000 in
set_option maxHeartbeats 1000000 in
theorem pairsLaw_walk (w : World) (v v2 : Value) (l l2 : List (Int × Int)) (h : RunArg w v l) (h' : RunArg w v2 l2) :
    Calls Try.prog 3 #[v, v2] w fun e w' => e = .returned (.bool true) ∧ Below w.heap.size w w' := by
  obtain ⟨hv, hm⟩ := h
  obtain ⟨hv2, hm2⟩ := h'
  unfold maxLen at hm hm2
  obtain ⟨A, cc, rfl⟩ := hv.shape
  obtain ⟨A2, cc2, rfl⟩ := hv2.shape
  by_cases h1 : 40 < l.length
  · clear hv hv2
    go_enter Try.func3, Try.ntmps3
    go_wp2_with fail
    refine (awake_ok w).mono ?_
    rintro e w1 ⟨rfl, b1⟩
    go_wp2
    go_ret
    exact ⟨rfl, b1⟩
  by_cases h2 : 40 < l2.length
  · clear hv hv2
    go_enter Try.func3, Try.ntmps3
    go_wp2_with fail
    refine (awake_ok w).mono ?_
    rintro e w1 ⟨rfl, b1⟩
    go_wp2
    go_ret
    exact ⟨rfl, b1⟩
  · have TE := Lib.hid (two_ok w _ _ l l2 hv hv2 (by omega) (by omega))
    clear hv hv2
    go_enter Try.func3, Try.ntmps3
    go_wp2_with fail
    refine TE.out.mono ?_
    rintro e w0 ⟨rfl, b0⟩
    have s0 := b0.size
    go_wp2_with fail
    refine (awake_ok w0).mono ?_
    rintro e w1 ⟨rfl, b1⟩
    have b2 := b0.trans (b1.mono s0)
    go_wp2
    go_ret
    exact ⟨rfl, b2⟩
set_option maxRecDepth 100000 in
set_option maxHeartbeats 1000000 in
theorem numbersLaw_walk (w : World) (a : Option Addr) (len cap : Nat) (zs : List Int) (h : IsRow .i64 w a len cap zs) :
    Calls Try.prog 5 #[.slice a len cap] w fun e w' => e = .returned (.bool true) ∧ Below w.heap.size w w' := by
  obtain ⟨hv, hl, hm, _⟩ := row_ev encI id (fun _ _ => rfl) h
  unfold maxLen at hm
  generalize (zs.take len).map id = ns at hv hl
  subst hl
  clear h
  have TE := Lib.hid (fun (h : ns.length < 65600) => ofL_ok w _ ns hv (by omega))
  generalize ns.length = N at *
  clear hv
  by_cases h1 : 60 < N ∧ N ≤ 65536
  · have d1 : decide ((60 : Int) < (N : Int)) = true := by rw [decide_eq_true_eq]; omega
    have d2 : decide ((N : Int) ≤ 65536) = true := by rw [decide_eq_true_eq]; omega
    clear h1 TE
    go_enter Try.func5, Try.ntmps5
    go_wp2_with fail
    refine (awake_ok w).mono ?_
    rintro e w1 ⟨rfl, b1⟩
    go_wp2
    go_ret
    exact ⟨rfl, b1⟩
  by_cases h2 : 65600 ≤ N
  · have d1 : decide ((60 : Int) < (N : Int)) = true := by rw [decide_eq_true_eq]; omega
    have d2 : decide ((N : Int) ≤ 65536) = false := by rw [decide_eq_false_iff_not]; omega
    have d3 : decide ((65600 : Int) ≤ (N : Int)) = true := by rw [decide_eq_true_eq]; omega
    clear h1 h2 TE
    go_enter Try.func5, Try.ntmps5
    go_wp2_with fail
    refine (awake_ok w).mono ?_
    rintro e w1 ⟨rfl, b1⟩
    go_wp2
    go_ret
    exact ⟨rfl, b1⟩
  · have d3 : decide ((65600 : Int) ≤ (N : Int)) = false := by rw [decide_eq_false_iff_not]; omega
    have TE := Lib.hid (TE.out (by omega))
    by_cases h4 : 60 < N
    · have d1 : decide ((60 : Int) < (N : Int)) = true := by rw [decide_eq_true_eq]; omega
      have d2 : decide ((N : Int) ≤ 65536) = false := by rw [decide_eq_false_iff_not]; omega
      clear h1 h2 h4
      go_enter Try.func5, Try.ntmps5
      go_wp2_with fail
      refine TE.out.mono ?_
      rintro e w0 ⟨rfl, b0⟩
      have s0 := b0.size
      go_wp2_with fail
      refine (awake_ok w0).mono ?_
      rintro e w1 ⟨rfl, b1⟩
      have b2 := b0.trans (b1.mono s0)
      go_wp2
      go_ret
      exact ⟨rfl, b2⟩
    · have d1 : decide ((60 : Int) < (N : Int)) = false := by rw [decide_eq_false_iff_not]; omega
      clear h1 h2 h4
      go_enter Try.func5, Try.ntmps5
      go_wp2_with fail
      refine TE.out.mono ?_
      rintro e w0 ⟨rfl, b0⟩
      have s0 := b0.size
      go_wp2_with fail
      refine (awake_ok w0).mono ?_
      rintro e w1 ⟨rfl, b1⟩
      have b2 := b0.trans (b1.mono s0)
      go_wp2
      go_ret
      exact ⟨rfl, b2⟩
end Go.Proofs.Ytofjgcbjpmgkdaa

/- The walk of the law GroupTells, and how its first argument reads. -/
import Derived.Test.YtkkmmbmjpfecdaaGl6
import Derived.Test.YtkkmmbmjpfecdaaOp
namespace Go.Proofs.Ytkkmmbmjpfecdaa
open Go Go.RowKit Go.Deep Go.ChangeShapes Go.WideShapes

def GrpArg (w : World) (v : Value) (gs : List (Int × Int)) : Prop := EV encG 2 w v gs ∧ gs.length ≤ maxLen
theorem grp_open {H : Type} {encd : TypeId × Value → H} {w : World} {base : Nat} {spare : Nat → Bool} {held : Bool} {fuel : Nat} {v : Value} {x : DataW H × List MemPlace}
    (h : DataW.trod encd Try.prog w base spare held fuel 24 [v] = some x) : ∃ gs, GrpArg w v gs := by
  obtain ⟨A, len, cap, xs, rfl, h1, h2, h3, _⟩ := open_rows (enc := encG) (k := 2) Try.underlying24 (by kernel_rfl) (by omega)
    (fun n cs y hy => flat_two Try.underlying38 (by kernel_rfl) rfl rfl (by kernel_rfl) (by kernel_rfl) Try.underlying3 Try.underlying3 hy) h
  exact ⟨xs, h1, by omega⟩

set_option maxHeartbeats 1000000 in
theorem tellsLaw_walk (w : World) (v : Value) (gs : List (Int × Int)) (a b c : Int) (h : GrpArg w v gs) :
    Calls Try.prog 4 #[v, .int .i64 a, .int .i64 b, .int .i64 c] w fun e w' => e = .returned (.bool true) ∧ Below w.heap.size w w' := by
  obtain ⟨hv, hm⟩ := h
  unfold maxLen at hm
  obtain ⟨A, cc, rfl⟩ := hv.shape
  by_cases h1 : 40 < gs.length ∧ gs.length ≤ 256
  · obtain ⟨h1, h2⟩ := h1
    have AW := Lib.hid (awake_ok w)
    clear hv
    go_enter Try.func4, Try.ntmps4
    go_wp2_with fail
    refine AW.out.mono ?_
    rintro e w1 ⟨rfl, b1⟩
    go_wp2
    go_ret
    exact ⟨rfl, b1⟩
  · by_cases h2 : 270 < gs.length
    · have h3 : 256 < gs.length := by omega
      have h4 : 40 < gs.length := by omega
      have AW := Lib.hid (awake_ok w)
      clear hv h1
      go_enter Try.func4, Try.ntmps4
      go_wp2_with fail
      refine AW.out.mono ?_
      rintro e w1 ⟨rfl, b1⟩
      go_wp2
      go_ret
      exact ⟨rfl, b1⟩
    · have TE := Lib.hid (tells_ok w _ gs a b c hv (by omega))
      by_cases h4 : 40 < gs.length
      · have h3 : 256 < gs.length := by omega
        clear hv h1
        go_enter Try.func4, Try.ntmps4
        go_wp2_with fail
        refine TE.out.mono ?_
        rintro e w0 ⟨rfl, b0⟩
        have s0 := b0.size
        go_wp2_with fail
        refine (awake_ok w0).mono ?_
        rintro e w1 ⟨rfl, b1⟩
        have b2 := b0.trans (b1.mono s0)
        go_wp2
        go_ret
        exact ⟨rfl, b2⟩
      · clear hv h1
        go_enter Try.func4, Try.ntmps4
        go_wp2_with fail
        refine TE.out.mono ?_
        rintro e w0 ⟨rfl, b0⟩
        have s0 := b0.size
        go_wp2_with fail
        refine (awake_ok w0).mono ?_
        rintro e w1 ⟨rfl, b1⟩
        have b2 := b0.trans (b1.mono s0)
        go_wp2
        go_ret
        exact ⟨rfl, b2⟩
end Go.Proofs.Ytkkmmbmjpfecdaa

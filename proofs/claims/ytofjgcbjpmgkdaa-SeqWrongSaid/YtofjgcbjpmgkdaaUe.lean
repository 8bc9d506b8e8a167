/- What the functions tell of a wrong set, for the walk of SeqWrong. -/
import Derived.Test.YtofjgcbjpmgkdaaUc
import Derived.Test.YtofjgcbjpmgkdaaTe
set_option linter.unusedVariables false
set_option linter.unusedSimpArgs false
set_option linter.unusedSectionVars false
namespace Go.Proofs.Ytofjgcbjpmgkdaa
open Go Go.RowKit Go.Shelf

theorem rerr_w {a : List (Int × Int)} (h : rightB a = false) : rerr [a] = 90 := (wrong_all (G := []) h).1
theorem count_w (w : World) (v : Value) (a : List (Int × Int)) (hv : EV encP 2 w v a) (la : a.length ≤ 1000) (ha : rightB a = false) :
    Calls Try.prog 26 #[v] w fun e w' => (∃ x, e = .returned (.tuple #[.int .i64 x, .int .i64 90])) ∧ Below w.heap.size w w' := by
  have := count_ok w v a hv (by omega)
  rw [rerr_w ha] at this
  exact this.mono fun e w' h => ⟨⟨_, h.1⟩, h.2⟩
theorem has_w (w : World) (v : Value) (a : List (Int × Int)) (n : Int) (hv : EV encP 2 w v a) (la : a.length ≤ 1000) (ha : rightB a = false) (n1 : -9223372036854775808 ≤ n) (n2 : n ≤ 9223372036854775807) :
    Calls Try.prog 31 #[v, .int .i64 n] w fun e w' => (∃ x, e = .returned (.tuple #[.bool x, .int .i64 90])) ∧ Below w.heap.size w w' := by
  have := has_ok w v a n hv (by omega) n1 n2
  rw [rerr_w ha] at this
  exact this.mono fun e w' h => ⟨⟨_, h.1⟩, h.2⟩
theorem missing_w (w : World) (v : Value) (a : List (Int × Int)) (f n : Int) (hv : EV encP 2 w v a) (la : a.length ≤ 1000) (ha : rightB a = false) :
    Calls Try.prog 16 #[v, .int .i64 f, .int .i64 n] w fun e w' => (∃ x, e = .returned (.tuple #[x, .int .i64 90])) ∧ Below w.heap.size w w' := by
  have := missing_ok w v a f n hv (by omega)
  rw [show missE a f n = 90 from by unfold missE; rw [rerr_w ha]; rfl] at this
  exact this.mono fun e w' ⟨r, h1, _, h3⟩ => ⟨⟨_, h1⟩, h3⟩
theorem first_w (w : World) (v : Value) (a : List (Int × Int)) (f n : Int) (hv : EV encP 2 w v a) (la : a.length ≤ 1000) (ha : rightB a = false) :
    Calls Try.prog 17 #[v, .int .i64 f, .int .i64 n] w fun e w' => (∃ x, e = .returned (.tuple #[.int .i64 x, .int .i64 90])) ∧ Below w.heap.size w w' := by
  have := first_ok w v a f n hv (by omega)
  rw [show firstE a f n = 90 from by unfold firstE missE; rw [rerr_w ha]; rfl] at this
  exact this.mono fun e w' h => ⟨⟨_, h.1⟩, h.2⟩
theorem missing_a (w : World) (v : Value) (a : List (Int × Int)) (f n : Int) (hv : EV encP 2 w v a) (ha : rightB a = true) (h : f < 1 ∨ n < f ∨ 281474976710657 < n) :
    Calls Try.prog 16 #[v, .int .i64 f, .int .i64 n] w fun e w' => (∃ x, e = .returned (.tuple #[x, .int .i64 2])) ∧ Below w.heap.size w w' := by
  have := missing_ok w v a f n hv (by have := right_len ha; omega)
  rw [show missE a f n = 2 from by unfold missE; rw [rerr_one0 ha, if_neg (by simp), if_pos h]] at this
  exact this.mono fun e w' ⟨r, h1, _, h3⟩ => ⟨⟨_, h1⟩, h3⟩
theorem first_a (w : World) (v : Value) (a : List (Int × Int)) (f n : Int) (hv : EV encP 2 w v a) (ha : rightB a = true) (h : f < 1 ∨ n < f ∨ 281474976710657 < n) :
    Calls Try.prog 17 #[v, .int .i64 f, .int .i64 n] w fun e w' => (∃ x, e = .returned (.tuple #[.int .i64 x, .int .i64 2])) ∧ Below w.heap.size w w' := by
  have := first_ok w v a f n hv (by have := right_len ha; omega)
  have hm : missE a f n = 2 := by unfold missE; rw [rerr_one0 ha, if_neg (by simp), if_pos h]
  rw [show firstE a f n = 2 from by unfold firstE; rw [hm]; rfl] at this
  exact this.mono fun e w' h => ⟨⟨_, h.1⟩, h.2⟩
theorem right_w (w : World) (v : Value) (a : List (Int × Int)) (hv : EV encP 2 w v a) (la : a.length ≤ 1000) (ha : rightB a = false) :
    Calls Try.prog 18 #[v] w fun e w' => e = .returned (.bool false) ∧ Below w.heap.size w w' := by
  have := right_ok w v a hv (by omega)
  rwa [ha] at this
theorem union_w (w : World) (v u : Value) (a b : List (Int × Int)) (hv : EV encP 2 w v a) (hu : EV encP 2 w u b) (la : a.length ≤ 1000) (lb : b.length ≤ 1000) (h : rightB a = false ∨ rightB b = false) :
    Calls Try.prog 20 #[v, u] w fun e w' => (∃ A c, e = .returned (.tuple #[.slice A 0 c, .int .i64 90])) ∧ Below w.heap.size w w' := by
  have := union_ok w v u a b hv hu (by omega) (by omega)
  have hr : rerr [a, b] = 90 := h.elim (fun h => (wrong_all h).2.1) (fun h => (wrong_all h).2.2)
  rw [hr, if_neg (by decide)] at this
  refine this.mono fun e w' ⟨r, h1, h2, h3⟩ => ⟨?_, h3⟩
  obtain ⟨A, c, hs⟩ := (h2.ev encP_len).shape
  subst hs
  exact ⟨A, c, h1⟩
theorem common_w (w : World) (v u : Value) (a b : List (Int × Int)) (hv : EV encP 2 w v a) (hu : EV encP 2 w u b) (la : a.length ≤ 1000) (lb : b.length ≤ 1000) (h : rightB a = false ∨ rightB b = false) :
    Calls Try.prog 19 #[v, u] w fun e w' => (∃ A c, e = .returned (.tuple #[.slice A 0 c, .int .i64 90])) ∧ Below w.heap.size w w' := by
  have := common_ok w v u a b hv hu (by omega) (by omega)
  have hr : rerr [a, b] = 90 := h.elim (fun h => (wrong_all h).2.1) (fun h => (wrong_all h).2.2)
  rw [hr, if_neg (by decide)] at this
  refine this.mono fun e w' ⟨r, h1, h2, h3⟩ => ⟨?_, h3⟩
  obtain ⟨A, c, hs⟩ := (h2.ev encP_len).shape
  subst hs
  exact ⟨A, c, h1⟩
theorem without_w (w : World) (v u : Value) (a b : List (Int × Int)) (hv : EV encP 2 w v a) (hu : EV encP 2 w u b) (la : a.length ≤ 1000) (lb : b.length ≤ 1000) (h : rightB a = false ∨ rightB b = false) :
    Calls Try.prog 29 #[v, u] w fun e w' => (∃ A c, e = .returned (.tuple #[.slice A 0 c, .int .i64 90])) ∧ Below w.heap.size w w' := by
  have := without_ok w v u a b hv hu (by omega) (by omega)
  have hr : rerr [a, b] = 90 := h.elim (fun h => (wrong_all h).2.1) (fun h => (wrong_all h).2.2)
  rw [hr, if_neg (by decide)] at this
  refine this.mono fun e w' ⟨r, h1, h2, h3⟩ => ⟨?_, h3⟩
  obtain ⟨A, c, hs⟩ := (h2.ev encP_len).shape
  subst hs
  exact ⟨A, c, h1⟩
/-- Of, at a literal of bad numbers. -/
theorem of_w (w : World) (m n : Nat) (ns : List Int) (cs : Array Value) (hm : w.heap.size = m) (hcs : cs.toList = ns.flatMap encI) (hn : ns.length = n) (hl : n ≤ 1000) (h : ns.all okN = false) :
    Calls Try.prog 23 #[.slice (some ⟨m, 0, none⟩) n n] (w.alloc (.cells cs 3)) fun e w' => (∃ a b, e = .returned (.tuple #[a, b, .int .i64 2])) ∧ Below w.heap.size w w' := by
  have := of_ok (w.alloc (.cells cs 3)) (.slice (some ⟨m, 0, none⟩) n n) ns (EV.newM encI_len hcs hn hm) (by omega)
  rw [show ofE ns = 2 from by unfold ofE; rw [if_neg (by omega), if_neg (by rw [h]; simp)]] at this
  exact this.mono fun e w' ⟨a, b, h1, _, _, h4⟩ => ⟨⟨_, _, h1⟩, (bel_alloc _ _).trans (h4.mono (by simp))⟩
end Go.Proofs.Ytofjgcbjpmgkdaa

/- The outright laws' contracts for right sets. -/
import Derived.Test.YtofjgcbjpmgkdaaTd
import Derived.Test.YtofjgcbjpmgkdaaTc
import Derived.Test.YtofjgcbjpmgkdaaFin
set_option linter.unusedVariables false
set_option linter.unusedSimpArgs false
set_option linter.unusedSectionVars false
namespace Go.Proofs.Ytofjgcbjpmgkdaa
open Go.RowKit Go.Shelf

theorem rerr_two0 {a b : List (Int × Int)} (ha : rightB a = true) (hb : rightB b = true) : rerr [a, b] = 0 := rerr_two.2 ⟨ha, hb⟩
theorem rerr_one0 {a : List (Int × Int)} (ha : rightB a = true) : rerr [a] = 0 := by rw [rerr_one, ha]; rfl
theorem right_len {a : List (Int × Int)} (ha : rightB a = true) : a.length ≤ 65536 ∧ Can 0 a := right_iff.1 ha
theorem both_right {tk : Bool → Bool → Bool} {a b : List (Int × Int)} (ht : tk false false = false) (ha : rightB a = true) (hb : rightB b = true) (la : a.length ≤ 10000) (lb : b.length ≤ 10000) : rightB (bothL tk a b) = true := by
  refine right_iff.2 ⟨by have := bothL_len (tk := tk) a b; omega, (both_spec (take := tk) ht (right_len ha).2 (right_len hb).2).1⟩
theorem both_has {tk : Bool → Bool → Bool} {a b : List (Int × Int)} (ht : tk false false = false) (ha : rightB a = true) (hb : rightB b = true) (n : Int) : hasR (bothL tk a b) n = tk (hasR a n) (hasR b n) :=
  (both_spec (take := tk) ht (right_len ha).2 (right_len hb).2).2 n
theorem union_r (w : World) (v u : Value) (a b : List (Int × Int)) (hv : EV encP 2 w v a) (hu : EV encP 2 w u b) (ha : rightB a = true) (hb : rightB b = true) :
    Calls Try.prog 20 #[v, u] w fun e w' => ∃ r, e = .returned (.tuple #[r, .int .i64 0]) ∧ OV encP 2 35 w.heap.size w' r (bothL tkU a b) ∧ Below w.heap.size w w' := by
  have := union_ok w v u a b hv hu (by have := right_len ha; omega) (by have := right_len hb; omega)
  rwa [rerr_two0 ha hb, if_pos rfl] at this
theorem common_r (w : World) (v u : Value) (a b : List (Int × Int)) (hv : EV encP 2 w v a) (hu : EV encP 2 w u b) (ha : rightB a = true) (hb : rightB b = true) :
    Calls Try.prog 19 #[v, u] w fun e w' => ∃ r, e = .returned (.tuple #[r, .int .i64 0]) ∧ OV encP 2 35 w.heap.size w' r (bothL tkC a b) ∧ Below w.heap.size w w' := by
  have := common_ok w v u a b hv hu (by have := right_len ha; omega) (by have := right_len hb; omega)
  rwa [rerr_two0 ha hb, if_pos rfl] at this
theorem without_r (w : World) (v u : Value) (a b : List (Int × Int)) (hv : EV encP 2 w v a) (hu : EV encP 2 w u b) (ha : rightB a = true) (hb : rightB b = true) :
    Calls Try.prog 29 #[v, u] w fun e w' => ∃ r, e = .returned (.tuple #[r, .int .i64 0]) ∧ OV encP 2 35 w.heap.size w' r (bothL tkW a b) ∧ Below w.heap.size w w' := by
  have := without_ok w v u a b hv hu (by have := right_len ha; omega) (by have := right_len hb; omega)
  rwa [rerr_two0 ha hb, if_pos rfl] at this
theorem right_t (w : World) (v : Value) (a : List (Int × Int)) (hv : EV encP 2 w v a) (ha : rightB a = true) :
    Calls Try.prog 18 #[v] w fun e w' => e = .returned (.bool true) ∧ Below w.heap.size w w' := by
  have := right_ok w v a hv (by have := right_len ha; omega)
  rwa [ha] at this
theorem has_r (w : World) (v : Value) (a : List (Int × Int)) (n : Int) (hv : EV encP 2 w v a) (ha : rightB a = true) (n1 : -9223372036854775808 ≤ n) (n2 : n ≤ 9223372036854775807) :
    Calls Try.prog 31 #[v, .int .i64 n] w fun e w' => e = .returned (.tuple #[.bool (hasR a n), .int .i64 0]) ∧ Below w.heap.size w w' := by
  have := has_ok w v a n hv (by have := right_len ha; omega) n1 n2
  unfold hasV at this
  rwa [rerr_one0 ha, if_pos rfl] at this
theorem lhas_r (w : World) (v : Value) (a : List (Int × Int)) (n : Int) (hv : EV encP 2 w v a) (ha : rightB a = true) :
    Calls Try.prog 25 #[v, .int .i64 n] w fun e w' => e = .returned (.bool (hasR a n)) ∧ Below w.heap.size w w' :=
  lhas_ok w v a n hv (by have := right_len ha; omega) (right_len ha).2
theorem count_r (w : World) (v : Value) (a : List (Int × Int)) (hv : EV encP 2 w v a) (ha : rightB a = true) :
    Calls Try.prog 26 #[v] w fun e w' => e = .returned (.tuple #[.int .i64 (cntR a), .int .i64 0]) ∧ Below w.heap.size w w' := by
  have := count_ok w v a hv (by have := right_len ha; omega)
  unfold cntV at this
  rwa [rerr_one0 ha, if_pos rfl] at this
theorem ends_two (w : World) (v u : Value) (a b : List (Int × Int)) (m : Nat) (hm : w.heap.size = m) (hv : EV encP 2 w v a) (hu : EV encP 2 w u b) (ha : rightB a = true) (hb : rightB b = true) :
    Calls Try.prog 30 #[.slice (some ⟨m, 0, none⟩) 2 2] (w.alloc (.cells #[v, u] 22)) fun e w' => ∃ r zs, e = .returned r ∧ OV encI 1 3 w.heap.size w' r zs ∧ zs.length ≤ 4000000 ∧ (∀ z ∈ zs, -1 ≤ z ∧ z ≤ 562949953421312) ∧ Below w.heap.size w w' := by
  have la := right_len ha
  have lb := right_len hb
  refine (ends_ok _ _ [(v, a), (u, b)] ⟨EV.newM encV_len rfl rfl hm, fun x hx => ?_⟩ (fun x hx => ?_) (by simp)).mono fun e w' ⟨r, zs, h1, h2, h3, h4, h5⟩ => ⟨r, zs, h1, h2.base_le (by simp), h3, h4, (bel_alloc _ _).trans (h5.mono (by simp))⟩
  · simp at hx
    rcases hx with rfl | rfl
    · exact ⟨hv.below (bel_alloc _ _), by dsimp only; omega⟩
    · exact ⟨hu.below (bel_alloc _ _), by dsimp only; omega⟩
  · simp at hx
    rcases hx with rfl | rfl
    · exact la
    · exact lb
/-- A row of bytes. -/
theorem row_bytes {w : World} {a : Option Addr} {len cap : Nat} {zs : List Int} (h : IsRow .u8 w a len cap zs) :
    ∃ xs, EV encB 1 w (.slice a len cap) xs ∧ xs.length = len ∧ len ≤ cap ∧ (a = none → cap = 0) ∧ (∀ b ∈ xs, 0 ≤ b ∧ b ≤ 255) ∧ len ≤ 9223372036854775807 := by
  obtain ⟨h1, h2, h3, h4⟩ := row_ev encB id (fun _ _ => rfl) h
  refine ⟨_, h1, h2, ?_, ?_, fun b hb => ?_, by unfold maxLen at h3; omega⟩
  · rcases h with ⟨_, rfl, rfl, _⟩ | ⟨x, _, h, _⟩
    · exact Nat.le_refl _
    · exact h
  · rintro rfl
    rcases h with ⟨_, _, rfl, _⟩ | ⟨x, h, _⟩
    · rfl
    · cases h
  · simp at hb
    exact wf_u8 (h4 b (List.mem_of_mem_take hb))
/-- Made, at a row of bytes that came in. -/
def MadeArg (w : World) (v : Value) (a : List (Int × Int)) : Prop := rightB a = true ∧ a.length ≤ 30 ∧ ∀ w2, Below w.heap.size w w2 →
  Calls Try.prog 14 #[v] w2 fun e w' => ∃ r, e = .returned r ∧ OV encP 2 35 w2.heap.size w' r a ∧ Below w2.heap.size w2 w'
theorem made_arg {w : World} {a : Option Addr} {len cap : Nat} {zs : List Int} (h : IsRow .u8 w a len cap zs) : ∃ l, MadeArg w (.slice a len cap) l := by
  obtain ⟨xs, h1, h2, h3, h4, h5, h6⟩ := row_bytes h
  obtain ⟨m1, m2, m3⟩ := made_ok' h5
  exact ⟨madeL xs, m3, m2, fun w2 hb => made_ok w2 a len cap xs (h1.below hb) h2 h3 h4 h5 h6⟩
end Go.Proofs.Ytofjgcbjpmgkdaa

/- Rows of slices; the law SeqSmall's helper odd. -/
import Derived.Test.YtofjgcbjpmgkdaaTe
import Derived.Test.YtofjgcbjpmgkdaaSz
import Derived.Test.YtofjgcbjpmgkdaaTa
import Derived.Test.YtofjgcbjpmgkdaaTb
set_option linter.unusedVariables false
set_option linter.unusedSimpArgs false
set_option linter.unusedSectionVars false
namespace Go.Proofs.Ytofjgcbjpmgkdaa
open Go.RowKit Go.Shelf

abbrev Sl := (Option Addr × Nat × Nat) × List (Int × Int)
def Sl.v (x : Sl) : Value := .slice x.1.1 x.1.2.1 x.1.2.2
def encS (x : Sl) : List Value := [x.v]
theorem encS_len (x : Sl) : (encS x).length = 1 := rfl
theorem encS_one (x : Sl) : ∀ u ∈ encS x, u.oneCell' = true := by intro u hu; simp [encS] at hu; subst hu; rfl
theorem elemV : ElemT Try.prog 53 22 1 24 := ⟨Try.underlying53, by
  have h : (Try.prog.info? 22).map (fun i => (i.zero, i.size, i.bytes)) = some (some (.slice none 0 0), 1, 24) := by kernel_rfl
  obtain ⟨i, h1, h2, h3, h4⟩ := info_parts h
  exact ⟨i, _, h1, h2, h3, h4, rfl⟩, by omega, by omega⟩

theorem one_lit1 (w : World) (x y f n : Int) {m : Nat} (hm : w.heap.size = m) (f1 : -9223372036854775808 ≤ f) (f2 : f ≤ 9223372036854775807) :
    Calls Try.prog 32 #[.slice (some ⟨m, 0, none⟩) 1 1, .int .i64 f, .int .i64 n] (w.alloc (.cells #[.int .i64 x, .int .i64 y] 35)) fun e w' => e = .returned (.bool true) ∧ Below w.heap.size w w' :=
  (one_ok _ _ [(x, y)] f n (EV.newM encP_len rfl rfl hm) (by simp) f1 f2).mono fun e w' h => ⟨h.1, (bel_alloc _ _).trans (h.2.mono (by simp))⟩
theorem one_lit2 (w : World) (a b x y f n : Int) {m : Nat} (hm : w.heap.size = m) (f1 : -9223372036854775808 ≤ f) (f2 : f ≤ 9223372036854775807) :
    Calls Try.prog 32 #[.slice (some ⟨m, 0, none⟩) 2 2, .int .i64 f, .int .i64 n] (w.alloc (.cells #[.int .i64 a, .int .i64 b, .int .i64 x, .int .i64 y] 35)) fun e w' => e = .returned (.bool true) ∧ Below w.heap.size w w' :=
  (one_ok _ _ [(a, b), (x, y)] f n (EV.newM encP_len rfl rfl hm) (by simp) f1 f2).mono fun e w' h => ⟨h.1, (bel_alloc _ _).trans (h.2.mono (by simp))⟩
theorem of_lit (w : World) (a b c d : Int) {m : Nat} (hm : w.heap.size = m) :
    Calls Try.prog 22 #[.slice (some ⟨m, 0, none⟩) 4 4] (w.alloc (.cells #[.int .i64 a, .int .i64 b, .int .i64 c, .int .i64 d] 3)) fun e w' => e = .returned (.bool true) ∧ Below w.heap.size w w' :=
  (ofL_ok _ _ [a, b, c, d] (EV.newM encI_len rfl rfl hm) (by simp)).mono fun e w' h => ⟨h.1, (bel_alloc _ _).trans (h.2.mono (by simp))⟩
theorem two_lit (w : World) (a b c d : Int) {m : Nat} (hm : w.heap.size = m) :
    Calls Try.prog 12 #[.slice (some ⟨m, 0, none⟩) 1 1, .slice (some ⟨m + 1, 0, none⟩) 1 1] ((w.alloc (.cells #[.int .i64 a, .int .i64 b] 35)).alloc (.cells #[.int .i64 c, .int .i64 d] 35)) fun e w' => e = .returned (.bool true) ∧ Below w.heap.size w w' :=
  (two_ok _ _ _ [(a, b)] [(c, d)] ((EV.newM (e := 35) (cs := #[.int .i64 a, .int .i64 b]) (n := 1) encP_len rfl rfl hm).below (bel_alloc _ (.cells #[.int .i64 c, .int .i64 d] 35)))
    (EV.newM (e := 35) (cs := #[.int .i64 c, .int .i64 d]) (w := w.alloc (.cells #[.int .i64 a, .int .i64 b] 35)) (n := 1) (m := m + 1) encP_len rfl rfl (by simp [hm])) (by simp) (by simp)).mono fun e w' h => ⟨h.1, (bel_alloc2 _ _ _).trans (h.2.mono (by simp; omega))⟩
/-- The runs of odd's long list. -/
def manyR (n : Nat) : List (Int × Int) := (List.range n).map fun (i : Nat) => (1 + 2 * (i : Int), 1)
theorem manyR_len (n : Nat) : (manyR n).length = n := by simp [manyR]
theorem manyR_succ (n : Nat) : manyR (n + 1) = manyR n ++ [(1 + 2 * (n : Int), 1)] := by simp [manyR, List.range_succ]
theorem manyR_end (n : Nat) : endR 0 (manyR n) = 2 * (n : Int) := by
  cases n with
  | zero => rfl
  | succ n => rw [manyR_succ, endR_append]; unfold nxt; push_cast; omega
theorem manyR_can : ∀ n : Nat, n ≤ 100000 → Can 0 (manyR n) ∧ cntR (manyR n) = n
  | 0, _ => ⟨can_nil _, rfl⟩
  | n + 1, h => by
    obtain ⟨h1, h2⟩ := manyR_can n (by omega)
    rw [manyR_succ]
    refine ⟨can_snoc.2 ⟨h1, by rw [manyR_end]; dsimp only; omega, rok_iff.2 ⟨?_, ?_, ?_, ?_⟩⟩, by rw [cntR_append, h2]; simp [cntR]⟩ <;> dsimp only <;> omega
theorem manyR_take {n m : Nat} (h : m ≤ n) : (manyR n).take m = manyR m := by
  unfold manyR
  rw [← List.map_take, List.take_range, Nat.min_eq_left h]
theorem sevens (n : Nat) (h1 : 2 ≤ n) (h2 : n ≤ 65536) : ofE (List.replicate n 7) = 0 ∧ ofL (List.replicate n 7) = [(7, 1)] ∧ ofT (List.replicate n 7) = [7] := by
  refine ofL_eq (by simpa using h2) (List.all_eq_true.2 fun x hx => by rw [List.eq_of_mem_replicate hx]; decide) (show canB 0 _ = true by decide) (fun k => ?_) (by simp) (fun k => ?_)
  · rw [Bool.eq_iff_iff]
    simp only [hasR, List.any_cons, List.any_nil, Bool.or_false, decide_eq_true_eq, List.mem_replicate]
    simp only [nxt]
    constructor <;> intro h <;> omega
  · rw [List.mem_singleton, List.count_replicate]
    by_cases h : k = 7
    · subst h; simp; omega
    · have : (7 == k) = false := by simp; omega
      rw [this]; simp; omega
theorem sevens_far (n : Nat) (h : 65536 < n) : ofE (List.replicate n 7) = 5 ∧ ofL (List.replicate n 7) = [] ∧ ofT (List.replicate n 7) = [] := by
  have hE : ofE (List.replicate n 7) = 5 := by unfold ofE; rw [if_pos (by simpa using h)]
  exact ⟨hE, by unfold ofL; rw [hE]; rfl, by unfold ofT; rw [hE]; rfl⟩
end Go.Proofs.Ytofjgcbjpmgkdaa

/- The reference of layer 6: a field, its limits, which kinds have it; what is wrong with an event. -/
import Derived.Test.YtalophngappkhaaGreatDoorZ2
import Derived.Test.YtalophngappkhaaGreatDoorZ3
set_option linter.unusedVariables false
set_option linter.unusedSimpArgs false
set_option linter.unusedSectionVars false
namespace Go.Proofs.YtalophngappkhaaGreatDoor
open Go.RowKit Go.Shelf
attribute [local go_sem] Oper.semAt_some

set_option maxHeartbeats 800000 in
theorem r6field_ok (w : World) (i : Nat) (e : Ev) (ho : EvOk e) (hi : i < 7) :
    Calls Tryz.prog 130 #[evA e, .int .i64 i] w fun r w' => r = .returned (.tuple #[.int .u64 (valV e i), .bool (okV e i)]) ∧ Below w.heap.size w w' := by
  have hd : i = 0 ∨ i = 1 ∨ i = 2 ∨ i = 3 ∨ i = 4 ∨ i = 5 ∨ i = 6 := by omega
  have HO := Lib.hid ho
  have HA := Lib.hid (fun o => ((Below.refl w.heap.size w).alloc (Nat.le_refl _) o))
  have HB := Lib.hid (fun o o2 => ((Below.refl w.heap.size w).alloc (Nat.le_refl _) o).alloc (by simp) o2)
  clear ho hi
  unfold evA
  rcases hd with rfl | rfl | rfl | rfl | rfl | rfl | rfl
  case inr.inr.inr.inr.inr.inl =>
    go_enter Tryz.func130, Tryz.ntmps130
    go_wp2
    go_ret2
    have ho := HO.out
    obtain ⟨⟨a1, a2⟩, ⟨a3, a4⟩, ⟨a5, a6⟩, ⟨a7, a8⟩, ⟨a9, a10⟩, ⟨a11, a12⟩, ⟨a13, a14⟩, ⟨a15, a16⟩, ⟨a17, a18⟩, ⟨a19, a20⟩, ⟨a21, a22⟩⟩ := ho
    refine ⟨?_, HA.out _⟩
    simp [valV, okV, fieldV]
    omega
  all_goals
    go_enter Tryz.func130, Tryz.ntmps130
    go_wp2
    go_quiet (fail)
    go_wp2
    go_ret2
    have ho := HO.out
    obtain ⟨⟨a1, a2⟩, ⟨a3, a4⟩, ⟨a5, a6⟩, ⟨a7, a8⟩, ⟨a9, a10⟩, ⟨a11, a12⟩, ⟨a13, a14⟩, ⟨a15, a16⟩, ⟨a17, a18⟩, ⟨a19, a20⟩, ⟨a21, a22⟩⟩ := ho
    refine ⟨?_, ?_⟩
    · simp [valV, okV, fieldV, wrapU]
    · exact below_drewN (HB.out _ _) _

def hasF (k : Int) (i : Nat) : Bool := (usesK k.toNat).contains i
set_option maxHeartbeats 1600000 in
theorem r6has_ok (w : World) (k : Int) (i : Nat) (hk : 0 ≤ k ∧ k ≤ 10) (hi : i < 7) :
    Calls Tryz.prog 128 #[.int .u8 k, .int .i64 i] w fun r w' => r = .returned (.bool (hasF k i)) ∧ w' = w := by
  have hd : i = 0 ∨ i = 1 ∨ i = 2 ∨ i = 3 ∨ i = 4 ∨ i = 5 ∨ i = 6 := by omega
  have hkd : k = 0 ∨ k = 1 ∨ k = 2 ∨ k = 3 ∨ k = 4 ∨ k = 5 ∨ k = 6 ∨ k = 7 ∨ k = 8 ∨ k = 9 ∨ k = 10 := by omega
  clear hi hk
  rcases hkd with rfl | rfl | rfl | rfl | rfl | rfl | rfl | rfl | rfl | rfl | rfl <;> rcases hd with rfl | rfl | rfl | rfl | rfl | rfl | rfl
  all_goals
    go_enter Tryz.func128, Tryz.ntmps128
    go_wp2
    go_ret
    exact ⟨by rfl, rfl⟩
set_option maxHeartbeats 1600000 in
theorem r6name_ok (w : World) (k : Int) (hk : 0 ≤ k ∧ k ≤ 255) :
    Calls Tryz.prog 127 #[.int .u8 k] w fun r w' => (∃ s, r = .returned (.string s) ∧ s.toList.isEmpty = decide (k = 0 ∨ 10 < k)) ∧ Below w.heap.size w w' := by
  by_cases h : 10 < k
  · go_enter Tryz.func127, Tryz.ntmps127
    go_wp2
    go_ret
    exact ⟨⟨_, rfl, by rw [show decide (k = 0 ∨ 10 < k) = true from by simp [h]]; kernel_rfl⟩, Below.refl _ _⟩
  · have hkd : k = 0 ∨ k = 1 ∨ k = 2 ∨ k = 3 ∨ k = 4 ∨ k = 5 ∨ k = 6 ∨ k = 7 ∨ k = 8 ∨ k = 9 ∨ k = 10 := by omega
    have HA := Lib.hid (fun o => ((Below.refl w.heap.size w).alloc (Nat.le_refl _) o))
    clear hk h
    rcases hkd with rfl | rfl | rfl | rfl | rfl | rfl | rfl | rfl | rfl | rfl | rfl
    all_goals
      go_enter Tryz.func127, Tryz.ntmps127
      go_wp2
      go_ret
      exact ⟨⟨_, rfl, by kernel_rfl⟩, HA.out _⟩
end Go.Proofs.YtalophngappkhaaGreatDoor

/- The reference: Has, Count. -/
import Derived.Test.YtalophngappkhaaGreatDoorSr
set_option linter.unusedVariables false
set_option linter.unusedSimpArgs false
set_option linter.unusedSectionVars false
namespace Go.Proofs.YtalophngappkhaaGreatDoor
open Go.RowKit Go.Shelf

theorem rerr_right {l : List (Int × Int)} (h : rightB l = true) : rerr [l] = 0 := by rw [rerr_one, h]; rfl
theorem rerr_wrong {l : List (Int × Int)} (h : rightB l = false) : rerr [l] = 90 := by rw [rerr_one, h]; rfl

end Go.Proofs.YtalophngappkhaaGreatDoor

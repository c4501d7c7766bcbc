/- Grids in numbers. No program. -/
import Derived.Test.YtekjikbaefgncaaGreatDoorSmH
set_option linter.unusedVariables false
set_option linter.unusedSimpArgs false
set_option linter.unusedSectionVars false

namespace Go.Sl
open Go Go.Conc PHeap
def stOf (w r : Nat) : Nat → Nat
  | 0 => 0
  | 1 => w
  | 2 => w + r
  | 3 => 2 * w + r
  | _ => 2 * (w + r)
theorem stOf_le {w r : Nat} (hw : w ≤ 5) (hr : r ≤ 5) : ∀ i, stOf w r i ≤ 20 := by
  intro i
  unfold stOf; split <;> omega
theorem stOf_mono {w r : Nat} : ∀ j, j < 4 → stOf w r j ≤ stOf w r (j + 1) := by
  intro j hj
  obtain rfl | rfl | rfl | rfl : j = 0 ∨ j = 1 ∨ j = 2 ∨ j = 3 := by omega
  all_goals simp only [stOf]; omega
end Go.Sl

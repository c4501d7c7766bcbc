/- Grids in numbers. No program. -/
import Derived.Test.YtekjikbaefgncaaGreatSmH
set_option linter.unusedVariables false
set_option linter.unusedSimpArgs false
set_option linter.unusedSectionVars false

namespace Go.Sl
open Go Go.Conc PHeap

theorem gridOk_nat {g : Grid} (h : gridOk g = true) : ∃ w r : Nat, g.wide = (w : Int) ∧ 1 ≤ w ∧ w ≤ 5 ∧ 1 ≤ r ∧ r ≤ 5 ∧ g.cells.length = w * r ∧ (g.cells.length : Int) / g.wide = (r : Int) := by
  obtain ⟨⟨h1, h2⟩, h3, h4, h5, _⟩ := (gridOk_iff g).1 h
  obtain ⟨w, hw⟩ : ∃ w : Nat, g.wide = (w : Int) := ⟨g.wide.toNat, by omega⟩
  rw [hw] at h1 h2 h4 h5
  have hw' : w = 1 ∨ w = 2 ∨ w = 3 ∨ w = 4 ∨ w = 5 := by omega
  refine ⟨w, g.cells.length / w, hw, by omega, by omega, ?_, ?_, ?_, ?_⟩
  · rcases hw' with rfl | rfl | rfl | rfl | rfl <;> omega
  · rcases hw' with rfl | rfl | rfl | rfl | rfl <;> omega
  · rcases hw' with rfl | rfl | rfl | rfl | rfl <;> omega
  · rw [hw]; rcases hw' with rfl | rfl | rfl | rfl | rfl <;> omega
/-- Where the sides begin. -/
def stOf (w r : Nat) : Nat → Nat
  | 0 => 0
  | 1 => w
  | 2 => w + r
  | 3 => 2 * w + r
  | _ => 2 * (w + r)
theorem stOf_le {w r : Nat} (hw : w ≤ 5) (hr : r ≤ 5) : ∀ i, stOf w r i ≤ 20 := by
  intro i
  unfold stOf; split <;> omega
theorem stOf_mono {w r : Nat} : ∀ j, j < 4 → stOf w r j ≤ stOf w r (j + 1) := by
  intro j hj
  obtain rfl | rfl | rfl | rfl : j = 0 ∨ j = 1 ∨ j = 2 ∨ j = 3 := by omega
  all_goals simp only [stOf]; omega
end Go.Sl

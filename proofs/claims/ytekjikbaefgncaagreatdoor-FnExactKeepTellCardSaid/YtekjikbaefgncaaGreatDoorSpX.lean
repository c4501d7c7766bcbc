/- How many marks: no more than thrice the size. No program. -/
import Derived.Test.YtekjikbaefgncaaGreatDoorSmH
set_option linter.unusedVariables false
set_option linter.unusedSimpArgs false
set_option linter.unusedSectionVars false

namespace Go.Sl

theorem sizeL_le {α : Type} {f g : α → Nat} : ∀ xs : List α, (∀ x ∈ xs, f x ≤ g x) → sizeL f xs ≤ sizeL g xs
  | [], _ => by simp [sizeL]
  | x :: xs, h => by
    have h1 := h x (by simp)
    have h2 := sizeL_le xs fun y hy => h y (by simp [hy])
    simp only [sizeL]; omega
theorem sizeL_add {α : Type} {f : α → Nat} {c m : Nat} : ∀ xs : List α, sizeL (fun x => m * f x + c) xs = m * sizeL f xs + c * xs.length
  | [] => by simp [sizeL]
  | x :: xs => by simp only [sizeL, sizeL_add xs, List.length_cons, Nat.mul_add]; omega
theorem cIntS_eq (x : List Int) : cIntS x = x.length := by rw [cIntS, sizeL_const]; omega
theorem cPartS_le (x : List Part) : cPartS x ≤ 2 * szPartSN x := by
  have := sizeL_le (f := cPart) (g := fun p => 1 * szPartN p + 2) x fun p _ => by simp [cPart, cIntS_eq, szPartN]
  rw [sizeL_add] at this
  simp only [cPartS, szPartSN]; omega
theorem cShownS_le (x : List Shown) : cShownS x ≤ 2 * szShownSN x := by
  have := sizeL_le (f := cShown) (g := fun p => 1 * szShownN p + 1) x fun p _ => by simp [cShown, cIntS_eq, szShownN]
  rw [sizeL_add] at this
  simp only [cShownS, szShownSN]; omega
theorem cKeeper_le (k : Keeper) : cKeeper k ≤ 3 * szKeeperN k := by
  have h1 := cPartS_le k.parts
  have h2 := cShownS_le k.shown
  simp only [cKeeper, cGrid, cCellS, cEditS, sizeL_const, szKeeperN]
  omega
end Go.Sl

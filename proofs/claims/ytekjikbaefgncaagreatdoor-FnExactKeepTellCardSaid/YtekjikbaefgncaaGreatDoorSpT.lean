/- What a keeper tells, what it takes in, told as plain data. No program. -/
import Derived.Test.YtekjikbaefgncaaGreatDoorSpX
import Derived.Test.YtekjikbaefgncaaGreatDoorSpK
set_option linter.unusedVariables false
set_option linter.unusedSimpArgs false
set_option linter.unusedSectionVars false

namespace Go.Sl

def noEdit : Edit := ⟨0, ⟨0, 0⟩⟩
def noWord : Word := ⟨0, 0, 0, 0, noGrid, noEdit, []⟩
/-- The word to a painter. -/
def toldTo (k : Keeper) (z : Int) : Word :=
  let p := gt k.parts (z - 1).toNat
  if p.has = true ∧ (1 ≤ (k.edits.length : Int) - p.ver ∧ (k.edits.length : Int) - p.ver ≤ 2) then ⟨2, z, 0, p.ver + 1, noGrid, gt k.edits p.ver.toNat, []⟩
  else ⟨1, z, 0, k.edits.length, gridAt k k.edits.length, noEdit, []⟩
def keepTell (k : Keeper) (z : Int) : Word × Bool := if keepOk k = true ∧ 1 ≤ z ∧ z ≤ k.parts.length then (toldTo k z, true) else (noWord, false)
theorem verOk_all (k : Keeper) : verOk k k.edits.length = true := by simp [verOk]
theorem keepOk_part {k : Keeper} (h : keepOk k = true) {i : Nat} (hi : i < k.parts.length) : partOk k (i + 1) (gt k.parts i) = true := by
  simp only [keepOk, Bool.and_eq_true] at h
  exact List.all_eq_true.1 h.1.2 i (List.mem_range.2 hi)
theorem keepOk_head {k : Keeper} (h : keepOk k = true) : HeadOk k := by
  simp only [keepOk, Bool.and_eq_true] at h
  exact keepHead_is h.1.1
theorem partOk_ver {k : Keeper} {i : Nat} {p : Part} (h : partOk k i p = true) (hp : p.has = true) : 0 ≤ p.ver ∧ p.ver ≤ k.edits.length := by
  unfold partOk at h
  rw [if_pos hp] at h
  simp only [verOk, Bool.and_eq_true, decide_eq_true_eq] at h
  exact h.1
theorem gridAt_small {k : Keeper} (h : keepOk k = true) (v : Int) : (gridAt k v).cells.length ≤ 25 := by
  have hk := keepOk_head h
  have := (gok (gridAt_ok hk.grid hk.edits v)).small
  omega
theorem keepTell_small (k : Keeper) (z : Int) : (keepTell k z).1.grid.cells.length ≤ 25 ∧ (keepTell k z).1.lights = [] := by
  unfold keepTell
  split
  · rename_i h
    unfold toldTo
    simp only
    split
    · exact ⟨by simp [noGrid], rfl⟩
    · exact ⟨gridAt_small h.1 _, rfl⟩
  · exact ⟨by simp [noWord, noGrid], rfl⟩
end Go.Sl

/- The size of a keeper behind a word. No program. -/
import Derived.Test.YtcpkcmgjfcbnpaaGreatDoorLibF
set_option linter.unusedVariables false
set_option linter.unusedSimpArgs false
set_option linter.unusedSectionVars false

namespace Go.Sl
theorem sizeL_setN {α : Type} {f : α → Nat} (y : α) : ∀ (xs : List α) (i : Nat), sizeL f (xs.set i y) ≤ sizeL f xs + f y
  | [], i => by simp [sizeL]
  | x :: xs, 0 => by simp only [List.set, sizeL]; omega
  | x :: xs, i + 1 => by have := sizeL_setN (f := f) y xs i; simp only [List.set, sizeL]; omega
theorem sz_setPart (k : Keeper) (i : Nat) (q : Part) : szKeeperN (setPart k i q) ≤ szKeeperN k + q.lights.length := by
  have := sizeL_setN (f := szPartN) q k.parts i
  simp only [setPart, szKeeperN, szPartSN, List.length_set]
  simp only [szPartN] at this ⊢
  omega
theorem sz_published (k : Keeper) : szKeeperN (published k) ≤ szKeeperN k + (manyOf k.first).toNat + 1 := by
  unfold published
  split
  · have h1 : sizeL szShownN (k.shown ++ [⟨(gt k.parts 0).ver, pubPic k⟩]) = sizeL szShownN k.shown + (manyOf k.first).toNat := by
      have : ∀ xs : List Shown, sizeL szShownN (xs ++ [⟨(gt k.parts 0).ver, pubPic k⟩]) = sizeL szShownN xs + (manyOf k.first).toNat := fun xs => by
        induction xs with
        | nil => simp [sizeL, szShownN, pubPic]
        | cons x xs ih => simp only [List.cons_append, sizeL, ih]; omega
      exact this _
    simp only [szKeeperN, szShownSN, List.length_append, List.length_cons, List.length_nil, h1]
    omega
  · omega
theorem keepHear_sz (k : Keeper) (w : Word) : szKeeperN (keepHear k w) ≤ szKeeperN k + szWordN w + 30 := by
  unfold keepHear
  split
  · rename_i ok
    have hm := (gok (keepOk_head ok).grid).many
    unfold heard
    split
    · split
      · have := sz_setPart k (w.frm.toNat - 1) noPart
        have h0 : noPart.lights.length = 0 := rfl
        rw [h0] at this
        simp only [szWordN]; omega
      · split
        · have h1 := sz_setPart k (w.frm.toNat - 1) ⟨true, w.ver, w.lights⟩
          have h2 := sz_published (setPart k (w.frm.toNat - 1) ⟨true, w.ver, w.lights⟩)
          simp only [szWordN]
          simp only at h1
          have h3 : (setPart k (w.frm.toNat - 1) ⟨true, w.ver, w.lights⟩).first = k.first := rfl
          rw [h3] at h2
          omega
        · omega
    · omega
  · simp [noKeeper, noGrid, szKeeperN, szPartSN, szShownSN, sizeL]
end Go.Sl

/- What painters hear, case by case. No program. -/
import Derived.Test.YtekjikbaefgncaaGreatSpQ
set_option linter.unusedVariables false
set_option linter.unusedSimpArgs false
set_option linter.unusedSectionVars false

namespace Go.Sl
theorem heard_up {p : Painter} {w : Word} (h : p.up = false) : paintHeard p w = p := by simp [paintHeard, h]
theorem heard1 {p : Painter} {w : Word} (h : p.up = true) (k : w.kind = 1) : paintHeard p w = if (0 ≤ w.ver ∧ w.ver ≤ 60) ∧ (p.has = true → p.ver < w.ver) ∧ gridOk w.grid = true then ⟨true, true, w.ver, sceneOf w.grid⟩ else p := by simp [paintHeard, h, k]
theorem heard2 {p : Painter} {w : Word} (h : p.up = true) (k : w.kind = 2) : paintHeard p w = if p.has = true ∧ w.ver = p.ver + 1 ∧ w.ver ≤ 60 ∧ editOk p.scene.grid w.edit = true then ⟨true, true, w.ver, editScene p.scene w.edit⟩ else p := by simp [paintHeard, h, k]
theorem heard0 {p : Painter} {w : Word} (k : ¬ w.kind = 1) (k2 : ¬ w.kind = 2) : paintHeard p w = p := by simp [paintHeard, k, k2]
end Go.Sl

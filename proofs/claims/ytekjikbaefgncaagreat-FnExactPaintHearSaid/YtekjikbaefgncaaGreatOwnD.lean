/- Walks of the seat: EP EQ. -/
import Derived.Test.YtekjikbaefgncaaGreatRows
import Derived.Test.YtekjikbaefgncaaGreatOwnA
import Derived.Test.YtekjikbaefgncaaGreatSmO
import Derived.Test.YtekjikbaefgncaaGreatSmM
import Derived.Test.YtekjikbaefgncaaGreatSmQ
set_option linter.unusedVariables false
set_option linter.unusedSimpArgs false
set_option linter.unusedSectionVars false
/- What all rows of this seat need (no laid variable): the world, the arguments opened. -/
namespace Go.Proofs.YtekjikbaefgncaaGreat
open Go Go.Sl Go.Conc Go.ChangeShapes Go.WideShapes Go.ChangeAt Go.RowKit PHeap
theorem k_own : ownKnob Tryz.prog.godebug = none := by kernel_rfl
theorem k_laidOut : laidOutB Tryz.prog = true := by kernel_rfl
noncomputable def laidWorld (os : Os) : World := World.holding Tryz.prog os ⟨#[], #[], []⟩
instance : OpensF Tryz.prog 55 cellF := opens_cell
instance : OpensF Tryz.prog 57 editF := opens_edit
instance : OpensR Tryz.prog 24 (gridR τ) := opens_grid
instance szR_ints : SzR (sliceF intF τ.int) 1 := ⟨rfl⟩
instance : OpensR Tryz.prog 28 (sceneR τ) := opens_scene
instance : OpensR Tryz.prog 30 (painterR τ) := opens_painter
end Go.Proofs.YtekjikbaefgncaaGreat

/- Facts about the whole program that every row asks for, one by one (together they are too large for one step). -/
namespace Go.Proofs.YtekjikbaefgncaaGreat
open Go Go.RowKit
theorem and_mk {a b : Bool} (ha : a = true) (hb : b = true) : (a && b) = true := by rw [ha, hb]; rfl
theorem k_mapsRowed : mapsRowed Tryz.prog = true := by kernel_rfl
theorem k_stops : (Tryz.prog.stops == []) = true := by kernel_rfl
theorem k_stopKnobs : (Tryz.prog.stopKnobs == []) = true := by kernel_rfl
theorem k_plain : (Rows.fnExactPaintOkRow.plainKeys == Tryz.prog.plainKeys) = true := by kernel_rfl
theorem k_heard : Tryz.prog.stopsHeard = true := by kernel_rfl
theorem k_may : Tryz.prog.mayEnter = true := by kernel_rfl
theorem k_lifted : (Rows.fnExactPaintOkRow.lifted == Tryz.prog.liftsFinal) = true := by kernel_rfl
theorem k_make : (Tryz.prog.make == some Rows.fnExactPaintOkRow.make) = true := by kernel_rfl
end Go.Proofs.YtekjikbaefgncaaGreat

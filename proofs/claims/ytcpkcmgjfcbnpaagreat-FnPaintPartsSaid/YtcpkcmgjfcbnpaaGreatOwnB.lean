/- Walks of the seat: EP EQ. -/
import Derived.Test.YtcpkcmgjfcbnpaaGreatRows
import Derived.Test.YtcpkcmgjfcbnpaaGreatOwnA
import Derived.Test.YtcpkcmgjfcbnpaaGreatSmO
import Derived.Test.YtcpkcmgjfcbnpaaGreatSmM
import Derived.Test.YtcpkcmgjfcbnpaaGreatSmQ
set_option linter.unusedVariables false
set_option linter.unusedSimpArgs false
set_option linter.unusedSectionVars false
namespace Go.Proofs.YtcpkcmgjfcbnpaaGreat
open Go Go.Sl Go.Conc Go.ChangeShapes Go.WideShapes Go.ChangeAt Go.RowKit PHeap
theorem k_own : ownKnob Tryz.prog.godebug = none := by kernel_rfl
theorem k_laidOut : laidOutB Tryz.prog = true := by kernel_rfl
noncomputable def laidWorld (os : Os) : World := World.holding Tryz.prog os ⟨#[], #[], []⟩
end Go.Proofs.YtcpkcmgjfcbnpaaGreat
namespace Go.Proofs.YtcpkcmgjfcbnpaaGreat
open Go Go.RowKit
theorem and_mk {a b : Bool} (ha : a = true) (hb : b = true) : (a && b) = true := by rw [ha, hb]; rfl
theorem k_mapsRowed : mapsRowed Tryz.prog = true := by kernel_rfl
theorem k_stops : (Tryz.prog.stops == []) = true := by kernel_rfl
theorem k_stopKnobs : (Tryz.prog.stopKnobs == []) = true := by kernel_rfl
theorem k_plain : (Rows.fnPaintPartsRow.plainKeys == Tryz.prog.plainKeys) = true := by kernel_rfl
theorem k_heard : Tryz.prog.stopsHeard = true := by kernel_rfl
theorem k_may : Tryz.prog.mayEnter = true := by kernel_rfl
theorem k_lifted : (Rows.fnPaintPartsRow.lifted == Tryz.prog.liftsFinal) = true := by kernel_rfl
theorem k_make : (Tryz.prog.make == some Rows.fnPaintPartsRow.make) = true := by kernel_rfl
end Go.Proofs.YtcpkcmgjfcbnpaaGreat

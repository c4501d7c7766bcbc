/- One end for many branches. No program. -/
set_option linter.unusedVariables false
set_option linter.unusedSimpArgs false
set_option linter.unusedSectionVars false

namespace Go.Sl
theorem via {A G : Prop} (h : G → A) (t : G) : A := h t
end Go.Sl

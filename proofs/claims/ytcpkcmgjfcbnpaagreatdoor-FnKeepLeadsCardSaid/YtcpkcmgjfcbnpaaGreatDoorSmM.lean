/- Reading words, scenes, painters, worlds out of a start's memory. No program. -/
import Derived.Test.YtcpkcmgjfcbnpaaGreatDoorSmO
set_option linter.unusedVariables false
set_option linter.unusedSimpArgs false
set_option linter.unusedSectionVars false

namespace Go.Sl
open Go Go.Conc PHeap
section
variable {P:Program} {τ:Tys} {t t1 t2 t3 t4 t5 t6 t7:TypeId} {D:TypeDesc} {bytes:Nat} {zero:Value}
end
end Go.Sl

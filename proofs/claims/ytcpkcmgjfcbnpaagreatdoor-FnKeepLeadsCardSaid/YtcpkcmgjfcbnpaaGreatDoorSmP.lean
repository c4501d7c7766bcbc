/- One goroutine alone, no other ever: from a body told by own steps to the kit's 'Calls'. No program. -/
import Derived.Test.YtcpkcmgjfcbnpaaGreatDoorSlKp
import Derived.Test.YtcpkcmgjfcbnpaaGreatDoorSmG
import Derived.Calls
import Derived.ProofKit
import Derived.Conc.Fork
set_option linter.unusedVariables false
set_option linter.unusedSimpArgs false
set_option linter.unusedSectionVars false

namespace Go.Sl
open Go Go.Conc PHeap
section
variable {P:Program} {W:World} {R:Value→Prop} {f:FuncId} {cs:List Frame}
end
def allOf (W:World):PHeap:={ obj:=fun b=>W.heap[b]?,wr:=fun _=>false,gh:=[] }
theorem sat_allOf (W:World):Sat W (allOf W):=fun _ _ e=>e
end Go.Sl

/- Interface values against nil; structs of two whole numbers compared. No program. -/
import Derived.Test.YtekjikbaefgncaaGreatSmT
import Derived.Laws.StructEq
set_option linter.unusedVariables false
set_option linter.unusedSimpArgs false
set_option linter.unusedSectionVars false

namespace Go.Sl
open Go Go.Conc PHeap
section
variable {P : Program} {n : Nat} {L : Locals} {O : Own} {h : PHeap} {d : Option Nat} {t t' ty e : TypeId} {pos : String} {af : Array Edge} {g : Option (Nat × Bool)} {x y : Operand} {ms : Array (String × TypeId)} {size bytes size' bytes' : Nat} {zero zero' : Value} {D : TypeDesc} {cap : Nat}
end
end Go.Sl

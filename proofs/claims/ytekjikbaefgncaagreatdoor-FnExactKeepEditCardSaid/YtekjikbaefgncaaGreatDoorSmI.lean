/- Rules for operations of a region that Go may carry out in more than one order: alloc. No program. -/
import Derived.Test.YtekjikbaefgncaaGreatDoorSmK
set_option linter.unusedVariables false
set_option linter.unusedSimpArgs false
set_option linter.unusedSectionVars false

namespace Go.Sl
open Go Go.Conc PHeap
section
variable {P : Program} {M : Jdg → Prop} [hM : IsCl P M] {n : Nat} {Q : Qf} {L : Locals} {O R A W : Own} {h : PHeap} {ops : List Oper} {dsts : List (Option Nat)} {anc : List (List Nat)} {m : Nat} {π : List (Nat × Bool)} {acc : Acc}
  {d : Nat} {t ty : TypeId} {pos : String} {af : Array Edge} {g : Option (Nat × Bool)} {D : TypeDesc} {size bytes : Nat} {zero : Value} {l : List Value} {i : Nat}
omit hM in
theorem a_alloc [T : Ty P t D size bytes zero] [c : CellsOf zero l] (hi : ops[i]? = some ⟨some d, .alloc t, ty, pos, af, g⟩) (hg : GA anc acc i g) (k : ∀ b, anyO P M n ops dsts anc m (hf Q) L O ((i, some d, .pointer (some ⟨b, 0, none⟩)) :: acc) ((b, .cells l.toArray t) :: W) h π) : anyO P M n ops dsts anc m (hf Q) L O acc W h ((i, true) :: π) :=
  a_c hi hg (c_alloc T fun b => by rw [c.eq]; exact ⟨(b, .cells l.toArray t) :: W, rfl, k b⟩)
end
end Go.Sl

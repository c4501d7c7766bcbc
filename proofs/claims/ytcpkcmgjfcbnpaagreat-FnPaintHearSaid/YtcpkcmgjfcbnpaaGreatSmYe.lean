/- Edits compared; structs compared for being the same. No program. -/
import Derived.Test.YtcpkcmgjfcbnpaaGreatLibH
set_option linter.unusedVariables false
set_option linter.unusedSimpArgs false
set_option linter.unusedSectionVars false

namespace Go.Sl
open Go Go.Conc PHeap
section
variable {P : Program} {d : Nat} {t : TypeId}
end
section
variable {P : Program} {t : TypeId} {n : Nat} {L : Locals} {O : Own} {h : PHeap} {dd : Option Nat} {t' ty : TypeId} {pos : String} {af : Array Edge} {g : Option (Nat × Bool)} {x y : Operand} {α : Type} [DecidableEq α] {E : Flat α} {a b : α}
theorem q_eqS (C : EqFl P t E) (hx : ev L x = some (.agg (E.f a).toArray)) (hy : ev L y = some (.agg (E.f b).toArray)) : Opq P n ⟨dd, .binOp .eql t x y t', ty, pos, af, g⟩ L O h (.bool (decide (a = b))) := by
  refine q_of fun H K Ee k => o_val (s := fun a => do eqGuard .eql t x y (a.eval x) (a.eval y); binOp .eql t (a.eval x) (a.eval y)) (fun _ _ => rfl) fun ac ha => ?_
  rw [ha.ev hx, ha.ev hy, slp_bind]
  have eg : ∀ (Kk : Unit → PHeap → Prop) (Ee : Value → PHeap → Prop) (H : PHeap), Kk () H → (eqGuard .eql t x y (.agg (E.f a).toArray) (.agg (E.f b).toArray)).slp P Kk Ee H := fun Kk Ee H z => by
    show Sem.slp P Kk Ee (if (!P.eqGuardType P.depth t) = true then _ else _) H
    rw [if_pos (by rw [C.grd]; rfl)]
    exact z
  refine eg _ _ _ ?_
  simp only [binOp]
  rw [slp_bind]
  refine C.eqv a b _ _ _ ?_
  rw [slp_pure]; exact k
end
end Go.Sl

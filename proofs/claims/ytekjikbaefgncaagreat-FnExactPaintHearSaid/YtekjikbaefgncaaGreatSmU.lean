/- Bytes, and numbers bit by bit. No program. -/
import Derived.Test.YtekjikbaefgncaaGreatSmO
set_option linter.unusedVariables false
set_option linter.unusedSimpArgs false
set_option linter.unusedSectionVars false

namespace Go.Sl
open Go Go.Conc PHeap
def u8F : Flat (Fin 256) := ⟨1, fun x => [.int .u8 (x.val : Int)], fun _ => rfl⟩
instance {x : Fin 256} : FlatV u8F x [.int .u8 (x.val : Int)] := ⟨rfl⟩
instance : FlatOne u8F := ⟨fun _ => rfl⟩
instance : SzE u8F 1 := ⟨rfl⟩
theorem wrap_u8 (x : Fin 256) : IntKind.i64.wrap (x.val : Int) = (x.val : Int) := by
  rw [IntKind.wrap_i64]; have := x.isLt; omega
section
variable {P : Program} {n : Nat} {L : Locals} {O : Own} {h : PHeap} {d : Option Nat} {t t' ty : TypeId} {pos : String} {af : Array Edge} {g : Option (Nat × Bool)} {x y : Operand} {a b : Int}
instance {size bytes : Nat} {zero : Value} [T : Ty P t (.int .u8) size bytes zero] : OpensF P t u8F := ⟨fun h => by
  obtain ⟨n, rfl, _, hw⟩ := DataW.trod_int T.und h
  have : 0 ≤ n ∧ n ≤ 255 := by simpa [Lit.wf, IntKind.min, IntKind.max, IntKind.bits, IntKind.signed] using hw
  refine ⟨⟨n.toNat, by omega⟩, ?_⟩
  simp only [u8F, Int.toNat_of_nonneg this.1]⟩
end
end Go.Sl

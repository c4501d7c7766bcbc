/- Numbers bit by bit; bytes as numbers. No program. -/
import Derived.Test.YtekjikbaefgncaaGreatSmD
set_option linter.unusedVariables false
set_option linter.unusedSimpArgs false
set_option linter.unusedSectionVars false

namespace Go.Sl
open Go Go.Conc PHeap
def xorN (a b : Int) : Int := ((a.toNat ^^^ b.toNat : Nat) : Int)
section
variable {P : Program} {n : Nat} {L : Locals} {O : Own} {h : PHeap} {d : Option Nat} {t t' ty : TypeId} {pos : String} {af : Array Edge} {g : Option (Nat × Bool)} {x y : Operand} {a b : Int}
theorem q_xor64 (hx : ev L x = some (.int .i64 a)) (hy : ev L y = some (.int .i64 b)) (hh : 0 ≤ a ∧ a < 4611686018427387904 ∧ 0 ≤ b ∧ b < 4611686018427387904) : Opq P n ⟨d, .binOp .xor t x y t', ty, pos, af, g⟩ L O h (.int .i64 (xorN a b)) := by
  refine q_of fun _ _ _ kk => o_bin hx hy (fun K E => ?_) kk
  have e : binOp .xor t (.int .i64 a) (.int .i64 b) = .pure (.int .i64 (xorN a b)) := by
    obtain ⟨m, rfl⟩ : ∃ m : Nat, a = m := ⟨a.toNat, by omega⟩
    obtain ⟨k, rfl⟩ : ∃ k : Nat, b = k := ⟨b.toNat, by omega⟩
    have hx : m ^^^ k < 2 ^ 62 := Nat.xor_lt_two_pow (by omega) (by omega)
    have h1 : (BitVec.ofInt 64 (m : Int)).toNat = m := by
      rw [BitVec.ofInt_natCast, BitVec.toNat_ofNat]; exact Nat.mod_eq_of_lt (by omega)
    have h2 : (BitVec.ofInt 64 (k : Int)).toNat = k := by
      rw [BitVec.ofInt_natCast, BitVec.toNat_ofNat]; exact Nat.mod_eq_of_lt (by omega)
    show Sem.pure (Value.int .i64 (IntKind.i64.wrap ((BitVec.ofInt 64 (m : Int) ^^^ BitVec.ofInt 64 (k : Int)).toNat : Int))) = _
    rw [BitVec.toNat_xor, h1, h2, IntKind.wrap_i64]
    have e2 : xorN (m : Int) (k : Int) = ((m ^^^ k : Nat) : Int) := rfl
    rw [e2]
    generalize m ^^^ k = z at hx
    exact congrArg (fun q : Int => (Sem.pure (Value.int .i64 q) : Sem Value)) (by omega)
  rw [e]; rfl
theorem q_conv8 {D : TypeDesc} {size bytes size' bytes' : Nat} {zero zero' : Value} {c : Fin 256} (S : Ty P t D size bytes zero) (T : Ty P t' (.int .i64) size' bytes' zero') (hx : ev L x = some (.int .u8 (c.val : Int))) : Opq P n ⟨d, .convert t t' x, ty, pos, af, g⟩ L O h (.int .i64 (c.val : Int)) := by
  have := q_convert (P := P) (n := n) (O := O) (h := h) (d := d) (ty := ty) (pos := pos) (af := af) (g := g) S T hx
  rwa [show IntKind.i64.wrap (c.val : Int) = (c.val : Int) by rw [IntKind.wrap_i64]; have := c.isLt; omega] at this
end
end Go.Sl

/- Interface values against nil; structs of two whole numbers compared. No program. -/
import Derived.Test.YtekjikbaefgncaaGreatSmT
import Derived.Laws.StructEq
set_option linter.unusedVariables false
set_option linter.unusedSimpArgs false
set_option linter.unusedSectionVars false

namespace Go.Sl
open Go Go.Conc PHeap

section
variable {P : Program} {n : Nat} {L : Locals} {O : Own} {h : PHeap} {d : Option Nat} {t t' ty e : TypeId} {pos : String} {af : Array Edge} {g : Option (Nat × Bool)} {x y : Operand} {ms : Array (String × TypeId)} {size bytes size' bytes' : Nat} {zero zero' : Value} {D : TypeDesc} {cap : Nat}
theorem slp_eqI {H : PHeap} {Kk : Value → PHeap → Prop} {Ee : Value → PHeap → Prop} {v : Value} {b : Bool} (hv : (v = .nilIface ∧ b = true) ∨ (∃ u z, v = .iface u z ∧ b = false)) (S : Ty P t (.interface ms) size bytes zero) (x : Operand) :
    (Kk (.bool b) H → (do eqGuard .eql t x (.const .nilIface) v .nilIface; binOp .eql t v .nilIface : Sem Value).slp P Kk Ee H) ∧ (Kk (.bool !b) H → (do eqGuard .neq t x (.const .nilIface) v .nilIface; binOp .neq t v .nilIface : Sem Value).slp P Kk Ee H) := by
  have e1 : Sem.slp P (fun (b' : Bool) H' => b' = b ∧ H' = H) Ee (Op.equal t v .nilIface) H := by
    unfold Op.equal Op.maxDepth
    rw [show (10000 : Nat) = 9999 + 1 from rfl]
    unfold Op.equalIn
    rw [slp_bind]
    refine slp_underlying S.und ?_
    rcases hv with ⟨rfl, rfl⟩ | ⟨u, z, rfl, rfl⟩ <;> exact ⟨rfl, rfl⟩
  have eg : ∀ op, eqGuard op t x (.const .nilIface) v .nilIface = pure () := fun op => by
    rcases hv with ⟨rfl, rfl⟩ | ⟨u, z, rfl, rfl⟩ <;> cases op <;> cases x <;> rfl
  have eb : ∀ op, (op = .eql ∨ op = .neq) → binOp op t v .nilIface = (if op = .eql then do pure (.bool (← Op.equal t v .nilIface)) else do pure (.bool (!(← Op.equal t v .nilIface)))) := fun op ho => by
    rcases hv with ⟨rfl, rfl⟩ | ⟨u, z, rfl, rfl⟩ <;> rcases ho with rfl | rfl <;> rfl
  refine ⟨fun k => ?_, fun k => ?_⟩
  · rw [eg, slp_bind, slp_pure, eb _ (.inl rfl), if_pos rfl, slp_bind]
    refine slp_mono ?_ (fun _ _ y => y) e1
    rintro b' H' ⟨rfl, rfl⟩
    rw [slp_pure]; exact k
  · rw [eg, slp_bind, slp_pure, eb _ (.inr rfl), if_neg (by decide), slp_bind]
    refine slp_mono ?_ (fun _ _ y => y) e1
    rintro b' H' ⟨rfl, rfl⟩
    rw [slp_pure]; exact k
theorem q_eqI {v : Value} {b : Bool} (hv : (v = .nilIface ∧ b = true) ∨ (∃ u z, v = .iface u z ∧ b = false)) (S : Ty P t (.interface ms) size bytes zero) (hx : ev L x = some v) : Opq P n ⟨d, .binOp .eql t x (.const .nilIface) t', ty, pos, af, g⟩ L O h (.bool b) := by
  refine q_of fun H K E k => o_val (s := fun a => do eqGuard .eql t x (.const .nilIface) (a.eval x) (a.eval (.const .nilIface)); binOp .eql t (a.eval x) (a.eval (.const .nilIface))) (fun _ _ => rfl) fun a ha => ?_
  rw [ha.ev hx]
  exact (slp_eqI hv S x).1 k
theorem q_neqI {v : Value} {b : Bool} (hv : (v = .nilIface ∧ b = true) ∨ (∃ u z, v = .iface u z ∧ b = false)) (S : Ty P t (.interface ms) size bytes zero) (hx : ev L x = some v) : Opq P n ⟨d, .binOp .neq t x (.const .nilIface) t', ty, pos, af, g⟩ L O h (.bool !b) := by
  refine q_of fun H K E k => o_val (s := fun a => do eqGuard .neq t x (.const .nilIface) (a.eval x) (a.eval (.const .nilIface)); binOp .neq t (a.eval x) (a.eval (.const .nilIface))) (fun _ _ => rfl) fun a ha => ?_
  rw [ha.ev hx]
  exact (slp_eqI hv S x).2 k
/-- 'x[:0]' of a slice without room. -/
theorem q_sliceNil {hi : Operand} (S : Ty P t (.slice e) size' bytes' zero') (T : Ty P e D size bytes zero) {a : Option Addr} (hx : ev L x = some (.slice a 0 0)) (hl : ev L hi = some (.int .i64 0)) :
    Opq P n ⟨d, .slice t x none (some hi) none, ty, pos, af, g⟩ L O h (.slice a 0 0) := by
  refine q_of fun K E _ kk => o_val (s := fun a => Instr.sliceAt t (a.eval x) none (some (a.eval hi)) none) (fun _ _ => rfl) fun a ha => ?_
  rw [ha.ev hx, ha.ev hl]
  simp only [Instr.sliceAt, slp_bind]
  refine slp_underlying S.und ?_
  simp only [Instr.slice, slp_bind]
  refine slp_underlying S.und ?_
  simp only [Instr.sliceBounds, Instr.sliceBound, asIntOf, slp_bind, slp_pure, Option.isSome_none, Bool.false_eq_true, if_false]
  rw [if_pos (by decide)]
  simp only [slp_pure]
  refine slp_sizeOf T ?_
  cases a <;> simpa [Addr.add] using kk
end
end Go.Sl

/- Cutting slices. No program. -/
import Derived.Test.YtekjikbaefgncaaGreatSmU
set_option linter.unusedVariables false
set_option linter.unusedSimpArgs false
set_option linter.unusedSectionVars false

namespace Go.Sl
open Go Go.Conc PHeap
section
variable {P : Program} {n : Nat} {L : Locals} {O : Own} {h : PHeap} {d : Option Nat} {t ty e : TypeId} {pos : String} {af : Array Edge} {g : Option (Nat × Bool)} {x lo hi : Operand} {D : TypeDesc} {size bytes size' bytes' : Nat} {zero zero' : Value} {b off len cap l : Nat}
theorem q_sliceLo (S : Ty P t (.slice e) size' bytes' zero') (T : Ty P e D size bytes zero) (hx : ev L x = some (.slice (some ⟨b, off, none⟩) len cap)) (hl : ev L lo = some (.int .i64 (l : Int))) (hh : l ≤ len ∧ len ≤ cap) :
    Opq P n ⟨d, .slice t x (some lo) none none, ty, pos, af, g⟩ L O h (.slice (some ⟨b, if cap = l then off else off + l * size, none⟩) (len - l) (cap - l)) := by
  refine q_of fun K E _ kk => o_val (s := fun a => Instr.sliceAt t (a.eval x) (some (a.eval lo)) none none) (fun _ _ => rfl) fun a ha => ?_
  rw [ha.ev hx, ha.ev hl]
  simp only [Instr.sliceAt, slp_bind]
  refine slp_underlying S.und ?_
  simp only [Instr.slice, slp_bind]
  refine slp_underlying S.und ?_
  have h1 : (0 : Int) ≤ (l : Int) ∧ (l : Int) ≤ (len : Int) := by omega
  simp only [Instr.sliceBounds, Instr.sliceBound, asIntOf, slp_bind, slp_pure, Option.isSome_none, Bool.false_eq_true, if_false]
  rw [if_pos h1]
  simp only [slp_pure, Int.toNat_natCast]
  refine slp_sizeOf T ?_
  simp only [slp_pure, Option.map_some, add_none]
  by_cases e : cap = l
  · subst e; simpa using kk
  · simpa [e] using kk
theorem q_sliceHi (S : Ty P t (.slice e) size' bytes' zero') (T : Ty P e D size bytes zero) (hx : ev L x = some (.slice (some ⟨b, off, none⟩) len cap)) (hl : ev L hi = some (.int .i64 (l : Int))) (hh : l ≤ len ∧ len ≤ cap) :
    Opq P n ⟨d, .slice t x none (some hi) none, ty, pos, af, g⟩ L O h (.slice (some ⟨b, off, none⟩) l cap) := by
  refine q_of fun K E _ kk => o_val (s := fun a => Instr.sliceAt t (a.eval x) none (some (a.eval hi)) none) (fun _ _ => rfl) fun a ha => ?_
  rw [ha.ev hx, ha.ev hl]
  simp only [Instr.sliceAt, slp_bind]
  refine slp_underlying S.und ?_
  simp only [Instr.slice, slp_bind]
  refine slp_underlying S.und ?_
  have h1 : (0 : Int) ≤ (l : Int) ∧ (l : Int) ≤ (cap : Int) := by omega
  simp only [Instr.sliceBounds, Instr.sliceBound, asIntOf, slp_bind, slp_pure, Option.isSome_none, Bool.false_eq_true, if_false]
  rw [if_pos h1]
  simp only [slp_pure, Int.toNat_natCast]
  refine slp_sizeOf T ?_
  simp only [slp_pure, Option.map_some, add_none, Nat.zero_mul, Nat.add_zero, Nat.sub_zero, ite_self]
  exact kk
theorem Gr.rest {α : Type} {E : Flat α} {A : Own} {v : Value} {T : TypeId} {xs : List α} (gr : Gr A v T E xs) (h0 : 0 < xs.length) (hs : xs.length ≤ 281474976710656) : ∃ b cap, v = .slice (some ⟨b, 0, none⟩) xs.length cap ∧ xs.length ≤ cap ∧
    ∀ h', InB h' A → Sl h' (.slice (some ⟨b, if cap = 1 then 0 else 0 + 1 * E.sz, none⟩) (xs.length - 1) (cap - 1)) E xs.tail := by
  rcases gr.at' with ⟨_, rfl, _⟩ | ⟨b, cap, sp, rfl, rfl, h1, h2⟩
  · cases h0
  · refine ⟨b, cap, rfl, h2, fun h' i => ?_⟩
    have sl : Sl h' (.slice (some ⟨b, 0, none⟩) xs.length cap) E xs := gr.lent hs i
    rcases sl.reads with ⟨_, e, _⟩ | ⟨cap', e, _, k⟩
    · rw [Value.slice.injEq] at e; omega
    · by_cases e1 : cap = 1
      · subst e1
        have : xs.length = 1 := by omega
        match xs, this with
        | [x], _ => exact ⟨by simp, .inr ⟨0, by simp [vb, vo], by simp, fun i x hx => by simp at hx⟩⟩
      · rw [if_neg e1]
        refine ⟨by simp; omega, .inr ⟨cap - 1, by simp [vb, vo], by simp; omega, fun i x hx => ?_⟩⟩
        have := k (i + 1) x (by simpa using hx)
        simp only [vb, vo] at this ⊢
        rw [show 0 + 1 * E.sz + i * E.sz = 0 + (i + 1) * E.sz by rw [Nat.add_mul]; omega]
        exact this
end
end Go.Sl

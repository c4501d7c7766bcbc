/- One goroutine alone, no other ever: from a body told by own steps to the kit's 'Calls'. No program. -/
import Derived.Test.YtekjikbaefgncaaGreatSlKp
import Derived.Test.YtekjikbaefgncaaGreatSmG
import Derived.Calls
import Derived.ProofKit
import Derived.Conc.Fork
set_option linter.unusedVariables false
set_option linter.unusedSimpArgs false
set_option linter.unusedSectionVars false

namespace Go.Sl
open Go Go.Conc PHeap
structure KInv (W w : World) (h : PHeap) : Prop where
  kept : Kept W w
  tape : w.tape = W.tape
  old : OldRo W h
def Run1 (P : Program) (W : World) (R : Value → Prop) (f : FuncId) (cs : List Frame) : Jdg := fun h g => h.gh = [] → ∀ w, Sat w h → KInv W w h →
  ∃ v w' fr, (R v ∧ Kept W w' ∧ w'.tape = W.tape) ∧ Steps P (solo g w) (lone fr cs w') ∧ fr.fn = f ∧ fr.leaving P w' (.returned v)
section
variable {P : Program} {W : World} {R : Value → Prop} {f : FuncId} {cs : List Frame}
theorem run1_closed : Closed P true (Run1 P W R f cs) := by
  intro h g hr hs hgh w hsat k
  obtain ⟨g', w', es, h', e1, s', gr, he, hj⟩ := hs w hsat
  obtain ⟨v, w2, fr, a1, a2, a3, a4⟩ := hj (gr.gh.trans hgh) w' s' ⟨k.kept.own k.old hsat s' gr, gr.tape.trans k.tape, k.old.own k.kept gr⟩
  refine ⟨v, w2, fr, a1, Steps.head ?_ a2, a3, a4⟩
  simp only [step, stepT_solo hr, runT_solo_go e1]
instance : IsCl P (· = Run1 P W R f cs) := ⟨fun J e => ⟨true, e ▸ run1_closed⟩⟩
end
def allOf (W : World) : PHeap := { obj := fun b => W.heap[b]?, wr := fun _ => false, gh := [] }
theorem sat_allOf (W : World) : Sat W (allOf W) := fun _ _ e => e
end Go.Sl

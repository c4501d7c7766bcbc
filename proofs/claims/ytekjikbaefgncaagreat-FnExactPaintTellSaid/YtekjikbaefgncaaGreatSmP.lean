/- One goroutine alone, no other ever: from a body told by own steps to the kit's 'Calls'. No program. -/
import Derived.Test.YtekjikbaefgncaaGreatSlKp
import Derived.Test.YtekjikbaefgncaaGreatSmG
import Derived.Calls
import Derived.ProofKit
import Derived.Conc.Fork
set_option linter.unusedVariables false
set_option linter.unusedSimpArgs false
set_option linter.unusedSectionVars false

namespace Go.Sl
open Go Go.Conc PHeap

/-- What is held of the world on the way. -/
structure KInv (W w : World) (h : PHeap) : Prop where
  kept : Kept W w
  tape : w.tape = W.tape
  old : OldRo W h

def Run1 (P : Program) (W : World) (R : Value → Prop) (f : FuncId) (cs : List Frame) : Jdg := fun h g => h.gh = [] → ∀ w, Sat w h → KInv W w h →
  ∃ v w' fr, (R v ∧ Kept W w' ∧ w'.tape = W.tape) ∧ Steps P (solo g w) (lone fr cs w') ∧ fr.fn = f ∧ fr.leaving P w' (.returned v)

section
variable {P : Program} {W : World} {R : Value → Prop} {f : FuncId} {cs : List Frame}

theorem run1_closed : Closed P true (Run1 P W R f cs) := by
  intro h g hr hs hgh w hsat k
  obtain ⟨g', w', es, h', e1, s', gr, he, hj⟩ := hs w hsat
  obtain ⟨v, w2, fr, a1, a2, a3, a4⟩ := hj (gr.gh.trans hgh) w' s' ⟨k.kept.own k.old hsat s' gr, gr.tape.trans k.tape, k.old.own k.kept gr⟩
  refine ⟨v, w2, fr, a1, Steps.head ?_ a2, a3, a4⟩
  simp only [step, stepT_solo hr, runT_solo_go e1]

instance : IsCl P (· = Run1 P W R f cs) := ⟨fun J e => ⟨true, e ▸ run1_closed⟩⟩

theorem results_still {fn : Func} {t : Nat} {tm : Array Value} {w w' : World} {v : Value} (hr : fn.results = #[.tmp t]) (x : (results fn tm).run P w = .ok v w') : (results fn tm).run P w = .ok v w := by
  have e : results fn tm = .pure (tm.getD t undef) := by
    simp [results, hr, pure, bind, Sem.bind]
    rfl
  rw [e] at x ⊢
  simp only [Sem.run] at x ⊢
  cases x; rfl

theorem calls_of_body {fn : Func} {vs : List Value} {h : PHeap} {t : Nat} (hgh : h.gh = []) (hsat : Sat W h) (hro : ∀ b, h.wr b = false)
    (hf : P.funcs[f]? = some fn) (hres : fn.results = #[.tmp t]) (hsz : Nat.ble vs.length fn.ntmps = true)
    (x : ∀ cs, ∃ c, fn.body = some c ∧ c.sf P (· = Run1 P W R f cs) fn.ntmps (retF P fn fn.ntmps (fun v _ => R v) fun _ _ => False) (argsL 0 vs) [] h) :
    Calls P f vs.toArray W fun e W' => ∃ v, e = .returned v ∧ R v ∧ Kept W W' ∧ W'.tape = W.tape := by
  intro cs
  have hle := Nat.le_of_ble_eq_true hsz
  obtain ⟨c, hb, x⟩ := x cs
  have key : Run1 P W R f cs h (G (Frame.enter P f vs.toArray .normal) cs) := by
    rw [enter_at vs.toArray hf hb]
    have hag : Agree fn.ntmps (argsL 0 vs) (vs.toArray ++ Array.replicate (fn.ntmps - vs.toArray.size) undef) := by
      refine ⟨by simp; omega, fun i v e => ?_⟩
      obtain ⟨_, h2⟩ := argsL_get vs 0 i v e
      have hlt : i < vs.length := by
        rcases Nat.lt_or_ge i vs.length with h | h
        · exact h
        · simp [List.getElem?_eq_none (show vs.length ≤ i by omega)] at h2
      rw [Array.getElem?_append]
      simpa [hlt] using h2
    have hrel : Rel h h [] h := ⟨le_refl h, le_refl h, (fun b o m => by cases m), (by simp), rfl⟩
    have leave : ∀ (L : Locals) (h' : PHeap) (O : Own) (tm : Array Value) (todo : List Item), Rel h h O h' → (∀ F h1 H, Rel F h1 O H → ∀ tm, Agree fn.ntmps L tm → (results fn tm).slp P (fix F h1 fun v _ => R v) (fun _ _ => False) H) → Agree fn.ntmps L tm →
        Run1 P W R f cs h' (G { (base f).at ⟨tm, []⟩ todo with mode := .returning } cs) := by
      intro L h' O tm todo r q ha hg w hs k
      obtain ⟨w', h'', es', s1, s2, s3, s4⟩ := slp_sound #[] (q h h h' r tm ha) hs
      rcases s4 with ⟨v, hr, O', _, hk⟩ | ⟨v, _, hk⟩
      · have hrr : (results fn tm).run P w = .ok v w' := by rw [← Sem.runT_fst P _ w #[], hr]
        have hrr := results_still hres hrr
        exact ⟨v, w, _, ⟨hk, k.kept, k.tape⟩, Steps.refl _ _, rfl, rfl, rfl, rfl, fn, hf, hrr⟩
      · exact hk.elim
    refine x h h hrel _ rfl (base f) [] cs [] _ (by simp [base]) hag ?_
    intro e L h' tm q ha
    obtain ⟨O, r, q⟩ := q
    cases e with
    | nrm => exact quiet (P := P) (M := (· = Run1 P W R f cs)) rfl rfl (fun _ _ => stepG_end) (leave L h' O tm [] r q ha)
    | exit id => exact q.elim
    | ret => exact fun todo => leave L h' O tm todo r q ha
    | pan ch => exact False.elim q
  obtain ⟨v, w', fr, a1, a2, a3, a4⟩ := key hgh W hsat ⟨Kept.refl W, rfl, fun b _ hw => by rw [hro b] at hw; cases hw⟩
  exact ⟨.returned v, w', fr, ⟨v, rfl, a1⟩, a2, a3, a4⟩
end

/-! ### the memory as it stands at the start -/
/-- All of it, not to be written. -/
def allOf (W : World) : PHeap := { obj := fun b => W.heap[b]?, wr := fun _ => false, gh := [] }
theorem sat_allOf (W : World) : Sat W (allOf W) := fun _ _ e => e
theorem below_of {W W' : World} (k : Kept W W') (t : W'.tape = W.tape) : RowKit.Below W.heap.size W W' := ⟨k.os, t, k.output, k.size, k.same⟩
end Go.Sl

/- The row of FnExactPaintHear. -/
import Derived.Test.YtekjikbaefgncaaGreatOwnC
import Derived.Test.YtekjikbaefgncaaGreatOwnD
import Derived.Test.YtekjikbaefgncaaGreatSmM
set_option linter.unusedVariables false
set_option linter.unusedSimpArgs false
set_option linter.unusedSectionVars false

namespace Go.Proofs.YtekjikbaefgncaaGreat
open Go Go.Sl Go.Conc Go.ChangeShapes Go.WideShapes Go.ChangeAt Go.RowKit PHeap
instance : OpensR Tryz.prog 57 editR := opens_flat
instance : OpensR Tryz.prog 59 (wordR τ) := opens_word
set_option maxRecDepth 100000 in
theorem fnExactPaintHear_lifted (os : Os) (started : os.Started) (H : Type) (enc : TypeId × Value → H) :
    ReturnsInLeavingWide Rows.fnExactPaintHearRow.assume Tryz.checked os 5 .any (fun w args => (Rows.fnExactPaintHearSpec.pre enc Tryz.prog Tryz.f5 Rows.fnExactPaintHearRow.domain false w args ∧ True) ∧ sizedMet enc Tryz.prog Tryz.f5 (OpenSpec.ofChange Rows.fnExactPaintHearSpec) false w args)
      (Rows.fnExactPaintHearSpec.post enc Tryz.prog Tryz.f5 false true false false) := by
  refine leavingWide_of_runs (C := Tryz.checked) (X := fun w _ => True) (fun _ _ _ _ h => h) k_own started Tryz.func5
    (ChangeSpec.witness_at (enc := enc) (C := Tryz.checked) (os := os) (X := fun w _ => True) false (laidWorld os) #[.agg #[.bool false, .bool false, .int .i64 0, .int .i64 0, .slice none 0 0, .slice none 0 0, .slice none 0 0], .agg #[.int .i64 0, .int .i64 0, .int .i64 0, .int .i64 0, .int .i64 0, .slice none 0 0, .int .i64 0, .int .i64 0, .int .i64 0, .slice none 0 0]] 16 rfl (by kernel_rfl) (by kernel_rfl) (by kernel_rfl) (by kernel_rfl) (by kernel_rfl) trivial) ?_
  intro W base args ds gs before hval0 hW hsz0 hop hlaid
  have hval : ∀ (j : Nat) t v, Tryz.f5.params[j]? = some t → args[j]? = some v → Value.okWide Tryz.prog W .any base t v := hval0
  have hW' := hW
  obtain ⟨p, q, hA0, hV, rfl, hfz, hnd⟩ := hW
  have hA : DataW.TrodAll enc Tryz.prog W 0 (fun _ => true) true Tryz.f5.params.toList args.toList ds p := hA0
  have hpar : Tryz.f5.params = #[30, 59] := rfl
  have hlt := hW'.lt
  rw [hpar] at hA hval hsz0
  obtain ⟨v0, v1, d0, d1, p0, p1, rfl, rfl, rfl, h0, h1⟩ := trodAll_two hA
  obtain ⟨rfl, rfl⟩ := trodVars_none hV
  obtain ⟨fs0, hT0⟩ : ∃ fs, Tryz.prog.underlying 30 = some (.struct fs) := ⟨_, Ty.und⟩
  obtain ⟨c0, rfl, -⟩ := okWide_struct hT0 (hval 0 30 v0 rfl rfl)
  have hsz1 : ∀ m ∈ d0.weights Tryz.prog 30, m ≤ reachBytes := fun m hm => by
    have := List.all_eq_true.1 hsz0 m (DataW.weights_mem_each (j := 0) (t := 30) (d := d0) rfl rfl m hm)
    simpa using this
  have s0 := h0
  obtain ⟨fuel0, h0⟩ := h0
  obtain ⟨x0, b0⟩ := OpensR.op (R := painterR τ) h0 hsz1
  obtain ⟨fs1, hT1⟩ : ∃ fs, Tryz.prog.underlying 59 = some (.struct fs) := ⟨_, Ty.und⟩
  obtain ⟨c1, rfl, -⟩ := okWide_struct hT1 (hval 1 59 v1 rfl rfl)
  have hsz2 : ∀ m ∈ d1.weights Tryz.prog 59, m ≤ reachBytes := fun m hm => by
    have := List.all_eq_true.1 hsz0 m (DataW.weights_mem_each (j := 1) (t := 59) (d := d1) rfl rfl m hm)
    simpa using this
  have s1 := h1
  obtain ⟨fuel1, h1⟩ := h1
  obtain ⟨x1, b1⟩ := OpensR.op (R := wordR τ) h1 hsz2
  simp only [List.append_nil, List.nil_append] at hW' hlt
  refine ⟨fun v => v = .bool true, ends_of_body (P := Tryz.prog) (W := W) (R := fun v => v = .bool true) (f := 5) (fn := Tryz.f5) (vs := [.agg c0, .agg c1]) (h := allOf W) rfl (sat_allOf W) (fun _ => rfl) (by kernel_rfl) Tryz.func5 (by kernel_rfl)
    (paintHear_body (M := (· = Lone Tryz.prog W (fun v => v = .bool true))) (allOf W) c0.toList c1.toList x0 x1 b0 b1), fun v W' hR hk => ?_⟩
  subst hR
  refine post_of_kept (pa := p0 ++ p1) (pv := []) hW' (fun _ _ _ => trodAll_mk1 (shut_bool (P := Tryz.prog) (Ty.und (t := 4)) true)) (fun sp hs => ?_) (fun _ _ => rfl) (by simp) hk (ok_one rfl rfl (okWide_bool_mk (P := Tryz.prog) (Ty.und (t := 4)) true))
  have key := trodAll_mk2 (WideElems.Trod_stays k_laidOut (by kernel_rfl) (of_decide_eq_true (by kernel_rfl)) s0 (fun x hx => same_kept hk (hlt x (by simp [hx]))) (fun x hx => hs x (by simp [hx]))) (WideElems.Trod_stays k_laidOut (by kernel_rfl) (of_decide_eq_true (by kernel_rfl)) s1 (fun x hx => same_kept hk (hlt x (by simp [hx]))) (fun x hx => hs x (by simp [hx])))
  skip
  exact key
theorem fnExactPaintHear_inPlace : (Rows.fnExactPaintHearRow.inPlace == Tryz.prog.inPlace 5) = true := by kernel_rfl
theorem fnExactPaintHear_unfollowed : (Rows.fnExactPaintHearRow.unfollowed == Tryz.prog.unfollowed 5) = true := by kernel_rfl
theorem fnExactPaintHear_recurses : (Rows.fnExactPaintHearRow.recurses == Tryz.prog.recurses 5) = true := by kernel_rfl
theorem fnExactPaintHear_named : (Rows.fnExactPaintHearRow.named == Tryz.prog.varsNamed 5) = true := by kernel_rfl
theorem fnExactPaintHear_loops : (Rows.fnExactPaintHearRow.loops == (Tryz.f5.params.toList ++ Rows.fnExactPaintHearSpec.plain.varTypes Tryz.prog).any (Tryz.prog.loopsFrom ·)) = true := by kernel_rfl
theorem fnExactPaintHear_facts : joinedFacts Tryz.prog 5 Tryz.f5 Rows.fnExactPaintHearSpec Rows.fnExactPaintHearRow = true := by
  unfold joinedFacts
  refine and_mk ?_ (by kernel_rfl)
  refine and_mk ?_ (by kernel_rfl)
  refine and_mk ?_ (by kernel_rfl)
  refine and_mk ?_ (by kernel_rfl)
  refine and_mk ?_ k_make
  refine and_mk ?_ k_lifted
  refine and_mk ?_ k_may
  refine and_mk ?_ k_heard
  refine and_mk ?_ (by kernel_rfl)
  refine and_mk ?_ k_plain
  refine and_mk ?_ (by kernel_rfl)
  refine and_mk ?_ (by kernel_rfl)
  refine and_mk ?_ (by kernel_rfl)
  refine and_mk ?_ (by kernel_rfl)
  refine and_mk ?_ (by kernel_rfl)
  refine and_mk ?_ fnExactPaintHear_loops
  refine and_mk ?_ (by kernel_rfl)
  refine and_mk ?_ (by kernel_rfl)
  refine and_mk ?_ (by kernel_rfl)
  refine and_mk ?_ fnExactPaintHear_named
  refine and_mk ?_ fnExactPaintHear_recurses
  refine and_mk ?_ fnExactPaintHear_unfollowed
  refine and_mk ?_ fnExactPaintHear_inPlace
  refine and_mk ?_ k_stopKnobs
  refine and_mk ?_ (by kernel_rfl)
  refine and_mk ?_ k_stops
  refine and_mk ?_ (by kernel_rfl)
  refine and_mk ?_ (by kernel_rfl)
  refine and_mk ?_ (by kernel_rfl)
  refine and_mk ?_ k_mapsRowed
  refine and_mk ?_ k_laidOut
  kernel_rfl
theorem fnExactPaintHear_row : Rows.FnExactPaintHearSaid :=
  OpenClaim.holds_of_wide_leaving 5 Tryz.f5 rfl rfl rfl rfl rfl rfl rfl ⟨rfl, rfl, rfl, rfl, rfl⟩ rfl rfl rfl rfl rfl (by kernel_rfl) Tryz.func5 fnExactPaintHear_facts
    (of_decide_eq_true (by kernel_rfl)) (by unfold Func.isWrapper; rw [if_neg (of_decide_eq_false (by kernel_rfl))]; exact ⟨rfl, rfl⟩)
    (fun os started H enc _ => by have q := fnExactPaintHear_lifted os started H enc; simp only [and_true] at q; exact q)
end Go.Proofs.YtekjikbaefgncaaGreat

/- The row of FnExactPaintTell. -/
import Derived.Test.YtekjikbaefgncaaGreatOwnC
import Derived.Test.YtekjikbaefgncaaGreatOwnD
import Derived.Test.YtekjikbaefgncaaGreatSmM
set_option linter.unusedVariables false
set_option linter.unusedSimpArgs false
set_option linter.unusedSectionVars false

namespace Go.Proofs.YtekjikbaefgncaaGreat
open Go Go.Sl Go.Conc Go.ChangeShapes Go.WideShapes Go.ChangeAt Go.RowKit PHeap

set_option maxRecDepth 100000 in
theorem fnExactPaintTell_lifted (os : Os) (started : os.Started) (H : Type) (enc : TypeId × Value → H) :
    ReturnsInLeavingWide Rows.fnExactPaintTellRow.assume Tryz.checked os 4 .any (fun w args => (Rows.fnExactPaintTellSpec.pre enc Tryz.prog Tryz.f4 Rows.fnExactPaintTellRow.domain false w args ∧ True) ∧ sizedMet enc Tryz.prog Tryz.f4 (OpenSpec.ofChange Rows.fnExactPaintTellSpec) false w args)
      (Rows.fnExactPaintTellSpec.post enc Tryz.prog Tryz.f4 false true false false) := by
  refine leavingWide_of_runs (C := Tryz.checked) (X := fun w _ => True) (fun _ _ _ _ h => h) k_own started Tryz.func4
    (ChangeSpec.witness_at (enc := enc) (C := Tryz.checked) (os := os) (X := fun w _ => True) false (laidWorld os) #[.agg #[.bool false, .bool false, .int .i64 0, .int .i64 0, .slice none 0 0, .slice none 0 0, .slice none 0 0], .int .i64 0, .int .i64 0] 16 rfl (by kernel_rfl) (by kernel_rfl) (by kernel_rfl) (by kernel_rfl) (by kernel_rfl) trivial) ?_
  intro W base args ds gs before hval0 hW hsz0 hop hlaid
  have hval : ∀ (j : Nat) t v, Tryz.f4.params[j]? = some t → args[j]? = some v → Value.okWide Tryz.prog W .any base t v := hval0
  have hW' := hW
  obtain ⟨p, q, hA0, hV, rfl, hfz, hnd⟩ := hW
  have hA : DataW.TrodAll enc Tryz.prog W 0 (fun _ => true) true Tryz.f4.params.toList args.toList ds p := hA0
  have hpar : Tryz.f4.params = #[30, 3, 3] := rfl
  have hlt := hW'.lt
  rw [hpar] at hA hval hsz0
  obtain ⟨v0, v1, v2, d0, d1, d2, p0, p1, p2, rfl, rfl, rfl, h0, h1, h2⟩ := trodAll_three hA
  obtain ⟨rfl, rfl⟩ := trodVars_none hV
  obtain ⟨fs0, hT0⟩ : ∃ fs, Tryz.prog.underlying 30 = some (.struct fs) := ⟨_, Ty.und⟩
  obtain ⟨c0, rfl, -⟩ := okWide_struct hT0 (hval 0 30 v0 rfl rfl)
  have hsz1 : ∀ m ∈ d0.weights Tryz.prog 30, m ≤ reachBytes := fun m hm => by
    have := List.all_eq_true.1 hsz0 m (DataW.weights_mem_each (j := 0) (t := 30) (d := d0) rfl rfl m hm)
    simpa using this
  have s0 := h0
  obtain ⟨fuel0, h0⟩ := h0
  obtain ⟨x0, b0⟩ := OpensR.op (R := painterR τ) h0 hsz1
  obtain ⟨x1, rfl, rfl, rfl, w1⟩ := open_int (Ty.und (t := 3)) (hval 1 3 v1 rfl rfl) h1
  obtain ⟨x2, rfl, rfl, rfl, w2⟩ := open_int (Ty.und (t := 3)) (hval 2 3 v2 rfl rfl) h2
  simp only [List.append_nil, List.nil_append] at hW' hlt
  refine ⟨fun v => v = .bool true, ends_of_body (P := Tryz.prog) (W := W) (R := fun v => v = .bool true) (f := 4) (fn := Tryz.f4) (vs := [.agg c0, .int .i64 x1, .int .i64 x2]) (h := allOf W) rfl (sat_allOf W) (fun _ => rfl) (by kernel_rfl) Tryz.func4 (by kernel_rfl)
    (paintTell_body (M := (· = Lone Tryz.prog W (fun v => v = .bool true))) (allOf W) c0.toList x0 x1 x2 b0), fun v W' hR hk => ?_⟩
  subst hR
  refine post_of_kept (pa := p0) (pv := []) hW' (fun _ _ _ => trodAll_mk1 (shut_bool (P := Tryz.prog) (Ty.und (t := 4)) true)) (fun sp hs => ?_) (fun _ _ => rfl) (by simp) hk (ok_one rfl rfl (okWide_bool_mk (P := Tryz.prog) (Ty.und (t := 4)) true))
  have key := trodAll_mk3 (WideElems.Trod_stays k_laidOut (by kernel_rfl) (of_decide_eq_true (by kernel_rfl)) s0 (fun x hx => same_kept hk (hlt x (by simp [hx]))) (fun x hx => hs x (by simp [hx]))) (shut_int (enc := enc) (w := W') (base := 0) (spare := sp) (held := true) (Ty.und (P := Tryz.prog) (t := 3)) w1) (shut_int (enc := enc) (w := W') (base := 0) (spare := sp) (held := true) (Ty.und (P := Tryz.prog) (t := 3)) w2)
  simp only [List.append_nil, List.nil_append] at key
  exact key

theorem fnExactPaintTell_inPlace : (Rows.fnExactPaintTellRow.inPlace == Tryz.prog.inPlace 4) = true := by kernel_rfl
theorem fnExactPaintTell_unfollowed : (Rows.fnExactPaintTellRow.unfollowed == Tryz.prog.unfollowed 4) = true := by kernel_rfl
theorem fnExactPaintTell_recurses : (Rows.fnExactPaintTellRow.recurses == Tryz.prog.recurses 4) = true := by kernel_rfl
theorem fnExactPaintTell_named : (Rows.fnExactPaintTellRow.named == Tryz.prog.varsNamed 4) = true := by kernel_rfl
theorem fnExactPaintTell_loops : (Rows.fnExactPaintTellRow.loops == (Tryz.f4.params.toList ++ Rows.fnExactPaintTellSpec.plain.varTypes Tryz.prog).any (Tryz.prog.loopsFrom ·)) = true := by kernel_rfl
theorem fnExactPaintTell_facts : joinedFacts Tryz.prog 4 Tryz.f4 Rows.fnExactPaintTellSpec Rows.fnExactPaintTellRow = true := by
  unfold joinedFacts
  refine and_mk ?_ (by kernel_rfl)
  refine and_mk ?_ (by kernel_rfl)
  refine and_mk ?_ (by kernel_rfl)
  refine and_mk ?_ (by kernel_rfl)
  refine and_mk ?_ k_make
  refine and_mk ?_ k_lifted
  refine and_mk ?_ k_may
  refine and_mk ?_ k_heard
  refine and_mk ?_ (by kernel_rfl)
  refine and_mk ?_ k_plain
  refine and_mk ?_ (by kernel_rfl)
  refine and_mk ?_ (by kernel_rfl)
  refine and_mk ?_ (by kernel_rfl)
  refine and_mk ?_ (by kernel_rfl)
  refine and_mk ?_ (by kernel_rfl)
  refine and_mk ?_ fnExactPaintTell_loops
  refine and_mk ?_ (by kernel_rfl)
  refine and_mk ?_ (by kernel_rfl)
  refine and_mk ?_ (by kernel_rfl)
  refine and_mk ?_ fnExactPaintTell_named
  refine and_mk ?_ fnExactPaintTell_recurses
  refine and_mk ?_ fnExactPaintTell_unfollowed
  refine and_mk ?_ fnExactPaintTell_inPlace
  refine and_mk ?_ k_stopKnobs
  refine and_mk ?_ (by kernel_rfl)
  refine and_mk ?_ k_stops
  refine and_mk ?_ (by kernel_rfl)
  refine and_mk ?_ (by kernel_rfl)
  refine and_mk ?_ (by kernel_rfl)
  refine and_mk ?_ k_mapsRowed
  refine and_mk ?_ k_laidOut
  kernel_rfl
theorem fnExactPaintTell_row : Rows.FnExactPaintTellSaid :=
  OpenClaim.holds_of_wide_leaving 4 Tryz.f4 rfl rfl rfl rfl rfl rfl rfl ⟨rfl, rfl, rfl, rfl, rfl⟩ rfl rfl rfl rfl rfl (by kernel_rfl) Tryz.func4 fnExactPaintTell_facts
    (of_decide_eq_true (by kernel_rfl)) (by unfold Func.isWrapper; rw [if_neg (of_decide_eq_false (by kernel_rfl))]; exact ⟨rfl, rfl⟩)
    (fun os started H enc _ => by have q := fnExactPaintTell_lifted os started H enc; simp only [and_true] at q; exact q)
end Go.Proofs.YtekjikbaefgncaaGreat

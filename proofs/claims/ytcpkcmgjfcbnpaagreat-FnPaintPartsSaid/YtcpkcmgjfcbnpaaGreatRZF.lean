/- The row of FnPaintParts. -/
import Derived.Test.YtcpkcmgjfcbnpaaGreatOwnB
import Derived.Test.YtcpkcmgjfcbnpaaGreatOwnF
import Derived.Test.YtcpkcmgjfcbnpaaGreatSmM
set_option linter.unusedVariables false
set_option linter.unusedSimpArgs false
set_option linter.unusedSectionVars false

namespace Go.Proofs.YtcpkcmgjfcbnpaaGreat
open Go Go.Sl Go.Conc Go.ChangeShapes Go.WideShapes Go.ChangeAt Go.RowKit PHeap
set_option maxRecDepth 100000 in
theorem fnPaintParts_lifted (os : Os) (started : os.Started) (H : Type) (enc : TypeId × Value → H) :
    ReturnsInLeavingWide Rows.fnPaintPartsRow.assume Tryz.checked os 3 .any (fun w args => (Rows.fnPaintPartsSpec.pre enc Tryz.prog Tryz.f3 Rows.fnPaintPartsRow.domain false w args ∧ True) ∧ sizedMet enc Tryz.prog Tryz.f3 (OpenSpec.ofChange Rows.fnPaintPartsSpec) false w args)
      (Rows.fnPaintPartsSpec.post enc Tryz.prog Tryz.f3 false true false false) := by
  refine leavingWide_of_runs (C := Tryz.checked) (X := fun w _ => True) (fun _ _ _ _ h => h) k_own started Tryz.func3
    (ChangeSpec.witness_at (enc := enc) (C := Tryz.checked) (os := os) (X := fun w _ => True) false (laidWorld os) #[.slice none 0 0] 16 rfl (by kernel_rfl) (by kernel_rfl) (by kernel_rfl) (by kernel_rfl) (by kernel_rfl) trivial) ?_
  intro W base args ds gs before hval0 hW hsz0 hop hlaid
  have hval : ∀ (j : Nat) t v, Tryz.f3.params[j]? = some t → args[j]? = some v → Value.okWide Tryz.prog W .any base t v := hval0
  have hW' := hW
  obtain ⟨p, q, hA0, hV, rfl, hfz, hnd⟩ := hW
  have hA : DataW.TrodAll enc Tryz.prog W 0 (fun _ => true) true Tryz.f3.params.toList args.toList ds p := hA0
  have hpar : Tryz.f3.params = #[22] := rfl
  have hlt := hW'.lt
  rw [hpar] at hA hval hsz0
  obtain ⟨v0, d0, rfl, rfl, h0⟩ := trodAll_one hA
  obtain ⟨rfl, rfl⟩ := trodVars_none hV
  have hv0 := hval 0 22 v0 rfl rfl
  have hsz1 : ∀ m ∈ d0.weights Tryz.prog 22, m ≤ reachBytes := fun m hm => by
    have := List.all_eq_true.1 hsz0 m (DataW.weights_mem_each (j := 0) (t := 22) (d := d0) rfl rfl m hm)
    simpa using this
  have hone0 : v0.cells.toList = [v0] := by
    simp only [Value.okWide, (Ty.und (P := Tryz.prog) (t := 22))] at hv0
    cases v0 with
    | agg cs => exact absurd hv0 (by simp [Cell.okWide, Cell.ok, (Ty.und (P := Tryz.prog) (t := 22))])
    | _ => rfl
  have s0 := h0
  obtain ⟨fuel0, h0⟩ := h0
  rw [hone0] at h0
  obtain ⟨u0, x0, e0, b0⟩ := opens_slF (P := Tryz.prog) (W := W) (t := 22) (e := 5) (E := u8F) rfl (by decide) (by decide) h0 hsz1
  obtain rfl : u0 = v0 := (List.cons.inj e0).1.symm
  simp only [List.append_nil, List.nil_append] at hW' hlt
  refine ⟨fun v => v = .bool true, ends_of_body (P := Tryz.prog) (W := W) (R := fun v => v = .bool true) (f := 3) (fn := Tryz.f3) (vs := [u0]) (h := allOf W) rfl (sat_allOf W) (fun _ => rfl) (by kernel_rfl) Tryz.func3 (by kernel_rfl)
    (paintParts_law (M := (· = Lone Tryz.prog W (fun v => v = .bool true))) (allOf W) u0 x0 b0), fun v W' hR hk => ?_⟩
  subst hR
  refine post_of_kept (pa := p) (pv := []) hW' (fun _ _ _ => trodAll_mk1 (shut_bool (P := Tryz.prog) (Ty.und (t := 4)) true)) (fun sp hs => ?_) (fun _ _ => rfl) (by simp) hk (ok_one rfl rfl (okWide_bool_mk (P := Tryz.prog) (Ty.und (t := 4)) true))
  have key := trodAll_mk1 (WideElems.Trod_stays k_laidOut (by kernel_rfl) (of_decide_eq_true (by kernel_rfl)) s0 (fun x hx => same_kept hk (hlt x (by simp [hx]))) (fun x hx => hs x (by simp [hx])))
  skip
  exact key
theorem fnPaintParts_inPlace : (Rows.fnPaintPartsRow.inPlace == Tryz.prog.inPlace 3) = true := by kernel_rfl
theorem fnPaintParts_unfollowed : (Rows.fnPaintPartsRow.unfollowed == Tryz.prog.unfollowed 3) = true := by kernel_rfl
theorem fnPaintParts_recurses : (Rows.fnPaintPartsRow.recurses == Tryz.prog.recurses 3) = true := by kernel_rfl
theorem fnPaintParts_named : (Rows.fnPaintPartsRow.named == Tryz.prog.varsNamed 3) = true := by kernel_rfl
theorem fnPaintParts_loops : (Rows.fnPaintPartsRow.loops == (Tryz.f3.params.toList ++ Rows.fnPaintPartsSpec.plain.varTypes Tryz.prog).any (Tryz.prog.loopsFrom ·)) = true := by kernel_rfl
theorem fnPaintParts_facts : joinedFacts Tryz.prog 3 Tryz.f3 Rows.fnPaintPartsSpec Rows.fnPaintPartsRow = true := by
  unfold joinedFacts
  refine and_mk ?_ (by kernel_rfl)
  refine and_mk ?_ (by kernel_rfl)
  refine and_mk ?_ (by kernel_rfl)
  refine and_mk ?_ (by kernel_rfl)
  refine and_mk ?_ k_make
  refine and_mk ?_ k_lifted
  refine and_mk ?_ k_may
  refine and_mk ?_ k_heard
  refine and_mk ?_ (by kernel_rfl)
  refine and_mk ?_ k_plain
  refine and_mk ?_ (by kernel_rfl)
  refine and_mk ?_ (by kernel_rfl)
  refine and_mk ?_ (by kernel_rfl)
  refine and_mk ?_ (by kernel_rfl)
  refine and_mk ?_ (by kernel_rfl)
  refine and_mk ?_ fnPaintParts_loops
  refine and_mk ?_ (by kernel_rfl)
  refine and_mk ?_ (by kernel_rfl)
  refine and_mk ?_ (by kernel_rfl)
  refine and_mk ?_ fnPaintParts_named
  refine and_mk ?_ fnPaintParts_recurses
  refine and_mk ?_ fnPaintParts_unfollowed
  refine and_mk ?_ fnPaintParts_inPlace
  refine and_mk ?_ k_stopKnobs
  refine and_mk ?_ (by kernel_rfl)
  refine and_mk ?_ k_stops
  refine and_mk ?_ (by kernel_rfl)
  refine and_mk ?_ (by kernel_rfl)
  refine and_mk ?_ (by kernel_rfl)
  refine and_mk ?_ k_mapsRowed
  refine and_mk ?_ k_laidOut
  kernel_rfl
theorem fnPaintParts_row : Rows.FnPaintPartsSaid :=
  OpenClaim.holds_of_wide_leaving 3 Tryz.f3 rfl rfl rfl rfl rfl rfl rfl ⟨rfl, rfl, rfl, rfl, rfl⟩ rfl rfl rfl rfl rfl (by kernel_rfl) Tryz.func3 fnPaintParts_facts
    (of_decide_eq_true (by kernel_rfl)) (by unfold Func.isWrapper; rw [if_neg (of_decide_eq_false (by kernel_rfl))]; exact ⟨rfl, rfl⟩)
    (fun os started H enc _ => by have q := fnPaintParts_lifted os started H enc; simp only [and_true] at q; exact q)
end Go.Proofs.YtcpkcmgjfcbnpaaGreat

/- Walks of the seat: R9u. -/
import Derived.Test.YtcpkcmgjfcbnpaaGreatDoorOwnB
import Derived.Test.YtcpkcmgjfcbnpaaGreatDoorOwnD
import Derived.Test.YtcpkcmgjfcbnpaaGreatDoorSmM
set_option linter.unusedVariables false
set_option linter.unusedSimpArgs false
set_option linter.unusedSectionVars false
namespace Go.Proofs.YtcpkcmgjfcbnpaaGreatDoor
open Go Go.Sl Go.Conc Go.ChangeShapes Go.WideShapes Go.ChangeAt Go.RowKit PHeap
set_option maxRecDepth 100000 in
theorem fnWorldNew_lifted (os : Os) (started : os.Started) (H : Type) (enc : TypeId × Value → H) :
    ReturnsInLeavingWide Rows.fnWorldNewRow.assume Tryz.checked os 11 .any (fun w args => (Rows.fnWorldNewSpec.pre enc Tryz.prog Tryz.f11 Rows.fnWorldNewRow.domain false w args ∧ laidMetH Tryz.prog Rows.fnWorldNewRow.laid w) ∧ sizedMet enc Tryz.prog Tryz.f11 (OpenSpec.ofChange Rows.fnWorldNewSpec) false w args)
      (Rows.fnWorldNewSpec.post enc Tryz.prog Tryz.f11 false true false false) := by
  refine leavingWide_of_runs (C := Tryz.checked) (X := fun w _ => laidMetH Tryz.prog Rows.fnWorldNewRow.laid w) (fun _ _ _ hh h => h.of_heap hh) k_own started Tryz.func11
    (ChangeSpec.witness_at (enc := enc) (C := Tryz.checked) (os := os) (X := fun w _ => laidMetH Tryz.prog Rows.fnWorldNewRow.laid w) false (laidWorld os) #[.slice none 0 0] 16 rfl (by kernel_rfl) (by kernel_rfl) (by kernel_rfl) (by kernel_rfl) (by kernel_rfl) (laidWorld_met os _)) ?_
  intro W base args ds gs before hval0 hW hsz0 hop hlaid
  haveI := errAt hop hlaid
  have hval : ∀ (j : Nat) t v, Tryz.f11.params[j]? = some t → args[j]? = some v → Value.okWide Tryz.prog W .any base t v := hval0
  have hW' := hW
  obtain ⟨p, q, hA0, hV, rfl, hfz, hnd⟩ := hW
  have hA : DataW.TrodAll enc Tryz.prog W 0 (fun _ => true) true Tryz.f11.params.toList args.toList ds p := hA0
  have hpar : Tryz.f11.params = #[22] := rfl
  have hlt := hW'.lt
  rw [hpar] at hA hval hsz0
  obtain ⟨v0, d0, rfl, rfl, h0⟩ := trodAll_one hA
  obtain ⟨rfl, rfl⟩ := trodVars_none hV
  have hv0 := hval 0 22 v0 rfl rfl
  have hsz1 : ∀ m ∈ d0.weights Tryz.prog 22, m ≤ reachBytes := fun m hm => by
    have := List.all_eq_true.1 hsz0 m (DataW.weights_mem_each (j := 0) (t := 22) (d := d0) rfl rfl m hm)
    simpa using this
  have hone0 : v0.cells.toList = [v0] := by
    simp only [Value.okWide, (Ty.und (P := Tryz.prog) (t := 22))] at hv0
    cases v0 with
    | agg cs => exact absurd hv0 (by simp [Cell.okWide, Cell.ok, (Ty.und (P := Tryz.prog) (t := 22))])
    | _ => rfl
  have s0 := h0
  obtain ⟨fuel0, h0⟩ := h0
  rw [hone0] at h0
  obtain ⟨u0, x0, e0, b0⟩ := opens_slF (P := Tryz.prog) (W := W) (t := 22) (e := 5) (E := u8F) rfl (by decide) (by decide) h0 hsz1
  obtain rfl : u0 = v0 := (List.cons.inj e0).1.symm
  simp only [List.append_nil, List.nil_append] at hW' hlt
  refine ⟨fun v => v = .bool true, ends_of_body (P := Tryz.prog) (W := W) (R := fun v => v = .bool true) (f := 11) (fn := Tryz.f11) (vs := [u0]) (h := allOf W) rfl (sat_allOf W) (fun _ => rfl) (by kernel_rfl) Tryz.func11 (by kernel_rfl)
    (worldNew_law (M := (· = Lone Tryz.prog W (fun v => v = .bool true))) (allOf W) u0 x0 b0), fun v W' hR hk => ?_⟩
  subst hR
  refine post_of_kept (pa := p) (pv := []) hW' (fun _ _ _ => trodAll_mk1 (shut_bool (P := Tryz.prog) (Ty.und (t := 4)) true)) (fun sp hs => ?_) (fun _ _ => rfl) (by simp) hk (ok_one rfl rfl (okWide_bool_mk (P := Tryz.prog) (Ty.und (t := 4)) true))
  have key := trodAll_mk1 (WideElems.Trod_stays k_laidOut (by kernel_rfl) (of_decide_eq_true (by kernel_rfl)) s0 (fun x hx => same_kept hk (hlt x (by simp [hx]))) (fun x hx => hs x (by simp [hx])))
  skip
  exact key
theorem fnWorldNew_inPlace : (Rows.fnWorldNewRow.inPlace == Tryz.prog.inPlace 11) = true := by kernel_rfl
theorem fnWorldNew_unfollowed : (Rows.fnWorldNewRow.unfollowed == Tryz.prog.unfollowed 11) = true := by kernel_rfl
theorem fnWorldNew_recurses : (Rows.fnWorldNewRow.recurses == Tryz.prog.recurses 11) = true := by kernel_rfl
theorem fnWorldNew_named : (Rows.fnWorldNewRow.named == Tryz.prog.varsNamed 11) = true := by kernel_rfl
theorem fnWorldNew_loops : (Rows.fnWorldNewRow.loops == (Tryz.f11.params.toList ++ Rows.fnWorldNewSpec.plain.varTypes Tryz.prog).any (Tryz.prog.loopsFrom ·)) = true := by kernel_rfl
theorem fnWorldNew_facts : joinedFacts Tryz.prog 11 Tryz.f11 Rows.fnWorldNewSpec Rows.fnWorldNewRow = true := by
  unfold joinedFacts
  refine and_mk ?_ (by kernel_rfl)
  refine and_mk ?_ (by kernel_rfl)
  refine and_mk ?_ (by kernel_rfl)
  refine and_mk ?_ (by kernel_rfl)
  refine and_mk ?_ k_make
  refine and_mk ?_ k_lifted
  refine and_mk ?_ k_may
  refine and_mk ?_ k_heard
  refine and_mk ?_ (by kernel_rfl)
  refine and_mk ?_ k_plain
  refine and_mk ?_ (by kernel_rfl)
  refine and_mk ?_ (by kernel_rfl)
  refine and_mk ?_ (by kernel_rfl)
  refine and_mk ?_ (by kernel_rfl)
  refine and_mk ?_ (by kernel_rfl)
  refine and_mk ?_ fnWorldNew_loops
  refine and_mk ?_ (by kernel_rfl)
  refine and_mk ?_ (by kernel_rfl)
  refine and_mk ?_ (by kernel_rfl)
  refine and_mk ?_ fnWorldNew_named
  refine and_mk ?_ fnWorldNew_recurses
  refine and_mk ?_ fnWorldNew_unfollowed
  refine and_mk ?_ fnWorldNew_inPlace
  refine and_mk ?_ k_stopKnobs
  refine and_mk ?_ (by kernel_rfl)
  refine and_mk ?_ k_stops
  refine and_mk ?_ (by kernel_rfl)
  refine and_mk ?_ (by kernel_rfl)
  refine and_mk ?_ (by kernel_rfl)
  refine and_mk ?_ k_mapsRowed
  refine and_mk ?_ k_laidOut
  kernel_rfl
theorem fnWorldNew_row : Rows.FnWorldNewSaid :=
  OpenClaim.holds_of_wide_leaving 11 Tryz.f11 rfl rfl rfl rfl rfl rfl rfl ⟨rfl, rfl, rfl, rfl, rfl⟩ rfl rfl rfl rfl rfl (by kernel_rfl) Tryz.func11 fnWorldNew_facts
    (of_decide_eq_true (by kernel_rfl)) (by unfold Func.isWrapper; rw [if_neg (of_decide_eq_false (by kernel_rfl))]; exact ⟨rfl, rfl⟩)
    (fun os started H enc _ => fnWorldNew_lifted os started H enc)
end Go.Proofs.YtcpkcmgjfcbnpaaGreatDoor

/- The row of FnKeepNew, and its card. -/
import Derived.Test.YtcefbjpebgofjaaGreatDoorRows
import Derived.Test.YtcefbjpebgofjaaGreatDoorCards
import Derived.Test.YtcefbjpebgofjaaGreatDoorTie
import Derived.Test.YtcefbjpebgofjaaGreatDoorN9
import Derived.Test.YtcefbjpebgofjaaGreatDoorSmQ
import Derived.LaidLaws
import Derived.LaidHandle
import Derived.SevenTiedAt
set_option linter.unusedVariables false
set_option linter.unusedSimpArgs false
set_option linter.unusedSectionVars false

namespace Go.Proofs.YtcefbjpebgofjaaGreatDoor
open Go Go.Sl Go.Conc Go.ChangeShapes Go.WideShapes Go.ChangeAt Go.RowKit

theorem k_own : ownKnob Tryz.prog.godebug = none := by kernel_rfl
theorem k_laidOut : laidOutB Tryz.prog = true := by kernel_rfl

/-- A world that meets the condition: the settled one, the variable's cell laid. -/
noncomputable def laidWorld (os : Os) : World :=
  let w0 := World.holding Tryz.prog os ⟨#[], #[], []⟩
  { w0 with heap := w0.heap.modify 0 fun
      | .cells _ t frozen => .cells #[.iface 109 (.agg #[.pointer (some ⟨1, 57, none⟩)])] t frozen
      | o => o }
theorem laidWorld_met (os : Os) (args : Array Value) : laidMetH Tryz.prog Rows.fnKeepNewRow.laid ((laidWorld os).forCall (fun _ _ => 0) ⟨#[], args, []⟩).memory :=
  laidMetH_of_parts (laidMet_nil _ _) (by kernel_rfl)

set_option maxRecDepth 100000 in
theorem keepNew_lifted (os : Os) (started : os.Started) (H : Type) (enc : TypeId × Value → H) :
    ReturnsInLeavingWide Rows.fnKeepNewRow.assume Tryz.checked os 3 .any (fun w args => (Rows.fnKeepNewSpec.pre enc Tryz.prog Tryz.f3 Rows.fnKeepNewRow.domain false w args ∧ laidMetH Tryz.prog Rows.fnKeepNewRow.laid w) ∧ sizedMet enc Tryz.prog Tryz.f3 (OpenSpec.ofChange Rows.fnKeepNewSpec) false w args)
      (Rows.fnKeepNewSpec.post enc Tryz.prog Tryz.f3 false true false false) := by
  refine leavingWide_of_runs (C := Tryz.checked) (X := fun w _ => laidMetH Tryz.prog Rows.fnKeepNewRow.laid w) (fun _ _ _ hh h => h.of_heap hh) k_own started Tryz.func3
    (ChangeSpec.witness_at (enc := enc) (C := Tryz.checked) (os := os) (X := fun w _ => laidMetH Tryz.prog Rows.fnKeepNewRow.laid w) false (laidWorld os) #[.slice none 0 0] 8 rfl (by kernel_rfl) (by kernel_rfl) (by kernel_rfl) (by kernel_rfl) (by kernel_rfl) (laidWorld_met os _)) ?_
  intro W base args ds gs before hval0 hW hsz0 _ _
  have hval : ∀ (j : Nat) t v, Tryz.f3.params[j]? = some t → args[j]? = some v → Value.okWide Tryz.prog W .any base t v := hval0
  have hW' := hW
  obtain ⟨p, q, hA0, hV, rfl, hfz, hnd⟩ := hW
  have hA : DataW.TrodAll enc Tryz.prog W 0 (fun _ => true) true Tryz.f3.params.toList args.toList ds p := hA0
  have hpar : Tryz.f3.params = #[22] := rfl
  have hlt := hW'.lt
  rw [hpar] at hA hval
  obtain ⟨v0, d0, rfl, rfl, h0⟩ := trodAll_one hA
  obtain ⟨rfl, rfl⟩ := trodVars_none hV
  have hv0 := hval 0 22 v0 rfl rfl
  have h0' := h0
  obtain ⟨fuel, h0⟩ := h0
  have hsz : ∀ m ∈ d0.weights Tryz.prog 22, m ≤ reachBytes := fun m hm => by
    have := List.all_eq_true.1 hsz0 m (DataW.weights_mem_each (j := 0) (t := 22) (d := d0) rfl rfl m hm)
    simpa using this
  have hone : v0.cells.toList = [v0] ∧ Spots [v0] := by
    simp only [Value.okWide, (Ty.und (P := Tryz.prog) (t := 22))] at hv0
    refine ⟨?_, fun u hu a l c e => ?_⟩
    · cases v0 with
      | agg cs => exact absurd hv0 (by simp [Cell.okWide, Cell.ok, (Ty.und (P := Tryz.prog) (t := 22))])
      | _ => rfl
    · obtain rfl := List.mem_singleton.1 hu
      subst e
      exact cell_spot hv0
  rw [hone.1] at h0
  obtain ⟨v1, xs, e1, hs⟩ := opens_slF (P := Tryz.prog) (W := W) (t := 22) (e := 5) (E := u8F) rfl (by decide) hone.2 h0 hsz
  obtain rfl : v1 = v0 := (List.cons.inj e1).1.symm
  simp only [List.append_nil] at hW' hlt
  refine ⟨fun v => v = .bool true, ends_of_body (P := Tryz.prog) (W := W) (R := fun v => v = .bool true) (f := 3) (fn := Tryz.f3) (vs := [v1]) (h := allOf W) rfl (sat_allOf W) (fun _ => rfl) (by kernel_rfl) Tryz.func3 (by kernel_rfl)
    (keep_body (M := (· = Lone Tryz.prog W (fun v => v = .bool true))) (allOf W) v1 xs hs), fun v W' hR hk => ?_⟩
  subst hR
  refine post_of_kept (pa := p) (pv := []) hW' (fun _ _ _ => trodAll_mk1 (shut_bool (P := Tryz.prog) (Ty.und (t := 4)) true)) (fun sp hs => ?_) (fun _ _ => rfl) (by simp) hk (ok_one rfl rfl (okWide_bool_mk (P := Tryz.prog) (Ty.und (t := 4)) true))
  exact trodAll_mk1 (WideElems.Trod_stays k_laidOut (by kernel_rfl) (of_decide_eq_true (by kernel_rfl)) h0' (fun x hx => same_kept hk (hlt x hx)) (fun x hx => hs x hx))

theorem fnKeepNew_row : Rows.FnKeepNewSaid :=
  OpenClaim.holds_of_wide_leaving 3 Tryz.f3 rfl rfl rfl rfl rfl rfl rfl ⟨rfl, rfl, rfl, rfl, rfl⟩ rfl rfl rfl rfl rfl (by kernel_rfl) Tryz.func3 (by kernel_rfl)
    (of_decide_eq_true (by kernel_rfl)) (by unfold Func.isWrapper; rw [if_neg (of_decide_eq_false (by kernel_rfl))]; exact ⟨rfl, rfl⟩)
    (fun os started H enc _ => keepNew_lifted os started H enc)
end Go.Proofs.YtcefbjpebgofjaaGreatDoor

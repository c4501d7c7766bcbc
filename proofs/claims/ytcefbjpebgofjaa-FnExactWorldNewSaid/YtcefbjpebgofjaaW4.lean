/- The row of FnExactWorldNew. -/
import Derived.Test.YtcefbjpebgofjaaRows
import Derived.Test.YtcefbjpebgofjaaW3
import Derived.Test.YtcefbjpebgofjaaSmO
namespace Go.Proofs.Ytcefbjpebgofjaa
open Go Go.Sl Go.ChangeShapes Go.WideShapes Go.ChangeAt Go.RowKit

theorem w_own : ownKnob Try.prog.godebug = none := by kernel_rfl
theorem w_laidOut : laidOutB Try.prog = true := by kernel_rfl

instance : OpensF Try.prog 79 cellF := opens_cell
instance : Opens Try.prog 24 (gridR τ) := opens_grid

set_option maxRecDepth 100000 in
theorem worldNew_lifted (os : Os) (started : os.Started) (H : Type) (enc : TypeId × Value → H) :
    ReturnsInHanded {} Try.checked os 4 .any (Rows.fnExactWorldNewSpec.pre6 enc Try.prog Try.f4 Rows.fnExactWorldNewRow.domain false) (Rows.fnExactWorldNewSpec.post enc Try.prog Try.f4 false true false false) := by
  refine returnsInHanded_of_change_shaped (C := Try.checked) w_own started (by kernel_rfl) Try.func4
    (ChangeSpec.witness6 (enc := enc) (C := Try.checked) false ⟨#[], #[.agg #[.int .i64 0, .slice none 0 0], .int .i64 0], []⟩ 8 (by kernel_rfl) (by kernel_rfl) (by kernel_rfl) (by kernel_rfl)) ?_
  intro W base args ds gs before hval0 hW hcnd hsz0 _ _
  have hval : ∀ (j : Nat) t v, Try.f4.params[j]? = some t → args[j]? = some v → Value.okWide Try.prog W .any base t v := hval0
  have hW' := hW
  obtain ⟨p, q, hA0, hV, rfl, hfz, hnd⟩ := hW
  have hA : DataW.TrodAll enc Try.prog W 0 (fun _ => true) true Try.f4.params.toList args.toList ds p := hA0
  have hpar : Try.f4.params = #[24, 3] := rfl
  have hlt := hW'.lt
  rw [hpar] at hA hval
  obtain ⟨v0, v1, d0, d1, p0, p1, rfl, rfl, rfl, h0, h1⟩ := trodAll_two hA
  obtain ⟨rfl, rfl⟩ := trodVars_none hV
  have hT : ∃ fs, Try.prog.underlying 24 = some (.struct fs) := ⟨_, Ty.und⟩
  obtain ⟨fs, hT⟩ := hT
  obtain ⟨many, rfl, rfl, rfl, wm⟩ := open_int (Ty.und (t := 3)) (hval 1 3 v1 rfl rfl) h1
  have hv0 := hval 0 24 v0 rfl rfl
  obtain ⟨cs, rfl, _⟩ := okWide_struct hT hv0
  have hsp : Spots cs.toList := spots_struct hT (by simpa using hv0)
  have hsz : ∀ m ∈ d0.weights Try.prog 24, m ≤ reachBytes := fun m hm => by
    have := List.all_eq_true.1 hsz0 m (DataW.weights_mem_each (j := 0) (t := 24) (d := d0) rfl rfl m hm)
    simpa using this
  have h0' := h0
  obtain ⟨fuel, h0⟩ := h0
  obtain ⟨g, hg⟩ := Opens.op (R := gridR τ) hsp h0 hsz
  simp only [List.append_nil] at hW' hlt
  have key := calls_of_body (P := Try.prog) (W := W) (R := fun v => v = .bool true) (f := 4) (fn := Try.f4) (vs := [.agg cs, .int .i64 many]) (h := allOf W) (t := 4) rfl (sat_allOf W) (fun _ => rfl) Try.func4 rfl (by kernel_rfl)
    (fun css => world_body (M := (· = Run1 Try.prog W (fun v => v = .bool true) 4 css)) (allOf W) cs.toList g many hg)
  refine key.mono fun e W' ⟨v, he, hR, hk, ht⟩ => ?_
  subst he; subst hR
  have hb := below_of hk ht
  refine ⟨_, rfl, post_of_below (pa := p0) (pv := []) hW' (fun _ _ _ => trodAll_mk1 (shut_bool (P := Try.prog) (Ty.und (t := 4)) true)) (fun sp hs => ?_) (fun _ _ => rfl) (by simp) hb (ok_one rfl rfl (okWide_bool_mk (P := Try.prog) (Ty.und (t := 4)) true))⟩
  have := trodAll_mk2 (WideElems.Trod_stays w_laidOut (by kernel_rfl) (of_decide_eq_true (by kernel_rfl)) h0' (fun x hx => hb.same (hlt x hx)) (fun x hx => hs x hx)) (shut_int (enc := enc) (w := W') (base := 0) (spare := sp) (held := true) (Ty.und (P := Try.prog) (t := 3)) wm)
  rw [List.append_nil] at this
  exact this

theorem fnExactWorldNew_holds : Rows.FnExactWorldNewSaid :=
  OpenClaim.holds_of_wide 4 Try.f4 rfl rfl rfl rfl rfl rfl rfl ⟨rfl, rfl, rfl, rfl, rfl⟩ rfl rfl rfl rfl rfl (by kernel_rfl) Try.func4 (by kernel_rfl)
    (of_decide_eq_true (by kernel_rfl)) (by unfold Func.isWrapper; rw [if_neg (of_decide_eq_false (by kernel_rfl))]; exact ⟨rfl, rfl⟩)
    (fun os started H enc _ => worldNew_lifted os started H enc)
end Go.Proofs.Ytcefbjpebgofjaa

/- Walks of the seat: EC ED R5u. -/
import Derived.Test.YtcpkcmgjfcbnpaaGreatDoorRows
import Derived.Test.YtcpkcmgjfcbnpaaGreatDoorCards
import Derived.Test.YtcpkcmgjfcbnpaaGreatDoorTie
import Derived.Test.YtcpkcmgjfcbnpaaGreatDoorOwnC
import Derived.Test.YtcpkcmgjfcbnpaaGreatDoorSmO
import Derived.Test.YtcpkcmgjfcbnpaaGreatDoorSmQ
import Derived.LaidLaws
import Derived.LaidHandle
import Derived.SevenTiedAt
import Derived.Test.YtcpkcmgjfcbnpaaGreatDoorOwnD
import Derived.Test.YtcpkcmgjfcbnpaaGreatDoorSmM
set_option linter.unusedVariables false
set_option linter.unusedSimpArgs false
set_option linter.unusedSectionVars false
namespace Go.Proofs.YtcpkcmgjfcbnpaaGreatDoor
open Go Go.Sl Go.Conc Go.ChangeShapes Go.WideShapes Go.ChangeAt Go.RowKit PHeap
theorem k_own : ownKnob Tryz.prog.godebug = none := by kernel_rfl
theorem k_laidOut : laidOutB Tryz.prog = true := by kernel_rfl
abbrev laidOf : List (String × DataW Unit) := [("errors.errorType", Rows.laid_errors_errorType)]
theorem k_et : Tryz.prog.globalNamed "errors.errorType" = some 0 := by kernel_rfl
theorem k_rt : (Tryz.prog.cutTypes.find? (·.1 == "internal/reflectlite.rtype")).map (·.2) = some 237 := by kernel_rfl
theorem k_oneRow : ((List.range Tryz.prog.types.size).filter fun t => Tryz.prog.rowNamed t [101, 114, 114, 111, 114]) = [90] := by kernel_rfl
theorem k_zero : ((begin Tryz.prog (fun _ _ => 0) default).world.heap[0]?).bind Obj.row? = some (#[.nilIface], 185) := by kernel_rfl
theorem errAt {W : World} (hs : W.ShapedOpen Tryz.prog) (h : laidMetH Tryz.prog laidOf W) : BAt (allOf W) 0 errObj := by
  have h' : laidMet Tryz.prog [] W ∧ handlesMet Tryz.prog laidOf W := h
  obtain ⟨name, u, ty, e1, e2, e3, e4, e5⟩ := h'.2 _ (List.mem_singleton.2 rfl)
  have en : name = [101, 114, 114, 111, 114] := (Option.some.inj e1).symm
  subst en
  obtain rfl := Option.some.inj (k_rt.symm.trans e2)
  have hm : ty ∈ (List.range Tryz.prog.types.size).filter fun t => Tryz.prog.rowNamed t [101, 114, 114, 111, 114] := List.mem_filter.2 ⟨List.mem_range.2 e3, e4⟩
  rw [k_oneRow] at hm
  obtain rfl := List.mem_singleton.1 hm
  have hh : typeHandle Tryz.prog 90 = hdl 90 := by kernel_rfl
  rw [hh] at e5
  obtain ⟨cs, hc, _, _⟩ := hs.1 0 _ _ (of_decide_eq_true (by kernel_rfl)) k_zero
  unfold World.var? at e5
  rw [k_et] at e5
  simp only [Option.bind_some, hc, Option.some.injEq] at e5
  subst e5
  exact ⟨hc⟩
noncomputable def laidWorld (os : Os) : World :=
  let w0 := World.holding Tryz.prog os ⟨#[], #[], []⟩
  { w0 with heap := w0.heap.modify 0 fun
      | .cells _ t frozen => .cells #[rty 90] t frozen
      | o => o }
theorem laidWorld_met (os : Os) (args : Array Value) : laidMetH Tryz.prog laidOf ((laidWorld os).forCall (fun _ _ => 0) ⟨#[], args, []⟩).memory :=
  laidMetH_of_parts (laidMet_nil _ _) (by kernel_rfl)
end Go.Proofs.YtcpkcmgjfcbnpaaGreatDoor
namespace Go.Proofs.YtcpkcmgjfcbnpaaGreatDoor
open Go Go.RowKit
theorem and_mk {a b : Bool} (ha : a = true) (hb : b = true) : (a && b) = true := by rw [ha, hb]; rfl
theorem k_mapsRowed : mapsRowed Tryz.prog = true := by kernel_rfl
theorem k_stops : (Tryz.prog.stops == []) = true := by kernel_rfl
theorem k_stopKnobs : (Tryz.prog.stopKnobs == []) = true := by kernel_rfl
theorem k_plain : (Rows.fnKeepTrueRow.plainKeys == Tryz.prog.plainKeys) = true := by kernel_rfl
theorem k_heard : Tryz.prog.stopsHeard = true := by kernel_rfl
theorem k_may : Tryz.prog.mayEnter = true := by kernel_rfl
theorem k_lifted : (Rows.fnKeepTrueRow.lifted == Tryz.prog.liftsFinal) = true := by kernel_rfl
theorem k_make : (Tryz.prog.make == some Rows.fnKeepTrueRow.make) = true := by kernel_rfl
end Go.Proofs.YtcpkcmgjfcbnpaaGreatDoor
namespace Go.Proofs.YtcpkcmgjfcbnpaaGreatDoor
open Go Go.Sl Go.Conc Go.ChangeShapes Go.WideShapes Go.ChangeAt Go.RowKit PHeap
set_option maxRecDepth 100000 in
theorem fnKeepTwice_lifted (os : Os) (started : os.Started) (H : Type) (enc : TypeId × Value → H) :
    ReturnsInLeavingWide Rows.fnKeepTwiceRow.assume Tryz.checked os 7 .any (fun w args => (Rows.fnKeepTwiceSpec.pre enc Tryz.prog Tryz.f7 Rows.fnKeepTwiceRow.domain false w args ∧ laidMetH Tryz.prog Rows.fnKeepTwiceRow.laid w) ∧ sizedMet enc Tryz.prog Tryz.f7 (OpenSpec.ofChange Rows.fnKeepTwiceSpec) false w args)
      (Rows.fnKeepTwiceSpec.post enc Tryz.prog Tryz.f7 false true false false) := by
  refine leavingWide_of_runs (C := Tryz.checked) (X := fun w _ => laidMetH Tryz.prog Rows.fnKeepTwiceRow.laid w) (fun _ _ _ hh h => h.of_heap hh) k_own started Tryz.func7
    (ChangeSpec.witness_at (enc := enc) (C := Tryz.checked) (os := os) (X := fun w _ => laidMetH Tryz.prog Rows.fnKeepTwiceRow.laid w) false (laidWorld os) #[.slice none 0 0] 16 rfl (by kernel_rfl) (by kernel_rfl) (by kernel_rfl) (by kernel_rfl) (by kernel_rfl) (laidWorld_met os _)) ?_
  intro W base args ds gs before hval0 hW hsz0 hop hlaid
  haveI := errAt hop hlaid
  have hval : ∀ (j : Nat) t v, Tryz.f7.params[j]? = some t → args[j]? = some v → Value.okWide Tryz.prog W .any base t v := hval0
  have hW' := hW
  obtain ⟨p, q, hA0, hV, rfl, hfz, hnd⟩ := hW
  have hA : DataW.TrodAll enc Tryz.prog W 0 (fun _ => true) true Tryz.f7.params.toList args.toList ds p := hA0
  have hpar : Tryz.f7.params = #[22] := rfl
  have hlt := hW'.lt
  rw [hpar] at hA hval hsz0
  obtain ⟨v0, d0, rfl, rfl, h0⟩ := trodAll_one hA
  obtain ⟨rfl, rfl⟩ := trodVars_none hV
  have hv0 := hval 0 22 v0 rfl rfl
  have hsz1 : ∀ m ∈ d0.weights Tryz.prog 22, m ≤ reachBytes := fun m hm => by
    have := List.all_eq_true.1 hsz0 m (DataW.weights_mem_each (j := 0) (t := 22) (d := d0) rfl rfl m hm)
    simpa using this
  have hone0 : v0.cells.toList = [v0] := by
    simp only [Value.okWide, (Ty.und (P := Tryz.prog) (t := 22))] at hv0
    cases v0 with
    | agg cs => exact absurd hv0 (by simp [Cell.okWide, Cell.ok, (Ty.und (P := Tryz.prog) (t := 22))])
    | _ => rfl
  have s0 := h0
  obtain ⟨fuel0, h0⟩ := h0
  rw [hone0] at h0
  obtain ⟨u0, x0, e0, b0⟩ := opens_slF (P := Tryz.prog) (W := W) (t := 22) (e := 5) (E := u8F) rfl (by decide) (by decide) h0 hsz1
  obtain rfl : u0 = v0 := (List.cons.inj e0).1.symm
  simp only [List.append_nil, List.nil_append] at hW' hlt
  refine ⟨fun v => v = .bool true, ends_of_body (P := Tryz.prog) (W := W) (R := fun v => v = .bool true) (f := 7) (fn := Tryz.f7) (vs := [u0]) (h := allOf W) rfl (sat_allOf W) (fun _ => rfl) (by kernel_rfl) Tryz.func7 (by kernel_rfl)
    (keepTwice_law (M := (· = Lone Tryz.prog W (fun v => v = .bool true))) (allOf W) u0 x0 b0), fun v W' hR hk => ?_⟩
  subst hR
  refine post_of_kept (pa := p) (pv := []) hW' (fun _ _ _ => trodAll_mk1 (shut_bool (P := Tryz.prog) (Ty.und (t := 4)) true)) (fun sp hs => ?_) (fun _ _ => rfl) (by simp) hk (ok_one rfl rfl (okWide_bool_mk (P := Tryz.prog) (Ty.und (t := 4)) true))
  have key := trodAll_mk1 (WideElems.Trod_stays k_laidOut (by kernel_rfl) (of_decide_eq_true (by kernel_rfl)) s0 (fun x hx => same_kept hk (hlt x (by simp [hx]))) (fun x hx => hs x (by simp [hx])))
  skip
  exact key
theorem fnKeepTwice_inPlace : (Rows.fnKeepTwiceRow.inPlace == Tryz.prog.inPlace 7) = true := by kernel_rfl
theorem fnKeepTwice_unfollowed : (Rows.fnKeepTwiceRow.unfollowed == Tryz.prog.unfollowed 7) = true := by kernel_rfl
theorem fnKeepTwice_recurses : (Rows.fnKeepTwiceRow.recurses == Tryz.prog.recurses 7) = true := by kernel_rfl
theorem fnKeepTwice_named : (Rows.fnKeepTwiceRow.named == Tryz.prog.varsNamed 7) = true := by kernel_rfl
theorem fnKeepTwice_loops : (Rows.fnKeepTwiceRow.loops == (Tryz.f7.params.toList ++ Rows.fnKeepTwiceSpec.plain.varTypes Tryz.prog).any (Tryz.prog.loopsFrom ·)) = true := by kernel_rfl
theorem fnKeepTwice_facts : joinedFacts Tryz.prog 7 Tryz.f7 Rows.fnKeepTwiceSpec Rows.fnKeepTwiceRow = true := by
  unfold joinedFacts
  refine and_mk ?_ (by kernel_rfl)
  refine and_mk ?_ (by kernel_rfl)
  refine and_mk ?_ (by kernel_rfl)
  refine and_mk ?_ (by kernel_rfl)
  refine and_mk ?_ k_make
  refine and_mk ?_ k_lifted
  refine and_mk ?_ k_may
  refine and_mk ?_ k_heard
  refine and_mk ?_ (by kernel_rfl)
  refine and_mk ?_ k_plain
  refine and_mk ?_ (by kernel_rfl)
  refine and_mk ?_ (by kernel_rfl)
  refine and_mk ?_ (by kernel_rfl)
  refine and_mk ?_ (by kernel_rfl)
  refine and_mk ?_ (by kernel_rfl)
  refine and_mk ?_ fnKeepTwice_loops
  refine and_mk ?_ (by kernel_rfl)
  refine and_mk ?_ (by kernel_rfl)
  refine and_mk ?_ (by kernel_rfl)
  refine and_mk ?_ fnKeepTwice_named
  refine and_mk ?_ fnKeepTwice_recurses
  refine and_mk ?_ fnKeepTwice_unfollowed
  refine and_mk ?_ fnKeepTwice_inPlace
  refine and_mk ?_ k_stopKnobs
  refine and_mk ?_ (by kernel_rfl)
  refine and_mk ?_ k_stops
  refine and_mk ?_ (by kernel_rfl)
  refine and_mk ?_ (by kernel_rfl)
  refine and_mk ?_ (by kernel_rfl)
  refine and_mk ?_ k_mapsRowed
  refine and_mk ?_ k_laidOut
  kernel_rfl
theorem fnKeepTwice_row : Rows.FnKeepTwiceSaid :=
  OpenClaim.holds_of_wide_leaving 7 Tryz.f7 rfl rfl rfl rfl rfl rfl rfl ⟨rfl, rfl, rfl, rfl, rfl⟩ rfl rfl rfl rfl rfl (by kernel_rfl) Tryz.func7 fnKeepTwice_facts
    (of_decide_eq_true (by kernel_rfl)) (by unfold Func.isWrapper; rw [if_neg (of_decide_eq_false (by kernel_rfl))]; exact ⟨rfl, rfl⟩)
    (fun os started H enc _ => fnKeepTwice_lifted os started H enc)
end Go.Proofs.YtcpkcmgjfcbnpaaGreatDoor

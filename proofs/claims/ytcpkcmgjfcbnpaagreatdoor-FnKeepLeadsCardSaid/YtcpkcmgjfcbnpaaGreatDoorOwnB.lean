/- Walks of the seat: EC ED. -/
import Derived.Test.YtcpkcmgjfcbnpaaGreatDoorRows
import Derived.Test.YtcpkcmgjfcbnpaaGreatDoorCards
import Derived.Test.YtcpkcmgjfcbnpaaGreatDoorTie
import Derived.Test.YtcpkcmgjfcbnpaaGreatDoorOwnA
import Derived.Test.YtcpkcmgjfcbnpaaGreatDoorSmO
import Derived.Test.YtcpkcmgjfcbnpaaGreatDoorSmQ
import Derived.LaidLaws
import Derived.LaidHandle
import Derived.SevenTiedAt
set_option linter.unusedVariables false
set_option linter.unusedSimpArgs false
set_option linter.unusedSectionVars false
namespace Go.Proofs.YtcpkcmgjfcbnpaaGreatDoor
open Go Go.Sl Go.Conc Go.ChangeShapes Go.WideShapes Go.ChangeAt Go.RowKit PHeap
theorem k_own:ownKnob Tryz.prog.godebug = none:=by kernel_rfl
theorem k_laidOut:laidOutB Tryz.prog = true:=by kernel_rfl
abbrev laidOf : List (String × DataW Unit) := [("errors.errorType", Rows.laid_errors_errorType)]
theorem k_et : Tryz.prog.globalNamed "errors.errorType" = some 0 := by kernel_rfl
theorem k_rt : (Tryz.prog.cutTypes.find? (·.1 == "internal/reflectlite.rtype")).map (·.2) = some 237 := by kernel_rfl
theorem k_oneRow:((List.range Tryz.prog.types.size).filter fun t=>Tryz.prog.rowNamed t [101,114,114,111,114]) = [90]:=by kernel_rfl
theorem k_zero:((begin Tryz.prog (fun _ _=>0) default).world.heap[0]?).bind Obj.row? = some (#[.nilIface],185):=by kernel_rfl
theorem errAt {W:World} (hs:W.ShapedOpen Tryz.prog) (h:laidMetH Tryz.prog laidOf W):BAt (allOf W) 0 errObj:=by
 have h':laidMet Tryz.prog [] W∧handlesMet Tryz.prog laidOf W:=h
 obtain ⟨name,u,ty,e1,e2,e3,e4,e5⟩:=h'.2 _ (List.mem_singleton.2 rfl)
 have en:name = [101,114,114,111,114]:=(Option.some.inj e1).symm
 subst en
 obtain rfl:=Option.some.inj (k_rt.symm.trans e2)
 have hm:ty ∈ (List.range Tryz.prog.types.size).filter fun t=>Tryz.prog.rowNamed t [101,114,114,111,114]:=List.mem_filter.2 ⟨List.mem_range.2 e3,e4⟩
 rw [k_oneRow] at hm
 obtain rfl:=List.mem_singleton.1 hm
 have hh:typeHandle Tryz.prog 90 = hdl 90:=by kernel_rfl
 rw [hh] at e5
 obtain ⟨cs,hc,_,_⟩:=hs.1 0 _ _ (of_decide_eq_true (by kernel_rfl)) k_zero
 unfold World.var? at e5
 rw [k_et] at e5
 simp only [Option.bind_some,hc,Option.some.injEq] at e5
 subst e5
 exact ⟨hc⟩
noncomputable def laidWorld (os:Os):World:=
 let w0:=World.holding Tryz.prog os ⟨#[],#[],[]⟩
 { w0 with heap := w0.heap.modify 0 fun
   | .cells _ t frozen=>.cells #[rty 90] t frozen
   | o=>o }
theorem laidWorld_met (os:Os) (args:Array Value):laidMetH Tryz.prog laidOf ((laidWorld os).forCall (fun _ _=>0) ⟨#[],args,[]⟩).memory:=
 laidMetH_of_parts (laidMet_nil _ _) (by kernel_rfl)
end Go.Proofs.YtcpkcmgjfcbnpaaGreatDoor
namespace Go.Proofs.YtcpkcmgjfcbnpaaGreatDoor
open Go Go.RowKit
theorem and_mk {a b:Bool} (ha:a = true) (hb:b = true):(a && b) = true:=by rw [ha,hb]; rfl
theorem k_mapsRowed:mapsRowed Tryz.prog = true:=by kernel_rfl
theorem k_stops:(Tryz.prog.stops == []) = true:=by kernel_rfl
theorem k_stopKnobs:(Tryz.prog.stopKnobs == []) = true:=by kernel_rfl
theorem k_plain:(Rows.fnKeepTrueRow.plainKeys == Tryz.prog.plainKeys) = true:=by kernel_rfl
theorem k_heard:Tryz.prog.stopsHeard = true:=by kernel_rfl
theorem k_may:Tryz.prog.mayEnter = true:=by kernel_rfl
theorem k_lifted:(Rows.fnKeepTrueRow.lifted == Tryz.prog.liftsFinal) = true:=by kernel_rfl
theorem k_make:(Tryz.prog.make == some Rows.fnKeepTrueRow.make) = true:=by kernel_rfl
end Go.Proofs.YtcpkcmgjfcbnpaaGreatDoor

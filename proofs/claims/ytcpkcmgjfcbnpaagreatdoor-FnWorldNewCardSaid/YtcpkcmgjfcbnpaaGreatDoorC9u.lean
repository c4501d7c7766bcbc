/- The card of FnWorldNew. -/
import Derived.Test.YtcpkcmgjfcbnpaaGreatDoorOwnE
set_option linter.unusedVariables false
set_option linter.unusedSimpArgs false
set_option linter.unusedSectionVars false

namespace Go.Proofs.YtcpkcmgjfcbnpaaGreatDoor
open Go
theorem fnWorldNew_sixth : Claim7.isSixth { stood := { row := Rows.fnWorldNewRow, standIns := [], harness := (true, "05ab82f9786123f1899de73ad038f5744e98c3a45582a032503db6d633bb201c"), looks := true }, kinds := [] } = false := by kernel_rfl
theorem fnWorldNew_fnamed : Tryz.prog.funcNamed "loop.example/lucarne/laws.FnWorldNew" = some 11 := by kernel_rfl
theorem fnWorldNew_looks : true = Tryz.pinned.checked.prog.looks [] := by kernel_rfl
theorem fnWorldNew_want0 : Tryz.prog.wantsStandIn 22 = false := by kernel_rfl
theorem fnWorldNew_hl : ∀ f fn, Tryz.pinned.checked.prog.funcNamed Rows.fnWorldNewRow.func = some f → Tryz.pinned.checked.prog.funcs[f]? = some fn → true = Tryz.pinned.checked.prog.looks [] ∧ ∀ (j : Nat) t, fn.params[j]? = some t → Tryz.pinned.checked.prog.wantsStandIn t = false := fun f fn hf hfn => by
  obtain rfl : f = 11 := Option.some.inj (fnWorldNew_fnamed.symm.trans hf) |>.symm
  obtain rfl : fn = Tryz.f11 := (Option.some.inj (Tryz.func11.symm.trans hfn)).symm
  exact ⟨fnWorldNew_looks, fun j t ht => by
    have hpar : Tryz.f11.params = #[22] := rfl
    rw [hpar] at ht
    rcases j with _ | j
    · obtain rfl : 22 = t := by simpa using ht
      exact fnWorldNew_want0
    · simp at ht⟩
theorem fnWorldNew_card : Rows.FnWorldNewCardSaid :=
  ⟨Claim7.tied_new_at .later [.handle] true (Claim7.new_of_sixth fnWorldNew_row (true, "05ab82f9786123f1899de73ad038f5744e98c3a45582a032503db6d633bb201c") true rfl ⟨rfl, rfl⟩ (by kernel_rfl) fnWorldNew_sixth fnWorldNew_hl) (by kernel_rfl), (fun _ h => by cases h), fnWorldNew_row_tie, (fun h => by cases h), (by kernel_rfl)⟩
end Go.Proofs.YtcpkcmgjfcbnpaaGreatDoor

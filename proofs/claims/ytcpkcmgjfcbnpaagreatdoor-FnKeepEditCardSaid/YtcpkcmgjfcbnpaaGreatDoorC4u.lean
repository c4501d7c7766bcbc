/- The card of FnKeepEdit. -/
import Derived.Test.YtcpkcmgjfcbnpaaGreatDoorOwnE
set_option linter.unusedVariables false
set_option linter.unusedSimpArgs false
set_option linter.unusedSectionVars false

namespace Go.Proofs.YtcpkcmgjfcbnpaaGreatDoor
open Go
theorem fnKeepEdit_sixth : Claim7.isSixth { stood := { row := Rows.fnKeepEditRow, standIns := [], harness := (true, "05ab82f9786123f1899de73ad038f5744e98c3a45582a032503db6d633bb201c"), looks := true }, kinds := [] } = false := by kernel_rfl
theorem fnKeepEdit_fnamed : Tryz.prog.funcNamed "loop.example/lucarne/laws.FnKeepEdit" = some 6 := by kernel_rfl
theorem fnKeepEdit_looks : true = Tryz.pinned.checked.prog.looks [] := by kernel_rfl
theorem fnKeepEdit_want0 : Tryz.prog.wantsStandIn 22 = false := by kernel_rfl
theorem fnKeepEdit_hl : ∀ f fn, Tryz.pinned.checked.prog.funcNamed Rows.fnKeepEditRow.func = some f → Tryz.pinned.checked.prog.funcs[f]? = some fn → true = Tryz.pinned.checked.prog.looks [] ∧ ∀ (j : Nat) t, fn.params[j]? = some t → Tryz.pinned.checked.prog.wantsStandIn t = false := fun f fn hf hfn => by
  obtain rfl : f = 6 := Option.some.inj (fnKeepEdit_fnamed.symm.trans hf) |>.symm
  obtain rfl : fn = Tryz.f6 := (Option.some.inj (Tryz.func6.symm.trans hfn)).symm
  exact ⟨fnKeepEdit_looks, fun j t ht => by
    have hpar : Tryz.f6.params = #[22] := rfl
    rw [hpar] at ht
    rcases j with _ | j
    · obtain rfl : 22 = t := by simpa using ht
      exact fnKeepEdit_want0
    · simp at ht⟩
theorem fnKeepEdit_card : Rows.FnKeepEditCardSaid :=
  ⟨Claim7.tied_new_at .later [.handle] true (Claim7.new_of_sixth fnKeepEdit_row (true, "05ab82f9786123f1899de73ad038f5744e98c3a45582a032503db6d633bb201c") true rfl ⟨rfl, rfl⟩ (by kernel_rfl) fnKeepEdit_sixth fnKeepEdit_hl) (by kernel_rfl), (fun _ h => by cases h), fnKeepEdit_row_tie, (fun h => by cases h), (by kernel_rfl)⟩
end Go.Proofs.YtcpkcmgjfcbnpaaGreatDoor

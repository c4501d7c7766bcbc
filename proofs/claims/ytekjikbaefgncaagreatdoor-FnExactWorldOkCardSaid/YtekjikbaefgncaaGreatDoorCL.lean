/- The card of FnExactWorldOk. -/
import Derived.Test.YtekjikbaefgncaaGreatDoorOwnD
set_option linter.unusedVariables false
set_option linter.unusedSimpArgs false
set_option linter.unusedSectionVars false

namespace Go.Proofs.YtekjikbaefgncaaGreatDoor
open Go
theorem fnExactWorldOk_sixth : Claim7.isSixth { stood := { row := Rows.fnExactWorldOkRow, standIns := [], harness := (true, "ccef46c2e2b38a2a595d81478ee0f6ffc394c22174709775852040e1f68bceb3"), looks := true }, kinds := [] } = false := by kernel_rfl
theorem fnExactWorldOk_fnamed : Tryz.prog.funcNamed "loop.example/lucarne/laws.FnExactWorldOk" = some 11 := by kernel_rfl
theorem fnExactWorldOk_looks : true = Tryz.pinned.checked.prog.looks [] := by kernel_rfl
theorem fnExactWorldOk_want0 : Tryz.prog.wantsStandIn 80 = false := by kernel_rfl
theorem fnExactWorldOk_hl : ∀ f fn, Tryz.pinned.checked.prog.funcNamed Rows.fnExactWorldOkRow.func = some f → Tryz.pinned.checked.prog.funcs[f]? = some fn → true = Tryz.pinned.checked.prog.looks [] ∧ ∀ (j : Nat) t, fn.params[j]? = some t → Tryz.pinned.checked.prog.wantsStandIn t = false := fun f fn hf hfn => by
  obtain rfl : f = 11 := Option.some.inj (fnExactWorldOk_fnamed.symm.trans hf) |>.symm
  obtain rfl : fn = Tryz.f11 := (Option.some.inj (Tryz.func11.symm.trans hfn)).symm
  exact ⟨fnExactWorldOk_looks, fun j t ht => by
    have hpar : Tryz.f11.params = #[80] := rfl
    rw [hpar] at ht
    rcases j with _ | j
    · obtain rfl : 80 = t := by simpa using ht
      exact fnExactWorldOk_want0
    · simp at ht⟩
theorem fnExactWorldOk_card : Rows.FnExactWorldOkCardSaid :=
  ⟨Claim7.tied_new_at .later [.handle] true (Claim7.new_of_sixth fnExactWorldOk_row (true, "ccef46c2e2b38a2a595d81478ee0f6ffc394c22174709775852040e1f68bceb3") true rfl ⟨rfl, rfl⟩ (by kernel_rfl) fnExactWorldOk_sixth fnExactWorldOk_hl) (by kernel_rfl), (fun _ h => by cases h), fnExactWorldOk_row_tie, (fun h => by cases h), (by kernel_rfl)⟩
end Go.Proofs.YtekjikbaefgncaaGreatDoor

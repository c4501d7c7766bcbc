/- The card of FnExactKeepHear. -/
import Derived.Test.YtekjikbaefgncaaGreatDoorOwnD
set_option linter.unusedVariables false
set_option linter.unusedSimpArgs false
set_option linter.unusedSectionVars false

namespace Go.Proofs.YtekjikbaefgncaaGreatDoor
open Go

theorem fnExactKeepHear_card : Rows.FnExactKeepHearCardSaid := by
  have h6 : Claim7.isSixth { stood := { row := Rows.fnExactKeepHearRow, standIns := [], harness := (true, "ccef46c2e2b38a2a595d81478ee0f6ffc394c22174709775852040e1f68bceb3"), looks := true }, kinds := [] } = false := by kernel_rfl
  have hl : ∀ f fn, Tryz.pinned.checked.prog.funcNamed Rows.fnExactKeepHearRow.func = some f → Tryz.pinned.checked.prog.funcs[f]? = some fn → true = Tryz.pinned.checked.prog.looks [] ∧ ∀ (j : Nat) t, fn.params[j]? = some t → Tryz.pinned.checked.prog.wantsStandIn t = false := fun f fn hf hfn => by
    obtain rfl : f = 10 := Option.some.inj ((show Tryz.prog.funcNamed "loop.example/lucarne/laws.FnExactKeepHear" = some 10 by kernel_rfl).symm.trans hf) |>.symm
    obtain rfl : fn = Tryz.f10 := (Option.some.inj (Tryz.func10.symm.trans hfn)).symm
    exact ⟨by kernel_rfl, fun j t ht => by
      have hpar : Tryz.f10.params = #[29, 100] := rfl
      rw [hpar] at ht
      rcases j with _ | _ | j
      · obtain rfl : 29 = t := by simpa using ht
        exact (show Tryz.prog.wantsStandIn 29 = false by kernel_rfl)
      · obtain rfl : 100 = t := by simpa using ht
        exact (show Tryz.prog.wantsStandIn 100 = false by kernel_rfl)
      · simp at ht⟩
  exact ⟨Claim7.tied_new_at .later [.handle] true (Claim7.new_of_sixth fnExactKeepHear_row (true, "ccef46c2e2b38a2a595d81478ee0f6ffc394c22174709775852040e1f68bceb3") true rfl ⟨rfl, rfl⟩ (by kernel_rfl) h6 hl) (by kernel_rfl), (fun _ h => by cases h), fnExactKeepHear_row_tie, (fun h => by cases h), (by kernel_rfl)⟩
end Go.Proofs.YtekjikbaefgncaaGreatDoor

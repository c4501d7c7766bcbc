/- A keeper begins with nothing told: the card of FnKeepNew. -/
import Derived.Test.YtcefbjpebgofjaaGreatDoorN10
set_option linter.unusedVariables false
set_option linter.unusedSimpArgs false
set_option linter.unusedSectionVars false

namespace Go.Proofs.YtcefbjpebgofjaaGreatDoor
open Go

theorem fnKeepNew_card : Rows.FnKeepNewCardSaid := by
  have h6 : Claim7.isSixth { stood := { row := Rows.fnKeepNewRow, standIns := [], harness := (true, "ed8518eec801bf0d71576280b550edba30d01e7e48c7522bd2d5a45b9e430a30"), looks := true }, kinds := [] } = false := by kernel_rfl
  have hl : ∀ f fn, Tryz.pinned.checked.prog.funcNamed Rows.fnKeepNewRow.func = some f → Tryz.pinned.checked.prog.funcs[f]? = some fn → true = Tryz.pinned.checked.prog.looks [] ∧ ∀ (j : Nat) t, fn.params[j]? = some t → Tryz.pinned.checked.prog.wantsStandIn t = false := fun f fn hf hfn => by
    obtain rfl : f = 3 := Option.some.inj ((show Tryz.prog.funcNamed "loop.example/lucarne/laws.FnKeepNew" = some 3 by kernel_rfl).symm.trans hf) |>.symm
    obtain rfl : fn = Tryz.f3 := (Option.some.inj (Tryz.func3.symm.trans hfn)).symm
    exact ⟨by kernel_rfl, fun j t ht => by
      have hpar : Tryz.f3.params = #[22] := rfl
      rw [hpar] at ht
      have h3 : t = 22 := by
        rcases j with _ | j
        · simpa using ht.symm
        · simp at ht
      subst h3
      exact (show Tryz.prog.wantsStandIn 22 = false by kernel_rfl)⟩
  exact ⟨Claim7.tied_new_at .later [.handle] true (Claim7.new_of_sixth fnKeepNew_row (true, "ed8518eec801bf0d71576280b550edba30d01e7e48c7522bd2d5a45b9e430a30") true rfl ⟨rfl, rfl⟩ (by kernel_rfl) h6 hl) (by kernel_rfl), (fun _ h => by cases h), fnKeepNew_row_tie, (fun h => by cases h), (by kernel_rfl)⟩
end Go.Proofs.YtcefbjpebgofjaaGreatDoor

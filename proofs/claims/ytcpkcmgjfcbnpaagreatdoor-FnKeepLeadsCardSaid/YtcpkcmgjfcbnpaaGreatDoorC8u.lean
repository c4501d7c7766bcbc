/- The card of FnKeepLeads. -/
import Derived.Test.YtcpkcmgjfcbnpaaGreatDoorOwnF
set_option linter.unusedVariables false
set_option linter.unusedSimpArgs false
set_option linter.unusedSectionVars false

namespace Go.Proofs.YtcpkcmgjfcbnpaaGreatDoor
open Go
theorem fnKeepLeads_sixth : Claim7.isSixth { stood := { row := Rows.fnKeepLeadsRow, standIns := [], harness := (true, "05ab82f9786123f1899de73ad038f5744e98c3a45582a032503db6d633bb201c"), looks := true }, kinds := [] } = false := by kernel_rfl
theorem fnKeepLeads_fnamed : Tryz.prog.funcNamed "loop.example/lucarne/laws.FnKeepLeads" = some 10 := by kernel_rfl
theorem fnKeepLeads_looks:true = Tryz.pinned.checked.prog.looks []:=by kernel_rfl
theorem fnKeepLeads_want0:Tryz.prog.wantsStandIn 22 = false:=by kernel_rfl
theorem fnKeepLeads_hl:∀ f fn,Tryz.pinned.checked.prog.funcNamed Rows.fnKeepLeadsRow.func = some f→Tryz.pinned.checked.prog.funcs[f]? = some fn→true = Tryz.pinned.checked.prog.looks []∧∀ (j:Nat) t,fn.params[j]? = some t→Tryz.pinned.checked.prog.wantsStandIn t = false:=fun f fn hf hfn=>by
  obtain rfl:f = 10:=Option.some.inj (fnKeepLeads_fnamed.symm.trans hf) |>.symm
  obtain rfl:fn = Tryz.f10:=(Option.some.inj (Tryz.func10.symm.trans hfn)).symm
  exact ⟨fnKeepLeads_looks,fun j t ht=>by
    have hpar:Tryz.f10.params = #[22]:=rfl
    rw [hpar] at ht
    rcases j with _ | j
    · obtain rfl:22 = t:=by simpa using ht
      exact fnKeepLeads_want0
    · simp at ht⟩
theorem fnKeepLeads_card:Rows.FnKeepLeadsCardSaid:=
  ⟨Claim7.tied_new_at .later [.handle] true (Claim7.new_of_sixth fnKeepLeads_row (true, "05ab82f9786123f1899de73ad038f5744e98c3a45582a032503db6d633bb201c") true rfl ⟨rfl, rfl⟩ (by kernel_rfl) fnKeepLeads_sixth fnKeepLeads_hl) (by kernel_rfl), (fun _ h => by cases h), fnKeepLeads_row_tie, (fun h => by cases h), (by kernel_rfl)⟩
end Go.Proofs.YtcpkcmgjfcbnpaaGreatDoor

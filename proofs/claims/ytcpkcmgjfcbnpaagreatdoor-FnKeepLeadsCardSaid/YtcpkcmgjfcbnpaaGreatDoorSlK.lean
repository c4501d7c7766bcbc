/- The walk, straight on. No program. -/
import Derived.Test.YtcpkcmgjfcbnpaaGreatDoorLibA
set_option linter.unusedVariables false
set_option linter.unusedSimpArgs false
set_option linter.unusedSectionVars false

namespace Go.Sl
open Go Go.Conc PHeap
structure HoleK (p:Prop):Prop where
  out:p
theorem Run.go {G G' : Prop} (k : G') (h : HoleK G' → G := by
    (intro x
     repeat (first
      | refine so_q (q_move (by rfl)) ?_
      | refine so_q (q_num (by rfl) (by rfl) (by rfl)) ?_
      | refine so_q (q_fieldAddr (by infer_instance) (by rfl) (by rfl) (by rfl)) ?_
      | refine so_q (q_loadO (by infer_instance) (by rfl) (by infer_instance) (by rfl) (by rfl)) ?_
      | refine so_q (q_assign (by rfl)) ?_
      | refine so_q (q_len (by rfl) (by rfl) (by infer_instance) (by infer_instance)) ?_
      | refine so_q (q_lenV (by rfl) (by rfl) (by infer_instance)) ?_
      | refine so_q (q_extract (by rfl) (by rfl)) ?_
      | refine so_q (q_not (by rfl)) ?_
      | refine so_q (q_pickT (by rfl) (by assumption) (by rfl)) ?_
      | refine so_q (q_pickF (by rfl) (by assumption) (by rfl)) ?_
      | refine so_gF (by rfl) (by rfl) (by assumption) ?_
      | refine so_gT (by rfl) (by rfl) (by assumption) (q_move (by rfl)) ?_
      | refine so_gT (by rfl) (by rfl) (by assumption) (q_num (by rfl) (by rfl) (by rfl)) ?_
      | refine so_gT (by rfl) (by rfl) (by assumption) (q_fieldAddr (by infer_instance) (by rfl) (by rfl) (by rfl)) ?_
      | refine so_gT (by rfl) (by rfl) (by assumption) (q_loadO (by infer_instance) (by rfl) (by infer_instance) (by rfl) (by rfl)) ?_
      | refine so_gT (by rfl) (by rfl) (by assumption) (q_len (by rfl) (by rfl) (by infer_instance) (by infer_instance)) ?_
      | refine so_gT (by rfl) (by rfl) (by assumption) (q_not (by rfl)) ?_
      | refine so_gT (by rfl) (by rfl) (by assumption) (q_rem (by rfl) (by rfl) (by omega)) ?_
      | refine so_gT (by rfl) (by rfl) (by assumption) (q_quo (by rfl) (by rfl) (by omega)) ?_
      | refine so_q (q_field (by infer_instance) (by rfl) (by rfl) (by rfl)) ?_
      | refine so_q (q_indexS (by infer_instance) (by infer_instance) (by rfl) (by rfl) (by infer_instance) (by omega) (by omega)) ?_
      | refine so_q (q_loadS (by infer_instance) (by rfl) (by infer_instance) (by omega) (by rfl) (by rfl)) ?_
      | refine so_q (q_loadF (by infer_instance) (by rfl) (by infer_instance) (by omega) (by rfl) (by rfl) (by rfl)) ?_
      | refine op_store (by infer_instance) (by rfl) (by rfl) (by infer_instance) (by rfl) (by rfl) (by rfl) (by infer_instance) ?_
      | refine so_q (q_quo (by rfl) (by rfl) (by omega)) ?_
      | refine so_q (q_rem (by rfl) (by rfl) (by omega)) ?_
      | refine so_q (q_convert (by infer_instance) (by infer_instance) (by rfl)) ?_
      | refine so_q (q_nilCheck (by rfl)) ?_
      | refine so_q (q_makeInterface (by infer_instance) (by rfl) (by rfl)) ?_
      | refine so_q (q_makeFunc (by rfl) (by rfl)) ?_
      | refine so_seq (so_reg ?_)
      | refine so_nil ?_
      | refine so_skip ?_
      | refine so_reg ?_
      | refine so_block ?_
      | refine so_seq ?_)
     exact x.out)):G:=h ⟨k⟩
end Go.Sl

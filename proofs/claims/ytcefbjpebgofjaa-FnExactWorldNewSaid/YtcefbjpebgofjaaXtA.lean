/- Walks of the exact laws' own helpers: copies. Printed by program. -/
import Derived.Test.YtcefbjpebgofjaaXeA
import Derived.Test.YtcefbjpebgofjaaSmH
namespace Go.Proofs.Ytcefbjpebgofjaa
open Go Go.Sl
set_option maxRecDepth 100000
set_option maxHeartbeats 4000000
attribute [local irreducible] Go.Code.sf sfOps Opq opo retF Do1 anyO
variable {M : Jdg → Prop} [IsCl Try.prog M]
theorem toGrid_f (h : PHeap) (ca : List Value) (x : Grid) (b : (gridR τ).B h ca x) (hs : szGridN x ≤ 1048576) : CallF Try.prog M 7 [.agg ca.toArray] [] h fun v A => ∃ cs, v = .agg cs.toArray ∧ (gridR τ).O A cs x := by
  obtain ⟨v_cells1, rfl, s_cells1⟩ := gridB b
  have o_v_cells1 := s_cells1.one
  have hz : szGridN x = x.cells.length := rfl
  refine calls_of_sf Try.func7 rfl Try.ntmps7 ?_
  simp only [argsL, Nat.reduceAdd]
  repeat (first | refine R1 ?_ | (refine R2 ?_; intro _))
  refine fp (y_call (toCellS_f _ _ _ s_cells1 (by omega)) (by rfl) fun w1 K1 g1 => ?_)
  have o1 := g1.one
  repeat (first | refine R1 ?_ | (refine R2 ?_; intro _))
  exact sf_ret (rO K1 ⟨_, rfl, gridO_mk g1 (by omega)⟩)
end Go.Proofs.Ytcefbjpebgofjaa

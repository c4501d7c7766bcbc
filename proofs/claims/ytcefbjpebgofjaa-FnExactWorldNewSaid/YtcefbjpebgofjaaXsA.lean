/- Walks of the exact laws' own helpers: sizes. Printed by program. -/
import Derived.Test.YtcefbjpebgofjaaXeA
import Derived.Test.YtcefbjpebgofjaaSmH
namespace Go.Proofs.Ytcefbjpebgofjaa
open Go Go.Sl
set_option maxRecDepth 100000
set_option maxHeartbeats 4000000
attribute [local irreducible] Go.Code.sf sfOps Opq opo retF Do1 anyO
variable {M : Jdg → Prop} [IsCl Try.prog M]
theorem szCellS_v (h : PHeap) (a : Value) (xs : List Cell) (s : Sl h a cellF xs) (left : Int) (h0 : 0 ≤ left) (h1 : left ≤ 1048576) : CallV Try.prog M 19 [a, .int .i64 left] h (.int .i64 (szF xs.length left)) := by
  have o1 := s.one
  have hs := s.small
  refine calls_of_sf Try.func19 rfl Try.ntmps19 ?_
  simp only [argsL, Nat.reduceAdd]
  repeat (first | refine R1 ?_ | (refine R2 ?_; intro _))
  refine sf_if (fun e => ?_) fun e => ?_
  · repeat (first | refine R1 ?_ | (refine R2 ?_; intro _))
    exact sf_ret (rV (by rw [szF_neg e]))
  · repeat (first | refine R1 ?_ | (refine R2 ?_; intro _))
    exact sf_ret (rV (by rw [szF_pos e]))
theorem szGrid_v (h : PHeap) (ca : List Value) (x : Grid) (b : (gridR τ).B h ca x) (left : Int) (h0 : 0 ≤ left) (h1 : left ≤ 1048576) : CallV Try.prog M 5 [.agg ca.toArray, .int .i64 left] h (.int .i64 (szF (szGridN x) left)) := by
  obtain ⟨v_cells1, rfl, s_cells1⟩ := gridB b
  have o_v_cells1 := s_cells1.one
  refine calls_of_sf Try.func5 rfl Try.ntmps5 ?_
  simp only [argsL, Nat.reduceAdd]
  repeat (first | refine R1 ?_ | (refine R2 ?_; intro _))
  refine fp (y_callV (szCellS_v _ _ _ s_cells1 _ h0 h1) (by rfl) ?_)
  repeat (first | refine R1 ?_ | (refine R2 ?_; intro _))
  refine sf_if (fun e1 => ?_) fun e1 => ?_
  · repeat (first | refine R1 ?_ | (refine R2 ?_; intro _))
    refine sf_ret (rV ?_)
    have q := szF_stop (b := 0) e1
    simp only [szGridN, szGridN, szSceneN, Nat.add_assoc, Nat.add_zero] at q ⊢
    rw [q]
  have g1 := szF_ge e1
  have f1 := szF_le (a := x.cells.length) h0
  have b1a : 0 ≤ szF (x.cells.length) (left) := by omega
  have b1b : szF (x.cells.length) (left) ≤ 1048576 := by omega
  repeat (first | refine R1 ?_ | (refine R2 ?_; intro _))
  refine sf_ret (rV ?_)
  first | rfl | simp only [szGridN, szGridN, szSceneN, Nat.add_assoc]
end Go.Proofs.Ytcefbjpebgofjaa

/- Walks: cells and grids, the reference's look at them. -/
import Derived.Test.YtcefbjpebgofjaaGreatDoorT
import Derived.Test.YtcefbjpebgofjaaGreatDoorSmH
set_option linter.unusedVariables false
set_option linter.unusedSimpArgs false
set_option linter.unusedSectionVars false

namespace Go.Proofs.YtcefbjpebgofjaaGreatDoor
open Go Go.Sl
set_option maxRecDepth 100000
set_option maxHeartbeats 4000000
attribute [local irreducible] Go.Code.sf sfOps Opq opo retF Do1 anyO
variable {M : Jdg → Prop} [IsCl Tryz.prog M]
instance : ElemF Tryz.prog 61 cellF := ⟨trivial⟩
instance : ElemF Tryz.prog 3 intF := ⟨trivial⟩
instance : ElemF Tryz.prog 69 editF := ⟨trivial⟩
/-- The numbers of the element types. -/
abbrev τ : Tys := ⟨3, 61, 69, 48, 50, 54, 0, 0, 0⟩
instance : ElemF Tryz.prog 50 (rawF (partR τ).sz) := ⟨trivial⟩
instance : ElemF Tryz.prog 54 (rawF (shownR τ).sz) := ⟨trivial⟩


theorem l6In_v (h : PHeap) (a b c : Int) : CallV Tryz.prog M 15 [.int .i64 a, .int .i64 b, .int .i64 c] h (.bool (decide (b ≤ a) && decide (a ≤ c))) := by
  refine calls_of_sf Tryz.func15 rfl Tryz.ntmps15 ?_
  simp only [argsL, Nat.reduceAdd]
  repeat (first | refine R1 ?_ | (refine R2 ?_; intro _))
  refine f_split (fun h1 => ?_) fun h1 => ?_ <;>
  · repeat (first | refine R1 ?_ | (refine R2 ?_; intro _))
    refine sf_ret (rV ?_)
    simp [h1]
theorem sCellOk_v (h : PHeap) (c : Cell) : CallV Tryz.prog M 27 [.agg #[.int .i64 c.kind, .int .i64 c.light]] h (.bool (cellOk c)) := by
  refine calls_of_sf Tryz.func27 rfl Tryz.ntmps27 ?_
  simp only [argsL, Nat.reduceAdd]
  repeat (first | refine R1 ?_ | (refine R2 ?_; intro _))
  refine sf_if (fun h1 => ?_) fun h1 => ?_
  · repeat (first | refine R1 ?_ | (refine R2 ?_; intro _))
    refine fp (y_callV (l6In_v _ _ _ _) (by rfl) ?_)
    repeat (first | refine R1 ?_ | (refine R2 ?_; intro _))
    refine sf_ret (rV ?_)
    simp [cellOk, h1]
  · repeat (first | refine R1 ?_ | (refine R2 ?_; intro _))
    refine fp (y_callV (l6In_v _ _ _ _) (by rfl) ?_)
    repeat (first | refine R1 ?_ | (refine R2 ?_; intro _))
    refine f_splitB (fun h2 => ?_) fun h2 => ?_ <;>
    · repeat (first | refine R1 ?_ | (refine R2 ?_; intro _))
      refine sf_ret (rV ?_)
      simp [cellOk, h1, h2]
theorem sGridOk_v (h : PHeap) (v : Value) (g : Grid) (gb : GridB h v g) : CallV Tryz.prog M 14 [v] h (.bool (gridOk g)) := by
  obtain ⟨c, rfl, s⟩ := gb
  have o1 := s.one
  have hs := s.small
  refine calls_of_sf Tryz.func14 rfl Tryz.ntmps14 ?_
  simp only [argsL, Nat.reduceAdd]
  repeat (first | refine R1 ?_ | (refine R2 ?_; intro _))
  refine fp (y_callV (l6In_v _ _ _ _) (by rfl) ?_)
  repeat (first | refine R1 ?_ | (refine R2 ?_; intro _))
  refine f_splitB (fun h1 => ?_) fun h1 => ?_
  · repeat (first | refine R1 ?_ | (refine R2 ?_; intro _))
    refine sf_T rfl ?_
    repeat (first | refine R1 ?_ | (refine R2 ?_; intro _))
    refine sf_ret (rV ?_)
    simp [gridOk]; simp at h1; omega
  · have g1 : 1 ≤ g.wide ∧ g.wide ≤ 5 := by simpa using h1
    repeat (first | refine R1 ?_ | (refine R2 ?_; intro _))
    refine f_split (fun h2 => ?_) fun h2 => ?_
    · repeat (first | refine R1 ?_ | (refine R2 ?_; intro _))
      refine sf_T rfl ?_
      repeat (first | refine R1 ?_ | (refine R2 ?_; intro _))
      refine sf_ret (rV ?_)
      simp [gridOk, h2]
    · repeat (first | refine R1 ?_ | (refine R2 ?_; intro _))
      refine fp (y_callV (l6In_v _ _ _ _) (by rfl) ?_)
      repeat (first | refine R1 ?_ | (refine R2 ?_; intro _))
      refine sf_cond (by rfl) (fun h3 => ?_) fun h3 => ?_
      · repeat (first | refine R1 ?_ | (refine R2 ?_; intro _))
        refine sf_ret (rV ?_)
        simp [gridOk]; simp at h3; omega
      · have g3 : 1 ≤ (g.cells.length : Int) / g.wide ∧ (g.cells.length : Int) / g.wide ≤ 5 := by simpa using h3
        repeat (first | refine R1 ?_ | (refine R2 ?_; intro _))
        refine sf_rd [1, 2] 3 g.cells.length 0 (fun k => (g.cells.take k).all cellOk = true) (by omega) rfl (fun k hk hi => ?_)
        repeat (first | refine R1 ?_ | (refine R2 ?_; intro _))
        refine sf_if (fun h4 => ?_) fun h4 => ?_
        · have hk4 : k < g.cells.length := by omega
          repeat (first | refine R1 ?_ | (refine R2 ?_; intro _))

          refine fp (y_callV (sCellOk_v _ (gt g.cells k)) (by rfl) ?_)
          repeat (first | refine R1 ?_ | (refine R2 ?_; intro _))
          refine sf_cond (by rfl) (fun h5 => ?_) fun h5 => ?_
          · repeat (first | refine R1 ?_ | (refine R2 ?_; intro _))
            refine sf_ret (rV ?_)
            simp only [Bool.not_eq_true'] at h5
            simp [gridOk, all_false hk4 h5]
          · repeat (first | refine R1 ?_ | (refine R2 ?_; intro _))
            refine ⟨⟨hk4, ?_⟩, rfl, rfl, _, inferInstance⟩
            rw [all_take hk4, hi]; simpa using h5
        · refine sf_exit ?_
          repeat (first | refine R1 ?_ | (refine R2 ?_; intro _))
          refine sf_ret (rV ?_)
          rw [take_ge hk (by omega)] at hi
          simp [gridOk, hi, g1, g3]; omega
end Go.Proofs.YtcefbjpebgofjaaGreatDoor

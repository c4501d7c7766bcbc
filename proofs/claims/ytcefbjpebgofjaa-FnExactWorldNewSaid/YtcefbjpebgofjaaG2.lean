/- Walks of the laws' copies: toX. -/
import Derived.Test.YtcefbjpebgofjaaG1
import Derived.Test.YtcefbjpebgofjaaSmH
namespace Go.Proofs.Ytcefbjpebgofjaa
open Go Go.Sl
set_option maxRecDepth 100000
set_option maxHeartbeats 4000000
attribute [local irreducible] Go.Code.sf sfOps Opq opo retF Do1 anyO
variable {M : Jdg → Prop} [IsCl Try.prog M]
instance : ElemF Try.prog 77 cellF := ⟨trivial⟩
instance : ElemF Try.prog 3 intF := ⟨trivial⟩
/-- The numbers of the element types. -/
abbrev τ : Tys := ⟨3, 77, 83, 54, 56, 87, 70, 93, 0⟩

theorem toCellS_f (h : PHeap) (v : Value) (xs : List Cell) (s : Sl h v cellF xs) (hs : xs.length ≤ 1048576) : CallF Try.prog M 23 [v] [] h fun v' A => Gr A v' 77 cellF xs := by
  have o1 := s.one
  refine calls_of_sf Try.func23 rfl Try.ntmps23 ?_
  simp only [argsL, Nat.reduceAdd]
  repeat (first | refine R1 ?_ | (refine R2 ?_; intro _))
  refine fp (y_make (by rfl) (by rfl) (by rfl) (by decide) (by omega) fun w A g => ?_)
  repeat (first | refine R1 ?_ | (refine R2 ?_; intro _))
  refine sf_lp [0, 3] (fun k : Nat => [(4, .int .i64 (k : Int))]) (fun k O => k ≤ xs.length ∧ Gr O w 77 cellF (xs.take k ++ List.replicate (xs.length - k) ⟨0, 0⟩)) (fun k => xs.length - k) 0 A ⟨by omega, by simpa using g⟩ ?_
  rintro k O ⟨hk, g⟩
  repeat (first | refine R1 ?_ | (refine R2 ?_; intro _))
  refine sf_if (fun h4 => ?_) fun h4 => ?_
  · have hk4 : k < xs.length := by omega
    have hl : k < (xs.take k ++ List.replicate (xs.length - k) (⟨0, 0⟩ : Cell)).length := by simp; omega
    repeat (first | refine R1 ?_ | (refine R2 ?_; intro _))
    refine fp (y_callV (toCell_v _ _ _) (by rfl) ?_)
    repeat (first | refine R1 ?_ | (refine R2 ?_; intro _))
    refine fp (y_storeG0 (by rfl) (by rfl) g (by omega) (by rfl) fun A ys ey ly _ g => ?_)
    repeat (first | refine R1 ?_ | (refine R2 ?_; intro _))
    refine ⟨k + 1, by omega, ⟨rfl, trivial⟩, rfl, A, _, inferInstance, by omega, ?_⟩
    rw [← set_step hk4, ← ey]; exact g
  · refine sf_exit ?_
    repeat (first | refine R1 ?_ | (refine R2 ?_; intro _))
    refine sf_ret (rO O ?_)
    have : k = xs.length := by omega
    subst this
    simpa using g
end Go.Proofs.Ytcefbjpebgofjaa

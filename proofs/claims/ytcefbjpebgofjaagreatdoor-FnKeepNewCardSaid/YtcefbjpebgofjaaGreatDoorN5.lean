/- Walks: a keeper's start, drawn. -/
import Derived.Test.YtcefbjpebgofjaaGreatDoorN4
set_option linter.unusedVariables false
set_option linter.unusedSimpArgs false
set_option linter.unusedSectionVars false

namespace Go.Proofs.YtcefbjpebgofjaaGreatDoor
open Go Go.Sl
set_option maxRecDepth 100000
set_option maxHeartbeats 4000000
attribute [local irreducible] Go.Code.sf sfOps Opq opo retF Do1 anyO
variable {M : Jdg → Prop} [IsCl Tryz.prog M]

theorem l6Open_f (h : PHeap) (v : Value) (xs : List (Fin 256)) (s : Sl h v u8F xs) : CallF Tryz.prog M 11 [v] [] h fun u A => ∃ br v' xs', u = .pointer (some ⟨br, 0, none⟩) ∧ A = rdA br v' 0 ∧ Sl h v' u8F xs' ∧ xs'.length ≤ 2000 := by
  have o1 := s.one
  have hs := s.small
  refine calls_of_sf Tryz.func11 rfl Tryz.ntmps11 ?_
  simp only [argsL, Nat.reduceAdd]
  repeat (first | refine R1 ?_ | (refine R2 ?_; intro _))
  refine sf_if (fun e => ?_) fun e => ?_
  · obtain ⟨cap, hv, hc, s2⟩ := s.front (l := 2000) (by omega) (by omega)
    rw [hv]
    repeat (first | refine R1 ?_ | (refine R2 ?_; intro _))
    refine fp (Rq ?_ (q_sliceHi (l := 2000) (by infer_instance) (by infer_instance) (by rfl) (by rfl) (by omega)))
    repeat (first | refine R1 ?_ | (refine R2 ?_; intro _))
    rename_i br
    exact sf_ret (rt (rdA br (.slice (some ⟨vb v, vo v, none⟩) 2000 cap) 0) (resV_one rfl (res_tmp rfl)) ⟨br, _, _, rfl, rfl, s2, by simp; omega⟩)
  · repeat (first | refine R1 ?_ | (refine R2 ?_; intro _))
    rename_i br
    exact sf_ret (rt (rdA br v 0) (resV_one rfl (res_tmp rfl)) ⟨br, v, xs, rfl, rfl, s, by omega⟩)
theorem drawKeepNew_f (h : PHeap) (v : Value) (xs : List (Fin 256)) (s : Sl h v u8F xs) : CallF Tryz.prog M 4 [v] [] h fun u A => ∃ (gv : Value) (g : Grid) (m : Int), u = .tuple #[gv, .int .i64 m] ∧ Drawn gv g A ∧ g.cells.length ≤ 100 := by
  have o1 := s.one
  refine calls_of_sf Tryz.func4 rfl Tryz.ntmps4 ?_
  simp only [argsL, Nat.reduceAdd]
  repeat (first | refine R1 ?_ | (refine R2 ?_; intro _))
  refine fp (y_call (l6Open_f _ v xs s) (by rfl) ?_)
  rintro _ A1 ⟨br, v', xs', rfl, rfl, s', hs'⟩
  have o2 := s'.one
  repeat (first | refine R1 ?_ | (refine R2 ?_; intro _))
  refine fp (y_call (l71Some_f _ br v' xs' s' hs' 0 (by omega)) (by rfl) ?_)
  rintro _ A2 ⟨g, A', q, ⟨c, rfl, oc, hd⟩, hl, hq, rfl⟩
  repeat (first | refine R1 ?_ | (refine R2 ?_; intro _))
  refine fp (y_call (pick_f _ br v' xs' s' hs' q 5 (by omega) (by omega) (by omega)) (by rfl) ?_)
  rintro _ A3 ⟨m, rfl, m0, m1, rfl⟩
  repeat (first | refine R1 ?_ | (refine R2 ?_; intro _))
  exact sf_ret (rt A' (resV_two rfl (yr_cell rfl) (res_tmp rfl)) ⟨_, g, m, rfl, ⟨c, rfl, oc, hd⟩, hl⟩)
end Go.Proofs.YtcefbjpebgofjaaGreatDoor

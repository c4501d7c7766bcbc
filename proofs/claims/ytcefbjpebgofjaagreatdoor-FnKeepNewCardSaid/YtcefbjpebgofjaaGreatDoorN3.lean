/- Walks: drawing grids. -/
import Derived.Test.YtcefbjpebgofjaaGreatDoorN2
set_option linter.unusedVariables false
set_option linter.unusedSimpArgs false
set_option linter.unusedSectionVars false

namespace Go.Proofs.YtcefbjpebgofjaaGreatDoor
open Go Go.Sl
set_option maxRecDepth 100000
set_option maxHeartbeats 4000000
attribute [local irreducible] Go.Code.sf sfOps Opq opo retF Do1 anyO
variable {M : Jdg → Prop} [IsCl Tryz.prog M]

theorem l71Grid_f (h : PHeap) (br : Nat) (v : Value) (xs : List (Fin 256)) (s : Sl h v u8F xs) (hs : xs.length ≤ 2000) (p : Nat) (hp1 : p ≤ 999000) : CallF Tryz.prog M 25 [.pointer (some ⟨br, 0, none⟩)] (rdA br v p) h fun u A => ∃ (g : Grid) (c : Value) (A' : Own) (q : Nat), u = .agg #[.int .i64 g.wide, c] ∧ Gr A' c 61 cellF g.cells ∧ 1 ≤ g.wide ∧ g.wide ≤ 5 ∧ 1 ≤ g.cells.length ∧ g.cells.length ≤ 25 ∧ q ≤ p + 60 ∧ A = rdA br v q ++ A' := by
  have o1 := s.one
  refine calls_of_sf Tryz.func25 rfl Tryz.ntmps25 ?_
  simp only [argsL, Nat.reduceAdd]
  repeat (first | refine R1 ?_ | (refine R2 ?_; intro _))
  refine fp (y_call (pick_f _ br v xs s hs p 5 (by omega) (by omega) (by omega)) (by rfl) ?_)
  rintro _ A1 ⟨m, rfl, m0, m1, rfl⟩
  repeat (first | refine R1 ?_ | (refine R2 ?_; intro _))
  refine sf_draw (by kernel_rfl) (regX_own (rdA br v (p + 1)) (regX_runW _ [[], [0], [], [2], [2, 3], [0, 1, 2, 3, 4], [0, 1, 2, 3, 4, 5]] 5 [(0, false), (1, false), (2, false), (3, true), (4, false)] (by kernel_rfl) (by kernel_rfl) (by kernel_rfl) ?_))
  repeat (refine Da1 ?_)
  refine a_call (pick_f _ br v xs s hs (p + 1) 5 (by omega) (by omega) (by omega)) (by rfl) (by rfl) (.inl rfl) ?_
  rintro _ A2 ⟨m2, rfl, m20, m21, rfl⟩
  have hm1 : 1 ≤ (1 + m) * (1 + m2) := Int.mul_pos (by omega) (by omega)
  have hm2 : (1 + m) * (1 + m2) ≤ 5 * 5 := Int.mul_le_mul (by omega) (by omega) (by omega) (by omega)
  repeat (refine Da1 ?_)
  (refine a_end (by rfl) (by rfl) ?_; simp only [finA, setL, List.drop_succ_cons, List.drop_zero])
  repeat (first | refine R1 ?_ | (refine R2 ?_; intro _))
  obtain ⟨N, hN⟩ : ∃ N : Nat, (1 + m) * (1 + m2) = N := ⟨((1 + m) * (1 + m2)).toNat, by omega⟩
  rw [hN] at hm1 hm2 ⊢
  rename_i b2 b3
  refine sf_lp (ι := Nat) [0, 2, 3] (fun k => [(4, .int .i64 (k : Int))]) (fun k O => k ≤ N ∧ ∃ c q A', O = rdA br v q ++ ((b3, .cells #[.int .i64 (1 + m), c] 25) :: (A' ++ [(b2, .cells #[.int .i64 0, .slice none 0 0] 25)])) ∧ ∃ ys, Gr A' c 61 cellF ys ∧ ys.length = N - k ∧ q + 2 * k ≤ p + 2 + 2 * N) (fun k => k) N (rdA br v (p + 1 + 1) ++ ((b3, .cells #[.int .i64 (1 + m), .slice none 0 0] 25) :: ([] ++ [(b2, .cells #[.int .i64 0, .slice none 0 0] 25)]))) ⟨by omega, _, _, [], rfl, [], Gr.nil _ _, by simp, by omega⟩ ?_
  rintro k O ⟨hk, c, q, A', rfl, ys, gr, hy, hq⟩
  have oc := gr.one
  repeat (first | refine R1 ?_ | (refine R2 ?_; intro _))
  refine sf_if (fun e => ?_) fun e => ?_
  · obtain ⟨k, rfl⟩ : ∃ k' : Nat, k = k' + 1 := ⟨k - 1, by omega⟩
    repeat (first | refine R1 ?_ | (refine R2 ?_; intro _))
    refine sf_draw (by kernel_rfl) (regX_own (rdA br v q) (regX_runW _ [[], [0], [], [2], [2, 3], [0, 1, 2, 3, 4], [0, 1, 2, 3, 4, 5], [0, 1, 2, 3, 4, 5, 6]] 5 [(0, false), (1, false), (2, false), (3, true), (4, true)] (by kernel_rfl) (by kernel_rfl) (by kernel_rfl) ?_))
    repeat (refine Da1 ?_)
    refine a_call (l71Cell_f _ br v xs s hs q (by omega)) (by rfl) (by rfl) (.inl rfl) ?_
    rintro _ A3 ⟨cc, q2, rfl, hq2, rfl⟩
    repeat (refine Da1 ?_)
    refine a_bs (by rfl) (by rfl) (by infer_instance) (by infer_instance) (by infer_instance) (by infer_instance) (by rfl) (by rfl) (by rfl) (by decide) (.inl rfl) fun w Aw gw => ?_
    (refine a_end (by rfl) (by rfl) ?_; simp only [finA, setL, List.drop_succ_cons, List.drop_zero])
    refine fp (y_append (by rfl) (by rfl) gr gw (fun y _ => FlatOne.one y) (by rfl) (by rfl) (by simp; omega) (by simp; omega) fun c2 A4 g4 => ?_)
    have oc2 := g4.one
    repeat (first | refine R1 ?_ | (refine R2 ?_; intro _))
    rw [show ((k + 1 : Nat) : Int) - 1 = (k : Int) by omega]
    exact ⟨k, by omega, ⟨rfl, trivial⟩, rfl, rdA br v q2 ++ ((b3, .cells #[.int .i64 (1 + m), c2] 25) :: (A4 ++ [(b2, .cells #[.int .i64 0, .slice none 0 0] 25)])), _, inferInstance, by omega, c2, q2, A4, rfl, _, g4, by simp; omega, by omega⟩
  · refine sf_exit ?_
    repeat (first | refine R1 ?_ | (refine R2 ?_; intro _))
    exact sf_ret (rt (rdA br v q ++ A') (resV_one rfl (yr_cell rfl)) ⟨⟨1 + m, ys⟩, c, A', q, rfl, gr, by simp only; omega, by simp only; omega, by simp only; omega, by simp only; omega, by omega, rfl⟩)
end Go.Proofs.YtcefbjpebgofjaaGreatDoor

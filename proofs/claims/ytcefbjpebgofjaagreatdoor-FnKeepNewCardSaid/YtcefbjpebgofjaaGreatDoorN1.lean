/- Walks: drawing numbers. -/
import Derived.Test.YtcefbjpebgofjaaGreatDoorGA
import Derived.Test.YtcefbjpebgofjaaGreatDoorSmU
set_option linter.unusedVariables false
set_option linter.unusedSimpArgs false
set_option linter.unusedSectionVars false

namespace Go.Proofs.YtcefbjpebgofjaaGreatDoor
open Go Go.Sl
set_option maxRecDepth 100000
set_option maxHeartbeats 4000000
attribute [local irreducible] Go.Code.sf sfOps Opq opo retF Do1 anyO
variable {M : Jdg → Prop} [IsCl Tryz.prog M]
instance : ElemF Tryz.prog 5 u8F := ⟨trivial⟩

theorem pick_f (h : PHeap) (br : Nat) (v : Value) (xs : List (Fin 256)) (s : Sl h v u8F xs) (hs : xs.length ≤ 2000) (p : Nat) (n : Int) (hp1 : p ≤ 1000000) (hn : 1 ≤ n) (hn1 : n ≤ 1000) : CallF Tryz.prog M 13 [.pointer (some ⟨br, 0, none⟩), .int .i64 n] [(br, .cells #[v, .int .i64 (p : Int)] 64)] h fun u A => ∃ m, u = .int .i64 m ∧ 0 ≤ m ∧ m < n ∧ A = [(br, .cells #[v, .int .i64 ((p + 1 : Nat) : Int)] 64)] := by
  have o1 := s.one
  refine calls_of_sf Tryz.func13 rfl Tryz.ntmps13 ?_
  simp only [argsL, Nat.reduceAdd]
  repeat (first | refine R1 ?_ | (refine R2 ?_; intro _))
  refine f_split (fun h1 => ?_) fun h1 => ?_
  · omega
  repeat (first | refine R1 ?_ | (refine R2 ?_; intro _))
  refine sf_if (fun h2 => ?_) fun h2 => ?_
  · repeat (first | refine R1 ?_ | (refine R2 ?_; intro _))
    exact sf_ret (rO [(br, .cells #[v, .int .i64 ((p : Int) + 1)] 64)] ⟨0, rfl, by omega, by omega, rfl⟩)
  repeat (first | refine R1 ?_ | (refine R2 ?_; intro _))
  rw [show (p : Int) + 1 - 1 = p by omega]
  refine sf_if (fun h3 => ?_) fun h3 => ?_
  · repeat (first | refine R1 ?_ | (refine R2 ?_; intro _))
    exact sf_ret (rt [(br, .cells #[v, .int .i64 ((p : Int) + 1)] 64)] (resV_one rfl (res_tmp rfl)) ⟨_, rfl, Int.emod_nonneg _ (by omega), Int.emod_lt_of_pos _ (by omega), rfl⟩)
  repeat (first | refine R1 ?_ | (refine R2 ?_; intro _))
  have hl : 0 < xs.length := by omega
  have m1 : p % xs.length < xs.length := Nat.mod_lt _ hl
  have m2 : (p * 7 + 3) % xs.length < xs.length := Nat.mod_lt _ hl
  have m3 := Int.emod_nonneg ((p : Int) * 7 + 3) (show (xs.length : Int) ≠ 0 by omega)
  have m4 := Int.emod_lt_of_pos ((p : Int) * 7 + 3) (show 0 < (xs.length : Int) by omega)
  have b1 := (gt xs ((p : Int) % (xs.length : Int)).toNat).isLt
  have b2 := (gt xs (((p : Int) * 7 + 3) % (xs.length : Int)).toNat).isLt
  have d1 := Int.ediv_nonneg (a := (p : Int)) (b := (xs.length : Int)) (by omega) (by omega)
  have d2 := Int.ediv_le_self (a := (p : Int)) (xs.length : Int) (by omega)
  refine sf_draw (by kernel_rfl) (regX_run [[], [0], [0, 1], [0, 1, 2], [], [], [5], [5, 6], [5, 6, 7], [5, 6, 7, 8], [4, 5, 6, 7, 8, 9], [0, 1, 2, 3, 4, 5, 6, 7, 8, 9, 10], [0, 1, 2, 3, 4, 5, 6, 7, 8, 9, 10, 11], [0, 1, 2, 3, 4, 5, 6, 7, 8, 9, 10, 11, 12], [0, 1, 2, 3, 4, 5, 6, 7, 8, 9, 10, 11, 12, 13], [], [15], [15, 16], [15, 16, 17], [], [19], [19, 20], [], [22], [22, 23], [22, 23, 24], [22, 23, 24, 25], [19, 20, 21, 22, 23, 24, 25, 26], [15, 16, 17, 18, 19, 20, 21, 22, 23, 24, 25, 26, 27], [15, 16, 17, 18, 19, 20, 21, 22, 23, 24, 25, 26, 27, 28], [15, 16, 17, 18, 19, 20, 21, 22, 23, 24, 25, 26, 27, 28, 29], [15, 16, 17, 18, 19, 20, 21, 22, 23, 24, 25, 26, 27, 28, 29, 30], [0, 1, 2, 3, 4, 5, 6, 7, 8, 9, 10, 11, 12, 13, 14, 15, 16, 17, 18, 19, 20, 21, 22, 23, 24, 25, 26, 27, 28, 29, 30, 31], [], [33], [0, 1, 2, 3, 4, 5, 6, 7, 8, 9, 10, 11, 12, 13, 14, 15, 16, 17, 18, 19, 20, 21, 22, 23, 24, 25, 26, 27, 28, 29, 30, 31, 32, 33, 34], [], [], [37], [37, 38], [37, 38, 39], [37, 38, 39, 40], [36, 37, 38, 39, 40, 41], [36, 37, 38, 39, 40, 41, 42], [0, 1, 2, 3, 4, 5, 6, 7, 8, 9, 10, 11, 12, 13, 14, 15, 16, 17, 18, 19, 20, 21, 22, 23, 24, 25, 26, 27, 28, 29, 30, 31, 32, 33, 34, 35, 36, 37, 38, 39, 40, 41, 42, 43], [0, 1, 2, 3, 4, 5, 6, 7, 8, 9, 10, 11, 12, 13, 14, 15, 16, 17, 18, 19, 20, 21, 22, 23, 24, 25, 26, 27, 28, 29, 30, 31, 32, 33, 34, 35, 36, 37, 38, 39, 40, 41, 42, 43, 44]] 44 [(0, false), (1, false), (2, false), (3, false), (4, false), (5, false), (6, false), (7, false), (8, false), (9, false), (10, false), (11, false), (12, false), (13, false), (14, false), (15, false), (16, false), (17, false), (18, false), (19, false), (20, false), (21, false), (22, false), (23, false), (24, false), (25, false), (26, false), (27, false), (28, false), (29, false), (30, false), (31, false), (32, false), (33, false), (34, false), (35, false), (36, false), (37, false), (38, false), (39, false), (40, false), (41, false), (42, false), (43, false)] (by kernel_rfl) (by kernel_rfl) (by kernel_rfl) ?_)
  repeat (refine Da1 ?_)
  (refine a_end (by rfl) (by rfl) ?_; simp only [finA, setL, List.drop_succ_cons, List.drop_zero])
  repeat (first | refine R1 ?_ | (refine R2 ?_; intro _))
  exact sf_ret (rt [(br, .cells #[v, .int .i64 ((p : Int) + 1)] 64)] (resV_one rfl (res_tmp rfl)) ⟨_, rfl, Int.tmod_nonneg _ (xorN_nonneg _ _), Int.tmod_lt_of_pos _ (by omega), rfl⟩)
end Go.Proofs.YtcefbjpebgofjaaGreatDoor

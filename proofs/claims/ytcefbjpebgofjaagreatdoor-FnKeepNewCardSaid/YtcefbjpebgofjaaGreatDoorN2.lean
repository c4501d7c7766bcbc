/- Walks: drawing cells. -/
import Derived.Test.YtcefbjpebgofjaaGreatDoorN1
set_option linter.unusedVariables false
set_option linter.unusedSimpArgs false
set_option linter.unusedSectionVars false

namespace Go.Proofs.YtcefbjpebgofjaaGreatDoor
open Go Go.Sl
set_option maxRecDepth 100000
set_option maxHeartbeats 4000000
attribute [local irreducible] Go.Code.sf sfOps Opq opo retF Do1 anyO
variable {M : Jdg → Prop} [IsCl Tryz.prog M]
/-- The reader, where it stands. -/
abbrev rdA (br : Nat) (v : Value) (p : Nat) : Own := [(br, .cells #[v, .int .i64 (p : Int)] 64)]

theorem l71Cell_f (h : PHeap) (br : Nat) (v : Value) (xs : List (Fin 256)) (s : Sl h v u8F xs) (hs : xs.length ≤ 2000) (p : Nat) (hp1 : p ≤ 999990) : CallF Tryz.prog M 35 [.pointer (some ⟨br, 0, none⟩)] (rdA br v p) h fun u A => ∃ (c : Cell) (q : Nat), u = .agg #[.int .i64 c.kind, .int .i64 c.light] ∧ q ≤ p + 2 ∧ A = rdA br v q := by
  have o1 := s.one
  refine calls_of_sf Tryz.func35 rfl Tryz.ntmps35 ?_
  simp only [argsL, Nat.reduceAdd]
  repeat (first | refine R1 ?_ | (refine R2 ?_; intro _))
  refine fp (y_call (pick_f _ br v xs s hs p 12 (by omega) (by omega) (by omega)) (by rfl) ?_)
  rintro _ A1 ⟨m, rfl, m0, m1, rfl⟩
  repeat (first | refine R1 ?_ | (refine R2 ?_; intro _))
  refine sf_if (fun e0 => ?_) fun e0 => ?_
  · repeat (first | refine R1 ?_ | (refine R2 ?_; intro _))
    exact sf_ret (rO (rdA br v (p + 1)) ⟨⟨1, 0⟩, p + 1, rfl, by omega, rfl⟩)
  repeat (first | refine R1 ?_ | (refine R2 ?_; intro _))
  refine sf_if (fun e1 => ?_) fun e1 => ?_
  · repeat (first | refine R1 ?_ | (refine R2 ?_; intro _))
    refine sf_if (fun e2 => ?_) fun e2 => ?_
    · repeat (first | refine R1 ?_ | (refine R2 ?_; intro _))
      exact sf_ret (rO (rdA br v (p + 1)) ⟨⟨2, 0⟩, p + 1, rfl, by omega, rfl⟩)
    · exact absurd e1 e2
  repeat (first | refine R1 ?_ | (refine R2 ?_; intro _))
  refine sf_if (fun e2 => ?_) fun e2 => ?_
  · repeat (first | refine R1 ?_ | (refine R2 ?_; intro _))
    exact sf_ret (rO (rdA br v (p + 1)) ⟨⟨2, 0⟩, p + 1, rfl, by omega, rfl⟩)
  repeat (first | refine R1 ?_ | (refine R2 ?_; intro _))
  refine sf_if (fun e3 => ?_) fun e3 => ?_
  · repeat (first | refine R1 ?_ | (refine R2 ?_; intro _))
    refine sf_if (fun e4 => ?_) fun e4 => ?_
    · repeat (first | refine R1 ?_ | (refine R2 ?_; intro _))
      exact sf_ret (rO (rdA br v (p + 1)) ⟨⟨3, 0⟩, p + 1, rfl, by omega, rfl⟩)
    · exact absurd e3 e4
  repeat (first | refine R1 ?_ | (refine R2 ?_; intro _))
  refine sf_if (fun e4 => ?_) fun e4 => ?_
  · repeat (first | refine R1 ?_ | (refine R2 ?_; intro _))
    exact sf_ret (rO (rdA br v (p + 1)) ⟨⟨3, 0⟩, p + 1, rfl, by omega, rfl⟩)
  repeat (first | refine R1 ?_ | (refine R2 ?_; intro _))
  refine sf_if (fun e5 => ?_) fun e5 => ?_
  · repeat (first | refine R1 ?_ | (refine R2 ?_; intro _))
    exact sf_ret (rO (rdA br v (p + 1)) ⟨⟨4, 0⟩, p + 1, rfl, by omega, rfl⟩)
  repeat (first | refine R1 ?_ | (refine R2 ?_; intro _))
  refine sf_if (fun e6 => ?_) fun e6 => ?_
  · repeat (first | refine R1 ?_ | (refine R2 ?_; intro _))
    exact sf_ret (rO (rdA br v (p + 1)) ⟨⟨5, 0⟩, p + 1, rfl, by omega, rfl⟩)
  repeat (first | refine R1 ?_ | (refine R2 ?_; intro _))
  refine sf_if (fun e7 => ?_) fun e7 => ?_
  · repeat (first | refine R1 ?_ | (refine R2 ?_; intro _))
    exact sf_ret (rO (rdA br v (p + 1)) ⟨⟨6, 0⟩, p + 1, rfl, by omega, rfl⟩)
  repeat (first | refine R1 ?_ | (refine R2 ?_; intro _))
  refine sf_if (fun e8 => ?_) fun e8 => ?_
  · repeat (first | refine R1 ?_ | (refine R2 ?_; intro _))
    refine fp (y_call (pick_f _ br v xs s hs (p + 1) 9 (by omega) (by omega) (by omega)) (by rfl) ?_)
    rintro _ A2 ⟨m2, rfl, m20, m21, rfl⟩
    repeat (first | refine R1 ?_ | (refine R2 ?_; intro _))
    exact sf_ret (rO (rdA br v (p + 1 + 1)) ⟨⟨7, 1 + m2⟩, p + 1 + 1, rfl, by omega, rfl⟩)
  repeat (first | refine R1 ?_ | (refine R2 ?_; intro _))
  exact sf_ret (rO (rdA br v (p + 1)) ⟨⟨0, 0⟩, p + 1, rfl, by omega, rfl⟩)
theorem l71Off_f (h : PHeap) (br : Nat) (v : Value) (xs : List (Fin 256)) (s : Sl h v u8F xs) (hs : xs.length ≤ 2000) (p : Nat) (hp1 : p ≤ 999990) : CallF Tryz.prog M 26 [.pointer (some ⟨br, 0, none⟩)] (rdA br v p) h fun u A => ∃ (c : Cell) (q : Nat), u = .agg #[.int .i64 c.kind, .int .i64 c.light] ∧ q ≤ p + 2 ∧ A = rdA br v q := by
  have o1 := s.one
  refine calls_of_sf Tryz.func26 rfl Tryz.ntmps26 ?_
  simp only [argsL, Nat.reduceAdd]
  repeat (first | refine R1 ?_ | (refine R2 ?_; intro _))
  refine fp (y_bs (by rfl) (by rfl) (by rfl) (by rfl) (by decide) fun w Aw gw => ?_)
  repeat (first | refine R1 ?_ | (refine R2 ?_; intro _))
  refine fp (y_call (pick_f _ br v xs s hs p 6 (by omega) (by omega) (by omega)) (by rfl) ?_)
  rintro _ A1 ⟨m, rfl, m0, m1, rfl⟩
  obtain ⟨m, rfl⟩ : ∃ k : Nat, m = k := ⟨m.toNat, by omega⟩
  repeat (first | refine R1 ?_ | (refine R2 ?_; intro _))
  refine fp (Rq ?_ (z_indexG (by rfl) (by rfl) gw (by simp; omega)))
  repeat (first | refine R1 ?_ | (refine R2 ?_; intro _))
  refine fp (Rq ?_ (z_loadG (by rfl) gw (by simp; omega) (by rfl)))
  repeat (first | refine R1 ?_ | (refine R2 ?_; intro _))
  exact sf_ret (rt (rdA br v (p + 1)) (resV_one rfl (yr_cell rfl)) ⟨_, p + 1, rfl, by omega, rfl⟩)
end Go.Proofs.YtcefbjpebgofjaaGreatDoor

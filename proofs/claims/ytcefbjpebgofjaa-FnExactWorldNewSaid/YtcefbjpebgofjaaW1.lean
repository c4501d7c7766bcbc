/- Walks: a world's beginning, the reference's and the program's own. -/
import Derived.Test.YtcefbjpebgofjaaK2
import Derived.Test.YtcefbjpebgofjaaSmW
namespace Go.Proofs.Ytcefbjpebgofjaa
open Go Go.Sl
set_option maxRecDepth 100000
set_option maxHeartbeats 4000000
attribute [local irreducible] Go.Code.sf sfOps Opq opo retF Do1 anyO
variable {M : Jdg → Prop} [IsCl Try.prog M]
instance : ElemF Try.prog 70 (rawF (painterR τ).sz) := ⟨trivial⟩
instance : ElemF Try.prog 93 (rawF (wordR τ).sz) := ⟨trivial⟩

theorem painters0 {A : Own} {v : Value} {n : Nat} (g : Gr A v 70 (rawF (painterR τ).sz) (List.replicate n ⟨[.bool true, .bool false, .int .i64 0, .int .i64 0, .slice none 0 0, .slice none 0 0, .slice none 0 0], rfl⟩)) (hn : n ≤ 281474976710656) : GrR (painterR τ) A v 70 (List.replicate n freshPainter) := by
  refine ⟨A, [], by simp, _, g, ?_, by simpa using hn⟩
  clear g hn
  induction n with
  | zero => exact .nil
  | succ n ih => rw [List.replicate_succ, List.replicate_succ]; exact .cons (A := []) freshPainterO ih
theorem sWorldNew_f (h : PHeap) (ca : List Value) (g : Grid) (many : Int) (b : (gridR τ).B h ca g) (hs : g.cells.length ≤ 1048576) : CallF Try.prog M 14 [.agg ca.toArray, .int .i64 many] [] h fun v A => ∃ cs, v = .tuple #[.agg cs.toArray, .bool (worldNew g many).2] ∧ (worldR τ).O A cs (worldNew g many).1 := by
  obtain ⟨c, rfl, s⟩ := gridB b
  have o1 := s.one
  refine calls_of_sf Try.func14 rfl Try.ntmps14 ?_
  simp only [argsL, Nat.reduceAdd]
  repeat (first | refine R1 ?_ | (refine R2 ?_; intro _))
  refine fp (y_call (sKeepNew_f _ _ g many b hs) (by rfl) ?_)
  rintro _ A1 ⟨_, rfl, q⟩
  obtain ⟨x1, x2, x3, x4, K1, K2, K3, K4, rfl, rfl, ⟨r1, l1⟩, ⟨r2, l2⟩, r3, r4⟩ := keeperO q
  have p1 := r1.one
  have p2 := r2.one
  have p3 := r3.one
  have p4 := r4.one
  repeat (first | refine R1 ?_ | (refine R2 ?_; intro _))
  refine sf_cond (by rfl) (fun h2 => ?_) fun h2 => ?_
  · rw [worldNew_F (by simpa using h2)]
    repeat (first | refine R1 ?_ | (refine R2 ?_; intro _))
    exact sf_ret (rO [] ⟨_, rfl, noWorldO⟩)
  · have h3 : (keepNew g many).2 = true := by simpa using h2
    have hm := keepNew_many h3
    rw [worldNew_T h3]
    generalize keepNew g many = kn at *
    repeat (first | refine R1 ?_ | (refine R2 ?_; intro _))
    refine fp (y_bs (by rfl) (by rfl) (by rfl) (by rfl) (by decide) fun e1 A2 g2 => ?_)
    have o2 := g2.one
    repeat (first | refine R1 ?_ | (refine R2 ?_; intro _))
    rename_i b2 b4 b6 b8
    obtain ⟨n, rfl⟩ : ∃ n : Nat, many = n := ⟨many.toNat, by omega⟩
    refine sf_lp [1, 4, 8] (fun i : Nat => [(9, .int .i64 (i : Int))]) (fun i O => i ≤ n ∧ ∃ p A0, O = (b8, .cells #[.int .i64 kn.1.first.wide, x1, x2, x3, x4, p, e1] 45) :: (A0 ++ (A2 ++ (K1 ++ (K2 ++ (K3 ++ K4)) ++ [(b4, .cells #[.int .i64 0, .slice none 0 0, .slice none 0 0, .slice none 0 0, .slice none 0 0, .slice none 0 0, .slice none 0 0] 45)]))) ∧ Gr A0 p 70 (rawF (painterR τ).sz) (List.replicate i ⟨[.bool true, .bool false, .int .i64 0, .int .i64 0, .slice none 0 0, .slice none 0 0, .slice none 0 0], rfl⟩)) (fun i => n - i) 0 ((b8, .cells #[.int .i64 kn.1.first.wide, x1, x2, x3, x4, .slice none 0 0, e1] 45) :: ([] ++ (A2 ++ (K1 ++ (K2 ++ (K3 ++ K4)) ++ [(b4, .cells #[.int .i64 0, .slice none 0 0, .slice none 0 0, .slice none 0 0, .slice none 0 0, .slice none 0 0, .slice none 0 0] 45)])))) ⟨by omega, _, [], rfl, Gr.nil _ _⟩ ?_
    rintro i O ⟨hi, p, A0, rfl, g3⟩
    have o5 := g3.one
    repeat (first | refine R1 ?_ | (refine R2 ?_; intro _))
    refine sf_if (fun h4 => ?_) fun h4 => ?_
    · repeat (first | refine R1 ?_ | (refine R2 ?_; intro _))
      refine fp (y_bs (by rfl) (by rfl) (by rfl) (by rfl) (by decide) fun u Au gu => ?_)
      repeat (first | refine R1 ?_ | (refine R2 ?_; intro _))
      refine fp (y_append (by rfl) (by rfl) g3 gu (by intro y hy; simp at hy; subst hy; exact (inferInstance : AllOne [Value.bool true, .bool false, .int .i64 0, .int .i64 0, .slice none 0 0, .slice none 0 0, .slice none 0 0]).is) (by rfl) (by rfl) (by simp; omega) (by simp; omega) fun p2 A5 g5 => ?_)
      have o6 := g5.one
      repeat (first | refine R1 ?_ | (refine R2 ?_; intro _))
      refine ⟨i + 1, by omega, ⟨rfl, trivial⟩, rfl, (b8, .cells #[.int .i64 kn.1.first.wide, x1, x2, x3, x4, p2, e1] 45) :: (A5 ++ (A2 ++ (K1 ++ (K2 ++ (K3 ++ K4)) ++ [(b4, .cells #[.int .i64 0, .slice none 0 0, .slice none 0 0, .slice none 0 0, .slice none 0 0, .slice none 0 0, .slice none 0 0] 45)]))), _, inferInstance, by omega, p2, A5, rfl, ?_⟩
      rw [List.replicate_succ']
      exact g5
    · refine sf_exit ?_
      repeat (first | refine R1 ?_ | (refine R2 ?_; intro _))
      have : i = n := by omega
      subst this
      refine sf_ret (rO (K1 ++ (K2 ++ (K3 ++ (K4 ++ (A0 ++ A2))))) ⟨_, rfl, ?_⟩)
      simp only [Int.toNat_natCast]
      exact worldO_mk (w := ⟨kn.1, List.replicate i freshPainter, []⟩) r1 l1 r2 l2 r3 r4 (painters0 g3 (by omega)) (GrR.of_gr g2)
theorem worldNew_f (h : PHeap) (ca : List Value) (g : Grid) (many : Int) (b : (gridR τ).B h ca g) (hs : g.cells.length ≤ 1048576) : CallF Try.prog M 15 [.agg ca.toArray, .int .i64 many] [] h fun v A => ∃ cs, v = .tuple #[.agg cs.toArray, .bool (worldNew g many).2] ∧ (worldR τ).O A cs (worldNew g many).1 := by
  obtain ⟨c, rfl, s⟩ := gridB b
  have o1 := s.one
  refine calls_of_sf Try.func15 rfl Try.ntmps15 ?_
  simp only [argsL, Nat.reduceAdd]
  repeat (first | refine R1 ?_ | (refine R2 ?_; intro _))
  refine fp (y_call (keepNew_f _ _ g many b hs) (by rfl) ?_)
  rintro _ A1 ⟨_, rfl, q⟩
  obtain ⟨x1, x2, x3, x4, K1, K2, K3, K4, rfl, rfl, ⟨r1, l1⟩, ⟨r2, l2⟩, r3, r4⟩ := keeperO q
  have p1 := r1.one
  have p2 := r2.one
  have p3 := r3.one
  have p4 := r4.one
  repeat (first | refine R1 ?_ | (refine R2 ?_; intro _))
  refine sf_cond (by rfl) (fun h2 => ?_) fun h2 => ?_
  · rw [worldNew_F (by simpa using h2)]
    repeat (first | refine R1 ?_ | (refine R2 ?_; intro _))
    exact sf_ret (rO [] ⟨_, rfl, noWorldO⟩)
  · have h3 : (keepNew g many).2 = true := by simpa using h2
    have hm := keepNew_many h3
    rw [worldNew_T h3]
    generalize keepNew g many = kn at *
    repeat (first | refine R1 ?_ | (refine R2 ?_; intro _))
    rename_i b2 b4 b6 b8
    obtain ⟨n, rfl⟩ : ∃ n : Nat, many = n := ⟨many.toNat, by omega⟩
    refine sf_lp [4, 8, 20] (fun i : Nat => [(21, .int .i64 (i : Int))]) (fun i O => i ≤ n ∧ ∃ p A0, O = (b8, .cells #[.int .i64 kn.1.first.wide, x1, x2, x3, x4, p, .slice none 0 0] 45) :: (A0 ++ ((K1 ++ (K2 ++ (K3 ++ K4)) ++ [(b4, .cells #[.int .i64 0, .slice none 0 0, .slice none 0 0, .slice none 0 0, .slice none 0 0, .slice none 0 0, .slice none 0 0] 45)]))) ∧ Gr A0 p 70 (rawF (painterR τ).sz) (List.replicate i ⟨[.bool true, .bool false, .int .i64 0, .int .i64 0, .slice none 0 0, .slice none 0 0, .slice none 0 0], rfl⟩)) (fun i => n - i) 0 ((b8, .cells #[.int .i64 kn.1.first.wide, x1, x2, x3, x4, .slice none 0 0, .slice none 0 0] 45) :: ([] ++ ((K1 ++ (K2 ++ (K3 ++ K4)) ++ [(b4, .cells #[.int .i64 0, .slice none 0 0, .slice none 0 0, .slice none 0 0, .slice none 0 0, .slice none 0 0, .slice none 0 0] 45)])))) ⟨by omega, _, [], rfl, Gr.nil _ _⟩ ?_
    rintro i O ⟨hi, p, A0, rfl, g3⟩
    have o5 := g3.one
    repeat (first | refine R1 ?_ | (refine R2 ?_; intro _))
    refine sf_if (fun h4 => ?_) fun h4 => ?_
    · repeat (first | refine R1 ?_ | (refine R2 ?_; intro _))
      refine fp (y_bs (by rfl) (by rfl) (by rfl) (by rfl) (by decide) fun u Au gu => ?_)
      repeat (first | refine R1 ?_ | (refine R2 ?_; intro _))
      refine fp (y_append (by rfl) (by rfl) g3 gu (by intro y hy; simp at hy; subst hy; exact (inferInstance : AllOne [Value.bool true, .bool false, .int .i64 0, .int .i64 0, .slice none 0 0, .slice none 0 0, .slice none 0 0]).is) (by rfl) (by rfl) (by simp; omega) (by simp; omega) fun p2 A5 g5 => ?_)
      have o6 := g5.one
      repeat (first | refine R1 ?_ | (refine R2 ?_; intro _))
      refine ⟨i + 1, by omega, ⟨rfl, trivial⟩, rfl, (b8, .cells #[.int .i64 kn.1.first.wide, x1, x2, x3, x4, p2, .slice none 0 0] 45) :: (A5 ++ ((K1 ++ (K2 ++ (K3 ++ K4)) ++ [(b4, .cells #[.int .i64 0, .slice none 0 0, .slice none 0 0, .slice none 0 0, .slice none 0 0, .slice none 0 0, .slice none 0 0] 45)]))), _, inferInstance, by omega, p2, A5, rfl, ?_⟩
      rw [List.replicate_succ']
      exact g5
    · refine sf_exit ?_
      repeat (first | refine R1 ?_ | (refine R2 ?_; intro _))
      have : i = n := by omega
      subst this
      refine sf_ret (rO (K1 ++ (K2 ++ (K3 ++ (K4 ++ (A0 ++ []))))) ⟨_, rfl, ?_⟩)
      simp only [Int.toNat_natCast]
      exact worldO_mk (w := ⟨kn.1, List.replicate i freshPainter, []⟩) r1 l1 r2 l2 r3 r4 (painters0 g3 (by omega)) GrR.nil
end Go.Proofs.Ytcefbjpebgofjaa

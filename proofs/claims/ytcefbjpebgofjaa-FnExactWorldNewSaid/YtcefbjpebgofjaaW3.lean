/- The law FnExactWorldNew: it answers true. -/
import Derived.Test.YtcefbjpebgofjaaW1
import Derived.Test.YtcefbjpebgofjaaXtA
import Derived.Test.YtcefbjpebgofjaaXeB
import Derived.Test.YtcefbjpebgofjaaXsA
import Derived.Test.YtcefbjpebgofjaaXhB
import Derived.Test.YtcefbjpebgofjaaXmB
namespace Go.Proofs.Ytcefbjpebgofjaa
open Go Go.Sl
set_option maxRecDepth 100000
set_option maxHeartbeats 4000000
attribute [local irreducible] Go.Code.sf sfOps Opq opo retF Do1 anyO
variable {M : Jdg → Prop} [IsCl Try.prog M]

theorem world_body (h : PHeap) (ca : List Value) (g : Grid) (many : Int) (b : (gridR τ).B h ca g) : ∃ c, Try.f4.body = some c ∧ c.sf Try.prog M Try.f4.ntmps (retF Try.prog Try.f4 Try.f4.ntmps (fun v _ => v = .bool true) fun _ _ => False) (argsL 0 [.agg ca.toArray, .int .i64 many]) [] h := by
  obtain ⟨c, rfl, s⟩ := gridB b
  have o1 := s.one
  refine ⟨_, rfl, ?_⟩
  rw [Try.ntmps4]
  simp only [argsL, Nat.reduceAdd]
  repeat (first | refine R1 ?_ | (refine R2 ?_; intro _))
  refine fp (y_callV (szGrid_v _ _ g b 1048576 (by decide) (by decide)) (by rfl) ?_)
  repeat (first | refine R1 ?_ | (refine R2 ?_; intro _))
  refine sf_if (fun h1 => ?_) fun h1 => ?_
  · repeat (first | refine R1 ?_ | (refine R2 ?_; intro _))
    exact sf_ret (rO [] rfl)
  · have hs : g.cells.length ≤ 1048576 := by have := (szF_ge h1).1; simp only [szGridN] at this; omega
    clear h1
    repeat (first | refine R1 ?_ | (refine R2 ?_; intro _))
    refine fp (y_call (toGrid_f _ _ g b hs) (by rfl) ?_)
    rintro _ A1 ⟨_, rfl, q1⟩
    obtain ⟨c1, rfl, g1, l1⟩ := gridO q1
    have o2 := g1.one
    repeat (first | refine R1 ?_ | (refine R2 ?_; intro _))
    refine fp (y_lend A1 (fun h' _ i => sWorldNew_f h' _ g many ((gridR τ).lent q1 i) hs) (by rfl) ?_)
    rintro _ A0 ⟨_, rfl, q0⟩
    have q0' := q0
    obtain ⟨x1, x2, x3, x4, x5, x6, _, _, _, _, _, _, rfl, -, ⟨r1, -⟩, ⟨r2, -⟩, r3, r4, r5, r6⟩ := worldO q0
    have p1 := r1.one
    have p2 := r2.one
    have p3 := r3.one
    have p4 := r4.one
    have pa1 := r5.one
    have pb1 := r6.one
    clear r1 r2 r3 r4 r5 r6
    repeat (first | refine R1 ?_ | (refine R2 ?_; intro _))
    have z0 : cWorld (worldNew g many).1 ≤ 2 * g.cells.length + 18 := worldNew_c g many
    refine fp (y_call (toGrid_f _ _ g b hs) (by rfl) ?_)
    rintro _ A2 ⟨_, rfl, q2⟩
    obtain ⟨c2, rfl, g2, l2⟩ := gridO q2
    have o3 := g2.one
    repeat (first | refine R1 ?_ | (refine R2 ?_; intro _))
    refine fp (y_lend A2 (fun h' _ i => worldNew_f h' _ g many ((gridR τ).lent q2 i) hs) (by rfl) ?_)
    rintro _ A3 ⟨_, rfl, q3⟩
    have q3' := q3
    obtain ⟨y1, y2, y3, y4, y5, y6, _, _, _, _, _, _, rfl, -, ⟨r1, -⟩, ⟨r2, -⟩, r3, r4, r5, r6⟩ := worldO q3
    have p5 := r1.one
    have p6 := r2.one
    have p7 := r3.one
    have p8 := r4.one
    have pa2 := r5.one
    have pb2 := r6.one
    clear r1 r2 r3 r4 r5 r6
    repeat (first | refine R1 ?_ | (refine R2 ?_; intro _))
    refine fp (y_lendV (A3 ++ A0) (fun h' _ i => eqWorld_v h' _ _ _ _ ((worldR τ).lent q3' (inb_l i)) ((worldR τ).lent q0' (inb_r i))) (by rfl) ?_)
    simp only [decide_true]
    repeat (first | refine R1 ?_ | (refine R2 ?_; intro _))
    refine sf_cond (by rfl) (fun e => ?_) fun e => ?_
    · simp at e
    clear e
    refine sf_keep [1, 2, 6, 7, 8, 9, 10] ?_
    repeat (first | refine R1 ?_ | (refine R2 ?_; intro _))
    refine sf_draw (by kernel_rfl) (regX_run [[], [], [1], [0, 1, 2], [0, 1, 2, 3]] 3 [(0, false), (1, false), (2, true)] (by kernel_rfl) (by kernel_rfl) (by kernel_rfl) ?_)
    repeat (refine Da1 ?_)
    refine a_call (toGrid_f _ _ g b hs) (by rfl) (by rfl) (.inl rfl) ?_
    rintro _ A5 ⟨_, rfl, q5⟩
    (refine a_end (by rfl) (by rfl) ?_; simp only [finA, setL, List.drop_succ_cons, List.drop_zero])
    refine fp (y_lendV (A2 ++ A5) (fun h' _ i => eqGrid_v h' _ _ _ _ ((gridR τ).lent q2 (inb_l i)) ((gridR τ).lent q5 (inb_r i))) (by rfl) ?_)
    simp only [decide_true]
    repeat (first | refine R1 ?_ | (refine R2 ?_; intro _))
    refine sf_cond (by rfl) (fun e => ?_) fun e => ?_
    · simp at e
    clear e
    have zg : cGrid g = 2 * g.cells.length := sizeL_const _
    repeat (first | refine R1 ?_ | (refine R2 ?_; intro _))
    refine fp (y_call (markGrid_f _ _ _ _ q2 1 (by decide) (by omega)) (by rfl) ?_)
    rintro _ A6 ⟨w6, rfl, q6, -, -⟩
    repeat (first | refine R1 ?_ | (refine R2 ?_; intro _))
    refine f_split (fun e => ?_) fun e => ?_
    · omega
    repeat (first | refine R1 ?_ | (refine R2 ?_; intro _))
    refine fp (y_lendV (A3 ++ A0) (fun h' _ i => eqWorld_v h' _ _ _ _ ((worldR τ).lent q3' (inb_l i)) ((worldR τ).lent q0' (inb_r i))) (by rfl) ?_)
    simp only [decide_true]
    repeat (first | refine R1 ?_ | (refine R2 ?_; intro _))
    refine sf_cond (by rfl) (fun e => ?_) fun e => ?_
    · simp at e
    clear e
    refine sf_keep [1, 2, 6, 7, 8, 9, 10] ?_
    repeat (first | refine R1 ?_ | (refine R2 ?_; intro _))
    refine fp (y_call (markWorld_f _ _ _ _ q3' 1 (by decide) (by omega)) (by rfl) ?_)
    rintro _ A7 ⟨w7, rfl, q7, z7, u7⟩
    repeat (first | refine R1 ?_ | (refine R2 ?_; intro _))
    refine fp (y_lendV A7 (fun h' _ i => heldWorld_v h' _ _ ((worldR τ).lent q7 i) 1 (by decide) (by omega)) (by rfl) ?_)
    rw [u7]
    repeat (first | refine R1 ?_ | (refine R2 ?_; intro _))
    refine sf_if (fun e => ?_) fun e => ?_
    · omega
    refine sf_keep [1, 2, 6, 7, 8, 9, 10, 12, 13] ?_
    repeat (first | refine R1 ?_ | (refine R2 ?_; intro _))
    refine sf_if (fun e => ?_) fun e => ?_
    · exact absurd rfl e
    refine sf_keep [1, 2, 6, 7, 8, 9, 10, 12, 13] ?_
    repeat (first | refine R1 ?_ | (refine R2 ?_; intro _))
    refine fp (y_call (toGrid_f _ _ g b hs) (by rfl) ?_)
    rintro _ A8 ⟨_, rfl, q8⟩
    obtain ⟨c8, rfl, g8, l8⟩ := gridO q8
    have o8 := g8.one
    repeat (first | refine R1 ?_ | (refine R2 ?_; intro _))
    refine fp (y_lend A8 (fun h' _ i => worldNew_f h' _ g many ((gridR τ).lent q8 i) hs) (by rfl) ?_)
    rintro _ A9 ⟨_, rfl, q9⟩
    have q9' := q9
    obtain ⟨z1, z2, z3, z4, z5, z6, _, _, _, _, _, _, rfl, -, ⟨r1, -⟩, ⟨r2, -⟩, r3, r4, r5, r6⟩ := worldO q9
    have p9 := r1.one
    have p10 := r2.one
    have p11 := r3.one
    have p12 := r4.one
    have pa3 := r5.one
    have pb3 := r6.one
    clear r1 r2 r3 r4 r5 r6
    repeat (first | refine R1 ?_ | (refine R2 ?_; intro _))
    refine fp (y_lendV (A9 ++ A0) (fun h' _ i => eqWorld_v h' _ _ _ _ ((worldR τ).lent q9' (inb_l i)) ((worldR τ).lent q0' (inb_r i))) (by rfl) ?_)
    simp only [decide_true]
    repeat (first | refine R1 ?_ | (refine R2 ?_; intro _))
    refine sf_cond (by rfl) (fun e => ?_) fun e => ?_
    · simp at e
    clear e
    refine sf_keep [9, 12] ?_
    repeat (first | refine R1 ?_ | (refine R2 ?_; intro _))
    refine fp (y_lendV A7 (fun h' _ i => heldWorld_v h' _ _ ((worldR τ).lent q7 i) 1 (by decide) (by omega)) (by rfl) ?_)
    rw [u7]
    repeat (first | refine R1 ?_ | (refine R2 ?_; intro _))
    refine sf_if (fun e => ?_) fun e => ?_
    · omega
    refine sf_keep [9, 12, 13] ?_
    repeat (first | refine R1 ?_ | (refine R2 ?_; intro _))
    refine sf_if (fun e => ?_) fun e => ?_
    · exact absurd rfl e
    refine sf_keep [9, 12] ?_
    repeat (first | refine R1 ?_ | (refine R2 ?_; intro _))
    exact sf_ret (rO [] rfl)
end Go.Proofs.Ytcefbjpebgofjaa

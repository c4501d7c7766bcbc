/- Walks: the laws' own comparisons. -/
import Derived.Test.YtcefbjpebgofjaaGreatDoorN6
set_option linter.unusedVariables false
set_option linter.unusedSimpArgs false
set_option linter.unusedSectionVars false

namespace Go.Proofs.YtcefbjpebgofjaaGreatDoor
open Go Go.Sl
set_option maxRecDepth 100000
set_option maxHeartbeats 4000000
attribute [local irreducible] Go.Code.sf sfOps Opq opo retF Do1 anyO
variable {M : Jdg → Prop} [IsCl Tryz.prog M]

theorem llGrid_v (h : PHeap) (ca cb : List Value) (x y : Grid) (bx : (gridR τ).B h ca x) (by' : (gridR τ).B h cb y) : CallV Tryz.prog M 9 [.agg ca.toArray, .agg cb.toArray] h (.bool (decide (x = y))) := by
  obtain ⟨c1, rfl, s1⟩ := gridB bx
  obtain ⟨c2, rfl, s2⟩ := gridB by'
  have o1 := s1.one
  have o2 := s2.one
  have h1 := s1.small
  have h2 := s2.small
  refine calls_of_sf Tryz.func9 rfl Tryz.ntmps9 ?_
  simp only [argsL, Nat.reduceAdd]
  repeat (first | refine R1 ?_ | (refine R2 ?_; intro _))
  refine f_split (fun e => ?_) fun e => ?_
  · repeat (first | refine R1 ?_ | (refine R2 ?_; intro _))
    refine sf_T rfl ?_
    repeat (first | refine R1 ?_ | (refine R2 ?_; intro _))
    exact sf_ret (rV (bF fun z => e (by rw [z])))
  repeat (first | refine R1 ?_ | (refine R2 ?_; intro _))
  refine sf_if (fun e0 => ?_) fun e0 => ?_
  · repeat (first | refine R1 ?_ | (refine R2 ?_; intro _))
    exact sf_ret (rV (bF fun z => e0 (by rw [z])))
  have hl : x.cells.length = y.cells.length := by omega
  repeat (first | refine R1 ?_ | (refine R2 ?_; intro _))
  refine sf_rd [2, 3] 5 x.cells.length 0 (fun k => x.cells.take k = y.cells.take k) (by omega) rfl (fun k hk hi => ?_)
  repeat (first | refine R1 ?_ | (refine R2 ?_; intro _))
  refine sf_if (fun h4 => ?_) fun h4 => ?_
  · have hk4 : k < x.cells.length := by omega
    have hk5 : k < y.cells.length := by omega
    repeat (first | refine R1 ?_ | (refine R2 ?_; intro _))
    refine sf_draw (by kernel_rfl) (regX_run [[], [0], [], [0, 1, 2], [0, 1, 2, 3], [], [5], [], [5, 6, 7], [5, 6, 7, 8], [0, 1, 2, 3, 4, 5, 6, 7, 8, 9]] 10 [(0, false), (1, false), (2, false), (3, false), (4, false), (5, false), (6, false), (7, false), (8, false), (9, false)] (by kernel_rfl) (by kernel_rfl) (by kernel_rfl) ?_)
    repeat (refine Da1 ?_)
    (refine a_end (by rfl) (by rfl) ?_; simp only [finA, setL, List.drop_succ_cons, List.drop_zero])
    refine fp (Rq ?_ (q_neqS (E := cellF) (a := gt x.cells k) (b := gt y.cells k) inferInstance (by rfl) (by rfl)))
    repeat (first | refine R1 ?_ | (refine R2 ?_; intro _))
    refine sf_ifn (fun e1 => ?_) fun e1 => ?_
    · repeat (first | refine R1 ?_ | (refine R2 ?_; intro _))
      exact sf_ret (rV (bF fun z => eq_at e1 (by rw [z])))
    · repeat (first | refine R1 ?_ | (refine R2 ?_; intro _))
      exact ⟨⟨hk4, eq_step hk4 hk5 hi e1⟩, rfl, rfl, _, inferInstance⟩
  · refine sf_exit ?_
    repeat (first | refine R1 ?_ | (refine R2 ?_; intro _))
    have hc := eq_end hl (by omega) hi
    refine sf_ret (rV (bT ?_))
    cases x; cases y; simp_all
theorem llInts_v (h : PHeap) (a b : Value) (xs ys : List Int) (sx : Sl h a intF xs) (sy : Sl h b intF ys) : CallV Tryz.prog M 20 [a, b] h (.bool (decide (xs = ys))) := by
  have o1 := sx.one
  have o2 := sy.one
  have hx := sx.small
  have hy := sy.small
  refine calls_of_sf Tryz.func20 rfl Tryz.ntmps20 ?_
  simp only [argsL, Nat.reduceAdd]
  repeat (first | refine R1 ?_ | (refine R2 ?_; intro _))
  refine sf_if (fun e0 => ?_) fun e0 => ?_
  · repeat (first | refine R1 ?_ | (refine R2 ?_; intro _))
    exact sf_ret (rV (bF fun e => e0 (by rw [e])))
  have hl : xs.length = ys.length := by omega
  repeat (first | refine R1 ?_ | (refine R2 ?_; intro _))
  refine sf_rd [0, 1] 5 xs.length 0 (fun k => xs.take k = ys.take k) (by omega) rfl (fun k hk hi => ?_)
  repeat (first | refine R1 ?_ | (refine R2 ?_; intro _))
  refine sf_if (fun h4 => ?_) fun h4 => ?_
  · have hk4 : k < xs.length := by omega
    have hk5 : k < ys.length := by omega
    repeat (first | refine R1 ?_ | (refine R2 ?_; intro _))
    refine sf_draw (by kernel_rfl) (regX_run [[], [], [0, 1], [0, 1, 2], [], [], [4, 5], [4, 5, 6], [0, 1, 2, 3, 4, 5, 6, 7]] 8 [(0, false), (1, false), (2, false), (3, false), (4, false), (5, false), (6, false), (7, false)] (by kernel_rfl) (by kernel_rfl) (by kernel_rfl) ?_)
    repeat (refine Da1 ?_)
    (refine a_end (by rfl) (by rfl) ?_; simp only [finA, setL, List.drop_succ_cons, List.drop_zero])
    repeat (first | refine R1 ?_ | (refine R2 ?_; intro _))
    refine sf_if (fun e1 => ?_) fun e1 => ?_
    · repeat (first | refine R1 ?_ | (refine R2 ?_; intro _))
      exact sf_ret (rV (bF (eq_at e1)))
    · repeat (first | refine R1 ?_ | (refine R2 ?_; intro _))
      exact ⟨⟨hk4, eq_step hk4 hk5 hi (by simpa using e1)⟩, rfl, rfl, _, inferInstance⟩
  · refine sf_exit ?_
    repeat (first | refine R1 ?_ | (refine R2 ?_; intro _))
    exact sf_ret (rV (bT (eq_end hl (by omega) hi)))
theorem llEdits_nil (h : PHeap) (a b : Value) (s1 : Sl h a editF ([] : List Edit)) (s2 : Sl h b editF ([] : List Edit)) : CallV Tryz.prog M 19 [a, b] h (.bool true) := by
  have o1 := s1.one
  have o2 := s2.one
  refine calls_of_sf Tryz.func19 rfl Tryz.ntmps19 ?_
  simp only [argsL, Nat.reduceAdd]
  repeat (first | refine R1 ?_ | (refine R2 ?_; intro _))
  refine sf_if (fun e => ?_) fun e => ?_
  · exact absurd rfl e
  repeat (first | refine R1 ?_ | (refine R2 ?_; intro _))
  refine sf_lp (ι := Unit) [0, 1] (fun _ => [(5, .int .i64 0)]) (fun _ O => O = []) (fun _ => 0) () [] rfl ?_
  rintro _ O rfl
  repeat (first | refine R1 ?_ | (refine R2 ?_; intro _))
  refine sf_cond (by rfl) (fun e => by cases e) fun _ => ?_
  refine sf_exit ?_
  repeat (first | refine R1 ?_ | (refine R2 ?_; intro _))
  exact sf_ret (rV rfl)
end Go.Proofs.YtcefbjpebgofjaaGreatDoor

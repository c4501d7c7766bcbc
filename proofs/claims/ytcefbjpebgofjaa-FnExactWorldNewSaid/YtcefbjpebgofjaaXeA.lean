/- Walks of the exact laws' own helpers: equality. Printed by program. -/
import Derived.Test.YtcefbjpebgofjaaG2
import Derived.Test.YtcefbjpebgofjaaSmH
namespace Go.Proofs.Ytcefbjpebgofjaa
open Go Go.Sl
set_option maxRecDepth 100000
set_option maxHeartbeats 4000000
attribute [local irreducible] Go.Code.sf sfOps Opq opo retF Do1 anyO
variable {M : Jdg → Prop} [IsCl Try.prog M]
theorem eqCell_v (h : PHeap) (x y : Cell) : CallV Try.prog M 51 [.agg #[.int .i64 x.kind, .int .i64 x.light], .agg #[.int .i64 y.kind, .int .i64 y.light]] h (.bool (decide (x = y))) := by
  refine calls_of_sf Try.func51 rfl Try.ntmps51 ?_
  simp only [argsL, Nat.reduceAdd]
  repeat (first | refine R1 ?_ | (refine R2 ?_; intro _))
  refine sf_if (fun e1 => ?_) fun e1 => ?_
  · repeat (first | refine R1 ?_ | (refine R2 ?_; intro _))
    exact sf_ret (rV (bF fun e => e1 (by rw [e])))
  repeat (first | refine R1 ?_ | (refine R2 ?_; intro _))
  refine sf_if (fun e2 => ?_) fun e2 => ?_
  · repeat (first | refine R1 ?_ | (refine R2 ?_; intro _))
    exact sf_ret (rV (bF fun e => e2 (by rw [e])))
  repeat (first | refine R1 ?_ | (refine R2 ?_; intro _))
  refine sf_ret (rV (bT ?_))
  cases x; cases y; simp_all
theorem eqEdit_v (h : PHeap) (x y : Edit) : CallV Try.prog M 48 [.agg #[.int .i64 x.at', .int .i64 x.cell.kind, .int .i64 x.cell.light], .agg #[.int .i64 y.at', .int .i64 y.cell.kind, .int .i64 y.cell.light]] h (.bool (decide (x = y))) := by
  refine calls_of_sf Try.func48 rfl Try.ntmps48 ?_
  simp only [argsL, Nat.reduceAdd]
  repeat (first | refine R1 ?_ | (refine R2 ?_; intro _))
  refine sf_if (fun e1 => ?_) fun e1 => ?_
  · repeat (first | refine R1 ?_ | (refine R2 ?_; intro _))
    exact sf_ret (rV (bF fun e => e1 (by rw [e])))
  repeat (first | refine R1 ?_ | (refine R2 ?_; intro _))
  refine fp (y_callV (eqCell_v _ x.cell y.cell) (by rfl) ?_)
  repeat (first | refine R1 ?_ | (refine R2 ?_; intro _))
  refine sf_ifn (fun e2 => ?_) fun e2 => ?_
  · repeat (first | refine R1 ?_ | (refine R2 ?_; intro _))
    exact sf_ret (rV (bF fun e => e2 (by rw [e])))
  repeat (first | refine R1 ?_ | (refine R2 ?_; intro _))
  refine sf_ret (rV (bT ?_))
  cases x; cases y; simp_all
theorem eqIntS_v (h : PHeap) (a b : Value) (xs ys : List Int) (sx : Sl h a intF xs) (sy : Sl h b intF ys) : CallV Try.prog M 60 [a, b] h (.bool (decide (xs = ys))) := by
  have o1 := sx.one
  have o2 := sy.one
  have hx := sx.small
  have hy := sy.small
  refine calls_of_sf Try.func60 rfl Try.ntmps60 ?_
  simp only [argsL, Nat.reduceAdd]
  repeat (first | refine R1 ?_ | (refine R2 ?_; intro _))
  refine sf_if (fun e0 => ?_) fun e0 => ?_
  · repeat (first | refine R1 ?_ | (refine R2 ?_; intro _))
    exact sf_ret (rV (bF fun e => e0 (by rw [e])))
  have hl : xs.length = ys.length := by omega
  repeat (first | refine R1 ?_ | (refine R2 ?_; intro _))
  refine sf_rd [0, 1] 5 xs.length 0 (fun k => xs.take k = ys.take k) (by omega) rfl (fun k hk hi => ?_)
  repeat (first | refine R1 ?_ | (refine R2 ?_; intro _))
  refine sf_if (fun h4 => ?_) fun h4 => ?_
  · have hk4 : k < xs.length := by omega
    have hk5 : k < ys.length := by omega
    repeat (first | refine R1 ?_ | (refine R2 ?_; intro _))
    refine sf_draw (by kernel_rfl) (regX_run [[], [], [0, 1], [0, 1, 2], [], [], [4, 5], [4, 5, 6], [0, 1, 2, 3, 4, 5, 6, 7]] 8 [(0, false), (1, false), (2, false), (3, false), (4, false), (5, false), (6, false), (7, false)] (by kernel_rfl) (by kernel_rfl) (by kernel_rfl) ?_)
    repeat (refine Da1 ?_)
    (refine a_end (by rfl) (by rfl) ?_; simp only [finA, setL, List.drop_succ_cons, List.drop_zero])
    repeat (first | refine R1 ?_ | (refine R2 ?_; intro _))
    refine sf_if (fun e1 => ?_) fun e1 => ?_
    · repeat (first | refine R1 ?_ | (refine R2 ?_; intro _))
      exact sf_ret (rV (bF (eq_at e1)))
    · repeat (first | refine R1 ?_ | (refine R2 ?_; intro _))
      exact ⟨⟨hk4, eq_step hk4 hk5 hi (by simpa using e1)⟩, rfl, rfl, _, inferInstance⟩
  · refine sf_exit ?_
    repeat (first | refine R1 ?_ | (refine R2 ?_; intro _))
    exact sf_ret (rV (bT (eq_end hl (by omega) hi)))
theorem eqCellS_v (h : PHeap) (a b : Value) (xs ys : List Cell) (sx : Sl h a cellF xs) (sy : Sl h b cellF ys) : CallV Try.prog M 29 [a, b] h (.bool (decide (xs = ys))) := by
  have o1 := sx.one
  have o2 := sy.one
  have hx := sx.small
  have hy := sy.small
  refine calls_of_sf Try.func29 rfl Try.ntmps29 ?_
  simp only [argsL, Nat.reduceAdd]
  repeat (first | refine R1 ?_ | (refine R2 ?_; intro _))
  refine sf_if (fun e0 => ?_) fun e0 => ?_
  · repeat (first | refine R1 ?_ | (refine R2 ?_; intro _))
    exact sf_ret (rV (bF fun e => e0 (by rw [e])))
  have hl : xs.length = ys.length := by omega
  repeat (first | refine R1 ?_ | (refine R2 ?_; intro _))
  refine sf_rd [0, 1] 5 xs.length 0 (fun k => xs.take k = ys.take k) (by omega) rfl (fun k hk hi => ?_)
  repeat (first | refine R1 ?_ | (refine R2 ?_; intro _))
  refine sf_if (fun h4 => ?_) fun h4 => ?_
  · have hk4 : k < xs.length := by omega
    have hk5 : k < ys.length := by omega
    repeat (first | refine R1 ?_ | (refine R2 ?_; intro _))
    refine sf_draw (by kernel_rfl) (regX_run [[], [], [0, 1], [0, 1, 2], [], [], [4, 5], [4, 5, 6], [0, 1, 2, 3, 4, 5, 6, 7], [0, 1, 2, 3, 4, 5, 6, 7, 8]] 8 [(0, false), (1, false), (2, false), (3, false), (4, false), (5, false), (6, false), (7, false)] (by kernel_rfl) (by kernel_rfl) (by kernel_rfl) ?_)
    repeat (refine Da1 ?_)
    (refine a_end (by rfl) (by rfl) ?_; simp only [finA, setL, List.drop_succ_cons, List.drop_zero])
    refine fp (y_callV (eqCell_v _ (gt xs k) (gt ys k)) (by rfl) ?_)
    repeat (first | refine R1 ?_ | (refine R2 ?_; intro _))
    refine sf_ifn (fun e1 => ?_) fun e1 => ?_
    · repeat (first | refine R1 ?_ | (refine R2 ?_; intro _))
      exact sf_ret (rV (bF (eq_at e1)))
    · repeat (first | refine R1 ?_ | (refine R2 ?_; intro _))
      exact ⟨⟨hk4, eq_step hk4 hk5 hi (by exact e1)⟩, rfl, rfl, _, inferInstance⟩
  · refine sf_exit ?_
    repeat (first | refine R1 ?_ | (refine R2 ?_; intro _))
    exact sf_ret (rV (bT (eq_end hl (by omega) hi)))
theorem eqEditS_v (h : PHeap) (a b : Value) (xs ys : List Edit) (sx : Sl h a editF xs) (sy : Sl h b editF ys) : CallV Try.prog M 26 [a, b] h (.bool (decide (xs = ys))) := by
  have o1 := sx.one
  have o2 := sy.one
  have hx := sx.small
  have hy := sy.small
  refine calls_of_sf Try.func26 rfl Try.ntmps26 ?_
  simp only [argsL, Nat.reduceAdd]
  repeat (first | refine R1 ?_ | (refine R2 ?_; intro _))
  refine sf_if (fun e0 => ?_) fun e0 => ?_
  · repeat (first | refine R1 ?_ | (refine R2 ?_; intro _))
    exact sf_ret (rV (bF fun e => e0 (by rw [e])))
  have hl : xs.length = ys.length := by omega
  repeat (first | refine R1 ?_ | (refine R2 ?_; intro _))
  refine sf_rd [0, 1] 5 xs.length 0 (fun k => xs.take k = ys.take k) (by omega) rfl (fun k hk hi => ?_)
  repeat (first | refine R1 ?_ | (refine R2 ?_; intro _))
  refine sf_if (fun h4 => ?_) fun h4 => ?_
  · have hk4 : k < xs.length := by omega
    have hk5 : k < ys.length := by omega
    repeat (first | refine R1 ?_ | (refine R2 ?_; intro _))
    refine sf_draw (by kernel_rfl) (regX_run [[], [], [0, 1], [0, 1, 2], [], [], [4, 5], [4, 5, 6], [0, 1, 2, 3, 4, 5, 6, 7], [0, 1, 2, 3, 4, 5, 6, 7, 8]] 8 [(0, false), (1, false), (2, false), (3, false), (4, false), (5, false), (6, false), (7, false)] (by kernel_rfl) (by kernel_rfl) (by kernel_rfl) ?_)
    repeat (refine Da1 ?_)
    (refine a_end (by rfl) (by rfl) ?_; simp only [finA, setL, List.drop_succ_cons, List.drop_zero])
    refine fp (y_callV (eqEdit_v _ (gt xs k) (gt ys k)) (by rfl) ?_)
    repeat (first | refine R1 ?_ | (refine R2 ?_; intro _))
    refine sf_ifn (fun e1 => ?_) fun e1 => ?_
    · repeat (first | refine R1 ?_ | (refine R2 ?_; intro _))
      exact sf_ret (rV (bF (eq_at e1)))
    · repeat (first | refine R1 ?_ | (refine R2 ?_; intro _))
      exact ⟨⟨hk4, eq_step hk4 hk5 hi (by exact e1)⟩, rfl, rfl, _, inferInstance⟩
  · refine sf_exit ?_
    repeat (first | refine R1 ?_ | (refine R2 ?_; intro _))
    exact sf_ret (rV (bT (eq_end hl (by omega) hi)))
theorem eqGrid_v (h : PHeap) (ca cb : List Value) (x y : Grid) (bx : (gridR τ).B h ca x) (by' : (gridR τ).B h cb y) : CallV Try.prog M 10 [.agg ca.toArray, .agg cb.toArray] h (.bool (decide (x = y))) := by
  obtain ⟨v_cells1, rfl, s_cells1⟩ := gridB bx
  have o_v_cells1 := s_cells1.one
  obtain ⟨v_cells2, rfl, s_cells2⟩ := gridB by'
  have o_v_cells2 := s_cells2.one
  refine calls_of_sf Try.func10 rfl Try.ntmps10 ?_
  simp only [argsL, Nat.reduceAdd]
  repeat (first | refine R1 ?_ | (refine R2 ?_; intro _))
  refine sf_if (fun e1 => ?_) fun e1 => ?_
  · repeat (first | refine R1 ?_ | (refine R2 ?_; intro _))
    exact sf_ret (rV (bF fun e => e1 (by rw [e])))
  repeat (first | refine R1 ?_ | (refine R2 ?_; intro _))
  refine fp (y_callV (eqCellS_v _ _ _ _ _ s_cells1 s_cells2) (by rfl) ?_)
  repeat (first | refine R1 ?_ | (refine R2 ?_; intro _))
  refine sf_ifn (fun e2 => ?_) fun e2 => ?_
  · repeat (first | refine R1 ?_ | (refine R2 ?_; intro _))
    exact sf_ret (rV (bF fun e => e2 (by rw [e])))
  repeat (first | refine R1 ?_ | (refine R2 ?_; intro _))
  refine sf_ret (rV (bT ?_))
  cases x; cases y; simp_all
theorem eqPart_v (h : PHeap) (ca cb : List Value) (x y : Part) (bx : (partR τ).B h ca x) (by' : (partR τ).B h cb y) : CallV Try.prog M 49 [.agg ca.toArray, .agg cb.toArray] h (.bool (decide (x = y))) := by
  obtain ⟨v_lights1, rfl, s_lights1⟩ := partB bx
  have o_v_lights1 := s_lights1.one
  obtain ⟨v_lights2, rfl, s_lights2⟩ := partB by'
  have o_v_lights2 := s_lights2.one
  refine calls_of_sf Try.func49 rfl Try.ntmps49 ?_
  simp only [argsL, Nat.reduceAdd]
  repeat (first | refine R1 ?_ | (refine R2 ?_; intro _))
  refine sf_ifn (fun e1 => ?_) fun e1 => ?_
  · repeat (first | refine R1 ?_ | (refine R2 ?_; intro _))
    exact sf_ret (rV (bF fun e => e1 (by rw [e])))
  repeat (first | refine R1 ?_ | (refine R2 ?_; intro _))
  refine sf_if (fun e2 => ?_) fun e2 => ?_
  · repeat (first | refine R1 ?_ | (refine R2 ?_; intro _))
    exact sf_ret (rV (bF fun e => e2 (by rw [e])))
  repeat (first | refine R1 ?_ | (refine R2 ?_; intro _))
  refine fp (y_callV (eqIntS_v _ _ _ _ _ s_lights1 s_lights2) (by rfl) ?_)
  repeat (first | refine R1 ?_ | (refine R2 ?_; intro _))
  refine sf_ifn (fun e3 => ?_) fun e3 => ?_
  · repeat (first | refine R1 ?_ | (refine R2 ?_; intro _))
    exact sf_ret (rV (bF fun e => e3 (by rw [e])))
  repeat (first | refine R1 ?_ | (refine R2 ?_; intro _))
  refine sf_ret (rV (bT ?_))
  cases x; cases y; simp_all
theorem eqShown_v (h : PHeap) (ca cb : List Value) (x y : Shown) (bx : (shownR τ).B h ca x) (by' : (shownR τ).B h cb y) : CallV Try.prog M 50 [.agg ca.toArray, .agg cb.toArray] h (.bool (decide (x = y))) := by
  obtain ⟨v_pic1, rfl, s_pic1⟩ := shownB bx
  have o_v_pic1 := s_pic1.one
  obtain ⟨v_pic2, rfl, s_pic2⟩ := shownB by'
  have o_v_pic2 := s_pic2.one
  refine calls_of_sf Try.func50 rfl Try.ntmps50 ?_
  simp only [argsL, Nat.reduceAdd]
  repeat (first | refine R1 ?_ | (refine R2 ?_; intro _))
  refine sf_if (fun e1 => ?_) fun e1 => ?_
  · repeat (first | refine R1 ?_ | (refine R2 ?_; intro _))
    exact sf_ret (rV (bF fun e => e1 (by rw [e])))
  repeat (first | refine R1 ?_ | (refine R2 ?_; intro _))
  refine fp (y_callV (eqIntS_v _ _ _ _ _ s_pic1 s_pic2) (by rfl) ?_)
  repeat (first | refine R1 ?_ | (refine R2 ?_; intro _))
  refine sf_ifn (fun e2 => ?_) fun e2 => ?_
  · repeat (first | refine R1 ?_ | (refine R2 ?_; intro _))
    exact sf_ret (rV (bF fun e => e2 (by rw [e])))
  repeat (first | refine R1 ?_ | (refine R2 ?_; intro _))
  refine sf_ret (rV (bT ?_))
  cases x; cases y; simp_all
theorem eqPartS_v (h : PHeap) (a b : Value) (xs ys : List Part) (sx : SlR (partR τ) h a xs) (sy : SlR (partR τ) h b ys) : CallV Try.prog M 27 [a, b] h (.bool (decide (xs = ys))) := by
  have o1 := sx.one
  have o2 := sy.one
  obtain ⟨rx, sx, bx⟩ := sx
  obtain ⟨ry, sy, by'⟩ := sy
  have lx := bx.len
  have ly := by'.len
  have hx := sx.small
  have hy := sy.small
  refine calls_of_sf Try.func27 rfl Try.ntmps27 ?_
  simp only [argsL, Nat.reduceAdd]
  repeat (first | refine R1 ?_ | (refine R2 ?_; intro _))
  refine sf_if (fun e0 => ?_) fun e0 => ?_
  · repeat (first | refine R1 ?_ | (refine R2 ?_; intro _))
    exact sf_ret (rV (bF fun e => e0 (by rw [lx, ly, e])))
  have hl : xs.length = ys.length := by omega
  repeat (first | refine R1 ?_ | (refine R2 ?_; intro _))
  refine sf_rd [0, 1] 5 xs.length 0 (fun k => xs.take k = ys.take k) (by omega) rfl (fun k hk hi => ?_)
  repeat (first | refine R1 ?_ | (refine R2 ?_; intro _))
  refine sf_if (fun h4 => ?_) fun h4 => ?_
  · have hk4 : k < xs.length := by omega
    have hk5 : k < ys.length := by omega
    have bx4 := bx.at hk4
    have by4 := by'.at hk5
    have hk6 : k < rx.length := by omega
    have hk7 : k < ry.length := by omega
    repeat (first | refine R1 ?_ | (refine R2 ?_; intro _))
    refine sf_draw (by kernel_rfl) (regX_run [[], [], [0, 1], [0, 1, 2], [], [], [4, 5], [4, 5, 6], [0, 1, 2, 3, 4, 5, 6, 7], [0, 1, 2, 3, 4, 5, 6, 7, 8]] 8 [(0, false), (1, false), (2, false), (3, false), (4, false), (5, false), (6, false), (7, false)] (by kernel_rfl) (by kernel_rfl) (by kernel_rfl) ?_)
    repeat (refine Da1 ?_)
    (refine a_end (by rfl) (by rfl) ?_; simp only [finA, setL, List.drop_succ_cons, List.drop_zero])
    refine fp (y_callV (eqPart_v _ _ _ _ _ bx4 by4) (by rfl) ?_)
    repeat (first | refine R1 ?_ | (refine R2 ?_; intro _))
    refine sf_ifn (fun e1 => ?_) fun e1 => ?_
    · repeat (first | refine R1 ?_ | (refine R2 ?_; intro _))
      exact sf_ret (rV (bF (eq_at e1)))
    · repeat (first | refine R1 ?_ | (refine R2 ?_; intro _))
      exact ⟨⟨hk4, eq_step hk4 hk5 hi (by exact e1)⟩, rfl, rfl, _, inferInstance⟩
  · refine sf_exit ?_
    repeat (first | refine R1 ?_ | (refine R2 ?_; intro _))
    exact sf_ret (rV (bT (eq_end hl (by omega) hi)))
theorem eqShownS_v (h : PHeap) (a b : Value) (xs ys : List Shown) (sx : SlR (shownR τ) h a xs) (sy : SlR (shownR τ) h b ys) : CallV Try.prog M 28 [a, b] h (.bool (decide (xs = ys))) := by
  have o1 := sx.one
  have o2 := sy.one
  obtain ⟨rx, sx, bx⟩ := sx
  obtain ⟨ry, sy, by'⟩ := sy
  have lx := bx.len
  have ly := by'.len
  have hx := sx.small
  have hy := sy.small
  refine calls_of_sf Try.func28 rfl Try.ntmps28 ?_
  simp only [argsL, Nat.reduceAdd]
  repeat (first | refine R1 ?_ | (refine R2 ?_; intro _))
  refine sf_if (fun e0 => ?_) fun e0 => ?_
  · repeat (first | refine R1 ?_ | (refine R2 ?_; intro _))
    exact sf_ret (rV (bF fun e => e0 (by rw [lx, ly, e])))
  have hl : xs.length = ys.length := by omega
  repeat (first | refine R1 ?_ | (refine R2 ?_; intro _))
  refine sf_rd [0, 1] 5 xs.length 0 (fun k => xs.take k = ys.take k) (by omega) rfl (fun k hk hi => ?_)
  repeat (first | refine R1 ?_ | (refine R2 ?_; intro _))
  refine sf_if (fun h4 => ?_) fun h4 => ?_
  · have hk4 : k < xs.length := by omega
    have hk5 : k < ys.length := by omega
    have bx4 := bx.at hk4
    have by4 := by'.at hk5
    have hk6 : k < rx.length := by omega
    have hk7 : k < ry.length := by omega
    repeat (first | refine R1 ?_ | (refine R2 ?_; intro _))
    refine sf_draw (by kernel_rfl) (regX_run [[], [], [0, 1], [0, 1, 2], [], [], [4, 5], [4, 5, 6], [0, 1, 2, 3, 4, 5, 6, 7], [0, 1, 2, 3, 4, 5, 6, 7, 8]] 8 [(0, false), (1, false), (2, false), (3, false), (4, false), (5, false), (6, false), (7, false)] (by kernel_rfl) (by kernel_rfl) (by kernel_rfl) ?_)
    repeat (refine Da1 ?_)
    (refine a_end (by rfl) (by rfl) ?_; simp only [finA, setL, List.drop_succ_cons, List.drop_zero])
    refine fp (y_callV (eqShown_v _ _ _ _ _ bx4 by4) (by rfl) ?_)
    repeat (first | refine R1 ?_ | (refine R2 ?_; intro _))
    refine sf_ifn (fun e1 => ?_) fun e1 => ?_
    · repeat (first | refine R1 ?_ | (refine R2 ?_; intro _))
      exact sf_ret (rV (bF (eq_at e1)))
    · repeat (first | refine R1 ?_ | (refine R2 ?_; intro _))
      exact ⟨⟨hk4, eq_step hk4 hk5 hi (by exact e1)⟩, rfl, rfl, _, inferInstance⟩
  · refine sf_exit ?_
    repeat (first | refine R1 ?_ | (refine R2 ?_; intro _))
    exact sf_ret (rV (bT (eq_end hl (by omega) hi)))
theorem eqKeeper_v (h : PHeap) (ca cb : List Value) (x y : Keeper) (bx : (keeperR τ).B h ca x) (by' : (keeperR τ).B h cb y) : CallV Try.prog M 9 [.agg ca.toArray, .agg cb.toArray] h (.bool (decide (x = y))) := by
  obtain ⟨v_first_cells1, v_edits1, v_parts1, v_shown1, rfl, s_first_cells1, s_edits1, s_parts1, s_shown1⟩ := keeperB bx
  have o_v_first_cells1 := s_first_cells1.one
  have o_v_edits1 := s_edits1.one
  have o_v_parts1 := s_parts1.one
  have o_v_shown1 := s_shown1.one
  obtain ⟨v_first_cells2, v_edits2, v_parts2, v_shown2, rfl, s_first_cells2, s_edits2, s_parts2, s_shown2⟩ := keeperB by'
  have o_v_first_cells2 := s_first_cells2.one
  have o_v_edits2 := s_edits2.one
  have o_v_parts2 := s_parts2.one
  have o_v_shown2 := s_shown2.one
  refine calls_of_sf Try.func9 rfl Try.ntmps9 ?_
  simp only [argsL, Nat.reduceAdd]
  repeat (first | refine R1 ?_ | (refine R2 ?_; intro _))
  refine fp (y_callV (eqGrid_v _ _ _ x.first y.first (gridB_mk s_first_cells1) (gridB_mk s_first_cells2)) (by rfl) ?_)
  repeat (first | refine R1 ?_ | (refine R2 ?_; intro _))
  refine sf_ifn (fun e1 => ?_) fun e1 => ?_
  · repeat (first | refine R1 ?_ | (refine R2 ?_; intro _))
    exact sf_ret (rV (bF fun e => e1 (by rw [e])))
  repeat (first | refine R1 ?_ | (refine R2 ?_; intro _))
  refine fp (y_callV (eqEditS_v _ _ _ _ _ s_edits1 s_edits2) (by rfl) ?_)
  repeat (first | refine R1 ?_ | (refine R2 ?_; intro _))
  refine sf_ifn (fun e2 => ?_) fun e2 => ?_
  · repeat (first | refine R1 ?_ | (refine R2 ?_; intro _))
    exact sf_ret (rV (bF fun e => e2 (by rw [e])))
  repeat (first | refine R1 ?_ | (refine R2 ?_; intro _))
  refine fp (y_callV (eqPartS_v _ _ _ _ _ s_parts1 s_parts2) (by rfl) ?_)
  repeat (first | refine R1 ?_ | (refine R2 ?_; intro _))
  refine sf_ifn (fun e3 => ?_) fun e3 => ?_
  · repeat (first | refine R1 ?_ | (refine R2 ?_; intro _))
    exact sf_ret (rV (bF fun e => e3 (by rw [e])))
  repeat (first | refine R1 ?_ | (refine R2 ?_; intro _))
  refine fp (y_callV (eqShownS_v _ _ _ _ _ s_shown1 s_shown2) (by rfl) ?_)
  repeat (first | refine R1 ?_ | (refine R2 ?_; intro _))
  refine sf_ifn (fun e4 => ?_) fun e4 => ?_
  · repeat (first | refine R1 ?_ | (refine R2 ?_; intro _))
    exact sf_ret (rV (bF fun e => e4 (by rw [e])))
  repeat (first | refine R1 ?_ | (refine R2 ?_; intro _))
  refine sf_ret (rV (bT ?_))
  cases x; cases y; simp_all
end Go.Proofs.Ytcefbjpebgofjaa

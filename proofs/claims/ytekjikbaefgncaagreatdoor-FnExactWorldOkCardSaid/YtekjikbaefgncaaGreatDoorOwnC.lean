/- Walks of the seat: XeA XeB XsA XsB XsP XsC XsW XtA XtB XtP XtC XtW EL. -/
import Derived.Test.YtekjikbaefgncaaGreatDoorOwnB
import Derived.Test.YtekjikbaefgncaaGreatDoorSmH
import Derived.Test.YtekjikbaefgncaaGreatDoorLibC
set_option linter.unusedVariables false
set_option linter.unusedSimpArgs false
set_option linter.unusedSectionVars false
namespace Go.Proofs.YtekjikbaefgncaaGreatDoor
open Go Go.Sl
set_option maxRecDepth 100000
set_option maxHeartbeats 4000000
attribute [local irreducible] Go.Code.sf sfOps Opq opo retF Do1 anyO
variable {M : Jdg → Prop} [IsCl Tryz.prog M]
theorem eqCell_v (h : PHeap) (x y : Cell) : CallV Tryz.prog M 146 [.agg #[.int .i64 x.kind, .int .i64 x.light], .agg #[.int .i64 y.kind, .int .i64 y.light]] h (.bool (decide (x = y))) := by
  refine Cs Tryz.func146 Tryz.ntmps146 ?_
  repeat first | refine R1 ?_ | refine R2 fun _ => ?_
  refine sf_if (fun e1 => ?_) fun e1 => ?_
  · repeat first | refine R1 ?_ | refine R2 fun _ => ?_
    exact sf_ret (rV (bF fun e => e1 (by rw [e])))
  repeat first | refine R1 ?_ | refine R2 fun _ => ?_
  refine sf_if (fun e2 => ?_) fun e2 => ?_
  · repeat first | refine R1 ?_ | refine R2 fun _ => ?_
    exact sf_ret (rV (bF fun e => e2 (by rw [e])))
  repeat first | refine R1 ?_ | refine R2 fun _ => ?_
  refine sf_ret (rV (bT ?_))
  cases x; cases y; simp_all
theorem eqEdit_v (h : PHeap) (x y : Edit) : CallV Tryz.prog M 99 [.agg #[.int .i64 x.at', .int .i64 x.cell.kind, .int .i64 x.cell.light], .agg #[.int .i64 y.at', .int .i64 y.cell.kind, .int .i64 y.cell.light]] h (.bool (decide (x = y))) := by
  refine Cs Tryz.func99 Tryz.ntmps99 ?_
  repeat first | refine R1 ?_ | refine R2 fun _ => ?_
  refine sf_if (fun e1 => ?_) fun e1 => ?_
  · repeat first | refine R1 ?_ | refine R2 fun _ => ?_
    exact sf_ret (rV (bF fun e => e1 (by rw [e])))
  repeat first | refine R1 ?_ | refine R2 fun _ => ?_
  refine Xv (eqCell_v _ x.cell y.cell) ?_
  repeat first | refine R1 ?_ | refine R2 fun _ => ?_
  refine sf_ifn (fun e2 => ?_) fun e2 => ?_
  · repeat first | refine R1 ?_ | refine R2 fun _ => ?_
    exact sf_ret (rV (bF fun e => e2 (by rw [e])))
  repeat first | refine R1 ?_ | refine R2 fun _ => ?_
  refine sf_ret (rV (bT ?_))
  cases x; cases y; simp_all
theorem eqIntS_v (h : PHeap) (a b : Value) (xs ys : List Int) (sx : Sl h a intF xs) (sy : Sl h b intF ys) : CallV Tryz.prog M 100 [a, b] h (.bool (decide (xs = ys))) := by
  have o1 := sx.one
  have o2 := sy.one
  have hx := sx.small
  have hy := sy.small
  refine Cs Tryz.func100 Tryz.ntmps100 ?_
  refine Wo ?_
  refine sf_if (fun e0 => ?_) fun e0 => ?_
  · refine Wo ?_
    exact sf_ret (rV (bF fun e => e0 (by rw [e])))
  have hl : xs.length = ys.length := by omega
  refine Wo ?_
  refine sf_rd [0, 1] 5 xs.length 0 (fun k => xs.take k = ys.take k) (by omega) rfl (fun k hk hi => ?_)
  refine Wo ?_
  refine sf_if (fun h4 => ?_) fun h4 => ?_
  · have hk4 : k < xs.length := by omega
    have hk5 : k < ys.length := by omega
    refine Wo ?_
    refine Sd [[],[],[0,1],[0,1,2],[],[],[4,5],[4,5,6],[0,1,2,3,4,5,6,7]] 8 [Nn 0,Nn 1,Nn 2,Nn 3,Nn 4,Nn 5,Nn 6,Nn 7] ?_
    refine Da ?_
    refine Ae ?_
    refine Wo ?_
    refine sf_if (fun e1 => ?_) fun e1 => ?_
    · refine Wo ?_
      exact sf_ret (rV (bF (eq_at e1)))
    · refine Wo ?_
      exact ⟨⟨hk4, eq_step hk4 hk5 hi (by simpa using e1)⟩, rfl, rfl, _, inferInstance⟩
  · refine sf_exit ?_
    refine Wo ?_
    exact sf_ret (rV (bT (eq_end hl (by omega) hi)))
theorem eqCellS_v (h : PHeap) (a b : Value) (xs ys : List Cell) (sx : Sl h a cellF xs) (sy : Sl h b cellF ys) : CallV Tryz.prog M 76 [a, b] h (.bool (decide (xs = ys))) := by
  have o1 := sx.one
  have o2 := sy.one
  have hx := sx.small
  have hy := sy.small
  refine Cs Tryz.func76 Tryz.ntmps76 ?_
  refine Wo ?_
  refine sf_if (fun e0 => ?_) fun e0 => ?_
  · refine Wo ?_
    exact sf_ret (rV (bF fun e => e0 (by rw [e])))
  have hl : xs.length = ys.length := by omega
  refine Wo ?_
  refine sf_rd [0, 1] 5 xs.length 0 (fun k => xs.take k = ys.take k) (by omega) rfl (fun k hk hi => ?_)
  refine Wo ?_
  refine sf_if (fun h4 => ?_) fun h4 => ?_
  · have hk4 : k < xs.length := by omega
    have hk5 : k < ys.length := by omega
    refine Wo ?_
    refine Sd [[],[],[0,1],[0,1,2],[],[],[4,5],[4,5,6],[0,1,2,3,4,5,6,7],[0,1,2,3,4,5,6,7,8]] 8 [Nn 0,Nn 1,Nn 2,Nn 3,Nn 4,Nn 5,Nn 6,Nn 7] ?_
    refine Da ?_
    refine Ae ?_
    refine Xv (eqCell_v _ (gt xs k) (gt ys k)) ?_
    refine Wo ?_
    refine sf_ifn (fun e1 => ?_) fun e1 => ?_
    · refine Wo ?_
      exact sf_ret (rV (bF (eq_at e1)))
    · refine Wo ?_
      exact ⟨⟨hk4, eq_step hk4 hk5 hi (by exact e1)⟩, rfl, rfl, _, inferInstance⟩
  · refine sf_exit ?_
    refine Wo ?_
    exact sf_ret (rV (bT (eq_end hl (by omega) hi)))
theorem eqEditS_v (h : PHeap) (a b : Value) (xs ys : List Edit) (sx : Sl h a editF xs) (sy : Sl h b editF ys) : CallV Tryz.prog M 71 [a, b] h (.bool (decide (xs = ys))) := by
  have o1 := sx.one
  have o2 := sy.one
  have hx := sx.small
  have hy := sy.small
  refine Cs Tryz.func71 Tryz.ntmps71 ?_
  refine Wo ?_
  refine sf_if (fun e0 => ?_) fun e0 => ?_
  · refine Wo ?_
    exact sf_ret (rV (bF fun e => e0 (by rw [e])))
  have hl : xs.length = ys.length := by omega
  refine Wo ?_
  refine sf_rd [0, 1] 5 xs.length 0 (fun k => xs.take k = ys.take k) (by omega) rfl (fun k hk hi => ?_)
  refine Wo ?_
  refine sf_if (fun h4 => ?_) fun h4 => ?_
  · have hk4 : k < xs.length := by omega
    have hk5 : k < ys.length := by omega
    refine Wo ?_
    refine Sd [[],[],[0,1],[0,1,2],[],[],[4,5],[4,5,6],[0,1,2,3,4,5,6,7],[0,1,2,3,4,5,6,7,8]] 8 [Nn 0,Nn 1,Nn 2,Nn 3,Nn 4,Nn 5,Nn 6,Nn 7] ?_
    refine Da ?_
    refine Ae ?_
    refine Xv (eqEdit_v _ (gt xs k) (gt ys k)) ?_
    refine Wo ?_
    refine sf_ifn (fun e1 => ?_) fun e1 => ?_
    · refine Wo ?_
      exact sf_ret (rV (bF (eq_at e1)))
    · refine Wo ?_
      exact ⟨⟨hk4, eq_step hk4 hk5 hi (by exact e1)⟩, rfl, rfl, _, inferInstance⟩
  · refine sf_exit ?_
    refine Wo ?_
    exact sf_ret (rV (bT (eq_end hl (by omega) hi)))
theorem eqGrid_v (h : PHeap) (ca cb : List Value) (x y : Grid) (bx : (gridR τ).B h ca x) (by' : (gridR τ).B h cb y) : CallV Tryz.prog M 19 [.agg ca.toArray, .agg cb.toArray] h (.bool (decide (x = y))) := by
  obtain ⟨v_cells1, rfl, s_cells1⟩ := gridB bx
  have o_v_cells1 := s_cells1.one
  obtain ⟨v_cells2, rfl, s_cells2⟩ := gridB by'
  have o_v_cells2 := s_cells2.one
  refine Cs Tryz.func19 Tryz.ntmps19 ?_
  repeat first | refine R1 ?_ | refine R2 fun _ => ?_
  refine sf_if (fun e1 => ?_) fun e1 => ?_
  · repeat first | refine R1 ?_ | refine R2 fun _ => ?_
    exact sf_ret (rV (bF fun e => e1 (by rw [e])))
  repeat first | refine R1 ?_ | refine R2 fun _ => ?_
  refine Xv (eqCellS_v _ _ _ _ _ s_cells1 s_cells2) ?_
  repeat first | refine R1 ?_ | refine R2 fun _ => ?_
  refine sf_ifn (fun e2 => ?_) fun e2 => ?_
  · repeat first | refine R1 ?_ | refine R2 fun _ => ?_
    exact sf_ret (rV (bF fun e => e2 (by rw [e])))
  repeat first | refine R1 ?_ | refine R2 fun _ => ?_
  refine sf_ret (rV (bT ?_))
  cases x; cases y; simp_all
theorem eqPart_v (h : PHeap) (ca cb : List Value) (x y : Part) (bx : (partR τ).B h ca x) (by' : (partR τ).B h cb y) : CallV Tryz.prog M 143 [.agg ca.toArray, .agg cb.toArray] h (.bool (decide (x = y))) := by
  obtain ⟨v_lights1, rfl, s_lights1⟩ := partB bx
  have o_v_lights1 := s_lights1.one
  obtain ⟨v_lights2, rfl, s_lights2⟩ := partB by'
  have o_v_lights2 := s_lights2.one
  refine Cs Tryz.func143 Tryz.ntmps143 ?_
  repeat first | refine R1 ?_ | refine R2 fun _ => ?_
  refine sf_ifn (fun e1 => ?_) fun e1 => ?_
  · repeat first | refine R1 ?_ | refine R2 fun _ => ?_
    exact sf_ret (rV (bF fun e => e1 (by rw [e])))
  repeat first | refine R1 ?_ | refine R2 fun _ => ?_
  refine sf_if (fun e2 => ?_) fun e2 => ?_
  · repeat first | refine R1 ?_ | refine R2 fun _ => ?_
    exact sf_ret (rV (bF fun e => e2 (by rw [e])))
  repeat first | refine R1 ?_ | refine R2 fun _ => ?_
  refine Xv (eqIntS_v _ _ _ _ _ s_lights1 s_lights2) ?_
  repeat first | refine R1 ?_ | refine R2 fun _ => ?_
  refine sf_ifn (fun e3 => ?_) fun e3 => ?_
  · repeat first | refine R1 ?_ | refine R2 fun _ => ?_
    exact sf_ret (rV (bF fun e => e3 (by rw [e])))
  repeat first | refine R1 ?_ | refine R2 fun _ => ?_
  refine sf_ret (rV (bT ?_))
  cases x; cases y; simp_all
theorem eqShown_v (h : PHeap) (ca cb : List Value) (x y : Shown) (bx : (shownR τ).B h ca x) (by' : (shownR τ).B h cb y) : CallV Tryz.prog M 144 [.agg ca.toArray, .agg cb.toArray] h (.bool (decide (x = y))) := by
  obtain ⟨v_pic1, rfl, s_pic1⟩ := shownB bx
  have o_v_pic1 := s_pic1.one
  obtain ⟨v_pic2, rfl, s_pic2⟩ := shownB by'
  have o_v_pic2 := s_pic2.one
  refine Cs Tryz.func144 Tryz.ntmps144 ?_
  repeat first | refine R1 ?_ | refine R2 fun _ => ?_
  refine sf_if (fun e1 => ?_) fun e1 => ?_
  · repeat first | refine R1 ?_ | refine R2 fun _ => ?_
    exact sf_ret (rV (bF fun e => e1 (by rw [e])))
  repeat first | refine R1 ?_ | refine R2 fun _ => ?_
  refine Xv (eqIntS_v _ _ _ _ _ s_pic1 s_pic2) ?_
  repeat first | refine R1 ?_ | refine R2 fun _ => ?_
  refine sf_ifn (fun e2 => ?_) fun e2 => ?_
  · repeat first | refine R1 ?_ | refine R2 fun _ => ?_
    exact sf_ret (rV (bF fun e => e2 (by rw [e])))
  repeat first | refine R1 ?_ | refine R2 fun _ => ?_
  refine sf_ret (rV (bT ?_))
  cases x; cases y; simp_all
theorem eqPartS_v (h : PHeap) (a b : Value) (xs ys : List Part) (sx : SlR (partR τ) h a xs) (sy : SlR (partR τ) h b ys) : CallV Tryz.prog M 72 [a, b] h (.bool (decide (xs = ys))) := by
  have o1 := sx.one
  have o2 := sy.one
  obtain ⟨rx, sx, bx⟩ := sx
  obtain ⟨ry, sy, by'⟩ := sy
  have lx := bx.len
  have ly := by'.len
  have hx := sx.small
  have hy := sy.small
  refine Cs Tryz.func72 Tryz.ntmps72 ?_
  refine Wo ?_
  refine sf_if (fun e0 => ?_) fun e0 => ?_
  · refine Wo ?_
    exact sf_ret (rV (bF fun e => e0 (by rw [lx, ly, e])))
  have hl : xs.length = ys.length := by omega
  refine Wo ?_
  refine sf_rd [0, 1] 5 xs.length 0 (fun k => xs.take k = ys.take k) (by omega) rfl (fun k hk hi => ?_)
  refine Wo ?_
  refine sf_if (fun h4 => ?_) fun h4 => ?_
  · have hk4 : k < xs.length := by omega
    have hk5 : k < ys.length := by omega
    have bx4 := bx.at hk4
    have by4 := by'.at hk5
    have hk6 : k < rx.length := by omega
    have hk7 : k < ry.length := by omega
    refine Wo ?_
    refine Sd [[],[],[0,1],[0,1,2],[],[],[4,5],[4,5,6],[0,1,2,3,4,5,6,7],[0,1,2,3,4,5,6,7,8]] 8 [Nn 0,Nn 1,Nn 2,Nn 3,Nn 4,Nn 5,Nn 6,Nn 7] ?_
    refine Da ?_
    refine Ae ?_
    refine Xv (eqPart_v _ _ _ _ _ bx4 by4) ?_
    refine Wo ?_
    refine sf_ifn (fun e1 => ?_) fun e1 => ?_
    · refine Wo ?_
      exact sf_ret (rV (bF (eq_at e1)))
    · refine Wo ?_
      exact ⟨⟨hk4, eq_step hk4 hk5 hi (by exact e1)⟩, rfl, rfl, _, inferInstance⟩
  · refine sf_exit ?_
    refine Wo ?_
    exact sf_ret (rV (bT (eq_end hl (by omega) hi)))
theorem eqShownS_v (h : PHeap) (a b : Value) (xs ys : List Shown) (sx : SlR (shownR τ) h a xs) (sy : SlR (shownR τ) h b ys) : CallV Tryz.prog M 73 [a, b] h (.bool (decide (xs = ys))) := by
  have o1 := sx.one
  have o2 := sy.one
  obtain ⟨rx, sx, bx⟩ := sx
  obtain ⟨ry, sy, by'⟩ := sy
  have lx := bx.len
  have ly := by'.len
  have hx := sx.small
  have hy := sy.small
  refine Cs Tryz.func73 Tryz.ntmps73 ?_
  refine Wo ?_
  refine sf_if (fun e0 => ?_) fun e0 => ?_
  · refine Wo ?_
    exact sf_ret (rV (bF fun e => e0 (by rw [lx, ly, e])))
  have hl : xs.length = ys.length := by omega
  refine Wo ?_
  refine sf_rd [0, 1] 5 xs.length 0 (fun k => xs.take k = ys.take k) (by omega) rfl (fun k hk hi => ?_)
  refine Wo ?_
  refine sf_if (fun h4 => ?_) fun h4 => ?_
  · have hk4 : k < xs.length := by omega
    have hk5 : k < ys.length := by omega
    have bx4 := bx.at hk4
    have by4 := by'.at hk5
    have hk6 : k < rx.length := by omega
    have hk7 : k < ry.length := by omega
    refine Wo ?_
    refine Sd [[],[],[0,1],[0,1,2],[],[],[4,5],[4,5,6],[0,1,2,3,4,5,6,7],[0,1,2,3,4,5,6,7,8]] 8 [Nn 0,Nn 1,Nn 2,Nn 3,Nn 4,Nn 5,Nn 6,Nn 7] ?_
    refine Da ?_
    refine Ae ?_
    refine Xv (eqShown_v _ _ _ _ _ bx4 by4) ?_
    refine Wo ?_
    refine sf_ifn (fun e1 => ?_) fun e1 => ?_
    · refine Wo ?_
      exact sf_ret (rV (bF (eq_at e1)))
    · refine Wo ?_
      exact ⟨⟨hk4, eq_step hk4 hk5 hi (by exact e1)⟩, rfl, rfl, _, inferInstance⟩
  · refine sf_exit ?_
    refine Wo ?_
    exact sf_ret (rV (bT (eq_end hl (by omega) hi)))
theorem eqKeeper_v (h : PHeap) (ca cb : List Value) (x y : Keeper) (bx : (keeperR τ).B h ca x) (by' : (keeperR τ).B h cb y) : CallV Tryz.prog M 16 [.agg ca.toArray, .agg cb.toArray] h (.bool (decide (x = y))) := by
  obtain ⟨v_first_cells1, v_edits1, v_parts1, v_shown1, rfl, s_first_cells1, s_edits1, s_parts1, s_shown1⟩ := keeperB bx
  have o_v_first_cells1 := s_first_cells1.one
  have o_v_edits1 := s_edits1.one
  have o_v_parts1 := s_parts1.one
  have o_v_shown1 := s_shown1.one
  obtain ⟨v_first_cells2, v_edits2, v_parts2, v_shown2, rfl, s_first_cells2, s_edits2, s_parts2, s_shown2⟩ := keeperB by'
  have o_v_first_cells2 := s_first_cells2.one
  have o_v_edits2 := s_edits2.one
  have o_v_parts2 := s_parts2.one
  have o_v_shown2 := s_shown2.one
  refine Cs Tryz.func16 Tryz.ntmps16 ?_
  repeat first | refine R1 ?_ | refine R2 fun _ => ?_
  refine Xv (eqGrid_v _ _ _ x.first y.first (gridB_mk s_first_cells1) (gridB_mk s_first_cells2)) ?_
  repeat first | refine R1 ?_ | refine R2 fun _ => ?_
  refine sf_ifn (fun e1 => ?_) fun e1 => ?_
  · repeat first | refine R1 ?_ | refine R2 fun _ => ?_
    exact sf_ret (rV (bF fun e => e1 (by rw [e])))
  repeat first | refine R1 ?_ | refine R2 fun _ => ?_
  refine Xv (eqEditS_v _ _ _ _ _ s_edits1 s_edits2) ?_
  repeat first | refine R1 ?_ | refine R2 fun _ => ?_
  refine sf_ifn (fun e2 => ?_) fun e2 => ?_
  · repeat first | refine R1 ?_ | refine R2 fun _ => ?_
    exact sf_ret (rV (bF fun e => e2 (by rw [e])))
  repeat first | refine R1 ?_ | refine R2 fun _ => ?_
  refine Xv (eqPartS_v _ _ _ _ _ s_parts1 s_parts2) ?_
  repeat first | refine R1 ?_ | refine R2 fun _ => ?_
  refine sf_ifn (fun e3 => ?_) fun e3 => ?_
  · repeat first | refine R1 ?_ | refine R2 fun _ => ?_
    exact sf_ret (rV (bF fun e => e3 (by rw [e])))
  repeat first | refine R1 ?_ | refine R2 fun _ => ?_
  refine Xv (eqShownS_v _ _ _ _ _ s_shown1 s_shown2) ?_
  repeat first | refine R1 ?_ | refine R2 fun _ => ?_
  refine sf_ifn (fun e4 => ?_) fun e4 => ?_
  · repeat first | refine R1 ?_ | refine R2 fun _ => ?_
    exact sf_ret (rV (bF fun e => e4 (by rw [e])))
  repeat first | refine R1 ?_ | refine R2 fun _ => ?_
  refine sf_ret (rV (bT ?_))
  cases x; cases y; simp_all
theorem eqIntSS_v (h : PHeap) (a b : Value) (xs ys : List (List Int)) (sx : SlR (intSR τ) h a xs) (sy : SlR (intSR τ) h b ys) : CallV Tryz.prog M 229 [a, b] h (.bool (decide (xs = ys))) := by
  have o1 := sx.one
  have o2 := sy.one
  obtain ⟨rx, sx, bx⟩ := sx
  obtain ⟨ry, sy, by'⟩ := sy
  have lx := bx.len
  have ly := by'.len
  have hx := sx.small
  have hy := sy.small
  refine Cs Tryz.func229 Tryz.ntmps229 ?_
  refine Wo ?_
  refine sf_if (fun e0 => ?_) fun e0 => ?_
  · refine Wo ?_
    exact sf_ret (rV (bF fun e => e0 (by rw [lx, ly, e])))
  have hl : xs.length = ys.length := by omega
  refine Wo ?_
  refine sf_rd [0, 1] 5 xs.length 0 (fun k => xs.take k = ys.take k) (by omega) rfl (fun k hk hi => ?_)
  refine Wo ?_
  refine sf_if (fun h4 => ?_) fun h4 => ?_
  · have hk4 : k < xs.length := by omega
    have hk5 : k < ys.length := by omega
    have bx4 := bx.at hk4
    have by4 := by'.at hk5
    have hk6 : k < rx.length := by omega
    have hk7 : k < ry.length := by omega
    obtain ⟨vx, ex, sx4⟩ := bx4
    obtain ⟨vy, ey, sy4⟩ := by4
    haveI : FlatV (rawF (intSR τ).sz) (gt rx k) [vx] := ⟨ex⟩
    haveI : FlatV (rawF (intSR τ).sz) (gt ry k) [vy] := ⟨ey⟩
    refine Wo ?_
    refine Sd [[],[],[0,1],[0,1,2],[],[],[4,5],[4,5,6],[0,1,2,3,4,5,6,7],[0,1,2,3,4,5,6,7,8]] 8 [Nn 0,Nn 1,Nn 2,Nn 3,Nn 4,Nn 5,Nn 6,Nn 7] ?_
    refine Da ?_
    refine Ae ?_
    refine Xv (eqIntS_v _ _ _ _ _ sx4 sy4) ?_
    refine Wo ?_
    refine sf_ifn (fun e1 => ?_) fun e1 => ?_
    · refine Wo ?_
      exact sf_ret (rV (bF (eq_at e1)))
    · refine Wo ?_
      exact ⟨⟨hk4, eq_step hk4 hk5 hi (by exact e1)⟩, rfl, rfl, _, inferInstance⟩
  · refine sf_exit ?_
    refine Wo ?_
    exact sf_ret (rV (bT (eq_end hl (by omega) hi)))
theorem eqScene_v (h : PHeap) (ca cb : List Value) (x y : Scene) (bx : (sceneR τ).B h ca x) (by' : (sceneR τ).B h cb y) : CallV Tryz.prog M 203 [.agg ca.toArray, .agg cb.toArray] h (.bool (decide (x = y))) := by
  obtain ⟨v_grid_cells1, v_lights1, v_feet1, rfl, s_grid_cells1, s_lights1, s_feet1⟩ := sceneB bx
  have o_v_grid_cells1 := s_grid_cells1.one
  have o_v_lights1 := s_lights1.one
  have o_v_feet1 := s_feet1.one
  obtain ⟨v_grid_cells2, v_lights2, v_feet2, rfl, s_grid_cells2, s_lights2, s_feet2⟩ := sceneB by'
  have o_v_grid_cells2 := s_grid_cells2.one
  have o_v_lights2 := s_lights2.one
  have o_v_feet2 := s_feet2.one
  refine Cs Tryz.func203 Tryz.ntmps203 ?_
  repeat first | refine R1 ?_ | refine R2 fun _ => ?_
  refine Xv (eqGrid_v _ _ _ x.grid y.grid (gridB_mk s_grid_cells1) (gridB_mk s_grid_cells2)) ?_
  repeat first | refine R1 ?_ | refine R2 fun _ => ?_
  refine sf_ifn (fun e1 => ?_) fun e1 => ?_
  · repeat first | refine R1 ?_ | refine R2 fun _ => ?_
    exact sf_ret (rV (bF fun e => e1 (by rw [e])))
  repeat first | refine R1 ?_ | refine R2 fun _ => ?_
  refine Xv (eqIntS_v _ _ _ _ _ s_lights1 s_lights2) ?_
  repeat first | refine R1 ?_ | refine R2 fun _ => ?_
  refine sf_ifn (fun e2 => ?_) fun e2 => ?_
  · repeat first | refine R1 ?_ | refine R2 fun _ => ?_
    exact sf_ret (rV (bF fun e => e2 (by rw [e])))
  repeat first | refine R1 ?_ | refine R2 fun _ => ?_
  refine Xv (eqIntSS_v _ _ _ _ _ s_feet1 s_feet2) ?_
  repeat first | refine R1 ?_ | refine R2 fun _ => ?_
  refine sf_ifn (fun e3 => ?_) fun e3 => ?_
  · repeat first | refine R1 ?_ | refine R2 fun _ => ?_
    exact sf_ret (rV (bF fun e => e3 (by rw [e])))
  repeat first | refine R1 ?_ | refine R2 fun _ => ?_
  refine sf_ret (rV (bT ?_))
  cases x; cases y; simp_all
theorem eqPainter_v (h : PHeap) (ca cb : List Value) (x y : Painter) (bx : (painterR τ).B h ca x) (by' : (painterR τ).B h cb y) : CallV Tryz.prog M 159 [.agg ca.toArray, .agg cb.toArray] h (.bool (decide (x = y))) := by
  obtain ⟨v_scene_grid_cells1, v_scene_lights1, v_scene_feet1, rfl, s_scene_grid_cells1, s_scene_lights1, s_scene_feet1⟩ := painterB bx
  have o_v_scene_grid_cells1 := s_scene_grid_cells1.one
  have o_v_scene_lights1 := s_scene_lights1.one
  have o_v_scene_feet1 := s_scene_feet1.one
  obtain ⟨v_scene_grid_cells2, v_scene_lights2, v_scene_feet2, rfl, s_scene_grid_cells2, s_scene_lights2, s_scene_feet2⟩ := painterB by'
  have o_v_scene_grid_cells2 := s_scene_grid_cells2.one
  have o_v_scene_lights2 := s_scene_lights2.one
  have o_v_scene_feet2 := s_scene_feet2.one
  refine Cs Tryz.func159 Tryz.ntmps159 ?_
  repeat first | refine R1 ?_ | refine R2 fun _ => ?_
  refine sf_ifn (fun e1 => ?_) fun e1 => ?_
  · repeat first | refine R1 ?_ | refine R2 fun _ => ?_
    exact sf_ret (rV (bF fun e => e1 (by rw [e])))
  repeat first | refine R1 ?_ | refine R2 fun _ => ?_
  refine sf_ifn (fun e2 => ?_) fun e2 => ?_
  · repeat first | refine R1 ?_ | refine R2 fun _ => ?_
    exact sf_ret (rV (bF fun e => e2 (by rw [e])))
  repeat first | refine R1 ?_ | refine R2 fun _ => ?_
  refine sf_if (fun e3 => ?_) fun e3 => ?_
  · repeat first | refine R1 ?_ | refine R2 fun _ => ?_
    exact sf_ret (rV (bF fun e => e3 (by rw [e])))
  repeat first | refine R1 ?_ | refine R2 fun _ => ?_
  refine Xv (eqScene_v _ _ _ x.scene y.scene (sceneB_mk s_scene_grid_cells1 s_scene_lights1 s_scene_feet1) (sceneB_mk s_scene_grid_cells2 s_scene_lights2 s_scene_feet2)) ?_
  repeat first | refine R1 ?_ | refine R2 fun _ => ?_
  refine sf_ifn (fun e4 => ?_) fun e4 => ?_
  · repeat first | refine R1 ?_ | refine R2 fun _ => ?_
    exact sf_ret (rV (bF fun e => e4 (by rw [e])))
  repeat first | refine R1 ?_ | refine R2 fun _ => ?_
  refine sf_ret (rV (bT ?_))
  cases x; cases y; simp_all
theorem eqWord_v (h : PHeap) (ca cb : List Value) (x y : Word) (bx : (wordR τ).B h ca x) (by' : (wordR τ).B h cb y) : CallV Tryz.prog M 36 [.agg ca.toArray, .agg cb.toArray] h (.bool (decide (x = y))) := by
  obtain ⟨v_grid_cells1, v_lights1, rfl, s_grid_cells1, s_lights1⟩ := wordB bx
  have o_v_grid_cells1 := s_grid_cells1.one
  have o_v_lights1 := s_lights1.one
  obtain ⟨v_grid_cells2, v_lights2, rfl, s_grid_cells2, s_lights2⟩ := wordB by'
  have o_v_grid_cells2 := s_grid_cells2.one
  have o_v_lights2 := s_lights2.one
  refine Cs Tryz.func36 Tryz.ntmps36 ?_
  repeat first | refine R1 ?_ | refine R2 fun _ => ?_
  refine sf_if (fun e1 => ?_) fun e1 => ?_
  · repeat first | refine R1 ?_ | refine R2 fun _ => ?_
    exact sf_ret (rV (bF fun e => e1 (by rw [e])))
  repeat first | refine R1 ?_ | refine R2 fun _ => ?_
  refine sf_if (fun e2 => ?_) fun e2 => ?_
  · repeat first | refine R1 ?_ | refine R2 fun _ => ?_
    exact sf_ret (rV (bF fun e => e2 (by rw [e])))
  repeat first | refine R1 ?_ | refine R2 fun _ => ?_
  refine sf_if (fun e3 => ?_) fun e3 => ?_
  · repeat first | refine R1 ?_ | refine R2 fun _ => ?_
    exact sf_ret (rV (bF fun e => e3 (by rw [e])))
  repeat first | refine R1 ?_ | refine R2 fun _ => ?_
  refine sf_if (fun e4 => ?_) fun e4 => ?_
  · repeat first | refine R1 ?_ | refine R2 fun _ => ?_
    exact sf_ret (rV (bF fun e => e4 (by rw [e])))
  repeat first | refine R1 ?_ | refine R2 fun _ => ?_
  refine Xv (eqGrid_v _ _ _ x.grid y.grid (gridB_mk s_grid_cells1) (gridB_mk s_grid_cells2)) ?_
  repeat first | refine R1 ?_ | refine R2 fun _ => ?_
  refine sf_ifn (fun e5 => ?_) fun e5 => ?_
  · repeat first | refine R1 ?_ | refine R2 fun _ => ?_
    exact sf_ret (rV (bF fun e => e5 (by rw [e])))
  repeat first | refine R1 ?_ | refine R2 fun _ => ?_
  refine Xv (eqEdit_v _ x.edit y.edit) ?_
  repeat first | refine R1 ?_ | refine R2 fun _ => ?_
  refine sf_ifn (fun e6 => ?_) fun e6 => ?_
  · repeat first | refine R1 ?_ | refine R2 fun _ => ?_
    exact sf_ret (rV (bF fun e => e6 (by rw [e])))
  repeat first | refine R1 ?_ | refine R2 fun _ => ?_
  refine Xv (eqIntS_v _ _ _ _ _ s_lights1 s_lights2) ?_
  repeat first | refine R1 ?_ | refine R2 fun _ => ?_
  refine sf_ifn (fun e7 => ?_) fun e7 => ?_
  · repeat first | refine R1 ?_ | refine R2 fun _ => ?_
    exact sf_ret (rV (bF fun e => e7 (by rw [e])))
  repeat first | refine R1 ?_ | refine R2 fun _ => ?_
  refine sf_ret (rV (bT ?_))
  cases x; cases y; simp_all
theorem eqPainterS_v (h : PHeap) (a b : Value) (xs ys : List Painter) (sx : SlR (painterR τ) h a xs) (sy : SlR (painterR τ) h b ys) : CallV Tryz.prog M 90 [a, b] h (.bool (decide (xs = ys))) := by
  have o1 := sx.one
  have o2 := sy.one
  obtain ⟨rx, sx, bx⟩ := sx
  obtain ⟨ry, sy, by'⟩ := sy
  have lx := bx.len
  have ly := by'.len
  have hx := sx.small
  have hy := sy.small
  refine Cs Tryz.func90 Tryz.ntmps90 ?_
  refine Wo ?_
  refine sf_if (fun e0 => ?_) fun e0 => ?_
  · refine Wo ?_
    exact sf_ret (rV (bF fun e => e0 (by rw [lx, ly, e])))
  have hl : xs.length = ys.length := by omega
  refine Wo ?_
  refine sf_rd [0, 1] 5 xs.length 0 (fun k => xs.take k = ys.take k) (by omega) rfl (fun k hk hi => ?_)
  refine Wo ?_
  refine sf_if (fun h4 => ?_) fun h4 => ?_
  · have hk4 : k < xs.length := by omega
    have hk5 : k < ys.length := by omega
    have bx4 := bx.at hk4
    have by4 := by'.at hk5
    have hk6 : k < rx.length := by omega
    have hk7 : k < ry.length := by omega
    refine Wo ?_
    refine Sd [[],[],[0,1],[0,1,2],[],[],[4,5],[4,5,6],[0,1,2,3,4,5,6,7],[0,1,2,3,4,5,6,7,8]] 8 [Nn 0,Nn 1,Nn 2,Nn 3,Nn 4,Nn 5,Nn 6,Nn 7] ?_
    refine Da ?_
    refine Ae ?_
    refine Xv (eqPainter_v _ _ _ _ _ bx4 by4) ?_
    refine Wo ?_
    refine sf_ifn (fun e1 => ?_) fun e1 => ?_
    · refine Wo ?_
      exact sf_ret (rV (bF (eq_at e1)))
    · refine Wo ?_
      exact ⟨⟨hk4, eq_step hk4 hk5 hi (by exact e1)⟩, rfl, rfl, _, inferInstance⟩
  · refine sf_exit ?_
    refine Wo ?_
    exact sf_ret (rV (bT (eq_end hl (by omega) hi)))
theorem eqWordS_v (h : PHeap) (a b : Value) (xs ys : List Word) (sx : SlR (wordR τ) h a xs) (sy : SlR (wordR τ) h b ys) : CallV Tryz.prog M 91 [a, b] h (.bool (decide (xs = ys))) := by
  have o1 := sx.one
  have o2 := sy.one
  obtain ⟨rx, sx, bx⟩ := sx
  obtain ⟨ry, sy, by'⟩ := sy
  have lx := bx.len
  have ly := by'.len
  have hx := sx.small
  have hy := sy.small
  refine Cs Tryz.func91 Tryz.ntmps91 ?_
  refine Wo ?_
  refine sf_if (fun e0 => ?_) fun e0 => ?_
  · refine Wo ?_
    exact sf_ret (rV (bF fun e => e0 (by rw [lx, ly, e])))
  have hl : xs.length = ys.length := by omega
  refine Wo ?_
  refine sf_rd [0, 1] 5 xs.length 0 (fun k => xs.take k = ys.take k) (by omega) rfl (fun k hk hi => ?_)
  refine Wo ?_
  refine sf_if (fun h4 => ?_) fun h4 => ?_
  · have hk4 : k < xs.length := by omega
    have hk5 : k < ys.length := by omega
    have bx4 := bx.at hk4
    have by4 := by'.at hk5
    have hk6 : k < rx.length := by omega
    have hk7 : k < ry.length := by omega
    refine Wo ?_
    refine Sd [[],[],[0,1],[0,1,2],[],[],[4,5],[4,5,6],[0,1,2,3,4,5,6,7],[0,1,2,3,4,5,6,7,8]] 8 [Nn 0,Nn 1,Nn 2,Nn 3,Nn 4,Nn 5,Nn 6,Nn 7] ?_
    refine Da ?_
    refine Ae ?_
    refine Xv (eqWord_v _ _ _ _ _ bx4 by4) ?_
    refine Wo ?_
    refine sf_ifn (fun e1 => ?_) fun e1 => ?_
    · refine Wo ?_
      exact sf_ret (rV (bF (eq_at e1)))
    · refine Wo ?_
      exact ⟨⟨hk4, eq_step hk4 hk5 hi (by exact e1)⟩, rfl, rfl, _, inferInstance⟩
  · refine sf_exit ?_
    refine Wo ?_
    exact sf_ret (rV (bT (eq_end hl (by omega) hi)))
theorem eqWorld_v (h : PHeap) (ca cb : List Value) (x y : World') (bx : (worldR τ).B h ca x) (by' : (worldR τ).B h cb y) : CallV Tryz.prog M 29 [.agg ca.toArray, .agg cb.toArray] h (.bool (decide (x = y))) := by
  obtain ⟨v_keeper_first_cells1, v_keeper_edits1, v_keeper_parts1, v_keeper_shown1, v_painters1, v_nets1, rfl, s_keeper_first_cells1, s_keeper_edits1, s_keeper_parts1, s_keeper_shown1, s_painters1, s_nets1⟩ := worldB bx
  have o_v_keeper_first_cells1 := s_keeper_first_cells1.one
  have o_v_keeper_edits1 := s_keeper_edits1.one
  have o_v_keeper_parts1 := s_keeper_parts1.one
  have o_v_keeper_shown1 := s_keeper_shown1.one
  have o_v_painters1 := s_painters1.one
  have o_v_nets1 := s_nets1.one
  obtain ⟨v_keeper_first_cells2, v_keeper_edits2, v_keeper_parts2, v_keeper_shown2, v_painters2, v_nets2, rfl, s_keeper_first_cells2, s_keeper_edits2, s_keeper_parts2, s_keeper_shown2, s_painters2, s_nets2⟩ := worldB by'
  have o_v_keeper_first_cells2 := s_keeper_first_cells2.one
  have o_v_keeper_edits2 := s_keeper_edits2.one
  have o_v_keeper_parts2 := s_keeper_parts2.one
  have o_v_keeper_shown2 := s_keeper_shown2.one
  have o_v_painters2 := s_painters2.one
  have o_v_nets2 := s_nets2.one
  refine Cs Tryz.func29 Tryz.ntmps29 ?_
  repeat first | refine R1 ?_ | refine R2 fun _ => ?_
  refine Xv (eqKeeper_v _ _ _ x.keeper y.keeper (keeperB_mk s_keeper_first_cells1 s_keeper_edits1 s_keeper_parts1 s_keeper_shown1) (keeperB_mk s_keeper_first_cells2 s_keeper_edits2 s_keeper_parts2 s_keeper_shown2)) ?_
  repeat first | refine R1 ?_ | refine R2 fun _ => ?_
  refine sf_ifn (fun e1 => ?_) fun e1 => ?_
  · repeat first | refine R1 ?_ | refine R2 fun _ => ?_
    exact sf_ret (rV (bF fun e => e1 (by rw [e])))
  repeat first | refine R1 ?_ | refine R2 fun _ => ?_
  refine Xv (eqPainterS_v _ _ _ _ _ s_painters1 s_painters2) ?_
  repeat first | refine R1 ?_ | refine R2 fun _ => ?_
  refine sf_ifn (fun e2 => ?_) fun e2 => ?_
  · repeat first | refine R1 ?_ | refine R2 fun _ => ?_
    exact sf_ret (rV (bF fun e => e2 (by rw [e])))
  repeat first | refine R1 ?_ | refine R2 fun _ => ?_
  refine Xv (eqWordS_v _ _ _ _ _ s_nets1 s_nets2) ?_
  repeat first | refine R1 ?_ | refine R2 fun _ => ?_
  refine sf_ifn (fun e3 => ?_) fun e3 => ?_
  · repeat first | refine R1 ?_ | refine R2 fun _ => ?_
    exact sf_ret (rV (bF fun e => e3 (by rw [e])))
  repeat first | refine R1 ?_ | refine R2 fun _ => ?_
  refine sf_ret (rV (bT ?_))
  cases x; cases y; simp_all
end Go.Proofs.YtekjikbaefgncaaGreatDoor
namespace Go.Proofs.YtekjikbaefgncaaGreatDoor
open Go Go.Sl
set_option maxRecDepth 100000
set_option maxHeartbeats 4000000
attribute [local irreducible] Go.Code.sf sfOps Opq opo retF Do1 anyO
variable {M : Jdg → Prop} [IsCl Tryz.prog M]
attribute [local irreducible] szF
theorem szCellS_v (h : PHeap) (a : Value) (xs : List Cell) (s : Sl h a cellF xs) (left : Int) (h0 : 0 ≤ left) (h1 : left ≤ 1048576) : CallV Tryz.prog M 82 [a, .int .i64 left] h (.int .i64 (szF xs.length left)) := by
  have o1 := s.one
  have hs := s.small
  refine Cs Tryz.func82 Tryz.ntmps82 ?_
  refine Wo ?_
  refine sf_if (fun e => ?_) fun e => ?_
  · refine Wo ?_
    exact sf_ret (rV (by rw [szF_neg e]))
  · refine Wo ?_
    exact sf_ret (rV (by rw [szF_pos e]))
theorem szGrid_v (h : PHeap) (ca : List Value) (x : Grid) (b : (gridR τ).B h ca x) (left : Int) (h0 : 0 ≤ left) (h1 : left ≤ 1048576) : CallV Tryz.prog M 23 [.agg ca.toArray, .int .i64 left] h (.int .i64 (szF (szGridN x) left)) := by
  obtain ⟨v_cells1, rfl, s_cells1⟩ := gridB b
  have o_v_cells1 := s_cells1.one
  refine Cs Tryz.func23 Tryz.ntmps23 ?_
  repeat first | refine R1 ?_ | refine R2 fun _ => ?_
  refine Xv (szCellS_v _ _ _ s_cells1 _ h0 h1) ?_
  repeat first | refine R1 ?_ | refine R2 fun _ => ?_
  refine sf_if (fun e1 => ?_) fun e1 => ?_
  · repeat first | refine R1 ?_ | refine R2 fun _ => ?_
    refine sf_ret (rV ?_)
    have q := szF_stop (b := 0) e1
    simp only [szGridN, szGridN, szSceneN, Nat.add_assoc, Nat.add_zero] at q ⊢
    rw [q]
  have g1 := szF_ge e1
  have f1 := szF_le (a := x.cells.length) h0
  have b1a : 0 ≤ szF (x.cells.length) (left) := by omega
  have b1b : szF (x.cells.length) (left) ≤ 1048576 := by omega
  repeat first | refine R1 ?_ | refine R2 fun _ => ?_
  refine sf_ret (rV ?_)
  first | rfl | simp only [szGridN, szGridN, szSceneN, Nat.add_assoc]
theorem szEditS_v (h : PHeap) (a : Value) (xs : List Edit) (s : Sl h a editF xs) (left : Int) (h0 : 0 ≤ left) (h1 : left ≤ 1048576) : CallV Tryz.prog M 56 [a, .int .i64 left] h (.int .i64 (szF xs.length left)) := by
  have o1 := s.one
  have hs := s.small
  refine Cs Tryz.func56 Tryz.ntmps56 ?_
  refine Wo ?_
  refine sf_if (fun e => ?_) fun e => ?_
  · refine Wo ?_
    exact sf_ret (rV (by rw [szF_neg e]))
  · refine Wo ?_
    exact sf_ret (rV (by rw [szF_pos e]))
theorem szIntS_v (h : PHeap) (a : Value) (xs : List Int) (s : Sl h a intF xs) (left : Int) (h0 : 0 ≤ left) (h1 : left ≤ 1048576) : CallV Tryz.prog M 118 [a, .int .i64 left] h (.int .i64 (szF xs.length left)) := by
  have o1 := s.one
  have hs := s.small
  refine Cs Tryz.func118 Tryz.ntmps118 ?_
  refine Wo ?_
  refine sf_if (fun e => ?_) fun e => ?_
  · refine Wo ?_
    exact sf_ret (rV (by rw [szF_neg e]))
  · refine Wo ?_
    exact sf_ret (rV (by rw [szF_pos e]))
theorem szPart_v (h : PHeap) (ca : List Value) (x : Part) (b : (partR τ).B h ca x) (left : Int) (h0 : 0 ≤ left) (h1 : left ≤ 1048576) : CallV Tryz.prog M 127 [.agg ca.toArray, .int .i64 left] h (.int .i64 (szF (szPartN x) left)) := by
  obtain ⟨v_lights1, rfl, s_lights1⟩ := partB b
  have o_v_lights1 := s_lights1.one
  refine Cs Tryz.func127 Tryz.ntmps127 ?_
  repeat first | refine R1 ?_ | refine R2 fun _ => ?_
  refine Xv (szIntS_v _ _ _ s_lights1 _ h0 h1) ?_
  repeat first | refine R1 ?_ | refine R2 fun _ => ?_
  refine sf_if (fun e1 => ?_) fun e1 => ?_
  · repeat first | refine R1 ?_ | refine R2 fun _ => ?_
    refine sf_ret (rV ?_)
    have q := szF_stop (b := 0) e1
    simp only [szPartN, szGridN, szSceneN, Nat.add_assoc, Nat.add_zero] at q ⊢
    rw [q]
  have g1 := szF_ge e1
  have f1 := szF_le (a := x.lights.length) h0
  have b1a : 0 ≤ szF (x.lights.length) (left) := by omega
  have b1b : szF (x.lights.length) (left) ≤ 1048576 := by omega
  repeat first | refine R1 ?_ | refine R2 fun _ => ?_
  refine sf_ret (rV ?_)
  first | rfl | simp only [szPartN, szGridN, szSceneN, Nat.add_assoc]
theorem szPartS_v (h : PHeap) (a : Value) (xs : List Part) (s : SlR (partR τ) h a xs) (left : Int) (h0 : 0 ≤ left) (h1 : left ≤ 1048576) : CallV Tryz.prog M 57 [a, .int .i64 left] h (.int .i64 (szF (szPartSN xs) left)) := by
  have o1 := s.one
  obtain ⟨rx, s, b⟩ := s
  have lx := b.len
  have hs := s.small
  refine Cs Tryz.func57 Tryz.ntmps57 ?_
  refine Wo ?_
  refine sf_if (fun e => ?_) fun e => ?_
  · refine Wo ?_
    exact sf_ret (rV (by rw [szPartSN, szF_stop (a := xs.length) (by rw [← lx, szF_neg e]; decide)]))
  refine Wo ?_
  refine sf_lp (ι := Nat × Int) [0] (fun x => [(5, .int .i64 (x.1 : Int)), (1, .int .i64 x.2)]) (fun x O => O = [] ∧ x.1 ≤ xs.length ∧ 0 ≤ x.2 ∧ x.2 ≤ 1048576 ∧ szF (szPartSN xs) left = szF (sizeL szPartN (xs.drop x.1)) x.2) (fun x => xs.length - x.1) (0, left - rx.length) [] ⟨rfl, by simp, by simp only; omega, by simp only; omega, ?_⟩ ?_
  · simp only [szPartSN, List.drop_zero]
    rw [← szF_add (by rw [← lx, szF_pos e]; omega), ← lx, szF_pos e]
  rintro ⟨i, l⟩ O ⟨rfl, hi, hl0, hl1, hinv⟩
  refine Wo ?_
  refine sf_if (fun h4 => ?_) fun h4 => ?_
  · have hi4 : i < xs.length := by simp only at h4 hi; omega
    have hi5 : i < rx.length := by omega
    have b4 := b.at hi4
    simp only at hinv hl0 hl1
    rw [sizeL_drop hi4] at hinv
    refine Wo ?_
    refine Xv (szPart_v _ _ _ b4 _ hl0 hl1) ?_
    refine Wo ?_
    have hle := szF_le (a := szPartN (gt xs i)) hl0
    refine sf_if (fun e1 => ?_) fun e1 => ?_
    · refine Wo ?_
      exact sf_ret (rV (by rw [hinv, szF_stop e1]))
    · refine Wo ?_
      refine ⟨(i + 1, _), by simp only; omega, ⟨rfl, rfl, trivial⟩, rfl, [], _, inferInstance, rfl, by simp only; omega, by simp only; omega, by simp only; omega, ?_⟩
      simp only
      rw [hinv, szF_add e1]
  · refine sf_exit ?_
    refine Wo ?_
    refine sf_ret (rV ?_)
    have : i = xs.length := by simp only at h4 hi; omega
    simp only at hinv hl0
    rw [hinv, this, List.drop_length]
    simp only [sizeL]
    rw [szF_pos (by simp; omega)]; simp
theorem szShown_v (h : PHeap) (ca : List Value) (x : Shown) (b : (shownR τ).B h ca x) (left : Int) (h0 : 0 ≤ left) (h1 : left ≤ 1048576) : CallV Tryz.prog M 128 [.agg ca.toArray, .int .i64 left] h (.int .i64 (szF (szShownN x) left)) := by
  obtain ⟨v_pic1, rfl, s_pic1⟩ := shownB b
  have o_v_pic1 := s_pic1.one
  refine Cs Tryz.func128 Tryz.ntmps128 ?_
  repeat first | refine R1 ?_ | refine R2 fun _ => ?_
  refine Xv (szIntS_v _ _ _ s_pic1 _ h0 h1) ?_
  repeat first | refine R1 ?_ | refine R2 fun _ => ?_
  refine sf_if (fun e1 => ?_) fun e1 => ?_
  · repeat first | refine R1 ?_ | refine R2 fun _ => ?_
    refine sf_ret (rV ?_)
    have q := szF_stop (b := 0) e1
    simp only [szShownN, szGridN, szSceneN, Nat.add_assoc, Nat.add_zero] at q ⊢
    rw [q]
  have g1 := szF_ge e1
  have f1 := szF_le (a := x.pic.length) h0
  have b1a : 0 ≤ szF (x.pic.length) (left) := by omega
  have b1b : szF (x.pic.length) (left) ≤ 1048576 := by omega
  repeat first | refine R1 ?_ | refine R2 fun _ => ?_
  refine sf_ret (rV ?_)
  first | rfl | simp only [szShownN, szGridN, szSceneN, Nat.add_assoc]
theorem szShownS_v (h : PHeap) (a : Value) (xs : List Shown) (s : SlR (shownR τ) h a xs) (left : Int) (h0 : 0 ≤ left) (h1 : left ≤ 1048576) : CallV Tryz.prog M 58 [a, .int .i64 left] h (.int .i64 (szF (szShownSN xs) left)) := by
  have o1 := s.one
  obtain ⟨rx, s, b⟩ := s
  have lx := b.len
  have hs := s.small
  refine Cs Tryz.func58 Tryz.ntmps58 ?_
  refine Wo ?_
  refine sf_if (fun e => ?_) fun e => ?_
  · refine Wo ?_
    exact sf_ret (rV (by rw [szShownSN, szF_stop (a := xs.length) (by rw [← lx, szF_neg e]; decide)]))
  refine Wo ?_
  refine sf_lp (ι := Nat × Int) [0] (fun x => [(5, .int .i64 (x.1 : Int)), (1, .int .i64 x.2)]) (fun x O => O = [] ∧ x.1 ≤ xs.length ∧ 0 ≤ x.2 ∧ x.2 ≤ 1048576 ∧ szF (szShownSN xs) left = szF (sizeL szShownN (xs.drop x.1)) x.2) (fun x => xs.length - x.1) (0, left - rx.length) [] ⟨rfl, by simp, by simp only; omega, by simp only; omega, ?_⟩ ?_
  · simp only [szShownSN, List.drop_zero]
    rw [← szF_add (by rw [← lx, szF_pos e]; omega), ← lx, szF_pos e]
  rintro ⟨i, l⟩ O ⟨rfl, hi, hl0, hl1, hinv⟩
  refine Wo ?_
  refine sf_if (fun h4 => ?_) fun h4 => ?_
  · have hi4 : i < xs.length := by simp only at h4 hi; omega
    have hi5 : i < rx.length := by omega
    have b4 := b.at hi4
    simp only at hinv hl0 hl1
    rw [sizeL_drop hi4] at hinv
    refine Wo ?_
    refine Xv (szShown_v _ _ _ b4 _ hl0 hl1) ?_
    refine Wo ?_
    have hle := szF_le (a := szShownN (gt xs i)) hl0
    refine sf_if (fun e1 => ?_) fun e1 => ?_
    · refine Wo ?_
      exact sf_ret (rV (by rw [hinv, szF_stop e1]))
    · refine Wo ?_
      refine ⟨(i + 1, _), by simp only; omega, ⟨rfl, rfl, trivial⟩, rfl, [], _, inferInstance, rfl, by simp only; omega, by simp only; omega, by simp only; omega, ?_⟩
      simp only
      rw [hinv, szF_add e1]
  · refine sf_exit ?_
    refine Wo ?_
    refine sf_ret (rV ?_)
    have : i = xs.length := by simp only at h4 hi; omega
    simp only at hinv hl0
    rw [hinv, this, List.drop_length]
    simp only [sizeL]
    rw [szF_pos (by simp; omega)]; simp
theorem szKeeper_v (h : PHeap) (ca : List Value) (x : Keeper) (b : (keeperR τ).B h ca x) (left : Int) (h0 : 0 ≤ left) (h1 : left ≤ 1048576) : CallV Tryz.prog M 12 [.agg ca.toArray, .int .i64 left] h (.int .i64 (szF (szKeeperN x) left)) := by
  obtain ⟨v_first_cells1, v_edits1, v_parts1, v_shown1, rfl, s_first_cells1, s_edits1, s_parts1, s_shown1⟩ := keeperB b
  have o_v_first_cells1 := s_first_cells1.one
  have o_v_edits1 := s_edits1.one
  have o_v_parts1 := s_parts1.one
  have o_v_shown1 := s_shown1.one
  refine Cs Tryz.func12 Tryz.ntmps12 ?_
  repeat first | refine R1 ?_ | refine R2 fun _ => ?_
  refine Xv (szGrid_v _ _ x.first (gridB_mk s_first_cells1) _ h0 h1) ?_
  repeat first | refine R1 ?_ | refine R2 fun _ => ?_
  refine sf_if (fun e1 => ?_) fun e1 => ?_
  · repeat first | refine R1 ?_ | refine R2 fun _ => ?_
    refine sf_ret (rV ?_)
    have q := szF_stop (b := x.edits.length + (szPartSN x.parts + (szShownSN x.shown))) e1
    simp only [szKeeperN, szGridN, szSceneN, Nat.add_assoc, Nat.add_zero] at q ⊢
    rw [q]
  have g1 := szF_ge e1
  have f1 := szF_le (a := szGridN x.first) h0
  have b1a : 0 ≤ szF (szGridN x.first) (left) := by omega
  have b1b : szF (szGridN x.first) (left) ≤ 1048576 := by omega
  repeat first | refine R1 ?_ | refine R2 fun _ => ?_
  refine Xv (szEditS_v _ _ _ s_edits1 _ b1a b1b) ?_
  repeat first | refine R1 ?_ | refine R2 fun _ => ?_
  refine sf_if (fun e2 => ?_) fun e2 => ?_
  · repeat first | refine R1 ?_ | refine R2 fun _ => ?_
    refine sf_ret (rV ?_)
    have q := szF_stop (b := szPartSN x.parts + (szShownSN x.shown)) e2
    rw [szF_add e1] at q
    simp only [szKeeperN, szGridN, szSceneN, Nat.add_assoc, Nat.add_zero] at q ⊢
    rw [q]
  have g2 := szF_ge e2
  have f2 := szF_le (a := x.edits.length) b1a
  have b2a : 0 ≤ szF (x.edits.length) (szF (szGridN x.first) (left)) := by omega
  have b2b : szF (x.edits.length) (szF (szGridN x.first) (left)) ≤ 1048576 := by omega
  repeat first | refine R1 ?_ | refine R2 fun _ => ?_
  refine Xv (szPartS_v _ _ _ s_parts1 _ b2a b2b) ?_
  repeat first | refine R1 ?_ | refine R2 fun _ => ?_
  refine sf_if (fun e3 => ?_) fun e3 => ?_
  · repeat first | refine R1 ?_ | refine R2 fun _ => ?_
    refine sf_ret (rV ?_)
    have q := szF_stop (b := szShownSN x.shown) e3
    rw [szF_add e2] at q
    rw [szF_add e1] at q
    simp only [szKeeperN, szGridN, szSceneN, Nat.add_assoc, Nat.add_zero] at q ⊢
    rw [q]
  have g3 := szF_ge e3
  have f3 := szF_le (a := szPartSN x.parts) b2a
  have b3a : 0 ≤ szF (szPartSN x.parts) (szF (x.edits.length) (szF (szGridN x.first) (left))) := by omega
  have b3b : szF (szPartSN x.parts) (szF (x.edits.length) (szF (szGridN x.first) (left))) ≤ 1048576 := by omega
  repeat first | refine R1 ?_ | refine R2 fun _ => ?_
  refine Xv (szShownS_v _ _ _ s_shown1 _ b3a b3b) ?_
  repeat first | refine R1 ?_ | refine R2 fun _ => ?_
  refine sf_if (fun e4 => ?_) fun e4 => ?_
  · repeat first | refine R1 ?_ | refine R2 fun _ => ?_
    refine sf_ret (rV ?_)
    have q := szF_stop (b := 0) e4
    rw [szF_add e3] at q
    rw [szF_add e2] at q
    rw [szF_add e1] at q
    simp only [szKeeperN, szGridN, szSceneN, Nat.add_assoc, Nat.add_zero] at q ⊢
    rw [q]
  have g4 := szF_ge e4
  have f4 := szF_le (a := szShownSN x.shown) b3a
  have b4a : 0 ≤ szF (szShownSN x.shown) (szF (szPartSN x.parts) (szF (x.edits.length) (szF (szGridN x.first) (left)))) := by omega
  have b4b : szF (szShownSN x.shown) (szF (szPartSN x.parts) (szF (x.edits.length) (szF (szGridN x.first) (left)))) ≤ 1048576 := by omega
  repeat first | refine R1 ?_ | refine R2 fun _ => ?_
  refine sf_ret (rV ?_)
  rw [szF_add e3, szF_add e2, szF_add e1]
  first | rfl | simp only [szKeeperN, szGridN, szSceneN, Nat.add_assoc]
theorem szIntSS_v (h : PHeap) (a : Value) (xs : List (List Int)) (s : SlR (intSR τ) h a xs) (left : Int) (h0 : 0 ≤ left) (h1 : left ≤ 1048576) : CallV Tryz.prog M 230 [a, .int .i64 left] h (.int .i64 (szF (szIntSSN xs) left)) := by
  have o1 := s.one
  obtain ⟨rx, s, b⟩ := s
  have lx := b.len
  have hs := s.small
  refine Cs Tryz.func230 Tryz.ntmps230 ?_
  refine Wo ?_
  refine sf_if (fun e => ?_) fun e => ?_
  · refine Wo ?_
    exact sf_ret (rV (by rw [szIntSSN, szF_stop (a := xs.length) (by rw [← lx, szF_neg e]; decide)]))
  refine Wo ?_
  refine sf_lp (ι := Nat × Int) [0] (fun x => [(5, .int .i64 (x.1 : Int)), (1, .int .i64 x.2)]) (fun x O => O = [] ∧ x.1 ≤ xs.length ∧ 0 ≤ x.2 ∧ x.2 ≤ 1048576 ∧ szF (szIntSSN xs) left = szF (sizeL List.length (xs.drop x.1)) x.2) (fun x => xs.length - x.1) (0, left - rx.length) [] ⟨rfl, by simp, by simp only; omega, by simp only; omega, ?_⟩ ?_
  · simp only [szIntSSN, List.drop_zero]
    rw [← szF_add (by rw [← lx, szF_pos e]; omega), ← lx, szF_pos e]
  rintro ⟨i, l⟩ O ⟨rfl, hi, hl0, hl1, hinv⟩
  refine Wo ?_
  refine sf_if (fun h4 => ?_) fun h4 => ?_
  · have hi4 : i < xs.length := by simp only at h4 hi; omega
    have hi5 : i < rx.length := by omega
    have b4 := b.at hi4
    simp only at hinv hl0 hl1
    rw [sizeL_drop hi4] at hinv
    obtain ⟨vx, ex, sx4⟩ := b4
    haveI : FlatV (rawF (intSR τ).sz) (gt rx i) [vx] := ⟨ex⟩
    refine Wo ?_
    refine Xv (szIntS_v _ _ _ sx4 _ hl0 hl1) ?_
    refine Wo ?_
    have hle := szF_le (a := List.length (gt xs i)) hl0
    refine sf_if (fun e1 => ?_) fun e1 => ?_
    · refine Wo ?_
      exact sf_ret (rV (by rw [hinv, szF_stop e1]))
    · refine Wo ?_
      refine ⟨(i + 1, _), by simp only; omega, ⟨rfl, rfl, trivial⟩, rfl, [], _, inferInstance, rfl, by simp only; omega, by simp only; omega, by simp only; omega, ?_⟩
      simp only
      rw [hinv, szF_add e1]
  · refine sf_exit ?_
    refine Wo ?_
    refine sf_ret (rV ?_)
    have : i = xs.length := by simp only at h4 hi; omega
    simp only at hinv hl0
    rw [hinv, this, List.drop_length]
    simp only [sizeL]
    rw [szF_pos (by simp; omega)]; simp
theorem szScene_v (h : PHeap) (ca : List Value) (x : Scene) (b : (sceneR τ).B h ca x) (left : Int) (h0 : 0 ≤ left) (h1 : left ≤ 1048576) : CallV Tryz.prog M 204 [.agg ca.toArray, .int .i64 left] h (.int .i64 (szF (szSceneN x) left)) := by
  obtain ⟨v_grid_cells1, v_lights1, v_feet1, rfl, s_grid_cells1, s_lights1, s_feet1⟩ := sceneB b
  have o_v_grid_cells1 := s_grid_cells1.one
  have o_v_lights1 := s_lights1.one
  have o_v_feet1 := s_feet1.one
  refine Cs Tryz.func204 Tryz.ntmps204 ?_
  repeat first | refine R1 ?_ | refine R2 fun _ => ?_
  refine Xv (szGrid_v _ _ x.grid (gridB_mk s_grid_cells1) _ h0 h1) ?_
  repeat first | refine R1 ?_ | refine R2 fun _ => ?_
  refine sf_if (fun e1 => ?_) fun e1 => ?_
  · repeat first | refine R1 ?_ | refine R2 fun _ => ?_
    refine sf_ret (rV ?_)
    have q := szF_stop (b := x.lights.length + (szIntSSN x.feet)) e1
    simp only [szSceneN, szGridN, szSceneN, Nat.add_assoc, Nat.add_zero] at q ⊢
    rw [q]
  have g1 := szF_ge e1
  have f1 := szF_le (a := szGridN x.grid) h0
  have b1a : 0 ≤ szF (szGridN x.grid) (left) := by omega
  have b1b : szF (szGridN x.grid) (left) ≤ 1048576 := by omega
  repeat first | refine R1 ?_ | refine R2 fun _ => ?_
  refine Xv (szIntS_v _ _ _ s_lights1 _ b1a b1b) ?_
  repeat first | refine R1 ?_ | refine R2 fun _ => ?_
  refine sf_if (fun e2 => ?_) fun e2 => ?_
  · repeat first | refine R1 ?_ | refine R2 fun _ => ?_
    refine sf_ret (rV ?_)
    have q := szF_stop (b := szIntSSN x.feet) e2
    rw [szF_add e1] at q
    simp only [szSceneN, szGridN, szSceneN, Nat.add_assoc, Nat.add_zero] at q ⊢
    rw [q]
  have g2 := szF_ge e2
  have f2 := szF_le (a := x.lights.length) b1a
  have b2a : 0 ≤ szF (x.lights.length) (szF (szGridN x.grid) (left)) := by omega
  have b2b : szF (x.lights.length) (szF (szGridN x.grid) (left)) ≤ 1048576 := by omega
  repeat first | refine R1 ?_ | refine R2 fun _ => ?_
  refine Xv (szIntSS_v _ _ _ s_feet1 _ b2a b2b) ?_
  repeat first | refine R1 ?_ | refine R2 fun _ => ?_
  refine sf_if (fun e3 => ?_) fun e3 => ?_
  · repeat first | refine R1 ?_ | refine R2 fun _ => ?_
    refine sf_ret (rV ?_)
    have q := szF_stop (b := 0) e3
    rw [szF_add e2] at q
    rw [szF_add e1] at q
    simp only [szSceneN, szGridN, szSceneN, Nat.add_assoc, Nat.add_zero] at q ⊢
    rw [q]
  have g3 := szF_ge e3
  have f3 := szF_le (a := szIntSSN x.feet) b2a
  have b3a : 0 ≤ szF (szIntSSN x.feet) (szF (x.lights.length) (szF (szGridN x.grid) (left))) := by omega
  have b3b : szF (szIntSSN x.feet) (szF (x.lights.length) (szF (szGridN x.grid) (left))) ≤ 1048576 := by omega
  repeat first | refine R1 ?_ | refine R2 fun _ => ?_
  refine sf_ret (rV ?_)
  rw [szF_add e2, szF_add e1]
  first | rfl | simp only [szSceneN, szGridN, szSceneN, Nat.add_assoc]
theorem szPainter_v (h : PHeap) (ca : List Value) (x : Painter) (b : (painterR τ).B h ca x) (left : Int) (h0 : 0 ≤ left) (h1 : left ≤ 1048576) : CallV Tryz.prog M 162 [.agg ca.toArray, .int .i64 left] h (.int .i64 (szF (szPainterN x) left)) := by
  obtain ⟨v_scene_grid_cells1, v_scene_lights1, v_scene_feet1, rfl, s_scene_grid_cells1, s_scene_lights1, s_scene_feet1⟩ := painterB b
  have o_v_scene_grid_cells1 := s_scene_grid_cells1.one
  have o_v_scene_lights1 := s_scene_lights1.one
  have o_v_scene_feet1 := s_scene_feet1.one
  refine Cs Tryz.func162 Tryz.ntmps162 ?_
  repeat first | refine R1 ?_ | refine R2 fun _ => ?_
  refine Xv (szScene_v _ _ x.scene (sceneB_mk s_scene_grid_cells1 s_scene_lights1 s_scene_feet1) _ h0 h1) ?_
  repeat first | refine R1 ?_ | refine R2 fun _ => ?_
  refine sf_if (fun e1 => ?_) fun e1 => ?_
  · repeat first | refine R1 ?_ | refine R2 fun _ => ?_
    refine sf_ret (rV ?_)
    have q := szF_stop (b := 0) e1
    simp only [szPainterN, szGridN, szSceneN, Nat.add_assoc, Nat.add_zero] at q ⊢
    rw [q]
  have g1 := szF_ge e1
  have f1 := szF_le (a := szSceneN x.scene) h0
  have b1a : 0 ≤ szF (szSceneN x.scene) (left) := by omega
  have b1b : szF (szSceneN x.scene) (left) ≤ 1048576 := by omega
  repeat first | refine R1 ?_ | refine R2 fun _ => ?_
  refine sf_ret (rV ?_)
  first | rfl | simp only [szPainterN, szGridN, szSceneN, Nat.add_assoc]
theorem szWord_v (h : PHeap) (ca : List Value) (x : Word) (b : (wordR τ).B h ca x) (left : Int) (h0 : 0 ≤ left) (h1 : left ≤ 1048576) : CallV Tryz.prog M 50 [.agg ca.toArray, .int .i64 left] h (.int .i64 (szF (szWordN x) left)) := by
  obtain ⟨v_grid_cells1, v_lights1, rfl, s_grid_cells1, s_lights1⟩ := wordB b
  have o_v_grid_cells1 := s_grid_cells1.one
  have o_v_lights1 := s_lights1.one
  refine Cs Tryz.func50 Tryz.ntmps50 ?_
  repeat first | refine R1 ?_ | refine R2 fun _ => ?_
  refine Xv (szGrid_v _ _ x.grid (gridB_mk s_grid_cells1) _ h0 h1) ?_
  repeat first | refine R1 ?_ | refine R2 fun _ => ?_
  refine sf_if (fun e1 => ?_) fun e1 => ?_
  · repeat first | refine R1 ?_ | refine R2 fun _ => ?_
    refine sf_ret (rV ?_)
    have q := szF_stop (b := x.lights.length) e1
    simp only [szWordN, szGridN, szSceneN, Nat.add_assoc, Nat.add_zero] at q ⊢
    rw [q]
  have g1 := szF_ge e1
  have f1 := szF_le (a := szGridN x.grid) h0
  have b1a : 0 ≤ szF (szGridN x.grid) (left) := by omega
  have b1b : szF (szGridN x.grid) (left) ≤ 1048576 := by omega
  repeat first | refine R1 ?_ | refine R2 fun _ => ?_
  refine Xv (szIntS_v _ _ _ s_lights1 _ b1a b1b) ?_
  repeat first | refine R1 ?_ | refine R2 fun _ => ?_
  refine sf_if (fun e2 => ?_) fun e2 => ?_
  · repeat first | refine R1 ?_ | refine R2 fun _ => ?_
    refine sf_ret (rV ?_)
    have q := szF_stop (b := 0) e2
    rw [szF_add e1] at q
    simp only [szWordN, szGridN, szSceneN, Nat.add_assoc, Nat.add_zero] at q ⊢
    rw [q]
  have g2 := szF_ge e2
  have f2 := szF_le (a := x.lights.length) b1a
  have b2a : 0 ≤ szF (x.lights.length) (szF (szGridN x.grid) (left)) := by omega
  have b2b : szF (x.lights.length) (szF (szGridN x.grid) (left)) ≤ 1048576 := by omega
  repeat first | refine R1 ?_ | refine R2 fun _ => ?_
  refine sf_ret (rV ?_)
  rw [szF_add e1]
  first | rfl | simp only [szWordN, szGridN, szSceneN, Nat.add_assoc]
theorem szPainterS_v (h : PHeap) (a : Value) (xs : List Painter) (s : SlR (painterR τ) h a xs) (left : Int) (h0 : 0 ≤ left) (h1 : left ≤ 1048576) : CallV Tryz.prog M 103 [a, .int .i64 left] h (.int .i64 (szF (szPainterSN xs) left)) := by
  have o1 := s.one
  obtain ⟨rx, s, b⟩ := s
  have lx := b.len
  have hs := s.small
  refine Cs Tryz.func103 Tryz.ntmps103 ?_
  refine Wo ?_
  refine sf_if (fun e => ?_) fun e => ?_
  · refine Wo ?_
    exact sf_ret (rV (by rw [szPainterSN, szF_stop (a := xs.length) (by rw [← lx, szF_neg e]; decide)]))
  refine Wo ?_
  refine sf_lp (ι := Nat × Int) [0] (fun x => [(5, .int .i64 (x.1 : Int)), (1, .int .i64 x.2)]) (fun x O => O = [] ∧ x.1 ≤ xs.length ∧ 0 ≤ x.2 ∧ x.2 ≤ 1048576 ∧ szF (szPainterSN xs) left = szF (sizeL szPainterN (xs.drop x.1)) x.2) (fun x => xs.length - x.1) (0, left - rx.length) [] ⟨rfl, by simp, by simp only; omega, by simp only; omega, ?_⟩ ?_
  · simp only [szPainterSN, List.drop_zero]
    rw [← szF_add (by rw [← lx, szF_pos e]; omega), ← lx, szF_pos e]
  rintro ⟨i, l⟩ O ⟨rfl, hi, hl0, hl1, hinv⟩
  refine Wo ?_
  refine sf_if (fun h4 => ?_) fun h4 => ?_
  · have hi4 : i < xs.length := by simp only at h4 hi; omega
    have hi5 : i < rx.length := by omega
    have b4 := b.at hi4
    simp only at hinv hl0 hl1
    rw [sizeL_drop hi4] at hinv
    refine Wo ?_
    refine Xv (szPainter_v _ _ _ b4 _ hl0 hl1) ?_
    refine Wo ?_
    have hle := szF_le (a := szPainterN (gt xs i)) hl0
    refine sf_if (fun e1 => ?_) fun e1 => ?_
    · refine Wo ?_
      exact sf_ret (rV (by rw [hinv, szF_stop e1]))
    · refine Wo ?_
      refine ⟨(i + 1, _), by simp only; omega, ⟨rfl, rfl, trivial⟩, rfl, [], _, inferInstance, rfl, by simp only; omega, by simp only; omega, by simp only; omega, ?_⟩
      simp only
      rw [hinv, szF_add e1]
  · refine sf_exit ?_
    refine Wo ?_
    refine sf_ret (rV ?_)
    have : i = xs.length := by simp only at h4 hi; omega
    simp only at hinv hl0
    rw [hinv, this, List.drop_length]
    simp only [sizeL]
    rw [szF_pos (by simp; omega)]; simp
theorem szWordS_v (h : PHeap) (a : Value) (xs : List Word) (s : SlR (wordR τ) h a xs) (left : Int) (h0 : 0 ≤ left) (h1 : left ≤ 1048576) : CallV Tryz.prog M 104 [a, .int .i64 left] h (.int .i64 (szF (szWordSN xs) left)) := by
  have o1 := s.one
  obtain ⟨rx, s, b⟩ := s
  have lx := b.len
  have hs := s.small
  refine Cs Tryz.func104 Tryz.ntmps104 ?_
  refine Wo ?_
  refine sf_if (fun e => ?_) fun e => ?_
  · refine Wo ?_
    exact sf_ret (rV (by rw [szWordSN, szF_stop (a := xs.length) (by rw [← lx, szF_neg e]; decide)]))
  refine Wo ?_
  refine sf_lp (ι := Nat × Int) [0] (fun x => [(5, .int .i64 (x.1 : Int)), (1, .int .i64 x.2)]) (fun x O => O = [] ∧ x.1 ≤ xs.length ∧ 0 ≤ x.2 ∧ x.2 ≤ 1048576 ∧ szF (szWordSN xs) left = szF (sizeL szWordN (xs.drop x.1)) x.2) (fun x => xs.length - x.1) (0, left - rx.length) [] ⟨rfl, by simp, by simp only; omega, by simp only; omega, ?_⟩ ?_
  · simp only [szWordSN, List.drop_zero]
    rw [← szF_add (by rw [← lx, szF_pos e]; omega), ← lx, szF_pos e]
  rintro ⟨i, l⟩ O ⟨rfl, hi, hl0, hl1, hinv⟩
  refine Wo ?_
  refine sf_if (fun h4 => ?_) fun h4 => ?_
  · have hi4 : i < xs.length := by simp only at h4 hi; omega
    have hi5 : i < rx.length := by omega
    have b4 := b.at hi4
    simp only at hinv hl0 hl1
    rw [sizeL_drop hi4] at hinv
    refine Wo ?_
    refine Xv (szWord_v _ _ _ b4 _ hl0 hl1) ?_
    refine Wo ?_
    have hle := szF_le (a := szWordN (gt xs i)) hl0
    refine sf_if (fun e1 => ?_) fun e1 => ?_
    · refine Wo ?_
      exact sf_ret (rV (by rw [hinv, szF_stop e1]))
    · refine Wo ?_
      refine ⟨(i + 1, _), by simp only; omega, ⟨rfl, rfl, trivial⟩, rfl, [], _, inferInstance, rfl, by simp only; omega, by simp only; omega, by simp only; omega, ?_⟩
      simp only
      rw [hinv, szF_add e1]
  · refine sf_exit ?_
    refine Wo ?_
    refine sf_ret (rV ?_)
    have : i = xs.length := by simp only at h4 hi; omega
    simp only at hinv hl0
    rw [hinv, this, List.drop_length]
    simp only [sizeL]
    rw [szF_pos (by simp; omega)]; simp
theorem szWorld_v (h : PHeap) (ca : List Value) (x : World') (b : (worldR τ).B h ca x) (left : Int) (h0 : 0 ≤ left) (h1 : left ≤ 1048576) : CallV Tryz.prog M 39 [.agg ca.toArray, .int .i64 left] h (.int .i64 (szF (szWorldN x) left)) := by
  obtain ⟨v_keeper_first_cells1, v_keeper_edits1, v_keeper_parts1, v_keeper_shown1, v_painters1, v_nets1, rfl, s_keeper_first_cells1, s_keeper_edits1, s_keeper_parts1, s_keeper_shown1, s_painters1, s_nets1⟩ := worldB b
  have o_v_keeper_first_cells1 := s_keeper_first_cells1.one
  have o_v_keeper_edits1 := s_keeper_edits1.one
  have o_v_keeper_parts1 := s_keeper_parts1.one
  have o_v_keeper_shown1 := s_keeper_shown1.one
  have o_v_painters1 := s_painters1.one
  have o_v_nets1 := s_nets1.one
  refine Cs Tryz.func39 Tryz.ntmps39 ?_
  repeat first | refine R1 ?_ | refine R2 fun _ => ?_
  refine Xv (szKeeper_v _ _ x.keeper (keeperB_mk s_keeper_first_cells1 s_keeper_edits1 s_keeper_parts1 s_keeper_shown1) _ h0 h1) ?_
  repeat first | refine R1 ?_ | refine R2 fun _ => ?_
  refine sf_if (fun e1 => ?_) fun e1 => ?_
  · repeat first | refine R1 ?_ | refine R2 fun _ => ?_
    refine sf_ret (rV ?_)
    have q := szF_stop (b := szPainterSN x.painters + (szWordSN x.nets)) e1
    simp only [szWorldN, szGridN, szSceneN, Nat.add_assoc, Nat.add_zero] at q ⊢
    rw [q]
  have g1 := szF_ge e1
  have f1 := szF_le (a := szKeeperN x.keeper) h0
  have b1a : 0 ≤ szF (szKeeperN x.keeper) (left) := by omega
  have b1b : szF (szKeeperN x.keeper) (left) ≤ 1048576 := by omega
  repeat first | refine R1 ?_ | refine R2 fun _ => ?_
  refine Xv (szPainterS_v _ _ _ s_painters1 _ b1a b1b) ?_
  repeat first | refine R1 ?_ | refine R2 fun _ => ?_
  refine sf_if (fun e2 => ?_) fun e2 => ?_
  · repeat first | refine R1 ?_ | refine R2 fun _ => ?_
    refine sf_ret (rV ?_)
    have q := szF_stop (b := szWordSN x.nets) e2
    rw [szF_add e1] at q
    simp only [szWorldN, szGridN, szSceneN, Nat.add_assoc, Nat.add_zero] at q ⊢
    rw [q]
  have g2 := szF_ge e2
  have f2 := szF_le (a := szPainterSN x.painters) b1a
  have b2a : 0 ≤ szF (szPainterSN x.painters) (szF (szKeeperN x.keeper) (left)) := by omega
  have b2b : szF (szPainterSN x.painters) (szF (szKeeperN x.keeper) (left)) ≤ 1048576 := by omega
  repeat first | refine R1 ?_ | refine R2 fun _ => ?_
  refine Xv (szWordS_v _ _ _ s_nets1 _ b2a b2b) ?_
  repeat first | refine R1 ?_ | refine R2 fun _ => ?_
  refine sf_if (fun e3 => ?_) fun e3 => ?_
  · repeat first | refine R1 ?_ | refine R2 fun _ => ?_
    refine sf_ret (rV ?_)
    have q := szF_stop (b := 0) e3
    rw [szF_add e2] at q
    rw [szF_add e1] at q
    simp only [szWorldN, szGridN, szSceneN, Nat.add_assoc, Nat.add_zero] at q ⊢
    rw [q]
  have g3 := szF_ge e3
  have f3 := szF_le (a := szWordSN x.nets) b2a
  have b3a : 0 ≤ szF (szWordSN x.nets) (szF (szPainterSN x.painters) (szF (szKeeperN x.keeper) (left))) := by omega
  have b3b : szF (szWordSN x.nets) (szF (szPainterSN x.painters) (szF (szKeeperN x.keeper) (left))) ≤ 1048576 := by omega
  repeat first | refine R1 ?_ | refine R2 fun _ => ?_
  refine sf_ret (rV ?_)
  rw [szF_add e2, szF_add e1]
  first | rfl | simp only [szWorldN, szGridN, szSceneN, Nat.add_assoc]
end Go.Proofs.YtekjikbaefgncaaGreatDoor
namespace Go.Proofs.YtekjikbaefgncaaGreatDoor
open Go Go.Sl
set_option maxRecDepth 100000
set_option maxHeartbeats 4000000
attribute [local irreducible] Go.Code.sf sfOps Opq opo retF Do1 anyO
variable {M : Jdg → Prop} [IsCl Tryz.prog M]
theorem toGrid_f (h : PHeap) (ca : List Value) (x : Grid) (b : (gridR τ).B h ca x) (hs : szGridN x ≤ 1048576) : CallF Tryz.prog M 26 [.agg ca.toArray] [] h fun v A => ∃ cs, v = .agg cs.toArray ∧ (gridR τ).O A cs x := by
  obtain ⟨v_cells1, rfl, s_cells1⟩ := gridB b
  have o_v_cells1 := s_cells1.one
  have hz : szGridN x = x.cells.length := rfl
  refine Cs Tryz.func26 Tryz.ntmps26 ?_
  repeat first | refine R1 ?_ | refine R2 fun _ => ?_
  refine Xc (toCellS_f _ _ _ s_cells1 (by omega)) fun w1 K1 g1 => ?_
  have o1 := g1.one
  repeat first | refine R1 ?_ | refine R2 fun _ => ?_
  exact sf_ret (rO K1 ⟨_, rfl, gridO_mk g1 (by omega)⟩)
theorem toIntS_f (h : PHeap) (v : Value) (xs : List Int) (s : Sl h v intF xs) (hs : xs.length ≤ 1048576) : CallF Tryz.prog M 120 [v] [] h fun v' A => Gr A v' 3 intF xs := by
  have o1 := s.one
  refine Cs Tryz.func120 Tryz.ntmps120 ?_
  refine Wo ?_
  refine Xm fun w A g => ?_
  refine Wo ?_
  refine sf_lp [0, 3] (fun k : Nat => [(4, .int .i64 (k : Int))]) (fun k O => k ≤ xs.length ∧ Gr O w 3 intF (xs.take k ++ List.replicate (xs.length - k) 0)) (fun k => xs.length - k) 0 A ⟨by omega, by simpa using g⟩ ?_
  rintro k O ⟨hk, g⟩
  refine Wo ?_
  refine sf_if (fun h4 => ?_) fun h4 => ?_
  · have hk4 : k < xs.length := by omega
    have hl : k < (xs.take k ++ List.replicate (xs.length - k) (0 : Int)).length := by simp; omega
    refine Wo ?_
    refine Xg g fun A ys ey ly _ g => ?_
    refine Wo ?_
    refine ⟨k + 1, by omega, ⟨rfl, trivial⟩, rfl, A, _, inferInstance, by omega, ?_⟩
    rw [← set_step hk4]; first | exact ey ▸ g | (rw [ey] at g; exact g)
  · refine sf_exit ?_
    refine Wo ?_
    refine sf_ret (rO O ?_)
    have : k = xs.length := by omega
    subst this
    simpa using g
theorem toEdit_v (h : PHeap) (x : Edit) : CallV Tryz.prog M 45 [.agg #[.int .i64 x.at', .int .i64 x.cell.kind, .int .i64 x.cell.light]] h (.agg #[.int .i64 x.at', .int .i64 x.cell.kind, .int .i64 x.cell.light]) := by
  refine Cs Tryz.func45 Tryz.ntmps45 ?_
  repeat first | refine R1 ?_ | refine R2 fun _ => ?_
  refine Xv (toCell_v _ _ _) ?_
  repeat first | refine R1 ?_ | refine R2 fun _ => ?_
  exact sf_ret (rV rfl)
theorem toEditS_f (h : PHeap) (v : Value) (xs : List Edit) (s : Sl h v editF xs) (hs : xs.length ≤ 1048576) : CallF Tryz.prog M 66 [v] [] h fun v' A => Gr A v' 69 editF xs := by
  have o1 := s.one
  refine Cs Tryz.func66 Tryz.ntmps66 ?_
  refine Wo ?_
  refine Xm fun w A g => ?_
  refine Wo ?_
  refine sf_lp [0, 3] (fun k : Nat => [(4, .int .i64 (k : Int))]) (fun k O => k ≤ xs.length ∧ Gr O w 69 editF (xs.take k ++ List.replicate (xs.length - k) ⟨0, 0, 0⟩)) (fun k => xs.length - k) 0 A ⟨by omega, by simpa using g⟩ ?_
  rintro k O ⟨hk, g⟩
  refine Wo ?_
  refine sf_if (fun h4 => ?_) fun h4 => ?_
  · have hk4 : k < xs.length := by omega
    have hl : k < (xs.take k ++ List.replicate (xs.length - k) (⟨0, 0, 0⟩ : Edit)).length := by simp; omega
    refine Wo ?_
    refine Xv (toEdit_v _ (gt xs k)) ?_
    refine Wo ?_
    refine Xg g fun A ys ey ly _ g => ?_
    refine Wo ?_
    refine ⟨k + 1, by omega, ⟨rfl, trivial⟩, rfl, A, _, inferInstance, by omega, ?_⟩
    rw [← set_step hk4]; first | exact ey ▸ g | (rw [ey] at g; exact g)
  · refine sf_exit ?_
    refine Wo ?_
    refine sf_ret (rO O ?_)
    have : k = xs.length := by omega
    subst this
    simpa using g
theorem toPart_f (h : PHeap) (ca : List Value) (x : Part) (b : (partR τ).B h ca x) (hs : szPartN x ≤ 1048576) : CallF Tryz.prog M 135 [.agg ca.toArray] [] h fun v A => ∃ cs, v = .agg cs.toArray ∧ (partR τ).O A cs x := by
  obtain ⟨v_lights1, rfl, s_lights1⟩ := partB b
  have o_v_lights1 := s_lights1.one
  have hz : szPartN x = x.lights.length := rfl
  refine Cs Tryz.func135 Tryz.ntmps135 ?_
  repeat first | refine R1 ?_ | refine R2 fun _ => ?_
  refine Xc (toIntS_f _ _ _ s_lights1 (by omega)) fun w1 K1 g1 => ?_
  have o1 := g1.one
  repeat first | refine R1 ?_ | refine R2 fun _ => ?_
  exact sf_ret (rO K1 ⟨_, rfl, partO_mk g1 (by omega)⟩)
theorem toPartS_f (h : PHeap) (v : Value) (xs : List Part) (s : SlR (partR τ) h v xs) (hs : szPartSN xs ≤ 1048576) : CallF Tryz.prog M 67 [v] [] h fun v' A => GrR (partR τ) A v' 113 xs := by
  have o1 := s.one
  obtain ⟨rx, s, b⟩ := s
  have lx := b.len
  have hz : szPartSN xs = xs.length + sizeL szPartN xs := rfl
  refine Cs Tryz.func67 Tryz.ntmps67 ?_
  refine Wo ?_
  refine Xm fun w A g => ?_
  refine Wo ?_
  refine sf_lp [0, 3] (fun k : Nat => [(4, .int .i64 (k : Int))]) (fun k O => k ≤ xs.length ∧ ∃ A0 A1 rs, O = A0 ++ A1 ∧ rs.length = k ∧ Gr A0 w 113 (rawF (partR τ).sz) (rs ++ List.replicate (xs.length - k) ⟨[.bool false, .int .i64 0, .slice none 0 0], rfl⟩) ∧ OAll (partR τ) A1 rs (xs.take k)) (fun k => xs.length - k) 0 A ⟨by omega, A, [], [], by simp, rfl, by simpa [lx] using g, by simpa using OAll.nil⟩ ?_
  clear g A
  rintro k O ⟨hk, A0, A1, rs, rfl, hr, g, oa⟩
  refine Wo ?_
  refine sf_if (fun h4 => ?_) fun h4 => ?_
  · have hk4 : k < xs.length := by omega
    have hk5 : k < rx.length := by omega
    have b4 := b.at hk4
    have hsz := sizeL_at (f := szPartN) hk4
    have hl : k < (rs ++ List.replicate (xs.length - k) (⟨[.bool false, .int .i64 0, .slice none 0 0], rfl⟩ : Raw (partR τ).sz)).length := by simp; omega
    refine Wo ?_
    refine fp (y_call (toPart_f _ _ _ b4 (by omega)) (by rfl) ?_)
    rintro _ K ⟨cs, rfl, q⟩
    haveI : LenR cs 3 := ⟨(partR τ).lenO q⟩
    haveI := (partR τ).oneO q
    refine Wo ?_
    refine Xg g fun A2 ys ey ly _ g2 => ?_
    refine Wo ?_
    refine ⟨k + 1, by omega, ⟨rfl, trivial⟩, rfl, A2 ++ (A1 ++ K), _, inferInstance, by omega, A2, A1 ++ K, rs ++ [⟨cs, (partR τ).lenO q⟩], rfl, by simp [hr], ?_, ?_⟩
    · rw [← raw_step hr hk4]; first | exact ey ▸ g2 | (rw [ey] at g2; exact g2)
    · rw [take_succ_gt hk4]; exact oa.snoc q
  · refine sf_exit ?_
    refine Wo ?_
    have : k = xs.length := by omega
    subst this
    refine sf_ret (rO (A0 ++ A1) ⟨A0, A1, rfl, rs, by simpa using g, by simpa using oa, by omega⟩)
theorem toShown_f (h : PHeap) (ca : List Value) (x : Shown) (b : (shownR τ).B h ca x) (hs : szShownN x ≤ 1048576) : CallF Tryz.prog M 136 [.agg ca.toArray] [] h fun v A => ∃ cs, v = .agg cs.toArray ∧ (shownR τ).O A cs x := by
  obtain ⟨v_pic1, rfl, s_pic1⟩ := shownB b
  have o_v_pic1 := s_pic1.one
  have hz : szShownN x = x.pic.length := rfl
  refine Cs Tryz.func136 Tryz.ntmps136 ?_
  repeat first | refine R1 ?_ | refine R2 fun _ => ?_
  refine Xc (toIntS_f _ _ _ s_pic1 (by omega)) fun w1 K1 g1 => ?_
  have o1 := g1.one
  repeat first | refine R1 ?_ | refine R2 fun _ => ?_
  exact sf_ret (rO K1 ⟨_, rfl, shownO_mk g1 (by omega)⟩)
theorem toShownS_f (h : PHeap) (v : Value) (xs : List Shown) (s : SlR (shownR τ) h v xs) (hs : szShownSN xs ≤ 1048576) : CallF Tryz.prog M 68 [v] [] h fun v' A => GrR (shownR τ) A v' 117 xs := by
  have o1 := s.one
  obtain ⟨rx, s, b⟩ := s
  have lx := b.len
  have hz : szShownSN xs = xs.length + sizeL szShownN xs := rfl
  refine Cs Tryz.func68 Tryz.ntmps68 ?_
  refine Wo ?_
  refine Xm fun w A g => ?_
  refine Wo ?_
  refine sf_lp [0, 3] (fun k : Nat => [(4, .int .i64 (k : Int))]) (fun k O => k ≤ xs.length ∧ ∃ A0 A1 rs, O = A0 ++ A1 ∧ rs.length = k ∧ Gr A0 w 117 (rawF (shownR τ).sz) (rs ++ List.replicate (xs.length - k) ⟨[.int .i64 0, .slice none 0 0], rfl⟩) ∧ OAll (shownR τ) A1 rs (xs.take k)) (fun k => xs.length - k) 0 A ⟨by omega, A, [], [], by simp, rfl, by simpa [lx] using g, by simpa using OAll.nil⟩ ?_
  clear g A
  rintro k O ⟨hk, A0, A1, rs, rfl, hr, g, oa⟩
  refine Wo ?_
  refine sf_if (fun h4 => ?_) fun h4 => ?_
  · have hk4 : k < xs.length := by omega
    have hk5 : k < rx.length := by omega
    have b4 := b.at hk4
    have hsz := sizeL_at (f := szShownN) hk4
    have hl : k < (rs ++ List.replicate (xs.length - k) (⟨[.int .i64 0, .slice none 0 0], rfl⟩ : Raw (shownR τ).sz)).length := by simp; omega
    refine Wo ?_
    refine fp (y_call (toShown_f _ _ _ b4 (by omega)) (by rfl) ?_)
    rintro _ K ⟨cs, rfl, q⟩
    haveI : LenR cs 2 := ⟨(shownR τ).lenO q⟩
    haveI := (shownR τ).oneO q
    refine Wo ?_
    refine Xg g fun A2 ys ey ly _ g2 => ?_
    refine Wo ?_
    refine ⟨k + 1, by omega, ⟨rfl, trivial⟩, rfl, A2 ++ (A1 ++ K), _, inferInstance, by omega, A2, A1 ++ K, rs ++ [⟨cs, (shownR τ).lenO q⟩], rfl, by simp [hr], ?_, ?_⟩
    · rw [← raw_step hr hk4]; first | exact ey ▸ g2 | (rw [ey] at g2; exact g2)
    · rw [take_succ_gt hk4]; exact oa.snoc q
  · refine sf_exit ?_
    refine Wo ?_
    have : k = xs.length := by omega
    subst this
    refine sf_ret (rO (A0 ++ A1) ⟨A0, A1, rfl, rs, by simpa using g, by simpa using oa, by omega⟩)
theorem toKeeper_f (h : PHeap) (ca : List Value) (x : Keeper) (b : (keeperR τ).B h ca x) (hs : szKeeperN x ≤ 1048576) : CallF Tryz.prog M 14 [.agg ca.toArray] [] h fun v A => ∃ cs, v = .agg cs.toArray ∧ (keeperR τ).O A cs x := by
  obtain ⟨v_first_cells1, v_edits1, v_parts1, v_shown1, rfl, s_first_cells1, s_edits1, s_parts1, s_shown1⟩ := keeperB b
  have o_v_first_cells1 := s_first_cells1.one
  have o_v_edits1 := s_edits1.one
  have o_v_parts1 := s_parts1.one
  have o_v_shown1 := s_shown1.one
  have hz : szKeeperN x = szGridN x.first + x.edits.length + szPartSN x.parts + szShownSN x.shown := rfl
  refine Cs Tryz.func14 Tryz.ntmps14 ?_
  repeat first | refine R1 ?_ | refine R2 fun _ => ?_
  refine fp (y_call (toGrid_f _ _ x.first (gridB_mk s_first_cells1) (by simp only [szGridN] at hz ⊢; omega)) (by rfl) ?_)
  rintro _ K1 ⟨_, rfl, q1⟩
  obtain ⟨u1_v_cells, rfl, h1_v_cells, l1_v_cells⟩ := gridO q1
  have oo1_v_cells := h1_v_cells.one
  repeat first | refine R1 ?_ | refine R2 fun _ => ?_
  refine Xc (toEditS_f _ _ _ s_edits1 (by omega)) fun w2 K2 g2 => ?_
  have o2 := g2.one
  repeat first | refine R1 ?_ | refine R2 fun _ => ?_
  refine Xc (toPartS_f _ _ _ s_parts1 (by omega)) fun w3 K3 g3 => ?_
  have o3 := g3.one
  repeat first | refine R1 ?_ | refine R2 fun _ => ?_
  refine Xc (toShownS_f _ _ _ s_shown1 (by omega)) fun w4 K4 g4 => ?_
  have o4 := g4.one
  repeat first | refine R1 ?_ | refine R2 fun _ => ?_
  exact sf_ret (rO (K1 ++ (K2 ++ (K3 ++ (K4)))) ⟨_, rfl, keeperO_mk h1_v_cells l1_v_cells g2 (by omega) g3 g4⟩)
instance elemF_ints_XtP : ElemF Tryz.prog 70 (rawF (intSR τ).sz) := ⟨trivial⟩
theorem toIntSS_f (h : PHeap) (v : Value) (xs : List (List Int)) (s : SlR (intSR τ) h v xs) (hs : szIntSSN xs ≤ 1048576) : CallF Tryz.prog M 231 [v] [] h fun v' A => GrR (intSR τ) A v' 70 xs := by
  have o1 := s.one
  obtain ⟨rx, s, b⟩ := s
  have lx := b.len
  have hz : szIntSSN xs = xs.length + sizeL List.length xs := rfl
  refine Cs Tryz.func231 Tryz.ntmps231 ?_
  refine Wo ?_
  refine Xm fun w A g => ?_
  refine Wo ?_
  refine sf_lp [0, 3] (fun k : Nat => [(4, .int .i64 (k : Int))]) (fun k O => k ≤ xs.length ∧ ∃ A0 A1 rs, O = A0 ++ A1 ∧ rs.length = k ∧ Gr A0 w 70 (rawF (intSR τ).sz) (rs ++ List.replicate (xs.length - k) ⟨[.slice none 0 0], rfl⟩) ∧ OAll (intSR τ) A1 rs (xs.take k)) (fun k => xs.length - k) 0 A ⟨by omega, A, [], [], by simp, rfl, by simpa [lx] using g, by simpa using OAll.nil⟩ ?_
  clear g A
  rintro k O ⟨hk, A0, A1, rs, rfl, hr, g, oa⟩
  refine Wo ?_
  refine sf_if (fun h4 => ?_) fun h4 => ?_
  · have hk4 : k < xs.length := by omega
    have hk5 : k < rx.length := by omega
    have b4 := b.at hk4
    have hsz := sizeL_at (f := List.length) hk4
    have hl : k < (rs ++ List.replicate (xs.length - k) (⟨[.slice none 0 0], rfl⟩ : Raw (intSR τ).sz)).length := by simp; omega
    obtain ⟨vx, ex, sx4⟩ := b4
    haveI : FlatV (rawF (intSR τ).sz) (gt rx k) [vx] := ⟨ex⟩
    refine Wo ?_
    refine Xc (toIntS_f _ _ _ sx4 (by omega)) fun u K gu => ?_
    have ou := gu.one
    refine Wo ?_
    refine Xg g fun A2 ys ey ly _ g2 => ?_
    refine Wo ?_
    refine ⟨k + 1, by omega, ⟨rfl, trivial⟩, rfl, A2 ++ (A1 ++ K), _, inferInstance, by omega, A2, A1 ++ K, rs ++ [⟨[u], rfl⟩], rfl, by simp [hr], ?_, ?_⟩
    · rw [← raw_step hr hk4]; first | exact ey ▸ g2 | (rw [ey] at g2; exact g2)
    · rw [take_succ_gt hk4]; exact oa.snoc ⟨u, rfl, gu, by omega⟩
  · refine sf_exit ?_
    refine Wo ?_
    have : k = xs.length := by omega
    subst this
    refine sf_ret (rO (A0 ++ A1) ⟨A0, A1, rfl, rs, by simpa using g, by simpa using oa, by omega⟩)
theorem toScene_f (h : PHeap) (ca : List Value) (x : Scene) (b : (sceneR τ).B h ca x) (hs : szSceneN x ≤ 1048576) : CallF Tryz.prog M 206 [.agg ca.toArray] [] h fun v A => ∃ cs, v = .agg cs.toArray ∧ (sceneR τ).O A cs x := by
  obtain ⟨v_grid_cells1, v_lights1, v_feet1, rfl, s_grid_cells1, s_lights1, s_feet1⟩ := sceneB b
  have o_v_grid_cells1 := s_grid_cells1.one
  have o_v_lights1 := s_lights1.one
  have o_v_feet1 := s_feet1.one
  have hz : szSceneN x = szGridN x.grid + x.lights.length + szIntSSN x.feet := rfl
  refine Cs Tryz.func206 Tryz.ntmps206 ?_
  repeat first | refine R1 ?_ | refine R2 fun _ => ?_
  refine fp (y_call (toGrid_f _ _ x.grid (gridB_mk s_grid_cells1) (by simp only [szGridN] at hz ⊢; omega)) (by rfl) ?_)
  rintro _ K1 ⟨_, rfl, q1⟩
  obtain ⟨u1_v_cells, rfl, h1_v_cells, l1_v_cells⟩ := gridO q1
  have oo1_v_cells := h1_v_cells.one
  repeat first | refine R1 ?_ | refine R2 fun _ => ?_
  refine Xc (toIntS_f _ _ _ s_lights1 (by omega)) fun w2 K2 g2 => ?_
  have o2 := g2.one
  repeat first | refine R1 ?_ | refine R2 fun _ => ?_
  refine Xc (toIntSS_f _ _ _ s_feet1 (by omega)) fun w3 K3 g3 => ?_
  have o3 := g3.one
  repeat first | refine R1 ?_ | refine R2 fun _ => ?_
  exact sf_ret (rO (K1 ++ (K2 ++ (K3))) ⟨_, rfl, sceneO_mk h1_v_cells l1_v_cells g2 (by omega) g3⟩)
theorem toPainter_f (h : PHeap) (ca : List Value) (x : Painter) (b : (painterR τ).B h ca x) (hs : szPainterN x ≤ 1048576) : CallF Tryz.prog M 165 [.agg ca.toArray] [] h fun v A => ∃ cs, v = .agg cs.toArray ∧ (painterR τ).O A cs x := by
  obtain ⟨v_scene_grid_cells1, v_scene_lights1, v_scene_feet1, rfl, s_scene_grid_cells1, s_scene_lights1, s_scene_feet1⟩ := painterB b
  have o_v_scene_grid_cells1 := s_scene_grid_cells1.one
  have o_v_scene_lights1 := s_scene_lights1.one
  have o_v_scene_feet1 := s_scene_feet1.one
  have hz : szPainterN x = szSceneN x.scene := rfl
  refine Cs Tryz.func165 Tryz.ntmps165 ?_
  repeat first | refine R1 ?_ | refine R2 fun _ => ?_
  refine fp (y_call (toScene_f _ _ x.scene (sceneB_mk s_scene_grid_cells1 s_scene_lights1 s_scene_feet1) (by omega)) (by rfl) ?_)
  rintro _ K1 ⟨_, rfl, q1⟩
  obtain ⟨u1_v_grid_cells, u1_v_lights, u1_v_feet, J1_v_grid_cells, J1_v_lights, J1_v_feet, rfl, rfl, ⟨h1_v_grid_cells, l1_v_grid_cells⟩, ⟨h1_v_lights, l1_v_lights⟩, h1_v_feet⟩ := sceneO q1
  have oo1_v_grid_cells := h1_v_grid_cells.one
  have oo1_v_lights := h1_v_lights.one
  have oo1_v_feet := h1_v_feet.one
  repeat first | refine R1 ?_ | refine R2 fun _ => ?_
  exact sf_ret (rO (J1_v_grid_cells ++ (J1_v_lights ++ (J1_v_feet))) ⟨_, rfl, painterO_mk h1_v_grid_cells l1_v_grid_cells h1_v_lights l1_v_lights h1_v_feet⟩)
theorem toWord_f (h : PHeap) (ca : List Value) (x : Word) (b : (wordR τ).B h ca x) (hs : szWordN x ≤ 1048576) : CallF Tryz.prog M 52 [.agg ca.toArray] [] h fun v A => ∃ cs, v = .agg cs.toArray ∧ (wordR τ).O A cs x := by
  obtain ⟨v_grid_cells1, v_lights1, rfl, s_grid_cells1, s_lights1⟩ := wordB b
  have o_v_grid_cells1 := s_grid_cells1.one
  have o_v_lights1 := s_lights1.one
  have hz : szWordN x = szGridN x.grid + x.lights.length := rfl
  refine Cs Tryz.func52 Tryz.ntmps52 ?_
  repeat first | refine R1 ?_ | refine R2 fun _ => ?_
  refine fp (y_call (toGrid_f _ _ x.grid (gridB_mk s_grid_cells1) (by simp only [szGridN] at hz ⊢; omega)) (by rfl) ?_)
  rintro _ K1 ⟨_, rfl, q1⟩
  obtain ⟨u1_v_cells, rfl, h1_v_cells, l1_v_cells⟩ := gridO q1
  have oo1_v_cells := h1_v_cells.one
  repeat first | refine R1 ?_ | refine R2 fun _ => ?_
  refine Xv (toEdit_v _ x.edit) ?_
  repeat first | refine R1 ?_ | refine R2 fun _ => ?_
  refine Xc (toIntS_f _ _ _ s_lights1 (by omega)) fun w3 K3 g3 => ?_
  have o3 := g3.one
  repeat first | refine R1 ?_ | refine R2 fun _ => ?_
  exact sf_ret (rO (K1 ++ (K3)) ⟨_, rfl, wordO_mk h1_v_cells l1_v_cells g3 (by omega)⟩)
theorem toPainterS_f (h : PHeap) (v : Value) (xs : List Painter) (s : SlR (painterR τ) h v xs) (hs : szPainterSN xs ≤ 1048576) : CallF Tryz.prog M 106 [v] [] h fun v' A => GrR (painterR τ) A v' 169 xs := by
  have o1 := s.one
  obtain ⟨rx, s, b⟩ := s
  have lx := b.len
  have hz : szPainterSN xs = xs.length + sizeL szPainterN xs := rfl
  refine Cs Tryz.func106 Tryz.ntmps106 ?_
  refine Wo ?_
  refine Xm fun w A g => ?_
  refine Wo ?_
  refine sf_lp [0, 3] (fun k : Nat => [(4, .int .i64 (k : Int))]) (fun k O => k ≤ xs.length ∧ ∃ A0 A1 rs, O = A0 ++ A1 ∧ rs.length = k ∧ Gr A0 w 169 (rawF (painterR τ).sz) (rs ++ List.replicate (xs.length - k) ⟨[.bool false, .bool false, .int .i64 0, .int .i64 0, .slice none 0 0, .slice none 0 0, .slice none 0 0], rfl⟩) ∧ OAll (painterR τ) A1 rs (xs.take k)) (fun k => xs.length - k) 0 A ⟨by omega, A, [], [], by simp, rfl, by simpa [lx] using g, by simpa using OAll.nil⟩ ?_
  clear g A
  rintro k O ⟨hk, A0, A1, rs, rfl, hr, g, oa⟩
  refine Wo ?_
  refine sf_if (fun h4 => ?_) fun h4 => ?_
  · have hk4 : k < xs.length := by omega
    have hk5 : k < rx.length := by omega
    have b4 := b.at hk4
    have hsz := sizeL_at (f := szPainterN) hk4
    have hl : k < (rs ++ List.replicate (xs.length - k) (⟨[.bool false, .bool false, .int .i64 0, .int .i64 0, .slice none 0 0, .slice none 0 0, .slice none 0 0], rfl⟩ : Raw (painterR τ).sz)).length := by simp; omega
    refine Wo ?_
    refine fp (y_call (toPainter_f _ _ _ b4 (by omega)) (by rfl) ?_)
    rintro _ K ⟨cs, rfl, q⟩
    haveI : LenR cs 7 := ⟨(painterR τ).lenO q⟩
    haveI := (painterR τ).oneO q
    refine Wo ?_
    refine Xg g fun A2 ys ey ly _ g2 => ?_
    refine Wo ?_
    refine ⟨k + 1, by omega, ⟨rfl, trivial⟩, rfl, A2 ++ (A1 ++ K), _, inferInstance, by omega, A2, A1 ++ K, rs ++ [⟨cs, (painterR τ).lenO q⟩], rfl, by simp [hr], ?_, ?_⟩
    · rw [← raw_step hr hk4]; first | exact ey ▸ g2 | (rw [ey] at g2; exact g2)
    · rw [take_succ_gt hk4]; exact oa.snoc q
  · refine sf_exit ?_
    refine Wo ?_
    have : k = xs.length := by omega
    subst this
    refine sf_ret (rO (A0 ++ A1) ⟨A0, A1, rfl, rs, by simpa using g, by simpa using oa, by omega⟩)
theorem toWordS_f (h : PHeap) (v : Value) (xs : List Word) (s : SlR (wordR τ) h v xs) (hs : szWordSN xs ≤ 1048576) : CallF Tryz.prog M 107 [v] [] h fun v' A => GrR (wordR τ) A v' 72 xs := by
  have o1 := s.one
  obtain ⟨rx, s, b⟩ := s
  have lx := b.len
  have hz : szWordSN xs = xs.length + sizeL szWordN xs := rfl
  refine Cs Tryz.func107 Tryz.ntmps107 ?_
  refine Wo ?_
  refine Xm fun w A g => ?_
  refine Wo ?_
  refine sf_lp [0, 3] (fun k : Nat => [(4, .int .i64 (k : Int))]) (fun k O => k ≤ xs.length ∧ ∃ A0 A1 rs, O = A0 ++ A1 ∧ rs.length = k ∧ Gr A0 w 72 (rawF (wordR τ).sz) (rs ++ List.replicate (xs.length - k) ⟨[.int .i64 0, .int .i64 0, .int .i64 0, .int .i64 0, .int .i64 0, .slice none 0 0, .int .i64 0, .int .i64 0, .int .i64 0, .slice none 0 0], rfl⟩) ∧ OAll (wordR τ) A1 rs (xs.take k)) (fun k => xs.length - k) 0 A ⟨by omega, A, [], [], by simp, rfl, by simpa [lx] using g, by simpa using OAll.nil⟩ ?_
  clear g A
  rintro k O ⟨hk, A0, A1, rs, rfl, hr, g, oa⟩
  refine Wo ?_
  refine sf_if (fun h4 => ?_) fun h4 => ?_
  · have hk4 : k < xs.length := by omega
    have hk5 : k < rx.length := by omega
    have b4 := b.at hk4
    have hsz := sizeL_at (f := szWordN) hk4
    have hl : k < (rs ++ List.replicate (xs.length - k) (⟨[.int .i64 0, .int .i64 0, .int .i64 0, .int .i64 0, .int .i64 0, .slice none 0 0, .int .i64 0, .int .i64 0, .int .i64 0, .slice none 0 0], rfl⟩ : Raw (wordR τ).sz)).length := by simp; omega
    refine Wo ?_
    refine fp (y_call (toWord_f _ _ _ b4 (by omega)) (by rfl) ?_)
    rintro _ K ⟨cs, rfl, q⟩
    haveI : LenR cs 10 := ⟨(wordR τ).lenO q⟩
    haveI := (wordR τ).oneO q
    refine Wo ?_
    refine Xg g fun A2 ys ey ly _ g2 => ?_
    refine Wo ?_
    refine ⟨k + 1, by omega, ⟨rfl, trivial⟩, rfl, A2 ++ (A1 ++ K), _, inferInstance, by omega, A2, A1 ++ K, rs ++ [⟨cs, (wordR τ).lenO q⟩], rfl, by simp [hr], ?_, ?_⟩
    · rw [← raw_step hr hk4]; first | exact ey ▸ g2 | (rw [ey] at g2; exact g2)
    · rw [take_succ_gt hk4]; exact oa.snoc q
  · refine sf_exit ?_
    refine Wo ?_
    have : k = xs.length := by omega
    subst this
    refine sf_ret (rO (A0 ++ A1) ⟨A0, A1, rfl, rs, by simpa using g, by simpa using oa, by omega⟩)
theorem toWorld_f (h : PHeap) (ca : List Value) (x : World') (b : (worldR τ).B h ca x) (hs : szWorldN x ≤ 1048576) : CallF Tryz.prog M 41 [.agg ca.toArray] [] h fun v A => ∃ cs, v = .agg cs.toArray ∧ (worldR τ).O A cs x := by
  obtain ⟨v_keeper_first_cells1, v_keeper_edits1, v_keeper_parts1, v_keeper_shown1, v_painters1, v_nets1, rfl, s_keeper_first_cells1, s_keeper_edits1, s_keeper_parts1, s_keeper_shown1, s_painters1, s_nets1⟩ := worldB b
  have o_v_keeper_first_cells1 := s_keeper_first_cells1.one
  have o_v_keeper_edits1 := s_keeper_edits1.one
  have o_v_keeper_parts1 := s_keeper_parts1.one
  have o_v_keeper_shown1 := s_keeper_shown1.one
  have o_v_painters1 := s_painters1.one
  have o_v_nets1 := s_nets1.one
  have hz : szWorldN x = szKeeperN x.keeper + szPainterSN x.painters + szWordSN x.nets := rfl
  refine Cs Tryz.func41 Tryz.ntmps41 ?_
  repeat first | refine R1 ?_ | refine R2 fun _ => ?_
  refine fp (y_call (toKeeper_f _ _ x.keeper (keeperB_mk s_keeper_first_cells1 s_keeper_edits1 s_keeper_parts1 s_keeper_shown1) (by omega)) (by rfl) ?_)
  rintro _ K1 ⟨_, rfl, q1⟩
  obtain ⟨u1_v_first_cells, u1_v_edits, u1_v_parts, u1_v_shown, J1_v_first_cells, J1_v_edits, J1_v_parts, J1_v_shown, rfl, rfl, ⟨h1_v_first_cells, l1_v_first_cells⟩, ⟨h1_v_edits, l1_v_edits⟩, h1_v_parts, h1_v_shown⟩ := keeperO q1
  have oo1_v_first_cells := h1_v_first_cells.one
  have oo1_v_edits := h1_v_edits.one
  have oo1_v_parts := h1_v_parts.one
  have oo1_v_shown := h1_v_shown.one
  repeat first | refine R1 ?_ | refine R2 fun _ => ?_
  refine Xc (toPainterS_f _ _ _ s_painters1 (by omega)) fun w2 K2 g2 => ?_
  have o2 := g2.one
  repeat first | refine R1 ?_ | refine R2 fun _ => ?_
  refine Xc (toWordS_f _ _ _ s_nets1 (by omega)) fun w3 K3 g3 => ?_
  have o3 := g3.one
  repeat first | refine R1 ?_ | refine R2 fun _ => ?_
  exact sf_ret (rO (J1_v_first_cells ++ (J1_v_edits ++ (J1_v_parts ++ (J1_v_shown ++ (K2 ++ (K3)))))) ⟨_, rfl, worldO_mk h1_v_first_cells l1_v_first_cells h1_v_edits l1_v_edits h1_v_parts h1_v_shown g2 g3⟩)
theorem worldOk_body [al : Alone Tryz.prog M] (h : PHeap) [BAt h 0 errObj] (ca : List Value) (w : World') (b : (worldR τ).B h ca w) : ∃ c, Tryz.f11.body = some c ∧ c.sf Tryz.prog M Tryz.f11.ntmps (retF Tryz.prog Tryz.f11 Tryz.f11.ntmps (fun v _ => v = .bool true) fun _ _ => False) (argsL 0 [.agg ca.toArray]) [] h := by
  have b0 := b
  obtain ⟨c, ed, p, s, ps, ns, rfl, s1, s2, s3, s4, s5, s6⟩ := worldB b
  have o1 := s1.one
  have o2 := s2.one
  have o3 := s3.one
  have o4 := s4.one
  have o5 := s5.one
  have o6 := s6.one
  refine ⟨_, rfl, ?_⟩
  rw [Tryz.ntmps11]
  simp only [argsL, Nat.reduceAdd]
  repeat first | refine R1 ?_ | refine R2 fun _ => ?_
  refine Xv (szWorld_v _ _ w b0 1048576 (by decide) (by decide)) ?_
  repeat first | refine R1 ?_ | refine R2 fun _ => ?_
  refine sf_if (fun h1 => ?_) fun h1 => ?_
  · repeat first | refine R1 ?_ | refine R2 fun _ => ?_
    exact sf_ret (rO [] rfl)
  have hs : szWorldN w ≤ 1048576 := by have := (szF_ge h1).1; omega
  clear h1
  repeat first | refine R1 ?_ | refine R2 fun _ => ?_
  refine fp (y_call (toWorld_f _ _ w b0 hs) (by rfl) ?_)
  rintro _ A1 ⟨_, rfl, q1⟩
  have q1' := q1
  obtain ⟨x1, x2, x3, x4, x5, x6, _, _, _, _, _, _, rfl, -, ⟨r1, -⟩, ⟨r2, -⟩, r3, r4, r5, r6⟩ := worldO q1
  have tx1 := r1.one
  have tx2 := r2.one
  have tx3 := r3.one
  have tx4 := r4.one
  have tx5 := r5.one
  have tx6 := r6.one
  clear r1 r2 r3 r4 r5 r6
  repeat first | refine R1 ?_ | refine R2 fun _ => ?_
  refine fp (y_lendV A1 (fun h' _ i => sWorldOk_v h' _ w ((worldR τ).lent q1' i)) (by rfl) ?_)
  repeat first | refine R1 ?_ | refine R2 fun _ => ?_
  refine fp (y_call (toWorld_f _ _ w b0 hs) (by rfl) ?_)
  rintro _ A2 ⟨_, rfl, q2⟩
  have q2' := q2
  obtain ⟨y1, y2, y3, y4, y5, y6, _, _, _, _, _, _, rfl, -, ⟨r1, -⟩, ⟨r2, -⟩, r3, r4, r5, r6⟩ := worldO q2
  have ty1 := r1.one
  have ty2 := r2.one
  have ty3 := r3.one
  have ty4 := r4.one
  have ty5 := r5.one
  have ty6 := r6.one
  clear r1 r2 r3 r4 r5 r6
  repeat first | refine R1 ?_ | refine R2 fun _ => ?_
  refine fp (y_lendV A2 (fun h' _ i => worldOk_v h' _ w ((worldR τ).lent q2' i)) (by rfl) ?_)
  repeat first | refine R1 ?_ | refine R2 fun _ => ?_
  simp only [decide_true]
  refine sf_cond (by rfl) (fun e => by simp at e) fun e => ?_
  clear e
  repeat first | refine R1 ?_ | refine R2 fun _ => ?_
  refine Sd [[],[],[1],[0,1,2],[0,1,2,3]] 3 [Nn 0,Nn 1,Yy 2] ?_
  refine Da ?_
  refine Yc (toWorld_f _ _ w b0 hs) ?_
  rintro _ A5 ⟨_, rfl, q5⟩
  refine Ae ?_
  refine fp (y_lendV (A2 ++ A5) (fun h' _ i => eqWorld_v h' _ _ _ _ ((worldR τ).lent q2' (inb_l i)) ((worldR τ).lent q5 (inb_r i))) (by rfl) ?_)
  simp only [decide_true]
  repeat first | refine R1 ?_ | refine R2 fun _ => ?_
  refine sf_cond (by rfl) (fun e => by simp at e) fun e => ?_
  clear e
  repeat first | refine R1 ?_ | refine R2 fun _ => ?_
  exact sf_ret (rO [] rfl)
end Go.Proofs.YtekjikbaefgncaaGreatDoor

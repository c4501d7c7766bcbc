/- Walks of the seat: SF SH G1 G2 XeA XeC XhA XhC XmA XmC XsA XsB XsC XtA XtB XtC EH. -/
import Derived.Test.YtekjikbaefgncaaGreatDoorOwnB
import Derived.Test.YtekjikbaefgncaaGreatDoorLibC
import Derived.Test.YtekjikbaefgncaaGreatDoorLibD
import Derived.Test.YtekjikbaefgncaaGreatDoorOwnA
import Derived.Test.YtekjikbaefgncaaGreatDoorSmH
set_option linter.unusedVariables false
set_option linter.unusedSimpArgs false
set_option linter.unusedSectionVars false
/- Walks of the reference: a keeper takes an edit in. -/
namespace Go.Proofs.YtekjikbaefgncaaGreatDoor
open Go Go.Sl
set_option maxRecDepth 100000
set_option maxHeartbeats 4000000
attribute [local irreducible] Go.Code.sf sfOps Opq opo retF Do1 anyO
variable {M : Jdg → Prop} [IsCl Tryz.prog M]
theorem l14Edits_f (h : PHeap) (v : Value) (xs : List Edit) (s : Sl h v editF xs) (hs : xs.length ≤ 1048576) : CallF Tryz.prog M 166 [v] [] h fun v' A => Gr A v' 69 editF xs := by
  have o1 := s.one
  refine calls_of_sf Tryz.func166 rfl Tryz.ntmps166 ?_
  simp only [argsL, Nat.reduceAdd]
  repeat (first | refine R1 ?_ | (refine R2 ?_; intro _))
  refine fp (y_bs (by rfl) (by rfl) (by rfl) (by rfl) (by decide) fun w A gw => ?_)
  repeat (first | refine R1 ?_ | (refine R2 ?_; intro _))
  refine fp (y_appendS (by rfl) (by rfl) gw s (fun y _ => FlatOne.one y) (by rfl) (by rfl) (by simp; omega) (by simp; omega) fun w2 A2 g2 => ?_)
  repeat (first | refine R1 ?_ | (refine R2 ?_; intro _))
  exact sf_ret (rO A2 g2)
theorem l22Copy_f (h : PHeap) (ca : List Value) (k : Keeper) (b : (keeperR τ).B h ca k) (hs : szKeeperN k ≤ 1048576) : CallF Tryz.prog M 109 [.agg ca.toArray] [] h fun u A => ∃ cs, u = .agg cs.toArray ∧ (keeperR τ).O A cs k := by
  obtain ⟨z1, z2, z3, z4⟩ := szKeeper_parts hs
  have hz3 : szPartSN k.parts = k.parts.length + sizeL szPartN k.parts := rfl
  have hz4 : szShownSN k.shown = k.shown.length + sizeL szShownN k.shown := rfl
  obtain ⟨c, ed, p, s, rfl, s1, s2, s3, s4⟩ := keeperB b
  have o1 := s1.one
  have o2 := s2.one
  have o3 := s3.one
  have o4 := s4.one
  obtain ⟨rp, sp, bp⟩ := s3
  obtain ⟨rs, ss, bs⟩ := s4
  have lp := bp.len
  have ls := bs.len
  refine calls_of_sf Tryz.func109 rfl Tryz.ntmps109 ?_
  simp only [argsL, Nat.reduceAdd]
  repeat (first | refine R1 ?_ | (refine R2 ?_; intro _))
  refine sf_draw (by kernel_rfl) (regX_split 2 7 (by rfl) (regX_split 5 7 (by rfl) ?_ ?_) ?_)
  case' refine_1 =>
    refine (regX_run [[], [0], [0, 1], [], [3], [0, 1, 2, 3, 4], [0, 1, 2, 3, 4, 5], [0, 1, 2, 3, 4, 5], [0, 1, 2, 3, 4, 5, 6, 7]] 8 [(0, false), (1, false), (3, false), (4, false), (2, true), (5, true), (6, false), (7, true)] (by kernel_rfl) (by kernel_rfl) (by kernel_rfl) ?_)
    repeat (refine Da1 ?_)
    refine a_call (l1Copy_f _ _ k.first (gridB_mk s1) z1) (by rfl) (by rfl) (.inl rfl) ?_
    rintro _ AC ⟨_, rfl, q⟩
    obtain ⟨c2, rfl, g1, l1⟩ := gridO q
    have o5 := g1.one
    repeat (refine Da1 ?_)
    refine a_call (l14Edits_f _ _ _ s2 z2) (by rfl) (by rfl) (.inl rfl) fun e2 AE ge => ?_
    have o6 := ge.one
    repeat (refine Da1 ?_)
    refine a_alloc (by rfl) (.inl rfl) fun b5 => ?_
    repeat (refine Da1 ?_)
    (refine a_end (by rfl) (by rfl) ?_; simp only [finA, setL, List.drop_succ_cons, List.drop_zero])
    repeat (first | refine R1 ?_ | (refine R2 ?_; intro _))
    rename_i b1 b2
    refine sf_own ((b5, .cells #[.int .i64 k.first.wide, c2, e2, .slice none 0 0, .slice none 0 0] 39) :: ([] ++ [] ++ (AC ++ (AE ++ [(b2, .cells #[.int .i64 0, .slice none 0 0, .slice none 0 0, .slice none 0 0, .slice none 0 0] 39), (b1, .cells #[.int .i64 k.first.wide, c, ed, p, s] 39)])))) ?_
  case' refine_2 =>
    refine (regX_run [[], [0], [0, 1], [], [3], [0, 1, 2, 3, 4, 7], [0, 1, 2, 3, 4, 5, 7], [0, 1, 2], [0, 1, 2, 3, 4, 5, 6, 7]] 8 [(0, false), (1, false), (3, false), (4, false), (2, true), (7, true), (5, true), (6, false)] (by kernel_rfl) (by kernel_rfl) (by kernel_rfl) ?_)
    repeat (refine Da1 ?_)
    refine a_call (l1Copy_f _ _ k.first (gridB_mk s1) z1) (by rfl) (by rfl) (.inl rfl) ?_
    rintro _ AC ⟨_, rfl, q⟩
    obtain ⟨c2, rfl, g1, l1⟩ := gridO q
    have o5 := g1.one
    repeat (refine Da1 ?_)
    refine a_alloc (by rfl) (.inl rfl) fun b5 => ?_
    repeat (refine Da1 ?_)
    refine a_call (l14Edits_f _ _ _ s2 z2) (by rfl) (by rfl) (.inl rfl) fun e2 AE ge => ?_
    have o6 := ge.one
    repeat (refine Da1 ?_)
    (refine a_end (by rfl) (by rfl) ?_; simp only [finA, setL, List.drop_succ_cons, List.drop_zero])
    repeat (first | refine R1 ?_ | (refine R2 ?_; intro _))
    rename_i b1 b2
    refine sf_own ((b5, .cells #[.int .i64 k.first.wide, c2, e2, .slice none 0 0, .slice none 0 0] 39) :: ([] ++ [] ++ (AC ++ (AE ++ [(b2, .cells #[.int .i64 0, .slice none 0 0, .slice none 0 0, .slice none 0 0, .slice none 0 0] 39), (b1, .cells #[.int .i64 k.first.wide, c, ed, p, s] 39)])))) ?_
  case' refine_3 =>
    refine (regX_run [[], [0], [0, 1, 7], [], [3], [0, 1, 2, 3, 4, 7], [0, 1, 2, 3, 4, 5, 7], [], [0, 1, 2, 3, 4, 5, 6, 7]] 8 [(0, false), (1, false), (3, false), (4, false), (7, true), (2, true), (5, true), (6, false)] (by kernel_rfl) (by kernel_rfl) (by kernel_rfl) ?_)
    repeat (refine Da1 ?_)
    refine a_alloc (by rfl) (.inl rfl) fun b5 => ?_
    repeat (refine Da1 ?_)
    refine a_call (l1Copy_f _ _ k.first (gridB_mk s1) z1) (by rfl) (by rfl) (.inl rfl) ?_
    rintro _ AC ⟨_, rfl, q⟩
    obtain ⟨c2, rfl, g1, l1⟩ := gridO q
    have o5 := g1.one
    repeat (refine Da1 ?_)
    refine a_call (l14Edits_f _ _ _ s2 z2) (by rfl) (by rfl) (.inl rfl) fun e2 AE ge => ?_
    have o6 := ge.one
    repeat (refine Da1 ?_)
    (refine a_end (by rfl) (by rfl) ?_; simp only [finA, setL, List.drop_succ_cons, List.drop_zero])
    repeat (first | refine R1 ?_ | (refine R2 ?_; intro _))
    rename_i b1 b2
    refine sf_own ((b5, .cells #[.int .i64 k.first.wide, c2, e2, .slice none 0 0, .slice none 0 0] 39) :: ([] ++ [] ++ (AC ++ (AE ++ [(b2, .cells #[.int .i64 0, .slice none 0 0, .slice none 0 0, .slice none 0 0, .slice none 0 0] 39), (b1, .cells #[.int .i64 k.first.wide, c, ed, p, s] 39)])))) ?_
  all_goals
    refine sf_lp [1, 2, 3] (fun i : Nat => [(4, .int .i64 (i : Int))]) (fun i O => i ≤ k.parts.length ∧ ∃ pv A0 A1, O = (b5, .cells #[.int .i64 k.first.wide, c2, e2, pv, .slice none 0 0] 39) :: (A0 ++ A1 ++ (AC ++ (AE ++ [(b2, .cells #[.int .i64 0, .slice none 0 0, .slice none 0 0, .slice none 0 0, .slice none 0 0] 39), (b1, .cells #[.int .i64 k.first.wide, c, ed, p, s] 39)]))) ∧ ∃ qs : List (Raw (partR τ).sz), qs.length = i ∧ Gr A0 pv 113 (rawF (partR τ).sz) qs ∧ OAll (partR τ) A1 qs (k.parts.take i)) (fun i => k.parts.length - i) 0 ((b5, .cells #[.int .i64 k.first.wide, c2, e2, .slice none 0 0, .slice none 0 0] 39) :: ([] ++ [] ++ (AC ++ (AE ++ [(b2, .cells #[.int .i64 0, .slice none 0 0, .slice none 0 0, .slice none 0 0, .slice none 0 0] 39), (b1, .cells #[.int .i64 k.first.wide, c, ed, p, s] 39)])))) ⟨by omega, _, [], [], rfl, [], rfl, Gr.nil _ _, .nil⟩ ?_
    rintro i O ⟨hi, pv, A0, A1, rfl, qs, hq, gq, oa⟩
    have o7 := gq.one
    repeat (first | refine R1 ?_ | (refine R2 ?_; intro _))
    refine sf_if (fun h4 => ?_) fun h4 => ?_
    · have hi4 : i < k.parts.length := by omega
      have hi5 : i < rp.length := by omega
      obtain ⟨l, ex, sl⟩ := partB (bp.at hi4)
      have ol := sl.one
      haveI : FlatV (rawF (partR τ).sz) (gt rp i) [.bool (gt k.parts i).has, .int .i64 (gt k.parts i).ver, l] := ⟨ex⟩
      have hsz := sizeL_at (f := szPartN) hi4
      have hsl : (gt k.parts i).lights.length ≤ 1048576 := by simp only [szPartN] at hsz hz3; omega
      repeat (first | refine R1 ?_ | (refine R2 ?_; intro _))
      refine fp (y_bs (by rfl) (by rfl) (by rfl) (by rfl) (by decide) fun w Aw gw => ?_)
      have ow := gw.one
      repeat (first | refine R1 ?_ | (refine R2 ?_; intro _))
      refine fp (y_appendS (by rfl) (by rfl) gw sl (fun y _ => FlatOne.one y) (by rfl) (by rfl) (by simp; omega) (by simp; omega) fun l2 AL gl => ?_)
      have ol2 := gl.one
      repeat (first | refine R1 ?_ | (refine R2 ?_; intro _))
      refine fp (y_bs (by rfl) (by rfl) (by rfl) (by rfl) (by decide) fun u Au gu => ?_)
      repeat (first | refine R1 ?_ | (refine R2 ?_; intro _))
      refine fp (y_append (by rfl) (by rfl) gq gu (by intro y hy; simp at hy; subst hy; exact (inferInstance : AllOne [Value.bool (gt k.parts i).has, .int .i64 (gt k.parts i).ver, l2]).is) (by rfl) (by rfl) (by simp; omega) (by simp; omega) fun pv2 A5 g5 => ?_)
      have o8 := g5.one
      repeat (first | refine R1 ?_ | (refine R2 ?_; intro _))
      refine ⟨i + 1, by omega, ⟨rfl, trivial⟩, rfl, (b5, .cells #[.int .i64 k.first.wide, c2, e2, pv2, .slice none 0 0] 39) :: (A5 ++ (A1 ++ AL) ++ (AC ++ (AE ++ [(b2, .cells #[.int .i64 0, .slice none 0 0, .slice none 0 0, .slice none 0 0, .slice none 0 0] 39), (b1, .cells #[.int .i64 k.first.wide, c, ed, p, s] 39)]))), _, inferInstance, by omega, pv2, A5, A1 ++ AL, rfl, _, by simp [hq], g5, ?_⟩
      rw [take_succ_gt hi4]
      exact oa.snoc (partO_mk (p := gt k.parts i) gl (by omega))
    · refine sf_exit ?_
      rw [take_ge hi (by omega)] at oa
      clear h4
      repeat (first | refine R1 ?_ | (refine R2 ?_; intro _))
      refine sf_lp [1, 2, 3] (fun j : Nat => [(6, .int .i64 (j : Int))]) (fun j O => j ≤ k.shown.length ∧ ∃ sv A3 A4, O = (b5, .cells #[.int .i64 k.first.wide, c2, e2, pv, sv] 39) :: (A3 ++ A4 ++ (A0 ++ A1 ++ (AC ++ (AE ++ [(b2, .cells #[.int .i64 0, .slice none 0 0, .slice none 0 0, .slice none 0 0, .slice none 0 0] 39), (b1, .cells #[.int .i64 k.first.wide, c, ed, p, s] 39)])))) ∧ ∃ ts : List (Raw (shownR τ).sz), ts.length = j ∧ Gr A3 sv 117 (rawF (shownR τ).sz) ts ∧ OAll (shownR τ) A4 ts (k.shown.take j)) (fun j => k.shown.length - j) 0 ((b5, .cells #[.int .i64 k.first.wide, c2, e2, pv, .slice none 0 0] 39) :: ([] ++ [] ++ (A0 ++ A1 ++ (AC ++ (AE ++ [(b2, .cells #[.int .i64 0, .slice none 0 0, .slice none 0 0, .slice none 0 0, .slice none 0 0] 39), (b1, .cells #[.int .i64 k.first.wide, c, ed, p, s] 39)]))))) ⟨by omega, _, [], [], rfl, [], rfl, Gr.nil _ _, .nil⟩ ?_
      rintro j O ⟨hj, sv, A3, A4, rfl, ts, ht, gt', ob⟩
      have o8 := gt'.one
      repeat (first | refine R1 ?_ | (refine R2 ?_; intro _))
      refine sf_if (fun h4 => ?_) fun h4 => ?_
      · have hj4 : j < k.shown.length := by omega
        have hj5 : j < rs.length := by omega
        obtain ⟨l, ex, sl⟩ := shownB (bs.at hj4)
        have ol := sl.one
        haveI : FlatV (rawF (shownR τ).sz) (gt rs j) [.int .i64 (gt k.shown j).ver, l] := ⟨ex⟩
        have hsz := sizeL_at (f := szShownN) hj4
        have hsl : (gt k.shown j).pic.length ≤ 1048576 := by simp only [szShownN] at hsz hz4; omega
        repeat (first | refine R1 ?_ | (refine R2 ?_; intro _))
        refine sf_draw (by kernel_rfl) (regX_run [[], [0], [], [2], [], [2, 3, 4], [2, 3, 4, 5], [2, 3, 4, 5, 6], [], [], [9], [], [9, 10, 11], [9, 10, 11, 12], [9, 10, 11, 12, 13], [8, 9, 10, 11, 12, 13, 14], [2, 3, 4, 5, 6, 7, 8, 9, 10, 11, 12, 13, 14, 15], [2, 3, 4, 5, 6, 7, 8, 9, 10, 11, 12, 13, 14, 15, 16], [0, 1, 2, 3, 4, 5, 6, 7, 8, 9, 10, 11, 12, 13, 14, 15, 16, 17], [0, 1, 2, 3, 4, 5, 6, 7, 8, 9, 10, 11, 12, 13, 14, 15, 16, 17, 18], [0, 1, 2, 3, 4, 5, 6, 7, 8, 9, 10, 11, 12, 13, 14, 15, 16, 17, 18, 19]] 18 [(0, false), (1, false), (2, false), (3, false), (4, false), (5, false), (6, false), (7, false), (9, false), (10, false), (11, false), (12, false), (13, false), (14, false), (8, true), (15, true), (16, false), (17, true)] (by kernel_rfl) (by kernel_rfl) (by kernel_rfl) ?_)
        repeat (refine Da1 ?_)
        refine a_bs (by rfl) (by rfl) (by infer_instance) (by infer_instance) (by infer_instance) (by infer_instance) (by rfl) (by rfl) (by rfl) (by decide) (.inl rfl) fun w Aw gw => ?_
        have ow := gw.one
        repeat (refine Da1 ?_)
        refine a_appendS (by rfl) (by rfl) (by rfl) gw sl (by infer_instance) (by infer_instance) (fun y _ => FlatOne.one y) (by rfl) (by rfl) (by simp; omega) (by simp; omega) (.inl rfl) fun l2 AL gl => ?_
        have ol2 := gl.one
        repeat (refine Da1 ?_)
        refine a_bs (by rfl) (by rfl) (by infer_instance) (by infer_instance) (by infer_instance) (by infer_instance) (by rfl) (by rfl) (by rfl) (by decide) (.inl rfl) fun u Au gu => ?_
        repeat (refine Da1 ?_)
        (refine a_end (by rfl) (by rfl) ?_; simp only [finA, setL, List.drop_succ_cons, List.drop_zero])
        repeat (first | refine R1 ?_ | (refine R2 ?_; intro _))
        refine fp (y_append (by rfl) (by rfl) gt' gu (by intro y hy; simp at hy; subst hy; exact (inferInstance : AllOne [Value.int .i64 (gt k.shown j).ver, l2]).is) (by rfl) (by rfl) (by simp; omega) (by simp; omega) fun sv2 A5 g5 => ?_)
        have o9 := g5.one
        repeat (first | refine R1 ?_ | (refine R2 ?_; intro _))
        refine ⟨j + 1, by omega, ⟨rfl, trivial⟩, rfl, (b5, .cells #[.int .i64 k.first.wide, c2, e2, pv, sv2] 39) :: (A5 ++ (A4 ++ AL) ++ (A0 ++ A1 ++ (AC ++ (AE ++ [(b2, .cells #[.int .i64 0, .slice none 0 0, .slice none 0 0, .slice none 0 0, .slice none 0 0] 39), (b1, .cells #[.int .i64 k.first.wide, c, ed, p, s] 39)])))), _, inferInstance, by omega, sv2, A5, A4 ++ AL, rfl, _, by simp [ht], g5, ?_⟩
        rw [take_succ_gt hj4]
        exact ob.snoc (shownO_mk (p := gt k.shown j) gl (by omega))
      · refine sf_exit ?_
        rw [take_ge hj (by omega)] at ob
        repeat (first | refine R1 ?_ | (refine R2 ?_; intro _))
        exact sf_ret (rO (AC ++ (AE ++ ((A0 ++ A1) ++ (A3 ++ A4)))) ⟨_, rfl, keeperO_mk g1 l1 ge (by omega) ⟨A0, A1, rfl, qs, gq, oa, by omega⟩ ⟨A3, A4, rfl, ts, gt', ob, by omega⟩⟩)
theorem sKeepEdit_f (h : PHeap) (ca : List Value) (k : Keeper) (b : (keeperR τ).B h ca k) (hs : szKeeperN k ≤ 1048576) (e : Edit) : CallF Tryz.prog M 44 [.agg ca.toArray, .agg #[.int .i64 e.at', .int .i64 e.cell.kind, .int .i64 e.cell.light]] [] h fun u A => ∃ cs, u = .tuple #[.agg cs.toArray, .bool (keepEdit k e).2] ∧ (keeperR τ).O A cs (keepEdit k e).1 := by
  have b0 := b
  obtain ⟨c, ed, p, s, rfl, s1, s2, s3, s4⟩ := keeperB b
  have o1 := s1.one
  have o2 := s2.one
  have o3 := s3.one
  have o4 := s4.one
  have hs2 := s2.small
  have eF : ¬ (keepOk k = true ∧ k.edits.length < 60 ∧ editOk k.first e = true) → keepEdit k e = (noKeeper, false) := fun x => by rw [keepEdit, if_neg x]
  refine calls_of_sf Tryz.func44 rfl Tryz.ntmps44 ?_
  simp only [argsL, Nat.reduceAdd]
  repeat (first | refine R1 ?_ | (refine R2 ?_; intro _))
  refine fp (y_callV (sKeepOk_v _ _ k b0) (by rfl) ?_)
  repeat (first | refine R1 ?_ | (refine R2 ?_; intro _))
  refine f_splitB (fun h1 => ?_) fun h1 => ?_
  · have h1' := h1
    simp only [Bool.not_eq_true'] at h1'
    repeat (first | refine R1 ?_ | (refine R2 ?_; intro _))
    refine sf_T rfl ?_
    repeat (first | refine R1 ?_ | (refine R2 ?_; intro _))
    rw [eF (by simp [h1'])]
    exact sf_ret (rO [] ⟨[.int .i64 0, .slice none 0 0, .slice none 0 0, .slice none 0 0, .slice none 0 0], rfl, noKeeperO⟩)
  have h1' := h1
  simp only [Bool.not_eq_false'] at h1'
  have hk := keepOk_head h1'
  have h60 := hk.e60
  repeat (first | refine R1 ?_ | (refine R2 ?_; intro _))
  refine f_split (fun h2 => ?_) fun h2 => ?_
  · repeat (first | refine R1 ?_ | (refine R2 ?_; intro _))
    refine sf_T rfl ?_
    repeat (first | refine R1 ?_ | (refine R2 ?_; intro _))
    rw [eF (by omega)]
    exact sf_ret (rO [] ⟨[.int .i64 0, .slice none 0 0, .slice none 0 0, .slice none 0 0, .slice none 0 0], rfl, noKeeperO⟩)
  repeat (first | refine R1 ?_ | (refine R2 ?_; intro _))
  refine fp (y_bs (by rfl) (by rfl) (by rfl) (by rfl) (by decide) fun w Aw gw => ?_)
  have ow := gw.one
  repeat (first | refine R1 ?_ | (refine R2 ?_; intro _))
  refine fp (y_lendV Aw (fun h' l' inb => l13Edits_v h' c k.first (s1.le l'.le) w [e] (gw.lent (by simp) inb)) (by rfl) ?_)
  have ee : (decide (([e] : List Edit).length ≤ 20) && editsOk k.first [e]) = editOk k.first e := by simp [editsOk]
  rw [ee]
  repeat (first | refine R1 ?_ | (refine R2 ?_; intro _))
  refine sf_cond (by rfl) (fun h3 => ?_) fun h3 => ?_
  · simp only [Bool.not_eq_true'] at h3
    repeat (first | refine R1 ?_ | (refine R2 ?_; intro _))
    rw [eF (by simp [h3])]
    exact sf_ret (rO [] ⟨[.int .i64 0, .slice none 0 0, .slice none 0 0, .slice none 0 0, .slice none 0 0], rfl, noKeeperO⟩)
  simp only [Bool.not_eq_false'] at h3
  rw [show keepEdit k e = (withEdit k e, true) by rw [keepEdit, if_pos ⟨h1', by omega, h3⟩]]
  repeat (first | refine R1 ?_ | (refine R2 ?_; intro _))
  refine fp (y_call (l22Copy_f _ _ k b0 hs) (by rfl) ?_)
  rintro _ AC ⟨cc, rfl, q⟩
  obtain ⟨c5, e5, p5, s5, A1, A2, A3, A4, rfl, rfl, ⟨g1, l1⟩, ⟨g2, l2⟩, g3, g4⟩ := keeperO q
  have o5 := g1.one
  have o6 := g2.one
  have o7 := g3.one
  have o8 := g4.one
  repeat (first | refine R1 ?_ | (refine R2 ?_; intro _))
  refine fp (y_bs (by rfl) (by rfl) (by rfl) (by rfl) (by decide) fun u Au gu => ?_)
  repeat (first | refine R1 ?_ | (refine R2 ?_; intro _))
  refine fp (y_append (by rfl) (by rfl) g2 gu (fun y _ => FlatOne.one y) (by rfl) (by rfl) (by simp; omega) (by simp; omega) fun e6 A6 g6 => ?_)
  have o9 := g6.one
  repeat (first | refine R1 ?_ | (refine R2 ?_; intro _))
  exact sf_ret (rO (A1 ++ (A6 ++ (A3 ++ A4))) ⟨[.int .i64 k.first.wide, c5, e6, p5, s5], rfl, keeperO_mk (k := withEdit k e) g1 l1 g6 (by simp [withEdit]; omega) g3 g4⟩)
end Go.Proofs.YtekjikbaefgncaaGreatDoor

/- Walks of the reference: a keeper hears a word. -/
namespace Go.Proofs.YtekjikbaefgncaaGreatDoor
open Go Go.Sl
set_option maxRecDepth 100000
set_option maxHeartbeats 4000000
attribute [local irreducible] Go.Code.sf sfOps Opq opo retF Do1 anyO
variable {M : Jdg → Prop} [IsCl Tryz.prog M]
theorem sSetPart_at (k : Keeper) (i j : Nat) (p : Part) (hj : j < k.parts.length) : gt (setPart k i p).parts j = if i = j then p else gt k.parts j := by
  rw [gt_eq (by simpa [setPart] using hj), gt_eq hj]
  simp only [setPart, List.getElem_set]
theorem sPub_first (k : Keeper) : (published k).first = k.first ∧ (published k).edits = k.edits ∧ (published k).parts = k.parts := by
  unfold published; split <;> exact ⟨rfl, rfl, rfl⟩
theorem sPub_no {k : Keeper} {i : Nat} (hi : i < k.parts.length) : published (setPart k i noPart) = setPart k i noPart := by
  have h1 : partsSame (setPart k i noPart) (setPart k i noPart).parts.length = false := partsSame_F (i := i) (by simpa [setPart] using hi) (by rw [sSetPart_at k i i _ hi, if_pos rfl]; rfl)
  unfold published
  rw [h1]; rfl
theorem sPl_set {k : Keeper} (pl : ∀ i, i < k.parts.length → (gt k.parts i).has = true → (gt k.parts i).lights.length = ownCnt (manyOf k.first).toNat k.parts.length (i + 1)) (i : Nat) (q : Part) (hq : q.has = true → q.lights.length = ownCnt (manyOf k.first).toNat k.parts.length (i + 1)) :
    ∀ j, j < (setPart k i q).parts.length → (gt (setPart k i q).parts j).has = true → (gt (setPart k i q).parts j).lights.length = ownCnt (manyOf (setPart k i q).first).toNat (setPart k i q).parts.length (j + 1) := fun j hj hh => by
  have hl : (setPart k i q).parts.length = k.parts.length := by simp [setPart]
  have hj' : j < k.parts.length := by omega
  rw [sSetPart_at _ _ _ _ hj'] at hh ⊢
  rw [hl]
  by_cases e : i = j
  · subst e
    rw [if_pos rfl] at hh ⊢
    exact hq hh
  · rw [if_neg e] at hh ⊢
    exact pl j hj' hh
theorem l22Hear_f (h : PHeap) (A : Own) (ca : List Value) (k : Keeper) (b : (keeperR τ).O A ca k) (ok : keepOk k = true) (hs : szKeeperN k ≤ 1048576) (cw : List Value) (w : Word) (bw : (wordR τ).B h cw w) (hw : w.lights.length ≤ 1048576) : CallF Tryz.prog M 119 [.agg ca.toArray, .agg cw.toArray] A h fun u A' => ∃ cs, u = .agg cs.toArray ∧ (keeperR τ).O A' cs (heard k w) := by
  have b0 := b
  obtain ⟨z1, z2, z3, z4⟩ := szKeeper_parts hs
  have hz4 : szShownSN k.shown = k.shown.length + sizeL szShownN k.shown := rfl
  have hk := keepOk_head ok
  have n1 := hk.n1
  have n3 := hk.n3
  have h60 := hk.e60
  obtain ⟨c, ed, p, s, A1, A2, A3, A4, rfl, rfl, ⟨g1, l1⟩, ⟨g2, le2⟩, g3, g4⟩ := keeperO b
  have o1 := g1.one
  have o2 := g2.one
  have o3 := g3.one
  have o4 := g4.one
  obtain ⟨wc, wl, rfl, sw1, sw2⟩ := wordB bw
  have o5 := sw1.one
  have o6 := sw2.one
  obtain ⟨B0, B1, rfl, rs, gq, oa, hq4⟩ := g3
  have lq := oa.len
  have hsh : k.shown.length ≤ 1048576 := by omega
  refine calls_of_sf Tryz.func119 rfl Tryz.ntmps119 ?_
  simp only [argsL, Nat.reduceAdd]
  repeat (first | refine R1 ?_ | (refine R2 ?_; intro _))
  refine fp (y_callV (l6In_v _ _ _ _) (by rfl) ?_)
  repeat (first | refine R1 ?_ | (refine R2 ?_; intro _))
  refine sf_cond (by rfl) (fun h1 => ?_) fun h1 => ?_
  · repeat (first | refine R1 ?_ | (refine R2 ?_; intro _))
    rw [heard, if_neg (by intro y; simp at h1; omega)]
    exact sf_ret (rO (A1 ++ (A2 ++ ((B0 ++ B1) ++ A4))) ⟨[.int .i64 k.first.wide, c, ed, p, s], rfl, b0⟩)
  have hr : 1 ≤ w.frm ∧ w.frm ≤ k.parts.length := by simp at h1; omega
  rw [heard, if_pos hr]
  obtain ⟨i, hi, hz⟩ : ∃ i : Nat, i < k.parts.length ∧ w.frm = i + 1 := ⟨(w.frm - 1).toNat, by omega, by omega⟩
  have ei : w.frm.toNat - 1 = i := by omega
  have ez : w.frm - 1 = (i : Int) := by omega
  rw [ei]
  have hi5 : i < rs.length := by omega
  obtain ⟨C1, Ck, C2, rfl, qk, oset⟩ := oa.at hi
  obtain ⟨lk0, exk, gk, lk1⟩ := partO qk
  have olk := gk.one
  haveI : FlatV (rawF (partR τ).sz) (gt rs i) [.bool (gt k.parts i).has, .int .i64 (gt k.parts i).ver, lk0] := ⟨exk⟩
  have hpl := sPl_of ok
  repeat (first | refine R1 ?_ | (refine R2 ?_; intro _))
  refine sf_if (fun h3 => ?_) fun h3 => ?_
  · rw [if_pos h3]
    repeat (first | refine R1 ?_ | (refine R2 ?_; intro _))
    simp only [ez]
    repeat (first | refine R1 ?_ | (refine R2 ?_; intro _))
    refine fp (y_bs (by rfl) (by rfl) (by rfl) (by rfl) (by decide) fun w0 Aw gw => ?_)
    have ow := gw.one
    repeat (first | refine R1 ?_ | (refine R2 ?_; intro _))
    refine fp (y_storeG0 (by rfl) (by rfl) gq (by omega) (by rfl) fun D0 ys ey ly _ g5 => ?_)
    have oall := oset Aw ⟨[.bool false, .int .i64 0, w0], rfl⟩ noPart (partO_mk (p := noPart) gw (by decide))
    have g3' : GrR (partR τ) (D0 ++ (C1 ++ (Aw ++ C2))) p 113 (setPart k i noPart).parts := ⟨D0, _, rfl, ys, g5, by rw [ey]; exact oall, by simp [setPart]; omega⟩
    repeat (first | refine R1 ?_ | (refine R2 ?_; intro _))
    exact sf_ret (rO (A1 ++ (A2 ++ ((D0 ++ (C1 ++ (Aw ++ C2))) ++ A4))) ⟨[.int .i64 k.first.wide, c, ed, p, s], rfl, keeperO_mk (k := setPart k i noPart) g1 l1 g2 le2 g3' g4⟩)
  rw [if_neg h3]
  have hN : takesWord k w = false → (if w.kind = 3 ∧ takesWord k w = true then published (setPart k i ⟨true, w.ver, w.lights⟩) else k) = k := fun x => by rw [if_neg (fun y => by rw [x] at y; cases y.2)]
  have htw : takesWord k w = (verOk k w.ver && decide (w.lights.length = ownCnt (manyOf k.first).toNat k.parts.length (i + 1))) := by rw [takesWord, hz]; rfl
  have c21 : ∀ h, CallV Tryz.prog M 60 [.int .i64 w.ver, .int .i64 0, .int .i64 k.edits.length] h (.bool (verOk k w.ver)) := fun h => l6In_v h _ _ _
  repeat (first | refine R1 ?_ | (refine R2 ?_; intro _))
  by_cases h4 : w.kind = 3
  · have h4' : ¬ (w.kind ≠ 3) := fun x => x h4
    cases hv : verOk k w.ver with
    | false =>
      rw [hv] at c21
      refine sf_draw (by kernel_rfl) (regX_run [[], [0], [0, 1], [0, 1, 2], [0, 1, 2, 3], [0, 1, 2, 3, 4], [0, 1, 2, 3], [0, 1, 2, 3, 6], [0, 1, 2, 3, 6, 7], [0, 1, 2, 3, 4, 5, 6, 7, 8], [0, 1, 2, 3, 4, 5, 6, 7, 8, 9], [0, 1, 2, 3, 4, 5, 6, 7, 8, 9, 10], [0, 1, 2, 3, 4, 5, 6, 7, 8, 9, 10, 11], [0, 1, 2, 3, 4, 5, 6, 7, 8, 9, 10, 11, 12], [0, 1, 2, 3, 4, 5, 6, 7, 8, 9, 10, 11, 12, 13], [0, 1, 2, 3, 4, 5, 6, 7, 8, 9, 10, 11, 12, 13, 14], [0, 1, 2, 3, 4, 5, 6, 7, 8, 9, 10, 11, 12], [0, 1, 2, 3, 4, 5, 6, 7, 8, 9, 10, 11, 12, 16], [0, 1, 2, 3, 4, 5, 6, 7, 8, 9, 10, 11, 12], [0, 1, 2, 3, 4, 5, 6, 7, 8, 9, 10, 11, 12, 18], [0, 1, 2, 3, 4, 5, 6, 7, 8, 9, 10, 11, 12], [0, 1, 2, 3, 4, 5, 6, 7, 8, 9, 10, 11, 12, 20], [0, 1, 2, 3, 4, 5, 6, 7, 8, 9, 10, 11, 12, 20, 21], [0, 1, 2, 3, 4, 5, 6, 7, 8, 9, 10, 11, 12, 16, 17, 18, 19, 20, 21, 22], [0, 1, 2, 3, 4, 5, 6, 7, 8, 9, 10, 11, 12, 16, 17, 18, 19, 20, 21, 22, 23], [0, 1, 2, 3, 4, 5, 6, 7, 8, 9, 10, 11, 12, 13, 14, 15, 16, 17, 18, 19, 20, 21, 22, 23, 24], [0, 1, 2, 3, 4, 5, 6, 7, 8, 9, 10, 11, 12, 13, 14, 15, 16, 17, 18, 19, 20, 21, 22, 23, 24, 25]] 25 [(0, false), (1, false), (2, false), (3, false), (4, false), (5, false), (6, false), (7, false), (8, false), (9, true), (10, false), (11, false), (12, false), (13, false), (14, false), (15, false), (16, false), (17, false), (18, false), (19, false), (20, false), (21, false), (22, false), (23, false), (24, false)] (by kernel_rfl) (by kernel_rfl) (by kernel_rfl) ?_)
      repeat (refine Da1 ?_)
      refine a_callV (c21 h) (by rfl) (by rfl) (.inr ⟨_, _, _, _, rfl, by rfl, by rfl, decide_eq_false h4'⟩) ?_
      repeat (refine Da1 ?_)
      (refine a_end (by rfl) (by rfl) ?_; simp only [finA, setL, List.drop_succ_cons, List.drop_zero])
      repeat (first | refine R1 ?_ | (refine R2 ?_; intro _))
      refine sf_T rfl ?_
      repeat (first | refine R1 ?_ | (refine R2 ?_; intro _))
      rw [hN (by rw [htw, hv]; rfl)]
      exact sf_ret (rO (A1 ++ (A2 ++ ((B0 ++ (C1 ++ (Ck ++ C2))) ++ A4))) ⟨[.int .i64 k.first.wide, c, ed, p, s], rfl, b0⟩)
    | true =>
      rw [hv] at c21
      refine sf_draw (by kernel_rfl) (regX_own (A1) (regX_runW _ [[], [0], [0, 1], [0, 1, 2], [0, 1, 2, 3], [0, 1, 2, 3, 4], [0, 1, 2, 3], [0, 1, 2, 3, 6], [0, 1, 2, 3, 6, 7], [0, 1, 2, 3, 4, 5, 6, 7, 8], [0, 1, 2, 3, 4, 5, 6, 7, 8, 9], [0, 1, 2, 3, 4, 5, 6, 7, 8, 9, 10], [0, 1, 2, 3, 4, 5, 6, 7, 8, 9, 10, 11], [0, 1, 2, 3, 4, 5, 6, 7, 8, 9, 10, 11, 12], [0, 1, 2, 3, 4, 5, 6, 7, 8, 9, 10, 11, 12, 13], [0, 1, 2, 3, 4, 5, 6, 7, 8, 9, 10, 11, 12, 13, 14], [0, 1, 2, 3, 4, 5, 6, 7, 8, 9, 10, 11, 12], [0, 1, 2, 3, 4, 5, 6, 7, 8, 9, 10, 11, 12, 16], [0, 1, 2, 3, 4, 5, 6, 7, 8, 9, 10, 11, 12], [0, 1, 2, 3, 4, 5, 6, 7, 8, 9, 10, 11, 12, 18], [0, 1, 2, 3, 4, 5, 6, 7, 8, 9, 10, 11, 12], [0, 1, 2, 3, 4, 5, 6, 7, 8, 9, 10, 11, 12, 20], [0, 1, 2, 3, 4, 5, 6, 7, 8, 9, 10, 11, 12, 20, 21], [0, 1, 2, 3, 4, 5, 6, 7, 8, 9, 10, 11, 12, 16, 17, 18, 19, 20, 21, 22], [0, 1, 2, 3, 4, 5, 6, 7, 8, 9, 10, 11, 12, 16, 17, 18, 19, 20, 21, 22, 23], [0, 1, 2, 3, 4, 5, 6, 7, 8, 9, 10, 11, 12, 13, 14, 15, 16, 17, 18, 19, 20, 21, 22, 23, 24], [0, 1, 2, 3, 4, 5, 6, 7, 8, 9, 10, 11, 12, 13, 14, 15, 16, 17, 18, 19, 20, 21, 22, 23, 24, 25]] 25 [(0, false), (1, false), (2, false), (3, false), (4, false), (5, false), (6, false), (7, false), (8, false), (9, true), (10, false), (11, false), (12, false), (13, false), (14, false), (15, false), (16, false), (17, false), (18, false), (19, false), (20, false), (21, false), (22, false), (23, true), (24, false)] (by kernel_rfl) (by kernel_rfl) (by kernel_rfl) ?_))
      repeat (refine Da1 ?_)
      refine a_callV (c21 h) (by rfl) (by rfl) (.inr ⟨_, _, _, _, rfl, by rfl, by rfl, decide_eq_false h4'⟩) ?_
      repeat (refine Da1 ?_)
      rw [hz, lq]
      refine a_call (lendF A1 fun h' _ inb => l21Own_f h' c k.first (g1.lent l1 inb) (gok hk.grid) (i + 1) k.parts.length (by omega) (by omega) n3) (by rfl) (by rfl) (.inr ⟨_, _, _, _, rfl, by rfl, by rfl, by rfl⟩) ?_
      rintro xv _ ⟨AX, rfl, gx⟩
      have ox := gx.one
      have hl := ownList_len (manyOf k.first).toNat k.parts.length (i + 1)
      repeat (refine Da1 ?_)
      (refine a_end (by rfl) (by rfl) ?_; simp only [finA, setL, List.drop_succ_cons, List.drop_zero])
      repeat (first | refine R1 ?_ | (refine R2 ?_; intro _))
      refine sf_if (fun h6 => ?_) fun h6 => ?_
      · repeat (first | refine R1 ?_ | (refine R2 ?_; intro _))
        rw [hN (by rw [htw, hv, Bool.true_and]; exact decide_eq_false (by omega))]
        exact sf_ret (rO (A1 ++ (A2 ++ ((B0 ++ (C1 ++ (Ck ++ C2))) ++ A4))) ⟨[.int .i64 k.first.wide, c, ed, p, s], rfl, b0⟩)
      have hln : w.lights.length = ownCnt (manyOf k.first).toNat k.parts.length (i + 1) := by omega
      rw [if_pos ⟨h4, by rw [htw, hv, Bool.true_and]; exact decide_eq_true hln⟩]
      repeat (first | refine R1 ?_ | (refine R2 ?_; intro _))
      refine sf_draw (by kernel_rfl) (regX_run [[], [0], [], [2], [2, 3], [], [5], [], [], [8], [7, 8, 9], [5, 6, 7, 8, 9, 10], [0, 1, 2, 3, 4, 5, 6, 7, 8, 9, 10, 11], [0, 1, 2, 3, 4, 5, 6, 7, 8, 9, 10, 11, 12]] 12 [(0, false), (1, false), (2, false), (3, false), (4, false), (5, false), (6, false), (8, false), (9, false), (7, true), (10, true), (11, false)] (by kernel_rfl) (by kernel_rfl) (by kernel_rfl) ?_)
      repeat (refine Da1 ?_)
      refine a_bs (by rfl) (by rfl) (by infer_instance) (by infer_instance) (by infer_instance) (by infer_instance) (by rfl) (by rfl) (by rfl) (by decide) (.inl rfl) fun w0 Aw gw => ?_
      have ow := gw.one
      repeat (refine Da1 ?_)
      refine a_appendS (by rfl) (by rfl) (by rfl) gw sw2 (by infer_instance) (by infer_instance) (fun y _ => FlatOne.one y) (by rfl) (by rfl) (by simp; omega) (by simp; omega) (.inl rfl) fun l2 AL gl => ?_
      have ol2 := gl.one
      repeat (refine Da1 ?_)
      (refine a_end (by rfl) (by rfl) ?_; simp only [finA, setL, List.drop_succ_cons, List.drop_zero])
      simp only [ez]
      repeat (first | refine R1 ?_ | (refine R2 ?_; intro _))
      refine fp (y_storeG0 (by rfl) (by rfl) gq (by omega) (by rfl) fun D0 ys ey ly _ g5 => ?_)
      have oall := oset AL ⟨[.bool true, .int .i64 w.ver, l2], rfl⟩ ⟨true, w.ver, w.lights⟩ (partO_mk (p := ⟨true, w.ver, w.lights⟩) gl (by simp only; omega))
      have g3' : GrR (partR τ) (D0 ++ (C1 ++ (AL ++ C2))) p 113 (setPart k i ⟨true, w.ver, w.lights⟩).parts := ⟨D0, _, rfl, ys, g5, by rw [ey]; exact oall, by simp [setPart]; omega⟩
      have hl' : (setPart k i ⟨true, w.ver, w.lights⟩).parts.length = k.parts.length := by simp [setPart]
      obtain ⟨f1, f2, f3⟩ := sPub_first (setPart k i ⟨true, w.ver, w.lights⟩)
      repeat (first | refine R1 ?_ | (refine R2 ?_; intro _))
      refine fp (y_call (lendF (A1 ++ (D0 ++ (C1 ++ (AL ++ C2)))) fun h' l' inb => l22Show_f h' c ed p s (setPart k i ⟨true, w.ver, w.lights⟩) A4 (g1.lent l1 (inb_l inb)) o2 (g3'.lent (inb_r inb)) g4 hk.grid (by omega) (by omega) (sPl_set hpl i ⟨true, w.ver, w.lights⟩ (fun _ => hln)) hsh) (by rfl) ?_)
      rintro u _ ⟨A', rfl, s', rfl, gs'⟩
      have o9 := gs'.one
      repeat (first | refine R1 ?_ | (refine R2 ?_; intro _))
      refine sf_ret (rO (A1 ++ (A2 ++ ((D0 ++ (C1 ++ (AL ++ C2))) ++ A'))) ⟨[.int .i64 k.first.wide, c, ed, p, s'], rfl, ?_⟩)
      have := keeperO_mk (τ := τ) (k := published (setPart k i ⟨true, w.ver, w.lights⟩)) (c := c) (e := ed) (p := p) (s := s') (A1 := A1) (A2 := A2) (A3 := D0 ++ (C1 ++ (AL ++ C2))) (A4 := A') (by rw [f1]; exact g1) (by rw [f1]; exact l1) (by rw [f2]; exact g2) (by rw [f2]; exact le2) (by rw [f3]; exact g3') gs'
      rw [f1] at this
      exact this
  · rw [if_neg (fun x => h4 x.1)]
    have h4' : w.kind ≠ 3 := h4
    refine sf_draw (by kernel_rfl) (regX_run [[], [0], [0, 1], [0, 1, 2], [0, 1, 2, 3], [0, 1, 2, 3, 4], [0, 1, 2, 3], [0, 1, 2, 3, 6], [0, 1, 2, 3, 6, 7], [0, 1, 2, 3, 4, 5, 6, 7, 8], [0, 1, 2, 3, 4, 5, 6, 7, 8, 9], [0, 1, 2, 3, 4, 5, 6, 7, 8, 9, 10], [0, 1, 2, 3, 4, 5, 6, 7, 8, 9, 10, 11], [0, 1, 2, 3, 4, 5, 6, 7, 8, 9, 10, 11, 12], [0, 1, 2, 3, 4, 5, 6, 7, 8, 9, 10, 11, 12, 13], [0, 1, 2, 3, 4, 5, 6, 7, 8, 9, 10, 11, 12, 13, 14], [0, 1, 2, 3, 4, 5, 6, 7, 8, 9, 10, 11, 12], [0, 1, 2, 3, 4, 5, 6, 7, 8, 9, 10, 11, 12, 16], [0, 1, 2, 3, 4, 5, 6, 7, 8, 9, 10, 11, 12], [0, 1, 2, 3, 4, 5, 6, 7, 8, 9, 10, 11, 12, 18], [0, 1, 2, 3, 4, 5, 6, 7, 8, 9, 10, 11, 12], [0, 1, 2, 3, 4, 5, 6, 7, 8, 9, 10, 11, 12, 20], [0, 1, 2, 3, 4, 5, 6, 7, 8, 9, 10, 11, 12, 20, 21], [0, 1, 2, 3, 4, 5, 6, 7, 8, 9, 10, 11, 12, 16, 17, 18, 19, 20, 21, 22], [0, 1, 2, 3, 4, 5, 6, 7, 8, 9, 10, 11, 12, 16, 17, 18, 19, 20, 21, 22, 23], [0, 1, 2, 3, 4, 5, 6, 7, 8, 9, 10, 11, 12, 13, 14, 15, 16, 17, 18, 19, 20, 21, 22, 23, 24], [0, 1, 2, 3, 4, 5, 6, 7, 8, 9, 10, 11, 12, 13, 14, 15, 16, 17, 18, 19, 20, 21, 22, 23, 24, 25]] 25 [(0, false), (1, false), (2, false), (3, false), (4, false), (5, false), (6, false), (7, false), (8, false), (9, false), (10, false), (11, false), (12, false), (13, false), (14, false), (15, false), (16, false), (17, false), (18, false), (19, false), (20, false), (21, false), (22, false), (23, false), (24, false)] (by kernel_rfl) (by kernel_rfl) (by kernel_rfl) ?_)
    repeat (refine Da1 ?_)
    (refine a_end (by rfl) (by rfl) ?_; simp only [finA, setL, List.drop_succ_cons, List.drop_zero])
    repeat (first | refine R1 ?_ | (refine R2 ?_; intro _))
    refine sf_T rfl ?_
    repeat (first | refine R1 ?_ | (refine R2 ?_; intro _))
    exact sf_ret (rO (A1 ++ (A2 ++ ((B0 ++ (C1 ++ (Ck ++ C2))) ++ A4))) ⟨[.int .i64 k.first.wide, c, ed, p, s], rfl, b0⟩)
theorem sKeeperO_one {A : Own} {cs : List Value} {k : Keeper} (b : (keeperR τ).O A cs k) : ∃ c e p s, cs = [.int .i64 k.first.wide, c, e, p, s] ∧ Sl.One c ∧ Sl.One e ∧ Sl.One p ∧ Sl.One s := by
  obtain ⟨c, e, p, s, _, _, _, _, h, -, ⟨g1, -⟩, ⟨g2, -⟩, g3, g4⟩ := keeperO b
  exact ⟨c, e, p, s, h, g1.one, g2.one, g3.one, g4.one⟩
theorem sKeepHear_f (h : PHeap) (ca : List Value) (k : Keeper) (b : (keeperR τ).B h ca k) (hs : szKeeperN k ≤ 1048576) (cw : List Value) (w : Word) (bw : (wordR τ).B h cw w) (hw : w.lights.length ≤ 1048576) : CallF Tryz.prog M 51 [.agg ca.toArray, .agg cw.toArray] [] h fun u A => ∃ cs, u = .agg cs.toArray ∧ (keeperR τ).O A cs (keepHear k w) := by
  have b0 := b
  have bw0 := bw
  obtain ⟨c, ed, p, s, rfl, s1, s2, s3, s4⟩ := keeperB b
  have o1 := s1.one
  have o2 := s2.one
  have o3 := s3.one
  have o4 := s4.one
  obtain ⟨wc, wl, rfl, sw1, sw2⟩ := wordB bw
  have o5 := sw1.one
  have o6 := sw2.one
  refine calls_of_sf Tryz.func51 rfl Tryz.ntmps51 ?_
  simp only [argsL, Nat.reduceAdd]
  repeat (first | refine R1 ?_ | (refine R2 ?_; intro _))
  refine fp (y_callV (sKeepOk_v _ _ k b0) (by rfl) ?_)
  repeat (first | refine R1 ?_ | (refine R2 ?_; intro _))
  refine sf_cond (by rfl) (fun h1 => ?_) fun h1 => ?_
  · simp only [Bool.not_eq_true'] at h1
    repeat (first | refine R1 ?_ | (refine R2 ?_; intro _))
    rw [show keepHear k w = noKeeper by rw [keepHear, if_neg (by simp [h1])]]
    exact sf_ret (rO [] ⟨[.int .i64 0, .slice none 0 0, .slice none 0 0, .slice none 0 0, .slice none 0 0], rfl, noKeeperO⟩)
  simp only [Bool.not_eq_false'] at h1
  rw [show keepHear k w = heard k w by rw [keepHear, if_pos h1]]
  repeat (first | refine R1 ?_ | (refine R2 ?_; intro _))
  refine sf_draw (by kernel_rfl) (regX_run [[], [0], [], [0, 1, 2], [0, 1, 2, 3]] 3 [(0, false), (2, false), (1, true)] (by kernel_rfl) (by kernel_rfl) (by kernel_rfl) ?_)
  repeat (refine Da1 ?_)
  refine a_call (l22Copy_f _ _ k b0 hs) (by rfl) (by rfl) (.inl rfl) ?_
  rintro _ AC ⟨cc, rfl, q⟩
  repeat (refine Da1 ?_)
  (refine a_end (by rfl) (by rfl) ?_; simp only [finA, setL, List.drop_succ_cons, List.drop_zero])
  refine fp (y_call (l22Hear_f _ AC cc k q h1 hs _ w bw0 hw) (by rfl) ?_)
  rintro _ AE ⟨ce, rfl, q2⟩
  have q2' := q2
  obtain ⟨x1, x2, x3, x4, rfl, p1, p2, p3, p4⟩ := sKeeperO_one q2
  repeat (first | refine R1 ?_ | (refine R2 ?_; intro _))
  exact sf_ret (rO AE ⟨_, rfl, q2'⟩)
end Go.Proofs.YtekjikbaefgncaaGreatDoor

/- Walks: a cell's copy. -/
namespace Go.Proofs.YtekjikbaefgncaaGreatDoor
open Go Go.Sl
set_option maxRecDepth 100000
set_option maxHeartbeats 4000000
attribute [local irreducible] Go.Code.sf sfOps Opq opo retF Do1 anyO
variable {M : Jdg → Prop} [IsCl Tryz.prog M]
theorem toCell_v (h : PHeap) (a b : Int) : CallV Tryz.prog M 110 [.agg #[.int .i64 a, .int .i64 b]] h (.agg #[.int .i64 a, .int .i64 b]) := by
  refine calls_of_sf Tryz.func110 rfl Tryz.ntmps110 ?_
  simp only [argsL, Nat.reduceAdd]
  repeat (first | refine R1 ?_ | (refine R2 ?_; intro _))
  exact sf_ret (rV rfl)
end Go.Proofs.YtekjikbaefgncaaGreatDoor

/- Walks of the laws' copies: toX. -/
namespace Go.Proofs.YtekjikbaefgncaaGreatDoor
open Go Go.Sl
set_option maxRecDepth 100000
set_option maxHeartbeats 4000000
attribute [local irreducible] Go.Code.sf sfOps Opq opo retF Do1 anyO
variable {M : Jdg → Prop} [IsCl Tryz.prog M]

theorem toCellS_f (h : PHeap) (v : Value) (xs : List Cell) (s : Sl h v cellF xs) (hs : xs.length ≤ 1048576) : CallF Tryz.prog M 85 [v] [] h fun v' A => Gr A v' 67 cellF xs := by
  have o1 := s.one
  refine calls_of_sf Tryz.func85 rfl Tryz.ntmps85 ?_
  simp only [argsL, Nat.reduceAdd]
  repeat (first | refine R1 ?_ | (refine R2 ?_; intro _))
  refine fp (y_make (by rfl) (by rfl) (by rfl) (by decide) (by omega) fun w A g => ?_)
  repeat (first | refine R1 ?_ | (refine R2 ?_; intro _))
  refine sf_lp [0, 3] (fun k : Nat => [(4, .int .i64 (k : Int))]) (fun k O => k ≤ xs.length ∧ Gr O w 67 cellF (xs.take k ++ List.replicate (xs.length - k) ⟨0, 0⟩)) (fun k => xs.length - k) 0 A ⟨by omega, by simpa using g⟩ ?_
  rintro k O ⟨hk, g⟩
  repeat (first | refine R1 ?_ | (refine R2 ?_; intro _))
  refine sf_if (fun h4 => ?_) fun h4 => ?_
  · have hk4 : k < xs.length := by omega
    have hl : k < (xs.take k ++ List.replicate (xs.length - k) (⟨0, 0⟩ : Cell)).length := by simp; omega
    repeat (first | refine R1 ?_ | (refine R2 ?_; intro _))
    refine fp (y_callV (toCell_v _ _ _) (by rfl) ?_)
    repeat (first | refine R1 ?_ | (refine R2 ?_; intro _))
    refine fp (y_storeG0 (by rfl) (by rfl) g (by omega) (by rfl) fun A ys ey ly _ g => ?_)
    repeat (first | refine R1 ?_ | (refine R2 ?_; intro _))
    refine ⟨k + 1, by omega, ⟨rfl, trivial⟩, rfl, A, _, inferInstance, by omega, ?_⟩
    rw [← set_step hk4, ← ey]; exact g
  · refine sf_exit ?_
    repeat (first | refine R1 ?_ | (refine R2 ?_; intro _))
    refine sf_ret (rO O ?_)
    have : k = xs.length := by omega
    subst this
    simpa using g
end Go.Proofs.YtekjikbaefgncaaGreatDoor

/- Walks of the exact laws' own helpers: equality. Printed by program. -/
namespace Go.Proofs.YtekjikbaefgncaaGreatDoor
open Go Go.Sl
set_option maxRecDepth 100000
set_option maxHeartbeats 4000000
attribute [local irreducible] Go.Code.sf sfOps Opq opo retF Do1 anyO
variable {M : Jdg → Prop} [IsCl Tryz.prog M]
theorem eqCell_v (h : PHeap) (x y : Cell) : CallV Tryz.prog M 146 [.agg #[.int .i64 x.kind, .int .i64 x.light], .agg #[.int .i64 y.kind, .int .i64 y.light]] h (.bool (decide (x = y))) := by
  refine calls_of_sf Tryz.func146 rfl Tryz.ntmps146 ?_
  simp only [argsL, Nat.reduceAdd]
  repeat (first | refine R1 ?_ | (refine R2 ?_; intro _))
  refine sf_if (fun e1 => ?_) fun e1 => ?_
  · repeat (first | refine R1 ?_ | (refine R2 ?_; intro _))
    exact sf_ret (rV (bF fun e => e1 (by rw [e])))
  repeat (first | refine R1 ?_ | (refine R2 ?_; intro _))
  refine sf_if (fun e2 => ?_) fun e2 => ?_
  · repeat (first | refine R1 ?_ | (refine R2 ?_; intro _))
    exact sf_ret (rV (bF fun e => e2 (by rw [e])))
  repeat (first | refine R1 ?_ | (refine R2 ?_; intro _))
  refine sf_ret (rV (bT ?_))
  cases x; cases y; simp_all
theorem eqEdit_v (h : PHeap) (x y : Edit) : CallV Tryz.prog M 99 [.agg #[.int .i64 x.at', .int .i64 x.cell.kind, .int .i64 x.cell.light], .agg #[.int .i64 y.at', .int .i64 y.cell.kind, .int .i64 y.cell.light]] h (.bool (decide (x = y))) := by
  refine calls_of_sf Tryz.func99 rfl Tryz.ntmps99 ?_
  simp only [argsL, Nat.reduceAdd]
  repeat (first | refine R1 ?_ | (refine R2 ?_; intro _))
  refine sf_if (fun e1 => ?_) fun e1 => ?_
  · repeat (first | refine R1 ?_ | (refine R2 ?_; intro _))
    exact sf_ret (rV (bF fun e => e1 (by rw [e])))
  repeat (first | refine R1 ?_ | (refine R2 ?_; intro _))
  refine fp (y_callV (eqCell_v _ x.cell y.cell) (by rfl) ?_)
  repeat (first | refine R1 ?_ | (refine R2 ?_; intro _))
  refine sf_ifn (fun e2 => ?_) fun e2 => ?_
  · repeat (first | refine R1 ?_ | (refine R2 ?_; intro _))
    exact sf_ret (rV (bF fun e => e2 (by rw [e])))
  repeat (first | refine R1 ?_ | (refine R2 ?_; intro _))
  refine sf_ret (rV (bT ?_))
  cases x; cases y; simp_all
theorem eqIntS_v (h : PHeap) (a b : Value) (xs ys : List Int) (sx : Sl h a intF xs) (sy : Sl h b intF ys) : CallV Tryz.prog M 100 [a, b] h (.bool (decide (xs = ys))) := by
  have o1 := sx.one
  have o2 := sy.one
  have hx := sx.small
  have hy := sy.small
  refine calls_of_sf Tryz.func100 rfl Tryz.ntmps100 ?_
  simp only [argsL, Nat.reduceAdd]
  repeat (first | refine R1 ?_ | (refine R2 ?_; intro _))
  refine sf_if (fun e0 => ?_) fun e0 => ?_
  · repeat (first | refine R1 ?_ | (refine R2 ?_; intro _))
    exact sf_ret (rV (bF fun e => e0 (by rw [e])))
  have hl : xs.length = ys.length := by omega
  repeat (first | refine R1 ?_ | (refine R2 ?_; intro _))
  refine sf_rd [0, 1] 5 xs.length 0 (fun k => xs.take k = ys.take k) (by omega) rfl (fun k hk hi => ?_)
  repeat (first | refine R1 ?_ | (refine R2 ?_; intro _))
  refine sf_if (fun h4 => ?_) fun h4 => ?_
  · have hk4 : k < xs.length := by omega
    have hk5 : k < ys.length := by omega
    repeat (first | refine R1 ?_ | (refine R2 ?_; intro _))
    refine sf_draw (by kernel_rfl) (regX_run [[], [], [0, 1], [0, 1, 2], [], [], [4, 5], [4, 5, 6], [0, 1, 2, 3, 4, 5, 6, 7]] 8 [(0, false), (1, false), (2, false), (3, false), (4, false), (5, false), (6, false), (7, false)] (by kernel_rfl) (by kernel_rfl) (by kernel_rfl) ?_)
    repeat (refine Da1 ?_)
    (refine a_end (by rfl) (by rfl) ?_; simp only [finA, setL, List.drop_succ_cons, List.drop_zero])
    repeat (first | refine R1 ?_ | (refine R2 ?_; intro _))
    refine sf_if (fun e1 => ?_) fun e1 => ?_
    · repeat (first | refine R1 ?_ | (refine R2 ?_; intro _))
      exact sf_ret (rV (bF (eq_at e1)))
    · repeat (first | refine R1 ?_ | (refine R2 ?_; intro _))
      exact ⟨⟨hk4, eq_step hk4 hk5 hi (by simpa using e1)⟩, rfl, rfl, _, inferInstance⟩
  · refine sf_exit ?_
    repeat (first | refine R1 ?_ | (refine R2 ?_; intro _))
    exact sf_ret (rV (bT (eq_end hl (by omega) hi)))
theorem eqCellS_v (h : PHeap) (a b : Value) (xs ys : List Cell) (sx : Sl h a cellF xs) (sy : Sl h b cellF ys) : CallV Tryz.prog M 76 [a, b] h (.bool (decide (xs = ys))) := by
  have o1 := sx.one
  have o2 := sy.one
  have hx := sx.small
  have hy := sy.small
  refine calls_of_sf Tryz.func76 rfl Tryz.ntmps76 ?_
  simp only [argsL, Nat.reduceAdd]
  repeat (first | refine R1 ?_ | (refine R2 ?_; intro _))
  refine sf_if (fun e0 => ?_) fun e0 => ?_
  · repeat (first | refine R1 ?_ | (refine R2 ?_; intro _))
    exact sf_ret (rV (bF fun e => e0 (by rw [e])))
  have hl : xs.length = ys.length := by omega
  repeat (first | refine R1 ?_ | (refine R2 ?_; intro _))
  refine sf_rd [0, 1] 5 xs.length 0 (fun k => xs.take k = ys.take k) (by omega) rfl (fun k hk hi => ?_)
  repeat (first | refine R1 ?_ | (refine R2 ?_; intro _))
  refine sf_if (fun h4 => ?_) fun h4 => ?_
  · have hk4 : k < xs.length := by omega
    have hk5 : k < ys.length := by omega
    repeat (first | refine R1 ?_ | (refine R2 ?_; intro _))
    refine sf_draw (by kernel_rfl) (regX_run [[], [], [0, 1], [0, 1, 2], [], [], [4, 5], [4, 5, 6], [0, 1, 2, 3, 4, 5, 6, 7], [0, 1, 2, 3, 4, 5, 6, 7, 8]] 8 [(0, false), (1, false), (2, false), (3, false), (4, false), (5, false), (6, false), (7, false)] (by kernel_rfl) (by kernel_rfl) (by kernel_rfl) ?_)
    repeat (refine Da1 ?_)
    (refine a_end (by rfl) (by rfl) ?_; simp only [finA, setL, List.drop_succ_cons, List.drop_zero])
    refine fp (y_callV (eqCell_v _ (gt xs k) (gt ys k)) (by rfl) ?_)
    repeat (first | refine R1 ?_ | (refine R2 ?_; intro _))
    refine sf_ifn (fun e1 => ?_) fun e1 => ?_
    · repeat (first | refine R1 ?_ | (refine R2 ?_; intro _))
      exact sf_ret (rV (bF (eq_at e1)))
    · repeat (first | refine R1 ?_ | (refine R2 ?_; intro _))
      exact ⟨⟨hk4, eq_step hk4 hk5 hi (by exact e1)⟩, rfl, rfl, _, inferInstance⟩
  · refine sf_exit ?_
    repeat (first | refine R1 ?_ | (refine R2 ?_; intro _))
    exact sf_ret (rV (bT (eq_end hl (by omega) hi)))
theorem eqEditS_v (h : PHeap) (a b : Value) (xs ys : List Edit) (sx : Sl h a editF xs) (sy : Sl h b editF ys) : CallV Tryz.prog M 71 [a, b] h (.bool (decide (xs = ys))) := by
  have o1 := sx.one
  have o2 := sy.one
  have hx := sx.small
  have hy := sy.small
  refine calls_of_sf Tryz.func71 rfl Tryz.ntmps71 ?_
  simp only [argsL, Nat.reduceAdd]
  repeat (first | refine R1 ?_ | (refine R2 ?_; intro _))
  refine sf_if (fun e0 => ?_) fun e0 => ?_
  · repeat (first | refine R1 ?_ | (refine R2 ?_; intro _))
    exact sf_ret (rV (bF fun e => e0 (by rw [e])))
  have hl : xs.length = ys.length := by omega
  repeat (first | refine R1 ?_ | (refine R2 ?_; intro _))
  refine sf_rd [0, 1] 5 xs.length 0 (fun k => xs.take k = ys.take k) (by omega) rfl (fun k hk hi => ?_)
  repeat (first | refine R1 ?_ | (refine R2 ?_; intro _))
  refine sf_if (fun h4 => ?_) fun h4 => ?_
  · have hk4 : k < xs.length := by omega
    have hk5 : k < ys.length := by omega
    repeat (first | refine R1 ?_ | (refine R2 ?_; intro _))
    refine sf_draw (by kernel_rfl) (regX_run [[], [], [0, 1], [0, 1, 2], [], [], [4, 5], [4, 5, 6], [0, 1, 2, 3, 4, 5, 6, 7], [0, 1, 2, 3, 4, 5, 6, 7, 8]] 8 [(0, false), (1, false), (2, false), (3, false), (4, false), (5, false), (6, false), (7, false)] (by kernel_rfl) (by kernel_rfl) (by kernel_rfl) ?_)
    repeat (refine Da1 ?_)
    (refine a_end (by rfl) (by rfl) ?_; simp only [finA, setL, List.drop_succ_cons, List.drop_zero])
    refine fp (y_callV (eqEdit_v _ (gt xs k) (gt ys k)) (by rfl) ?_)
    repeat (first | refine R1 ?_ | (refine R2 ?_; intro _))
    refine sf_ifn (fun e1 => ?_) fun e1 => ?_
    · repeat (first | refine R1 ?_ | (refine R2 ?_; intro _))
      exact sf_ret (rV (bF (eq_at e1)))
    · repeat (first | refine R1 ?_ | (refine R2 ?_; intro _))
      exact ⟨⟨hk4, eq_step hk4 hk5 hi (by exact e1)⟩, rfl, rfl, _, inferInstance⟩
  · refine sf_exit ?_
    repeat (first | refine R1 ?_ | (refine R2 ?_; intro _))
    exact sf_ret (rV (bT (eq_end hl (by omega) hi)))
theorem eqGrid_v (h : PHeap) (ca cb : List Value) (x y : Grid) (bx : (gridR τ).B h ca x) (by' : (gridR τ).B h cb y) : CallV Tryz.prog M 19 [.agg ca.toArray, .agg cb.toArray] h (.bool (decide (x = y))) := by
  obtain ⟨v_cells1, rfl, s_cells1⟩ := gridB bx
  have o_v_cells1 := s_cells1.one
  obtain ⟨v_cells2, rfl, s_cells2⟩ := gridB by'
  have o_v_cells2 := s_cells2.one
  refine calls_of_sf Tryz.func19 rfl Tryz.ntmps19 ?_
  simp only [argsL, Nat.reduceAdd]
  repeat (first | refine R1 ?_ | (refine R2 ?_; intro _))
  refine sf_if (fun e1 => ?_) fun e1 => ?_
  · repeat (first | refine R1 ?_ | (refine R2 ?_; intro _))
    exact sf_ret (rV (bF fun e => e1 (by rw [e])))
  repeat (first | refine R1 ?_ | (refine R2 ?_; intro _))
  refine fp (y_callV (eqCellS_v _ _ _ _ _ s_cells1 s_cells2) (by rfl) ?_)
  repeat (first | refine R1 ?_ | (refine R2 ?_; intro _))
  refine sf_ifn (fun e2 => ?_) fun e2 => ?_
  · repeat (first | refine R1 ?_ | (refine R2 ?_; intro _))
    exact sf_ret (rV (bF fun e => e2 (by rw [e])))
  repeat (first | refine R1 ?_ | (refine R2 ?_; intro _))
  refine sf_ret (rV (bT ?_))
  cases x; cases y; simp_all
theorem eqPart_v (h : PHeap) (ca cb : List Value) (x y : Part) (bx : (partR τ).B h ca x) (by' : (partR τ).B h cb y) : CallV Tryz.prog M 143 [.agg ca.toArray, .agg cb.toArray] h (.bool (decide (x = y))) := by
  obtain ⟨v_lights1, rfl, s_lights1⟩ := partB bx
  have o_v_lights1 := s_lights1.one
  obtain ⟨v_lights2, rfl, s_lights2⟩ := partB by'
  have o_v_lights2 := s_lights2.one
  refine calls_of_sf Tryz.func143 rfl Tryz.ntmps143 ?_
  simp only [argsL, Nat.reduceAdd]
  repeat (first | refine R1 ?_ | (refine R2 ?_; intro _))
  refine sf_ifn (fun e1 => ?_) fun e1 => ?_
  · repeat (first | refine R1 ?_ | (refine R2 ?_; intro _))
    exact sf_ret (rV (bF fun e => e1 (by rw [e])))
  repeat (first | refine R1 ?_ | (refine R2 ?_; intro _))
  refine sf_if (fun e2 => ?_) fun e2 => ?_
  · repeat (first | refine R1 ?_ | (refine R2 ?_; intro _))
    exact sf_ret (rV (bF fun e => e2 (by rw [e])))
  repeat (first | refine R1 ?_ | (refine R2 ?_; intro _))
  refine fp (y_callV (eqIntS_v _ _ _ _ _ s_lights1 s_lights2) (by rfl) ?_)
  repeat (first | refine R1 ?_ | (refine R2 ?_; intro _))
  refine sf_ifn (fun e3 => ?_) fun e3 => ?_
  · repeat (first | refine R1 ?_ | (refine R2 ?_; intro _))
    exact sf_ret (rV (bF fun e => e3 (by rw [e])))
  repeat (first | refine R1 ?_ | (refine R2 ?_; intro _))
  refine sf_ret (rV (bT ?_))
  cases x; cases y; simp_all
theorem eqShown_v (h : PHeap) (ca cb : List Value) (x y : Shown) (bx : (shownR τ).B h ca x) (by' : (shownR τ).B h cb y) : CallV Tryz.prog M 144 [.agg ca.toArray, .agg cb.toArray] h (.bool (decide (x = y))) := by
  obtain ⟨v_pic1, rfl, s_pic1⟩ := shownB bx
  have o_v_pic1 := s_pic1.one
  obtain ⟨v_pic2, rfl, s_pic2⟩ := shownB by'
  have o_v_pic2 := s_pic2.one
  refine calls_of_sf Tryz.func144 rfl Tryz.ntmps144 ?_
  simp only [argsL, Nat.reduceAdd]
  repeat (first | refine R1 ?_ | (refine R2 ?_; intro _))
  refine sf_if (fun e1 => ?_) fun e1 => ?_
  · repeat (first | refine R1 ?_ | (refine R2 ?_; intro _))
    exact sf_ret (rV (bF fun e => e1 (by rw [e])))
  repeat (first | refine R1 ?_ | (refine R2 ?_; intro _))
  refine fp (y_callV (eqIntS_v _ _ _ _ _ s_pic1 s_pic2) (by rfl) ?_)
  repeat (first | refine R1 ?_ | (refine R2 ?_; intro _))
  refine sf_ifn (fun e2 => ?_) fun e2 => ?_
  · repeat (first | refine R1 ?_ | (refine R2 ?_; intro _))
    exact sf_ret (rV (bF fun e => e2 (by rw [e])))
  repeat (first | refine R1 ?_ | (refine R2 ?_; intro _))
  refine sf_ret (rV (bT ?_))
  cases x; cases y; simp_all
theorem eqPartS_v (h : PHeap) (a b : Value) (xs ys : List Part) (sx : SlR (partR τ) h a xs) (sy : SlR (partR τ) h b ys) : CallV Tryz.prog M 72 [a, b] h (.bool (decide (xs = ys))) := by
  have o1 := sx.one
  have o2 := sy.one
  obtain ⟨rx, sx, bx⟩ := sx
  obtain ⟨ry, sy, by'⟩ := sy
  have lx := bx.len
  have ly := by'.len
  have hx := sx.small
  have hy := sy.small
  refine calls_of_sf Tryz.func72 rfl Tryz.ntmps72 ?_
  simp only [argsL, Nat.reduceAdd]
  repeat (first | refine R1 ?_ | (refine R2 ?_; intro _))
  refine sf_if (fun e0 => ?_) fun e0 => ?_
  · repeat (first | refine R1 ?_ | (refine R2 ?_; intro _))
    exact sf_ret (rV (bF fun e => e0 (by rw [lx, ly, e])))
  have hl : xs.length = ys.length := by omega
  repeat (first | refine R1 ?_ | (refine R2 ?_; intro _))
  refine sf_rd [0, 1] 5 xs.length 0 (fun k => xs.take k = ys.take k) (by omega) rfl (fun k hk hi => ?_)
  repeat (first | refine R1 ?_ | (refine R2 ?_; intro _))
  refine sf_if (fun h4 => ?_) fun h4 => ?_
  · have hk4 : k < xs.length := by omega
    have hk5 : k < ys.length := by omega
    have bx4 := bx.at hk4
    have by4 := by'.at hk5
    have hk6 : k < rx.length := by omega
    have hk7 : k < ry.length := by omega
    repeat (first | refine R1 ?_ | (refine R2 ?_; intro _))
    refine sf_draw (by kernel_rfl) (regX_run [[], [], [0, 1], [0, 1, 2], [], [], [4, 5], [4, 5, 6], [0, 1, 2, 3, 4, 5, 6, 7], [0, 1, 2, 3, 4, 5, 6, 7, 8]] 8 [(0, false), (1, false), (2, false), (3, false), (4, false), (5, false), (6, false), (7, false)] (by kernel_rfl) (by kernel_rfl) (by kernel_rfl) ?_)
    repeat (refine Da1 ?_)
    (refine a_end (by rfl) (by rfl) ?_; simp only [finA, setL, List.drop_succ_cons, List.drop_zero])
    refine fp (y_callV (eqPart_v _ _ _ _ _ bx4 by4) (by rfl) ?_)
    repeat (first | refine R1 ?_ | (refine R2 ?_; intro _))
    refine sf_ifn (fun e1 => ?_) fun e1 => ?_
    · repeat (first | refine R1 ?_ | (refine R2 ?_; intro _))
      exact sf_ret (rV (bF (eq_at e1)))
    · repeat (first | refine R1 ?_ | (refine R2 ?_; intro _))
      exact ⟨⟨hk4, eq_step hk4 hk5 hi (by exact e1)⟩, rfl, rfl, _, inferInstance⟩
  · refine sf_exit ?_
    repeat (first | refine R1 ?_ | (refine R2 ?_; intro _))
    exact sf_ret (rV (bT (eq_end hl (by omega) hi)))
theorem eqShownS_v (h : PHeap) (a b : Value) (xs ys : List Shown) (sx : SlR (shownR τ) h a xs) (sy : SlR (shownR τ) h b ys) : CallV Tryz.prog M 73 [a, b] h (.bool (decide (xs = ys))) := by
  have o1 := sx.one
  have o2 := sy.one
  obtain ⟨rx, sx, bx⟩ := sx
  obtain ⟨ry, sy, by'⟩ := sy
  have lx := bx.len
  have ly := by'.len
  have hx := sx.small
  have hy := sy.small
  refine calls_of_sf Tryz.func73 rfl Tryz.ntmps73 ?_
  simp only [argsL, Nat.reduceAdd]
  repeat (first | refine R1 ?_ | (refine R2 ?_; intro _))
  refine sf_if (fun e0 => ?_) fun e0 => ?_
  · repeat (first | refine R1 ?_ | (refine R2 ?_; intro _))
    exact sf_ret (rV (bF fun e => e0 (by rw [lx, ly, e])))
  have hl : xs.length = ys.length := by omega
  repeat (first | refine R1 ?_ | (refine R2 ?_; intro _))
  refine sf_rd [0, 1] 5 xs.length 0 (fun k => xs.take k = ys.take k) (by omega) rfl (fun k hk hi => ?_)
  repeat (first | refine R1 ?_ | (refine R2 ?_; intro _))
  refine sf_if (fun h4 => ?_) fun h4 => ?_
  · have hk4 : k < xs.length := by omega
    have hk5 : k < ys.length := by omega
    have bx4 := bx.at hk4
    have by4 := by'.at hk5
    have hk6 : k < rx.length := by omega
    have hk7 : k < ry.length := by omega
    repeat (first | refine R1 ?_ | (refine R2 ?_; intro _))
    refine sf_draw (by kernel_rfl) (regX_run [[], [], [0, 1], [0, 1, 2], [], [], [4, 5], [4, 5, 6], [0, 1, 2, 3, 4, 5, 6, 7], [0, 1, 2, 3, 4, 5, 6, 7, 8]] 8 [(0, false), (1, false), (2, false), (3, false), (4, false), (5, false), (6, false), (7, false)] (by kernel_rfl) (by kernel_rfl) (by kernel_rfl) ?_)
    repeat (refine Da1 ?_)
    (refine a_end (by rfl) (by rfl) ?_; simp only [finA, setL, List.drop_succ_cons, List.drop_zero])
    refine fp (y_callV (eqShown_v _ _ _ _ _ bx4 by4) (by rfl) ?_)
    repeat (first | refine R1 ?_ | (refine R2 ?_; intro _))
    refine sf_ifn (fun e1 => ?_) fun e1 => ?_
    · repeat (first | refine R1 ?_ | (refine R2 ?_; intro _))
      exact sf_ret (rV (bF (eq_at e1)))
    · repeat (first | refine R1 ?_ | (refine R2 ?_; intro _))
      exact ⟨⟨hk4, eq_step hk4 hk5 hi (by exact e1)⟩, rfl, rfl, _, inferInstance⟩
  · refine sf_exit ?_
    repeat (first | refine R1 ?_ | (refine R2 ?_; intro _))
    exact sf_ret (rV (bT (eq_end hl (by omega) hi)))
theorem eqKeeper_v (h : PHeap) (ca cb : List Value) (x y : Keeper) (bx : (keeperR τ).B h ca x) (by' : (keeperR τ).B h cb y) : CallV Tryz.prog M 16 [.agg ca.toArray, .agg cb.toArray] h (.bool (decide (x = y))) := by
  obtain ⟨v_first_cells1, v_edits1, v_parts1, v_shown1, rfl, s_first_cells1, s_edits1, s_parts1, s_shown1⟩ := keeperB bx
  have o_v_first_cells1 := s_first_cells1.one
  have o_v_edits1 := s_edits1.one
  have o_v_parts1 := s_parts1.one
  have o_v_shown1 := s_shown1.one
  obtain ⟨v_first_cells2, v_edits2, v_parts2, v_shown2, rfl, s_first_cells2, s_edits2, s_parts2, s_shown2⟩ := keeperB by'
  have o_v_first_cells2 := s_first_cells2.one
  have o_v_edits2 := s_edits2.one
  have o_v_parts2 := s_parts2.one
  have o_v_shown2 := s_shown2.one
  refine calls_of_sf Tryz.func16 rfl Tryz.ntmps16 ?_
  simp only [argsL, Nat.reduceAdd]
  repeat (first | refine R1 ?_ | (refine R2 ?_; intro _))
  refine fp (y_callV (eqGrid_v _ _ _ x.first y.first (gridB_mk s_first_cells1) (gridB_mk s_first_cells2)) (by rfl) ?_)
  repeat (first | refine R1 ?_ | (refine R2 ?_; intro _))
  refine sf_ifn (fun e1 => ?_) fun e1 => ?_
  · repeat (first | refine R1 ?_ | (refine R2 ?_; intro _))
    exact sf_ret (rV (bF fun e => e1 (by rw [e])))
  repeat (first | refine R1 ?_ | (refine R2 ?_; intro _))
  refine fp (y_callV (eqEditS_v _ _ _ _ _ s_edits1 s_edits2) (by rfl) ?_)
  repeat (first | refine R1 ?_ | (refine R2 ?_; intro _))
  refine sf_ifn (fun e2 => ?_) fun e2 => ?_
  · repeat (first | refine R1 ?_ | (refine R2 ?_; intro _))
    exact sf_ret (rV (bF fun e => e2 (by rw [e])))
  repeat (first | refine R1 ?_ | (refine R2 ?_; intro _))
  refine fp (y_callV (eqPartS_v _ _ _ _ _ s_parts1 s_parts2) (by rfl) ?_)
  repeat (first | refine R1 ?_ | (refine R2 ?_; intro _))
  refine sf_ifn (fun e3 => ?_) fun e3 => ?_
  · repeat (first | refine R1 ?_ | (refine R2 ?_; intro _))
    exact sf_ret (rV (bF fun e => e3 (by rw [e])))
  repeat (first | refine R1 ?_ | (refine R2 ?_; intro _))
  refine fp (y_callV (eqShownS_v _ _ _ _ _ s_shown1 s_shown2) (by rfl) ?_)
  repeat (first | refine R1 ?_ | (refine R2 ?_; intro _))
  refine sf_ifn (fun e4 => ?_) fun e4 => ?_
  · repeat (first | refine R1 ?_ | (refine R2 ?_; intro _))
    exact sf_ret (rV (bF fun e => e4 (by rw [e])))
  repeat (first | refine R1 ?_ | (refine R2 ?_; intro _))
  refine sf_ret (rV (bT ?_))
  cases x; cases y; simp_all
end Go.Proofs.YtekjikbaefgncaaGreatDoor

/- Walks of the exact laws' own helpers: equality, words. Printed by program. -/
namespace Go.Proofs.YtekjikbaefgncaaGreatDoor
open Go Go.Sl
set_option maxRecDepth 100000
set_option maxHeartbeats 4000000
attribute [local irreducible] Go.Code.sf sfOps Opq opo retF Do1 anyO
variable {M : Jdg → Prop} [IsCl Tryz.prog M]
theorem eqWord_v (h : PHeap) (ca cb : List Value) (x y : Word) (bx : (wordR τ).B h ca x) (by' : (wordR τ).B h cb y) : CallV Tryz.prog M 36 [.agg ca.toArray, .agg cb.toArray] h (.bool (decide (x = y))) := by
  obtain ⟨v_grid_cells1, v_lights1, rfl, s_grid_cells1, s_lights1⟩ := wordB bx
  have o_v_grid_cells1 := s_grid_cells1.one
  have o_v_lights1 := s_lights1.one
  obtain ⟨v_grid_cells2, v_lights2, rfl, s_grid_cells2, s_lights2⟩ := wordB by'
  have o_v_grid_cells2 := s_grid_cells2.one
  have o_v_lights2 := s_lights2.one
  refine calls_of_sf Tryz.func36 rfl Tryz.ntmps36 ?_
  simp only [argsL, Nat.reduceAdd]
  repeat (first | refine R1 ?_ | (refine R2 ?_; intro _))
  refine sf_if (fun e1 => ?_) fun e1 => ?_
  · repeat (first | refine R1 ?_ | (refine R2 ?_; intro _))
    exact sf_ret (rV (bF fun e => e1 (by rw [e])))
  repeat (first | refine R1 ?_ | (refine R2 ?_; intro _))
  refine sf_if (fun e2 => ?_) fun e2 => ?_
  · repeat (first | refine R1 ?_ | (refine R2 ?_; intro _))
    exact sf_ret (rV (bF fun e => e2 (by rw [e])))
  repeat (first | refine R1 ?_ | (refine R2 ?_; intro _))
  refine sf_if (fun e3 => ?_) fun e3 => ?_
  · repeat (first | refine R1 ?_ | (refine R2 ?_; intro _))
    exact sf_ret (rV (bF fun e => e3 (by rw [e])))
  repeat (first | refine R1 ?_ | (refine R2 ?_; intro _))
  refine sf_if (fun e4 => ?_) fun e4 => ?_
  · repeat (first | refine R1 ?_ | (refine R2 ?_; intro _))
    exact sf_ret (rV (bF fun e => e4 (by rw [e])))
  repeat (first | refine R1 ?_ | (refine R2 ?_; intro _))
  refine fp (y_callV (eqGrid_v _ _ _ x.grid y.grid (gridB_mk s_grid_cells1) (gridB_mk s_grid_cells2)) (by rfl) ?_)
  repeat (first | refine R1 ?_ | (refine R2 ?_; intro _))
  refine sf_ifn (fun e5 => ?_) fun e5 => ?_
  · repeat (first | refine R1 ?_ | (refine R2 ?_; intro _))
    exact sf_ret (rV (bF fun e => e5 (by rw [e])))
  repeat (first | refine R1 ?_ | (refine R2 ?_; intro _))
  refine fp (y_callV (eqEdit_v _ x.edit y.edit) (by rfl) ?_)
  repeat (first | refine R1 ?_ | (refine R2 ?_; intro _))
  refine sf_ifn (fun e6 => ?_) fun e6 => ?_
  · repeat (first | refine R1 ?_ | (refine R2 ?_; intro _))
    exact sf_ret (rV (bF fun e => e6 (by rw [e])))
  repeat (first | refine R1 ?_ | (refine R2 ?_; intro _))
  refine fp (y_callV (eqIntS_v _ _ _ _ _ s_lights1 s_lights2) (by rfl) ?_)
  repeat (first | refine R1 ?_ | (refine R2 ?_; intro _))
  refine sf_ifn (fun e7 => ?_) fun e7 => ?_
  · repeat (first | refine R1 ?_ | (refine R2 ?_; intro _))
    exact sf_ret (rV (bF fun e => e7 (by rw [e])))
  repeat (first | refine R1 ?_ | (refine R2 ?_; intro _))
  refine sf_ret (rV (bT ?_))
  cases x; cases y; simp_all
end Go.Proofs.YtekjikbaefgncaaGreatDoor

/- Walks of the exact laws' own helpers: marks that are found again. Printed by program. -/
namespace Go.Proofs.YtekjikbaefgncaaGreatDoor
open Go Go.Sl
set_option maxRecDepth 100000
set_option maxHeartbeats 4000000
attribute [local irreducible] Go.Code.sf sfOps Opq opo retF Do1 anyO
variable {M : Jdg → Prop} [IsCl Tryz.prog M]
theorem heldIntS_v (h : PHeap) (a : Value) (xs : List Int) (s : Sl h a intF xs) (k : Int) (h0 : 0 ≤ k) (h1 : k + cIntS xs ≤ 4611686018427387904) : CallV Tryz.prog M 102 [a, .int .i64 k] h (.int .i64 (heldIntS xs k)) := by
  have o1 := s.one
  have hs := s.small
  refine calls_of_sf Tryz.func102 rfl Tryz.ntmps102 ?_
  simp only [argsL, Nat.reduceAdd]
  repeat (first | refine R1 ?_ | (refine R2 ?_; intro _))
  refine sf_lp (ι := Nat × Int) [0] (fun x => [(5, .int .i64 (x.1 : Int)), (1, .int .i64 x.2)]) (fun x O => O = [] ∧ x.1 ≤ xs.length ∧ 0 ≤ x.2 ∧ x.2 + sizeL (fun _ => 1) (xs.drop x.1) ≤ 4611686018427387904 ∧ heldIntS xs k = hL heldInt (xs.drop x.1) x.2) (fun x => xs.length - x.1) (0, k) [] ⟨rfl, by simp, h0, h1, rfl⟩ ?_
  rintro ⟨i, kk⟩ O ⟨rfl, hi, hk0, hk1, hinv⟩
  simp only at hi hk0 hk1 hinv ⊢
  repeat (first | refine R1 ?_ | (refine R2 ?_; intro _))
  refine sf_if (fun h4 => ?_) fun h4 => ?_
  · have hi4 : i < xs.length := by omega
    rw [hL_drop hi4] at hinv
    rw [sizeL_drop hi4] at hk1
    repeat (first | refine R1 ?_ | (refine R2 ?_; intro _))
    refine sf_if (fun e1 => ?_) fun e1 => ?_
    · repeat (first | refine R1 ?_ | (refine R2 ?_; intro _))
      refine sf_ret (rV ?_)
      rw [hinv]
      simp only [heldInt, hI, id]
      simp_all
    repeat (first | refine R1 ?_ | (refine R2 ?_; intro _))
    have key : heldInt (gt xs i) kk = kk + 1 := by
      simp only [ne_eq, Decidable.not_not] at e1
      simp only [heldInt, hI, id, e1, if_true]
    rw [key, if_neg (by omega)] at hinv
    exact ⟨(i + 1, _), by simp only; omega, ⟨rfl, rfl, trivial⟩, rfl, [], _, inferInstance, rfl, by simp only; omega, by simp only; omega, by simp only; omega, hinv⟩
  · refine sf_exit ?_
    repeat (first | refine R1 ?_ | (refine R2 ?_; intro _))
    refine sf_ret (rV ?_)
    have : i = xs.length := by omega
    rw [hinv, this, List.drop_length]
    rfl
theorem heldCellS_v (h : PHeap) (a : Value) (xs : List Cell) (s : Sl h a cellF xs) (k : Int) (h0 : 0 ≤ k) (h1 : k + cCellS xs ≤ 4611686018427387904) : CallV Tryz.prog M 81 [a, .int .i64 k] h (.int .i64 (heldCellS xs k)) := by
  have o1 := s.one
  have hs := s.small
  refine calls_of_sf Tryz.func81 rfl Tryz.ntmps81 ?_
  simp only [argsL, Nat.reduceAdd]
  repeat (first | refine R1 ?_ | (refine R2 ?_; intro _))
  refine sf_lp (ι := Nat × Int) [0] (fun x => [(5, .int .i64 (x.1 : Int)), (1, .int .i64 x.2)]) (fun x O => O = [] ∧ x.1 ≤ xs.length ∧ 0 ≤ x.2 ∧ x.2 + sizeL (fun _ => 2) (xs.drop x.1) ≤ 4611686018427387904 ∧ heldCellS xs k = hL heldCell (xs.drop x.1) x.2) (fun x => xs.length - x.1) (0, k) [] ⟨rfl, by simp, h0, h1, rfl⟩ ?_
  rintro ⟨i, kk⟩ O ⟨rfl, hi, hk0, hk1, hinv⟩
  simp only at hi hk0 hk1 hinv ⊢
  repeat (first | refine R1 ?_ | (refine R2 ?_; intro _))
  refine sf_if (fun h4 => ?_) fun h4 => ?_
  · have hi4 : i < xs.length := by omega
    rw [hL_drop hi4] at hinv
    rw [sizeL_drop hi4] at hk1
    repeat (first | refine R1 ?_ | (refine R2 ?_; intro _))
    refine sf_if (fun e1 => ?_) fun e1 => ?_
    · repeat (first | refine R1 ?_ | (refine R2 ?_; intro _))
      refine sf_ret (rV ?_)
      rw [hinv]
      simp only [heldCell, hI, id]
      simp_all
    repeat (first | refine R1 ?_ | (refine R2 ?_; intro _))
    refine sf_if (fun e2 => ?_) fun e2 => ?_
    · repeat (first | refine R1 ?_ | (refine R2 ?_; intro _))
      refine sf_ret (rV ?_)
      rw [hinv]
      simp only [heldCell, hI, id]
      simp_all
    repeat (first | refine R1 ?_ | (refine R2 ?_; intro _))
    have key : heldCell (gt xs i) kk = kk + 1 + 1 := by
      simp only [ne_eq, Decidable.not_not] at e1 e2
      simp only [heldCell, hI, id, e1, e2, if_true]
    rw [key, if_neg (by omega)] at hinv
    exact ⟨(i + 1, _), by simp only; omega, ⟨rfl, rfl, trivial⟩, rfl, [], _, inferInstance, rfl, by simp only; omega, by simp only; omega, by simp only; omega, hinv⟩
  · refine sf_exit ?_
    repeat (first | refine R1 ?_ | (refine R2 ?_; intro _))
    refine sf_ret (rV ?_)
    have : i = xs.length := by omega
    rw [hinv, this, List.drop_length]
    rfl
theorem heldEditS_v (h : PHeap) (a : Value) (xs : List Edit) (s : Sl h a editF xs) (k : Int) (h0 : 0 ≤ k) (h1 : k + cEditS xs ≤ 4611686018427387904) : CallV Tryz.prog M 113 [a, .int .i64 k] h (.int .i64 (heldEditS xs k)) := by
  have o1 := s.one
  have hs := s.small
  refine calls_of_sf Tryz.func113 rfl Tryz.ntmps113 ?_
  simp only [argsL, Nat.reduceAdd]
  repeat (first | refine R1 ?_ | (refine R2 ?_; intro _))
  refine sf_lp (ι := Nat × Int) [0] (fun x => [(5, .int .i64 (x.1 : Int)), (1, .int .i64 x.2)]) (fun x O => O = [] ∧ x.1 ≤ xs.length ∧ 0 ≤ x.2 ∧ x.2 + sizeL (fun _ => 3) (xs.drop x.1) ≤ 4611686018427387904 ∧ heldEditS xs k = hL heldEdit (xs.drop x.1) x.2) (fun x => xs.length - x.1) (0, k) [] ⟨rfl, by simp, h0, h1, rfl⟩ ?_
  rintro ⟨i, kk⟩ O ⟨rfl, hi, hk0, hk1, hinv⟩
  simp only at hi hk0 hk1 hinv ⊢
  repeat (first | refine R1 ?_ | (refine R2 ?_; intro _))
  refine sf_if (fun h4 => ?_) fun h4 => ?_
  · have hi4 : i < xs.length := by omega
    rw [hL_drop hi4] at hinv
    rw [sizeL_drop hi4] at hk1
    repeat (first | refine R1 ?_ | (refine R2 ?_; intro _))
    refine sf_if (fun e1 => ?_) fun e1 => ?_
    · repeat (first | refine R1 ?_ | (refine R2 ?_; intro _))
      refine sf_ret (rV ?_)
      rw [hinv]
      simp only [heldEdit, hI, id]
      simp_all
    repeat (first | refine R1 ?_ | (refine R2 ?_; intro _))
    refine sf_if (fun e2 => ?_) fun e2 => ?_
    · repeat (first | refine R1 ?_ | (refine R2 ?_; intro _))
      refine sf_ret (rV ?_)
      rw [hinv]
      simp only [heldEdit, hI, id]
      simp_all
    repeat (first | refine R1 ?_ | (refine R2 ?_; intro _))
    refine sf_if (fun e3 => ?_) fun e3 => ?_
    · repeat (first | refine R1 ?_ | (refine R2 ?_; intro _))
      refine sf_ret (rV ?_)
      rw [hinv]
      simp only [heldEdit, hI, id]
      simp_all
    repeat (first | refine R1 ?_ | (refine R2 ?_; intro _))
    have key : heldEdit (gt xs i) kk = kk + 1 + 1 + 1 := by
      simp only [ne_eq, Decidable.not_not] at e1 e2 e3
      simp only [heldEdit, hI, id, e1, e2, e3, if_true]
    rw [key, if_neg (by omega)] at hinv
    exact ⟨(i + 1, _), by simp only; omega, ⟨rfl, rfl, trivial⟩, rfl, [], _, inferInstance, rfl, by simp only; omega, by simp only; omega, by simp only; omega, hinv⟩
  · refine sf_exit ?_
    repeat (first | refine R1 ?_ | (refine R2 ?_; intro _))
    refine sf_ret (rV ?_)
    have : i = xs.length := by omega
    rw [hinv, this, List.drop_length]
    rfl
theorem heldPartS_v (h : PHeap) (a : Value) (xs : List Part) (s : SlR (partR τ) h a xs) (k : Int) (h0 : 0 ≤ k) (h1 : k + cPartS xs ≤ 4611686018427387904) : CallV Tryz.prog M 114 [a, .int .i64 k] h (.int .i64 (heldPartS xs k)) := by
  have o1 := s.one
  obtain ⟨rx, s, b⟩ := s
  have lx := b.len
  have hs := s.small
  refine calls_of_sf Tryz.func114 rfl Tryz.ntmps114 ?_
  simp only [argsL, Nat.reduceAdd]
  repeat (first | refine R1 ?_ | (refine R2 ?_; intro _))
  refine sf_lp (ι := Nat × Int) [0] (fun x => [(5, .int .i64 (x.1 : Int)), (1, .int .i64 x.2)]) (fun x O => O = [] ∧ x.1 ≤ xs.length ∧ 0 ≤ x.2 ∧ x.2 + sizeL cPart (xs.drop x.1) ≤ 4611686018427387904 ∧ heldPartS xs k = hL (heldPart) (xs.drop x.1) x.2) (fun x => xs.length - x.1) (0, k) [] ⟨rfl, by simp, h0, h1, rfl⟩ ?_
  rintro ⟨i, kk⟩ O ⟨rfl, hi, hk0, hk1, hinv⟩
  simp only at hi hk0 hk1 hinv ⊢
  repeat (first | refine R1 ?_ | (refine R2 ?_; intro _))
  refine sf_if (fun h4 => ?_) fun h4 => ?_
  · have hi4 : i < xs.length := by omega
    have hi5 : i < rx.length := by omega
    rw [hL_drop hi4] at hinv
    rw [sizeL_drop hi4] at hk1
    have b4 := b.at hi4
    obtain ⟨v_lights1, ex, s_lights1⟩ := partB b4
    have o_v_lights1 := s_lights1.one
    haveI : FlatV (rawF (partR τ).sz) (gt rx i) [.bool (gt xs i).has, .int .i64 (gt xs i).ver, v_lights1] := ⟨ex⟩
    have cb : sizeL cPart (xs.drop (i + 1)) ≥ 0 := Nat.zero_le _
    have hc : cPart (gt xs i) = cIntS (gt xs i).lights + 1 + 1 := rfl
    repeat (first | refine R1 ?_ | (refine R2 ?_; intro _))
    refine sf_ifn (fun q1 => ?_) fun q1 => ?_
    · repeat (first | refine R1 ?_ | (refine R2 ?_; intro _))
      refine sf_ret (rV ?_)
      have key : (heldPart) (gt xs i) kk = -1 := by simp only [heldPart, hB, hI, hN, hS, q1, if_true, if_false]
      rw [hinv, key]; rfl
    repeat (first | refine R1 ?_ | (refine R2 ?_; intro _))
    refine sf_if (fun q2 => ?_) fun q2 => ?_
    · repeat (first | refine R1 ?_ | (refine R2 ?_; intro _))
      refine sf_ret (rV ?_)
      simp only [ne_eq] at q2
      have key : (heldPart) (gt xs i) kk = -1 := by simp only [heldPart, hB, hI, hN, hS, q1, q2, if_true, if_false]
      rw [hinv, key]; rfl
    simp only [ne_eq, Decidable.not_not] at q2
    repeat (first | refine R1 ?_ | (refine R2 ?_; intro _))
    refine fp (y_callV (heldIntS_v _ _ _ s_lights1 (kk + 1 + 1) (by omega) (by omega)) (by rfl) ?_)
    repeat (first | refine R1 ?_ | (refine R2 ?_; intro _))
    refine sf_if (fun q3 => ?_) fun q3 => ?_
    · repeat (first | refine R1 ?_ | (refine R2 ?_; intro _))
      refine sf_ret (rV ?_)
      have key : (heldPart) (gt xs i) kk = -1 := by simp only [heldPart, hB, hI, hN, hS, q1, q2, q3, if_true, if_false]
      rw [hinv, key]; rfl
    have b3 : kk + 1 + 1 ≤ heldIntS (gt xs i).lights (kk + 1 + 1) ∧ heldIntS (gt xs i).lights (kk + 1 + 1) ≤ kk + 1 + 1 + cIntS (gt xs i).lights := by rcases bdIntS (gt xs i).lights (kk + 1 + 1) (by omega) with z | z <;> omega
    repeat (first | refine R1 ?_ | (refine R2 ?_; intro _))
    have key : (heldPart) (gt xs i) kk = heldIntS (gt xs i).lights (kk + 1 + 1) := by simp only [heldPart, hB, hI, hN, hS, q1, q2, q3, if_true, if_false]
    rw [key, if_neg (by omega)] at hinv
    exact ⟨(i + 1, heldIntS (gt xs i).lights (kk + 1 + 1)), by simp only; omega, ⟨rfl, rfl, trivial⟩, rfl, [], _, inferInstance, rfl, by simp only; omega, by simp only; omega, by simp only; omega, hinv⟩
  · refine sf_exit ?_
    repeat (first | refine R1 ?_ | (refine R2 ?_; intro _))
    refine sf_ret (rV ?_)
    have : i = xs.length := by omega
    rw [hinv, this, List.drop_length]
    rfl
theorem heldShownS_v (h : PHeap) (a : Value) (xs : List Shown) (s : SlR (shownR τ) h a xs) (k : Int) (h0 : 0 ≤ k) (h1 : k + cShownS xs ≤ 4611686018427387904) : CallV Tryz.prog M 115 [a, .int .i64 k] h (.int .i64 (heldShownS xs k)) := by
  have o1 := s.one
  obtain ⟨rx, s, b⟩ := s
  have lx := b.len
  have hs := s.small
  refine calls_of_sf Tryz.func115 rfl Tryz.ntmps115 ?_
  simp only [argsL, Nat.reduceAdd]
  repeat (first | refine R1 ?_ | (refine R2 ?_; intro _))
  refine sf_lp (ι := Nat × Int) [0] (fun x => [(5, .int .i64 (x.1 : Int)), (1, .int .i64 x.2)]) (fun x O => O = [] ∧ x.1 ≤ xs.length ∧ 0 ≤ x.2 ∧ x.2 + sizeL cShown (xs.drop x.1) ≤ 4611686018427387904 ∧ heldShownS xs k = hL (heldShown) (xs.drop x.1) x.2) (fun x => xs.length - x.1) (0, k) [] ⟨rfl, by simp, h0, h1, rfl⟩ ?_
  rintro ⟨i, kk⟩ O ⟨rfl, hi, hk0, hk1, hinv⟩
  simp only at hi hk0 hk1 hinv ⊢
  repeat (first | refine R1 ?_ | (refine R2 ?_; intro _))
  refine sf_if (fun h4 => ?_) fun h4 => ?_
  · have hi4 : i < xs.length := by omega
    have hi5 : i < rx.length := by omega
    rw [hL_drop hi4] at hinv
    rw [sizeL_drop hi4] at hk1
    have b4 := b.at hi4
    obtain ⟨v_pic1, ex, s_pic1⟩ := shownB b4
    have o_v_pic1 := s_pic1.one
    haveI : FlatV (rawF (shownR τ).sz) (gt rx i) [.int .i64 (gt xs i).ver, v_pic1] := ⟨ex⟩
    have cb : sizeL cShown (xs.drop (i + 1)) ≥ 0 := Nat.zero_le _
    have hc : cShown (gt xs i) = cIntS (gt xs i).pic + 1 := rfl
    repeat (first | refine R1 ?_ | (refine R2 ?_; intro _))
    refine sf_if (fun q1 => ?_) fun q1 => ?_
    · repeat (first | refine R1 ?_ | (refine R2 ?_; intro _))
      refine sf_ret (rV ?_)
      simp only [ne_eq] at q1
      have key : (heldShown) (gt xs i) kk = -1 := by simp only [heldShown, hB, hI, hN, hS, q1, if_true, if_false]
      rw [hinv, key]; rfl
    simp only [ne_eq, Decidable.not_not] at q1
    repeat (first | refine R1 ?_ | (refine R2 ?_; intro _))
    refine fp (y_callV (heldIntS_v _ _ _ s_pic1 (kk + 1) (by omega) (by omega)) (by rfl) ?_)
    repeat (first | refine R1 ?_ | (refine R2 ?_; intro _))
    refine sf_if (fun q2 => ?_) fun q2 => ?_
    · repeat (first | refine R1 ?_ | (refine R2 ?_; intro _))
      refine sf_ret (rV ?_)
      have key : (heldShown) (gt xs i) kk = -1 := by simp only [heldShown, hB, hI, hN, hS, q1, q2, if_true, if_false]
      rw [hinv, key]; rfl
    have b2 : kk + 1 ≤ heldIntS (gt xs i).pic (kk + 1) ∧ heldIntS (gt xs i).pic (kk + 1) ≤ kk + 1 + cIntS (gt xs i).pic := by rcases bdIntS (gt xs i).pic (kk + 1) (by omega) with z | z <;> omega
    repeat (first | refine R1 ?_ | (refine R2 ?_; intro _))
    have key : (heldShown) (gt xs i) kk = heldIntS (gt xs i).pic (kk + 1) := by simp only [heldShown, hB, hI, hN, hS, q1, q2, if_true, if_false]
    rw [key, if_neg (by omega)] at hinv
    exact ⟨(i + 1, heldIntS (gt xs i).pic (kk + 1)), by simp only; omega, ⟨rfl, rfl, trivial⟩, rfl, [], _, inferInstance, rfl, by simp only; omega, by simp only; omega, by simp only; omega, hinv⟩
  · refine sf_exit ?_
    repeat (first | refine R1 ?_ | (refine R2 ?_; intro _))
    refine sf_ret (rV ?_)
    have : i = xs.length := by omega
    rw [hinv, this, List.drop_length]
    rfl
theorem heldGrid_v (h : PHeap) (ca : List Value) (x : Grid) (b : (gridR τ).B h ca x) (k : Int) (h0 : 0 ≤ k) (h1 : k + cGrid x ≤ 4611686018427387904) : CallV Tryz.prog M 22 [.agg ca.toArray, .int .i64 k] h (.int .i64 (heldGrid x k)) := by
  obtain ⟨v_cells1, rfl, s_cells1⟩ := gridB b
  have o_v_cells1 := s_cells1.one
  have hc : cGrid x = cCellS x.cells := rfl
  refine calls_of_sf Tryz.func22 rfl Tryz.ntmps22 ?_
  simp only [argsL, Nat.reduceAdd]
  repeat (first | refine R1 ?_ | (refine R2 ?_; intro _))
  refine fp (y_callV (heldCellS_v _ _ _ s_cells1 (k) (by omega) (by omega)) (by rfl) ?_)
  repeat (first | refine R1 ?_ | (refine R2 ?_; intro _))
  refine sf_if (fun q1 => ?_) fun q1 => ?_
  · repeat (first | refine R1 ?_ | (refine R2 ?_; intro _))
    refine sf_ret (rV ?_)
    simp only [heldGrid, hS, hN, q1, if_true, if_false]
  have b1 : k ≤ heldCellS x.cells (k) ∧ heldCellS x.cells (k) ≤ k + cCellS x.cells := by rcases bdCellS x.cells (k) (by omega) with z | z <;> omega
  repeat (first | refine R1 ?_ | (refine R2 ?_; intro _))
  refine sf_ret (rV ?_)
  simp only [heldGrid, hS, hN, q1, if_true, if_false]
theorem heldKeeper_v (h : PHeap) (ca : List Value) (x : Keeper) (b : (keeperR τ).B h ca x) (k : Int) (h0 : 0 ≤ k) (h1 : k + cKeeper x ≤ 4611686018427387904) : CallV Tryz.prog M 47 [.agg ca.toArray, .int .i64 k] h (.int .i64 (heldKeeper x k)) := by
  obtain ⟨v_first_cells1, v_edits1, v_parts1, v_shown1, rfl, s_first_cells1, s_edits1, s_parts1, s_shown1⟩ := keeperB b
  have o_v_first_cells1 := s_first_cells1.one
  have o_v_edits1 := s_edits1.one
  have o_v_parts1 := s_parts1.one
  have o_v_shown1 := s_shown1.one
  have hc : cKeeper x = cGrid x.first + (cEditS x.edits + (cPartS x.parts + cShownS x.shown)) := rfl
  refine calls_of_sf Tryz.func47 rfl Tryz.ntmps47 ?_
  simp only [argsL, Nat.reduceAdd]
  repeat (first | refine R1 ?_ | (refine R2 ?_; intro _))
  refine fp (y_callV (heldGrid_v _ _ x.first (gridB_mk s_first_cells1) (k) (by omega) (by omega)) (by rfl) ?_)
  repeat (first | refine R1 ?_ | (refine R2 ?_; intro _))
  refine sf_if (fun q1 => ?_) fun q1 => ?_
  · repeat (first | refine R1 ?_ | (refine R2 ?_; intro _))
    refine sf_ret (rV ?_)
    simp only [heldKeeper, hS, hN, q1, if_true, if_false]
  have b1 : k ≤ heldGrid x.first (k) ∧ heldGrid x.first (k) ≤ k + cGrid x.first := by rcases bdGrid x.first (k) (by omega) with z | z <;> omega
  repeat (first | refine R1 ?_ | (refine R2 ?_; intro _))
  refine fp (y_callV (heldEditS_v _ _ _ s_edits1 (heldGrid x.first (k)) (by omega) (by omega)) (by rfl) ?_)
  repeat (first | refine R1 ?_ | (refine R2 ?_; intro _))
  refine sf_if (fun q2 => ?_) fun q2 => ?_
  · repeat (first | refine R1 ?_ | (refine R2 ?_; intro _))
    refine sf_ret (rV ?_)
    simp only [heldKeeper, hS, hN, q1, q2, if_true, if_false]
  have b2 : heldGrid x.first (k) ≤ heldEditS x.edits (heldGrid x.first (k)) ∧ heldEditS x.edits (heldGrid x.first (k)) ≤ heldGrid x.first (k) + cEditS x.edits := by rcases bdEditS x.edits (heldGrid x.first (k)) (by omega) with z | z <;> omega
  repeat (first | refine R1 ?_ | (refine R2 ?_; intro _))
  refine fp (y_callV (heldPartS_v _ _ _ s_parts1 (heldEditS x.edits (heldGrid x.first (k))) (by omega) (by omega)) (by rfl) ?_)
  repeat (first | refine R1 ?_ | (refine R2 ?_; intro _))
  refine sf_if (fun q3 => ?_) fun q3 => ?_
  · repeat (first | refine R1 ?_ | (refine R2 ?_; intro _))
    refine sf_ret (rV ?_)
    simp only [heldKeeper, hS, hN, q1, q2, q3, if_true, if_false]
  have b3 : heldEditS x.edits (heldGrid x.first (k)) ≤ heldPartS x.parts (heldEditS x.edits (heldGrid x.first (k))) ∧ heldPartS x.parts (heldEditS x.edits (heldGrid x.first (k))) ≤ heldEditS x.edits (heldGrid x.first (k)) + cPartS x.parts := by rcases bdPartS x.parts (heldEditS x.edits (heldGrid x.first (k))) (by omega) with z | z <;> omega
  repeat (first | refine R1 ?_ | (refine R2 ?_; intro _))
  refine fp (y_callV (heldShownS_v _ _ _ s_shown1 (heldPartS x.parts (heldEditS x.edits (heldGrid x.first (k)))) (by omega) (by omega)) (by rfl) ?_)
  repeat (first | refine R1 ?_ | (refine R2 ?_; intro _))
  refine sf_if (fun q4 => ?_) fun q4 => ?_
  · repeat (first | refine R1 ?_ | (refine R2 ?_; intro _))
    refine sf_ret (rV ?_)
    simp only [heldKeeper, hS, hN, q1, q2, q3, q4, if_true, if_false]
  have b4 : heldPartS x.parts (heldEditS x.edits (heldGrid x.first (k))) ≤ heldShownS x.shown (heldPartS x.parts (heldEditS x.edits (heldGrid x.first (k)))) ∧ heldShownS x.shown (heldPartS x.parts (heldEditS x.edits (heldGrid x.first (k)))) ≤ heldPartS x.parts (heldEditS x.edits (heldGrid x.first (k))) + cShownS x.shown := by rcases bdShownS x.shown (heldPartS x.parts (heldEditS x.edits (heldGrid x.first (k)))) (by omega) with z | z <;> omega
  repeat (first | refine R1 ?_ | (refine R2 ?_; intro _))
  refine sf_ret (rV ?_)
  simp only [heldKeeper, hS, hN, q1, q2, q3, q4, if_true, if_false]
end Go.Proofs.YtekjikbaefgncaaGreatDoor

/- Walks of the exact laws' own helpers: marks that are found again, words. Printed by program. -/
namespace Go.Proofs.YtekjikbaefgncaaGreatDoor
open Go Go.Sl
set_option maxRecDepth 100000
set_option maxHeartbeats 4000000
attribute [local irreducible] Go.Code.sf sfOps Opq opo retF Do1 anyO
variable {M : Jdg → Prop} [IsCl Tryz.prog M]
theorem heldWord_v (h : PHeap) (ca : List Value) (x : Word) (b : (wordR τ).B h ca x) (k : Int) (h0 : 0 ≤ k) (h1 : k + cWord x ≤ 4611686018427387904) : CallV Tryz.prog M 38 [.agg ca.toArray, .int .i64 k] h (.int .i64 (heldWord x k)) := by
  obtain ⟨v_grid_cells1, v_lights1, rfl, s_grid_cells1, s_lights1⟩ := wordB b
  have o_v_grid_cells1 := s_grid_cells1.one
  have o_v_lights1 := s_lights1.one
  have hc : cWord x = cGrid x.grid + cIntS x.lights := rfl
  refine calls_of_sf Tryz.func38 rfl Tryz.ntmps38 ?_
  simp only [argsL, Nat.reduceAdd]
  repeat (first | refine R1 ?_ | (refine R2 ?_; intro _))
  refine fp (y_callV (heldGrid_v _ _ x.grid (gridB_mk s_grid_cells1) (k) (by omega) (by omega)) (by rfl) ?_)
  repeat (first | refine R1 ?_ | (refine R2 ?_; intro _))
  refine sf_if (fun q1 => ?_) fun q1 => ?_
  · repeat (first | refine R1 ?_ | (refine R2 ?_; intro _))
    refine sf_ret (rV ?_)
    simp only [heldWord, hS, hN, q1, if_true, if_false]
  have b1 : k ≤ heldGrid x.grid (k) ∧ heldGrid x.grid (k) ≤ k + cGrid x.grid := by rcases bdGrid x.grid (k) (by omega) with z | z <;> omega
  repeat (first | refine R1 ?_ | (refine R2 ?_; intro _))
  refine fp (y_callV (heldIntS_v _ _ _ s_lights1 (heldGrid x.grid (k)) (by omega) (by omega)) (by rfl) ?_)
  repeat (first | refine R1 ?_ | (refine R2 ?_; intro _))
  refine sf_if (fun q2 => ?_) fun q2 => ?_
  · repeat (first | refine R1 ?_ | (refine R2 ?_; intro _))
    refine sf_ret (rV ?_)
    simp only [heldWord, hS, hN, q1, q2, if_true, if_false]
  have b2 : heldGrid x.grid (k) ≤ heldIntS x.lights (heldGrid x.grid (k)) ∧ heldIntS x.lights (heldGrid x.grid (k)) ≤ heldGrid x.grid (k) + cIntS x.lights := by rcases bdIntS x.lights (heldGrid x.grid (k)) (by omega) with z | z <;> omega
  repeat (first | refine R1 ?_ | (refine R2 ?_; intro _))
  refine sf_ret (rV ?_)
  simp only [heldWord, hS, hN, q1, q2, if_true, if_false]
end Go.Proofs.YtekjikbaefgncaaGreatDoor

/- Walks of the exact laws' own helpers: marks. Printed by program. -/
namespace Go.Proofs.YtekjikbaefgncaaGreatDoor
open Go Go.Sl
set_option maxRecDepth 100000
set_option maxHeartbeats 4000000
attribute [local irreducible] Go.Code.sf sfOps Opq opo retF Do1 anyO
variable {M : Jdg → Prop} [IsCl Tryz.prog M]
theorem markIntS_f (h : PHeap) (a : Value) (A : Own) (xs : List Int) (gr : Gr A a 3 intF xs) (hs : xs.length ≤ 281474976710656) (k : Int) (h0 : 0 ≤ k) (h1 : k + cIntS xs ≤ 4611686018427387904) : CallF Tryz.prog M 101 [a, .int .i64 k] A h fun v' A' => ∃ ys, v' = .int .i64 (k + cIntS xs) ∧ Gr A' a 3 intF ys ∧ ys.length = xs.length ∧ heldIntS ys k = k + cIntS xs := by
  have o1 := gr.one
  have hcs : cIntS xs = 1 * xs.length := sizeL_const xs
  refine calls_of_sf Tryz.func101 rfl Tryz.ntmps101 ?_
  simp only [argsL, Nat.reduceAdd]
  repeat (first | refine R1 ?_ | (refine R2 ?_; intro _))
  refine sf_lp (ι := Nat × Int) [0] (fun x => [(5, .int .i64 (x.1 : Int)), (1, .int .i64 x.2)]) (fun x O => ∃ ys, x.1 ≤ xs.length ∧ ys.length = xs.length ∧ Gr O a 3 intF ys ∧ x.2 = k + 1 * (x.1 : Int) ∧ hL heldInt (ys.take x.1) k = x.2) (fun x => xs.length - x.1) (0, k) A ⟨xs, by simp, rfl, gr, by simp, rfl⟩ ?_
  rintro ⟨i, kk⟩ O ⟨ys, hi, hl, g, hkk, hinv⟩
  simp only at hi hkk hinv ⊢
  repeat (first | refine R1 ?_ | (refine R2 ?_; intro _))
  refine sf_if (fun h4 => ?_) fun h4 => ?_
  · have hi4 : i < ys.length := by omega
    repeat (first | refine R1 ?_ | (refine R2 ?_; intro _))
    refine fp (y_storeG0 (by rfl) (by rfl) g (by omega) (by rfl) fun A1 y1 e1 l1 _ g1 => ?_)
    have hi5 : i < y1.length := by omega
    clear g
    repeat (first | refine R1 ?_ | (refine R2 ?_; intro _))
    have ez : y1 = ys.set i kk := by simp only [e1, List.set_set]
    have key : heldInt kk kk = kk + 1 := by simp [heldInt, hI]
    have hp := hL_put (f := heldInt) hi4 hinv (by omega) key (by omega)
    exact ⟨(i + 1, _), by simp only; omega, ⟨rfl, rfl, trivial⟩, rfl, _, _, inferInstance, y1, by simp only; omega, by omega, g1, by simp only; omega, by rw [ez]; exact hp⟩
  · refine sf_exit ?_
    repeat (first | refine R1 ?_ | (refine R2 ?_; intro _))
    refine sf_ret (rO O ⟨ys, ?_, g, hl, ?_⟩)
    · have : (i : Int) = xs.length := by omega
      rw [hkk, this, hcs]; simp
    · rw [take_ge (by omega) (by omega)] at hinv
      show hL heldInt ys k = _
      rw [hinv, hkk, hcs, show i = xs.length by omega]; simp
theorem markCellS_f (h : PHeap) (a : Value) (A : Own) (xs : List Cell) (gr : Gr A a 67 cellF xs) (hs : xs.length ≤ 281474976710656) (k : Int) (h0 : 0 ≤ k) (h1 : k + cCellS xs ≤ 4611686018427387904) : CallF Tryz.prog M 80 [a, .int .i64 k] A h fun v' A' => ∃ ys, v' = .int .i64 (k + cCellS xs) ∧ Gr A' a 67 cellF ys ∧ ys.length = xs.length ∧ heldCellS ys k = k + cCellS xs := by
  have o1 := gr.one
  have hcs : cCellS xs = 2 * xs.length := sizeL_const xs
  refine calls_of_sf Tryz.func80 rfl Tryz.ntmps80 ?_
  simp only [argsL, Nat.reduceAdd]
  repeat (first | refine R1 ?_ | (refine R2 ?_; intro _))
  refine sf_lp (ι := Nat × Int) [0] (fun x => [(5, .int .i64 (x.1 : Int)), (1, .int .i64 x.2)]) (fun x O => ∃ ys, x.1 ≤ xs.length ∧ ys.length = xs.length ∧ Gr O a 67 cellF ys ∧ x.2 = k + 2 * (x.1 : Int) ∧ hL heldCell (ys.take x.1) k = x.2) (fun x => xs.length - x.1) (0, k) A ⟨xs, by simp, rfl, gr, by simp, rfl⟩ ?_
  rintro ⟨i, kk⟩ O ⟨ys, hi, hl, g, hkk, hinv⟩
  simp only at hi hkk hinv ⊢
  repeat (first | refine R1 ?_ | (refine R2 ?_; intro _))
  refine sf_if (fun h4 => ?_) fun h4 => ?_
  · have hi4 : i < ys.length := by omega
    repeat (first | refine R1 ?_ | (refine R2 ?_; intro _))
    refine fp (y_storeG (by rfl) (by rfl) g (by omega) (by rfl) fun A1 y1 e1 l1 _ g1 => ?_)
    have hi5 : i < y1.length := by omega
    clear g
    repeat (first | refine R1 ?_ | (refine R2 ?_; intro _))
    refine fp (y_storeG (by rfl) (by rfl) g1 (by omega) (by rfl) fun A2 y2 e2 l2 _ g2 => ?_)
    have hi6 : i < y2.length := by omega
    clear g1
    repeat (first | refine R1 ?_ | (refine R2 ?_; intro _))
    have ez : y2 = ys.set i ⟨kk, kk + 1⟩ := by simp only [e2, e1, List.set_set]
    have key : heldCell ⟨kk, kk + 1⟩ kk = kk + 1 + 1 := by simp [heldCell, hI]
    have hp := hL_put (f := heldCell) hi4 hinv (by omega) key (by omega)
    exact ⟨(i + 1, _), by simp only; omega, ⟨rfl, rfl, trivial⟩, rfl, _, _, inferInstance, y2, by simp only; omega, by omega, g2, by simp only; omega, by rw [ez]; exact hp⟩
  · refine sf_exit ?_
    repeat (first | refine R1 ?_ | (refine R2 ?_; intro _))
    refine sf_ret (rO O ⟨ys, ?_, g, hl, ?_⟩)
    · have : (i : Int) = xs.length := by omega
      rw [hkk, this, hcs]; simp
    · rw [take_ge (by omega) (by omega)] at hinv
      show hL heldCell ys k = _
      rw [hinv, hkk, hcs, show i = xs.length by omega]; simp
theorem markEditS_f (h : PHeap) (a : Value) (A : Own) (xs : List Edit) (gr : Gr A a 69 editF xs) (hs : xs.length ≤ 281474976710656) (k : Int) (h0 : 0 ≤ k) (h1 : k + cEditS xs ≤ 4611686018427387904) : CallF Tryz.prog M 77 [a, .int .i64 k] A h fun v' A' => ∃ ys, v' = .int .i64 (k + cEditS xs) ∧ Gr A' a 69 editF ys ∧ ys.length = xs.length ∧ heldEditS ys k = k + cEditS xs := by
  have o1 := gr.one
  have hcs : cEditS xs = 3 * xs.length := sizeL_const xs
  refine calls_of_sf Tryz.func77 rfl Tryz.ntmps77 ?_
  simp only [argsL, Nat.reduceAdd]
  repeat (first | refine R1 ?_ | (refine R2 ?_; intro _))
  refine sf_lp (ι := Nat × Int) [0] (fun x => [(5, .int .i64 (x.1 : Int)), (1, .int .i64 x.2)]) (fun x O => ∃ ys, x.1 ≤ xs.length ∧ ys.length = xs.length ∧ Gr O a 69 editF ys ∧ x.2 = k + 3 * (x.1 : Int) ∧ hL heldEdit (ys.take x.1) k = x.2) (fun x => xs.length - x.1) (0, k) A ⟨xs, by simp, rfl, gr, by simp, rfl⟩ ?_
  rintro ⟨i, kk⟩ O ⟨ys, hi, hl, g, hkk, hinv⟩
  simp only at hi hkk hinv ⊢
  repeat (first | refine R1 ?_ | (refine R2 ?_; intro _))
  refine sf_if (fun h4 => ?_) fun h4 => ?_
  · have hi4 : i < ys.length := by omega
    repeat (first | refine R1 ?_ | (refine R2 ?_; intro _))
    refine fp (y_storeG (by rfl) (by rfl) g (by omega) (by rfl) fun A1 y1 e1 l1 _ g1 => ?_)
    have hi5 : i < y1.length := by omega
    clear g
    repeat (first | refine R1 ?_ | (refine R2 ?_; intro _))
    refine fp (y_storeG (by rfl) (by rfl) g1 (by omega) (by rfl) fun A2 y2 e2 l2 _ g2 => ?_)
    have hi6 : i < y2.length := by omega
    clear g1
    repeat (first | refine R1 ?_ | (refine R2 ?_; intro _))
    refine fp (y_storeG (by rfl) (by rfl) g2 (by omega) (by rfl) fun A3 y3 e3 l3 _ g3 => ?_)
    have hi7 : i < y3.length := by omega
    clear g2
    repeat (first | refine R1 ?_ | (refine R2 ?_; intro _))
    have ez : y3 = ys.set i ⟨kk, ⟨kk + 1, kk + 1 + 1⟩⟩ := by simp only [e3, e2, e1, List.set_set]
    have key : heldEdit ⟨kk, ⟨kk + 1, kk + 1 + 1⟩⟩ kk = kk + 1 + 1 + 1 := by simp [heldEdit, hI]
    have hp := hL_put (f := heldEdit) hi4 hinv (by omega) key (by omega)
    exact ⟨(i + 1, _), by simp only; omega, ⟨rfl, rfl, trivial⟩, rfl, _, _, inferInstance, y3, by simp only; omega, by omega, g3, by simp only; omega, by rw [ez]; exact hp⟩
  · refine sf_exit ?_
    repeat (first | refine R1 ?_ | (refine R2 ?_; intro _))
    refine sf_ret (rO O ⟨ys, ?_, g, hl, ?_⟩)
    · have : (i : Int) = xs.length := by omega
      rw [hkk, this, hcs]; simp
    · rw [take_ge (by omega) (by omega)] at hinv
      show hL heldEdit ys k = _
      rw [hinv, hkk, hcs, show i = xs.length by omega]; simp
theorem markPartS_f (h : PHeap) (a : Value) (A : Own) (xs : List Part) (gr : GrR (partR τ) A a 113 xs) (k : Int) (h0 : 0 ≤ k) (h1 : k + cPartS xs ≤ 4611686018427387904) : CallF Tryz.prog M 78 [a, .int .i64 k] A h fun v' A' => ∃ ys, v' = .int .i64 (k + cPartS xs) ∧ GrR (partR τ) A' a 113 ys ∧ cPartS ys = cPartS xs ∧ heldPartS ys k = k + cPartS xs := by
  have o1 := gr.one
  obtain ⟨A0, A1, rfl, rx, g, oa, hs⟩ := gr
  have lx := oa.len
  refine calls_of_sf Tryz.func78 rfl Tryz.ntmps78 ?_
  simp only [argsL, Nat.reduceAdd]
  repeat (first | refine R1 ?_ | (refine R2 ?_; intro _))
  refine sf_lp (ι := Nat × Int) [0] (fun x => [(5, .int .i64 (x.1 : Int)), (1, .int .i64 x.2)]) (fun x O => ∃ A0 A1 ry ys, O = A0 ++ A1 ∧ x.1 ≤ xs.length ∧ ys.length = xs.length ∧ Gr A0 a 113 (rawF (partR τ).sz) ry ∧ OAll (partR τ) A1 ry ys ∧ ys.drop x.1 = xs.drop x.1 ∧ x.2 = k + sizeL cPart (xs.take x.1) ∧ sizeL cPart (ys.take x.1) = sizeL cPart (xs.take x.1) ∧ hL (heldPart) (ys.take x.1) k = x.2) (fun x => xs.length - x.1) (0, k) (A0 ++ A1) ⟨A0, A1, rx, xs, rfl, by simp, rfl, g, oa, rfl, by simp [sizeL], rfl, rfl⟩ ?_
  clear g oa lx rx A0 A1
  rintro ⟨i, kk⟩ O ⟨A0, A1, ry, ys, rfl, hi, hl, g, oa, hd, hkk, hsz, hinv⟩
  simp only at hi hd hkk hsz hinv ⊢
  have ly := oa.len
  repeat (first | refine R1 ?_ | (refine R2 ?_; intro _))
  refine sf_if (fun h4 => ?_) fun h4 => ?_
  · have hi4 : i < ys.length := by omega
    have hi5 : i < ry.length := by omega
    have hg := gt_drop (xs := xs) (by omega) hd
    have hst := sizeL_take (f := cPart) (xs := xs) (k := i) (by omega)
    have hsp := sizeL_split (f := cPart) xs (i + 1)
    have hcx : cPartS xs = sizeL cPart xs := rfl
    rw [← hg] at hst
    obtain ⟨B1, Bk, B2, rfl, ok, put⟩ := oa.at hi4
    obtain ⟨v_lights1, ex, g_v_lights1, l_v_lights1⟩ := partO ok
    have o_v_lights1 := g_v_lights1.one
    haveI : FlatV (rawF (partR τ).sz) (gt ry i) [.bool (gt ys i).has, .int .i64 (gt ys i).ver, v_lights1] := ⟨ex⟩
    have ce : cPart (gt ys i) = cIntS (gt ys i).lights + 1 + 1 := rfl
    repeat (first | refine R1 ?_ | (refine R2 ?_; intro _))
    refine fp (y_storeG (by rfl) (by rfl) g (by omega) (by rfl) fun A1 y1 e1 m1 _ z1 => ?_)
    have hj1 : i < y1.length := by omega
    clear g
    repeat (first | refine R1 ?_ | (refine R2 ?_; intro _))
    refine fp (y_storeG (by rfl) (by rfl) z1 (by omega) (by rfl) fun A2 y2 e2 m2 _ z2 => ?_)
    have hj2 : i < y2.length := by omega
    clear z1
    repeat (first | refine R1 ?_ | (refine R2 ?_; intro _))
    refine fp (y_call (markIntS_f _ _ _ _ g_v_lights1 l_v_lights1 (kk + 1 + 1) (by omega) (by omega)) (by rfl) ?_)
    rintro _ K3 ⟨w3, rfl, r3, t3, u3⟩
    repeat (first | refine R1 ?_ | (refine R2 ?_; intro _))
    let z : Part := ⟨decide ((kk) % 3 = 0), kk + 1, w3⟩
    have d3 : cIntS w3 = cIntS (gt ys i).lights := by simp only [cIntS, sizeL_const, t3]
    have cz : cPart z = cPart (gt ys i) := by simp only [z, cPart, cGrid, cScene, d3]
    have key : (heldPart) z kk = kk + 1 + 1 + cIntS (gt ys i).lights := by
      simp only [z, heldPart, hB, hI, hN, hS, if_true, u3]
      rw [if_neg (by omega)]
    have oa2 := put K3 ⟨[.bool z.has, .int .i64 z.ver, v_lights1], rfl⟩ z (partO_mk (p := z) r3 (show w3.length ≤ 281474976710656 by omega))
    have hp := hL_put (f := heldPart) hi4 hinv (by omega) key (by omega)
    have hsz2 := sizeL_put (c := cPart) (z := z) hi4
    have er : y2 = ry.set i ⟨[.bool z.has, .int .i64 z.ver, v_lights1], rfl⟩ := by simp only [e2, e1, List.set_set]; rfl
    exact ⟨(i + 1, kk + 1 + 1 + cIntS (gt ys i).lights), by simp only; omega, ⟨rfl, rfl, trivial⟩, rfl, A2 ++ (B1 ++ (K3 ++ B2)), _, inferInstance, A2, _, y2, ys.set i z, rfl, by simp only; omega, by simpa using hl, z2, by rw [er]; exact oa2, drop_set_succ hd, by simp only; omega, by simp only; omega, hp⟩
  · refine sf_exit ?_
    repeat (first | refine R1 ?_ | (refine R2 ?_; intro _))
    rw [take_ge (by omega) (by omega)] at hinv hsz
    rw [take_ge (by omega) (by omega)] at hsz hkk
    refine sf_ret (rO (A0 ++ A1) ⟨ys, ?_, ⟨A0, A1, rfl, ry, g, oa, by omega⟩, hsz, ?_⟩)
    · rw [hkk]; rfl
    · have e : k + (cPartS xs : Int) = kk := hkk.symm
      rw [e]; exact hinv
theorem markShownS_f (h : PHeap) (a : Value) (A : Own) (xs : List Shown) (gr : GrR (shownR τ) A a 117 xs) (k : Int) (h0 : 0 ≤ k) (h1 : k + cShownS xs ≤ 4611686018427387904) : CallF Tryz.prog M 79 [a, .int .i64 k] A h fun v' A' => ∃ ys, v' = .int .i64 (k + cShownS xs) ∧ GrR (shownR τ) A' a 117 ys ∧ cShownS ys = cShownS xs ∧ heldShownS ys k = k + cShownS xs := by
  have o1 := gr.one
  obtain ⟨A0, A1, rfl, rx, g, oa, hs⟩ := gr
  have lx := oa.len
  refine calls_of_sf Tryz.func79 rfl Tryz.ntmps79 ?_
  simp only [argsL, Nat.reduceAdd]
  repeat (first | refine R1 ?_ | (refine R2 ?_; intro _))
  refine sf_lp (ι := Nat × Int) [0] (fun x => [(5, .int .i64 (x.1 : Int)), (1, .int .i64 x.2)]) (fun x O => ∃ A0 A1 ry ys, O = A0 ++ A1 ∧ x.1 ≤ xs.length ∧ ys.length = xs.length ∧ Gr A0 a 117 (rawF (shownR τ).sz) ry ∧ OAll (shownR τ) A1 ry ys ∧ ys.drop x.1 = xs.drop x.1 ∧ x.2 = k + sizeL cShown (xs.take x.1) ∧ sizeL cShown (ys.take x.1) = sizeL cShown (xs.take x.1) ∧ hL (heldShown) (ys.take x.1) k = x.2) (fun x => xs.length - x.1) (0, k) (A0 ++ A1) ⟨A0, A1, rx, xs, rfl, by simp, rfl, g, oa, rfl, by simp [sizeL], rfl, rfl⟩ ?_
  clear g oa lx rx A0 A1
  rintro ⟨i, kk⟩ O ⟨A0, A1, ry, ys, rfl, hi, hl, g, oa, hd, hkk, hsz, hinv⟩
  simp only at hi hd hkk hsz hinv ⊢
  have ly := oa.len
  repeat (first | refine R1 ?_ | (refine R2 ?_; intro _))
  refine sf_if (fun h4 => ?_) fun h4 => ?_
  · have hi4 : i < ys.length := by omega
    have hi5 : i < ry.length := by omega
    have hg := gt_drop (xs := xs) (by omega) hd
    have hst := sizeL_take (f := cShown) (xs := xs) (k := i) (by omega)
    have hsp := sizeL_split (f := cShown) xs (i + 1)
    have hcx : cShownS xs = sizeL cShown xs := rfl
    rw [← hg] at hst
    obtain ⟨B1, Bk, B2, rfl, ok, put⟩ := oa.at hi4
    obtain ⟨v_pic1, ex, g_v_pic1, l_v_pic1⟩ := shownO ok
    have o_v_pic1 := g_v_pic1.one
    haveI : FlatV (rawF (shownR τ).sz) (gt ry i) [.int .i64 (gt ys i).ver, v_pic1] := ⟨ex⟩
    have ce : cShown (gt ys i) = cIntS (gt ys i).pic + 1 := rfl
    repeat (first | refine R1 ?_ | (refine R2 ?_; intro _))
    refine fp (y_storeG (by rfl) (by rfl) g (by omega) (by rfl) fun A1 y1 e1 m1 _ z1 => ?_)
    have hj1 : i < y1.length := by omega
    clear g
    repeat (first | refine R1 ?_ | (refine R2 ?_; intro _))
    refine fp (y_call (markIntS_f _ _ _ _ g_v_pic1 l_v_pic1 (kk + 1) (by omega) (by omega)) (by rfl) ?_)
    rintro _ K2 ⟨w2, rfl, r2, t2, u2⟩
    repeat (first | refine R1 ?_ | (refine R2 ?_; intro _))
    let z : Shown := ⟨kk, w2⟩
    have d2 : cIntS w2 = cIntS (gt ys i).pic := by simp only [cIntS, sizeL_const, t2]
    have cz : cShown z = cShown (gt ys i) := by simp only [z, cShown, cGrid, cScene, d2]
    have key : (heldShown) z kk = kk + 1 + cIntS (gt ys i).pic := by
      simp only [z, heldShown, hB, hI, hN, hS, if_true, u2]
      rw [if_neg (by omega)]
    have oa2 := put K2 ⟨[.int .i64 z.ver, v_pic1], rfl⟩ z (shownO_mk (p := z) r2 (show w2.length ≤ 281474976710656 by omega))
    have hp := hL_put (f := heldShown) hi4 hinv (by omega) key (by omega)
    have hsz2 := sizeL_put (c := cShown) (z := z) hi4
    have er : y1 = ry.set i ⟨[.int .i64 z.ver, v_pic1], rfl⟩ := by simp only [e1, List.set_set]; rfl
    exact ⟨(i + 1, kk + 1 + cIntS (gt ys i).pic), by simp only; omega, ⟨rfl, rfl, trivial⟩, rfl, A1 ++ (B1 ++ (K2 ++ B2)), _, inferInstance, A1, _, y1, ys.set i z, rfl, by simp only; omega, by simpa using hl, z1, by rw [er]; exact oa2, drop_set_succ hd, by simp only; omega, by simp only; omega, hp⟩
  · refine sf_exit ?_
    repeat (first | refine R1 ?_ | (refine R2 ?_; intro _))
    rw [take_ge (by omega) (by omega)] at hinv hsz
    rw [take_ge (by omega) (by omega)] at hsz hkk
    refine sf_ret (rO (A0 ++ A1) ⟨ys, ?_, ⟨A0, A1, rfl, ry, g, oa, by omega⟩, hsz, ?_⟩)
    · rw [hkk]; rfl
    · have e : k + (cShownS xs : Int) = kk := hkk.symm
      rw [e]; exact hinv
theorem markGrid_f (h : PHeap) (A : Own) (ca : List Value) (x : Grid) (b : (gridR τ).O A ca x) (k : Int) (h0 : 0 ≤ k) (h1 : k + cGrid x ≤ 4611686018427387904) : CallF Tryz.prog M 21 [.agg ca.toArray, .int .i64 k] A h fun v' A' => ∃ y, v' = .int .i64 (k + cGrid x) ∧ (gridR τ).O A' ca y ∧ cGrid y = cGrid x ∧ heldGrid y k = k + cGrid x := by
  obtain ⟨v_cells1, rfl, g_v_cells1, l_v_cells1⟩ := gridO b
  have o_v_cells1 := g_v_cells1.one
  have hc : cGrid x = cCellS x.cells := rfl
  refine calls_of_sf Tryz.func21 rfl Tryz.ntmps21 ?_
  simp only [argsL, Nat.reduceAdd]
  repeat (first | refine R1 ?_ | (refine R2 ?_; intro _))
  refine fp (y_call (markCellS_f _ _ _ _ g_v_cells1 l_v_cells1 (k) (by omega) (by omega)) (by rfl) ?_)
  rintro _ K1 ⟨w1, rfl, r1, t1, u1⟩
  repeat (first | refine R1 ?_ | (refine R2 ?_; intro _))
  have d1 : cCellS w1 = cCellS x.cells := by simp only [cCellS, sizeL_const, t1]
  let y : Grid := ⟨x.wide, w1⟩
  have oy : (gridR τ).O K1 _ y := gridO_mk (g := y) r1 (show w1.length ≤ 281474976710656 by omega)
  refine sf_ret (rO K1 ⟨y, ?_, ?_, ?_, ?_⟩)
  · exact congrArg (Value.int .i64) (by omega)
  · exact oy
  · simp only [y, cGrid, d1]
  · simp only [y, heldGrid, hS, hN, u1]
    rw [if_neg (by omega)]
    omega
theorem markKeeper_f (h : PHeap) (A : Own) (ca : List Value) (x : Keeper) (b : (keeperR τ).O A ca x) (k : Int) (h0 : 0 ≤ k) (h1 : k + cKeeper x ≤ 4611686018427387904) : CallF Tryz.prog M 20 [.agg ca.toArray, .int .i64 k] A h fun v' A' => ∃ y, v' = .int .i64 (k + cKeeper x) ∧ (keeperR τ).O A' ca y ∧ cKeeper y = cKeeper x ∧ heldKeeper y k = k + cKeeper x := by
  obtain ⟨v_first_cells1, v_edits1, v_parts1, v_shown1, K_v_first_cells1, K_v_edits1, K_v_parts1, K_v_shown1, rfl, rfl, ⟨g_v_first_cells1, l_v_first_cells1⟩, ⟨g_v_edits1, l_v_edits1⟩, g_v_parts1, g_v_shown1⟩ := keeperO b
  have o_v_first_cells1 := g_v_first_cells1.one
  have o_v_edits1 := g_v_edits1.one
  have o_v_parts1 := g_v_parts1.one
  have o_v_shown1 := g_v_shown1.one
  have hc : cKeeper x = cGrid x.first + (cEditS x.edits + (cPartS x.parts + cShownS x.shown)) := rfl
  refine calls_of_sf Tryz.func20 rfl Tryz.ntmps20 ?_
  simp only [argsL, Nat.reduceAdd]
  repeat (first | refine R1 ?_ | (refine R2 ?_; intro _))
  refine fp (y_call (markGrid_f _ _ _ x.first (gridO_mk g_v_first_cells1 l_v_first_cells1) (k) (by omega) (by omega)) (by rfl) ?_)
  rintro _ K1 ⟨w1, rfl, r1, t1, u1⟩
  repeat (first | refine R1 ?_ | (refine R2 ?_; intro _))
  refine fp (y_call (markEditS_f _ _ _ _ g_v_edits1 l_v_edits1 (k + cGrid x.first) (by omega) (by omega)) (by rfl) ?_)
  rintro _ K2 ⟨w2, rfl, r2, t2, u2⟩
  repeat (first | refine R1 ?_ | (refine R2 ?_; intro _))
  refine fp (y_call (markPartS_f _ _ _ _ g_v_parts1 (k + cGrid x.first + cEditS x.edits) (by omega) (by omega)) (by rfl) ?_)
  rintro _ K3 ⟨w3, rfl, r3, t3, u3⟩
  repeat (first | refine R1 ?_ | (refine R2 ?_; intro _))
  refine fp (y_call (markShownS_f _ _ _ _ g_v_shown1 (k + cGrid x.first + cEditS x.edits + cPartS x.parts) (by omega) (by omega)) (by rfl) ?_)
  rintro _ K4 ⟨w4, rfl, r4, t4, u4⟩
  repeat (first | refine R1 ?_ | (refine R2 ?_; intro _))
  obtain ⟨vv1_v_cells2, ee1, gg1_v_cells2, ll1_v_cells2⟩ := gridO r1
  simp only [List.cons.injEq, and_true] at ee1
  obtain ⟨ef1_0, ef1_1⟩ := ee1
  subst ef1_1
  have d1 := t1
  have d2 : cEditS w2 = cEditS x.edits := by simp only [cEditS, sizeL_const, t2]
  have d3 := t3
  have d4 := t4
  let y : Keeper := ⟨w1, w2, w3, w4⟩
  have oy : (keeperR τ).O (K1 ++ (K2 ++ (K3 ++ (K4)))) _ y := keeperO_mk (k := y) gg1_v_cells2 ll1_v_cells2 r2 (show w2.length ≤ 281474976710656 by omega) r3 r4
  refine sf_ret (rO (K1 ++ (K2 ++ (K3 ++ (K4)))) ⟨y, ?_, ?_, ?_, ?_⟩)
  · exact congrArg (Value.int .i64) (by omega)
  · rw [ef1_0]; exact oy
  · simp only [y, cKeeper, d1, d2, d3, d4]
  · simp only [y, heldKeeper, hS, hN, u1, u2, u3, u4]
    rw [if_neg (by omega)]
    rw [if_neg (by omega)]
    rw [if_neg (by omega)]
    rw [if_neg (by omega)]
    omega
end Go.Proofs.YtekjikbaefgncaaGreatDoor

/- Walks of the exact laws' own helpers: marks, words. Printed by program. -/
namespace Go.Proofs.YtekjikbaefgncaaGreatDoor
open Go Go.Sl
set_option maxRecDepth 100000
set_option maxHeartbeats 4000000
attribute [local irreducible] Go.Code.sf sfOps Opq opo retF Do1 anyO
variable {M : Jdg → Prop} [IsCl Tryz.prog M]
theorem markWord_f (h : PHeap) (A : Own) (ca : List Value) (x : Word) (b : (wordR τ).O A ca x) (k : Int) (h0 : 0 ≤ k) (h1 : k + cWord x ≤ 4611686018427387904) : CallF Tryz.prog M 37 [.agg ca.toArray, .int .i64 k] A h fun v' A' => ∃ y, v' = .int .i64 (k + cWord x) ∧ (wordR τ).O A' ca y ∧ cWord y = cWord x ∧ heldWord y k = k + cWord x := by
  obtain ⟨v_grid_cells1, v_lights1, K_v_grid_cells1, K_v_lights1, rfl, rfl, ⟨g_v_grid_cells1, l_v_grid_cells1⟩, ⟨g_v_lights1, l_v_lights1⟩⟩ := wordO b
  have o_v_grid_cells1 := g_v_grid_cells1.one
  have o_v_lights1 := g_v_lights1.one
  have hc : cWord x = cGrid x.grid + cIntS x.lights := rfl
  refine calls_of_sf Tryz.func37 rfl Tryz.ntmps37 ?_
  simp only [argsL, Nat.reduceAdd]
  repeat (first | refine R1 ?_ | (refine R2 ?_; intro _))
  refine fp (y_call (markGrid_f _ _ _ x.grid (gridO_mk g_v_grid_cells1 l_v_grid_cells1) (k) (by omega) (by omega)) (by rfl) ?_)
  rintro _ K1 ⟨w1, rfl, r1, t1, u1⟩
  repeat (first | refine R1 ?_ | (refine R2 ?_; intro _))
  refine fp (y_call (markIntS_f _ _ _ _ g_v_lights1 l_v_lights1 (k + cGrid x.grid) (by omega) (by omega)) (by rfl) ?_)
  rintro _ K2 ⟨w2, rfl, r2, t2, u2⟩
  repeat (first | refine R1 ?_ | (refine R2 ?_; intro _))
  obtain ⟨vv1_v_cells2, ee1, gg1_v_cells2, ll1_v_cells2⟩ := gridO r1
  simp only [List.cons.injEq, and_true] at ee1
  obtain ⟨ef1_0, ef1_1⟩ := ee1
  subst ef1_1
  have d1 := t1
  have d2 : cIntS w2 = cIntS x.lights := by simp only [cIntS, sizeL_const, t2]
  let y : Word := ⟨x.kind, x.to, x.frm, x.ver, w1, x.edit, w2⟩
  have oy : (wordR τ).O (K1 ++ (K2)) _ y := wordO_mk (w := y) gg1_v_cells2 ll1_v_cells2 r2 (show w2.length ≤ 281474976710656 by omega)
  refine sf_ret (rO (K1 ++ (K2)) ⟨y, ?_, ?_, ?_, ?_⟩)
  · exact congrArg (Value.int .i64) (by omega)
  · dsimp only [wordCs] at oy ⊢; rw [ef1_0]; exact oy
  · simp only [y, cWord, d1, d2]
  · simp only [y, heldWord, hS, hN, u1, u2]
    rw [if_neg (by omega)]
    rw [if_neg (by omega)]
    omega
end Go.Proofs.YtekjikbaefgncaaGreatDoor

/- Walks of the exact laws' own helpers: sizes. Printed by program. -/
namespace Go.Proofs.YtekjikbaefgncaaGreatDoor
open Go Go.Sl
set_option maxRecDepth 100000
set_option maxHeartbeats 4000000
attribute [local irreducible] Go.Code.sf sfOps Opq opo retF Do1 anyO
variable {M : Jdg → Prop} [IsCl Tryz.prog M]
attribute [local irreducible] szF
theorem szCellS_v (h : PHeap) (a : Value) (xs : List Cell) (s : Sl h a cellF xs) (left : Int) (h0 : 0 ≤ left) (h1 : left ≤ 1048576) : CallV Tryz.prog M 82 [a, .int .i64 left] h (.int .i64 (szF xs.length left)) := by
  have o1 := s.one
  have hs := s.small
  refine calls_of_sf Tryz.func82 rfl Tryz.ntmps82 ?_
  simp only [argsL, Nat.reduceAdd]
  repeat (first | refine R1 ?_ | (refine R2 ?_; intro _))
  refine sf_if (fun e => ?_) fun e => ?_
  · repeat (first | refine R1 ?_ | (refine R2 ?_; intro _))
    exact sf_ret (rV (by rw [szF_neg e]))
  · repeat (first | refine R1 ?_ | (refine R2 ?_; intro _))
    exact sf_ret (rV (by rw [szF_pos e]))
theorem szGrid_v (h : PHeap) (ca : List Value) (x : Grid) (b : (gridR τ).B h ca x) (left : Int) (h0 : 0 ≤ left) (h1 : left ≤ 1048576) : CallV Tryz.prog M 23 [.agg ca.toArray, .int .i64 left] h (.int .i64 (szF (szGridN x) left)) := by
  obtain ⟨v_cells1, rfl, s_cells1⟩ := gridB b
  have o_v_cells1 := s_cells1.one
  refine calls_of_sf Tryz.func23 rfl Tryz.ntmps23 ?_
  simp only [argsL, Nat.reduceAdd]
  repeat (first | refine R1 ?_ | (refine R2 ?_; intro _))
  refine fp (y_callV (szCellS_v _ _ _ s_cells1 _ h0 h1) (by rfl) ?_)
  repeat (first | refine R1 ?_ | (refine R2 ?_; intro _))
  refine sf_if (fun e1 => ?_) fun e1 => ?_
  · repeat (first | refine R1 ?_ | (refine R2 ?_; intro _))
    refine sf_ret (rV ?_)
    have q := szF_stop (b := 0) e1
    simp only [szGridN, szGridN, szSceneN, Nat.add_assoc, Nat.add_zero] at q ⊢
    rw [q]
  have g1 := szF_ge e1
  have f1 := szF_le (a := x.cells.length) h0
  have b1a : 0 ≤ szF (x.cells.length) (left) := by omega
  have b1b : szF (x.cells.length) (left) ≤ 1048576 := by omega
  repeat (first | refine R1 ?_ | (refine R2 ?_; intro _))
  refine sf_ret (rV ?_)
  first | rfl | simp only [szGridN, szGridN, szSceneN, Nat.add_assoc]
end Go.Proofs.YtekjikbaefgncaaGreatDoor

/- Walks of the exact laws' own helpers: sizes, keepers. Printed by program. -/
namespace Go.Proofs.YtekjikbaefgncaaGreatDoor
open Go Go.Sl
set_option maxRecDepth 100000
set_option maxHeartbeats 4000000
attribute [local irreducible] Go.Code.sf sfOps Opq opo retF Do1 anyO
variable {M : Jdg → Prop} [IsCl Tryz.prog M]
attribute [local irreducible] szF
theorem szEditS_v (h : PHeap) (a : Value) (xs : List Edit) (s : Sl h a editF xs) (left : Int) (h0 : 0 ≤ left) (h1 : left ≤ 1048576) : CallV Tryz.prog M 56 [a, .int .i64 left] h (.int .i64 (szF xs.length left)) := by
  have o1 := s.one
  have hs := s.small
  refine calls_of_sf Tryz.func56 rfl Tryz.ntmps56 ?_
  simp only [argsL, Nat.reduceAdd]
  repeat (first | refine R1 ?_ | (refine R2 ?_; intro _))
  refine sf_if (fun e => ?_) fun e => ?_
  · repeat (first | refine R1 ?_ | (refine R2 ?_; intro _))
    exact sf_ret (rV (by rw [szF_neg e]))
  · repeat (first | refine R1 ?_ | (refine R2 ?_; intro _))
    exact sf_ret (rV (by rw [szF_pos e]))
theorem szIntS_v (h : PHeap) (a : Value) (xs : List Int) (s : Sl h a intF xs) (left : Int) (h0 : 0 ≤ left) (h1 : left ≤ 1048576) : CallV Tryz.prog M 118 [a, .int .i64 left] h (.int .i64 (szF xs.length left)) := by
  have o1 := s.one
  have hs := s.small
  refine calls_of_sf Tryz.func118 rfl Tryz.ntmps118 ?_
  simp only [argsL, Nat.reduceAdd]
  repeat (first | refine R1 ?_ | (refine R2 ?_; intro _))
  refine sf_if (fun e => ?_) fun e => ?_
  · repeat (first | refine R1 ?_ | (refine R2 ?_; intro _))
    exact sf_ret (rV (by rw [szF_neg e]))
  · repeat (first | refine R1 ?_ | (refine R2 ?_; intro _))
    exact sf_ret (rV (by rw [szF_pos e]))
theorem szPart_v (h : PHeap) (ca : List Value) (x : Part) (b : (partR τ).B h ca x) (left : Int) (h0 : 0 ≤ left) (h1 : left ≤ 1048576) : CallV Tryz.prog M 127 [.agg ca.toArray, .int .i64 left] h (.int .i64 (szF (szPartN x) left)) := by
  obtain ⟨v_lights1, rfl, s_lights1⟩ := partB b
  have o_v_lights1 := s_lights1.one
  refine calls_of_sf Tryz.func127 rfl Tryz.ntmps127 ?_
  simp only [argsL, Nat.reduceAdd]
  repeat (first | refine R1 ?_ | (refine R2 ?_; intro _))
  refine fp (y_callV (szIntS_v _ _ _ s_lights1 _ h0 h1) (by rfl) ?_)
  repeat (first | refine R1 ?_ | (refine R2 ?_; intro _))
  refine sf_if (fun e1 => ?_) fun e1 => ?_
  · repeat (first | refine R1 ?_ | (refine R2 ?_; intro _))
    refine sf_ret (rV ?_)
    have q := szF_stop (b := 0) e1
    simp only [szPartN, szGridN, szSceneN, Nat.add_assoc, Nat.add_zero] at q ⊢
    rw [q]
  have g1 := szF_ge e1
  have f1 := szF_le (a := x.lights.length) h0
  have b1a : 0 ≤ szF (x.lights.length) (left) := by omega
  have b1b : szF (x.lights.length) (left) ≤ 1048576 := by omega
  repeat (first | refine R1 ?_ | (refine R2 ?_; intro _))
  refine sf_ret (rV ?_)
  first | rfl | simp only [szPartN, szGridN, szSceneN, Nat.add_assoc]
theorem szPartS_v (h : PHeap) (a : Value) (xs : List Part) (s : SlR (partR τ) h a xs) (left : Int) (h0 : 0 ≤ left) (h1 : left ≤ 1048576) : CallV Tryz.prog M 57 [a, .int .i64 left] h (.int .i64 (szF (szPartSN xs) left)) := by
  have o1 := s.one
  obtain ⟨rx, s, b⟩ := s
  have lx := b.len
  have hs := s.small
  refine calls_of_sf Tryz.func57 rfl Tryz.ntmps57 ?_
  simp only [argsL, Nat.reduceAdd]
  repeat (first | refine R1 ?_ | (refine R2 ?_; intro _))
  refine sf_if (fun e => ?_) fun e => ?_
  · repeat (first | refine R1 ?_ | (refine R2 ?_; intro _))
    exact sf_ret (rV (by rw [szPartSN, szF_stop (a := xs.length) (by rw [← lx, szF_neg e]; decide)]))
  repeat (first | refine R1 ?_ | (refine R2 ?_; intro _))
  refine sf_lp (ι := Nat × Int) [0] (fun x => [(5, .int .i64 (x.1 : Int)), (1, .int .i64 x.2)]) (fun x O => O = [] ∧ x.1 ≤ xs.length ∧ 0 ≤ x.2 ∧ x.2 ≤ 1048576 ∧ szF (szPartSN xs) left = szF (sizeL szPartN (xs.drop x.1)) x.2) (fun x => xs.length - x.1) (0, left - rx.length) [] ⟨rfl, by simp, by simp only; omega, by simp only; omega, ?_⟩ ?_
  · simp only [szPartSN, List.drop_zero]
    rw [← szF_add (by rw [← lx, szF_pos e]; omega), ← lx, szF_pos e]
  rintro ⟨i, l⟩ O ⟨rfl, hi, hl0, hl1, hinv⟩
  repeat (first | refine R1 ?_ | (refine R2 ?_; intro _))
  refine sf_if (fun h4 => ?_) fun h4 => ?_
  · have hi4 : i < xs.length := by simp only at h4 hi; omega
    have hi5 : i < rx.length := by omega
    have b4 := b.at hi4
    simp only at hinv hl0 hl1
    rw [sizeL_drop hi4] at hinv
    repeat (first | refine R1 ?_ | (refine R2 ?_; intro _))
    refine fp (y_callV (szPart_v _ _ _ b4 _ hl0 hl1) (by rfl) ?_)
    repeat (first | refine R1 ?_ | (refine R2 ?_; intro _))
    have hle := szF_le (a := szPartN (gt xs i)) hl0
    refine sf_if (fun e1 => ?_) fun e1 => ?_
    · repeat (first | refine R1 ?_ | (refine R2 ?_; intro _))
      exact sf_ret (rV (by rw [hinv, szF_stop e1]))
    · repeat (first | refine R1 ?_ | (refine R2 ?_; intro _))
      refine ⟨(i + 1, _), by simp only; omega, ⟨rfl, rfl, trivial⟩, rfl, [], _, inferInstance, rfl, by simp only; omega, by simp only; omega, by simp only; omega, ?_⟩
      simp only
      rw [hinv, szF_add e1]
  · refine sf_exit ?_
    repeat (first | refine R1 ?_ | (refine R2 ?_; intro _))
    refine sf_ret (rV ?_)
    have : i = xs.length := by simp only at h4 hi; omega
    simp only at hinv hl0
    rw [hinv, this, List.drop_length]
    simp only [sizeL]
    rw [szF_pos (by simp; omega)]; simp
theorem szShown_v (h : PHeap) (ca : List Value) (x : Shown) (b : (shownR τ).B h ca x) (left : Int) (h0 : 0 ≤ left) (h1 : left ≤ 1048576) : CallV Tryz.prog M 128 [.agg ca.toArray, .int .i64 left] h (.int .i64 (szF (szShownN x) left)) := by
  obtain ⟨v_pic1, rfl, s_pic1⟩ := shownB b
  have o_v_pic1 := s_pic1.one
  refine calls_of_sf Tryz.func128 rfl Tryz.ntmps128 ?_
  simp only [argsL, Nat.reduceAdd]
  repeat (first | refine R1 ?_ | (refine R2 ?_; intro _))
  refine fp (y_callV (szIntS_v _ _ _ s_pic1 _ h0 h1) (by rfl) ?_)
  repeat (first | refine R1 ?_ | (refine R2 ?_; intro _))
  refine sf_if (fun e1 => ?_) fun e1 => ?_
  · repeat (first | refine R1 ?_ | (refine R2 ?_; intro _))
    refine sf_ret (rV ?_)
    have q := szF_stop (b := 0) e1
    simp only [szShownN, szGridN, szSceneN, Nat.add_assoc, Nat.add_zero] at q ⊢
    rw [q]
  have g1 := szF_ge e1
  have f1 := szF_le (a := x.pic.length) h0
  have b1a : 0 ≤ szF (x.pic.length) (left) := by omega
  have b1b : szF (x.pic.length) (left) ≤ 1048576 := by omega
  repeat (first | refine R1 ?_ | (refine R2 ?_; intro _))
  refine sf_ret (rV ?_)
  first | rfl | simp only [szShownN, szGridN, szSceneN, Nat.add_assoc]
theorem szShownS_v (h : PHeap) (a : Value) (xs : List Shown) (s : SlR (shownR τ) h a xs) (left : Int) (h0 : 0 ≤ left) (h1 : left ≤ 1048576) : CallV Tryz.prog M 58 [a, .int .i64 left] h (.int .i64 (szF (szShownSN xs) left)) := by
  have o1 := s.one
  obtain ⟨rx, s, b⟩ := s
  have lx := b.len
  have hs := s.small
  refine calls_of_sf Tryz.func58 rfl Tryz.ntmps58 ?_
  simp only [argsL, Nat.reduceAdd]
  repeat (first | refine R1 ?_ | (refine R2 ?_; intro _))
  refine sf_if (fun e => ?_) fun e => ?_
  · repeat (first | refine R1 ?_ | (refine R2 ?_; intro _))
    exact sf_ret (rV (by rw [szShownSN, szF_stop (a := xs.length) (by rw [← lx, szF_neg e]; decide)]))
  repeat (first | refine R1 ?_ | (refine R2 ?_; intro _))
  refine sf_lp (ι := Nat × Int) [0] (fun x => [(5, .int .i64 (x.1 : Int)), (1, .int .i64 x.2)]) (fun x O => O = [] ∧ x.1 ≤ xs.length ∧ 0 ≤ x.2 ∧ x.2 ≤ 1048576 ∧ szF (szShownSN xs) left = szF (sizeL szShownN (xs.drop x.1)) x.2) (fun x => xs.length - x.1) (0, left - rx.length) [] ⟨rfl, by simp, by simp only; omega, by simp only; omega, ?_⟩ ?_
  · simp only [szShownSN, List.drop_zero]
    rw [← szF_add (by rw [← lx, szF_pos e]; omega), ← lx, szF_pos e]
  rintro ⟨i, l⟩ O ⟨rfl, hi, hl0, hl1, hinv⟩
  repeat (first | refine R1 ?_ | (refine R2 ?_; intro _))
  refine sf_if (fun h4 => ?_) fun h4 => ?_
  · have hi4 : i < xs.length := by simp only at h4 hi; omega
    have hi5 : i < rx.length := by omega
    have b4 := b.at hi4
    simp only at hinv hl0 hl1
    rw [sizeL_drop hi4] at hinv
    repeat (first | refine R1 ?_ | (refine R2 ?_; intro _))
    refine fp (y_callV (szShown_v _ _ _ b4 _ hl0 hl1) (by rfl) ?_)
    repeat (first | refine R1 ?_ | (refine R2 ?_; intro _))
    have hle := szF_le (a := szShownN (gt xs i)) hl0
    refine sf_if (fun e1 => ?_) fun e1 => ?_
    · repeat (first | refine R1 ?_ | (refine R2 ?_; intro _))
      exact sf_ret (rV (by rw [hinv, szF_stop e1]))
    · repeat (first | refine R1 ?_ | (refine R2 ?_; intro _))
      refine ⟨(i + 1, _), by simp only; omega, ⟨rfl, rfl, trivial⟩, rfl, [], _, inferInstance, rfl, by simp only; omega, by simp only; omega, by simp only; omega, ?_⟩
      simp only
      rw [hinv, szF_add e1]
  · refine sf_exit ?_
    repeat (first | refine R1 ?_ | (refine R2 ?_; intro _))
    refine sf_ret (rV ?_)
    have : i = xs.length := by simp only at h4 hi; omega
    simp only at hinv hl0
    rw [hinv, this, List.drop_length]
    simp only [sizeL]
    rw [szF_pos (by simp; omega)]; simp
theorem szKeeper_v (h : PHeap) (ca : List Value) (x : Keeper) (b : (keeperR τ).B h ca x) (left : Int) (h0 : 0 ≤ left) (h1 : left ≤ 1048576) : CallV Tryz.prog M 12 [.agg ca.toArray, .int .i64 left] h (.int .i64 (szF (szKeeperN x) left)) := by
  obtain ⟨v_first_cells1, v_edits1, v_parts1, v_shown1, rfl, s_first_cells1, s_edits1, s_parts1, s_shown1⟩ := keeperB b
  have o_v_first_cells1 := s_first_cells1.one
  have o_v_edits1 := s_edits1.one
  have o_v_parts1 := s_parts1.one
  have o_v_shown1 := s_shown1.one
  refine calls_of_sf Tryz.func12 rfl Tryz.ntmps12 ?_
  simp only [argsL, Nat.reduceAdd]
  repeat (first | refine R1 ?_ | (refine R2 ?_; intro _))
  refine fp (y_callV (szGrid_v _ _ x.first (gridB_mk s_first_cells1) _ h0 h1) (by rfl) ?_)
  repeat (first | refine R1 ?_ | (refine R2 ?_; intro _))
  refine sf_if (fun e1 => ?_) fun e1 => ?_
  · repeat (first | refine R1 ?_ | (refine R2 ?_; intro _))
    refine sf_ret (rV ?_)
    have q := szF_stop (b := x.edits.length + (szPartSN x.parts + (szShownSN x.shown))) e1
    simp only [szKeeperN, szGridN, szSceneN, Nat.add_assoc, Nat.add_zero] at q ⊢
    rw [q]
  have g1 := szF_ge e1
  have f1 := szF_le (a := szGridN x.first) h0
  have b1a : 0 ≤ szF (szGridN x.first) (left) := by omega
  have b1b : szF (szGridN x.first) (left) ≤ 1048576 := by omega
  repeat (first | refine R1 ?_ | (refine R2 ?_; intro _))
  refine fp (y_callV (szEditS_v _ _ _ s_edits1 _ b1a b1b) (by rfl) ?_)
  repeat (first | refine R1 ?_ | (refine R2 ?_; intro _))
  refine sf_if (fun e2 => ?_) fun e2 => ?_
  · repeat (first | refine R1 ?_ | (refine R2 ?_; intro _))
    refine sf_ret (rV ?_)
    have q := szF_stop (b := szPartSN x.parts + (szShownSN x.shown)) e2
    rw [szF_add e1] at q
    simp only [szKeeperN, szGridN, szSceneN, Nat.add_assoc, Nat.add_zero] at q ⊢
    rw [q]
  have g2 := szF_ge e2
  have f2 := szF_le (a := x.edits.length) b1a
  have b2a : 0 ≤ szF (x.edits.length) (szF (szGridN x.first) (left)) := by omega
  have b2b : szF (x.edits.length) (szF (szGridN x.first) (left)) ≤ 1048576 := by omega
  repeat (first | refine R1 ?_ | (refine R2 ?_; intro _))
  refine fp (y_callV (szPartS_v _ _ _ s_parts1 _ b2a b2b) (by rfl) ?_)
  repeat (first | refine R1 ?_ | (refine R2 ?_; intro _))
  refine sf_if (fun e3 => ?_) fun e3 => ?_
  · repeat (first | refine R1 ?_ | (refine R2 ?_; intro _))
    refine sf_ret (rV ?_)
    have q := szF_stop (b := szShownSN x.shown) e3
    rw [szF_add e2] at q
    rw [szF_add e1] at q
    simp only [szKeeperN, szGridN, szSceneN, Nat.add_assoc, Nat.add_zero] at q ⊢
    rw [q]
  have g3 := szF_ge e3
  have f3 := szF_le (a := szPartSN x.parts) b2a
  have b3a : 0 ≤ szF (szPartSN x.parts) (szF (x.edits.length) (szF (szGridN x.first) (left))) := by omega
  have b3b : szF (szPartSN x.parts) (szF (x.edits.length) (szF (szGridN x.first) (left))) ≤ 1048576 := by omega
  repeat (first | refine R1 ?_ | (refine R2 ?_; intro _))
  refine fp (y_callV (szShownS_v _ _ _ s_shown1 _ b3a b3b) (by rfl) ?_)
  repeat (first | refine R1 ?_ | (refine R2 ?_; intro _))
  refine sf_if (fun e4 => ?_) fun e4 => ?_
  · repeat (first | refine R1 ?_ | (refine R2 ?_; intro _))
    refine sf_ret (rV ?_)
    have q := szF_stop (b := 0) e4
    rw [szF_add e3] at q
    rw [szF_add e2] at q
    rw [szF_add e1] at q
    simp only [szKeeperN, szGridN, szSceneN, Nat.add_assoc, Nat.add_zero] at q ⊢
    rw [q]
  have g4 := szF_ge e4
  have f4 := szF_le (a := szShownSN x.shown) b3a
  have b4a : 0 ≤ szF (szShownSN x.shown) (szF (szPartSN x.parts) (szF (x.edits.length) (szF (szGridN x.first) (left)))) := by omega
  have b4b : szF (szShownSN x.shown) (szF (szPartSN x.parts) (szF (x.edits.length) (szF (szGridN x.first) (left)))) ≤ 1048576 := by omega
  repeat (first | refine R1 ?_ | (refine R2 ?_; intro _))
  refine sf_ret (rV ?_)
  rw [szF_add e3, szF_add e2, szF_add e1]
  first | rfl | simp only [szKeeperN, szGridN, szSceneN, Nat.add_assoc]
end Go.Proofs.YtekjikbaefgncaaGreatDoor

/- Walks of the exact laws' own helpers: sizes, words. Printed by program. -/
namespace Go.Proofs.YtekjikbaefgncaaGreatDoor
open Go Go.Sl
set_option maxRecDepth 100000
set_option maxHeartbeats 4000000
attribute [local irreducible] Go.Code.sf sfOps Opq opo retF Do1 anyO
variable {M : Jdg → Prop} [IsCl Tryz.prog M]
attribute [local irreducible] szF
theorem szWord_v (h : PHeap) (ca : List Value) (x : Word) (b : (wordR τ).B h ca x) (left : Int) (h0 : 0 ≤ left) (h1 : left ≤ 1048576) : CallV Tryz.prog M 50 [.agg ca.toArray, .int .i64 left] h (.int .i64 (szF (szWordN x) left)) := by
  obtain ⟨v_grid_cells1, v_lights1, rfl, s_grid_cells1, s_lights1⟩ := wordB b
  have o_v_grid_cells1 := s_grid_cells1.one
  have o_v_lights1 := s_lights1.one
  refine calls_of_sf Tryz.func50 rfl Tryz.ntmps50 ?_
  simp only [argsL, Nat.reduceAdd]
  repeat (first | refine R1 ?_ | (refine R2 ?_; intro _))
  refine fp (y_callV (szGrid_v _ _ x.grid (gridB_mk s_grid_cells1) _ h0 h1) (by rfl) ?_)
  repeat (first | refine R1 ?_ | (refine R2 ?_; intro _))
  refine sf_if (fun e1 => ?_) fun e1 => ?_
  · repeat (first | refine R1 ?_ | (refine R2 ?_; intro _))
    refine sf_ret (rV ?_)
    have q := szF_stop (b := x.lights.length) e1
    simp only [szWordN, szGridN, szSceneN, Nat.add_assoc, Nat.add_zero] at q ⊢
    rw [q]
  have g1 := szF_ge e1
  have f1 := szF_le (a := szGridN x.grid) h0
  have b1a : 0 ≤ szF (szGridN x.grid) (left) := by omega
  have b1b : szF (szGridN x.grid) (left) ≤ 1048576 := by omega
  repeat (first | refine R1 ?_ | (refine R2 ?_; intro _))
  refine fp (y_callV (szIntS_v _ _ _ s_lights1 _ b1a b1b) (by rfl) ?_)
  repeat (first | refine R1 ?_ | (refine R2 ?_; intro _))
  refine sf_if (fun e2 => ?_) fun e2 => ?_
  · repeat (first | refine R1 ?_ | (refine R2 ?_; intro _))
    refine sf_ret (rV ?_)
    have q := szF_stop (b := 0) e2
    rw [szF_add e1] at q
    simp only [szWordN, szGridN, szSceneN, Nat.add_assoc, Nat.add_zero] at q ⊢
    rw [q]
  have g2 := szF_ge e2
  have f2 := szF_le (a := x.lights.length) b1a
  have b2a : 0 ≤ szF (x.lights.length) (szF (szGridN x.grid) (left)) := by omega
  have b2b : szF (x.lights.length) (szF (szGridN x.grid) (left)) ≤ 1048576 := by omega
  repeat (first | refine R1 ?_ | (refine R2 ?_; intro _))
  refine sf_ret (rV ?_)
  rw [szF_add e1]
  first | rfl | simp only [szWordN, szGridN, szSceneN, Nat.add_assoc]
end Go.Proofs.YtekjikbaefgncaaGreatDoor

/- Walks of the exact laws' own helpers: copies. Printed by program. -/
namespace Go.Proofs.YtekjikbaefgncaaGreatDoor
open Go Go.Sl
set_option maxRecDepth 100000
set_option maxHeartbeats 4000000
attribute [local irreducible] Go.Code.sf sfOps Opq opo retF Do1 anyO
variable {M : Jdg → Prop} [IsCl Tryz.prog M]
theorem toGrid_f (h : PHeap) (ca : List Value) (x : Grid) (b : (gridR τ).B h ca x) (hs : szGridN x ≤ 1048576) : CallF Tryz.prog M 26 [.agg ca.toArray] [] h fun v A => ∃ cs, v = .agg cs.toArray ∧ (gridR τ).O A cs x := by
  obtain ⟨v_cells1, rfl, s_cells1⟩ := gridB b
  have o_v_cells1 := s_cells1.one
  have hz : szGridN x = x.cells.length := rfl
  refine calls_of_sf Tryz.func26 rfl Tryz.ntmps26 ?_
  simp only [argsL, Nat.reduceAdd]
  repeat (first | refine R1 ?_ | (refine R2 ?_; intro _))
  refine fp (y_call (toCellS_f _ _ _ s_cells1 (by omega)) (by rfl) fun w1 K1 g1 => ?_)
  have o1 := g1.one
  repeat (first | refine R1 ?_ | (refine R2 ?_; intro _))
  exact sf_ret (rO K1 ⟨_, rfl, gridO_mk g1 (by omega)⟩)
end Go.Proofs.YtekjikbaefgncaaGreatDoor

/- Walks of the exact laws' own helpers: copies, keepers. Printed by program. -/
namespace Go.Proofs.YtekjikbaefgncaaGreatDoor
open Go Go.Sl
set_option maxRecDepth 100000
set_option maxHeartbeats 4000000
attribute [local irreducible] Go.Code.sf sfOps Opq opo retF Do1 anyO
variable {M : Jdg → Prop} [IsCl Tryz.prog M]
theorem toIntS_f (h : PHeap) (v : Value) (xs : List Int) (s : Sl h v intF xs) (hs : xs.length ≤ 1048576) : CallF Tryz.prog M 120 [v] [] h fun v' A => Gr A v' 3 intF xs := by
  have o1 := s.one
  refine calls_of_sf Tryz.func120 rfl Tryz.ntmps120 ?_
  simp only [argsL, Nat.reduceAdd]
  repeat (first | refine R1 ?_ | (refine R2 ?_; intro _))
  refine fp (y_make (by rfl) (by rfl) (by rfl) (by decide) (by omega) fun w A g => ?_)
  repeat (first | refine R1 ?_ | (refine R2 ?_; intro _))
  refine sf_lp [0, 3] (fun k : Nat => [(4, .int .i64 (k : Int))]) (fun k O => k ≤ xs.length ∧ Gr O w 3 intF (xs.take k ++ List.replicate (xs.length - k) 0)) (fun k => xs.length - k) 0 A ⟨by omega, by simpa using g⟩ ?_
  rintro k O ⟨hk, g⟩
  repeat (first | refine R1 ?_ | (refine R2 ?_; intro _))
  refine sf_if (fun h4 => ?_) fun h4 => ?_
  · have hk4 : k < xs.length := by omega
    have hl : k < (xs.take k ++ List.replicate (xs.length - k) (0 : Int)).length := by simp; omega
    repeat (first | refine R1 ?_ | (refine R2 ?_; intro _))
    refine fp (y_storeG0 (by rfl) (by rfl) g (by omega) (by rfl) fun A ys ey ly _ g => ?_)
    repeat (first | refine R1 ?_ | (refine R2 ?_; intro _))
    refine ⟨k + 1, by omega, ⟨rfl, trivial⟩, rfl, A, _, inferInstance, by omega, ?_⟩
    rw [← set_step hk4]; first | exact ey ▸ g | (rw [ey] at g; exact g)
  · refine sf_exit ?_
    repeat (first | refine R1 ?_ | (refine R2 ?_; intro _))
    refine sf_ret (rO O ?_)
    have : k = xs.length := by omega
    subst this
    simpa using g
theorem toEdit_v (h : PHeap) (x : Edit) : CallV Tryz.prog M 45 [.agg #[.int .i64 x.at', .int .i64 x.cell.kind, .int .i64 x.cell.light]] h (.agg #[.int .i64 x.at', .int .i64 x.cell.kind, .int .i64 x.cell.light]) := by
  refine calls_of_sf Tryz.func45 rfl Tryz.ntmps45 ?_
  simp only [argsL, Nat.reduceAdd]
  repeat (first | refine R1 ?_ | (refine R2 ?_; intro _))
  refine fp (y_callV (toCell_v _ _ _) (by rfl) ?_)
  repeat (first | refine R1 ?_ | (refine R2 ?_; intro _))
  exact sf_ret (rV rfl)
theorem toEditS_f (h : PHeap) (v : Value) (xs : List Edit) (s : Sl h v editF xs) (hs : xs.length ≤ 1048576) : CallF Tryz.prog M 66 [v] [] h fun v' A => Gr A v' 69 editF xs := by
  have o1 := s.one
  refine calls_of_sf Tryz.func66 rfl Tryz.ntmps66 ?_
  simp only [argsL, Nat.reduceAdd]
  repeat (first | refine R1 ?_ | (refine R2 ?_; intro _))
  refine fp (y_make (by rfl) (by rfl) (by rfl) (by decide) (by omega) fun w A g => ?_)
  repeat (first | refine R1 ?_ | (refine R2 ?_; intro _))
  refine sf_lp [0, 3] (fun k : Nat => [(4, .int .i64 (k : Int))]) (fun k O => k ≤ xs.length ∧ Gr O w 69 editF (xs.take k ++ List.replicate (xs.length - k) ⟨0, 0, 0⟩)) (fun k => xs.length - k) 0 A ⟨by omega, by simpa using g⟩ ?_
  rintro k O ⟨hk, g⟩
  repeat (first | refine R1 ?_ | (refine R2 ?_; intro _))
  refine sf_if (fun h4 => ?_) fun h4 => ?_
  · have hk4 : k < xs.length := by omega
    have hl : k < (xs.take k ++ List.replicate (xs.length - k) (⟨0, 0, 0⟩ : Edit)).length := by simp; omega
    repeat (first | refine R1 ?_ | (refine R2 ?_; intro _))
    refine fp (y_callV (toEdit_v _ (gt xs k)) (by rfl) ?_)
    repeat (first | refine R1 ?_ | (refine R2 ?_; intro _))
    refine fp (y_storeG0 (by rfl) (by rfl) g (by omega) (by rfl) fun A ys ey ly _ g => ?_)
    repeat (first | refine R1 ?_ | (refine R2 ?_; intro _))
    refine ⟨k + 1, by omega, ⟨rfl, trivial⟩, rfl, A, _, inferInstance, by omega, ?_⟩
    rw [← set_step hk4]; first | exact ey ▸ g | (rw [ey] at g; exact g)
  · refine sf_exit ?_
    repeat (first | refine R1 ?_ | (refine R2 ?_; intro _))
    refine sf_ret (rO O ?_)
    have : k = xs.length := by omega
    subst this
    simpa using g
theorem toPart_f (h : PHeap) (ca : List Value) (x : Part) (b : (partR τ).B h ca x) (hs : szPartN x ≤ 1048576) : CallF Tryz.prog M 135 [.agg ca.toArray] [] h fun v A => ∃ cs, v = .agg cs.toArray ∧ (partR τ).O A cs x := by
  obtain ⟨v_lights1, rfl, s_lights1⟩ := partB b
  have o_v_lights1 := s_lights1.one
  have hz : szPartN x = x.lights.length := rfl
  refine calls_of_sf Tryz.func135 rfl Tryz.ntmps135 ?_
  simp only [argsL, Nat.reduceAdd]
  repeat (first | refine R1 ?_ | (refine R2 ?_; intro _))
  refine fp (y_call (toIntS_f _ _ _ s_lights1 (by omega)) (by rfl) fun w1 K1 g1 => ?_)
  have o1 := g1.one
  repeat (first | refine R1 ?_ | (refine R2 ?_; intro _))
  exact sf_ret (rO K1 ⟨_, rfl, partO_mk g1 (by omega)⟩)
theorem toPartS_f (h : PHeap) (v : Value) (xs : List Part) (s : SlR (partR τ) h v xs) (hs : szPartSN xs ≤ 1048576) : CallF Tryz.prog M 67 [v] [] h fun v' A => GrR (partR τ) A v' 113 xs := by
  have o1 := s.one
  obtain ⟨rx, s, b⟩ := s
  have lx := b.len
  have hz : szPartSN xs = xs.length + sizeL szPartN xs := rfl
  refine calls_of_sf Tryz.func67 rfl Tryz.ntmps67 ?_
  simp only [argsL, Nat.reduceAdd]
  repeat (first | refine R1 ?_ | (refine R2 ?_; intro _))
  refine fp (y_make (by rfl) (by rfl) (by rfl) (by decide) (by omega) fun w A g => ?_)
  repeat (first | refine R1 ?_ | (refine R2 ?_; intro _))
  refine sf_lp [0, 3] (fun k : Nat => [(4, .int .i64 (k : Int))]) (fun k O => k ≤ xs.length ∧ ∃ A0 A1 rs, O = A0 ++ A1 ∧ rs.length = k ∧ Gr A0 w 113 (rawF (partR τ).sz) (rs ++ List.replicate (xs.length - k) ⟨[.bool false, .int .i64 0, .slice none 0 0], rfl⟩) ∧ OAll (partR τ) A1 rs (xs.take k)) (fun k => xs.length - k) 0 A ⟨by omega, A, [], [], by simp, rfl, by simpa [lx] using g, by simpa using OAll.nil⟩ ?_
  clear g A
  rintro k O ⟨hk, A0, A1, rs, rfl, hr, g, oa⟩
  repeat (first | refine R1 ?_ | (refine R2 ?_; intro _))
  refine sf_if (fun h4 => ?_) fun h4 => ?_
  · have hk4 : k < xs.length := by omega
    have hk5 : k < rx.length := by omega
    have b4 := b.at hk4
    have hsz := sizeL_at (f := szPartN) hk4
    have hl : k < (rs ++ List.replicate (xs.length - k) (⟨[.bool false, .int .i64 0, .slice none 0 0], rfl⟩ : Raw (partR τ).sz)).length := by simp; omega
    repeat (first | refine R1 ?_ | (refine R2 ?_; intro _))
    refine fp (y_call (toPart_f _ _ _ b4 (by omega)) (by rfl) ?_)
    rintro _ K ⟨cs, rfl, q⟩
    haveI : LenR cs 3 := ⟨(partR τ).lenO q⟩
    haveI := (partR τ).oneO q
    repeat (first | refine R1 ?_ | (refine R2 ?_; intro _))
    refine fp (y_storeG0 (by rfl) (by rfl) g (by omega) (by rfl) fun A2 ys ey ly _ g2 => ?_)
    repeat (first | refine R1 ?_ | (refine R2 ?_; intro _))
    refine ⟨k + 1, by omega, ⟨rfl, trivial⟩, rfl, A2 ++ (A1 ++ K), _, inferInstance, by omega, A2, A1 ++ K, rs ++ [⟨cs, (partR τ).lenO q⟩], rfl, by simp [hr], ?_, ?_⟩
    · rw [← raw_step hr hk4]; first | exact ey ▸ g2 | (rw [ey] at g2; exact g2)
    · rw [take_succ_gt hk4]; exact oa.snoc q
  · refine sf_exit ?_
    repeat (first | refine R1 ?_ | (refine R2 ?_; intro _))
    have : k = xs.length := by omega
    subst this
    refine sf_ret (rO (A0 ++ A1) ⟨A0, A1, rfl, rs, by simpa using g, by simpa using oa, by omega⟩)
theorem toShown_f (h : PHeap) (ca : List Value) (x : Shown) (b : (shownR τ).B h ca x) (hs : szShownN x ≤ 1048576) : CallF Tryz.prog M 136 [.agg ca.toArray] [] h fun v A => ∃ cs, v = .agg cs.toArray ∧ (shownR τ).O A cs x := by
  obtain ⟨v_pic1, rfl, s_pic1⟩ := shownB b
  have o_v_pic1 := s_pic1.one
  have hz : szShownN x = x.pic.length := rfl
  refine calls_of_sf Tryz.func136 rfl Tryz.ntmps136 ?_
  simp only [argsL, Nat.reduceAdd]
  repeat (first | refine R1 ?_ | (refine R2 ?_; intro _))
  refine fp (y_call (toIntS_f _ _ _ s_pic1 (by omega)) (by rfl) fun w1 K1 g1 => ?_)
  have o1 := g1.one
  repeat (first | refine R1 ?_ | (refine R2 ?_; intro _))
  exact sf_ret (rO K1 ⟨_, rfl, shownO_mk g1 (by omega)⟩)
theorem toShownS_f (h : PHeap) (v : Value) (xs : List Shown) (s : SlR (shownR τ) h v xs) (hs : szShownSN xs ≤ 1048576) : CallF Tryz.prog M 68 [v] [] h fun v' A => GrR (shownR τ) A v' 117 xs := by
  have o1 := s.one
  obtain ⟨rx, s, b⟩ := s
  have lx := b.len
  have hz : szShownSN xs = xs.length + sizeL szShownN xs := rfl
  refine calls_of_sf Tryz.func68 rfl Tryz.ntmps68 ?_
  simp only [argsL, Nat.reduceAdd]
  repeat (first | refine R1 ?_ | (refine R2 ?_; intro _))
  refine fp (y_make (by rfl) (by rfl) (by rfl) (by decide) (by omega) fun w A g => ?_)
  repeat (first | refine R1 ?_ | (refine R2 ?_; intro _))
  refine sf_lp [0, 3] (fun k : Nat => [(4, .int .i64 (k : Int))]) (fun k O => k ≤ xs.length ∧ ∃ A0 A1 rs, O = A0 ++ A1 ∧ rs.length = k ∧ Gr A0 w 117 (rawF (shownR τ).sz) (rs ++ List.replicate (xs.length - k) ⟨[.int .i64 0, .slice none 0 0], rfl⟩) ∧ OAll (shownR τ) A1 rs (xs.take k)) (fun k => xs.length - k) 0 A ⟨by omega, A, [], [], by simp, rfl, by simpa [lx] using g, by simpa using OAll.nil⟩ ?_
  clear g A
  rintro k O ⟨hk, A0, A1, rs, rfl, hr, g, oa⟩
  repeat (first | refine R1 ?_ | (refine R2 ?_; intro _))
  refine sf_if (fun h4 => ?_) fun h4 => ?_
  · have hk4 : k < xs.length := by omega
    have hk5 : k < rx.length := by omega
    have b4 := b.at hk4
    have hsz := sizeL_at (f := szShownN) hk4
    have hl : k < (rs ++ List.replicate (xs.length - k) (⟨[.int .i64 0, .slice none 0 0], rfl⟩ : Raw (shownR τ).sz)).length := by simp; omega
    repeat (first | refine R1 ?_ | (refine R2 ?_; intro _))
    refine fp (y_call (toShown_f _ _ _ b4 (by omega)) (by rfl) ?_)
    rintro _ K ⟨cs, rfl, q⟩
    haveI : LenR cs 2 := ⟨(shownR τ).lenO q⟩
    haveI := (shownR τ).oneO q
    repeat (first | refine R1 ?_ | (refine R2 ?_; intro _))
    refine fp (y_storeG0 (by rfl) (by rfl) g (by omega) (by rfl) fun A2 ys ey ly _ g2 => ?_)
    repeat (first | refine R1 ?_ | (refine R2 ?_; intro _))
    refine ⟨k + 1, by omega, ⟨rfl, trivial⟩, rfl, A2 ++ (A1 ++ K), _, inferInstance, by omega, A2, A1 ++ K, rs ++ [⟨cs, (shownR τ).lenO q⟩], rfl, by simp [hr], ?_, ?_⟩
    · rw [← raw_step hr hk4]; first | exact ey ▸ g2 | (rw [ey] at g2; exact g2)
    · rw [take_succ_gt hk4]; exact oa.snoc q
  · refine sf_exit ?_
    repeat (first | refine R1 ?_ | (refine R2 ?_; intro _))
    have : k = xs.length := by omega
    subst this
    refine sf_ret (rO (A0 ++ A1) ⟨A0, A1, rfl, rs, by simpa using g, by simpa using oa, by omega⟩)
theorem toKeeper_f (h : PHeap) (ca : List Value) (x : Keeper) (b : (keeperR τ).B h ca x) (hs : szKeeperN x ≤ 1048576) : CallF Tryz.prog M 14 [.agg ca.toArray] [] h fun v A => ∃ cs, v = .agg cs.toArray ∧ (keeperR τ).O A cs x := by
  obtain ⟨v_first_cells1, v_edits1, v_parts1, v_shown1, rfl, s_first_cells1, s_edits1, s_parts1, s_shown1⟩ := keeperB b
  have o_v_first_cells1 := s_first_cells1.one
  have o_v_edits1 := s_edits1.one
  have o_v_parts1 := s_parts1.one
  have o_v_shown1 := s_shown1.one
  have hz : szKeeperN x = szGridN x.first + x.edits.length + szPartSN x.parts + szShownSN x.shown := rfl
  refine calls_of_sf Tryz.func14 rfl Tryz.ntmps14 ?_
  simp only [argsL, Nat.reduceAdd]
  repeat (first | refine R1 ?_ | (refine R2 ?_; intro _))
  refine fp (y_call (toGrid_f _ _ x.first (gridB_mk s_first_cells1) (by simp only [szGridN] at hz ⊢; omega)) (by rfl) ?_)
  rintro _ K1 ⟨_, rfl, q1⟩
  obtain ⟨u1_v_cells, rfl, h1_v_cells, l1_v_cells⟩ := gridO q1
  have oo1_v_cells := h1_v_cells.one
  repeat (first | refine R1 ?_ | (refine R2 ?_; intro _))
  refine fp (y_call (toEditS_f _ _ _ s_edits1 (by omega)) (by rfl) fun w2 K2 g2 => ?_)
  have o2 := g2.one
  repeat (first | refine R1 ?_ | (refine R2 ?_; intro _))
  refine fp (y_call (toPartS_f _ _ _ s_parts1 (by omega)) (by rfl) fun w3 K3 g3 => ?_)
  have o3 := g3.one
  repeat (first | refine R1 ?_ | (refine R2 ?_; intro _))
  refine fp (y_call (toShownS_f _ _ _ s_shown1 (by omega)) (by rfl) fun w4 K4 g4 => ?_)
  have o4 := g4.one
  repeat (first | refine R1 ?_ | (refine R2 ?_; intro _))
  exact sf_ret (rO (K1 ++ (K2 ++ (K3 ++ (K4)))) ⟨_, rfl, keeperO_mk h1_v_cells l1_v_cells g2 (by omega) g3 g4⟩)
end Go.Proofs.YtekjikbaefgncaaGreatDoor

/- Walks of the exact laws' own helpers: copies, words. Printed by program. -/
namespace Go.Proofs.YtekjikbaefgncaaGreatDoor
open Go Go.Sl
set_option maxRecDepth 100000
set_option maxHeartbeats 4000000
attribute [local irreducible] Go.Code.sf sfOps Opq opo retF Do1 anyO
variable {M : Jdg → Prop} [IsCl Tryz.prog M]
theorem toWord_f (h : PHeap) (ca : List Value) (x : Word) (b : (wordR τ).B h ca x) (hs : szWordN x ≤ 1048576) : CallF Tryz.prog M 52 [.agg ca.toArray] [] h fun v A => ∃ cs, v = .agg cs.toArray ∧ (wordR τ).O A cs x := by
  obtain ⟨v_grid_cells1, v_lights1, rfl, s_grid_cells1, s_lights1⟩ := wordB b
  have o_v_grid_cells1 := s_grid_cells1.one
  have o_v_lights1 := s_lights1.one
  have hz : szWordN x = szGridN x.grid + x.lights.length := rfl
  refine calls_of_sf Tryz.func52 rfl Tryz.ntmps52 ?_
  simp only [argsL, Nat.reduceAdd]
  repeat (first | refine R1 ?_ | (refine R2 ?_; intro _))
  refine fp (y_call (toGrid_f _ _ x.grid (gridB_mk s_grid_cells1) (by simp only [szGridN] at hz ⊢; omega)) (by rfl) ?_)
  rintro _ K1 ⟨_, rfl, q1⟩
  obtain ⟨u1_v_cells, rfl, h1_v_cells, l1_v_cells⟩ := gridO q1
  have oo1_v_cells := h1_v_cells.one
  repeat (first | refine R1 ?_ | (refine R2 ?_; intro _))
  refine fp (y_callV (toEdit_v _ x.edit) (by rfl) ?_)
  repeat (first | refine R1 ?_ | (refine R2 ?_; intro _))
  refine fp (y_call (toIntS_f _ _ _ s_lights1 (by omega)) (by rfl) fun w3 K3 g3 => ?_)
  have o3 := g3.one
  repeat (first | refine R1 ?_ | (refine R2 ?_; intro _))
  exact sf_ret (rO (K1 ++ (K3)) ⟨_, rfl, wordO_mk h1_v_cells l1_v_cells g3 (by omega)⟩)
end Go.Proofs.YtekjikbaefgncaaGreatDoor

/- The law FnExactKeepHear: it answers true. -/
namespace Go.Proofs.YtekjikbaefgncaaGreatDoor
open Go Go.Sl
set_option maxRecDepth 100000
set_option maxHeartbeats 4000000
attribute [local irreducible] Go.Code.sf sfOps Opq opo retF Do1 anyO
variable {M : Jdg → Prop} [IsCl Tryz.prog M]
theorem wordO_one2 {A : Own} {cs : List Value} {w : Word} (b : (wordR τ).O A cs w) : ∃ c l, cs = wordCs w c l ∧ Sl.One c ∧ Sl.One l := by
  obtain ⟨c, l, _, _, e, -, ⟨g1, -⟩, ⟨g2, -⟩⟩ := wordO b
  exact ⟨c, l, e, g1.one, g2.one⟩
theorem sizeL_set {α : Type} {f : α → Nat} (y : α) : ∀ (xs : List α) (i : Nat), sizeL f (xs.set i y) ≤ sizeL f xs + f y
  | [], i => by simp [sizeL]
  | x :: xs, 0 => by simp only [List.set, sizeL]; omega
  | x :: xs, i + 1 => by have := sizeL_set (f := f) y xs i; simp only [List.set, sizeL]; omega
theorem sz_setPart (k : Keeper) (i : Nat) (q : Part) : szKeeperN (setPart k i q) ≤ szKeeperN k + q.lights.length := by
  have := sizeL_set (f := szPartN) q k.parts i
  simp only [setPart, szKeeperN, szPartSN, List.length_set]
  simp only [szPartN] at this ⊢
  omega
theorem sz_published (k : Keeper) : szKeeperN (published k) ≤ szKeeperN k + (manyOf k.first).toNat + 1 := by
  unfold published
  split
  · have h1 : sizeL szShownN (k.shown ++ [⟨(gt k.parts 0).ver, pubPic k⟩]) = sizeL szShownN k.shown + (manyOf k.first).toNat := by
      have : ∀ xs : List Shown, sizeL szShownN (xs ++ [⟨(gt k.parts 0).ver, pubPic k⟩]) = sizeL szShownN xs + (manyOf k.first).toNat := fun xs => by
        induction xs with
        | nil => simp [sizeL, szShownN, pubPic]
        | cons x xs ih => simp only [List.cons_append, sizeL, ih]; omega
      exact this _
    simp only [szKeeperN, szShownSN, List.length_append, List.length_cons, List.length_nil, h1]
    omega
  · omega
theorem keepHear_sz (k : Keeper) (w : Word) : szKeeperN (keepHear k w) ≤ szKeeperN k + szWordN w + 30 := by
  unfold keepHear
  split
  · rename_i ok
    have hm := (gok (keepOk_head ok).grid).many
    unfold heard
    split
    · split
      · have := sz_setPart k (w.frm.toNat - 1) noPart
        have h0 : noPart.lights.length = 0 := rfl
        rw [h0] at this
        simp only [szWordN]; omega
      · split
        · have h1 := sz_setPart k (w.frm.toNat - 1) ⟨true, w.ver, w.lights⟩
          have h2 := sz_published (setPart k (w.frm.toNat - 1) ⟨true, w.ver, w.lights⟩)
          simp only [szWordN]
          simp only at h1
          have h3 : (setPart k (w.frm.toNat - 1) ⟨true, w.ver, w.lights⟩).first = k.first := rfl
          rw [h3] at h2
          omega
        · omega
    · omega
  · simp [noKeeper, noGrid, szKeeperN, szPartSN, szShownSN, sizeL]
theorem keepHear_body [al : Alone Tryz.prog M] (h : PHeap) [BAt h 0 errObj] (ca : List Value) (cb : List Value) (k : Keeper) (w : Word) (b : (keeperR τ).B h ca k) (be : (wordR τ).B h cb w) : ∃ c, Tryz.f10.body = some c ∧ c.sf Tryz.prog M Tryz.f10.ntmps (retF Tryz.prog Tryz.f10 Tryz.f10.ntmps (fun v _ => v = .bool true) fun _ _ => False) (argsL 0 [.agg ca.toArray, .agg cb.toArray]) [] h := by
  have b0 := b
  have bw0 := be
  obtain ⟨c, ed, p, s, rfl, s1, s2, s3, s4⟩ := keeperB b
  obtain ⟨wc, wl, ecb, sw1, sw2⟩ := wordB be
  have ecb' : cb = [.int .i64 w.kind, .int .i64 w.to, .int .i64 w.frm, .int .i64 w.ver, .int .i64 w.grid.wide, wc, .int .i64 w.edit.at', .int .i64 w.edit.cell.kind, .int .i64 w.edit.cell.light, wl] := ecb
  subst ecb'
  clear ecb be
  have o1 := s1.one
  have o2 := s2.one
  have o3 := s3.one
  have o4 := s4.one
  have o5 := sw1.one
  have o6 := sw2.one
  refine ⟨_, rfl, ?_⟩
  rw [Tryz.ntmps10]
  simp only [argsL, Nat.reduceAdd]
  repeat (first | refine R1 ?_ | (refine R2 ?_; intro _))
  refine fp (y_callV (szKeeper_v _ _ k b0 1048576 (by decide) (by decide)) (by rfl) ?_)
  repeat (first | refine R1 ?_ | (refine R2 ?_; intro _))
  refine sf_if (fun h1 => ?_) fun h1 => ?_
  · repeat (first | refine R1 ?_ | (refine R2 ?_; intro _))
    exact sf_ret (rO [] rfl)
  have hs0 := szF_ge h1
  have hs : szKeeperN k ≤ 1048576 := by have := hs0.1; omega
  repeat (first | refine R1 ?_ | (refine R2 ?_; intro _))
  refine fp (y_callV (szWord_v _ _ w bw0 (szF (szKeeperN k) 1048576) (by omega) (by omega)) (by rfl) ?_)
  repeat (first | refine R1 ?_ | (refine R2 ?_; intro _))
  refine sf_if (fun h2 => ?_) fun h2 => ?_
  · repeat (first | refine R1 ?_ | (refine R2 ?_; intro _))
    exact sf_ret (rO [] rfl)
  have hsw : szWordN w ≤ 1048576 := by have := (szF_ge h2).1; omega
  have hw : w.lights.length ≤ 1048576 := by simp only [szWordN] at hsw; omega
  have hck := cKeeper_le k
  have hcg := cKeeper_le (keepHear k w)
  have hsz := keepHear_sz k w
  have hcw : cWord w ≤ 3 * szWordN w := by simp only [cWord, cGrid, cCellS, cIntS_eq, sizeL_const, szWordN]; omega
  clear h1 h2 hs0
  refine sf_keep [2, 3] ?_
  repeat (first | refine R1 ?_ | (refine R2 ?_; intro _))
  rename_i b2 b3
  apply via
  · intro tail
    refine sf_draw (by kernel_rfl) (regX_split 1 5 (by rfl) (regX_split 3 5 (by rfl) (regX_split 4 5 (by rfl) ?_ ?_) ?_) ?_)
    case' refine_1 =>
      refine (regX_run [[], [0], [], [0, 1, 2], [0, 1, 2, 3], [0, 1, 2, 3, 4], [0, 1, 2, 3, 4, 5]] 3 [(0, false), (2, false), (1, true)] (by kernel_rfl) (by kernel_rfl) (by kernel_rfl) ?_)
      repeat (refine Da1 ?_)
      refine a_call (toKeeper_f _ _ k b0 hs) (by rfl) (by rfl) (.inl rfl) ?_
      rintro _ A1 ⟨c1, rfl, q1⟩
      repeat (refine Da1 ?_)
      (refine a_end (by rfl) (by rfl) ?_; simp only [finA, setL, List.drop_succ_cons, List.drop_zero])
      refine fp (y_call (toWord_f _ _ w bw0 hsw) (by rfl) ?_)
      rintro _ AW ⟨c2, rfl, qw⟩
      refine fp (y_call (lendF (A1 ++ AW) fun h' _ i => sKeepHear_f h' _ k ((keeperR τ).lent q1 (inb_l i)) hs _ w ((wordR τ).lent qw (inb_r i)) hw) (by rfl) ?_)
      rintro _ _ ⟨A0, rfl, c0, rfl, q0⟩
      obtain ⟨x1, x2, x3, x4, rfl, p1, p2, p3, p4⟩ := keeperO_one q0
      refine R2 ?_
      intro b6
    case' refine_2 =>
      refine (regX_run [[], [0], [], [0, 1, 2], [0, 1, 2, 3, 5], [0, 1, 2, 3], [0, 1, 2, 3, 4, 5]] 6 [(0, false), (2, false), (1, true), (3, true), (5, true), (4, true)] (by kernel_rfl) (by kernel_rfl) (by kernel_rfl) ?_)
      repeat (refine Da1 ?_)
      refine a_call (toKeeper_f _ _ k b0 hs) (by rfl) (by rfl) (.inl rfl) ?_
      rintro _ A1 ⟨c1, rfl, q1⟩
      repeat (refine Da1 ?_)
      refine a_call (toWord_f _ _ w bw0 hsw) (by rfl) (by rfl) (.inl rfl) ?_
      rintro _ AW ⟨c2, rfl, qw⟩
      repeat (refine Da1 ?_)
      refine a_alloc (by rfl) (.inl rfl) fun b6 => ?_
      repeat (refine Da1 ?_)
      refine a_call (lendF (A1 ++ AW) fun h' _ i => sKeepHear_f h' _ k ((keeperR τ).lent q1 (inb_l i)) hs _ w ((wordR τ).lent qw (inb_r i)) hw) (by rfl) (by rfl) (.inl rfl) ?_
      rintro _ _ ⟨A0, rfl, c0, rfl, q0⟩
      obtain ⟨x1, x2, x3, x4, rfl, p1, p2, p3, p4⟩ := keeperO_one q0
      repeat (refine Da1 ?_)
      (refine a_end (by rfl) (by rfl) ?_; simp only [finA, setL, List.drop_succ_cons, List.drop_zero])
    case' refine_3 =>
      refine (regX_run [[], [0], [], [0, 1, 2, 5], [0, 1, 2, 3, 5], [0, 1], [0, 1, 2, 3, 4, 5]] 6 [(0, false), (2, false), (1, true), (5, true), (3, true), (4, true)] (by kernel_rfl) (by kernel_rfl) (by kernel_rfl) ?_)
      repeat (refine Da1 ?_)
      refine a_call (toKeeper_f _ _ k b0 hs) (by rfl) (by rfl) (.inl rfl) ?_
      rintro _ A1 ⟨c1, rfl, q1⟩
      repeat (refine Da1 ?_)
      refine a_alloc (by rfl) (.inl rfl) fun b6 => ?_
      repeat (refine Da1 ?_)
      refine a_call (toWord_f _ _ w bw0 hsw) (by rfl) (by rfl) (.inl rfl) ?_
      rintro _ AW ⟨c2, rfl, qw⟩
      repeat (refine Da1 ?_)
      refine a_call (lendF (A1 ++ AW) fun h' _ i => sKeepHear_f h' _ k ((keeperR τ).lent q1 (inb_l i)) hs _ w ((wordR τ).lent qw (inb_r i)) hw) (by rfl) (by rfl) (.inl rfl) ?_
      rintro _ _ ⟨A0, rfl, c0, rfl, q0⟩
      obtain ⟨x1, x2, x3, x4, rfl, p1, p2, p3, p4⟩ := keeperO_one q0
      repeat (refine Da1 ?_)
      (refine a_end (by rfl) (by rfl) ?_; simp only [finA, setL, List.drop_succ_cons, List.drop_zero])
    case' refine_4 =>
      refine (regX_run [[], [0, 5], [], [0, 1, 2, 5], [0, 1, 2, 3, 5], [], [0, 1, 2, 3, 4, 5]] 6 [(0, false), (2, false), (5, true), (1, true), (3, true), (4, true)] (by kernel_rfl) (by kernel_rfl) (by kernel_rfl) ?_)
      repeat (refine Da1 ?_)
      refine a_alloc (by rfl) (.inl rfl) fun b6 => ?_
      repeat (refine Da1 ?_)
      refine a_call (toKeeper_f _ _ k b0 hs) (by rfl) (by rfl) (.inl rfl) ?_
      rintro _ A1 ⟨c1, rfl, q1⟩
      repeat (refine Da1 ?_)
      refine a_call (toWord_f _ _ w bw0 hsw) (by rfl) (by rfl) (.inl rfl) ?_
      rintro _ AW ⟨c2, rfl, qw⟩
      repeat (refine Da1 ?_)
      refine a_call (lendF (A1 ++ AW) fun h' _ i => sKeepHear_f h' _ k ((keeperR τ).lent q1 (inb_l i)) hs _ w ((wordR τ).lent qw (inb_r i)) hw) (by rfl) (by rfl) (.inl rfl) ?_
      rintro _ _ ⟨A0, rfl, c0, rfl, q0⟩
      obtain ⟨x1, x2, x3, x4, rfl, p1, p2, p3, p4⟩ := keeperO_one q0
      repeat (refine Da1 ?_)
      (refine a_end (by rfl) (by rfl) ?_; simp only [finA, setL, List.drop_succ_cons, List.drop_zero])
    all_goals
      refine R1 ?_
      refine R1 ?_
      refine sf_keep [2, 3, 6] ?_
      refine sf_own ((b6, .cells #[.int .i64 (keepHear k w).first.wide, x1, x2, x3, x4] 39) :: (A0 ++ [(b3, .cells #[.int .i64 w.kind, .int .i64 w.to, .int .i64 w.frm, .int .i64 w.ver, .int .i64 w.grid.wide, wc, .int .i64 w.edit.at', .int .i64 w.edit.cell.kind, .int .i64 w.edit.cell.light, wl] 100), (b2, .cells #[.int .i64 k.first.wide, c, ed, p, s] 29)])) ?_
      clear q1 qw
      revert p4; revert p3; revert p2; revert p1; revert q0; revert x4; revert x3; revert x2; revert x1; revert A0; revert b6
      exact tail
  intro b6 A0 x1 x2 x3 x4 q0 p1 p2 p3 p4
  have q0' := q0
  clear q0
  repeat (first | refine R1 ?_ | (refine R2 ?_; intro _))
  refine fp (y_call (toKeeper_f _ _ k b0 hs) (by rfl) ?_)
  rintro _ A2 ⟨_, rfl, q2⟩
  have q2' := q2
  obtain ⟨y1, y2, y3, y4, rfl, p5, p6, p7, p8⟩ := keeperO_one q2
  clear q2
  repeat (first | refine R1 ?_ | (refine R2 ?_; intro _))
  refine fp (y_call (toWord_f _ _ w bw0 hsw) (by rfl) ?_)
  rintro _ AW ⟨_, rfl, qw⟩
  have qw' := qw
  obtain ⟨u1, u2, rfl, pw1, pw2⟩ := wordO_one2 qw
  clear qw
  repeat (first | refine R1 ?_ | (refine R2 ?_; intro _))
  refine fp (y_call (lendF (A2 ++ AW) fun h' _ i => keepHear_f h' _ k ((keeperR τ).lent q2' (inb_l i)) hs _ w ((wordR τ).lent qw' (inb_r i)) hw) (by rfl) ?_)
  rintro _ _ ⟨A3, rfl, c3, rfl, q3⟩
  have q3' := q3
  obtain ⟨z1, z2, z3, z4, rfl, r1, r2, r3, r4⟩ := keeperO_one q3
  clear q3
  repeat (first | refine R1 ?_ | (refine R2 ?_; intro _))
  rename_i b7 b8 b9
  refine fp (y_lendV (A3 ++ A0) (fun h' _ i => eqKeeper_v h' _ _ _ _ ((keeperR τ).lent q3' (inb_l i)) ((keeperR τ).lent q0' (inb_r i))) (by rfl) ?_)
  simp only [decide_true]
  repeat (first | refine R1 ?_ | (refine R2 ?_; intro _))
  refine sf_cond (by rfl) (fun eh => by simp at eh) fun eh => ?_
  clear eh
  refine sf_keep [2, 3, 6, 7, 8, 9] ?_
  repeat (first | refine R1 ?_ | (refine R2 ?_; intro _))
  refine sf_draw (by kernel_rfl) (regX_run [[], [], [1], [0, 1, 2], [0, 1, 2, 3]] 3 [(0, false), (1, false), (2, true)] (by kernel_rfl) (by kernel_rfl) (by kernel_rfl) ?_)
  repeat (refine Da1 ?_)
  refine a_call (toKeeper_f _ _ k b0 hs) (by rfl) (by rfl) (.inl rfl) ?_
  rintro _ A5 ⟨_, rfl, q5⟩
  (refine a_end (by rfl) (by rfl) ?_; simp only [finA, setL, List.drop_succ_cons, List.drop_zero])
  refine fp (y_lendV (A2 ++ A5) (fun h' _ i => eqKeeper_v h' _ _ _ _ ((keeperR τ).lent q2' (inb_l i)) ((keeperR τ).lent q5 (inb_r i))) (by rfl) ?_)
  simp only [decide_true]
  repeat (first | refine R1 ?_ | (refine R2 ?_; intro _))
  refine sf_cond (by rfl) (fun eh => by simp at eh) fun eh => ?_
  clear eh
  refine sf_keep [2, 3, 6, 7, 8, 9] ?_
  repeat (first | refine R1 ?_ | (refine R2 ?_; intro _))
  refine sf_draw (by kernel_rfl) (regX_run [[], [], [1], [0, 1, 2], [0, 1, 2, 3]] 3 [(0, false), (1, false), (2, true)] (by kernel_rfl) (by kernel_rfl) (by kernel_rfl) ?_)
  repeat (refine Da1 ?_)
  refine a_call (toWord_f _ _ w bw0 hsw) (by rfl) (by rfl) (.inl rfl) ?_
  rintro _ A15 ⟨_, rfl, q15⟩
  (refine a_end (by rfl) (by rfl) ?_; simp only [finA, setL, List.drop_succ_cons, List.drop_zero])
  refine fp (y_lendV (AW ++ A15) (fun h' _ i => eqWord_v h' _ _ _ _ ((wordR τ).lent qw' (inb_l i)) ((wordR τ).lent q15 (inb_r i))) (by rfl) ?_)
  simp only [decide_true]
  repeat (first | refine R1 ?_ | (refine R2 ?_; intro _))
  refine sf_cond (by rfl) (fun eh => by simp at eh) fun eh => ?_
  clear eh
  repeat (first | refine R1 ?_ | (refine R2 ?_; intro _))
  refine fp (y_call (markKeeper_f _ _ _ _ q2' 1 (by decide) (by omega)) (by rfl) ?_)
  rintro _ A6 ⟨w6, rfl, q6, -, -⟩
  repeat (first | refine R1 ?_ | (refine R2 ?_; intro _))
  refine fp (y_call (markWord_f _ _ _ _ qw' (1 + cKeeper k) (by omega) (by omega)) (by rfl) ?_)
  rintro _ A16 ⟨w16, rfl, q16, -, -⟩
  repeat (first | refine R1 ?_ | (refine R2 ?_; intro _))
  refine f_split (fun eh => ?_) fun eh => ?_
  · omega
  repeat (first | refine R1 ?_ | (refine R2 ?_; intro _))
  refine fp (y_lendV (A3 ++ A0) (fun h' _ i => eqKeeper_v h' _ _ _ _ ((keeperR τ).lent q3' (inb_l i)) ((keeperR τ).lent q0' (inb_r i))) (by rfl) ?_)
  simp only [decide_true]
  repeat (first | refine R1 ?_ | (refine R2 ?_; intro _))
  refine sf_cond (by rfl) (fun eh => by simp at eh) fun eh => ?_
  clear eh
  refine sf_keep [2, 3, 6, 9] ?_
  repeat (first | refine R1 ?_ | (refine R2 ?_; intro _))
  refine fp (y_call (markKeeper_f _ _ _ _ q3' 1 (by decide) (by omega)) (by rfl) ?_)
  rintro _ A7 ⟨w7, rfl, q7, z7, u7⟩
  repeat (first | refine R1 ?_ | (refine R2 ?_; intro _))
  refine fp (y_lendV A7 (fun h' _ i => heldKeeper_v h' _ _ ((keeperR τ).lent q7 i) 1 (by decide) (by omega)) (by rfl) ?_)
  rw [u7]
  repeat (first | refine R1 ?_ | (refine R2 ?_; intro _))
  refine sf_if (fun eh => ?_) fun eh => ?_
  · omega
  repeat (first | refine R1 ?_ | (refine R2 ?_; intro _))
  refine sf_if (fun eh => ?_) fun eh => ?_
  · exact absurd rfl eh
  clear eh
  refine sf_keep [2, 3, 6, 9, 11] ?_
  repeat (first | refine R1 ?_ | (refine R2 ?_; intro _))
  apply via
  · intro tail
    refine sf_draw (by kernel_rfl) (regX_split 1 5 (by rfl) (regX_split 3 5 (by rfl) (regX_split 4 5 (by rfl) ?_ ?_) ?_) ?_)
    case' refine_1 =>
      refine (regX_run [[], [0], [], [0, 1, 2], [0, 1, 2, 3], [0, 1, 2, 3, 4], [0, 1, 2, 3, 4, 5]] 3 [(0, false), (2, false), (1, true)] (by kernel_rfl) (by kernel_rfl) (by kernel_rfl) ?_)
      repeat (refine Da1 ?_)
      refine a_call (toKeeper_f _ _ k b0 hs) (by rfl) (by rfl) (.inl rfl) ?_
      rintro _ A8 ⟨c1, rfl, q8⟩
      repeat (refine Da1 ?_)
      (refine a_end (by rfl) (by rfl) ?_; simp only [finA, setL, List.drop_succ_cons, List.drop_zero])
      refine fp (y_call (toWord_f _ _ w bw0 hsw) (by rfl) ?_)
      rintro _ A18 ⟨c2, rfl, q18⟩
      refine fp (y_call (lendF (A8 ++ A18) fun h' _ i => keepHear_f h' _ k ((keeperR τ).lent q8 (inb_l i)) hs _ w ((wordR τ).lent q18 (inb_r i)) hw) (by rfl) ?_)
      rintro _ _ ⟨A9, rfl, c9, rfl, q9⟩
      obtain ⟨v1, v2, v3, v4, rfl, t1, t2, t3, t4⟩ := keeperO_one q9
      refine R2 ?_
      intro b14
    case' refine_2 =>
      refine (regX_run [[], [0], [], [0, 1, 2], [0, 1, 2, 3, 5], [0, 1, 2, 3], [0, 1, 2, 3, 4, 5]] 6 [(0, false), (2, false), (1, true), (3, true), (5, true), (4, true)] (by kernel_rfl) (by kernel_rfl) (by kernel_rfl) ?_)
      repeat (refine Da1 ?_)
      refine a_call (toKeeper_f _ _ k b0 hs) (by rfl) (by rfl) (.inl rfl) ?_
      rintro _ A8 ⟨c1, rfl, q8⟩
      repeat (refine Da1 ?_)
      refine a_call (toWord_f _ _ w bw0 hsw) (by rfl) (by rfl) (.inl rfl) ?_
      rintro _ A18 ⟨c2, rfl, q18⟩
      repeat (refine Da1 ?_)
      refine a_alloc (by rfl) (.inl rfl) fun b14 => ?_
      repeat (refine Da1 ?_)
      refine a_call (lendF (A8 ++ A18) fun h' _ i => keepHear_f h' _ k ((keeperR τ).lent q8 (inb_l i)) hs _ w ((wordR τ).lent q18 (inb_r i)) hw) (by rfl) (by rfl) (.inl rfl) ?_
      rintro _ _ ⟨A9, rfl, c9, rfl, q9⟩
      obtain ⟨v1, v2, v3, v4, rfl, t1, t2, t3, t4⟩ := keeperO_one q9
      repeat (refine Da1 ?_)
      (refine a_end (by rfl) (by rfl) ?_; simp only [finA, setL, List.drop_succ_cons, List.drop_zero])
    case' refine_3 =>
      refine (regX_run [[], [0], [], [0, 1, 2, 5], [0, 1, 2, 3, 5], [0, 1], [0, 1, 2, 3, 4, 5]] 6 [(0, false), (2, false), (1, true), (5, true), (3, true), (4, true)] (by kernel_rfl) (by kernel_rfl) (by kernel_rfl) ?_)
      repeat (refine Da1 ?_)
      refine a_call (toKeeper_f _ _ k b0 hs) (by rfl) (by rfl) (.inl rfl) ?_
      rintro _ A8 ⟨c1, rfl, q8⟩
      repeat (refine Da1 ?_)
      refine a_alloc (by rfl) (.inl rfl) fun b14 => ?_
      repeat (refine Da1 ?_)
      refine a_call (toWord_f _ _ w bw0 hsw) (by rfl) (by rfl) (.inl rfl) ?_
      rintro _ A18 ⟨c2, rfl, q18⟩
      repeat (refine Da1 ?_)
      refine a_call (lendF (A8 ++ A18) fun h' _ i => keepHear_f h' _ k ((keeperR τ).lent q8 (inb_l i)) hs _ w ((wordR τ).lent q18 (inb_r i)) hw) (by rfl) (by rfl) (.inl rfl) ?_
      rintro _ _ ⟨A9, rfl, c9, rfl, q9⟩
      obtain ⟨v1, v2, v3, v4, rfl, t1, t2, t3, t4⟩ := keeperO_one q9
      repeat (refine Da1 ?_)
      (refine a_end (by rfl) (by rfl) ?_; simp only [finA, setL, List.drop_succ_cons, List.drop_zero])
    case' refine_4 =>
      refine (regX_run [[], [0, 5], [], [0, 1, 2, 5], [0, 1, 2, 3, 5], [], [0, 1, 2, 3, 4, 5]] 6 [(0, false), (2, false), (5, true), (1, true), (3, true), (4, true)] (by kernel_rfl) (by kernel_rfl) (by kernel_rfl) ?_)
      repeat (refine Da1 ?_)
      refine a_alloc (by rfl) (.inl rfl) fun b14 => ?_
      repeat (refine Da1 ?_)
      refine a_call (toKeeper_f _ _ k b0 hs) (by rfl) (by rfl) (.inl rfl) ?_
      rintro _ A8 ⟨c1, rfl, q8⟩
      repeat (refine Da1 ?_)
      refine a_call (toWord_f _ _ w bw0 hsw) (by rfl) (by rfl) (.inl rfl) ?_
      rintro _ A18 ⟨c2, rfl, q18⟩
      repeat (refine Da1 ?_)
      refine a_call (lendF (A8 ++ A18) fun h' _ i => keepHear_f h' _ k ((keeperR τ).lent q8 (inb_l i)) hs _ w ((wordR τ).lent q18 (inb_r i)) hw) (by rfl) (by rfl) (.inl rfl) ?_
      rintro _ _ ⟨A9, rfl, c9, rfl, q9⟩
      obtain ⟨v1, v2, v3, v4, rfl, t1, t2, t3, t4⟩ := keeperO_one q9
      repeat (refine Da1 ?_)
      (refine a_end (by rfl) (by rfl) ?_; simp only [finA, setL, List.drop_succ_cons, List.drop_zero])
    all_goals
      refine R1 ?_
      refine R1 ?_
      refine sf_keep [6, 9, 11, 13] ?_
      refine sf_own ((b14, .cells #[.int .i64 (keepHear k w).first.wide, v1, v2, v3, v4] 39) :: (A9 ++ ((b9, .cells #[.int .i64 (keepHear k w).first.wide, z1, z2, z3, z4] 39) :: (A7 ++ ((b6, .cells #[.int .i64 (keepHear k w).first.wide, x1, x2, x3, x4] 39) :: A0))))) ?_
      clear q8 q18
      revert t4; revert t3; revert t2; revert t1; revert q9; revert v4; revert v3; revert v2; revert v1; revert A9; revert b14
      exact tail
  intro b14 A9 v1 v2 v3 v4 q9 t1 t2 t3 t4
  repeat (first | refine R1 ?_ | (refine R2 ?_; intro _))
  refine fp (y_lendV (A9 ++ A0) (fun h' _ i => eqKeeper_v h' _ _ _ _ ((keeperR τ).lent q9 (inb_l i)) ((keeperR τ).lent q0' (inb_r i))) (by rfl) ?_)
  simp only [decide_true]
  repeat (first | refine R1 ?_ | (refine R2 ?_; intro _))
  refine sf_cond (by rfl) (fun eh => by simp at eh) fun eh => ?_
  clear eh
  refine sf_keep [9, 11] ?_
  repeat (first | refine R1 ?_ | (refine R2 ?_; intro _))
  refine fp (y_lendV A7 (fun h' _ i => heldKeeper_v h' _ _ ((keeperR τ).lent q7 i) 1 (by decide) (by omega)) (by rfl) ?_)
  rw [u7]
  repeat (first | refine R1 ?_ | (refine R2 ?_; intro _))
  refine sf_if (fun eh => ?_) fun eh => ?_
  · omega
  refine sf_keep [9, 11, 12] ?_
  repeat (first | refine R1 ?_ | (refine R2 ?_; intro _))
  refine sf_if (fun eh => ?_) fun eh => ?_
  · exact absurd rfl eh
  refine sf_keep [9] ?_
  repeat (first | refine R1 ?_ | (refine R2 ?_; intro _))
  exact sf_ret (rO [] rfl)
end Go.Proofs.YtekjikbaefgncaaGreatDoor

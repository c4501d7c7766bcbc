/- Walks: cells, grids and a keeper's beginning, the program's own. -/
import Derived.Test.YtcefbjpebgofjaaGreatDoorK1
set_option linter.unusedVariables false
set_option linter.unusedSimpArgs false
set_option linter.unusedSectionVars false

namespace Go.Proofs.YtcefbjpebgofjaaGreatDoor
open Go Go.Sl
set_option maxRecDepth 100000
set_option maxHeartbeats 4000000
attribute [local irreducible] Go.Code.sf sfOps Opq opo retF Do1 anyO
variable {M : Jdg → Prop} [IsCl Tryz.prog M]

/-- A cell as a value of the type of its kind. -/
def typedV (c : Cell) : Value :=
  if c.kind = 7 then .iface 98 (.agg #[.int .i64 c.light])
  else if cellOk c then
    if c.kind = 0 then .iface 100 (.agg #[]) else if c.kind = 1 then .iface 101 (.agg #[]) else if c.kind = 2 then .iface 102 (.agg #[]) else if c.kind = 3 then .iface 103 (.agg #[])
    else if c.kind = 4 then .iface 104 (.agg #[]) else if c.kind = 5 then .iface 105 (.agg #[]) else .iface 106 (.agg #[])
  else .nilIface

theorem cellTyped_v (h : PHeap) (c : Cell) : CallV Tryz.prog M 36 [.agg #[.int .i64 c.kind, .int .i64 c.light]] h (.tuple #[typedV c, .bool (cellOk c)]) := by
  obtain ⟨k, l⟩ := c
  refine calls_of_sf Tryz.func36 rfl Tryz.ntmps36 ?_
  simp only [argsL, Nat.reduceAdd]
  repeat (first | refine R1 ?_ | (refine R2 ?_; intro _))
  refine sf_if (fun h1 => ?_) fun h1 => ?_
  · by_cases h2 : l ≥ 1 <;>
    · repeat (first | refine R1 ?_ | (refine R2 ?_; intro _))
      refine sf_draw (by kernel_rfl) (regX_run [[], [0], [0, 1], [0, 1, 2], [], [4], [4, 5], [4, 5, 6], [4, 5, 6, 7], [4, 5, 6, 7, 8], [4, 5, 6, 7, 8, 9], [4, 5, 6, 7, 8, 9, 10], [0, 1, 2, 3, 4, 5, 6, 7], [0, 1, 2, 3, 4, 5, 6, 7, 8, 9, 10, 11, 12]] 13 [(0, false), (1, false), (2, false), (3, false), (4, false), (5, false), (6, false), (7, false), (8, false), (9, false), (10, false), (11, false), (12, false)] (by kernel_rfl) (by kernel_rfl) (by kernel_rfl) ?_)
      repeat (refine Da1 ?_)
      (refine a_end (by rfl) (by rfl) ?_; simp only [finA, setL, List.drop_succ_cons, List.drop_zero])
      repeat (first | refine R1 ?_ | (refine R2 ?_; intro _))
      refine sf_ret (rV ?_)
      simp [typedV, cellOk, h1, h2]
  · repeat (first | refine R1 ?_ | (refine R2 ?_; intro _))
    refine f_split (fun h2 => ?_) fun h2 => ?_
    · repeat (first | refine R1 ?_ | (refine R2 ?_; intro _))
      refine sf_T rfl ?_
      repeat (first | refine R1 ?_ | (refine R2 ?_; intro _))
      refine sf_ret (rV ?_)
      simp [typedV, cellOk, h1, show ¬ 0 ≤ k by omega]
    · repeat (first | refine R1 ?_ | (refine R2 ?_; intro _))
      refine f_split (fun h3 => ?_) fun h3 => ?_
      · repeat (first | refine R1 ?_ | (refine R2 ?_; intro _))
        refine sf_T rfl ?_
        repeat (first | refine R1 ?_ | (refine R2 ?_; intro _))
        refine sf_ret (rV ?_)
        simp [typedV, cellOk, h1, show ¬ k ≤ 6 by omega]
      · repeat (first | refine R1 ?_ | (refine R2 ?_; intro _))
        refine sf_if (fun h4 => ?_) fun h4 => ?_
        · repeat (first | refine R1 ?_ | (refine R2 ?_; intro _))
          refine sf_ret (rV ?_)
          simp [typedV, cellOk, h1, h4]
        · obtain ⟨n, rfl⟩ : ∃ n : Nat, k = n := ⟨k.toNat, by omega⟩
          have hn : n = 0 ∨ n = 1 ∨ n = 2 ∨ n = 3 ∨ n = 4 ∨ n = 5 ∨ n = 6 := by omega
          repeat (first | refine R1 ?_ | (refine R2 ?_; intro _))
          rcases hn with rfl | rfl | rfl | rfl | rfl | rfl | rfl <;>
          · repeat (first | refine R1 ?_ | (refine R2 ?_; intro _))
            refine sf_ret (rV ?_)
            simp at h4
            simp [typedV, cellOk, h4]
theorem cellOk_v (h : PHeap) (c : Cell) : CallV Tryz.prog M 28 [.agg #[.int .i64 c.kind, .int .i64 c.light]] h (.bool (cellOk c)) := by
  refine calls_of_sf Tryz.func28 rfl Tryz.ntmps28 ?_
  simp only [argsL, Nat.reduceAdd]
  repeat (first | refine R1 ?_ | (refine R2 ?_; intro _))
  refine fp (y_callV (cellTyped_v _ c) (by rfl) ?_)
  repeat (first | refine R1 ?_ | (refine R2 ?_; intro _))
  exact sf_ret (rV rfl)
theorem gridOk_v (h : PHeap) (ca : List Value) (g : Grid) (b : (gridR τ).B h ca g) : CallV Tryz.prog M 17 [.agg ca.toArray] h (.bool (gridOk g)) := by
  obtain ⟨c, rfl, s⟩ := gridB b
  have o1 := s.one
  have hs := s.small
  refine calls_of_sf Tryz.func17 rfl Tryz.ntmps17 ?_
  simp only [argsL, Nat.reduceAdd]
  repeat (first | refine R1 ?_ | (refine R2 ?_; intro _))
  refine f_split (fun h1 => ?_) fun h1 => ?_
  · repeat (first | refine R1 ?_ | (refine R2 ?_; intro _))
    refine sf_T rfl ?_
    repeat (first | refine R1 ?_ | (refine R2 ?_; intro _))
    exact sf_ret (rV (by rw [gridOk_F (by omega)]))
  · repeat (first | refine R1 ?_ | (refine R2 ?_; intro _))
    refine sf_if (fun h2 => ?_) fun h2 => ?_
    · repeat (first | refine R1 ?_ | (refine R2 ?_; intro _))
      exact sf_ret (rV (by rw [gridOk_F (by omega)]))
    · repeat (first | refine R1 ?_ | (refine R2 ?_; intro _))
      refine f_split (fun h3 => ?_) fun h3 => ?_
      · repeat (first | refine R1 ?_ | (refine R2 ?_; intro _))
        refine sf_T rfl ?_
        repeat (first | refine R1 ?_ | (refine R2 ?_; intro _))
        exact sf_ret (rV (by rw [gridOk_F (by omega)]))
      · repeat (first | refine R1 ?_ | (refine R2 ?_; intro _))
        refine f_split (fun h4 => ?_) fun h4 => ?_
        · repeat (first | refine R1 ?_ | (refine R2 ?_; intro _))
          refine sf_T rfl ?_
          repeat (first | refine R1 ?_ | (refine R2 ?_; intro _))
          exact sf_ret (rV (by rw [gridOk_F (by omega)]))
        · repeat (first | refine R1 ?_ | (refine R2 ?_; intro _))
          refine sf_if (fun h5 => ?_) fun h5 => ?_
          · repeat (first | refine R1 ?_ | (refine R2 ?_; intro _))
            exact sf_ret (rV (by rw [gridOk_F (by omega)]))
          · repeat (first | refine R1 ?_ | (refine R2 ?_; intro _))
            refine sf_rd [36, 37] 38 g.cells.length 0 (fun k => (g.cells.take k).all cellOk = true) (by omega) rfl (fun k hk hi => ?_)
            repeat (first | refine R1 ?_ | (refine R2 ?_; intro _))
            refine sf_if (fun h6 => ?_) fun h6 => ?_
            · have hk4 : k < g.cells.length := by omega
              repeat (first | refine R1 ?_ | (refine R2 ?_; intro _))
              refine fp (y_callV (cellOk_v _ (gt g.cells k)) (by rfl) ?_)
              repeat (first | refine R1 ?_ | (refine R2 ?_; intro _))
              refine sf_cond (by rfl) (fun h7 => ?_) fun h7 => ?_
              · repeat (first | refine R1 ?_ | (refine R2 ?_; intro _))
                simp only [Bool.not_eq_true'] at h7
                refine sf_ret (rV ?_)
                simp [gridOk, all_false hk4 h7]
              · repeat (first | refine R1 ?_ | (refine R2 ?_; intro _))
                refine ⟨⟨hk4, ?_⟩, rfl, rfl, _, inferInstance⟩
                rw [all_take hk4, hi]; simpa using h7
            · refine sf_exit ?_
              repeat (first | refine R1 ?_ | (refine R2 ?_; intro _))
              rw [take_ge hk (by omega)] at hi
              exact sf_ret (rV (by rw [(gridOk_iff g).2 ⟨⟨by omega, by omega⟩, by omega, by omega, by omega, hi⟩]))
theorem cloneCells_f (h : PHeap) (v : Value) (xs : List Cell) (s : Sl h v cellF xs) (hs : xs.length ≤ 1048576) : CallF Tryz.prog M 29 [v] [] h fun v' A => Gr A v' 61 cellF xs := by
  have o1 := s.one
  refine calls_of_sf Tryz.func29 rfl Tryz.ntmps29 ?_
  simp only [argsL, Nat.reduceAdd]
  repeat (first | refine R1 ?_ | (refine R2 ?_; intro _))
  refine fp (Rq ?_ (q_eqNil (by infer_instance) (by rfl) (by rfl) s))
  repeat (first | refine R1 ?_ | (refine R2 ?_; intro _))
  refine sf_cond (by rfl) (fun h1 => ?_) fun h1 => ?_
  · obtain ⟨rfl, rfl⟩ := isNilS_nil s h1
    repeat (first | refine R1 ?_ | (refine R2 ?_; intro _))
    exact sf_ret (rO [] (Gr.nil _ _))
  · repeat (first | refine R1 ?_ | (refine R2 ?_; intro _))
    refine fp (y_bs (by rfl) (by rfl) (by rfl) (by rfl) (by decide) fun w A gw => ?_)
    repeat (first | refine R1 ?_ | (refine R2 ?_; intro _))
    refine fp (y_appendS (by rfl) (by rfl) gw s (fun y _ => FlatOne.one y) (by rfl) (by rfl) (by simp; omega) (by simp; omega) fun w2 A2 g2 => ?_)
    repeat (first | refine R1 ?_ | (refine R2 ?_; intro _))
    exact sf_ret (rO A2 g2)
theorem gridCopy_f (h : PHeap) (ca : List Value) (g : Grid) (b : (gridR τ).B h ca g) (hs : g.cells.length ≤ 1048576) : CallF Tryz.prog M 18 [.agg ca.toArray] [] h fun v A => ∃ cs, v = .agg cs.toArray ∧ (gridR τ).O A cs g := by
  obtain ⟨c, rfl, s⟩ := gridB b
  have o1 := s.one
  refine calls_of_sf Tryz.func18 rfl Tryz.ntmps18 ?_
  simp only [argsL, Nat.reduceAdd]
  repeat (first | refine R1 ?_ | (refine R2 ?_; intro _))
  refine sf_draw (by kernel_rfl) (regX_run [[], [0], [], [2], [2, 3], [0, 1, 2, 3, 4], [0, 1, 2, 3, 4, 5]] 5 [(0, false), (1, false), (2, false), (3, false), (4, true)] (by kernel_rfl) (by kernel_rfl) (by kernel_rfl) ?_)
  repeat (refine Da1 ?_)
  refine a_call (cloneCells_f _ _ _ s hs) (by rfl) (by rfl) (.inl rfl) fun w A g2 => ?_
  have o2 := g2.one
  (refine a_end (by rfl) (by rfl) ?_; simp only [finA, setL, List.drop_succ_cons, List.drop_zero])
  repeat (first | refine R1 ?_ | (refine R2 ?_; intro _))
  exact sf_ret (rO A ⟨_, rfl, gridO_mk g2 (by omega)⟩)
theorem parts0 {A : Own} {v : Value} {n : Nat} (g : Gr A v 50 (rawF (partR τ).sz) (List.replicate n ⟨[.bool false, .int .i64 0, .slice none 0 0], rfl⟩)) (hn : n ≤ 281474976710656 := by omega) : GrR (partR τ) A v 50 (List.replicate n noPart) := by
  refine ⟨A, [], by simp, _, g, ?_, by simpa using hn⟩
  clear g hn
  induction n with
  | zero => exact .nil
  | succ n ih => rw [List.replicate_succ, List.replicate_succ]; exact .cons (A := []) (partO_mk (p := noPart) (Gr.nil _ _) (by decide)) ih
theorem keepNew_f (h : PHeap) (ca : List Value) (g : Grid) (many : Int) (b : (gridR τ).B h ca g) (hs : g.cells.length ≤ 1048576) : CallF Tryz.prog M 6 [.agg ca.toArray, .int .i64 many] [] h fun v A => ∃ cs, v = .tuple #[.agg cs.toArray, .bool (keepNew g many).2] ∧ (keeperR τ).O A cs (keepNew g many).1 := by
  obtain ⟨c, rfl, s⟩ := gridB b
  have o1 := s.one
  have eF : ¬ (gridOk g = true ∧ 1 ≤ many ∧ many ≤ 3) → keepNew g many = (noKeeper, false) := fun hn => by
    unfold keepNew; rw [if_neg (by simpa using hn)]
  refine calls_of_sf Tryz.func6 rfl Tryz.ntmps6 ?_
  simp only [argsL, Nat.reduceAdd]
  repeat (first | refine R1 ?_ | (refine R2 ?_; intro _))
  refine fp (y_callV (gridOk_v _ _ g b) (by rfl) ?_)
  repeat (first | refine R1 ?_ | (refine R2 ?_; intro _))
  refine f_splitB (fun h1 => ?_) fun h1 => ?_
  · repeat (first | refine R1 ?_ | (refine R2 ?_; intro _))
    refine sf_T rfl ?_
    repeat (first | refine R1 ?_ | (refine R2 ?_; intro _))
    rw [eF (by simp at h1; simp [h1])]
    exact sf_ret (rO [] ⟨_, rfl, noKeeperO⟩)
  · repeat (first | refine R1 ?_ | (refine R2 ?_; intro _))
    refine f_split (fun h2 => ?_) fun h2 => ?_
    · repeat (first | refine R1 ?_ | (refine R2 ?_; intro _))
      refine sf_T rfl ?_
      repeat (first | refine R1 ?_ | (refine R2 ?_; intro _))
      rw [eF (by omega)]
      exact sf_ret (rO [] ⟨_, rfl, noKeeperO⟩)
    · repeat (first | refine R1 ?_ | (refine R2 ?_; intro _))
      refine sf_if (fun h3 => ?_) fun h3 => ?_
      · repeat (first | refine R1 ?_ | (refine R2 ?_; intro _))
        rw [eF (by omega)]
        exact sf_ret (rO [] ⟨_, rfl, noKeeperO⟩)
      · obtain ⟨n, rfl⟩ : ∃ n : Nat, many = n := ⟨many.toNat, by omega⟩
        have e : keepNew g n = (⟨g, [], List.replicate n noPart, []⟩, true) := by
          unfold keepNew; simp at h1; rw [if_pos (by simp [h1]; omega)]; simp
        rw [e]
        repeat (first | refine R1 ?_ | (refine R2 ?_; intro _))
        refine sf_draw (by kernel_rfl) (regX_split 1 3 (by rfl) ?_ ?_)
        · refine (regX_run [[], [0], [], [0, 1, 2], [0, 1, 2, 3], [0, 1, 2, 3, 4], [0, 1, 2, 3, 4, 5]] 3 [(0, false), (2, false), (1, true)] (by kernel_rfl) (by kernel_rfl) (by kernel_rfl) ?_)
          repeat (refine Da1 ?_)
          refine a_call (gridCopy_f _ _ _ b hs) (by rfl) (by rfl) (.inl rfl) ?_
          rintro _ A1 ⟨_, rfl, q⟩
          obtain ⟨c2, rfl, g1, l1⟩ := gridO q
          have o2 := g1.one
          (refine a_end (by rfl) (by rfl) ?_; simp only [finA, setL, List.drop_succ_cons, List.drop_zero])
          repeat (first | refine R1 ?_ | (refine R2 ?_; intro _))
          refine fp (y_make (by rfl) (by rfl) (by rfl) (by decide) (by omega) fun w A2 g2 => ?_)
          have o3 := g2.one
          repeat (first | refine R1 ?_ | (refine R2 ?_; intro _))
          refine sf_ret (rO (A1 ++ ([] ++ (A2 ++ []))) ⟨_, rfl, ?_⟩)
          exact keeperO_mk (k := ⟨g, [], List.replicate n noPart, []⟩) g1 l1 (Gr.nil _ _) (Nat.zero_le _) (parts0 g2) GrR.nil
        · refine (regX_run [[], [0, 2, 3], [], [2], [0, 1, 2, 3], [0, 1, 2, 3, 4], [0, 1, 2, 3, 4, 5]] 4 [(0, false), (2, false), (3, true), (1, true)] (by kernel_rfl) (by kernel_rfl) (by kernel_rfl) ?_)
          repeat (refine Da1 ?_)
          refine a_make (by rfl) (by rfl) (by rfl) (by infer_instance) (by infer_instance) (by infer_instance) (by infer_instance) (by infer_instance) (by rfl) (by decide) (by omega) (.inl rfl) fun w A2 g2 => ?_
          have o3 := g2.one
          repeat (refine Da1 ?_)
          refine a_call (gridCopy_f _ _ _ b hs) (by rfl) (by rfl) (.inl rfl) ?_
          rintro _ A1 ⟨_, rfl, q⟩
          obtain ⟨c2, rfl, g1, l1⟩ := gridO q
          have o2 := g1.one
          repeat (refine Da1 ?_)
          (refine a_end (by rfl) (by rfl) ?_; simp only [finA, setL, List.drop_succ_cons, List.drop_zero])
          repeat (first | refine R1 ?_ | (refine R2 ?_; intro _))
          refine sf_ret (rO (A1 ++ ([] ++ (A2 ++ []))) ⟨_, rfl, ?_⟩)
          exact keeperO_mk (k := ⟨g, [], List.replicate n noPart, []⟩) g1 l1 (Gr.nil _ _) (Nat.zero_le _) (parts0 g2) GrR.nil
end Go.Proofs.YtcefbjpebgofjaaGreatDoor

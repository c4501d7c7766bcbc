/- Walks: a keeper's beginning, the reference's. -/
import Derived.Test.YtcefbjpebgofjaaGreatDoorGA
set_option linter.unusedVariables false
set_option linter.unusedSimpArgs false
set_option linter.unusedSectionVars false

namespace Go.Proofs.YtcefbjpebgofjaaGreatDoor
open Go Go.Sl
set_option maxRecDepth 100000
set_option maxHeartbeats 4000000
attribute [local irreducible] Go.Code.sf sfOps Opq opo retF Do1 anyO
variable {M : Jdg → Prop} [IsCl Tryz.prog M]

theorem l1Copy_f (h : PHeap) (ca : List Value) (g : Grid) (b : (gridR τ).B h ca g) (hs : g.cells.length ≤ 1048576) : CallF Tryz.prog M 16 [.agg ca.toArray] [] h fun v A => ∃ cs, v = .agg cs.toArray ∧ (gridR τ).O A cs g := by
  obtain ⟨c, rfl, s⟩ := gridB b
  have o1 := s.one
  refine calls_of_sf Tryz.func16 rfl Tryz.ntmps16 ?_
  simp only [argsL, Nat.reduceAdd]
  repeat (first | refine R1 ?_ | (refine R2 ?_; intro _))
  refine sf_draw (by kernel_rfl) (regX_run [[], [0], [], [], [3], [2, 3, 4], [0, 1, 2, 3, 4, 5], [0, 1, 2, 3, 4, 5, 6]] 6 [(0, false), (1, false), (3, false), (4, false), (2, true), (5, true)] (by kernel_rfl) (by kernel_rfl) (by kernel_rfl) ?_)
  repeat (refine Da1 ?_)
  refine a_bs (by rfl) (by rfl) (by infer_instance) (by infer_instance) (by infer_instance) (by infer_instance) (by rfl) (by rfl) (by rfl) (by decide) (.inl rfl) fun w A gw => ?_
  refine a_appendS (by rfl) (by rfl) (by rfl) gw s (by infer_instance) (by infer_instance) (fun y _ => FlatOne.one y) (by rfl) (by rfl) (by simp; omega) (by simp; omega) (.inl rfl) fun w2 A2 g2 => ?_
  have o2 := g2.one
  (refine a_end (by rfl) (by rfl) ?_; simp only [finA, setL, List.drop_succ_cons, List.drop_zero])
  repeat (first | refine R1 ?_ | (refine R2 ?_; intro _))
  exact sf_ret (rO A2 ⟨_, rfl, gridO_mk g2 (by omega)⟩)

theorem sKeepNew_f (h : PHeap) (ca : List Value) (g : Grid) (many : Int) (b : (gridR τ).B h ca g) (hs : g.cells.length ≤ 1048576) : CallF Tryz.prog M 5 [.agg ca.toArray, .int .i64 many] [] h fun v A => ∃ cs, v = .tuple #[.agg cs.toArray, .bool (keepNew g many).2] ∧ (keeperR τ).O A cs (keepNew g many).1 := by
  obtain ⟨c, rfl, s⟩ := gridB b
  have o1 := s.one
  refine calls_of_sf Tryz.func5 rfl Tryz.ntmps5 ?_
  simp only [argsL, Nat.reduceAdd]
  repeat (first | refine R1 ?_ | (refine R2 ?_; intro _))
  refine fp (y_callV (sGridOk_v _ _ g ⟨c, rfl, s⟩) (by rfl) ?_)
  repeat (first | refine R1 ?_ | (refine R2 ?_; intro _))
  refine f_splitB (fun h1 => ?_) fun h1 => ?_
  · repeat (first | refine R1 ?_ | (refine R2 ?_; intro _))
    refine sf_T rfl ?_
    repeat (first | refine R1 ?_ | (refine R2 ?_; intro _))
    have e : keepNew g many = (noKeeper, false) := by unfold keepNew; simp at h1; simp [h1]
    rw [e]
    exact sf_ret (rO [] ⟨_, rfl, noKeeperO⟩)
  · repeat (first | refine R1 ?_ | (refine R2 ?_; intro _))
    refine fp (y_callV (l6In_v _ _ _ _) (by rfl) ?_)
    repeat (first | refine R1 ?_ | (refine R2 ?_; intro _))
    refine sf_cond (by rfl) (fun h2 => ?_) fun h2 => ?_
    · repeat (first | refine R1 ?_ | (refine R2 ?_; intro _))
      have e : keepNew g many = (noKeeper, false) := by unfold keepNew; simp only [Bool.not_eq_true'] at h2; simp [h2]
      rw [e]
      exact sf_ret (rO [] ⟨_, rfl, noKeeperO⟩)
    · have hm : 1 ≤ many ∧ many ≤ 3 := by simpa using h2
      have e : keepNew g many = (⟨g, [], List.replicate many.toNat noPart, []⟩, true) := by
        unfold keepNew; simp at h1; simp [h1, hm]
      rw [e]
      repeat (first | refine R1 ?_ | (refine R2 ?_; intro _))
      refine fp (y_call (l1Copy_f _ _ _ b hs) (by rfl) ?_)
      rintro _ A1 ⟨_, rfl, q⟩
      obtain ⟨c2, rfl, g1, l1⟩ := gridO q
      have o2 := g1.one
      repeat (first | refine R1 ?_ | (refine R2 ?_; intro _))
      refine fp (y_bs (by rfl) (by rfl) (by rfl) (by rfl) (by decide) fun e1 A2 g2 => ?_)
      have o3 := g2.one
      repeat (first | refine R1 ?_ | (refine R2 ?_; intro _))
      refine fp (y_bs (by rfl) (by rfl) (by rfl) (by rfl) (by decide) fun s1 A4 g4 => ?_)
      have o4 := g4.one
      repeat (first | refine R1 ?_ | (refine R2 ?_; intro _))
      rename_i b2 b4 b6
      obtain ⟨n, rfl⟩ : ∃ n : Nat, many = n := ⟨many.toNat, by omega⟩
      refine sf_lp [1, 4, 6] (fun i : Nat => [(7, .int .i64 (i : Int))]) (fun i O => i ≤ n ∧ ∃ p A0 A3, O = (b6, .cells #[.int .i64 g.wide, c2, e1, p, s1] 32) :: (A0 ++ A3 ++ (A4 ++ (A2 ++ (A1 ++ [(b4, .cells #[.int .i64 0, .slice none 0 0, .slice none 0 0, .slice none 0 0, .slice none 0 0] 32)])))) ∧ ∃ rs : List (Raw (partR τ).sz), rs.length = i ∧ Gr A0 p 50 (rawF (partR τ).sz) rs ∧ OAll (partR τ) A3 rs (List.replicate i noPart)) (fun i => n - i) 0 ((b6, .cells #[.int .i64 g.wide, c2, e1, .slice none 0 0, s1] 32) :: ([] ++ [] ++ (A4 ++ (A2 ++ (A1 ++ [(b4, .cells #[.int .i64 0, .slice none 0 0, .slice none 0 0, .slice none 0 0, .slice none 0 0] 32)]))))) ⟨by omega, _, [], [], rfl, [], rfl, Gr.nil _ _, .nil⟩ ?_
      rintro i O ⟨hi, p, A0, A3, rfl, rs, hr, g3, oa⟩
      have o5 := g3.one
      repeat (first | refine R1 ?_ | (refine R2 ?_; intro _))
      refine sf_if (fun h4 => ?_) fun h4 => ?_
      · repeat (first | refine R1 ?_ | (refine R2 ?_; intro _))
        refine fp (y_bs (by rfl) (by rfl) (by rfl) (by rfl) (by decide) fun l1 Al gl => ?_)
        have ol := gl.one
        repeat (first | refine R1 ?_ | (refine R2 ?_; intro _))
        refine fp (y_bs (by rfl) (by rfl) (by rfl) (by rfl) (by decide) fun u Au gu => ?_)
        repeat (first | refine R1 ?_ | (refine R2 ?_; intro _))
        refine fp (y_append (by rfl) (by rfl) g3 gu (by intro y hy; simp at hy; subst hy; exact (inferInstance : AllOne [Value.bool false, .int .i64 0, l1]).is) (by rfl) (by rfl) (by simp; omega) (by simp; omega) fun p2 A5 g5 => ?_)
        have o6 := g5.one
        repeat (first | refine R1 ?_ | (refine R2 ?_; intro _))
        refine ⟨i + 1, by omega, ⟨rfl, trivial⟩, rfl, (b6, .cells #[.int .i64 g.wide, c2, e1, p2, s1] 32) :: (A5 ++ (A3 ++ Al) ++ (A4 ++ (A2 ++ (A1 ++ [(b4, .cells #[.int .i64 0, .slice none 0 0, .slice none 0 0, .slice none 0 0, .slice none 0 0] 32)])))), _, inferInstance, by omega, p2, A5, A3 ++ Al, rfl, _, by simp [hr], g5, ?_⟩
        rw [List.replicate_succ']
        exact oa.snoc (partO_mk (p := noPart) gl (by decide))
      · refine sf_exit ?_
        repeat (first | refine R1 ?_ | (refine R2 ?_; intro _))
        have : i = n := by omega
        subst this
        refine sf_ret (rO (A1 ++ (A2 ++ ((A0 ++ A3) ++ A4))) ⟨_, rfl, ?_⟩)
        simp only [Int.toNat_natCast]
        exact keeperO_mk (k := ⟨g, [], List.replicate i noPart, []⟩) g1 l1 g2 (Nat.zero_le _) ⟨A0, A3, rfl, rs, g3, oa, by simp; omega⟩ (GrR.of_gr g4)
end Go.Proofs.YtcefbjpebgofjaaGreatDoor

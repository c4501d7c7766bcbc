/- Walks of the exact laws' own helpers: marks that are found again, worlds. Printed by program. -/
import Derived.Test.YtcefbjpebgofjaaXhA
import Derived.Test.YtcefbjpebgofjaaSmH
namespace Go.Proofs.Ytcefbjpebgofjaa
open Go Go.Sl
set_option maxRecDepth 100000
set_option maxHeartbeats 4000000
attribute [local irreducible] Go.Code.sf sfOps Opq opo retF Do1 anyO
variable {M : Jdg → Prop} [IsCl Try.prog M]
theorem heldIntSS_v (h : PHeap) (a : Value) (xs : List (List Int)) (s : SlR (intSR τ) h a xs) (k : Int) (h0 : 0 ≤ k) (h1 : k + cIntSS xs ≤ 4611686018427387904) : CallV Try.prog M 58 [a, .int .i64 k] h (.int .i64 (heldIntSS xs k)) := by
  have o1 := s.one
  obtain ⟨rx, s, b⟩ := s
  have lx := b.len
  have hs := s.small
  refine calls_of_sf Try.func58 rfl Try.ntmps58 ?_
  simp only [argsL, Nat.reduceAdd]
  repeat (first | refine R1 ?_ | (refine R2 ?_; intro _))
  refine sf_lp (ι := Nat × Int) [0] (fun x => [(5, .int .i64 (x.1 : Int)), (1, .int .i64 x.2)]) (fun x O => O = [] ∧ x.1 ≤ xs.length ∧ 0 ≤ x.2 ∧ x.2 + sizeL cIntS (xs.drop x.1) ≤ 4611686018427387904 ∧ heldIntSS xs k = hL (fun x => hN (heldIntS x)) (xs.drop x.1) x.2) (fun x => xs.length - x.1) (0, k) [] ⟨rfl, by simp, h0, h1, rfl⟩ ?_
  rintro ⟨i, kk⟩ O ⟨rfl, hi, hk0, hk1, hinv⟩
  simp only at hi hk0 hk1 hinv ⊢
  repeat (first | refine R1 ?_ | (refine R2 ?_; intro _))
  refine sf_if (fun h4 => ?_) fun h4 => ?_
  · have hi4 : i < xs.length := by omega
    have hi5 : i < rx.length := by omega
    rw [hL_drop hi4] at hinv
    rw [sizeL_drop hi4] at hk1
    have b4 := b.at hi4
    obtain ⟨v_1, ex, s_1⟩ := b4
    haveI : FlatV (rawF (intSR τ).sz) (gt rx i) [v_1] := ⟨ex⟩
    have cb : sizeL cIntS (xs.drop (i + 1)) ≥ 0 := Nat.zero_le _
    repeat (first | refine R1 ?_ | (refine R2 ?_; intro _))
    refine fp (y_callV (heldIntS_v _ _ _ s_1 (kk) (by omega) (by omega)) (by rfl) ?_)
    repeat (first | refine R1 ?_ | (refine R2 ?_; intro _))
    refine sf_if (fun q1 => ?_) fun q1 => ?_
    · repeat (first | refine R1 ?_ | (refine R2 ?_; intro _))
      refine sf_ret (rV ?_)
      have key : hN (heldIntS (gt xs i)) kk = -1 := by simp only [hB, hI, hN, hS, q1, if_true, if_false]
      rw [hinv, key]; rfl
    have b1 : kk ≤ heldIntS (gt xs i) (kk) ∧ heldIntS (gt xs i) (kk) ≤ kk + cIntS (gt xs i) := by rcases bdIntS (gt xs i) (kk) (by omega) with z | z <;> omega
    repeat (first | refine R1 ?_ | (refine R2 ?_; intro _))
    have key : hN (heldIntS (gt xs i)) kk = heldIntS (gt xs i) (kk) := by simp only [hB, hI, hN, hS, q1, if_true, if_false]
    rw [key, if_neg (by omega)] at hinv
    exact ⟨(i + 1, heldIntS (gt xs i) (kk)), by simp only; omega, ⟨rfl, rfl, trivial⟩, rfl, [], _, inferInstance, rfl, by simp only; omega, by simp only; omega, by simp only; omega, hinv⟩
  · refine sf_exit ?_
    repeat (first | refine R1 ?_ | (refine R2 ?_; intro _))
    refine sf_ret (rV ?_)
    have : i = xs.length := by omega
    rw [hinv, this, List.drop_length]
    rfl
theorem heldPainterS_v (h : PHeap) (a : Value) (xs : List Painter) (s : SlR (painterR τ) h a xs) (k : Int) (h0 : 0 ≤ k) (h1 : k + cPainterS xs ≤ 4611686018427387904) : CallV Try.prog M 42 [a, .int .i64 k] h (.int .i64 (heldPainterS xs k)) := by
  have o1 := s.one
  obtain ⟨rx, s, b⟩ := s
  have lx := b.len
  have hs := s.small
  refine calls_of_sf Try.func42 rfl Try.ntmps42 ?_
  simp only [argsL, Nat.reduceAdd]
  repeat (first | refine R1 ?_ | (refine R2 ?_; intro _))
  refine sf_lp (ι := Nat × Int) [0] (fun x => [(5, .int .i64 (x.1 : Int)), (1, .int .i64 x.2)]) (fun x O => O = [] ∧ x.1 ≤ xs.length ∧ 0 ≤ x.2 ∧ x.2 + sizeL cPainterE (xs.drop x.1) ≤ 4611686018427387904 ∧ heldPainterS xs k = hL (heldPainterE) (xs.drop x.1) x.2) (fun x => xs.length - x.1) (0, k) [] ⟨rfl, by simp, h0, h1, rfl⟩ ?_
  rintro ⟨i, kk⟩ O ⟨rfl, hi, hk0, hk1, hinv⟩
  simp only at hi hk0 hk1 hinv ⊢
  repeat (first | refine R1 ?_ | (refine R2 ?_; intro _))
  refine sf_if (fun h4 => ?_) fun h4 => ?_
  · have hi4 : i < xs.length := by omega
    have hi5 : i < rx.length := by omega
    rw [hL_drop hi4] at hinv
    rw [sizeL_drop hi4] at hk1
    have b4 := b.at hi4
    obtain ⟨v_scene_grid_cells1, v_scene_lights1, v_scene_feet1, ex, s_scene_grid_cells1, s_scene_lights1, s_scene_feet1⟩ := painterB b4
    have o_v_scene_grid_cells1 := s_scene_grid_cells1.one
    have o_v_scene_lights1 := s_scene_lights1.one
    have o_v_scene_feet1 := s_scene_feet1.one
    haveI : FlatV (rawF (painterR τ).sz) (gt rx i) [.bool (gt xs i).up, .bool (gt xs i).has, .int .i64 (gt xs i).ver, .int .i64 (gt xs i).scene.grid.wide, v_scene_grid_cells1, v_scene_lights1, v_scene_feet1] := ⟨ex⟩
    have cb : sizeL cPainterE (xs.drop (i + 1)) ≥ 0 := Nat.zero_le _
    have hc : cPainterE (gt xs i) = cCellS (gt xs i).scene.grid.cells + (cIntS (gt xs i).scene.lights + cIntSS (gt xs i).scene.feet) + 1 + 1 + 1 + 1 := rfl
    repeat (first | refine R1 ?_ | (refine R2 ?_; intro _))
    refine sf_ifn (fun q1 => ?_) fun q1 => ?_
    · repeat (first | refine R1 ?_ | (refine R2 ?_; intro _))
      refine sf_ret (rV ?_)
      have key : (heldPainterE) (gt xs i) kk = -1 := by simp only [heldPainterE, hB, hI, hN, hS, q1, if_true, if_false]
      rw [hinv, key]; rfl
    repeat (first | refine R1 ?_ | (refine R2 ?_; intro _))
    refine sf_ifn (fun q2 => ?_) fun q2 => ?_
    · repeat (first | refine R1 ?_ | (refine R2 ?_; intro _))
      refine sf_ret (rV ?_)
      have key : (heldPainterE) (gt xs i) kk = -1 := by simp only [heldPainterE, hB, hI, hN, hS, q1, q2, if_true, if_false]
      rw [hinv, key]; rfl
    repeat (first | refine R1 ?_ | (refine R2 ?_; intro _))
    refine sf_if (fun q3 => ?_) fun q3 => ?_
    · repeat (first | refine R1 ?_ | (refine R2 ?_; intro _))
      refine sf_ret (rV ?_)
      simp only [ne_eq] at q3
      have key : (heldPainterE) (gt xs i) kk = -1 := by simp only [heldPainterE, hB, hI, hN, hS, q1, q2, q3, if_true, if_false]
      rw [hinv, key]; rfl
    simp only [ne_eq, Decidable.not_not] at q3
    repeat (first | refine R1 ?_ | (refine R2 ?_; intro _))
    refine sf_if (fun q4 => ?_) fun q4 => ?_
    · repeat (first | refine R1 ?_ | (refine R2 ?_; intro _))
      refine sf_ret (rV ?_)
      simp only [ne_eq] at q4
      have key : (heldPainterE) (gt xs i) kk = -1 := by simp only [heldPainterE, hB, hI, hN, hS, q1, q2, q3, q4, if_true, if_false]
      rw [hinv, key]; rfl
    simp only [ne_eq, Decidable.not_not] at q4
    repeat (first | refine R1 ?_ | (refine R2 ?_; intro _))
    refine fp (y_callV (heldCellS_v _ _ _ s_scene_grid_cells1 (kk + 1 + 1 + 1 + 1) (by omega) (by omega)) (by rfl) ?_)
    repeat (first | refine R1 ?_ | (refine R2 ?_; intro _))
    refine sf_if (fun q5 => ?_) fun q5 => ?_
    · repeat (first | refine R1 ?_ | (refine R2 ?_; intro _))
      refine sf_ret (rV ?_)
      have key : (heldPainterE) (gt xs i) kk = -1 := by simp only [heldPainterE, hB, hI, hN, hS, q1, q2, q3, q4, q5, if_true, if_false]
      rw [hinv, key]; rfl
    have b5 : kk + 1 + 1 + 1 + 1 ≤ heldCellS (gt xs i).scene.grid.cells (kk + 1 + 1 + 1 + 1) ∧ heldCellS (gt xs i).scene.grid.cells (kk + 1 + 1 + 1 + 1) ≤ kk + 1 + 1 + 1 + 1 + cCellS (gt xs i).scene.grid.cells := by rcases bdCellS (gt xs i).scene.grid.cells (kk + 1 + 1 + 1 + 1) (by omega) with z | z <;> omega
    repeat (first | refine R1 ?_ | (refine R2 ?_; intro _))
    refine fp (y_callV (heldIntS_v _ _ _ s_scene_lights1 (heldCellS (gt xs i).scene.grid.cells (kk + 1 + 1 + 1 + 1)) (by omega) (by omega)) (by rfl) ?_)
    repeat (first | refine R1 ?_ | (refine R2 ?_; intro _))
    refine sf_if (fun q6 => ?_) fun q6 => ?_
    · repeat (first | refine R1 ?_ | (refine R2 ?_; intro _))
      refine sf_ret (rV ?_)
      have key : (heldPainterE) (gt xs i) kk = -1 := by simp only [heldPainterE, hB, hI, hN, hS, q1, q2, q3, q4, q5, q6, if_true, if_false]
      rw [hinv, key]; rfl
    have b6 : heldCellS (gt xs i).scene.grid.cells (kk + 1 + 1 + 1 + 1) ≤ heldIntS (gt xs i).scene.lights (heldCellS (gt xs i).scene.grid.cells (kk + 1 + 1 + 1 + 1)) ∧ heldIntS (gt xs i).scene.lights (heldCellS (gt xs i).scene.grid.cells (kk + 1 + 1 + 1 + 1)) ≤ heldCellS (gt xs i).scene.grid.cells (kk + 1 + 1 + 1 + 1) + cIntS (gt xs i).scene.lights := by rcases bdIntS (gt xs i).scene.lights (heldCellS (gt xs i).scene.grid.cells (kk + 1 + 1 + 1 + 1)) (by omega) with z | z <;> omega
    repeat (first | refine R1 ?_ | (refine R2 ?_; intro _))
    refine fp (y_callV (heldIntSS_v _ _ _ s_scene_feet1 (heldIntS (gt xs i).scene.lights (heldCellS (gt xs i).scene.grid.cells (kk + 1 + 1 + 1 + 1))) (by omega) (by omega)) (by rfl) ?_)
    repeat (first | refine R1 ?_ | (refine R2 ?_; intro _))
    refine sf_if (fun q7 => ?_) fun q7 => ?_
    · repeat (first | refine R1 ?_ | (refine R2 ?_; intro _))
      refine sf_ret (rV ?_)
      have key : (heldPainterE) (gt xs i) kk = -1 := by simp only [heldPainterE, hB, hI, hN, hS, q1, q2, q3, q4, q5, q6, q7, if_true, if_false]
      rw [hinv, key]; rfl
    have b7 : heldIntS (gt xs i).scene.lights (heldCellS (gt xs i).scene.grid.cells (kk + 1 + 1 + 1 + 1)) ≤ heldIntSS (gt xs i).scene.feet (heldIntS (gt xs i).scene.lights (heldCellS (gt xs i).scene.grid.cells (kk + 1 + 1 + 1 + 1))) ∧ heldIntSS (gt xs i).scene.feet (heldIntS (gt xs i).scene.lights (heldCellS (gt xs i).scene.grid.cells (kk + 1 + 1 + 1 + 1))) ≤ heldIntS (gt xs i).scene.lights (heldCellS (gt xs i).scene.grid.cells (kk + 1 + 1 + 1 + 1)) + cIntSS (gt xs i).scene.feet := by rcases bdIntSS (gt xs i).scene.feet (heldIntS (gt xs i).scene.lights (heldCellS (gt xs i).scene.grid.cells (kk + 1 + 1 + 1 + 1))) (by omega) with z | z <;> omega
    repeat (first | refine R1 ?_ | (refine R2 ?_; intro _))
    have key : (heldPainterE) (gt xs i) kk = heldIntSS (gt xs i).scene.feet (heldIntS (gt xs i).scene.lights (heldCellS (gt xs i).scene.grid.cells (kk + 1 + 1 + 1 + 1))) := by simp only [heldPainterE, hB, hI, hN, hS, q1, q2, q3, q4, q5, q6, q7, if_true, if_false]
    rw [key, if_neg (by omega)] at hinv
    exact ⟨(i + 1, heldIntSS (gt xs i).scene.feet (heldIntS (gt xs i).scene.lights (heldCellS (gt xs i).scene.grid.cells (kk + 1 + 1 + 1 + 1)))), by simp only; omega, ⟨rfl, rfl, trivial⟩, rfl, [], _, inferInstance, rfl, by simp only; omega, by simp only; omega, by simp only; omega, hinv⟩
  · refine sf_exit ?_
    repeat (first | refine R1 ?_ | (refine R2 ?_; intro _))
    refine sf_ret (rV ?_)
    have : i = xs.length := by omega
    rw [hinv, this, List.drop_length]
    rfl
theorem heldWordS_v (h : PHeap) (a : Value) (xs : List Word) (s : SlR (wordR τ) h a xs) (k : Int) (h0 : 0 ≤ k) (h1 : k + cWordS xs ≤ 4611686018427387904) : CallV Try.prog M 43 [a, .int .i64 k] h (.int .i64 (heldWordS xs k)) := by
  have o1 := s.one
  obtain ⟨rx, s, b⟩ := s
  have lx := b.len
  have hs := s.small
  refine calls_of_sf Try.func43 rfl Try.ntmps43 ?_
  simp only [argsL, Nat.reduceAdd]
  repeat (first | refine R1 ?_ | (refine R2 ?_; intro _))
  refine sf_lp (ι := Nat × Int) [0] (fun x => [(5, .int .i64 (x.1 : Int)), (1, .int .i64 x.2)]) (fun x O => O = [] ∧ x.1 ≤ xs.length ∧ 0 ≤ x.2 ∧ x.2 + sizeL cWordE (xs.drop x.1) ≤ 4611686018427387904 ∧ heldWordS xs k = hL (heldWordE) (xs.drop x.1) x.2) (fun x => xs.length - x.1) (0, k) [] ⟨rfl, by simp, h0, h1, rfl⟩ ?_
  rintro ⟨i, kk⟩ O ⟨rfl, hi, hk0, hk1, hinv⟩
  simp only at hi hk0 hk1 hinv ⊢
  repeat (first | refine R1 ?_ | (refine R2 ?_; intro _))
  refine sf_if (fun h4 => ?_) fun h4 => ?_
  · have hi4 : i < xs.length := by omega
    have hi5 : i < rx.length := by omega
    rw [hL_drop hi4] at hinv
    rw [sizeL_drop hi4] at hk1
    have b4 := b.at hi4
    obtain ⟨v_grid_cells1, v_lights1, ex, s_grid_cells1, s_lights1⟩ := wordB b4
    have o_v_grid_cells1 := s_grid_cells1.one
    have o_v_lights1 := s_lights1.one
    haveI : FlatV (rawF (wordR τ).sz) (gt rx i) [.int .i64 (gt xs i).kind, .int .i64 (gt xs i).to, .int .i64 (gt xs i).frm, .int .i64 (gt xs i).ver, .int .i64 (gt xs i).grid.wide, v_grid_cells1, .int .i64 (gt xs i).edit.at', .int .i64 (gt xs i).edit.cell.kind, .int .i64 (gt xs i).edit.cell.light, v_lights1] := ⟨ex⟩
    have cb : sizeL cWordE (xs.drop (i + 1)) ≥ 0 := Nat.zero_le _
    have hc : cWordE (gt xs i) = cCellS (gt xs i).grid.cells + (cIntS (gt xs i).lights + 1 + 1 + 1) + 1 + 1 + 1 + 1 + 1 := rfl
    repeat (first | refine R1 ?_ | (refine R2 ?_; intro _))
    refine sf_if (fun q1 => ?_) fun q1 => ?_
    · repeat (first | refine R1 ?_ | (refine R2 ?_; intro _))
      refine sf_ret (rV ?_)
      simp only [ne_eq] at q1
      have key : (heldWordE) (gt xs i) kk = -1 := by simp only [heldWordE, hB, hI, hN, hS, q1, if_true, if_false]
      rw [hinv, key]; rfl
    simp only [ne_eq, Decidable.not_not] at q1
    repeat (first | refine R1 ?_ | (refine R2 ?_; intro _))
    refine sf_if (fun q2 => ?_) fun q2 => ?_
    · repeat (first | refine R1 ?_ | (refine R2 ?_; intro _))
      refine sf_ret (rV ?_)
      simp only [ne_eq] at q2
      have key : (heldWordE) (gt xs i) kk = -1 := by simp only [heldWordE, hB, hI, hN, hS, q1, q2, if_true, if_false]
      rw [hinv, key]; rfl
    simp only [ne_eq, Decidable.not_not] at q2
    repeat (first | refine R1 ?_ | (refine R2 ?_; intro _))
    refine sf_if (fun q3 => ?_) fun q3 => ?_
    · repeat (first | refine R1 ?_ | (refine R2 ?_; intro _))
      refine sf_ret (rV ?_)
      simp only [ne_eq] at q3
      have key : (heldWordE) (gt xs i) kk = -1 := by simp only [heldWordE, hB, hI, hN, hS, q1, q2, q3, if_true, if_false]
      rw [hinv, key]; rfl
    simp only [ne_eq, Decidable.not_not] at q3
    repeat (first | refine R1 ?_ | (refine R2 ?_; intro _))
    refine sf_if (fun q4 => ?_) fun q4 => ?_
    · repeat (first | refine R1 ?_ | (refine R2 ?_; intro _))
      refine sf_ret (rV ?_)
      simp only [ne_eq] at q4
      have key : (heldWordE) (gt xs i) kk = -1 := by simp only [heldWordE, hB, hI, hN, hS, q1, q2, q3, q4, if_true, if_false]
      rw [hinv, key]; rfl
    simp only [ne_eq, Decidable.not_not] at q4
    repeat (first | refine R1 ?_ | (refine R2 ?_; intro _))
    refine sf_if (fun q5 => ?_) fun q5 => ?_
    · repeat (first | refine R1 ?_ | (refine R2 ?_; intro _))
      refine sf_ret (rV ?_)
      simp only [ne_eq] at q5
      have key : (heldWordE) (gt xs i) kk = -1 := by simp only [heldWordE, hB, hI, hN, hS, q1, q2, q3, q4, q5, if_true, if_false]
      rw [hinv, key]; rfl
    simp only [ne_eq, Decidable.not_not] at q5
    repeat (first | refine R1 ?_ | (refine R2 ?_; intro _))
    refine fp (y_callV (heldCellS_v _ _ _ s_grid_cells1 (kk + 1 + 1 + 1 + 1 + 1) (by omega) (by omega)) (by rfl) ?_)
    repeat (first | refine R1 ?_ | (refine R2 ?_; intro _))
    refine sf_if (fun q6 => ?_) fun q6 => ?_
    · repeat (first | refine R1 ?_ | (refine R2 ?_; intro _))
      refine sf_ret (rV ?_)
      have key : (heldWordE) (gt xs i) kk = -1 := by simp only [heldWordE, hB, hI, hN, hS, q1, q2, q3, q4, q5, q6, if_true, if_false]
      rw [hinv, key]; rfl
    have b6 : kk + 1 + 1 + 1 + 1 + 1 ≤ heldCellS (gt xs i).grid.cells (kk + 1 + 1 + 1 + 1 + 1) ∧ heldCellS (gt xs i).grid.cells (kk + 1 + 1 + 1 + 1 + 1) ≤ kk + 1 + 1 + 1 + 1 + 1 + cCellS (gt xs i).grid.cells := by rcases bdCellS (gt xs i).grid.cells (kk + 1 + 1 + 1 + 1 + 1) (by omega) with z | z <;> omega
    repeat (first | refine R1 ?_ | (refine R2 ?_; intro _))
    refine sf_if (fun q7 => ?_) fun q7 => ?_
    · repeat (first | refine R1 ?_ | (refine R2 ?_; intro _))
      refine sf_ret (rV ?_)
      simp only [ne_eq] at q7
      have key : (heldWordE) (gt xs i) kk = -1 := by simp only [heldWordE, hB, hI, hN, hS, q1, q2, q3, q4, q5, q6, q7, if_true, if_false]
      rw [hinv, key]; rfl
    simp only [ne_eq, Decidable.not_not] at q7
    repeat (first | refine R1 ?_ | (refine R2 ?_; intro _))
    refine sf_if (fun q8 => ?_) fun q8 => ?_
    · repeat (first | refine R1 ?_ | (refine R2 ?_; intro _))
      refine sf_ret (rV ?_)
      simp only [ne_eq] at q8
      have key : (heldWordE) (gt xs i) kk = -1 := by simp only [heldWordE, hB, hI, hN, hS, q1, q2, q3, q4, q5, q6, q7, q8, if_true, if_false]
      rw [hinv, key]; rfl
    simp only [ne_eq, Decidable.not_not] at q8
    repeat (first | refine R1 ?_ | (refine R2 ?_; intro _))
    refine sf_if (fun q9 => ?_) fun q9 => ?_
    · repeat (first | refine R1 ?_ | (refine R2 ?_; intro _))
      refine sf_ret (rV ?_)
      simp only [ne_eq] at q9
      have key : (heldWordE) (gt xs i) kk = -1 := by simp only [heldWordE, hB, hI, hN, hS, q1, q2, q3, q4, q5, q6, q7, q8, q9, if_true, if_false]
      rw [hinv, key]; rfl
    simp only [ne_eq, Decidable.not_not] at q9
    repeat (first | refine R1 ?_ | (refine R2 ?_; intro _))
    refine fp (y_callV (heldIntS_v _ _ _ s_lights1 (heldCellS (gt xs i).grid.cells (kk + 1 + 1 + 1 + 1 + 1) + 1 + 1 + 1) (by omega) (by omega)) (by rfl) ?_)
    repeat (first | refine R1 ?_ | (refine R2 ?_; intro _))
    refine sf_if (fun q10 => ?_) fun q10 => ?_
    · repeat (first | refine R1 ?_ | (refine R2 ?_; intro _))
      refine sf_ret (rV ?_)
      have key : (heldWordE) (gt xs i) kk = -1 := by simp only [heldWordE, hB, hI, hN, hS, q1, q2, q3, q4, q5, q6, q7, q8, q9, q10, if_true, if_false]
      rw [hinv, key]; rfl
    have b10 : heldCellS (gt xs i).grid.cells (kk + 1 + 1 + 1 + 1 + 1) + 1 + 1 + 1 ≤ heldIntS (gt xs i).lights (heldCellS (gt xs i).grid.cells (kk + 1 + 1 + 1 + 1 + 1) + 1 + 1 + 1) ∧ heldIntS (gt xs i).lights (heldCellS (gt xs i).grid.cells (kk + 1 + 1 + 1 + 1 + 1) + 1 + 1 + 1) ≤ heldCellS (gt xs i).grid.cells (kk + 1 + 1 + 1 + 1 + 1) + 1 + 1 + 1 + cIntS (gt xs i).lights := by rcases bdIntS (gt xs i).lights (heldCellS (gt xs i).grid.cells (kk + 1 + 1 + 1 + 1 + 1) + 1 + 1 + 1) (by omega) with z | z <;> omega
    repeat (first | refine R1 ?_ | (refine R2 ?_; intro _))
    have key : (heldWordE) (gt xs i) kk = heldIntS (gt xs i).lights (heldCellS (gt xs i).grid.cells (kk + 1 + 1 + 1 + 1 + 1) + 1 + 1 + 1) := by simp only [heldWordE, hB, hI, hN, hS, q1, q2, q3, q4, q5, q6, q7, q8, q9, q10, if_true, if_false]
    rw [key, if_neg (by omega)] at hinv
    exact ⟨(i + 1, heldIntS (gt xs i).lights (heldCellS (gt xs i).grid.cells (kk + 1 + 1 + 1 + 1 + 1) + 1 + 1 + 1)), by simp only; omega, ⟨rfl, rfl, trivial⟩, rfl, [], _, inferInstance, rfl, by simp only; omega, by simp only; omega, by simp only; omega, hinv⟩
  · refine sf_exit ?_
    repeat (first | refine R1 ?_ | (refine R2 ?_; intro _))
    refine sf_ret (rV ?_)
    have : i = xs.length := by omega
    rw [hinv, this, List.drop_length]
    rfl
theorem heldWorld_v (h : PHeap) (ca : List Value) (x : World') (b : (worldR τ).B h ca x) (k : Int) (h0 : 0 ≤ k) (h1 : k + cWorld x ≤ 4611686018427387904) : CallV Try.prog M 18 [.agg ca.toArray, .int .i64 k] h (.int .i64 (heldWorld x k)) := by
  obtain ⟨v_keeper_first_cells1, v_keeper_edits1, v_keeper_parts1, v_keeper_shown1, v_painters1, v_nets1, rfl, s_keeper_first_cells1, s_keeper_edits1, s_keeper_parts1, s_keeper_shown1, s_painters1, s_nets1⟩ := worldB b
  have o_v_keeper_first_cells1 := s_keeper_first_cells1.one
  have o_v_keeper_edits1 := s_keeper_edits1.one
  have o_v_keeper_parts1 := s_keeper_parts1.one
  have o_v_keeper_shown1 := s_keeper_shown1.one
  have o_v_painters1 := s_painters1.one
  have o_v_nets1 := s_nets1.one
  have hc : cWorld x = cKeeper x.keeper + (cPainterS x.painters + cWordS x.nets) := rfl
  refine calls_of_sf Try.func18 rfl Try.ntmps18 ?_
  simp only [argsL, Nat.reduceAdd]
  repeat (first | refine R1 ?_ | (refine R2 ?_; intro _))
  refine fp (y_callV (heldKeeper_v _ _ x.keeper (keeperB_mk s_keeper_first_cells1 s_keeper_edits1 s_keeper_parts1 s_keeper_shown1) (k) (by omega) (by omega)) (by rfl) ?_)
  repeat (first | refine R1 ?_ | (refine R2 ?_; intro _))
  refine sf_if (fun q1 => ?_) fun q1 => ?_
  · repeat (first | refine R1 ?_ | (refine R2 ?_; intro _))
    refine sf_ret (rV ?_)
    simp only [heldWorld, hS, hN, q1, if_true, if_false]
  have b1 : k ≤ heldKeeper x.keeper (k) ∧ heldKeeper x.keeper (k) ≤ k + cKeeper x.keeper := by rcases bdKeeper x.keeper (k) (by omega) with z | z <;> omega
  repeat (first | refine R1 ?_ | (refine R2 ?_; intro _))
  refine fp (y_callV (heldPainterS_v _ _ _ s_painters1 (heldKeeper x.keeper (k)) (by omega) (by omega)) (by rfl) ?_)
  repeat (first | refine R1 ?_ | (refine R2 ?_; intro _))
  refine sf_if (fun q2 => ?_) fun q2 => ?_
  · repeat (first | refine R1 ?_ | (refine R2 ?_; intro _))
    refine sf_ret (rV ?_)
    simp only [heldWorld, hS, hN, q1, q2, if_true, if_false]
  have b2 : heldKeeper x.keeper (k) ≤ heldPainterS x.painters (heldKeeper x.keeper (k)) ∧ heldPainterS x.painters (heldKeeper x.keeper (k)) ≤ heldKeeper x.keeper (k) + cPainterS x.painters := by rcases bdPainterS x.painters (heldKeeper x.keeper (k)) (by omega) with z | z <;> omega
  repeat (first | refine R1 ?_ | (refine R2 ?_; intro _))
  refine fp (y_callV (heldWordS_v _ _ _ s_nets1 (heldPainterS x.painters (heldKeeper x.keeper (k))) (by omega) (by omega)) (by rfl) ?_)
  repeat (first | refine R1 ?_ | (refine R2 ?_; intro _))
  refine sf_if (fun q3 => ?_) fun q3 => ?_
  · repeat (first | refine R1 ?_ | (refine R2 ?_; intro _))
    refine sf_ret (rV ?_)
    simp only [heldWorld, hS, hN, q1, q2, q3, if_true, if_false]
  have b3 : heldPainterS x.painters (heldKeeper x.keeper (k)) ≤ heldWordS x.nets (heldPainterS x.painters (heldKeeper x.keeper (k))) ∧ heldWordS x.nets (heldPainterS x.painters (heldKeeper x.keeper (k))) ≤ heldPainterS x.painters (heldKeeper x.keeper (k)) + cWordS x.nets := by rcases bdWordS x.nets (heldPainterS x.painters (heldKeeper x.keeper (k))) (by omega) with z | z <;> omega
  repeat (first | refine R1 ?_ | (refine R2 ?_; intro _))
  refine sf_ret (rV ?_)
  simp only [heldWorld, hS, hN, q1, q2, q3, if_true, if_false]
end Go.Proofs.Ytcefbjpebgofjaa

/- Walks of the exact laws' own helpers: marks that are found again. Printed by program. -/
import Derived.Test.YtcefbjpebgofjaaXeA
import Derived.Test.YtcefbjpebgofjaaSmH
namespace Go.Proofs.Ytcefbjpebgofjaa
open Go Go.Sl
set_option maxRecDepth 100000
set_option maxHeartbeats 4000000
attribute [local irreducible] Go.Code.sf sfOps Opq opo retF Do1 anyO
variable {M : Jdg → Prop} [IsCl Try.prog M]
theorem heldIntS_v (h : PHeap) (a : Value) (xs : List Int) (s : Sl h a intF xs) (k : Int) (h0 : 0 ≤ k) (h1 : k + cIntS xs ≤ 4611686018427387904) : CallV Try.prog M 54 [a, .int .i64 k] h (.int .i64 (heldIntS xs k)) := by
  have o1 := s.one
  have hs := s.small
  refine calls_of_sf Try.func54 rfl Try.ntmps54 ?_
  simp only [argsL, Nat.reduceAdd]
  repeat (first | refine R1 ?_ | (refine R2 ?_; intro _))
  refine sf_lp (ι := Nat × Int) [0] (fun x => [(5, .int .i64 (x.1 : Int)), (1, .int .i64 x.2)]) (fun x O => O = [] ∧ x.1 ≤ xs.length ∧ 0 ≤ x.2 ∧ x.2 + sizeL (fun _ => 1) (xs.drop x.1) ≤ 4611686018427387904 ∧ heldIntS xs k = hL heldInt (xs.drop x.1) x.2) (fun x => xs.length - x.1) (0, k) [] ⟨rfl, by simp, h0, h1, rfl⟩ ?_
  rintro ⟨i, kk⟩ O ⟨rfl, hi, hk0, hk1, hinv⟩
  simp only at hi hk0 hk1 hinv ⊢
  repeat (first | refine R1 ?_ | (refine R2 ?_; intro _))
  refine sf_if (fun h4 => ?_) fun h4 => ?_
  · have hi4 : i < xs.length := by omega
    rw [hL_drop hi4] at hinv
    rw [sizeL_drop hi4] at hk1
    repeat (first | refine R1 ?_ | (refine R2 ?_; intro _))
    refine sf_if (fun e1 => ?_) fun e1 => ?_
    · repeat (first | refine R1 ?_ | (refine R2 ?_; intro _))
      refine sf_ret (rV ?_)
      rw [hinv]
      simp only [heldInt, hI, id]
      simp_all
    repeat (first | refine R1 ?_ | (refine R2 ?_; intro _))
    have key : heldInt (gt xs i) kk = kk + 1 := by
      simp only [ne_eq, Decidable.not_not] at e1
      simp only [heldInt, hI, id, e1, if_true]
    rw [key, if_neg (by omega)] at hinv
    exact ⟨(i + 1, _), by simp only; omega, ⟨rfl, rfl, trivial⟩, rfl, [], _, inferInstance, rfl, by simp only; omega, by simp only; omega, by simp only; omega, hinv⟩
  · refine sf_exit ?_
    repeat (first | refine R1 ?_ | (refine R2 ?_; intro _))
    refine sf_ret (rV ?_)
    have : i = xs.length := by omega
    rw [hinv, this, List.drop_length]
    rfl
theorem heldCellS_v (h : PHeap) (a : Value) (xs : List Cell) (s : Sl h a cellF xs) (k : Int) (h0 : 0 ≤ k) (h1 : k + cCellS xs ≤ 4611686018427387904) : CallV Try.prog M 53 [a, .int .i64 k] h (.int .i64 (heldCellS xs k)) := by
  have o1 := s.one
  have hs := s.small
  refine calls_of_sf Try.func53 rfl Try.ntmps53 ?_
  simp only [argsL, Nat.reduceAdd]
  repeat (first | refine R1 ?_ | (refine R2 ?_; intro _))
  refine sf_lp (ι := Nat × Int) [0] (fun x => [(5, .int .i64 (x.1 : Int)), (1, .int .i64 x.2)]) (fun x O => O = [] ∧ x.1 ≤ xs.length ∧ 0 ≤ x.2 ∧ x.2 + sizeL (fun _ => 2) (xs.drop x.1) ≤ 4611686018427387904 ∧ heldCellS xs k = hL heldCell (xs.drop x.1) x.2) (fun x => xs.length - x.1) (0, k) [] ⟨rfl, by simp, h0, h1, rfl⟩ ?_
  rintro ⟨i, kk⟩ O ⟨rfl, hi, hk0, hk1, hinv⟩
  simp only at hi hk0 hk1 hinv ⊢
  repeat (first | refine R1 ?_ | (refine R2 ?_; intro _))
  refine sf_if (fun h4 => ?_) fun h4 => ?_
  · have hi4 : i < xs.length := by omega
    rw [hL_drop hi4] at hinv
    rw [sizeL_drop hi4] at hk1
    repeat (first | refine R1 ?_ | (refine R2 ?_; intro _))
    refine sf_if (fun e1 => ?_) fun e1 => ?_
    · repeat (first | refine R1 ?_ | (refine R2 ?_; intro _))
      refine sf_ret (rV ?_)
      rw [hinv]
      simp only [heldCell, hI, id]
      simp_all
    repeat (first | refine R1 ?_ | (refine R2 ?_; intro _))
    refine sf_if (fun e2 => ?_) fun e2 => ?_
    · repeat (first | refine R1 ?_ | (refine R2 ?_; intro _))
      refine sf_ret (rV ?_)
      rw [hinv]
      simp only [heldCell, hI, id]
      simp_all
    repeat (first | refine R1 ?_ | (refine R2 ?_; intro _))
    have key : heldCell (gt xs i) kk = kk + 1 + 1 := by
      simp only [ne_eq, Decidable.not_not] at e1 e2
      simp only [heldCell, hI, id, e1, e2, if_true]
    rw [key, if_neg (by omega)] at hinv
    exact ⟨(i + 1, _), by simp only; omega, ⟨rfl, rfl, trivial⟩, rfl, [], _, inferInstance, rfl, by simp only; omega, by simp only; omega, by simp only; omega, hinv⟩
  · refine sf_exit ?_
    repeat (first | refine R1 ?_ | (refine R2 ?_; intro _))
    refine sf_ret (rV ?_)
    have : i = xs.length := by omega
    rw [hinv, this, List.drop_length]
    rfl
theorem heldEditS_v (h : PHeap) (a : Value) (xs : List Edit) (s : Sl h a editF xs) (k : Int) (h0 : 0 ≤ k) (h1 : k + cEditS xs ≤ 4611686018427387904) : CallV Try.prog M 35 [a, .int .i64 k] h (.int .i64 (heldEditS xs k)) := by
  have o1 := s.one
  have hs := s.small
  refine calls_of_sf Try.func35 rfl Try.ntmps35 ?_
  simp only [argsL, Nat.reduceAdd]
  repeat (first | refine R1 ?_ | (refine R2 ?_; intro _))
  refine sf_lp (ι := Nat × Int) [0] (fun x => [(5, .int .i64 (x.1 : Int)), (1, .int .i64 x.2)]) (fun x O => O = [] ∧ x.1 ≤ xs.length ∧ 0 ≤ x.2 ∧ x.2 + sizeL (fun _ => 3) (xs.drop x.1) ≤ 4611686018427387904 ∧ heldEditS xs k = hL heldEdit (xs.drop x.1) x.2) (fun x => xs.length - x.1) (0, k) [] ⟨rfl, by simp, h0, h1, rfl⟩ ?_
  rintro ⟨i, kk⟩ O ⟨rfl, hi, hk0, hk1, hinv⟩
  simp only at hi hk0 hk1 hinv ⊢
  repeat (first | refine R1 ?_ | (refine R2 ?_; intro _))
  refine sf_if (fun h4 => ?_) fun h4 => ?_
  · have hi4 : i < xs.length := by omega
    rw [hL_drop hi4] at hinv
    rw [sizeL_drop hi4] at hk1
    repeat (first | refine R1 ?_ | (refine R2 ?_; intro _))
    refine sf_if (fun e1 => ?_) fun e1 => ?_
    · repeat (first | refine R1 ?_ | (refine R2 ?_; intro _))
      refine sf_ret (rV ?_)
      rw [hinv]
      simp only [heldEdit, hI, id]
      simp_all
    repeat (first | refine R1 ?_ | (refine R2 ?_; intro _))
    refine sf_if (fun e2 => ?_) fun e2 => ?_
    · repeat (first | refine R1 ?_ | (refine R2 ?_; intro _))
      refine sf_ret (rV ?_)
      rw [hinv]
      simp only [heldEdit, hI, id]
      simp_all
    repeat (first | refine R1 ?_ | (refine R2 ?_; intro _))
    refine sf_if (fun e3 => ?_) fun e3 => ?_
    · repeat (first | refine R1 ?_ | (refine R2 ?_; intro _))
      refine sf_ret (rV ?_)
      rw [hinv]
      simp only [heldEdit, hI, id]
      simp_all
    repeat (first | refine R1 ?_ | (refine R2 ?_; intro _))
    have key : heldEdit (gt xs i) kk = kk + 1 + 1 + 1 := by
      simp only [ne_eq, Decidable.not_not] at e1 e2 e3
      simp only [heldEdit, hI, id, e1, e2, e3, if_true]
    rw [key, if_neg (by omega)] at hinv
    exact ⟨(i + 1, _), by simp only; omega, ⟨rfl, rfl, trivial⟩, rfl, [], _, inferInstance, rfl, by simp only; omega, by simp only; omega, by simp only; omega, hinv⟩
  · refine sf_exit ?_
    repeat (first | refine R1 ?_ | (refine R2 ?_; intro _))
    refine sf_ret (rV ?_)
    have : i = xs.length := by omega
    rw [hinv, this, List.drop_length]
    rfl
theorem heldPartS_v (h : PHeap) (a : Value) (xs : List Part) (s : SlR (partR τ) h a xs) (k : Int) (h0 : 0 ≤ k) (h1 : k + cPartS xs ≤ 4611686018427387904) : CallV Try.prog M 36 [a, .int .i64 k] h (.int .i64 (heldPartS xs k)) := by
  have o1 := s.one
  obtain ⟨rx, s, b⟩ := s
  have lx := b.len
  have hs := s.small
  refine calls_of_sf Try.func36 rfl Try.ntmps36 ?_
  simp only [argsL, Nat.reduceAdd]
  repeat (first | refine R1 ?_ | (refine R2 ?_; intro _))
  refine sf_lp (ι := Nat × Int) [0] (fun x => [(5, .int .i64 (x.1 : Int)), (1, .int .i64 x.2)]) (fun x O => O = [] ∧ x.1 ≤ xs.length ∧ 0 ≤ x.2 ∧ x.2 + sizeL cPart (xs.drop x.1) ≤ 4611686018427387904 ∧ heldPartS xs k = hL (heldPart) (xs.drop x.1) x.2) (fun x => xs.length - x.1) (0, k) [] ⟨rfl, by simp, h0, h1, rfl⟩ ?_
  rintro ⟨i, kk⟩ O ⟨rfl, hi, hk0, hk1, hinv⟩
  simp only at hi hk0 hk1 hinv ⊢
  repeat (first | refine R1 ?_ | (refine R2 ?_; intro _))
  refine sf_if (fun h4 => ?_) fun h4 => ?_
  · have hi4 : i < xs.length := by omega
    have hi5 : i < rx.length := by omega
    rw [hL_drop hi4] at hinv
    rw [sizeL_drop hi4] at hk1
    have b4 := b.at hi4
    obtain ⟨v_lights1, ex, s_lights1⟩ := partB b4
    have o_v_lights1 := s_lights1.one
    haveI : FlatV (rawF (partR τ).sz) (gt rx i) [.bool (gt xs i).has, .int .i64 (gt xs i).ver, v_lights1] := ⟨ex⟩
    have cb : sizeL cPart (xs.drop (i + 1)) ≥ 0 := Nat.zero_le _
    have hc : cPart (gt xs i) = cIntS (gt xs i).lights + 1 + 1 := rfl
    repeat (first | refine R1 ?_ | (refine R2 ?_; intro _))
    refine sf_ifn (fun q1 => ?_) fun q1 => ?_
    · repeat (first | refine R1 ?_ | (refine R2 ?_; intro _))
      refine sf_ret (rV ?_)
      have key : (heldPart) (gt xs i) kk = -1 := by simp only [heldPart, hB, hI, hN, hS, q1, if_true, if_false]
      rw [hinv, key]; rfl
    repeat (first | refine R1 ?_ | (refine R2 ?_; intro _))
    refine sf_if (fun q2 => ?_) fun q2 => ?_
    · repeat (first | refine R1 ?_ | (refine R2 ?_; intro _))
      refine sf_ret (rV ?_)
      simp only [ne_eq] at q2
      have key : (heldPart) (gt xs i) kk = -1 := by simp only [heldPart, hB, hI, hN, hS, q1, q2, if_true, if_false]
      rw [hinv, key]; rfl
    simp only [ne_eq, Decidable.not_not] at q2
    repeat (first | refine R1 ?_ | (refine R2 ?_; intro _))
    refine fp (y_callV (heldIntS_v _ _ _ s_lights1 (kk + 1 + 1) (by omega) (by omega)) (by rfl) ?_)
    repeat (first | refine R1 ?_ | (refine R2 ?_; intro _))
    refine sf_if (fun q3 => ?_) fun q3 => ?_
    · repeat (first | refine R1 ?_ | (refine R2 ?_; intro _))
      refine sf_ret (rV ?_)
      have key : (heldPart) (gt xs i) kk = -1 := by simp only [heldPart, hB, hI, hN, hS, q1, q2, q3, if_true, if_false]
      rw [hinv, key]; rfl
    have b3 : kk + 1 + 1 ≤ heldIntS (gt xs i).lights (kk + 1 + 1) ∧ heldIntS (gt xs i).lights (kk + 1 + 1) ≤ kk + 1 + 1 + cIntS (gt xs i).lights := by rcases bdIntS (gt xs i).lights (kk + 1 + 1) (by omega) with z | z <;> omega
    repeat (first | refine R1 ?_ | (refine R2 ?_; intro _))
    have key : (heldPart) (gt xs i) kk = heldIntS (gt xs i).lights (kk + 1 + 1) := by simp only [heldPart, hB, hI, hN, hS, q1, q2, q3, if_true, if_false]
    rw [key, if_neg (by omega)] at hinv
    exact ⟨(i + 1, heldIntS (gt xs i).lights (kk + 1 + 1)), by simp only; omega, ⟨rfl, rfl, trivial⟩, rfl, [], _, inferInstance, rfl, by simp only; omega, by simp only; omega, by simp only; omega, hinv⟩
  · refine sf_exit ?_
    repeat (first | refine R1 ?_ | (refine R2 ?_; intro _))
    refine sf_ret (rV ?_)
    have : i = xs.length := by omega
    rw [hinv, this, List.drop_length]
    rfl
theorem heldShownS_v (h : PHeap) (a : Value) (xs : List Shown) (s : SlR (shownR τ) h a xs) (k : Int) (h0 : 0 ≤ k) (h1 : k + cShownS xs ≤ 4611686018427387904) : CallV Try.prog M 37 [a, .int .i64 k] h (.int .i64 (heldShownS xs k)) := by
  have o1 := s.one
  obtain ⟨rx, s, b⟩ := s
  have lx := b.len
  have hs := s.small
  refine calls_of_sf Try.func37 rfl Try.ntmps37 ?_
  simp only [argsL, Nat.reduceAdd]
  repeat (first | refine R1 ?_ | (refine R2 ?_; intro _))
  refine sf_lp (ι := Nat × Int) [0] (fun x => [(5, .int .i64 (x.1 : Int)), (1, .int .i64 x.2)]) (fun x O => O = [] ∧ x.1 ≤ xs.length ∧ 0 ≤ x.2 ∧ x.2 + sizeL cShown (xs.drop x.1) ≤ 4611686018427387904 ∧ heldShownS xs k = hL (heldShown) (xs.drop x.1) x.2) (fun x => xs.length - x.1) (0, k) [] ⟨rfl, by simp, h0, h1, rfl⟩ ?_
  rintro ⟨i, kk⟩ O ⟨rfl, hi, hk0, hk1, hinv⟩
  simp only at hi hk0 hk1 hinv ⊢
  repeat (first | refine R1 ?_ | (refine R2 ?_; intro _))
  refine sf_if (fun h4 => ?_) fun h4 => ?_
  · have hi4 : i < xs.length := by omega
    have hi5 : i < rx.length := by omega
    rw [hL_drop hi4] at hinv
    rw [sizeL_drop hi4] at hk1
    have b4 := b.at hi4
    obtain ⟨v_pic1, ex, s_pic1⟩ := shownB b4
    have o_v_pic1 := s_pic1.one
    haveI : FlatV (rawF (shownR τ).sz) (gt rx i) [.int .i64 (gt xs i).ver, v_pic1] := ⟨ex⟩
    have cb : sizeL cShown (xs.drop (i + 1)) ≥ 0 := Nat.zero_le _
    have hc : cShown (gt xs i) = cIntS (gt xs i).pic + 1 := rfl
    repeat (first | refine R1 ?_ | (refine R2 ?_; intro _))
    refine sf_if (fun q1 => ?_) fun q1 => ?_
    · repeat (first | refine R1 ?_ | (refine R2 ?_; intro _))
      refine sf_ret (rV ?_)
      simp only [ne_eq] at q1
      have key : (heldShown) (gt xs i) kk = -1 := by simp only [heldShown, hB, hI, hN, hS, q1, if_true, if_false]
      rw [hinv, key]; rfl
    simp only [ne_eq, Decidable.not_not] at q1
    repeat (first | refine R1 ?_ | (refine R2 ?_; intro _))
    refine fp (y_callV (heldIntS_v _ _ _ s_pic1 (kk + 1) (by omega) (by omega)) (by rfl) ?_)
    repeat (first | refine R1 ?_ | (refine R2 ?_; intro _))
    refine sf_if (fun q2 => ?_) fun q2 => ?_
    · repeat (first | refine R1 ?_ | (refine R2 ?_; intro _))
      refine sf_ret (rV ?_)
      have key : (heldShown) (gt xs i) kk = -1 := by simp only [heldShown, hB, hI, hN, hS, q1, q2, if_true, if_false]
      rw [hinv, key]; rfl
    have b2 : kk + 1 ≤ heldIntS (gt xs i).pic (kk + 1) ∧ heldIntS (gt xs i).pic (kk + 1) ≤ kk + 1 + cIntS (gt xs i).pic := by rcases bdIntS (gt xs i).pic (kk + 1) (by omega) with z | z <;> omega
    repeat (first | refine R1 ?_ | (refine R2 ?_; intro _))
    have key : (heldShown) (gt xs i) kk = heldIntS (gt xs i).pic (kk + 1) := by simp only [heldShown, hB, hI, hN, hS, q1, q2, if_true, if_false]
    rw [key, if_neg (by omega)] at hinv
    exact ⟨(i + 1, heldIntS (gt xs i).pic (kk + 1)), by simp only; omega, ⟨rfl, rfl, trivial⟩, rfl, [], _, inferInstance, rfl, by simp only; omega, by simp only; omega, by simp only; omega, hinv⟩
  · refine sf_exit ?_
    repeat (first | refine R1 ?_ | (refine R2 ?_; intro _))
    refine sf_ret (rV ?_)
    have : i = xs.length := by omega
    rw [hinv, this, List.drop_length]
    rfl
theorem heldGrid_v (h : PHeap) (ca : List Value) (x : Grid) (b : (gridR τ).B h ca x) (k : Int) (h0 : 0 ≤ k) (h1 : k + cGrid x ≤ 4611686018427387904) : CallV Try.prog M 34 [.agg ca.toArray, .int .i64 k] h (.int .i64 (heldGrid x k)) := by
  obtain ⟨v_cells1, rfl, s_cells1⟩ := gridB b
  have o_v_cells1 := s_cells1.one
  have hc : cGrid x = cCellS x.cells := rfl
  refine calls_of_sf Try.func34 rfl Try.ntmps34 ?_
  simp only [argsL, Nat.reduceAdd]
  repeat (first | refine R1 ?_ | (refine R2 ?_; intro _))
  refine fp (y_callV (heldCellS_v _ _ _ s_cells1 (k) (by omega) (by omega)) (by rfl) ?_)
  repeat (first | refine R1 ?_ | (refine R2 ?_; intro _))
  refine sf_if (fun q1 => ?_) fun q1 => ?_
  · repeat (first | refine R1 ?_ | (refine R2 ?_; intro _))
    refine sf_ret (rV ?_)
    simp only [heldGrid, hS, hN, q1, if_true, if_false]
  have b1 : k ≤ heldCellS x.cells (k) ∧ heldCellS x.cells (k) ≤ k + cCellS x.cells := by rcases bdCellS x.cells (k) (by omega) with z | z <;> omega
  repeat (first | refine R1 ?_ | (refine R2 ?_; intro _))
  refine sf_ret (rV ?_)
  simp only [heldGrid, hS, hN, q1, if_true, if_false]
theorem heldKeeper_v (h : PHeap) (ca : List Value) (x : Keeper) (b : (keeperR τ).B h ca x) (k : Int) (h0 : 0 ≤ k) (h1 : k + cKeeper x ≤ 4611686018427387904) : CallV Try.prog M 13 [.agg ca.toArray, .int .i64 k] h (.int .i64 (heldKeeper x k)) := by
  obtain ⟨v_first_cells1, v_edits1, v_parts1, v_shown1, rfl, s_first_cells1, s_edits1, s_parts1, s_shown1⟩ := keeperB b
  have o_v_first_cells1 := s_first_cells1.one
  have o_v_edits1 := s_edits1.one
  have o_v_parts1 := s_parts1.one
  have o_v_shown1 := s_shown1.one
  have hc : cKeeper x = cGrid x.first + (cEditS x.edits + (cPartS x.parts + cShownS x.shown)) := rfl
  refine calls_of_sf Try.func13 rfl Try.ntmps13 ?_
  simp only [argsL, Nat.reduceAdd]
  repeat (first | refine R1 ?_ | (refine R2 ?_; intro _))
  refine fp (y_callV (heldGrid_v _ _ x.first (gridB_mk s_first_cells1) (k) (by omega) (by omega)) (by rfl) ?_)
  repeat (first | refine R1 ?_ | (refine R2 ?_; intro _))
  refine sf_if (fun q1 => ?_) fun q1 => ?_
  · repeat (first | refine R1 ?_ | (refine R2 ?_; intro _))
    refine sf_ret (rV ?_)
    simp only [heldKeeper, hS, hN, q1, if_true, if_false]
  have b1 : k ≤ heldGrid x.first (k) ∧ heldGrid x.first (k) ≤ k + cGrid x.first := by rcases bdGrid x.first (k) (by omega) with z | z <;> omega
  repeat (first | refine R1 ?_ | (refine R2 ?_; intro _))
  refine fp (y_callV (heldEditS_v _ _ _ s_edits1 (heldGrid x.first (k)) (by omega) (by omega)) (by rfl) ?_)
  repeat (first | refine R1 ?_ | (refine R2 ?_; intro _))
  refine sf_if (fun q2 => ?_) fun q2 => ?_
  · repeat (first | refine R1 ?_ | (refine R2 ?_; intro _))
    refine sf_ret (rV ?_)
    simp only [heldKeeper, hS, hN, q1, q2, if_true, if_false]
  have b2 : heldGrid x.first (k) ≤ heldEditS x.edits (heldGrid x.first (k)) ∧ heldEditS x.edits (heldGrid x.first (k)) ≤ heldGrid x.first (k) + cEditS x.edits := by rcases bdEditS x.edits (heldGrid x.first (k)) (by omega) with z | z <;> omega
  repeat (first | refine R1 ?_ | (refine R2 ?_; intro _))
  refine fp (y_callV (heldPartS_v _ _ _ s_parts1 (heldEditS x.edits (heldGrid x.first (k))) (by omega) (by omega)) (by rfl) ?_)
  repeat (first | refine R1 ?_ | (refine R2 ?_; intro _))
  refine sf_if (fun q3 => ?_) fun q3 => ?_
  · repeat (first | refine R1 ?_ | (refine R2 ?_; intro _))
    refine sf_ret (rV ?_)
    simp only [heldKeeper, hS, hN, q1, q2, q3, if_true, if_false]
  have b3 : heldEditS x.edits (heldGrid x.first (k)) ≤ heldPartS x.parts (heldEditS x.edits (heldGrid x.first (k))) ∧ heldPartS x.parts (heldEditS x.edits (heldGrid x.first (k))) ≤ heldEditS x.edits (heldGrid x.first (k)) + cPartS x.parts := by rcases bdPartS x.parts (heldEditS x.edits (heldGrid x.first (k))) (by omega) with z | z <;> omega
  repeat (first | refine R1 ?_ | (refine R2 ?_; intro _))
  refine fp (y_callV (heldShownS_v _ _ _ s_shown1 (heldPartS x.parts (heldEditS x.edits (heldGrid x.first (k)))) (by omega) (by omega)) (by rfl) ?_)
  repeat (first | refine R1 ?_ | (refine R2 ?_; intro _))
  refine sf_if (fun q4 => ?_) fun q4 => ?_
  · repeat (first | refine R1 ?_ | (refine R2 ?_; intro _))
    refine sf_ret (rV ?_)
    simp only [heldKeeper, hS, hN, q1, q2, q3, q4, if_true, if_false]
  have b4 : heldPartS x.parts (heldEditS x.edits (heldGrid x.first (k))) ≤ heldShownS x.shown (heldPartS x.parts (heldEditS x.edits (heldGrid x.first (k)))) ∧ heldShownS x.shown (heldPartS x.parts (heldEditS x.edits (heldGrid x.first (k)))) ≤ heldPartS x.parts (heldEditS x.edits (heldGrid x.first (k))) + cShownS x.shown := by rcases bdShownS x.shown (heldPartS x.parts (heldEditS x.edits (heldGrid x.first (k)))) (by omega) with z | z <;> omega
  repeat (first | refine R1 ?_ | (refine R2 ?_; intro _))
  refine sf_ret (rV ?_)
  simp only [heldKeeper, hS, hN, q1, q2, q3, q4, if_true, if_false]
end Go.Proofs.Ytcefbjpebgofjaa

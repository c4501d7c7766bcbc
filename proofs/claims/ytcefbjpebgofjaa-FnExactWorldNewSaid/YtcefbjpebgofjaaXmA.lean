/- Walks of the exact laws' own helpers: marks. Printed by program. -/
import Derived.Test.YtcefbjpebgofjaaXeA
import Derived.Test.YtcefbjpebgofjaaSmH
namespace Go.Proofs.Ytcefbjpebgofjaa
open Go Go.Sl
set_option maxRecDepth 100000
set_option maxHeartbeats 4000000
attribute [local irreducible] Go.Code.sf sfOps Opq opo retF Do1 anyO
variable {M : Jdg → Prop} [IsCl Try.prog M]
theorem markIntS_f (h : PHeap) (a : Value) (A : Own) (xs : List Int) (gr : Gr A a 3 intF xs) (hs : xs.length ≤ 281474976710656) (k : Int) (h0 : 0 ≤ k) (h1 : k + cIntS xs ≤ 4611686018427387904) : CallF Try.prog M 52 [a, .int .i64 k] A h fun v' A' => ∃ ys, v' = .int .i64 (k + cIntS xs) ∧ Gr A' a 3 intF ys ∧ ys.length = xs.length ∧ heldIntS ys k = k + cIntS xs := by
  have o1 := gr.one
  have hcs : cIntS xs = 1 * xs.length := sizeL_const xs
  refine calls_of_sf Try.func52 rfl Try.ntmps52 ?_
  simp only [argsL, Nat.reduceAdd]
  repeat (first | refine R1 ?_ | (refine R2 ?_; intro _))
  refine sf_lp (ι := Nat × Int) [0] (fun x => [(5, .int .i64 (x.1 : Int)), (1, .int .i64 x.2)]) (fun x O => ∃ ys, x.1 ≤ xs.length ∧ ys.length = xs.length ∧ Gr O a 3 intF ys ∧ x.2 = k + 1 * (x.1 : Int) ∧ hL heldInt (ys.take x.1) k = x.2) (fun x => xs.length - x.1) (0, k) A ⟨xs, by simp, rfl, gr, by simp, rfl⟩ ?_
  rintro ⟨i, kk⟩ O ⟨ys, hi, hl, g, hkk, hinv⟩
  simp only at hi hkk hinv ⊢
  repeat (first | refine R1 ?_ | (refine R2 ?_; intro _))
  refine sf_if (fun h4 => ?_) fun h4 => ?_
  · have hi4 : i < ys.length := by omega
    repeat (first | refine R1 ?_ | (refine R2 ?_; intro _))
    refine fp (y_storeG0 (by rfl) (by rfl) g (by omega) (by rfl) fun A1 y1 e1 l1 _ g1 => ?_)
    have hi5 : i < y1.length := by omega
    clear g
    repeat (first | refine R1 ?_ | (refine R2 ?_; intro _))
    have ez : y1 = ys.set i kk := by simp only [e1, List.set_set]
    have key : heldInt kk kk = kk + 1 := by simp [heldInt, hI]
    have hp := hL_put (f := heldInt) hi4 hinv (by omega) key (by omega)
    exact ⟨(i + 1, _), by simp only; omega, ⟨rfl, rfl, trivial⟩, rfl, _, _, inferInstance, y1, by simp only; omega, by omega, g1, by simp only; omega, by rw [ez]; exact hp⟩
  · refine sf_exit ?_
    repeat (first | refine R1 ?_ | (refine R2 ?_; intro _))
    refine sf_ret (rO O ⟨ys, ?_, g, hl, ?_⟩)
    · have : (i : Int) = xs.length := by omega
      rw [hkk, this, hcs]; simp
    · rw [take_ge (by omega) (by omega)] at hinv
      show hL heldInt ys k = _
      rw [hinv, hkk, hcs, show i = xs.length by omega]; simp
theorem markCellS_f (h : PHeap) (a : Value) (A : Own) (xs : List Cell) (gr : Gr A a 77 cellF xs) (hs : xs.length ≤ 281474976710656) (k : Int) (h0 : 0 ≤ k) (h1 : k + cCellS xs ≤ 4611686018427387904) : CallF Try.prog M 30 [a, .int .i64 k] A h fun v' A' => ∃ ys, v' = .int .i64 (k + cCellS xs) ∧ Gr A' a 77 cellF ys ∧ ys.length = xs.length ∧ heldCellS ys k = k + cCellS xs := by
  have o1 := gr.one
  have hcs : cCellS xs = 2 * xs.length := sizeL_const xs
  refine calls_of_sf Try.func30 rfl Try.ntmps30 ?_
  simp only [argsL, Nat.reduceAdd]
  repeat (first | refine R1 ?_ | (refine R2 ?_; intro _))
  refine sf_lp (ι := Nat × Int) [0] (fun x => [(5, .int .i64 (x.1 : Int)), (1, .int .i64 x.2)]) (fun x O => ∃ ys, x.1 ≤ xs.length ∧ ys.length = xs.length ∧ Gr O a 77 cellF ys ∧ x.2 = k + 2 * (x.1 : Int) ∧ hL heldCell (ys.take x.1) k = x.2) (fun x => xs.length - x.1) (0, k) A ⟨xs, by simp, rfl, gr, by simp, rfl⟩ ?_
  rintro ⟨i, kk⟩ O ⟨ys, hi, hl, g, hkk, hinv⟩
  simp only at hi hkk hinv ⊢
  repeat (first | refine R1 ?_ | (refine R2 ?_; intro _))
  refine sf_if (fun h4 => ?_) fun h4 => ?_
  · have hi4 : i < ys.length := by omega
    repeat (first | refine R1 ?_ | (refine R2 ?_; intro _))
    refine fp (y_storeG (by rfl) (by rfl) g (by omega) (by rfl) fun A1 y1 e1 l1 _ g1 => ?_)
    have hi5 : i < y1.length := by omega
    clear g
    repeat (first | refine R1 ?_ | (refine R2 ?_; intro _))
    refine fp (y_storeG (by rfl) (by rfl) g1 (by omega) (by rfl) fun A2 y2 e2 l2 _ g2 => ?_)
    have hi6 : i < y2.length := by omega
    clear g1
    repeat (first | refine R1 ?_ | (refine R2 ?_; intro _))
    have ez : y2 = ys.set i ⟨kk, kk + 1⟩ := by simp only [e2, e1, List.set_set]
    have key : heldCell ⟨kk, kk + 1⟩ kk = kk + 1 + 1 := by simp [heldCell, hI]
    have hp := hL_put (f := heldCell) hi4 hinv (by omega) key (by omega)
    exact ⟨(i + 1, _), by simp only; omega, ⟨rfl, rfl, trivial⟩, rfl, _, _, inferInstance, y2, by simp only; omega, by omega, g2, by simp only; omega, by rw [ez]; exact hp⟩
  · refine sf_exit ?_
    repeat (first | refine R1 ?_ | (refine R2 ?_; intro _))
    refine sf_ret (rO O ⟨ys, ?_, g, hl, ?_⟩)
    · have : (i : Int) = xs.length := by omega
      rw [hkk, this, hcs]; simp
    · rw [take_ge (by omega) (by omega)] at hinv
      show hL heldCell ys k = _
      rw [hinv, hkk, hcs, show i = xs.length by omega]; simp
theorem markEditS_f (h : PHeap) (a : Value) (A : Own) (xs : List Edit) (gr : Gr A a 83 editF xs) (hs : xs.length ≤ 281474976710656) (k : Int) (h0 : 0 ≤ k) (h1 : k + cEditS xs ≤ 4611686018427387904) : CallF Try.prog M 31 [a, .int .i64 k] A h fun v' A' => ∃ ys, v' = .int .i64 (k + cEditS xs) ∧ Gr A' a 83 editF ys ∧ ys.length = xs.length ∧ heldEditS ys k = k + cEditS xs := by
  have o1 := gr.one
  have hcs : cEditS xs = 3 * xs.length := sizeL_const xs
  refine calls_of_sf Try.func31 rfl Try.ntmps31 ?_
  simp only [argsL, Nat.reduceAdd]
  repeat (first | refine R1 ?_ | (refine R2 ?_; intro _))
  refine sf_lp (ι := Nat × Int) [0] (fun x => [(5, .int .i64 (x.1 : Int)), (1, .int .i64 x.2)]) (fun x O => ∃ ys, x.1 ≤ xs.length ∧ ys.length = xs.length ∧ Gr O a 83 editF ys ∧ x.2 = k + 3 * (x.1 : Int) ∧ hL heldEdit (ys.take x.1) k = x.2) (fun x => xs.length - x.1) (0, k) A ⟨xs, by simp, rfl, gr, by simp, rfl⟩ ?_
  rintro ⟨i, kk⟩ O ⟨ys, hi, hl, g, hkk, hinv⟩
  simp only at hi hkk hinv ⊢
  repeat (first | refine R1 ?_ | (refine R2 ?_; intro _))
  refine sf_if (fun h4 => ?_) fun h4 => ?_
  · have hi4 : i < ys.length := by omega
    repeat (first | refine R1 ?_ | (refine R2 ?_; intro _))
    refine fp (y_storeG (by rfl) (by rfl) g (by omega) (by rfl) fun A1 y1 e1 l1 _ g1 => ?_)
    have hi5 : i < y1.length := by omega
    clear g
    repeat (first | refine R1 ?_ | (refine R2 ?_; intro _))
    refine fp (y_storeG (by rfl) (by rfl) g1 (by omega) (by rfl) fun A2 y2 e2 l2 _ g2 => ?_)
    have hi6 : i < y2.length := by omega
    clear g1
    repeat (first | refine R1 ?_ | (refine R2 ?_; intro _))
    refine fp (y_storeG (by rfl) (by rfl) g2 (by omega) (by rfl) fun A3 y3 e3 l3 _ g3 => ?_)
    have hi7 : i < y3.length := by omega
    clear g2
    repeat (first | refine R1 ?_ | (refine R2 ?_; intro _))
    have ez : y3 = ys.set i ⟨kk, ⟨kk + 1, kk + 1 + 1⟩⟩ := by simp only [e3, e2, e1, List.set_set]
    have key : heldEdit ⟨kk, ⟨kk + 1, kk + 1 + 1⟩⟩ kk = kk + 1 + 1 + 1 := by simp [heldEdit, hI]
    have hp := hL_put (f := heldEdit) hi4 hinv (by omega) key (by omega)
    exact ⟨(i + 1, _), by simp only; omega, ⟨rfl, rfl, trivial⟩, rfl, _, _, inferInstance, y3, by simp only; omega, by omega, g3, by simp only; omega, by rw [ez]; exact hp⟩
  · refine sf_exit ?_
    repeat (first | refine R1 ?_ | (refine R2 ?_; intro _))
    refine sf_ret (rO O ⟨ys, ?_, g, hl, ?_⟩)
    · have : (i : Int) = xs.length := by omega
      rw [hkk, this, hcs]; simp
    · rw [take_ge (by omega) (by omega)] at hinv
      show hL heldEdit ys k = _
      rw [hinv, hkk, hcs, show i = xs.length by omega]; simp
theorem markPartS_f (h : PHeap) (a : Value) (A : Own) (xs : List Part) (gr : GrR (partR τ) A a 56 xs) (k : Int) (h0 : 0 ≤ k) (h1 : k + cPartS xs ≤ 4611686018427387904) : CallF Try.prog M 32 [a, .int .i64 k] A h fun v' A' => ∃ ys, v' = .int .i64 (k + cPartS xs) ∧ GrR (partR τ) A' a 56 ys ∧ cPartS ys = cPartS xs ∧ heldPartS ys k = k + cPartS xs := by
  have o1 := gr.one
  obtain ⟨A0, A1, rfl, rx, g, oa, hs⟩ := gr
  have lx := oa.len
  refine calls_of_sf Try.func32 rfl Try.ntmps32 ?_
  simp only [argsL, Nat.reduceAdd]
  repeat (first | refine R1 ?_ | (refine R2 ?_; intro _))
  refine sf_lp (ι := Nat × Int) [0] (fun x => [(5, .int .i64 (x.1 : Int)), (1, .int .i64 x.2)]) (fun x O => ∃ A0 A1 ry ys, O = A0 ++ A1 ∧ x.1 ≤ xs.length ∧ ys.length = xs.length ∧ Gr A0 a 56 (rawF (partR τ).sz) ry ∧ OAll (partR τ) A1 ry ys ∧ ys.drop x.1 = xs.drop x.1 ∧ x.2 = k + sizeL cPart (xs.take x.1) ∧ sizeL cPart (ys.take x.1) = sizeL cPart (xs.take x.1) ∧ hL (heldPart) (ys.take x.1) k = x.2) (fun x => xs.length - x.1) (0, k) (A0 ++ A1) ⟨A0, A1, rx, xs, rfl, by simp, rfl, g, oa, rfl, by simp [sizeL], rfl, rfl⟩ ?_
  clear g oa lx rx A0 A1
  rintro ⟨i, kk⟩ O ⟨A0, A1, ry, ys, rfl, hi, hl, g, oa, hd, hkk, hsz, hinv⟩
  simp only at hi hd hkk hsz hinv ⊢
  have ly := oa.len
  repeat (first | refine R1 ?_ | (refine R2 ?_; intro _))
  refine sf_if (fun h4 => ?_) fun h4 => ?_
  · have hi4 : i < ys.length := by omega
    have hi5 : i < ry.length := by omega
    have hg := gt_drop (xs := xs) (by omega) hd
    have hst := sizeL_take (f := cPart) (xs := xs) (k := i) (by omega)
    have hsp := sizeL_split (f := cPart) xs (i + 1)
    have hcx : cPartS xs = sizeL cPart xs := rfl
    rw [← hg] at hst
    obtain ⟨B1, Bk, B2, rfl, ok, put⟩ := oa.at hi4
    obtain ⟨v_lights1, ex, g_v_lights1, l_v_lights1⟩ := partO ok
    have o_v_lights1 := g_v_lights1.one
    haveI : FlatV (rawF (partR τ).sz) (gt ry i) [.bool (gt ys i).has, .int .i64 (gt ys i).ver, v_lights1] := ⟨ex⟩
    have ce : cPart (gt ys i) = cIntS (gt ys i).lights + 1 + 1 := rfl
    repeat (first | refine R1 ?_ | (refine R2 ?_; intro _))
    refine fp (y_storeG (by rfl) (by rfl) g (by omega) (by rfl) fun A1 y1 e1 m1 _ z1 => ?_)
    have hj1 : i < y1.length := by omega
    clear g
    repeat (first | refine R1 ?_ | (refine R2 ?_; intro _))
    refine fp (y_storeG (by rfl) (by rfl) z1 (by omega) (by rfl) fun A2 y2 e2 m2 _ z2 => ?_)
    have hj2 : i < y2.length := by omega
    clear z1
    repeat (first | refine R1 ?_ | (refine R2 ?_; intro _))
    refine fp (y_call (markIntS_f _ _ _ _ g_v_lights1 l_v_lights1 (kk + 1 + 1) (by omega) (by omega)) (by rfl) ?_)
    rintro _ K3 ⟨w3, rfl, r3, t3, u3⟩
    repeat (first | refine R1 ?_ | (refine R2 ?_; intro _))
    let z : Part := ⟨decide ((kk) % 3 = 0), kk + 1, w3⟩
    have d3 : cIntS w3 = cIntS (gt ys i).lights := by simp only [cIntS, sizeL_const, t3]
    have cz : cPart z = cPart (gt ys i) := by simp only [z, cPart, cGrid, cScene, d3]
    have key : (heldPart) z kk = kk + 1 + 1 + cIntS (gt ys i).lights := by
      simp only [z, heldPart, hB, hI, hN, hS, if_true, u3]
      rw [if_neg (by omega)]
    have oa2 := put K3 ⟨[.bool z.has, .int .i64 z.ver, v_lights1], rfl⟩ z (partO_mk (p := z) r3 (show w3.length ≤ 281474976710656 by omega))
    have hp := hL_put (f := heldPart) hi4 hinv (by omega) key (by omega)
    have hsz2 := sizeL_put (c := cPart) (z := z) hi4
    have er : y2 = ry.set i ⟨[.bool z.has, .int .i64 z.ver, v_lights1], rfl⟩ := by simp only [e2, e1, List.set_set]; rfl
    exact ⟨(i + 1, kk + 1 + 1 + cIntS (gt ys i).lights), by simp only; omega, ⟨rfl, rfl, trivial⟩, rfl, A2 ++ (B1 ++ (K3 ++ B2)), _, inferInstance, A2, _, y2, ys.set i z, rfl, by simp only; omega, by simpa using hl, z2, by rw [er]; exact oa2, drop_set_succ hd, by simp only; omega, by simp only; omega, hp⟩
  · refine sf_exit ?_
    repeat (first | refine R1 ?_ | (refine R2 ?_; intro _))
    rw [take_ge (by omega) (by omega)] at hinv hsz
    rw [take_ge (by omega) (by omega)] at hsz hkk
    refine sf_ret (rO (A0 ++ A1) ⟨ys, ?_, ⟨A0, A1, rfl, ry, g, oa, by omega⟩, hsz, ?_⟩)
    · rw [hkk]; rfl
    · have e : k + (cPartS xs : Int) = kk := hkk.symm
      rw [e]; exact hinv
theorem markShownS_f (h : PHeap) (a : Value) (A : Own) (xs : List Shown) (gr : GrR (shownR τ) A a 87 xs) (k : Int) (h0 : 0 ≤ k) (h1 : k + cShownS xs ≤ 4611686018427387904) : CallF Try.prog M 33 [a, .int .i64 k] A h fun v' A' => ∃ ys, v' = .int .i64 (k + cShownS xs) ∧ GrR (shownR τ) A' a 87 ys ∧ cShownS ys = cShownS xs ∧ heldShownS ys k = k + cShownS xs := by
  have o1 := gr.one
  obtain ⟨A0, A1, rfl, rx, g, oa, hs⟩ := gr
  have lx := oa.len
  refine calls_of_sf Try.func33 rfl Try.ntmps33 ?_
  simp only [argsL, Nat.reduceAdd]
  repeat (first | refine R1 ?_ | (refine R2 ?_; intro _))
  refine sf_lp (ι := Nat × Int) [0] (fun x => [(5, .int .i64 (x.1 : Int)), (1, .int .i64 x.2)]) (fun x O => ∃ A0 A1 ry ys, O = A0 ++ A1 ∧ x.1 ≤ xs.length ∧ ys.length = xs.length ∧ Gr A0 a 87 (rawF (shownR τ).sz) ry ∧ OAll (shownR τ) A1 ry ys ∧ ys.drop x.1 = xs.drop x.1 ∧ x.2 = k + sizeL cShown (xs.take x.1) ∧ sizeL cShown (ys.take x.1) = sizeL cShown (xs.take x.1) ∧ hL (heldShown) (ys.take x.1) k = x.2) (fun x => xs.length - x.1) (0, k) (A0 ++ A1) ⟨A0, A1, rx, xs, rfl, by simp, rfl, g, oa, rfl, by simp [sizeL], rfl, rfl⟩ ?_
  clear g oa lx rx A0 A1
  rintro ⟨i, kk⟩ O ⟨A0, A1, ry, ys, rfl, hi, hl, g, oa, hd, hkk, hsz, hinv⟩
  simp only at hi hd hkk hsz hinv ⊢
  have ly := oa.len
  repeat (first | refine R1 ?_ | (refine R2 ?_; intro _))
  refine sf_if (fun h4 => ?_) fun h4 => ?_
  · have hi4 : i < ys.length := by omega
    have hi5 : i < ry.length := by omega
    have hg := gt_drop (xs := xs) (by omega) hd
    have hst := sizeL_take (f := cShown) (xs := xs) (k := i) (by omega)
    have hsp := sizeL_split (f := cShown) xs (i + 1)
    have hcx : cShownS xs = sizeL cShown xs := rfl
    rw [← hg] at hst
    obtain ⟨B1, Bk, B2, rfl, ok, put⟩ := oa.at hi4
    obtain ⟨v_pic1, ex, g_v_pic1, l_v_pic1⟩ := shownO ok
    have o_v_pic1 := g_v_pic1.one
    haveI : FlatV (rawF (shownR τ).sz) (gt ry i) [.int .i64 (gt ys i).ver, v_pic1] := ⟨ex⟩
    have ce : cShown (gt ys i) = cIntS (gt ys i).pic + 1 := rfl
    repeat (first | refine R1 ?_ | (refine R2 ?_; intro _))
    refine fp (y_storeG (by rfl) (by rfl) g (by omega) (by rfl) fun A1 y1 e1 m1 _ z1 => ?_)
    have hj1 : i < y1.length := by omega
    clear g
    repeat (first | refine R1 ?_ | (refine R2 ?_; intro _))
    refine fp (y_call (markIntS_f _ _ _ _ g_v_pic1 l_v_pic1 (kk + 1) (by omega) (by omega)) (by rfl) ?_)
    rintro _ K2 ⟨w2, rfl, r2, t2, u2⟩
    repeat (first | refine R1 ?_ | (refine R2 ?_; intro _))
    let z : Shown := ⟨kk, w2⟩
    have d2 : cIntS w2 = cIntS (gt ys i).pic := by simp only [cIntS, sizeL_const, t2]
    have cz : cShown z = cShown (gt ys i) := by simp only [z, cShown, cGrid, cScene, d2]
    have key : (heldShown) z kk = kk + 1 + cIntS (gt ys i).pic := by
      simp only [z, heldShown, hB, hI, hN, hS, if_true, u2]
      rw [if_neg (by omega)]
    have oa2 := put K2 ⟨[.int .i64 z.ver, v_pic1], rfl⟩ z (shownO_mk (p := z) r2 (show w2.length ≤ 281474976710656 by omega))
    have hp := hL_put (f := heldShown) hi4 hinv (by omega) key (by omega)
    have hsz2 := sizeL_put (c := cShown) (z := z) hi4
    have er : y1 = ry.set i ⟨[.int .i64 z.ver, v_pic1], rfl⟩ := by simp only [e1, List.set_set]; rfl
    exact ⟨(i + 1, kk + 1 + cIntS (gt ys i).pic), by simp only; omega, ⟨rfl, rfl, trivial⟩, rfl, A1 ++ (B1 ++ (K2 ++ B2)), _, inferInstance, A1, _, y1, ys.set i z, rfl, by simp only; omega, by simpa using hl, z1, by rw [er]; exact oa2, drop_set_succ hd, by simp only; omega, by simp only; omega, hp⟩
  · refine sf_exit ?_
    repeat (first | refine R1 ?_ | (refine R2 ?_; intro _))
    rw [take_ge (by omega) (by omega)] at hinv hsz
    rw [take_ge (by omega) (by omega)] at hsz hkk
    refine sf_ret (rO (A0 ++ A1) ⟨ys, ?_, ⟨A0, A1, rfl, ry, g, oa, by omega⟩, hsz, ?_⟩)
    · rw [hkk]; rfl
    · have e : k + (cShownS xs : Int) = kk := hkk.symm
      rw [e]; exact hinv
theorem markGrid_f (h : PHeap) (A : Own) (ca : List Value) (x : Grid) (b : (gridR τ).O A ca x) (k : Int) (h0 : 0 ≤ k) (h1 : k + cGrid x ≤ 4611686018427387904) : CallF Try.prog M 11 [.agg ca.toArray, .int .i64 k] A h fun v' A' => ∃ y, v' = .int .i64 (k + cGrid x) ∧ (gridR τ).O A' ca y ∧ cGrid y = cGrid x ∧ heldGrid y k = k + cGrid x := by
  obtain ⟨v_cells1, rfl, g_v_cells1, l_v_cells1⟩ := gridO b
  have o_v_cells1 := g_v_cells1.one
  have hc : cGrid x = cCellS x.cells := rfl
  refine calls_of_sf Try.func11 rfl Try.ntmps11 ?_
  simp only [argsL, Nat.reduceAdd]
  repeat (first | refine R1 ?_ | (refine R2 ?_; intro _))
  refine fp (y_call (markCellS_f _ _ _ _ g_v_cells1 l_v_cells1 (k) (by omega) (by omega)) (by rfl) ?_)
  rintro _ K1 ⟨w1, rfl, r1, t1, u1⟩
  repeat (first | refine R1 ?_ | (refine R2 ?_; intro _))
  have d1 : cCellS w1 = cCellS x.cells := by simp only [cCellS, sizeL_const, t1]
  let y : Grid := ⟨x.wide, w1⟩
  have oy : (gridR τ).O K1 _ y := gridO_mk (g := y) r1 (show w1.length ≤ 281474976710656 by omega)
  refine sf_ret (rO K1 ⟨y, ?_, ?_, ?_, ?_⟩)
  · exact congrArg (Value.int .i64) (by omega)
  · exact oy
  · simp only [y, cGrid, d1]
  · simp only [y, heldGrid, hS, hN, u1]
    rw [if_neg (by omega)]
    omega
theorem markKeeper_f (h : PHeap) (A : Own) (ca : List Value) (x : Keeper) (b : (keeperR τ).O A ca x) (k : Int) (h0 : 0 ≤ k) (h1 : k + cKeeper x ≤ 4611686018427387904) : CallF Try.prog M 12 [.agg ca.toArray, .int .i64 k] A h fun v' A' => ∃ y, v' = .int .i64 (k + cKeeper x) ∧ (keeperR τ).O A' ca y ∧ cKeeper y = cKeeper x ∧ heldKeeper y k = k + cKeeper x := by
  obtain ⟨v_first_cells1, v_edits1, v_parts1, v_shown1, K_v_first_cells1, K_v_edits1, K_v_parts1, K_v_shown1, rfl, rfl, ⟨g_v_first_cells1, l_v_first_cells1⟩, ⟨g_v_edits1, l_v_edits1⟩, g_v_parts1, g_v_shown1⟩ := keeperO b
  have o_v_first_cells1 := g_v_first_cells1.one
  have o_v_edits1 := g_v_edits1.one
  have o_v_parts1 := g_v_parts1.one
  have o_v_shown1 := g_v_shown1.one
  have hc : cKeeper x = cGrid x.first + (cEditS x.edits + (cPartS x.parts + cShownS x.shown)) := rfl
  refine calls_of_sf Try.func12 rfl Try.ntmps12 ?_
  simp only [argsL, Nat.reduceAdd]
  repeat (first | refine R1 ?_ | (refine R2 ?_; intro _))
  refine fp (y_call (markGrid_f _ _ _ x.first (gridO_mk g_v_first_cells1 l_v_first_cells1) (k) (by omega) (by omega)) (by rfl) ?_)
  rintro _ K1 ⟨w1, rfl, r1, t1, u1⟩
  repeat (first | refine R1 ?_ | (refine R2 ?_; intro _))
  refine fp (y_call (markEditS_f _ _ _ _ g_v_edits1 l_v_edits1 (k + cGrid x.first) (by omega) (by omega)) (by rfl) ?_)
  rintro _ K2 ⟨w2, rfl, r2, t2, u2⟩
  repeat (first | refine R1 ?_ | (refine R2 ?_; intro _))
  refine fp (y_call (markPartS_f _ _ _ _ g_v_parts1 (k + cGrid x.first + cEditS x.edits) (by omega) (by omega)) (by rfl) ?_)
  rintro _ K3 ⟨w3, rfl, r3, t3, u3⟩
  repeat (first | refine R1 ?_ | (refine R2 ?_; intro _))
  refine fp (y_call (markShownS_f _ _ _ _ g_v_shown1 (k + cGrid x.first + cEditS x.edits + cPartS x.parts) (by omega) (by omega)) (by rfl) ?_)
  rintro _ K4 ⟨w4, rfl, r4, t4, u4⟩
  repeat (first | refine R1 ?_ | (refine R2 ?_; intro _))
  obtain ⟨vv1_v_cells2, ee1, gg1_v_cells2, ll1_v_cells2⟩ := gridO r1
  simp only [List.cons.injEq, and_true] at ee1
  obtain ⟨ef1_0, ef1_1⟩ := ee1
  subst ef1_1
  have d1 := t1
  have d2 : cEditS w2 = cEditS x.edits := by simp only [cEditS, sizeL_const, t2]
  have d3 := t3
  have d4 := t4
  let y : Keeper := ⟨w1, w2, w3, w4⟩
  have oy : (keeperR τ).O (K1 ++ (K2 ++ (K3 ++ (K4)))) _ y := keeperO_mk (k := y) gg1_v_cells2 ll1_v_cells2 r2 (show w2.length ≤ 281474976710656 by omega) r3 r4
  refine sf_ret (rO (K1 ++ (K2 ++ (K3 ++ (K4)))) ⟨y, ?_, ?_, ?_, ?_⟩)
  · exact congrArg (Value.int .i64) (by omega)
  · rw [ef1_0]; exact oy
  · simp only [y, cKeeper, d1, d2, d3, d4]
  · simp only [y, heldKeeper, hS, hN, u1, u2, u3, u4]
    rw [if_neg (by omega)]
    rw [if_neg (by omega)]
    rw [if_neg (by omega)]
    rw [if_neg (by omega)]
    omega
end Go.Proofs.Ytcefbjpebgofjaa

/- Walks of the exact laws' own helpers: marks, worlds. Printed by program. -/
import Derived.Test.YtcefbjpebgofjaaXmA
import Derived.Test.YtcefbjpebgofjaaSmH
namespace Go.Proofs.Ytcefbjpebgofjaa
open Go Go.Sl
set_option maxRecDepth 100000
set_option maxHeartbeats 4000000
attribute [local irreducible] Go.Code.sf sfOps Opq opo retF Do1 anyO
variable {M : Jdg → Prop} [IsCl Try.prog M]
theorem markIntSS_f (h : PHeap) (a : Value) (A : Own) (xs : List (List Int)) (gr : GrR (intSR τ) A a 54 xs) (k : Int) (h0 : 0 ≤ k) (h1 : k + cIntSS xs ≤ 4611686018427387904) : CallF Try.prog M 57 [a, .int .i64 k] A h fun v' A' => ∃ ys, v' = .int .i64 (k + cIntSS xs) ∧ GrR (intSR τ) A' a 54 ys ∧ cIntSS ys = cIntSS xs ∧ heldIntSS ys k = k + cIntSS xs := by
  have o1 := gr.one
  obtain ⟨A0, A1, rfl, rx, g, oa, hs⟩ := gr
  have lx := oa.len
  refine calls_of_sf Try.func57 rfl Try.ntmps57 ?_
  simp only [argsL, Nat.reduceAdd]
  repeat (first | refine R1 ?_ | (refine R2 ?_; intro _))
  refine sf_lp (ι := Nat × Int) [0] (fun x => [(5, .int .i64 (x.1 : Int)), (1, .int .i64 x.2)]) (fun x O => ∃ A0 A1 ry ys, O = A0 ++ A1 ∧ x.1 ≤ xs.length ∧ ys.length = xs.length ∧ Gr A0 a 54 (rawF (intSR τ).sz) ry ∧ OAll (intSR τ) A1 ry ys ∧ ys.drop x.1 = xs.drop x.1 ∧ x.2 = k + sizeL cIntS (xs.take x.1) ∧ sizeL cIntS (ys.take x.1) = sizeL cIntS (xs.take x.1) ∧ hL (fun x => hN (heldIntS x)) (ys.take x.1) k = x.2) (fun x => xs.length - x.1) (0, k) (A0 ++ A1) ⟨A0, A1, rx, xs, rfl, by simp, rfl, g, oa, rfl, by simp [sizeL], rfl, rfl⟩ ?_
  clear g oa lx rx A0 A1
  rintro ⟨i, kk⟩ O ⟨A0, A1, ry, ys, rfl, hi, hl, g, oa, hd, hkk, hsz, hinv⟩
  simp only at hi hd hkk hsz hinv ⊢
  have ly := oa.len
  repeat (first | refine R1 ?_ | (refine R2 ?_; intro _))
  refine sf_if (fun h4 => ?_) fun h4 => ?_
  · have hi4 : i < ys.length := by omega
    have hi5 : i < ry.length := by omega
    have hg := gt_drop (xs := xs) (by omega) hd
    have hst := sizeL_take (f := cIntS) (xs := xs) (k := i) (by omega)
    have hsp := sizeL_split (f := cIntS) xs (i + 1)
    have hcx : cIntSS xs = sizeL cIntS xs := rfl
    rw [← hg] at hst
    obtain ⟨B1, Bk, B2, rfl, ok, put⟩ := oa.at hi4
    obtain ⟨v_1, ex, g_1, l_1⟩ := ok
    haveI : FlatV (rawF (intSR τ).sz) (gt ry i) [v_1] := ⟨ex⟩
    have o_1 := g_1.one
    repeat (first | refine R1 ?_ | (refine R2 ?_; intro _))
    refine fp (y_call (markIntS_f _ _ _ _ g_1 l_1 (kk) (by omega) (by omega)) (by rfl) ?_)
    rintro _ K1 ⟨w1, rfl, r1, t1, u1⟩
    repeat (first | refine R1 ?_ | (refine R2 ?_; intro _))
    have cz : cIntS w1 = cIntS (gt ys i) := by simp only [cIntS, sizeL_const, t1]
    have key : (fun x => hN (heldIntS x)) w1 kk = kk + cIntS (gt ys i) := by simp only [hN, u1]; rw [if_neg (by omega)]
    have oa2 := put K1 (gt ry i) w1 ⟨_, ex, r1, by omega⟩
    have hp := hL_put (f := fun x => hN (heldIntS x)) hi4 hinv (by omega) key (by omega)
    have hsz2 := sizeL_put (c := cIntS) (z := w1) hi4
    have er : ry.set i (gt ry i) = ry := by rw [gt_eq hi5]; exact List.set_getElem_self hi5
    rw [er] at oa2
    exact ⟨(i + 1, kk + cIntS (gt ys i)), by simp only; omega, ⟨rfl, rfl, trivial⟩, rfl, A0 ++ (B1 ++ (K1 ++ B2)), _, inferInstance, A0, _, ry, ys.set i w1, rfl, by simp only; omega, by simpa using hl, g, oa2, drop_set_succ hd, by simp only; omega, by simp only; omega, hp⟩
  · refine sf_exit ?_
    repeat (first | refine R1 ?_ | (refine R2 ?_; intro _))
    rw [take_ge (by omega) (by omega)] at hinv hsz
    rw [take_ge (by omega) (by omega)] at hsz hkk
    refine sf_ret (rO (A0 ++ A1) ⟨ys, ?_, ⟨A0, A1, rfl, ry, g, oa, by omega⟩, hsz, ?_⟩)
    · rw [hkk]; rfl
    · have e : k + (cIntSS xs : Int) = kk := hkk.symm
      rw [e]; exact hinv
theorem markPainterS_f (h : PHeap) (a : Value) (A : Own) (xs : List Painter) (gr : GrR (painterR τ) A a 70 xs) (k : Int) (h0 : 0 ≤ k) (h1 : k + cPainterS xs ≤ 4611686018427387904) : CallF Try.prog M 40 [a, .int .i64 k] A h fun v' A' => ∃ ys, v' = .int .i64 (k + cPainterS xs) ∧ GrR (painterR τ) A' a 70 ys ∧ cPainterS ys = cPainterS xs ∧ heldPainterS ys k = k + cPainterS xs := by
  have o1 := gr.one
  obtain ⟨A0, A1, rfl, rx, g, oa, hs⟩ := gr
  have lx := oa.len
  refine calls_of_sf Try.func40 rfl Try.ntmps40 ?_
  simp only [argsL, Nat.reduceAdd]
  repeat (first | refine R1 ?_ | (refine R2 ?_; intro _))
  refine sf_lp (ι := Nat × Int) [0] (fun x => [(5, .int .i64 (x.1 : Int)), (1, .int .i64 x.2)]) (fun x O => ∃ A0 A1 ry ys, O = A0 ++ A1 ∧ x.1 ≤ xs.length ∧ ys.length = xs.length ∧ Gr A0 a 70 (rawF (painterR τ).sz) ry ∧ OAll (painterR τ) A1 ry ys ∧ ys.drop x.1 = xs.drop x.1 ∧ x.2 = k + sizeL cPainterE (xs.take x.1) ∧ sizeL cPainterE (ys.take x.1) = sizeL cPainterE (xs.take x.1) ∧ hL (heldPainterE) (ys.take x.1) k = x.2) (fun x => xs.length - x.1) (0, k) (A0 ++ A1) ⟨A0, A1, rx, xs, rfl, by simp, rfl, g, oa, rfl, by simp [sizeL], rfl, rfl⟩ ?_
  clear g oa lx rx A0 A1
  rintro ⟨i, kk⟩ O ⟨A0, A1, ry, ys, rfl, hi, hl, g, oa, hd, hkk, hsz, hinv⟩
  simp only at hi hd hkk hsz hinv ⊢
  have ly := oa.len
  repeat (first | refine R1 ?_ | (refine R2 ?_; intro _))
  refine sf_if (fun h4 => ?_) fun h4 => ?_
  · have hi4 : i < ys.length := by omega
    have hi5 : i < ry.length := by omega
    have hg := gt_drop (xs := xs) (by omega) hd
    have hst := sizeL_take (f := cPainterE) (xs := xs) (k := i) (by omega)
    have hsp := sizeL_split (f := cPainterE) xs (i + 1)
    have hcx : cPainterS xs = sizeL cPainterE xs := rfl
    rw [← hg] at hst
    obtain ⟨B1, Bk, B2, rfl, ok, put⟩ := oa.at hi4
    obtain ⟨v_scene_grid_cells1, v_scene_lights1, v_scene_feet1, K_v_scene_grid_cells1, K_v_scene_lights1, K_v_scene_feet1, ex, rfl, ⟨g_v_scene_grid_cells1, l_v_scene_grid_cells1⟩, ⟨g_v_scene_lights1, l_v_scene_lights1⟩, g_v_scene_feet1⟩ := painterO ok
    have o_v_scene_grid_cells1 := g_v_scene_grid_cells1.one
    have o_v_scene_lights1 := g_v_scene_lights1.one
    have o_v_scene_feet1 := g_v_scene_feet1.one
    haveI : FlatV (rawF (painterR τ).sz) (gt ry i) [.bool (gt ys i).up, .bool (gt ys i).has, .int .i64 (gt ys i).ver, .int .i64 (gt ys i).scene.grid.wide, v_scene_grid_cells1, v_scene_lights1, v_scene_feet1] := ⟨ex⟩
    have ce : cPainterE (gt ys i) = cCellS (gt ys i).scene.grid.cells + (cIntS (gt ys i).scene.lights + cIntSS (gt ys i).scene.feet) + 1 + 1 + 1 + 1 := rfl
    repeat (first | refine R1 ?_ | (refine R2 ?_; intro _))
    refine fp (y_storeG (by rfl) (by rfl) g (by omega) (by rfl) fun A1 y1 e1 m1 _ z1 => ?_)
    have hj1 : i < y1.length := by omega
    clear g
    repeat (first | refine R1 ?_ | (refine R2 ?_; intro _))
    refine fp (y_storeG (by rfl) (by rfl) z1 (by omega) (by rfl) fun A2 y2 e2 m2 _ z2 => ?_)
    have hj2 : i < y2.length := by omega
    clear z1
    repeat (first | refine R1 ?_ | (refine R2 ?_; intro _))
    refine fp (y_storeG (by rfl) (by rfl) z2 (by omega) (by rfl) fun A3 y3 e3 m3 _ z3 => ?_)
    have hj3 : i < y3.length := by omega
    clear z2
    repeat (first | refine R1 ?_ | (refine R2 ?_; intro _))
    refine fp (y_storeG (by rfl) (by rfl) z3 (by omega) (by rfl) fun A4 y4 e4 m4 _ z4 => ?_)
    have hj4 : i < y4.length := by omega
    clear z3
    repeat (first | refine R1 ?_ | (refine R2 ?_; intro _))
    refine fp (y_call (markCellS_f _ _ _ _ g_v_scene_grid_cells1 l_v_scene_grid_cells1 (kk + 1 + 1 + 1 + 1) (by omega) (by omega)) (by rfl) ?_)
    rintro _ K5 ⟨w5, rfl, r5, t5, u5⟩
    repeat (first | refine R1 ?_ | (refine R2 ?_; intro _))
    refine fp (y_call (markIntS_f _ _ _ _ g_v_scene_lights1 l_v_scene_lights1 (kk + 1 + 1 + 1 + 1 + cCellS (gt ys i).scene.grid.cells) (by omega) (by omega)) (by rfl) ?_)
    rintro _ K6 ⟨w6, rfl, r6, t6, u6⟩
    repeat (first | refine R1 ?_ | (refine R2 ?_; intro _))
    refine fp (y_call (markIntSS_f _ _ _ _ g_v_scene_feet1 (kk + 1 + 1 + 1 + 1 + cCellS (gt ys i).scene.grid.cells + cIntS (gt ys i).scene.lights) (by omega) (by omega)) (by rfl) ?_)
    rintro _ K7 ⟨w7, rfl, r7, t7, u7⟩
    repeat (first | refine R1 ?_ | (refine R2 ?_; intro _))
    let z : Painter := ⟨decide ((kk) % 3 = 0), decide ((kk + 1) % 3 = 0), kk + 1 + 1, ⟨⟨kk + 1 + 1 + 1, w5⟩, w6, w7⟩⟩
    have d5 : cCellS w5 = cCellS (gt ys i).scene.grid.cells := by simp only [cCellS, sizeL_const, t5]
    have d6 : cIntS w6 = cIntS (gt ys i).scene.lights := by simp only [cIntS, sizeL_const, t6]
    have d7 := t7
    have cz : cPainterE z = cPainterE (gt ys i) := by simp only [z, cPainterE, cGrid, cScene, d5, d6, d7]
    have key : (heldPainterE) z kk = kk + 1 + 1 + 1 + 1 + cCellS (gt ys i).scene.grid.cells + cIntS (gt ys i).scene.lights + cIntSS (gt ys i).scene.feet := by
      simp only [z, heldPainterE, hB, hI, hN, hS, if_true, u5, u6, u7]
      rw [if_neg (by omega)]
      rw [if_neg (by omega)]
      rw [if_neg (by omega)]
    have oa2 := put (K5 ++ (K6 ++ (K7))) ⟨[.bool z.up, .bool z.has, .int .i64 z.ver, .int .i64 z.scene.grid.wide, v_scene_grid_cells1, v_scene_lights1, v_scene_feet1], rfl⟩ z (painterO_mk (p := z) r5 (show w5.length ≤ 281474976710656 by omega) r6 (show w6.length ≤ 281474976710656 by omega) r7)
    have hp := hL_put (f := heldPainterE) hi4 hinv (by omega) key (by omega)
    have hsz2 := sizeL_put (c := cPainterE) (z := z) hi4
    have er : y4 = ry.set i ⟨[.bool z.up, .bool z.has, .int .i64 z.ver, .int .i64 z.scene.grid.wide, v_scene_grid_cells1, v_scene_lights1, v_scene_feet1], rfl⟩ := by simp only [e4, e3, e2, e1, List.set_set]; rfl
    exact ⟨(i + 1, kk + 1 + 1 + 1 + 1 + cCellS (gt ys i).scene.grid.cells + cIntS (gt ys i).scene.lights + cIntSS (gt ys i).scene.feet), by simp only; omega, ⟨rfl, rfl, trivial⟩, rfl, A4 ++ (B1 ++ ((K5 ++ (K6 ++ (K7))) ++ B2)), _, inferInstance, A4, _, y4, ys.set i z, rfl, by simp only; omega, by simpa using hl, z4, by rw [er]; exact oa2, drop_set_succ hd, by simp only; omega, by simp only; omega, hp⟩
  · refine sf_exit ?_
    repeat (first | refine R1 ?_ | (refine R2 ?_; intro _))
    rw [take_ge (by omega) (by omega)] at hinv hsz
    rw [take_ge (by omega) (by omega)] at hsz hkk
    refine sf_ret (rO (A0 ++ A1) ⟨ys, ?_, ⟨A0, A1, rfl, ry, g, oa, by omega⟩, hsz, ?_⟩)
    · rw [hkk]; rfl
    · have e : k + (cPainterS xs : Int) = kk := hkk.symm
      rw [e]; exact hinv
theorem markWordS_f (h : PHeap) (a : Value) (A : Own) (xs : List Word) (gr : GrR (wordR τ) A a 93 xs) (k : Int) (h0 : 0 ≤ k) (h1 : k + cWordS xs ≤ 4611686018427387904) : CallF Try.prog M 41 [a, .int .i64 k] A h fun v' A' => ∃ ys, v' = .int .i64 (k + cWordS xs) ∧ GrR (wordR τ) A' a 93 ys ∧ cWordS ys = cWordS xs ∧ heldWordS ys k = k + cWordS xs := by
  have o1 := gr.one
  obtain ⟨A0, A1, rfl, rx, g, oa, hs⟩ := gr
  have lx := oa.len
  refine calls_of_sf Try.func41 rfl Try.ntmps41 ?_
  simp only [argsL, Nat.reduceAdd]
  repeat (first | refine R1 ?_ | (refine R2 ?_; intro _))
  refine sf_lp (ι := Nat × Int) [0] (fun x => [(5, .int .i64 (x.1 : Int)), (1, .int .i64 x.2)]) (fun x O => ∃ A0 A1 ry ys, O = A0 ++ A1 ∧ x.1 ≤ xs.length ∧ ys.length = xs.length ∧ Gr A0 a 93 (rawF (wordR τ).sz) ry ∧ OAll (wordR τ) A1 ry ys ∧ ys.drop x.1 = xs.drop x.1 ∧ x.2 = k + sizeL cWordE (xs.take x.1) ∧ sizeL cWordE (ys.take x.1) = sizeL cWordE (xs.take x.1) ∧ hL (heldWordE) (ys.take x.1) k = x.2) (fun x => xs.length - x.1) (0, k) (A0 ++ A1) ⟨A0, A1, rx, xs, rfl, by simp, rfl, g, oa, rfl, by simp [sizeL], rfl, rfl⟩ ?_
  clear g oa lx rx A0 A1
  rintro ⟨i, kk⟩ O ⟨A0, A1, ry, ys, rfl, hi, hl, g, oa, hd, hkk, hsz, hinv⟩
  simp only at hi hd hkk hsz hinv ⊢
  have ly := oa.len
  repeat (first | refine R1 ?_ | (refine R2 ?_; intro _))
  refine sf_if (fun h4 => ?_) fun h4 => ?_
  · have hi4 : i < ys.length := by omega
    have hi5 : i < ry.length := by omega
    have hg := gt_drop (xs := xs) (by omega) hd
    have hst := sizeL_take (f := cWordE) (xs := xs) (k := i) (by omega)
    have hsp := sizeL_split (f := cWordE) xs (i + 1)
    have hcx : cWordS xs = sizeL cWordE xs := rfl
    rw [← hg] at hst
    obtain ⟨B1, Bk, B2, rfl, ok, put⟩ := oa.at hi4
    obtain ⟨v_grid_cells1, v_lights1, K_v_grid_cells1, K_v_lights1, ex, rfl, ⟨g_v_grid_cells1, l_v_grid_cells1⟩, ⟨g_v_lights1, l_v_lights1⟩⟩ := wordO ok
    have o_v_grid_cells1 := g_v_grid_cells1.one
    have o_v_lights1 := g_v_lights1.one
    haveI : FlatV (rawF (wordR τ).sz) (gt ry i) [.int .i64 (gt ys i).kind, .int .i64 (gt ys i).to, .int .i64 (gt ys i).frm, .int .i64 (gt ys i).ver, .int .i64 (gt ys i).grid.wide, v_grid_cells1, .int .i64 (gt ys i).edit.at', .int .i64 (gt ys i).edit.cell.kind, .int .i64 (gt ys i).edit.cell.light, v_lights1] := ⟨ex⟩
    have ce : cWordE (gt ys i) = cCellS (gt ys i).grid.cells + (cIntS (gt ys i).lights + 1 + 1 + 1) + 1 + 1 + 1 + 1 + 1 := rfl
    repeat (first | refine R1 ?_ | (refine R2 ?_; intro _))
    refine fp (y_storeG (by rfl) (by rfl) g (by omega) (by rfl) fun A1 y1 e1 m1 _ z1 => ?_)
    have hj1 : i < y1.length := by omega
    clear g
    repeat (first | refine R1 ?_ | (refine R2 ?_; intro _))
    refine fp (y_storeG (by rfl) (by rfl) z1 (by omega) (by rfl) fun A2 y2 e2 m2 _ z2 => ?_)
    have hj2 : i < y2.length := by omega
    clear z1
    repeat (first | refine R1 ?_ | (refine R2 ?_; intro _))
    refine fp (y_storeG (by rfl) (by rfl) z2 (by omega) (by rfl) fun A3 y3 e3 m3 _ z3 => ?_)
    have hj3 : i < y3.length := by omega
    clear z2
    repeat (first | refine R1 ?_ | (refine R2 ?_; intro _))
    refine fp (y_storeG (by rfl) (by rfl) z3 (by omega) (by rfl) fun A4 y4 e4 m4 _ z4 => ?_)
    have hj4 : i < y4.length := by omega
    clear z3
    repeat (first | refine R1 ?_ | (refine R2 ?_; intro _))
    refine fp (y_storeG (by rfl) (by rfl) z4 (by omega) (by rfl) fun A5 y5 e5 m5 _ z5 => ?_)
    have hj5 : i < y5.length := by omega
    clear z4
    repeat (first | refine R1 ?_ | (refine R2 ?_; intro _))
    refine fp (y_call (markCellS_f _ _ _ _ g_v_grid_cells1 l_v_grid_cells1 (kk + 1 + 1 + 1 + 1 + 1) (by omega) (by omega)) (by rfl) ?_)
    rintro _ K6 ⟨w6, rfl, r6, t6, u6⟩
    repeat (first | refine R1 ?_ | (refine R2 ?_; intro _))
    refine fp (y_storeG (by rfl) (by rfl) z5 (by omega) (by rfl) fun A7 y7 e7 m7 _ z7 => ?_)
    have hj7 : i < y7.length := by omega
    clear z5
    repeat (first | refine R1 ?_ | (refine R2 ?_; intro _))
    refine fp (y_storeG (by rfl) (by rfl) z7 (by omega) (by rfl) fun A8 y8 e8 m8 _ z8 => ?_)
    have hj8 : i < y8.length := by omega
    clear z7
    repeat (first | refine R1 ?_ | (refine R2 ?_; intro _))
    refine fp (y_storeG (by rfl) (by rfl) z8 (by omega) (by rfl) fun A9 y9 e9 m9 _ z9 => ?_)
    have hj9 : i < y9.length := by omega
    clear z8
    repeat (first | refine R1 ?_ | (refine R2 ?_; intro _))
    refine fp (y_call (markIntS_f _ _ _ _ g_v_lights1 l_v_lights1 (kk + 1 + 1 + 1 + 1 + 1 + cCellS (gt ys i).grid.cells + 1 + 1 + 1) (by omega) (by omega)) (by rfl) ?_)
    rintro _ K10 ⟨w10, rfl, r10, t10, u10⟩
    repeat (first | refine R1 ?_ | (refine R2 ?_; intro _))
    let z : Word := ⟨kk, kk + 1, kk + 1 + 1, kk + 1 + 1 + 1, ⟨kk + 1 + 1 + 1 + 1, w6⟩, ⟨kk + 1 + 1 + 1 + 1 + 1 + cCellS (gt ys i).grid.cells, ⟨kk + 1 + 1 + 1 + 1 + 1 + cCellS (gt ys i).grid.cells + 1, kk + 1 + 1 + 1 + 1 + 1 + cCellS (gt ys i).grid.cells + 1 + 1⟩⟩, w10⟩
    have d6 : cCellS w6 = cCellS (gt ys i).grid.cells := by simp only [cCellS, sizeL_const, t6]
    have d10 : cIntS w10 = cIntS (gt ys i).lights := by simp only [cIntS, sizeL_const, t10]
    have cz : cWordE z = cWordE (gt ys i) := by simp only [z, cWordE, cGrid, cScene, d6, d10]
    have key : (heldWordE) z kk = kk + 1 + 1 + 1 + 1 + 1 + cCellS (gt ys i).grid.cells + 1 + 1 + 1 + cIntS (gt ys i).lights := by
      simp only [z, heldWordE, hB, hI, hN, hS, if_true, u6, u10]
      rw [if_neg (by omega)]
      rw [if_neg (by omega)]
    have oa2 := put (K6 ++ (K10)) ⟨[.int .i64 z.kind, .int .i64 z.to, .int .i64 z.frm, .int .i64 z.ver, .int .i64 z.grid.wide, v_grid_cells1, .int .i64 z.edit.at', .int .i64 z.edit.cell.kind, .int .i64 z.edit.cell.light, v_lights1], rfl⟩ z (wordO_mk (w := z) r6 (show w6.length ≤ 281474976710656 by omega) r10 (show w10.length ≤ 281474976710656 by omega))
    have hp := hL_put (f := heldWordE) hi4 hinv (by omega) key (by omega)
    have hsz2 := sizeL_put (c := cWordE) (z := z) hi4
    have er : y9 = ry.set i ⟨[.int .i64 z.kind, .int .i64 z.to, .int .i64 z.frm, .int .i64 z.ver, .int .i64 z.grid.wide, v_grid_cells1, .int .i64 z.edit.at', .int .i64 z.edit.cell.kind, .int .i64 z.edit.cell.light, v_lights1], rfl⟩ := by simp only [e9, e8, e7, e5, e4, e3, e2, e1, List.set_set]; rfl
    exact ⟨(i + 1, kk + 1 + 1 + 1 + 1 + 1 + cCellS (gt ys i).grid.cells + 1 + 1 + 1 + cIntS (gt ys i).lights), by simp only; omega, ⟨rfl, rfl, trivial⟩, rfl, A9 ++ (B1 ++ ((K6 ++ (K10)) ++ B2)), _, inferInstance, A9, _, y9, ys.set i z, rfl, by simp only; omega, by simpa using hl, z9, by rw [er]; exact oa2, drop_set_succ hd, by simp only; omega, by simp only; omega, hp⟩
  · refine sf_exit ?_
    repeat (first | refine R1 ?_ | (refine R2 ?_; intro _))
    rw [take_ge (by omega) (by omega)] at hinv hsz
    rw [take_ge (by omega) (by omega)] at hsz hkk
    refine sf_ret (rO (A0 ++ A1) ⟨ys, ?_, ⟨A0, A1, rfl, ry, g, oa, by omega⟩, hsz, ?_⟩)
    · rw [hkk]; rfl
    · have e : k + (cWordS xs : Int) = kk := hkk.symm
      rw [e]; exact hinv
theorem markWorld_f (h : PHeap) (A : Own) (ca : List Value) (x : World') (b : (worldR τ).O A ca x) (k : Int) (h0 : 0 ≤ k) (h1 : k + cWorld x ≤ 4611686018427387904) : CallF Try.prog M 17 [.agg ca.toArray, .int .i64 k] A h fun v' A' => ∃ y, v' = .int .i64 (k + cWorld x) ∧ (worldR τ).O A' ca y ∧ cWorld y = cWorld x ∧ heldWorld y k = k + cWorld x := by
  obtain ⟨v_keeper_first_cells1, v_keeper_edits1, v_keeper_parts1, v_keeper_shown1, v_painters1, v_nets1, K_v_keeper_first_cells1, K_v_keeper_edits1, K_v_keeper_parts1, K_v_keeper_shown1, K_v_painters1, K_v_nets1, rfl, rfl, ⟨g_v_keeper_first_cells1, l_v_keeper_first_cells1⟩, ⟨g_v_keeper_edits1, l_v_keeper_edits1⟩, g_v_keeper_parts1, g_v_keeper_shown1, g_v_painters1, g_v_nets1⟩ := worldO b
  have o_v_keeper_first_cells1 := g_v_keeper_first_cells1.one
  have o_v_keeper_edits1 := g_v_keeper_edits1.one
  have o_v_keeper_parts1 := g_v_keeper_parts1.one
  have o_v_keeper_shown1 := g_v_keeper_shown1.one
  have o_v_painters1 := g_v_painters1.one
  have o_v_nets1 := g_v_nets1.one
  have hc : cWorld x = cKeeper x.keeper + (cPainterS x.painters + cWordS x.nets) := rfl
  refine calls_of_sf Try.func17 rfl Try.ntmps17 ?_
  simp only [argsL, Nat.reduceAdd]
  repeat (first | refine R1 ?_ | (refine R2 ?_; intro _))
  refine fp (y_call (markKeeper_f _ _ _ x.keeper (keeperO_mk g_v_keeper_first_cells1 l_v_keeper_first_cells1 g_v_keeper_edits1 l_v_keeper_edits1 g_v_keeper_parts1 g_v_keeper_shown1) (k) (by omega) (by omega)) (by rfl) ?_)
  rintro _ K1 ⟨w1, rfl, r1, t1, u1⟩
  repeat (first | refine R1 ?_ | (refine R2 ?_; intro _))
  refine fp (y_call (markPainterS_f _ _ _ _ g_v_painters1 (k + cKeeper x.keeper) (by omega) (by omega)) (by rfl) ?_)
  rintro _ K2 ⟨w2, rfl, r2, t2, u2⟩
  repeat (first | refine R1 ?_ | (refine R2 ?_; intro _))
  refine fp (y_call (markWordS_f _ _ _ _ g_v_nets1 (k + cKeeper x.keeper + cPainterS x.painters) (by omega) (by omega)) (by rfl) ?_)
  rintro _ K3 ⟨w3, rfl, r3, t3, u3⟩
  repeat (first | refine R1 ?_ | (refine R2 ?_; intro _))
  obtain ⟨vv1_v_first_cells2, vv1_v_edits2, vv1_v_parts2, vv1_v_shown2, KK1_v_first_cells2, KK1_v_edits2, KK1_v_parts2, KK1_v_shown2, ee1, rfl, ⟨gg1_v_first_cells2, ll1_v_first_cells2⟩, ⟨gg1_v_edits2, ll1_v_edits2⟩, gg1_v_parts2, gg1_v_shown2⟩ := keeperO r1
  simp only [List.cons.injEq, and_true] at ee1
  obtain ⟨ef1_0, ef1_1, ef1_2, ef1_3, ef1_4⟩ := ee1
  subst ef1_1
  subst ef1_2
  subst ef1_3
  subst ef1_4
  have d1 := t1
  have d2 := t2
  have d3 := t3
  let y : World' := ⟨w1, w2, w3⟩
  have oy : (worldR τ).O (KK1_v_first_cells2 ++ (KK1_v_edits2 ++ (KK1_v_parts2 ++ (KK1_v_shown2 ++ (K2 ++ (K3)))))) _ y := worldO_mk (w := y) gg1_v_first_cells2 ll1_v_first_cells2 gg1_v_edits2 ll1_v_edits2 gg1_v_parts2 gg1_v_shown2 r2 r3
  refine sf_ret (rO (KK1_v_first_cells2 ++ (KK1_v_edits2 ++ (KK1_v_parts2 ++ (KK1_v_shown2 ++ (K2 ++ (K3)))))) ⟨y, ?_, ?_, ?_, ?_⟩)
  · exact congrArg (Value.int .i64) (by omega)
  · rw [ef1_0]; exact oy
  · simp only [y, cWorld, d1, d2, d3]
  · simp only [y, heldWorld, hS, hN, u1, u2, u3]
    rw [if_neg (by omega)]
    rw [if_neg (by omega)]
    rw [if_neg (by omega)]
    omega
end Go.Proofs.Ytcefbjpebgofjaa

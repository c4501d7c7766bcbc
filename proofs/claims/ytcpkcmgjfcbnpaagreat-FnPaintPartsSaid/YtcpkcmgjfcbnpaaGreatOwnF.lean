/- Walks of the seat: ZF. -/
import Derived.Test.YtcpkcmgjfcbnpaaGreatOwnD
import Derived.Test.YtcpkcmgjfcbnpaaGreatOwnE
import Derived.Test.YtcpkcmgjfcbnpaaGreatLibG
import Derived.Test.YtcpkcmgjfcbnpaaGreatLibF
import Derived.Test.YtcpkcmgjfcbnpaaGreatLibJ
set_option linter.unusedVariables false
set_option linter.unusedSimpArgs false
set_option linter.unusedSectionVars false
namespace Go.Proofs.YtcpkcmgjfcbnpaaGreat
open Go Go.Sl
set_option maxRecDepth 100000
set_option maxHeartbeats 4000000
attribute [local irreducible] Go.Code.sf sfOps Opq opo retF Do1 anyO
variable {M : Jdg → Prop} [IsCl Tryz.prog M]
theorem paintParts_law [al : Alone Tryz.prog M] (h : PHeap) (v : Value) (xs : List (Fin 256)) (s : Sl h v u8F xs) : ∃ c, Tryz.f3.body = some c ∧ c.sf Tryz.prog M Tryz.f3.ntmps (retF Tryz.prog Tryz.f3 Tryz.f3.ntmps (fun v _ => v = .bool true) fun _ _ => False) (argsL 0 [v]) [] h := by
  have o1 := s.one
  have hsm := s.small
  refine ⟨_, rfl, ?_⟩
  rw [Tryz.ntmps3]
  simp only [argsL, Nat.reduceAdd]
  repeat first | refine R1 ?_ | refine R2 fun _ => ?_
  refine sf_if (fun e => ?_) fun e => ?_
  · repeat first | refine R1 ?_ | refine R2 fun _ => ?_
    exact sf_ret (rO [] rfl)
  repeat first | refine R1 ?_ | refine R2 fun _ => ?_
  refine fp (y_call (drawPaintTell_f _ v xs s) (by rfl) ?_)
  rintro _ A ⟨p, cs, z, m, rfl, dp, z0, z1, m0, m1⟩
  have dp0 := dp
  obtain ⟨c, l, f, rfl, u1, u2, u3⟩ := painterX dp0.own
  repeat first | refine R1o ?_ | refine R2 fun _ => ?_
  refine sf_nil ?_
  show Code.sf _ _ _ _ _ _ _ _
  refine sf_fz A fun h1 le1 i1 => ?_
  have b0 := (painterR τ).lent dp.own i1
  have hsz := dp.size
  clear dp0
  repeat first | refine R1 ?_ | refine R2 fun _ => ?_
  refine fp (y_call (sPaintTell_f _ _ p b0 z m) (by rfl) ?_)
  rintro _ A1 ⟨cs1, rfl, q1⟩
  have q10 := q1
  obtain ⟨c1, l1, rfl, w1, w1'⟩ := wordX q1
  repeat first | refine R1o ?_ | refine R2 fun _ => ?_
  refine sf_nil ?_
  show Code.sf _ _ _ _ _ _ _ _
  refine sf_fz A1 fun h2 le2 i2 => ?_
  have g10 := (wordR τ).lent q10 i2
  have b2 := (painterR τ).up le2 b0
  repeat first | refine R1 ?_ | refine R2 fun _ => ?_
  refine fp (y_call (paintTell_f _ _ p b2 z m) (by rfl) ?_)
  rintro _ A2 ⟨cs2, rfl, q2⟩
  have q20 := q2
  obtain ⟨c2, l2, rfl, w2, w2'⟩ := wordX q2
  repeat first | refine R1o ?_ | refine R2 fun _ => ?_
  refine sf_nil ?_
  show Code.sf _ _ _ _ _ _ _ _
  refine sf_fz A2 fun h3 le3 i3 => ?_
  have g20 := (wordR τ).lent q20 i3
  have b3 := (painterR τ).up le3 b2
  have g13 := (wordR τ).up le3 g10
  clear q1 q10 q2 q20 b0 b2 g10 dp
  by_cases hk : paintOk p = true ∧ idOk z m = true ∧ p.up = true
  · obtain ⟨hok, hid, hup⟩ := hk
    have hid' : 1 ≤ m ∧ m ≤ 3 ∧ 1 ≤ z ∧ z ≤ m := by simpa [idOk, and_assoc] using hid
    rcases Bool.eq_false_or_eq_true p.has with hph | hph
    · obtain ⟨z, rfl⟩ : ∃ i : Nat, z = i := ⟨z.toNat, by omega⟩
      obtain ⟨m, rfl⟩ : ∃ j : Nat, m = j := ⟨m.toNat, by omega⟩
      have ek := fun i (h1 : 1 ≤ i) (h2 : i ≤ m) => paintTell_has hok hph (i := i) (m := m) h1 h2 (by omega)
      have gk := (sceneOk_is (paintOk_has hok hph).2.2.2).1
      have hpl := painter_lights hok hph
      have hmm := (gok gk).many
      rw [ek z (by omega) (by omega)] at g13 g20 ⊢
      simp only [wordCs] at g13 g20 ⊢
      obtain ⟨c7, l7, ec, sw, tw⟩ := wordB g20
      simp only [wordCs, List.cons.injEq, and_true, true_and] at ec
      obtain ⟨rfl, rfl⟩ := ec
      obtain ⟨c8, l8, f8, ec, s1, s2, s3⟩ := painterB b3
      simp only [List.cons.injEq, and_true, true_and] at ec
      obtain ⟨rfl, rfl, rfl⟩ := ec
      rw [hph] at b3 ⊢
      repeat first | refine R1 ?_ | refine R2 fun _ => ?_
      refine Xv (llWordP_s _ _ _ _ g20 g13) ?_
      repeat first | refine R1 ?_ | refine R2 fun _ => ?_
      refine sf_cond (by rfl) (fun z => by cases z) fun _ => ?_
      repeat first | refine R1 ?_ | refine R2 fun _ => ?_
      refine fp (y_make (kl := p.scene.lights.length) (by rfl) (by rfl) (by rfl) (by decide) (by omega) fun av AA g0 => ?_)
      have oo := g0.one
      rw [← toldTill_zero p.scene.lights m] at g0
      repeat first | refine R1 ?_ | refine R2 fun _ => ?_
      refine sf_ry (ι := Nat) [3, 5, 10] (fun i => [(12, .int .i64 ((i + 1 : Nat) : Int)), (11, .int .i64 ((ownSum p.scene.lights.length m i : Nat) : Int))]) (fun i A => i ≤ m ∧ Gr A av 3 intF (toldTill p.scene.lights m i 0)) (fun i => m - i) 0 AA ⟨by omega, g0⟩ ?_
      clear g0
      rintro i A ⟨hi, g0⟩
      try simp only
      repeat first | refine R1 ?_ | refine R2 fun _ => ?_
      refine sf_if (fun h5 => ?_) fun h5 => ?_
      · have hi5 : i < m := by omega
        have pt := paintTell_f (M := M) h3 _ p b3 ((i + 1 : Nat) : Int) (m : Int)
        rw [ek (i + 1) (by omega) (by omega)] at pt
        repeat first | refine R1 ?_ | refine R2 fun _ => ?_
        refine fp (y_call pt (by rfl) ?_)
        rintro _ A4 ⟨cs4, rfl, q4⟩
        obtain ⟨c4, l4, B1, B2, rfl, rfl, ⟨gc, _⟩, ⟨gl, hll⟩⟩ := wordO q4
        simp only [wordCs] at gc gl hll ⊢
        have o4 := gc.one
        have o5 := gl.one
        repeat first | refine R1 ?_ | refine R2 fun _ => ?_
        refine fp (y_call (paintOwn_f (M := M) _ _ p.scene.grid (gridB_mk s1) gk (i + 1) m (by omega) (by omega) (by omega)) (by rfl) ?_)
        intro vo Ao go
        have oo := go.one
        have hl1 := ownList_len (manyOf p.scene.grid).toNat m (i + 1)
        have hl2 := ownLights_len p.scene.lights (manyOf p.scene.grid).toNat m (i + 1)
        have hcl := ownCnt_le (manyOf p.scene.grid).toNat (m := m) (i := i + 1) (by omega) (by omega) (by omega)
        have hsl := ownSum_le p.scene.lights.length (m := m) (by omega) (by omega) i (by omega)
        have hss : ownSum p.scene.lights.length m (i + 1) = ownSum p.scene.lights.length m i + ownCnt (manyOf p.scene.grid).toNat m (i + 1) := by rw [← hpl]; rfl
        have hnx := toldTill_next p.scene.lights hi5 (by omega)
        rw [hpl] at hnx
        have hat : ∀ k, k < ownCnt (manyOf p.scene.grid).toNat m (i + 1) → gt (ownLights p.scene.lights (manyOf p.scene.grid).toNat m (i + 1)) k = gt p.scene.lights (i + k * m) ∧ gt (ownList (manyOf p.scene.grid).toNat m (i + 1)) k = ((i + k * m : Nat) : Int) ∧ i + k * m < p.scene.lights.length := fun k hk => by
          have h1 := (ownCnt_lt (by omega) (by omega) (by omega)).1 hk
          rw [ownLights_at hk, ownList_at hk, hpl]
          simp only [Nat.add_sub_cancel] at h1 ⊢
          exact ⟨trivial, trivial, h1⟩
        generalize ownCnt (manyOf p.scene.grid).toNat m (i + 1) = cn at *
        generalize ownList (manyOf p.scene.grid).toNat m (i + 1) = xs at *
        generalize ownLights p.scene.lights (manyOf p.scene.grid).toNat m (i + 1) = ls at *
        repeat first | refine R1 ?_ | refine R2 fun _ => ?_
        refine sf_if (fun h6 => ?_) fun h6 => ?_
        · omega
        repeat first | refine R1 ?_ | refine R2 fun _ => ?_
        refine sf_ry (ι := Nat) [3, 5, 10, 12, 13, 15] (fun j => [(16, .int .i64 (j : Int)), (11, .int .i64 ((ownSum p.scene.lights.length m i + j : Nat) : Int))]) (fun j A => j ≤ cn ∧ Gr A av 3 intF (toldTill p.scene.lights m i j)) (fun j => cn - j) 0 A ⟨by omega, g0⟩ ?_
        clear g0
        rintro j A' ⟨hj, g0⟩
        try simp only
        have htl := toldTill_len p.scene.lights m i j
        repeat first | refine R1 ?_ | refine R2 fun _ => ?_
        refine sf_if (fun h7 => ?_) fun h7 => ?_
        · have hj7 : j < cn := by omega
          obtain ⟨e1, e2, e3⟩ := hat j hj7
          have hj8 : j < xs.length := by omega
          have hj9 : j < ls.length := by omega
          have e4 : ¬ gt xs j < 0 := by omega
          have e5 : ¬ gt xs j ≥ ((toldTill p.scene.lights m i j).length : Int) := by omega
          repeat first | refine R1 ?_ | refine R2 fun _ => ?_ | refine fp (Rq ?_ (z_indexGI (by rfl) (by rfl) (by assumption) (by omega) (by omega)))
          rw [decide_eq_false e4]
          repeat first | refine R1 ?_ | refine R2 fun _ => ?_ | refine fp (Rq ?_ (z_indexGI (by rfl) (by rfl) (by assumption) (by omega) (by omega)))
          refine sf_if (fun z => absurd z e5) fun _ => ?_
          repeat first | refine R1 ?_ | refine R2 fun _ => ?_ | refine fp (Rq ?_ (z_indexGI (by rfl) (by rfl) (by assumption) (by omega) (by omega)))
          refine Sd [[],[],[],[1,2],[1,2,3],[],[5],[],[5,6,7],[5,6,7,8],[0,1,2,3,4,5,6,7,8,9],[0,1,2,3,4,5,6,7,8,9,10]] 10 [Nn 0,Nn 1,Nn 2,Nn 3,Nn 4,Nn 5,Nn 6,Nn 7,Nn 8,Nn 9] ?_
          refine Di ?_
          refine Ae ?_
          repeat first | refine R1 ?_ | refine R2 fun _ => ?_ | refine fp (Rq ?_ (z_indexGI (by rfl) (by rfl) (by assumption) (by omega) (by omega)))
          try simp only [e2]
          refine fp (y_storeG0 (j := i + j * m) (sz := 1) (by rfl) (by rfl) g0 (by omega) (by rfl) fun A2 ys ey ly _ g2 => ?_)
          rw [e1] at ey
          obtain rfl := ey.trans (toldTill_step p.scene.lights hi5)
          repeat first | refine R1 ?_ | refine R2 fun _ => ?_
          exact ⟨j + 1, by omega, ⟨by rfl, by rfl, trivial⟩, rfl, A2, _, inferInstance, by omega, g2⟩
        · refine sf_exit ?_
          obtain rfl : j = cn := by omega
          rw [hnx] at g0
          repeat first | refine R1 ?_ | refine R2 fun _ => ?_
          refine ⟨i + 1, by omega, ⟨by rfl, ?_, trivial⟩, rfl, A', _, inferInstance, by omega, g0⟩
          rw [hss]; rfl
      · refine sf_exit ?_
        obtain rfl : i = m := by omega
        rw [toldTill_end _ (by omega)] at g0
        have hal := ownSum_all p.scene.lights.length (m := i) (by omega) (by omega)
        rw [hal]
        repeat first | refine R1 ?_ | refine R2 fun _ => ?_
        rw [decide_eq_true (rfl : (p.scene.lights.length : Int) = (p.scene.lights.length : Int))]
        repeat first | refine R1 ?_ | refine R2 fun _ => ?_
        refine fp (y_lendV A (fun h' l' i => llInts_v h' _ _ _ _ (g0.lent (by omega) i) (s2.le l'.le)) (by rfl) ?_)
        rw [decide_eq_true (rfl : p.scene.lights = p.scene.lights)]
        repeat first | refine R1 ?_ | refine R2 fun _ => ?_
        exact sf_ret (rO [] rfl)
    · have ek : paintTell p z m = (⟨4, 0, z, 0, noGrid, noEdit, []⟩, true) := by rw [paintTell, if_pos ⟨hok, hid⟩, paintTold, if_neg (by rw [hup]; simp), if_pos hph]
      rw [ek] at g13 g20 ⊢
      simp only [wordCs] at g13 g20 ⊢
      rw [hph] at b3 ⊢
      repeat first | refine R1 ?_ | refine R2 fun _ => ?_
      refine Xv (llWordP_s _ _ _ _ g20 g13) ?_
      repeat first | refine R1 ?_ | refine R2 fun _ => ?_
      refine sf_cond (by rfl) (fun _ => ?_) fun z => by cases z
      repeat first | refine R1 ?_ | refine R2 fun _ => ?_
      refine Xv (llWordP_s _ _ _ _ g20 g13) ?_
      repeat first | refine R1 ?_ | refine R2 fun _ => ?_
      exact sf_ret (rO [] rfl)
  · have hf : paintTell p z m = (noWord, false) := by
      unfold paintTell paintTold
      (repeat' split) <;> simp_all
    rw [hf] at g13 g20 ⊢
    simp only at g13 g20 ⊢
    repeat first | refine R1 ?_ | refine R2 fun _ => ?_
    refine Xv (llWordP_s _ _ _ _ g20 g13) ?_
    repeat first | refine R1 ?_ | refine R2 fun _ => ?_
    refine sf_cond (by rfl) (fun _ => ?_) fun z => by cases z
    repeat first | refine R1 ?_ | refine R2 fun _ => ?_
    refine Xv (llWordP_s _ _ _ _ g20 g13) ?_
    repeat first | refine R1 ?_ | refine R2 fun _ => ?_
    exact sf_ret (rO [] rfl)
end Go.Proofs.YtcpkcmgjfcbnpaaGreat

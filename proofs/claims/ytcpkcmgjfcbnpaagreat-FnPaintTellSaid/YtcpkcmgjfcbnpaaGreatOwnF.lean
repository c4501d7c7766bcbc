/- Walks of the seat: ZE. -/
import Derived.Test.YtcpkcmgjfcbnpaaGreatOwnD
import Derived.Test.YtcpkcmgjfcbnpaaGreatOwnE
import Derived.Test.YtcpkcmgjfcbnpaaGreatLibG
import Derived.Test.YtcpkcmgjfcbnpaaGreatLibF
import Derived.Test.YtcpkcmgjfcbnpaaGreatLibJ
set_option linter.unusedVariables false
set_option linter.unusedSimpArgs false
set_option linter.unusedSectionVars false
namespace Go.Proofs.YtcpkcmgjfcbnpaaGreat
open Go Go.Sl
set_option maxRecDepth 100000
set_option maxHeartbeats 4000000
attribute [local irreducible] Go.Code.sf sfOps Opq opo retF Do1 anyO
variable {M : Jdg → Prop} [IsCl Tryz.prog M]
theorem paintTell_law [al : Alone Tryz.prog M] (h : PHeap) (v : Value) (xs : List (Fin 256)) (s : Sl h v u8F xs) : ∃ c, Tryz.f4.body = some c ∧ c.sf Tryz.prog M Tryz.f4.ntmps (retF Tryz.prog Tryz.f4 Tryz.f4.ntmps (fun v _ => v = .bool true) fun _ _ => False) (argsL 0 [v]) [] h := by
  have o1 := s.one
  have hsm := s.small
  refine ⟨_, rfl, ?_⟩
  rw [Tryz.ntmps4]
  simp only [argsL, Nat.reduceAdd]
  repeat first | refine R1 ?_ | refine R2 fun _ => ?_
  refine sf_if (fun e => ?_) fun e => ?_
  · repeat first | refine R1 ?_ | refine R2 fun _ => ?_
    exact sf_ret (rO [] rfl)
  repeat first | refine R1 ?_ | refine R2 fun _ => ?_
  refine fp (y_call (drawPaintTell_f _ v xs s) (by rfl) ?_)
  rintro _ A ⟨p, cs, z, m, rfl, dp, z0, z1, m0, m1⟩
  have dp0 := dp
  obtain ⟨c, l, f, rfl, u1, u2, u3⟩ := painterX dp0.own
  repeat first | refine R1o ?_ | refine R2 fun _ => ?_
  refine sf_nil ?_
  show Code.sf _ _ _ _ _ _ _ _
  refine sf_fz A fun h1 le1 i1 => ?_
  have b0 := (painterR τ).lent dp.own i1
  have hsz := dp.size
  clear dp0
  repeat first | refine R1 ?_ | refine R2 fun _ => ?_
  refine fp (y_call (sPaintTell_f _ _ p b0 z m) (by rfl) ?_)
  rintro _ A1 ⟨cs1, rfl, q1⟩
  have q10 := q1
  obtain ⟨c1, l1, rfl, w1, w1'⟩ := wordX q1
  repeat first | refine R1o ?_ | refine R2 fun _ => ?_
  refine sf_nil ?_
  show Code.sf _ _ _ _ _ _ _ _
  refine sf_fz A1 fun h2 le2 i2 => ?_
  have g10 := (wordR τ).lent q10 i2
  have b2 := (painterR τ).up le2 b0
  repeat first | refine R1 ?_ | refine R2 fun _ => ?_
  refine fp (y_call (paintTell_f _ _ p b2 z m) (by rfl) ?_)
  rintro _ A2 ⟨cs2, rfl, q2⟩
  have q20 := q2
  obtain ⟨c2, l2, rfl, w2, w2'⟩ := wordX q2
  repeat first | refine R1o ?_ | refine R2 fun _ => ?_
  refine sf_nil ?_
  show Code.sf _ _ _ _ _ _ _ _
  refine sf_fz A2 fun h3 le3 i3 => ?_
  have g20 := (wordR τ).lent q20 i3
  have b3 := (painterR τ).up le3 b2
  have g13 := (wordR τ).up le3 g10
  clear q1 q10 q2 q20 b0 b2 g10 dp
  by_cases hk : paintOk p = true ∧ idOk z m = true ∧ p.up = true
  · obtain ⟨hok, hid, hup⟩ := hk
    have hid' : 1 ≤ m ∧ m ≤ 3 ∧ 1 ≤ z ∧ z ≤ m := by simpa [idOk, and_assoc] using hid
    rcases Bool.eq_false_or_eq_true p.has with hph | hph
    · obtain ⟨i, rfl⟩ : ∃ i : Nat, z = i := ⟨z.toNat, by omega⟩
      obtain ⟨m, rfl⟩ : ∃ j : Nat, m = j := ⟨m.toNat, by omega⟩
      have ek := paintTell_has hok hph (i := i) (m := m) (by omega) (by omega) (by omega)
      have gk := (sceneOk_is (paintOk_has hok hph).2.2.2).1
      have hpl := painter_lights hok hph
      have hlt := fun k => painter_light hok hph (k := k)
      have hmm := (gok gk).many
      rw [ek] at g13 g20 ⊢
      simp only [wordCs] at g13 g20 ⊢
      obtain ⟨c7, l7, ec, sw, tw⟩ := wordB g20
      simp only [wordCs, List.cons.injEq, and_true, true_and] at ec
      obtain ⟨rfl, rfl⟩ := ec
      simp only at sw tw
      obtain ⟨c8, l8, f8, ec, s1, s2, s3⟩ := painterB b3
      simp only [List.cons.injEq, and_true, true_and] at ec
      obtain ⟨rfl, rfl, rfl⟩ := ec
      rw [hph, hup] at b3 ⊢
      repeat first | refine R1 ?_ | refine R2 fun _ => ?_
      refine Xv (llWordP_s _ _ _ _ g20 g13) ?_
      repeat first | refine R1 ?_ | refine R2 fun _ => ?_
      refine sf_cond (by rfl) (fun z => by cases z) fun _ => ?_
      repeat first | refine R1 ?_ | refine R2 fun _ => ?_
      refine sf_cond (by rfl) (fun z => by cases z) fun _ => ?_
      repeat first | refine R1 ?_ | refine R2 fun _ => ?_
      refine fp (y_call (paintOwn_f (M := M) _ _ p.scene.grid (gridB_mk s1) gk i m (by omega) (by omega) (by omega)) (by rfl) ?_)
      intro vo Ao go
      have oo := go.one
      have hl1 := ownList_len (manyOf p.scene.grid).toNat m i
      have hl2 := ownLights_len p.scene.lights (manyOf p.scene.grid).toNat m i
      have hcl := ownCnt_le (manyOf p.scene.grid).toNat (m := m) (i := i) (by omega) (by omega) (by omega)
      have hat : ∀ k, k < ownCnt (manyOf p.scene.grid).toNat m i → gt (ownLights p.scene.lights (manyOf p.scene.grid).toNat m i) k = trailLight p.scene.grid (gt (ownList (manyOf p.scene.grid).toNat m i) k) ∧ 0 ≤ gt (ownList (manyOf p.scene.grid).toNat m i) k ∧ gt (ownList (manyOf p.scene.grid).toNat m i) k < manyOf p.scene.grid := fun k hk => by
        have h1 := (ownCnt_lt (by omega) (by omega) (by omega)).1 hk
        rw [ownLights_at hk, ownList_at hk, hlt _ h1]
        exact ⟨rfl, by omega, by omega⟩
      repeat first | refine R1o ?_ | refine R2 fun _ => ?_
      refine sf_nil ?_
      show Code.sf _ _ _ _ _ _ _ _
      refine sf_fz Ao fun h4 le4 i4 => ?_
      have so := go.lent (by omega) i4
      have tw4 := tw.le le4.le
      have s14 := s1.le le4.le
      clear go
      generalize ownList (manyOf p.scene.grid).toNat m i = xs at *
      generalize ownLights p.scene.lights (manyOf p.scene.grid).toNat m i = ls at *
      repeat first | refine R1 ?_ | refine R2 fun _ => ?_
      refine sf_rd [3, 4, 8, 10] 11 xs.length 0 (fun _ => True) (by omega) trivial (fun k hk _ => ?_)
      repeat first | refine R1 ?_ | refine R2 fun _ => ?_
      refine sf_if (fun h5 => ?_) fun h5 => ?_
      · have hk5 : k < xs.length := by omega
        have hk6 : k < ls.length := by omega
        obtain ⟨e1, e2, e3⟩ := hat k (by omega)
        have tl := trailLight_v (M := M) h4 _ p.scene.grid s14 gk (gt xs k) ⟨e2, e3⟩
        repeat first | refine R1 ?_ | refine R2 fun _ => ?_
        refine Sd [[],[0],[],[0,1,2],[0,1,2,3],[],[5],[5,6],[],[],[8,9],[8,9,10],[5,6,7,8,9,10,11],[0,1,2,3,4,5,6,7,8,9,10,11,12]] 13 [Nn 0,Nn 1,Nn 2,Nn 3,Nn 4,Nn 5,Nn 6,Nn 7,Nn 8,Nn 9,Nn 10,Nn 11,Yy 12] ?_
        refine Da ?_
        refine Yv tl ?_
        refine Da ?_
        refine Ae ?_
        repeat first | refine R1 ?_ | refine R2 fun _ => ?_
        refine sf_if (fun e => absurd e1 e) fun e => ?_
        repeat first | refine R1 ?_ | refine R2 fun _ => ?_
        exact ⟨⟨hk5, trivial⟩, rfl, rfl, _, inferInstance⟩
      · refine sf_exit ?_
        repeat first | refine R1 ?_ | refine R2 fun _ => ?_
        rw [decide_eq_true (rfl : (i : Int) = (i : Int))]
        repeat first | refine R1 ?_ | refine R2 fun _ => ?_
        rw [decide_eq_true (rfl : p.ver = p.ver)]
        repeat first | refine R1 ?_ | refine R2 fun _ => ?_
        rw [decide_eq_true (show (xs.length : Int) = (ls.length : Int) by omega)]
        repeat first | refine R1 ?_ | refine R2 fun _ => ?_
        exact sf_ret (rO [] rfl)
    · have ek : paintTell p z m = (⟨4, 0, z, 0, noGrid, noEdit, []⟩, true) := by rw [paintTell, if_pos ⟨hok, hid⟩, paintTold, if_neg (by rw [hup]; simp), if_pos hph]
      rw [ek] at g13 g20 ⊢
      simp only [wordCs] at g13 g20 ⊢
      rw [hph] at b3 ⊢
      repeat first | refine R1 ?_ | refine R2 fun _ => ?_
      refine Xv (llWordP_s _ _ _ _ g20 g13) ?_
      repeat first | refine R1 ?_ | refine R2 fun _ => ?_
      refine sf_cond (by rfl) (fun z => by cases z) fun _ => ?_
      repeat first | refine R1 ?_ | refine R2 fun _ => ?_
      refine sf_cond (by rfl) (fun _ => ?_) fun z => by cases z
      repeat first | refine R1 ?_ | refine R2 fun _ => ?_
      rw [decide_eq_true (rfl : z = z)]
      repeat first | refine R1 ?_ | refine R2 fun _ => ?_
      exact sf_ret (rO [] rfl)
  · have hf : paintTell p z m = (noWord, false) := by
      unfold paintTell paintTold
      (repeat' split) <;> simp_all
    rw [hf] at g13 g20 ⊢
    simp only at g13 g20 ⊢
    repeat first | refine R1 ?_ | refine R2 fun _ => ?_
    refine Xv (llWordP_s _ _ _ _ g20 g13) ?_
    repeat first | refine R1 ?_ | refine R2 fun _ => ?_
    refine sf_cond (by rfl) (fun _ => ?_) fun z => by cases z
    repeat first | refine R1 ?_ | refine R2 fun _ => ?_
    refine Xv (llWordP_s _ _ _ _ g20 g13) ?_
    repeat first | refine R1 ?_ | refine R2 fun _ => ?_
    exact sf_ret (rO [] rfl)
end Go.Proofs.YtcpkcmgjfcbnpaaGreat

/- Walks of the seat: ZD. -/
import Derived.Test.YtcpkcmgjfcbnpaaGreatOwnE
import Derived.Test.YtcpkcmgjfcbnpaaGreatOwnG
import Derived.Test.YtcpkcmgjfcbnpaaGreatOwnD
import Derived.Test.YtcpkcmgjfcbnpaaGreatLibJ
set_option linter.unusedVariables false
set_option linter.unusedSimpArgs false
set_option linter.unusedSectionVars false
namespace Go.Proofs.YtcpkcmgjfcbnpaaGreat
open Go Go.Sl
set_option maxRecDepth 100000
set_option maxHeartbeats 4000000
attribute [local irreducible] Go.Code.sf sfOps Opq opo retF Do1 anyO
variable {M : Jdg → Prop} [IsCl Tryz.prog M]
theorem sceneX {A : Own} {cs : List Value} {s : Scene} (b : (sceneR τ).O A cs s) : ∃ c l f, cs = [.int .i64 s.grid.wide, c, l, f] ∧ Sl.One c ∧ Sl.One l ∧ Sl.One f := by
  obtain ⟨c, l, f, _, _, _, e, -, ⟨g1, -⟩, ⟨g2, -⟩, g3⟩ := sceneO b
  exact ⟨c, l, f, e, g1.one, g2.one, g3.one⟩
theorem paintHear_law [al : Alone Tryz.prog M] (h : PHeap) (v : Value) (xs : List (Fin 256)) (s : Sl h v u8F xs) : ∃ c, Tryz.f5.body = some c ∧ c.sf Tryz.prog M Tryz.f5.ntmps (retF Tryz.prog Tryz.f5 Tryz.f5.ntmps (fun v _ => v = .bool true) fun _ _ => False) (argsL 0 [v]) [] h := by
  have o1 := s.one
  have hsm := s.small
  refine ⟨_, rfl, ?_⟩
  rw [Tryz.ntmps5]
  simp only [argsL, Nat.reduceAdd]
  repeat first | refine R1 ?_ | refine R2 fun _ => ?_
  refine sf_if (fun e => ?_) fun e => ?_
  · repeat first | refine R1 ?_ | refine R2 fun _ => ?_
    exact sf_ret (rO [] rfl)
  repeat first | refine R1 ?_ | refine R2 fun _ => ?_
  refine fp (y_call (drawPaintHear_f _ v xs s) (by rfl) ?_)
  rintro _ _ ⟨p, cs, w, cw, A1, A2, rfl, rfl, dp, dw⟩
  have dp0 := dp
  obtain ⟨c, l, f, rfl, u1, u2, u3⟩ := painterX dp0.own
  obtain ⟨c1, l1, rfl, w1, w2⟩ := dw.cells
  repeat first | refine R1o ?_ | refine R2 fun _ => ?_
  refine sf_nil ?_
  show Code.sf _ _ _ _ _ _ _ _
  refine sf_fz (A1 ++ A2) fun h1 le1 i1 => ?_
  have b0 := (painterR τ).lent dp.own (inb_l i1)
  have bw0 := dw.lent h1 (inb_r i1)
  have hsz := dp.size
  have lo := dp.lo
  have hi := dp.hi
  clear dp0
  repeat first | refine R1 ?_ | refine R2 fun _ => ?_
  refine fp (y_call (paintHear_f _ _ _ p w b0 (by omega) bw0) (by rfl) ?_)
  rintro _ A3 ⟨cs3, rfl, q1⟩
  have q10 := q1
  obtain ⟨c3, l3, f3, rfl, w3, w4, w5⟩ := painterX q1
  repeat first | refine R1o ?_ | refine R2 fun _ => ?_
  refine sf_nil ?_
  show Code.sf _ _ _ _ _ _ _ _
  refine sf_fz A3 fun h2 le2 i2 => ?_
  have bx := (painterR τ).lent q10 i2
  have b2 := (painterR τ).up le2 b0
  have bw2 := (wordR τ).up le2 bw0
  clear q1 q10 b0 bw0 dp dw
  have sk := sPaintHear_f (M := M) h2 _ _ p w b2 (by omega) bw2
  repeat first | refine R1 ?_ | refine R2 fun _ => ?_
  refine Sd [[],[],[],[1,2],[0,1,2,3],[0,1,2,3,4],[0,1,2,3,4,5],[0,1,2,3,4,5,6],[0,1,2,3,4,5,6,7],[0,1,2,3,4,5,6,7,8],[0,1,2,3,4,5,6,7,8,9]] 4 [Nn 0,Nn 1,Nn 2,Yy 3] ?_
  refine Da ?_
  refine Yc sk ?_
  rintro _ AS ⟨csS, rfl, qS⟩
  have qS0 := qS
  obtain ⟨cS, lS, fS, rfl, wS1, wS2, wS3⟩ := painterX qS
  refine Da ?_
  refine Ae ?_
  repeat first | refine R1 ?_ | refine R2 fun _ => ?_
  refine fp (y_lendV AS (fun h' l' i => llPainter_v h' _ _ _ _ ((painterR τ).up l' bx) ((painterR τ).lent qS0 i)) (by rfl) ?_)
  rw [decide_eq_true (rfl : paintHear p w = paintHear p w)]
  repeat first | refine R1 ?_ | refine R2 fun _ => ?_
  refine Xv (sPaintOk_v _ _ _ b2) ?_
  cases hok : paintOk p with
  | false =>
    repeat first | refine R1 ?_ | refine R2 fun _ => ?_
    refine sf_cond (by rfl) (fun _ => ?_) fun z => by cases z
    repeat first | refine R1 ?_ | refine R2 fun _ => ?_
    refine Sd [[],[],[],[1,2],[0,1,2,3],[0,1,2,3,4]] 4 [Nn 0,Nn 1,Nn 2,Yy 3] ?_
    refine Da ?_
    refine Yc sk ?_
    rintro _ AT ⟨csT, rfl, qT⟩
    have qT0 := qT
    obtain ⟨cT, lT, fT, rfl, wT1, wT2, wT3⟩ := painterX qT
    refine Da ?_
    refine Ae ?_
    repeat first | refine R1 ?_ | refine R2 fun _ => ?_
    refine fp (y_lendV AT (fun h' l' i => llPainter_v h' _ _ _ _ ((painterR τ).up l' bx) ((painterR τ).lent qT0 i)) (by rfl) ?_)
    rw [decide_eq_true (rfl : paintHear p w = paintHear p w)]
    repeat first | refine R1 ?_ | refine R2 fun _ => ?_
    exact sf_ret (rO [] rfl)
  | true =>
    have hx : paintHear p w = paintHeard p w := by rw [paintHear, if_pos hok]
    have hxo : paintOk (paintHeard p w) = true := paintHeard_ok hok w
    have hv := paintHeard_ver hok w
    rw [hx] at bx ⊢
    repeat first | refine R1 ?_ | refine R2 fun _ => ?_
    refine sf_cond (by rfl) (fun z => by cases z) fun _ => ?_
    rcases Bool.eq_false_or_eq_true p.has with hph | hph
    case' inl =>
      have hxh := hv.2 hph
      have hps := paintOk_has hok hph
      rw [hph] at b2 ⊢
      rw [hxh] at bx ⊢
      repeat first | refine R1 ?_ | refine R2 fun _ => ?_
      refine Xv (paintOk_v _ _ _ bx) ?_
      rw [hxo]
      repeat first | refine R1 ?_ | refine R2 fun _ => ?_
      rw [decide_eq_false (show ¬ (paintHeard p w).ver < p.ver by omega)]
      repeat first | refine R1 ?_ | refine R2 fun _ => ?_
      refine sf_cond (by rfl) (fun z => by cases z) fun _ => ?_
      repeat first | refine R1 ?_ | refine R2 fun _ => ?_
      refine Xv (llPainter_v _ _ _ _ _ bx b2) ?_
      by_cases he : paintHeard p w = p
      · rw [decide_eq_true he]
        repeat first | refine R1 ?_ | refine R2 fun _ => ?_
        refine sf_cond (by rfl) (fun _ => ?_) fun z => by cases z
        repeat first | refine R1 ?_ | refine R2 fun _ => ?_
        exact sf_ret (rO [] rfl)
      rw [decide_eq_false he]
      repeat first | refine R1 ?_ | refine R2 fun _ => ?_
      refine sf_cond (by rfl) (fun z => by cases z) fun _ => ?_
      rcases paintHeard_new w he with ⟨n1, n2, n3, n4⟩ | ⟨n1, n2, n3, n4, n5⟩
      · rw [n4] at bx ⊢
        obtain ⟨c', l', f', ec, s1, s2, s3⟩ := painterB bx
        simp only [List.cons.injEq, and_true, true_and] at ec
        obtain ⟨rfl, rfl, rfl⟩ := ec
        obtain ⟨d', e', ec, t1, t2⟩ := wordB bw2
        simp only [wordCs, List.cons.injEq, and_true, true_and] at ec
        obtain ⟨rfl, rfl⟩ := ec
        have sn := sceneNew_f (M := M) h2 _ w.grid (gridB_mk t1)
        have esn : sceneNew w.grid = (sceneOf w.grid, true) := by rw [sceneNew, if_pos n2]
        rw [esn] at sn
        repeat first | refine R1 ?_ | refine R2 fun _ => ?_
        refine sf_if (fun _ => ?_) fun z => absurd n1 z
        repeat first | refine R1 ?_ | refine R2 fun _ => ?_
        refine fp (y_call sn (by rfl) ?_)
        rintro _ AN ⟨csN, rfl, qN⟩
        have qN0 := qN
        obtain ⟨cN, lN, fN, rfl, wN1, wN2, wN3⟩ := sceneX qN
        have bs := sceneB_mk (s := sceneOf w.grid) s1 s2 s3
        repeat first | refine R1 ?_ | refine R2 fun _ => ?_
        refine fp (y_lendV AN (fun h' l' i => llScene_v h' _ _ _ _ ((sceneR τ).up l' bs) ((sceneR τ).lent qN0 i)) (by rfl) ?_)
        rw [decide_eq_true (rfl : sceneOf w.grid = sceneOf w.grid)]
        repeat first | refine R1 ?_ | refine R2 fun _ => ?_
        rw [decide_eq_true (rfl : w.ver = w.ver)]
        repeat first | refine R1 ?_ | refine R2 fun _ => ?_
        rw [decide_eq_true (n3 hph)]
        repeat first | refine R1 ?_ | refine R2 fun _ => ?_
        exact sf_ret (rO [] rfl)
      · have hps := paintOk_has hok n2
        rw [n5] at bx ⊢
        obtain ⟨c', l', f', ec, s1, s2, s3⟩ := painterB bx
        simp only [List.cons.injEq, and_true, true_and] at ec
        obtain ⟨rfl, rfl, rfl⟩ := ec
        obtain ⟨d', e', g', ec, t1, t2, t3⟩ := painterB b2
        simp only [List.cons.injEq, and_true, true_and] at ec
        obtain ⟨-, rfl, rfl, rfl⟩ := ec
        have se := sceneEdit_f (M := M) h2 _ p.scene (sceneB_mk t1 t2 t3) hps.2.2.2 (by show szPainterN p ≤ _; omega) w.edit
        rw [n4] at se
        simp only [if_true] at se
        repeat first | refine R1 ?_ | refine R2 fun _ => ?_
        refine sf_if (fun z => ?_) fun _ => ?_
        · omega
        repeat first | refine R1 ?_ | refine R2 fun _ => ?_
        refine fp (y_call se (by rfl) ?_)
        rintro _ AN ⟨csN, wv, rfl, ow, qN⟩
        have qN0 := qN
        obtain ⟨cN, lN, fN, rfl, wN1, wN2, wN3⟩ := sceneX qN
        have bs := sceneB_mk (s := editScene p.scene w.edit) s1 s2 s3
        repeat first | refine R1 ?_ | refine R2 fun _ => ?_
        rw [decide_eq_true n1]
        repeat first | refine R1 ?_ | refine R2 fun _ => ?_
        refine fp (y_lendV AN (fun h' l' i => llScene_v h' _ _ _ _ ((sceneR τ).up l' bs) ((sceneR τ).lent qN0 i)) (by rfl) ?_)
        rw [decide_eq_true (rfl : editScene p.scene w.edit = editScene p.scene w.edit)]
        repeat first | refine R1 ?_ | refine R2 fun _ => ?_
        rw [n3]
        rw [decide_eq_true (rfl : p.ver + 1 = p.ver + 1)]
        repeat first | refine R1 ?_ | refine R2 fun _ => ?_
        exact sf_ret (rO [] rfl)
    case' inr =>
      rw [hph] at b2 ⊢
      repeat first | refine R1 ?_ | refine R2 fun _ => ?_
      refine Xv (paintOk_v _ _ _ bx) ?_
      rw [hxo]
      repeat first | refine R1 ?_ | refine R2 fun _ => ?_
      rw [decide_eq_false (show ¬ (paintHeard p w).ver < p.ver by omega)]
      repeat first | refine R1 ?_ | refine R2 fun _ => ?_
      refine sf_cond (by rfl) (fun z => by cases z) fun _ => ?_
      repeat first | refine R1 ?_ | refine R2 fun _ => ?_
      refine Xv (llPainter_v _ _ _ _ _ bx b2) ?_
      by_cases he : paintHeard p w = p
      · rw [decide_eq_true he]
        repeat first | refine R1 ?_ | refine R2 fun _ => ?_
        refine sf_cond (by rfl) (fun _ => ?_) fun z => by cases z
        repeat first | refine R1 ?_ | refine R2 fun _ => ?_
        exact sf_ret (rO [] rfl)
      rw [decide_eq_false he]
      repeat first | refine R1 ?_ | refine R2 fun _ => ?_
      refine sf_cond (by rfl) (fun z => by cases z) fun _ => ?_
      rcases paintHeard_new w he with ⟨n1, n2, n3, n4⟩ | ⟨n1, n2, n3, n4, n5⟩
      · rw [n4] at bx ⊢
        obtain ⟨c', l', f', ec, s1, s2, s3⟩ := painterB bx
        simp only [List.cons.injEq, and_true, true_and] at ec
        obtain ⟨rfl, rfl, rfl⟩ := ec
        obtain ⟨d', e', ec, t1, t2⟩ := wordB bw2
        simp only [wordCs, List.cons.injEq, and_true, true_and] at ec
        obtain ⟨rfl, rfl⟩ := ec
        have sn := sceneNew_f (M := M) h2 _ w.grid (gridB_mk t1)
        have esn : sceneNew w.grid = (sceneOf w.grid, true) := by rw [sceneNew, if_pos n2]
        rw [esn] at sn
        repeat first | refine R1 ?_ | refine R2 fun _ => ?_
        refine sf_if (fun _ => ?_) fun z => absurd n1 z
        repeat first | refine R1 ?_ | refine R2 fun _ => ?_
        refine fp (y_call sn (by rfl) ?_)
        rintro _ AN ⟨csN, rfl, qN⟩
        have qN0 := qN
        obtain ⟨cN, lN, fN, rfl, wN1, wN2, wN3⟩ := sceneX qN
        have bs := sceneB_mk (s := sceneOf w.grid) s1 s2 s3
        repeat first | refine R1 ?_ | refine R2 fun _ => ?_
        refine fp (y_lendV AN (fun h' l' i => llScene_v h' _ _ _ _ ((sceneR τ).up l' bs) ((sceneR τ).lent qN0 i)) (by rfl) ?_)
        rw [decide_eq_true (rfl : sceneOf w.grid = sceneOf w.grid)]
        repeat first | refine R1 ?_ | refine R2 fun _ => ?_
        rw [decide_eq_true (rfl : w.ver = w.ver)]
        repeat first | refine R1 ?_ | refine R2 fun _ => ?_
        
        exact sf_ret (rO [] rfl)
      · rw [hph] at n2; cases n2
end Go.Proofs.YtcpkcmgjfcbnpaaGreat

/- Walks of the seat: ZB. -/
import Derived.Test.YtcpkcmgjfcbnpaaGreatOwnE
import Derived.Test.YtcpkcmgjfcbnpaaGreatOwnG
import Derived.Test.YtcpkcmgjfcbnpaaGreatOwnD
import Derived.Test.YtcpkcmgjfcbnpaaGreatLibJ
set_option linter.unusedVariables false
set_option linter.unusedSimpArgs false
set_option linter.unusedSectionVars false
namespace Go.Proofs.YtcpkcmgjfcbnpaaGreat
open Go Go.Sl
set_option maxRecDepth 100000
set_option maxHeartbeats 4000000
attribute [local irreducible] Go.Code.sf sfOps Opq opo retF Do1 anyO
variable {M : Jdg → Prop} [IsCl Tryz.prog M]
theorem paintPath_law [al : Alone Tryz.prog M] (h : PHeap) (v : Value) (xs : List (Fin 256)) (s : Sl h v u8F xs) : ∃ c, Tryz.f7.body = some c ∧ c.sf Tryz.prog M Tryz.f7.ntmps (retF Tryz.prog Tryz.f7 Tryz.f7.ntmps (fun v _ => v = .bool true) fun _ _ => False) (argsL 0 [v]) [] h := by
  have o1 := s.one
  have hsm := s.small
  refine ⟨_, rfl, ?_⟩
  rw [Tryz.ntmps7]
  simp only [argsL, Nat.reduceAdd]
  repeat first | refine R1 ?_ | refine R2 fun _ => ?_
  refine sf_if (fun e => ?_) fun e => ?_
  · repeat first | refine R1 ?_ | refine R2 fun _ => ?_
    exact sf_ret (rO [] rfl)
  repeat first | refine R1 ?_ | refine R2 fun _ => ?_
  refine fp (y_call (drawPaintHear_f _ v xs s) (by rfl) ?_)
  rintro _ _ ⟨p, cs, w, cw, A1, A2, rfl, rfl, dp, dw⟩
  have dp0 := dp
  obtain ⟨c, l, f, rfl, u1, u2, u3⟩ := painterX dp0.own
  obtain ⟨c1, l1, rfl, w1, w2⟩ := dw.cells
  repeat first | refine R1o ?_ | refine R2 fun _ => ?_
  refine sf_nil ?_
  show Code.sf _ _ _ _ _ _ _ _
  refine sf_fz (A1 ++ A2) fun h1 le1 i1 => ?_
  have b0 := (painterR τ).lent dp.own (inb_l i1)
  have bw0 := dw.lent h1 (inb_r i1)
  have hsz := dp.size
  have lo := dp.lo
  have hi := dp.hi
  clear dp0
  repeat first | refine R1 ?_ | refine R2 fun _ => ?_
  refine fp (y_call (paintHear_f _ _ _ p w b0 (by omega) bw0) (by rfl) ?_)
  rintro _ A3 ⟨cs3, rfl, q1⟩
  have q10 := q1
  obtain ⟨c3, l3, f3, rfl, w3, w4, w5⟩ := painterX q1
  repeat first | refine R1o ?_ | refine R2 fun _ => ?_
  refine sf_nil ?_
  show Code.sf _ _ _ _ _ _ _ _
  refine sf_fz A3 fun h2 le2 i2 => ?_
  have bx := (painterR τ).lent q10 i2
  have b2 := (painterR τ).up le2 b0
  have bw2 := (wordR τ).up le2 bw0
  clear q1 q10 b0 bw0 dp dw
  have sk := sPaintHear_f (M := M) h2 _ _ p w b2 (by omega) bw2
  repeat first | refine R1 ?_ | refine R2 fun _ => ?_
  refine Sd [[],[],[],[1,2],[0,1,2,3],[0,1,2,3,4],[0,1,2,3,4,5],[0,1,2,3,4,5,6],[0,1,2,3,4,5,6,7],[0,1,2,3,4,5,6,7,8],[0,1,2,3,4,5,6,7,8,9],[0,1,2,3,4,5,6,7,8,9,10],[0,1,2,3,4,5,6,7,8,9,10,11],[0,1,2,3,4,5,6,7,8,9,10,11,12],[0,1,2,3,4,5,6,7,8,9,10,11,12,13],[0,1,2,3,4,5,6,7,8,9,10,11,12,13,14]] 4 [Nn 0,Nn 1,Nn 2,Yy 3] ?_
  refine Da ?_
  refine Yc sk ?_
  rintro _ AS ⟨csS, rfl, qS⟩
  have qS0 := qS
  obtain ⟨cS, lS, fS, rfl, wS1, wS2, wS3⟩ := painterX qS
  refine Da ?_
  refine Ae ?_
  repeat first | refine R1 ?_ | refine R2 fun _ => ?_
  refine fp (y_lendV AS (fun h' l' i => llPainter_v h' _ _ _ _ ((painterR τ).up l' bx) ((painterR τ).lent qS0 i)) (by rfl) ?_)
  rw [decide_eq_true (rfl : paintHear p w = paintHear p w)]
  repeat first | refine R1 ?_ | refine R2 fun _ => ?_
  refine Xv (sPaintOk_v _ _ _ b2) ?_
  cases hok : paintOk p with
  | false =>
    repeat first | refine R1 ?_ | refine R2 fun _ => ?_
    refine sf_cond (by rfl) (fun _ => ?_) fun z => by cases z
    repeat first | refine R1 ?_ | refine R2 fun _ => ?_
    refine Sd [[],[],[],[1,2],[0,1,2,3],[0,1,2,3,4]] 4 [Nn 0,Nn 1,Nn 2,Yy 3] ?_
    refine Da ?_
    refine Yc sk ?_
    rintro _ AT ⟨csT, rfl, qT⟩
    have qT0 := qT
    obtain ⟨cT, lT, fT, rfl, wT1, wT2, wT3⟩ := painterX qT
    refine Da ?_
    refine Ae ?_
    repeat first | refine R1 ?_ | refine R2 fun _ => ?_
    refine fp (y_lendV AT (fun h' l' i => llPainter_v h' _ _ _ _ ((painterR τ).up l' bx) ((painterR τ).lent qT0 i)) (by rfl) ?_)
    rw [decide_eq_true (rfl : paintHear p w = paintHear p w)]
    repeat first | refine R1 ?_ | refine R2 fun _ => ?_
    exact sf_ret (rO [] rfl)
  | true =>
    have hx : paintHear p w = paintHeard p w := by rw [paintHear, if_pos hok]
    have hxo : paintOk (paintHear p w) = true := by rw [hx]; exact paintHeard_ok hok w
    rcases Bool.eq_false_or_eq_true (paintHear p w).has with hxh | hxh
    case' inr =>
      rw [hxh] at bx ⊢
      repeat first | refine R1 ?_ | refine R2 fun _ => ?_
      refine sf_cond (by rfl) (fun _ => ?_) fun z => by cases z
      repeat first | refine R1 ?_ | refine R2 fun _ => ?_
      refine Sd [[],[],[],[1,2],[0,1,2,3],[0,1,2,3,4]] 4 [Nn 0,Nn 1,Nn 2,Yy 3] ?_
      refine Da ?_
      refine Yc sk ?_
      rintro _ AT ⟨csT, rfl, qT⟩
      have qT0 := qT
      obtain ⟨cT, lT, fT, rfl, wT1, wT2, wT3⟩ := painterX qT
      refine Da ?_
      refine Ae ?_
      repeat first | refine R1 ?_ | refine R2 fun _ => ?_
      refine fp (y_lendV AT (fun h' l' i => llPainter_v h' _ _ _ _ ((painterR τ).up l' bx) ((painterR τ).lent qT0 i)) (by rfl) ?_)
      rw [decide_eq_true (rfl : paintHear p w = paintHear p w)]
      repeat first | refine R1 ?_ | refine R2 fun _ => ?_
      exact sf_ret (rO [] rfl)
    case' inl =>
      rw [hxh] at bx ⊢
      obtain ⟨c', l', f', ec, s1, s2, s3⟩ := painterB bx
      simp only [List.cons.injEq, and_true, true_and] at ec
      obtain ⟨-, rfl, rfl, rfl⟩ := ec
      have bw3 : (wordR τ).B h2 (wordCs ⟨1, 0, 0, (paintHear p w).ver, (paintHear p w).scene.grid, noEdit, []⟩ c3 (.slice none 0 0)) ⟨1, 0, 0, (paintHear p w).ver, (paintHear p w).scene.grid, noEdit, []⟩ := wordB_mk (w := ⟨1, 0, 0, (paintHear p w).ver, (paintHear p w).scene.grid, noEdit, []⟩) s1 (Sl.nil _ _)
      have bz : ∀ h' : PHeap, (painterR τ).B h' [.bool true, .bool false, .int .i64 0, .int .i64 0, .slice none 0 0, .slice none 0 0, .slice none 0 0] ⟨true, false, 0, noScene⟩ := fun h' => painterB_mk (p := ⟨true, false, 0, noScene⟩) (Sl.nil _ _) (Sl.nil _ _) SlR.nil
      repeat first | refine R1 ?_ | refine R2 fun _ => ?_
      refine sf_cond (by rfl) (fun z => by cases z) fun _ => ?_
      repeat first | refine R1 ?_ | refine R2 fun _ => ?_
      refine fp (y_call (paintHear_f (M := M) _ _ _ _ _ (bz _) (by decide) bw3) (by rfl) ?_)
      rw [paint_path hxo hxh _ rfl rfl rfl]
      rintro _ AY ⟨csY, rfl, qY⟩
      have qY0 := qY
      obtain ⟨cY, lY, fY, rfl, wY1, wY2, wY3⟩ := painterX qY
      rw [hxh] at qY0 ⊢
      repeat first | refine R1o ?_ | refine R2 fun _ => ?_
      refine sf_nil ?_
      show Code.sf _ _ _ _ _ _ _ _
      refine sf_fz AY fun h3 le3 i3 => ?_
      repeat first | refine R1 ?_ | refine R2 fun _ => ?_
      refine Xv (llPainter_v _ _ _ _ _ ((painterR τ).lent qY0 i3) ((painterR τ).up le3 bx)) ?_
      rw [decide_eq_true (rfl : paintHear p w = paintHear p w)]
      repeat first | refine R1 ?_ | refine R2 fun _ => ?_
      exact sf_ret (rO [] rfl)
end Go.Proofs.YtcpkcmgjfcbnpaaGreat

/- Walks of the seat: ZC. -/
import Derived.Test.YtcpkcmgjfcbnpaaGreatOwnE
import Derived.Test.YtcpkcmgjfcbnpaaGreatOwnG
import Derived.Test.YtcpkcmgjfcbnpaaGreatOwnD
import Derived.Test.YtcpkcmgjfcbnpaaGreatLibJ
set_option linter.unusedVariables false
set_option linter.unusedSimpArgs false
set_option linter.unusedSectionVars false
namespace Go.Proofs.YtcpkcmgjfcbnpaaGreat
open Go Go.Sl
set_option maxRecDepth 100000
set_option maxHeartbeats 4000000
attribute [local irreducible] Go.Code.sf sfOps Opq opo retF Do1 anyO
variable {M : Jdg → Prop} [IsCl Tryz.prog M]
theorem paintOld_law [al : Alone Tryz.prog M] (h : PHeap) (v : Value) (xs : List (Fin 256)) (s : Sl h v u8F xs) : ∃ c, Tryz.f6.body = some c ∧ c.sf Tryz.prog M Tryz.f6.ntmps (retF Tryz.prog Tryz.f6 Tryz.f6.ntmps (fun v _ => v = .bool true) fun _ _ => False) (argsL 0 [v]) [] h := by
  have o1 := s.one
  have hsm := s.small
  refine ⟨_, rfl, ?_⟩
  rw [Tryz.ntmps6]
  simp only [argsL, Nat.reduceAdd]
  repeat first | refine R1 ?_ | refine R2 fun _ => ?_
  refine sf_if (fun e => ?_) fun e => ?_
  · repeat first | refine R1 ?_ | refine R2 fun _ => ?_
    exact sf_ret (rO [] rfl)
  repeat first | refine R1 ?_ | refine R2 fun _ => ?_
  refine fp (y_call (drawPaintHear_f _ v xs s) (by rfl) ?_)
  rintro _ _ ⟨p, cs, w, cw, A1, A2, rfl, rfl, dp, dw⟩
  have dp0 := dp
  obtain ⟨c, l, f, rfl, u1, u2, u3⟩ := painterX dp0.own
  obtain ⟨c1, l1, rfl, w1, w2⟩ := dw.cells
  repeat first | refine R1o ?_ | refine R2 fun _ => ?_
  refine sf_nil ?_
  show Code.sf _ _ _ _ _ _ _ _
  refine sf_fz (A1 ++ A2) fun h1 le1 i1 => ?_
  have b0 := (painterR τ).lent dp.own (inb_l i1)
  have bw0 := dw.lent h1 (inb_r i1)
  have hsz := dp.size
  have lo := dp.lo
  have hi := dp.hi
  clear dp0
  repeat first | refine R1 ?_ | refine R2 fun _ => ?_
  refine fp (y_call (paintHear_f _ _ _ p w b0 (by omega) bw0) (by rfl) ?_)
  rintro _ A3 ⟨cs3, rfl, q1⟩
  have q10 := q1
  obtain ⟨c3, l3, f3, rfl, w3, w4, w5⟩ := painterX q1
  repeat first | refine R1o ?_ | refine R2 fun _ => ?_
  refine sf_nil ?_
  show Code.sf _ _ _ _ _ _ _ _
  refine sf_fz A3 fun h2 le2 i2 => ?_
  have bx := (painterR τ).lent q10 i2
  have b2 := (painterR τ).up le2 b0
  have bw2 := (wordR τ).up le2 bw0
  clear q1 q10 b0 bw0 dp dw
  have sk := sPaintHear_f (M := M) h2 _ _ p w b2 (by omega) bw2
  repeat first | refine R1 ?_ | refine R2 fun _ => ?_
  refine Sd [[],[],[],[1,2],[0,1,2,3],[0,1,2,3,4],[0,1,2,3,4,5],[0,1,2,3,4,5,6],[0,1,2,3,4,5,6,7],[0,1,2,3,4,5,6,7,8],[0,1,2,3,4,5,6,7,8,9],[0,1,2,3,4,5,6,7,8,9,10],[0,1,2,3,4,5,6,7,8,9,10,11],[0,1,2,3,4,5,6,7,8,9,10,11,12],[0,1,2,3,4,5,6,7,8,9,10,11,12,13],[0,1,2,3,4,5,6,7,8,9,10,11,12,13,14]] 4 [Nn 0,Nn 1,Nn 2,Yy 3] ?_
  refine Da ?_
  refine Yc sk ?_
  rintro _ AS ⟨csS, rfl, qS⟩
  have qS0 := qS
  obtain ⟨cS, lS, fS, rfl, wS1, wS2, wS3⟩ := painterX qS
  refine Da ?_
  refine Ae ?_
  repeat first | refine R1 ?_ | refine R2 fun _ => ?_
  refine fp (y_lendV AS (fun h' l' i => llPainter_v h' _ _ _ _ ((painterR τ).up l' bx) ((painterR τ).lent qS0 i)) (by rfl) ?_)
  rw [decide_eq_true (rfl : paintHear p w = paintHear p w)]
  repeat first | refine R1 ?_ | refine R2 fun _ => ?_
  refine Xv (sPaintOk_v _ _ _ b2) ?_
  cases hok : paintOk p with
  | false =>
    repeat first | refine R1 ?_ | refine R2 fun _ => ?_
    refine sf_cond (by rfl) (fun _ => ?_) fun z => by cases z
    repeat first | refine R1 ?_ | refine R2 fun _ => ?_
    refine Sd [[],[],[],[1,2],[0,1,2,3],[0,1,2,3,4]] 4 [Nn 0,Nn 1,Nn 2,Yy 3] ?_
    refine Da ?_
    refine Yc sk ?_
    rintro _ AT ⟨csT, rfl, qT⟩
    have qT0 := qT
    obtain ⟨cT, lT, fT, rfl, wT1, wT2, wT3⟩ := painterX qT
    refine Da ?_
    refine Ae ?_
    repeat first | refine R1 ?_ | refine R2 fun _ => ?_
    refine fp (y_lendV AT (fun h' l' i => llPainter_v h' _ _ _ _ ((painterR τ).up l' bx) ((painterR τ).lent qT0 i)) (by rfl) ?_)
    rw [decide_eq_true (rfl : paintHear p w = paintHear p w)]
    repeat first | refine R1 ?_ | refine R2 fun _ => ?_
    exact sf_ret (rO [] rfl)
  | true =>
    rcases Bool.eq_false_or_eq_true p.has with hph | hph
    case' inr =>
      rw [hph] at b2 sk ⊢
      repeat first | refine R1 ?_ | refine R2 fun _ => ?_
      refine sf_cond (by rfl) (fun _ => ?_) fun z => by cases z
      repeat first | refine R1 ?_ | refine R2 fun _ => ?_
      refine Sd [[],[],[],[1,2],[0,1,2,3],[0,1,2,3,4]] 4 [Nn 0,Nn 1,Nn 2,Yy 3] ?_
      refine Da ?_
      refine Yc sk ?_
      rintro _ AT ⟨csT, rfl, qT⟩
      have qT0 := qT
      obtain ⟨cT, lT, fT, rfl, wT1, wT2, wT3⟩ := painterX qT
      refine Da ?_
      refine Ae ?_
      repeat first | refine R1 ?_ | refine R2 fun _ => ?_
      refine fp (y_lendV AT (fun h' l' i => llPainter_v h' _ _ _ _ ((painterR τ).up l' bx) ((painterR τ).lent qT0 i)) (by rfl) ?_)
      rw [decide_eq_true (rfl : paintHear p w = paintHear p w)]
      repeat first | refine R1 ?_ | refine R2 fun _ => ?_
      exact sf_ret (rO [] rfl)
    case' inl =>
      have hpo := paintOk_has hok hph
      have old : ∀ w', ((w'.kind = 1 ∧ w'.ver ≤ p.ver) ∨ (w'.kind = 2 ∧ w'.ver ≠ p.ver + 1)) → paintHear p w' = p := fun w' hw => by rw [paintHear, if_pos hok, paint_old hph hw]
      rw [hph] at b2 ⊢
      repeat first | refine R1 ?_ | refine R2 fun _ => ?_
      refine sf_cond (by rfl) (fun z => by cases z) fun _ => ?_
      repeat first | refine R1 ?_ | refine R2 fun _ => ?_
      refine fp (y_make (kl := 1) (by rfl) (by rfl) (by rfl) (by decide) (by decide) fun sv SA g0 => ?_)
      have oo := g0.one
      repeat first | refine R1o ?_ | refine R2 fun _ => ?_
      refine sf_nil ?_
      show Code.sf _ _ _ _ _ _ _ _
      refine sf_fz SA fun h3 le3 i3 => ?_
      have sg := g0.lent (by simp) i3
      have b3 := (painterR τ).up le3 b2
      clear g0
      generalize hcz : List.replicate 1 (⟨0, 0⟩ : Cell) = cz at sg
      repeat first | refine R1 ?_ | refine R2 fun _ => ?_
      refine fp (y_call (paintHear_f (M := M) _ _ _ p ⟨1, 0, 0, p.ver, ⟨1, cz⟩, noEdit, []⟩ b3 (by omega) (wordB_mk (w := ⟨1, 0, 0, p.ver, ⟨1, cz⟩, noEdit, []⟩) sg (Sl.nil _ _))) (by rfl) ?_)
      rw [old ⟨1, 0, 0, p.ver, ⟨1, cz⟩, noEdit, []⟩ (.inl ⟨rfl, by simp only; omega⟩)]
      rintro _ B4 ⟨cs4, rfl, q4⟩
      have r4 := q4
      obtain ⟨c4, l4, f4, rfl, wa4, wb4, wc4⟩ := painterX q4
      rw [hph] at r4 ⊢
      repeat first | refine R1o ?_ | refine R2 fun _ => ?_
      refine sf_nil ?_
      show Code.sf _ _ _ _ _ _ _ _
      refine sf_fz B4 fun h4 le4 i4 => ?_
      have t4 := (painterR τ).lent r4 i4
      have b4 := (painterR τ).up le4 b3
      clear q4 r4
      have sg := sg.le le4.le
      repeat first | refine R1 ?_ | refine R2 fun _ => ?_
      refine fp (y_call (paintHear_f (M := M) _ _ _ p ⟨1, 0, 0, p.ver - 1, ⟨1, cz⟩, noEdit, []⟩ b4 (by omega) (wordB_mk (w := ⟨1, 0, 0, p.ver - 1, ⟨1, cz⟩, noEdit, []⟩) sg (Sl.nil _ _))) (by rfl) ?_)
      rw [old ⟨1, 0, 0, p.ver - 1, ⟨1, cz⟩, noEdit, []⟩ (.inl ⟨rfl, by simp only; omega⟩)]
      rintro _ B5 ⟨cs5, rfl, q5⟩
      have r5 := q5
      obtain ⟨c5, l5, f5, rfl, wa5, wb5, wc5⟩ := painterX q5
      rw [hph] at r5 ⊢
      repeat first | refine R1o ?_ | refine R2 fun _ => ?_
      refine sf_nil ?_
      show Code.sf _ _ _ _ _ _ _ _
      refine sf_fz B5 fun h5 le5 i5 => ?_
      have t5 := (painterR τ).lent r5 i5
      have b5 := (painterR τ).up le5 b4
      clear q5 r5
      have t4 := (painterR τ).up le5 t4
      repeat first | refine R1 ?_ | refine R2 fun _ => ?_
      refine fp (y_call (paintHear_f (M := M) _ _ _ p ⟨2, 0, 0, p.ver, noGrid, noEdit, []⟩ b5 (by omega) (wordB_mk (w := ⟨2, 0, 0, p.ver, noGrid, noEdit, []⟩) (Sl.nil _ _) (Sl.nil _ _))) (by rfl) ?_)
      rw [old ⟨2, 0, 0, p.ver, noGrid, noEdit, []⟩ (.inr ⟨rfl, by simp only; omega⟩)]
      rintro _ B6 ⟨cs6, rfl, q6⟩
      have r6 := q6
      obtain ⟨c6, l6, f6, rfl, wa6, wb6, wc6⟩ := painterX q6
      rw [hph] at r6 ⊢
      repeat first | refine R1o ?_ | refine R2 fun _ => ?_
      refine sf_nil ?_
      show Code.sf _ _ _ _ _ _ _ _
      refine sf_fz B6 fun h6 le6 i6 => ?_
      have t6 := (painterR τ).lent r6 i6
      have b6 := (painterR τ).up le6 b5
      clear q6 r6
      have t4 := (painterR τ).up le6 t4
      have t5 := (painterR τ).up le6 t5
      repeat first | refine R1 ?_ | refine R2 fun _ => ?_
      refine fp (y_call (paintHear_f (M := M) _ _ _ p ⟨2, 0, 0, p.ver + 2, noGrid, noEdit, []⟩ b6 (by omega) (wordB_mk (w := ⟨2, 0, 0, p.ver + 2, noGrid, noEdit, []⟩) (Sl.nil _ _) (Sl.nil _ _))) (by rfl) ?_)
      rw [old ⟨2, 0, 0, p.ver + 2, noGrid, noEdit, []⟩ (.inr ⟨rfl, by simp only; omega⟩)]
      rintro _ B7 ⟨cs7, rfl, q7⟩
      have r7 := q7
      obtain ⟨c7, l7, f7, rfl, wa7, wb7, wc7⟩ := painterX q7
      rw [hph] at r7 ⊢
      repeat first | refine R1o ?_ | refine R2 fun _ => ?_
      refine sf_nil ?_
      show Code.sf _ _ _ _ _ _ _ _
      refine sf_fz B7 fun h7 le7 i7 => ?_
      have t7 := (painterR τ).lent r7 i7
      have b7 := (painterR τ).up le7 b6
      clear q7 r7
      have t4 := (painterR τ).up le7 t4
      have t5 := (painterR τ).up le7 t5
      have t6 := (painterR τ).up le7 t6
      repeat first | refine R1 ?_ | refine R2 fun _ => ?_
      refine Xv (llPainter_v _ _ _ _ _ t4 b7) ?_
      rw [decide_eq_true (rfl : p = p)]
      repeat first | refine R1 ?_ | refine R2 fun _ => ?_
      refine Xv (llPainter_v _ _ _ _ _ t5 b7) ?_
      rw [decide_eq_true (rfl : p = p)]
      repeat first | refine R1 ?_ | refine R2 fun _ => ?_
      refine Xv (llPainter_v _ _ _ _ _ t6 b7) ?_
      rw [decide_eq_true (rfl : p = p)]
      repeat first | refine R1 ?_ | refine R2 fun _ => ?_
      refine Xv (llPainter_v _ _ _ _ _ t7 b7) ?_
      rw [decide_eq_true (rfl : p = p)]
      repeat first | refine R1 ?_ | refine R2 fun _ => ?_
      exact sf_ret (rO [] rfl)
end Go.Proofs.YtcpkcmgjfcbnpaaGreat

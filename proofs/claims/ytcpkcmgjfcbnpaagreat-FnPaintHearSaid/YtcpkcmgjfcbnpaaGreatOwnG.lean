/- Walks of the seat: PH. -/
import Derived.Test.YtcpkcmgjfcbnpaaGreatOwnF
set_option linter.unusedVariables false
set_option linter.unusedSimpArgs false
set_option linter.unusedSectionVars false
namespace Go.Proofs.YtcpkcmgjfcbnpaaGreat
open Go Go.Sl
set_option maxRecDepth 100000
set_option maxHeartbeats 4000000
attribute [local irreducible] Go.Code.sf sfOps Opq opo retF Do1 anyO
variable {M : Jdg → Prop} [IsCl Tryz.prog M]
instance : Fun Tryz.prog 62 := ⟨by kernel_rfl⟩
instance : Fun Tryz.prog 63 := ⟨by kernel_rfl⟩
theorem paintHeard_f [al : Alone Tryz.prog M] (h : PHeap) (ca cb : List Value) (p : Painter) (w : Word) (b : (painterR τ).B h ca p) (ok : paintOk p = true) (hs : szPainterN p ≤ 1048576) (bw : (wordR τ).B h cb w) : CallF Tryz.prog M 37 [.agg ca.toArray, .agg cb.toArray] [] h fun u A => ∃ cs, u = .agg cs.toArray ∧ (painterR τ).O A cs (paintHeard p w) := by
  have b0 := b
  obtain ⟨c0, l0, f0, rfl, s1, s2, s3⟩ := painterB b
  have o1 := s1.one
  have o2 := s2.one
  have o3 := s3.one
  have bw0 := bw
  obtain ⟨wc, wl, ecb, sw1, sw2⟩ := wordB bw
  have ecb' : cb = [.int .i64 w.kind, .int .i64 w.to, .int .i64 w.frm, .int .i64 w.ver, .int .i64 w.grid.wide, wc, .int .i64 w.edit.at', .int .i64 w.edit.cell.kind, .int .i64 w.edit.cell.light, wl] := ecb
  subst ecb'
  clear ecb bw
  have o4 := sw1.one
  have o5 := sw2.one
  refine Cs Tryz.func37 Tryz.ntmps37 ?_
  repeat first | refine R1 ?_ | refine R2 fun _ => ?_
  rename_i b2 b3 b4
  refine fp (y_call (painterCopy_f (M := M) _ _ p b0 hs) (by rfl) ?_)
  rintro _ A1 ⟨cs, rfl, q⟩
  have q0 := q
  obtain ⟨c, l, f, X1, X2, X3, rfl, rfl, ⟨g1, j1⟩, ⟨g2, j2⟩, g3⟩ := painterO q
  have o6 := g1.one
  have o7 := g2.one
  have o8 := g3.one
  repeat first | refine R1 ?_ | refine R2 fun _ => ?_
  rename_i b5
  refine fp (y_makeMap fun bm om hm => ?_)
  repeat first | refine R1 ?_ | refine R2 fun _ => ?_
  refine fp (y_insert (by rfl) (by rfl) (by rfl) (by infer_instance) (by infer_instance) hm fun o1' hm1 => ?_)
  repeat first | refine R1 ?_ | refine R2 fun _ => ?_
  refine fp (y_insert (by rfl) (by rfl) (by rfl) (by infer_instance) (by infer_instance) hm1 fun o2' hm2 => ?_)
  repeat first | refine R1 ?_ | refine R2 fun _ => ?_
  have back : paintHeard p w = p → ∃ cs : List Value, (.agg #[.bool p.up, .bool p.has, .int .i64 p.ver, .int .i64 p.scene.grid.wide, c, l, f] : Value) = .agg cs.toArray ∧ (painterR τ).O (X1 ++ (X2 ++ X3)) cs (paintHeard p w) := fun z => by rw [z]; exact ⟨_, rfl, q0⟩
  by_cases e1 : w.kind = 1
  · refine fp (Rq ?_ (z_lookup2V (v := .tuple #[.func (.func 62) #[.agg #[.bool p.up, .bool p.has, .int .i64 p.ver, .int .i64 p.scene.grid.wide, c, l, f]] #[], .bool true]) (by rfl) (by rfl) (by infer_instance) (by infer_instance) (by infer_instance) (by simp) hm2 (by simp [valOf2, mSet, mGet, e1])))
    repeat first | refine R1 ?_ | refine R2 fun _ => ?_
    refine f_splitB (fun e => ?_) fun e => ?_
    · have e' : p.up = false := by simpa using e
      repeat first | refine R1 ?_ | refine R2 fun _ => ?_
      refine sf_cond (by rfl) (fun e9 => ?_) fun e9 => ?_
      · repeat first | refine R1 ?_ | refine R2 fun _ => ?_
        exact sf_ret (rO (X1 ++ (X2 ++ X3)) (back (heard_up e')))
      · simp [e'] at e9
    · have e' : p.up = true := by simpa using e
      repeat first | refine R1 ?_ | refine R2 fun _ => ?_
      refine sf_cond (by rfl) (fun e9 => ?_) fun e9 => ?_
      · simp [e'] at e9
      repeat first | refine R1 ?_ | refine R2 fun _ => ?_
      refine fp (y_callC2 (by rfl) (by rfl) (by exact hearWhole_f (M := M) _ _ p w c l f X1 X2 X3 g1 g2 g3 hs bw0 e' e1) ?_)
      rintro _ A5 ⟨cs, rfl, q5⟩
      have q6 := q5
      obtain ⟨c3, l3, f3, Z1, Z2, Z3, rfl, rfl, ⟨i1, -⟩, ⟨i2, -⟩, i3⟩ := painterO q5
      have p1 := i1.one
      have p2 := i2.one
      have p3 := i3.one
      repeat first | refine R1 ?_ | refine R2 fun _ => ?_
      exact sf_ret (rO (Z1 ++ (Z2 ++ Z3)) ⟨_, rfl, q6⟩)
  by_cases e2 : w.kind = 2
  · refine fp (Rq ?_ (z_lookup2V (v := .tuple #[.func (.func 63) #[.agg #[.bool p.up, .bool p.has, .int .i64 p.ver, .int .i64 p.scene.grid.wide, c, l, f]] #[], .bool true]) (by rfl) (by rfl) (by infer_instance) (by infer_instance) (by infer_instance) (by simp) hm2 (by simp [valOf2, mSet, mGet, e2])))
    repeat first | refine R1 ?_ | refine R2 fun _ => ?_
    refine f_splitB (fun e => ?_) fun e => ?_
    · have e' : p.up = false := by simpa using e
      repeat first | refine R1 ?_ | refine R2 fun _ => ?_
      refine sf_cond (by rfl) (fun e9 => ?_) fun e9 => ?_
      · repeat first | refine R1 ?_ | refine R2 fun _ => ?_
        exact sf_ret (rO (X1 ++ (X2 ++ X3)) (back (heard_up e')))
      · simp [e'] at e9
    · have e' : p.up = true := by simpa using e
      repeat first | refine R1 ?_ | refine R2 fun _ => ?_
      refine sf_cond (by rfl) (fun e9 => ?_) fun e9 => ?_
      · simp [e'] at e9
      repeat first | refine R1 ?_ | refine R2 fun _ => ?_
      refine fp (y_callC2 (by rfl) (by rfl) (by exact hearEdit_f (M := M) _ _ p w c l f X1 X2 X3 g1 g2 g3 hs bw0 e' ok e2) ?_)
      rintro _ A5 ⟨cs, rfl, q5⟩
      have q6 := q5
      obtain ⟨c3, l3, f3, Z1, Z2, Z3, rfl, rfl, ⟨i1, -⟩, ⟨i2, -⟩, i3⟩ := painterO q5
      have p1 := i1.one
      have p2 := i2.one
      have p3 := i3.one
      repeat first | refine R1 ?_ | refine R2 fun _ => ?_
      exact sf_ret (rO (Z1 ++ (Z2 ++ Z3)) ⟨_, rfl, q6⟩)
  refine fp (Rq ?_ (z_lookup2V (v := .tuple #[.nilFunc, .bool false]) (by rfl) (by rfl) (by infer_instance) (by infer_instance) (by infer_instance) (by simp) hm2 (by simp [valOf2, mSet, mGet, e1, e2])))
  repeat first | refine R1 ?_ | refine R2 fun _ => ?_
  refine f_splitB (fun e => ?_) fun e => ?_
  · repeat first | refine R1 ?_ | refine R2 fun _ => ?_
    refine sf_cond (by rfl) (fun e9 => ?_) fun e9 => ?_
    · repeat first | refine R1 ?_ | refine R2 fun _ => ?_
      exact sf_ret (rO (X1 ++ (X2 ++ X3)) (back (heard0 e1 e2)))
    · simp [e] at e9
  · repeat first | refine R1 ?_ | refine R2 fun _ => ?_
    refine sf_cond (by rfl) (fun e9 => ?_) fun e9 => ?_
    · repeat first | refine R1 ?_ | refine R2 fun _ => ?_
      exact sf_ret (rO (X1 ++ (X2 ++ X3)) (back (heard0 e1 e2)))
    · simp [e] at e9
theorem paintHear_f [al : Alone Tryz.prog M] (h : PHeap) (ca cb : List Value) (p : Painter) (w : Word) (b : (painterR τ).B h ca p) (hs : szPainterN p ≤ 1048576) (bw : (wordR τ).B h cb w) : CallF Tryz.prog M 17 [.agg ca.toArray, .agg cb.toArray] [] h fun u A => ∃ cs, u = .agg cs.toArray ∧ (painterR τ).O A cs (paintHear p w) := by
  have b0 := b
  obtain ⟨c, l, f, rfl, s1, s2, s3⟩ := painterB b
  have o1 := s1.one
  have o2 := s2.one
  have o3 := s3.one
  have bw0 := bw
  obtain ⟨wc, wl, ecb, sw1, sw2⟩ := wordB bw
  have ecb' : cb = [.int .i64 w.kind, .int .i64 w.to, .int .i64 w.frm, .int .i64 w.ver, .int .i64 w.grid.wide, wc, .int .i64 w.edit.at', .int .i64 w.edit.cell.kind, .int .i64 w.edit.cell.light, wl] := ecb
  subst ecb'
  clear ecb bw
  have o4 := sw1.one
  have o5 := sw2.one
  refine Cs Tryz.func17 Tryz.ntmps17 ?_
  repeat first | refine R1 ?_ | refine R2 fun _ => ?_
  refine Xv (paintOk_v (M := M) _ _ p b0) ?_
  repeat first | refine R1 ?_ | refine R2 fun _ => ?_
  refine sf_cond (by rfl) (fun e => ?_) fun e => ?_
  · have e' : ¬ paintOk p = true := by simpa using e
    repeat first | refine R1 ?_ | refine R2 fun _ => ?_
    rw [paintHear, if_neg e']
    exact sf_ret (rO [] ⟨_, rfl, painterO_mk (p := noPainter) (Gr.nil _ _) (by decide) (Gr.nil _ _) (by decide) GrR.nil⟩)
  have e' : paintOk p = true := by simpa using e
  rw [paintHear, if_pos e']
  repeat first | refine R1 ?_ | refine R2 fun _ => ?_
  refine fp (y_call (paintHeard_f (M := M) _ _ _ p w b0 e' hs bw0) (by rfl) ?_)
  rintro _ A5 ⟨cs, rfl, q5⟩
  have q6 := q5
  obtain ⟨c3, l3, f3, Z1, Z2, Z3, rfl, rfl, ⟨i1, -⟩, ⟨i2, -⟩, i3⟩ := painterO q5
  have p1 := i1.one
  have p2 := i2.one
  have p3 := i3.one
  repeat first | refine R1 ?_ | refine R2 fun _ => ?_
  exact sf_ret (rO (Z1 ++ (Z2 ++ Z3)) ⟨_, rfl, q6⟩)
end Go.Proofs.YtcpkcmgjfcbnpaaGreat

/- The law FnKeepNew: it answers true. -/
import Derived.Test.YtcefbjpebgofjaaGreatDoorN8
set_option linter.unusedVariables false
set_option linter.unusedSimpArgs false
set_option linter.unusedSectionVars false

namespace Go.Proofs.YtcefbjpebgofjaaGreatDoor
open Go Go.Sl
set_option maxRecDepth 100000
set_option maxHeartbeats 4000000
attribute [local irreducible] Go.Code.sf sfOps Opq opo retF Do1 anyO
variable {M : Jdg → Prop} [IsCl Tryz.prog M]

theorem keepNew_plain (g : Grid) (m : Int) : PlainK (keepNew g m).1 := by
  unfold keepNew
  split
  · rename_i e
    simp only [Bool.and_eq_true, decide_eq_true_eq] at e
    exact ⟨rfl, rfl, by simp; omega, fun i hi => by simp at hi; simp [gt, hi]⟩
  · exact ⟨rfl, rfl, by simp [noKeeper], fun i hi => by simp [noKeeper] at hi⟩
theorem keepNew_begun {g : Grid} {m : Int} (h : (keepNew g m).2 = true) : Begun (keepNew g m).1 ∧ (keepNew g m).1.first = g ∧ ((keepNew g m).1.parts.length : Int) = m := by
  unfold keepNew at h ⊢
  split at h
  · rename_i e
    rw [if_pos e]
    simp only [Bool.and_eq_true, decide_eq_true_eq] at e
    exact ⟨⟨e.1, rfl, rfl, by simp; omega, by simp; omega, fun i hi => by simp at hi; simp [gt, hi]⟩, rfl, by simp; omega⟩
  · cases h

theorem keep_body (h : PHeap) (v : Value) (xs : List (Fin 256)) (s : Sl h v u8F xs) : ∃ c, Tryz.f3.body = some c ∧ c.sf Tryz.prog M Tryz.f3.ntmps (retF Tryz.prog Tryz.f3 Tryz.f3.ntmps (fun v _ => v = .bool true) fun _ _ => False) (argsL 0 [v]) [] h := by
  have o1 := s.one
  have hsm := s.small
  refine ⟨_, rfl, ?_⟩
  rw [Tryz.ntmps3]
  simp only [argsL, Nat.reduceAdd]
  repeat (first | refine R1 ?_ | (refine R2 ?_; intro _))
  refine sf_if (fun e => ?_) fun e => ?_
  · repeat (first | refine R1 ?_ | (refine R2 ?_; intro _))
    exact sf_ret (rO [] rfl)
  repeat (first | refine R1 ?_ | (refine R2 ?_; intro _))
  refine fp (y_call (drawKeepNew_f _ v xs s) (by rfl) ?_)
  rintro _ A0 ⟨_, g, m, rfl, ⟨c, rfl, oc, hd⟩, hl⟩
  repeat (first | refine R1 ?_ | (refine R2 ?_; intro _))
  refine fp (y_lend A0 (fun h' _ i => sKeepNew_f h' _ g m (gridB_mk (hd h' i)) (by omega)) (by rfl) ?_)
  rintro _ A1 ⟨_, rfl, q1⟩
  have hpl := keepNew_plain g m
  have hbg := keepNew_begun (g := g) (m := m)
  obtain ⟨x1, x2, x3, x4, _, _, _, _, rfl, -, ⟨r1, -⟩, ⟨r2, -⟩, r3, r4⟩ := keeperO q1
  have p1 := r1.one
  have p2 := r2.one
  have p3 := r3.one
  have p4 := r4.one
  clear r1 r2 r3 r4
  repeat (first | refine R1 ?_ | (refine R2 ?_; intro _))
  refine fp (y_lend A0 (fun h' _ i => keepNew_f h' _ g m (gridB_mk (hd h' i)) (by omega)) (by rfl) ?_)
  rintro _ A2 ⟨_, rfl, q2⟩
  obtain ⟨y1, y2, y3, y4, _, _, _, _, rfl, -, ⟨r1, -⟩, ⟨r2, -⟩, r3, r4⟩ := keeperO q2
  have p5 := r1.one
  have p6 := r2.one
  have p7 := r3.one
  have p8 := r4.one
  clear r1
  obtain ⟨_, _, -, rp, gp, oap, -⟩ := r3
  obtain ⟨_, _, -, rs, gs, oas, -⟩ := r4
  have lp := oap.len
  have ls := oas.len
  generalize keepNew g m = kn at *
  obtain ⟨kk, ok⟩ := kn
  simp only at *
  have ek : kk.edits.length = 0 := by rw [hpl.edits]; rfl
  have es : kk.shown.length = 0 := by rw [hpl.shown]; rfl
  have n3 := hpl.n3
  repeat (first | refine R1 ?_ | (refine R2 ?_; intro _))
  cases ok with
  | false =>
    repeat (first | refine R1 ?_ | (refine R2 ?_; intro _))
    refine fp (y_lendV (A2 ++ A1) (fun h' _ i => llKeeper_v h' _ _ kk ((keeperR τ).lent q2 (inb_l i)) ((keeperR τ).lent q1 (inb_r i)) hpl) (by rfl) ?_)
    repeat (first | refine R1 ?_ | (refine R2 ?_; intro _))
    refine sf_T rfl ?_
    repeat (first | refine R1 ?_ | (refine R2 ?_; intro _))
    refine fp (y_lendV (A2 ++ A1) (fun h' _ i => llKeeper_v h' _ _ kk ((keeperR τ).lent q2 (inb_l i)) ((keeperR τ).lent q1 (inb_r i)) hpl) (by rfl) ?_)
    repeat (first | refine R1 ?_ | (refine R2 ?_; intro _))
    exact sf_ret (rt [] (resV_one rfl (res_tmp rfl)) rfl)
  | true =>
    obtain ⟨hb, hf, hn⟩ := hbg rfl
    repeat (first | refine R1 ?_ | (refine R2 ?_; intro _))
    refine fp (y_lendV (A2 ++ A1) (fun h' _ i => llKeeper_v h' _ _ kk ((keeperR τ).lent q2 (inb_l i)) ((keeperR τ).lent q1 (inb_r i)) hpl) (by rfl) ?_)
    repeat (first | refine R1 ?_ | (refine R2 ?_; intro _))
    refine sf_cond (by rfl) (fun e => by cases e) fun z1 => ?_
    clear z1
    repeat (first | refine R1 ?_ | (refine R2 ?_; intro _))
    refine fp (y_lend A2 (fun h' _ i => keepGrid_begun h' _ kk ((keeperR τ).lent q2 i) hb) (by rfl) ?_)
    rintro _ A3 ⟨_, rfl, q3⟩
    obtain ⟨c3, rfl, g3, l3⟩ := gridO q3
    have o3 := g3.one
    repeat (first | refine R1 ?_ | (refine R2 ?_; intro _))
    refine fp (y_lendV (A3 ++ A0) (fun h' _ i => llGrid_v h' _ _ kk.first g (gridB_mk (g3.lent (by omega) (inb_l i))) (gridB_mk (hd h' (inb_r i)))) (by rfl) ?_)
    rw [decide_eq_true hf]
    repeat (first | refine R1 ?_ | (refine R2 ?_; intro _))
    refine fp (y_lendV A2 (fun h' _ i => keepOk_begun h' _ kk ((keeperR τ).lent q2 i) hb) (by rfl) ?_)
    have hm : (rp.length : Int) = m := by omega
    repeat (first | refine R1 ?_ | (refine R2 ?_; intro _))
    exact sf_ret (rt [] (resV_one rfl (res_tmp rfl)) (by rw [decide_eq_true (show (kk.edits.length : Int) + rs.length = 0 by omega)]))
end Go.Proofs.YtcefbjpebgofjaaGreatDoor

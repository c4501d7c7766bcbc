/- Walks of the seat: W1 Y3 Y9 N4 N5 YA Y6 Y8 QA QB QC QD QE. -/
import Derived.Test.YtcpkcmgjfcbnpaaGreatOwnC
import Derived.Test.YtcpkcmgjfcbnpaaGreatSmW
import Derived.Test.YtcpkcmgjfcbnpaaGreatOwnD
import Derived.Test.YtcpkcmgjfcbnpaaGreatLibI
import Derived.Test.YtcpkcmgjfcbnpaaGreatLibJ
import Derived.Test.YtcpkcmgjfcbnpaaGreatLibF
import Derived.Test.YtcpkcmgjfcbnpaaGreatLibH
import Derived.Test.YtcpkcmgjfcbnpaaGreatSmYe
import Derived.Test.YtcpkcmgjfcbnpaaGreatLibG
import Derived.Test.YtcpkcmgjfcbnpaaGreatSmZ
import Derived.Test.YtcpkcmgjfcbnpaaGreatOwnA
import Derived.Test.YtcpkcmgjfcbnpaaGreatLibE
set_option linter.unusedVariables false
set_option linter.unusedSimpArgs false
set_option linter.unusedSectionVars false
namespace Go.Proofs.YtcpkcmgjfcbnpaaGreat
open Go Go.Sl
set_option maxRecDepth 100000
set_option maxHeartbeats 4000000
attribute [local irreducible] Go.Code.sf sfOps Opq opo retF Do1 anyO
variable {M : Jdg → Prop} [IsCl Tryz.prog M]
theorem painters0 {A : Own} {v : Value} {n : Nat} (g : Gr A v 31 (rawF (painterR τ).sz) (List.replicate n ⟨[.bool true, .bool false, .int .i64 0, .int .i64 0, .slice none 0 0, .slice none 0 0, .slice none 0 0], rfl⟩)) (hn : n ≤ 281474976710656) : GrR (painterR τ) A v 31 (List.replicate n freshPainter) := by
  refine ⟨A, [], by simp, _, g, ?_, by simpa using hn⟩
  clear g hn
  induction n with
  | zero => exact .nil
  | succ n ih => rw [List.replicate_succ, List.replicate_succ]; exact .cons (A := []) freshPainterO ih
theorem sWorldNew_f (h : PHeap) (ca : List Value) (g : Grid) (many : Int) (b : (gridR τ).B h ca g) (hs : g.cells.length ≤ 1048576) : CallF Tryz.prog M 81 [.agg ca.toArray, .int .i64 many] [] h fun v A => ∃ cs, v = .tuple #[.agg cs.toArray, .bool (worldNew g many).2] ∧ (worldR τ).O A cs (worldNew g many).1 := by
  obtain ⟨c, rfl, s⟩ := gridB b
  have o1 := s.one
  refine Cs Tryz.func81 Tryz.ntmps81 ?_
  repeat first | refine R1 ?_ | refine R2 fun _ => ?_
  refine fp (y_call (sKeepNew_f _ _ g many b hs) (by rfl) ?_)
  rintro _ A1 ⟨_, rfl, q⟩
  obtain ⟨x1, x2, x3, x4, K1, K2, K3, K4, rfl, rfl, ⟨r1, l1⟩, ⟨r2, l2⟩, r3, r4⟩ := keeperO q
  have p1 := r1.one
  have p2 := r2.one
  have p3 := r3.one
  have p4 := r4.one
  repeat first | refine R1 ?_ | refine R2 fun _ => ?_
  refine sf_cond (by rfl) (fun h2 => ?_) fun h2 => ?_
  · rw [worldNew_F (by simpa using h2)]
    repeat first | refine R1 ?_ | refine R2 fun _ => ?_
    exact sf_ret (rO [] ⟨_, rfl, noWorldO⟩)
  · have h3 : (keepNew g many).2 = true := by simpa using h2
    have hm := keepNew_many h3
    rw [worldNew_T h3]
    generalize keepNew g many = kn at *
    repeat first | refine R1 ?_ | refine R2 fun _ => ?_
    refine Xb fun e1 A2 g2 => ?_
    have o2 := g2.one
    repeat first | refine R1 ?_ | refine R2 fun _ => ?_
    rename_i b2 b4 b6 b8
    obtain ⟨n, rfl⟩ : ∃ n : Nat, many = n := ⟨many.toNat, by omega⟩
    refine sf_lp [1, 4, 8] (fun i : Nat => [(9, .int .i64 (i : Int))]) (fun i O => i ≤ n ∧ ∃ p A0, O = (b8, .cells #[.int .i64 kn.1.first.wide, x1, x2, x3, x4, p, e1] 91) :: (A0 ++ (A2 ++ (K1 ++ (K2 ++ (K3 ++ K4)) ++ [(b4, .cells #[.int .i64 0, .slice none 0 0, .slice none 0 0, .slice none 0 0, .slice none 0 0, .slice none 0 0, .slice none 0 0] 91)]))) ∧ Gr A0 p 31 (rawF (painterR τ).sz) (List.replicate i ⟨[.bool true, .bool false, .int .i64 0, .int .i64 0, .slice none 0 0, .slice none 0 0, .slice none 0 0], rfl⟩)) (fun i => n - i) 0 ((b8, .cells #[.int .i64 kn.1.first.wide, x1, x2, x3, x4, .slice none 0 0, e1] 91) :: ([] ++ (A2 ++ (K1 ++ (K2 ++ (K3 ++ K4)) ++ [(b4, .cells #[.int .i64 0, .slice none 0 0, .slice none 0 0, .slice none 0 0, .slice none 0 0, .slice none 0 0, .slice none 0 0] 91)])))) ⟨by omega, _, [], rfl, Gr.nil _ _⟩ ?_
    rintro i O ⟨hi, p, A0, rfl, g3⟩
    have o5 := g3.one
    repeat first | refine R1 ?_ | refine R2 fun _ => ?_
    refine sf_if (fun h4 => ?_) fun h4 => ?_
    · repeat first | refine R1 ?_ | refine R2 fun _ => ?_
      refine Xb fun u Au gu => ?_
      repeat first | refine R1 ?_ | refine R2 fun _ => ?_
      refine fp (y_append (by rfl) (by rfl) g3 gu (by intro y hy; simp at hy; subst hy; exact (inferInstance : AllOne [Value.bool true, .bool false, .int .i64 0, .int .i64 0, .slice none 0 0, .slice none 0 0, .slice none 0 0]).is) (by rfl) (by rfl) (by simp; omega) (by simp; omega) fun p2 A5 g5 => ?_)
      have o6 := g5.one
      repeat first | refine R1 ?_ | refine R2 fun _ => ?_
      refine ⟨i + 1, by omega, ⟨rfl, trivial⟩, rfl, (b8, .cells #[.int .i64 kn.1.first.wide, x1, x2, x3, x4, p2, e1] 91) :: (A5 ++ (A2 ++ (K1 ++ (K2 ++ (K3 ++ K4)) ++ [(b4, .cells #[.int .i64 0, .slice none 0 0, .slice none 0 0, .slice none 0 0, .slice none 0 0, .slice none 0 0, .slice none 0 0] 91)]))), _, inferInstance, by omega, p2, A5, rfl, ?_⟩
      rw [List.replicate_succ']
      exact g5
    · refine sf_exit ?_
      repeat first | refine R1 ?_ | refine R2 fun _ => ?_
      have : i = n := by omega
      subst this
      refine sf_ret (rO (K1 ++ (K2 ++ (K3 ++ (K4 ++ (A0 ++ A2))))) ⟨_, rfl, ?_⟩)
      simp only [Int.toNat_natCast]
      exact worldO_mk (w := ⟨kn.1, List.replicate i freshPainter, []⟩) r1 l1 r2 l2 r3 r4 (painters0 g3 (by omega)) (GrR.of_gr g2)
theorem l72Play_f (h : PHeap) (br : Nat) (v : Value) (xs : List (Fin 256)) (s : Sl h v u8F xs) (hs : xs.length ≤ 2000) (p : Nat) (hp1 : p ≤ 900000) : CallF Tryz.prog M 49 [.pointer (some ⟨br, 0, none⟩)] (rdA br v p) h fun u A => ∃ (g : Grid) (c ev : Value) (many : Int) (es : List Event') (w : World') (cs : List Value) (AG AE AW : Own) (q : Nat), u = .tuple #[.agg #[.int .i64 g.wide, c], .int .i64 many, ev, .agg cs.toArray] ∧ A = rdA br v q ++ (AG ++ (AE ++ AW)) ∧ Gr AG c 35 cellF g.cells ∧ gridOk g = true ∧ Gr AE ev 132 eventF es ∧ (worldR τ).O AW cs w ∧ WOk w ∧ q ≤ p + 2000 ∧ es.length ≤ 53 ∧ 1 ≤ many ∧ many ≤ 3 ∧ w = wDos (worldNew g many).1 es := by
  have o0 := s.one
  refine Cs Tryz.func49 Tryz.ntmps49 ?_
  repeat first | refine R1 ?_ | refine R2 fun _ => ?_
  refine fp (y_call (l71Grid_f _ br v xs s hs p (by omega)) (by rfl) ?_)
  rintro _ _ ⟨g, c, AG, q, rfl, gg, -, -, -, g25, hq, rfl, gok'⟩
  have o1 := gg.one
  repeat first | refine R1 ?_ | refine R2 fun _ => ?_
  refine fp (y_call (pick_f _ br v xs s hs q 3 (by omega) (by omega) (by omega)) (by rfl) ?_)
  rintro _ _ ⟨m, rfl, m0, m1, rfl⟩
  have hw : (worldNew g (1 + m)).2 = true := by
    have hk : (keepNew g (1 + m)).2 = true := by
      unfold keepNew
      rw [if_pos (by simp only [Bool.and_eq_true, decide_eq_true_eq]; exact ⟨gok', by omega, by omega⟩)]
    rw [worldNew_T hk]
  obtain ⟨ok0, hmn, -, -, -⟩ := worldNew_ok hw
  repeat first | refine R1 ?_ | refine R2 fun _ => ?_
  refine fp (y_call (lendF AG fun h' l' inb => sWorldNew_f h' _ g (1 + m) (gridB_mk (gg.lent (by omega) inb)) (by omega)) (by rfl) ?_)
  rintro _ _ ⟨A2, rfl, cs, rfl, q2⟩
  have q0 := q2
  obtain ⟨c1, c2, c3, c4, c5, c6, rfl, u1, u2, u3, u4, u5, u6⟩ := worldC q2
  repeat first | refine R1 ?_ | refine R2 fun _ => ?_
  refine Xb fun ev0 AE0 ge0 => ?_
  have oe := ge0.one
  repeat first | refine R1 ?_ | refine R2 fun _ => ?_
  refine fp (y_call (pick_f _ br v xs s hs (q + 1) 54 (by omega) (by omega) (by omega)) (by rfl) ?_)
  rintro _ _ ⟨n, rfl, n0, n1, rfl⟩
  obtain ⟨n, rfl⟩ : ∃ k : Nat, n = k := ⟨n.toNat, by omega⟩
  repeat first | refine R1 ?_ | refine R2 fun _ => ?_
  rename_i b2 b5 b6 b8
  refine sf_lp (ι := Nat × Value) [0, 2, 5, 6, 7, 8] (fun x => [(11, .int .i64 (x.1 : Int)), (10, x.2)]) (fun x O => x.1 ≤ n ∧ ∃ cs q' AE AW es, O = rdA br v q' ++ ((b8, .cells cs.toArray 91) :: (AE ++ (AW ++ (AG ++ [(b6, .cells #[.int .i64 g.wide, c] 25), (b5, .cells #[.int .i64 0, .slice none 0 0, .slice none 0 0, .slice none 0 0, .slice none 0 0, .slice none 0 0, .slice none 0 0] 91), (b2, .cells #[.int .i64 0, .slice none 0 0] 25)])))) ∧ Gr AE x.2 132 eventF es ∧ es.length = n - x.1 ∧ (worldR τ).O AW cs (wDos (worldNew g (1 + m)).1 es) ∧ q' + 20 * x.1 ≤ q + 2 + 20 * n) (fun x => x.1) (n, ev0) (rdA br v (q + 1 + 1) ++ ((b8, .cells #[.int .i64 (worldNew g (1 + m)).1.keeper.first.wide, c1, c2, c3, c4, c5, c6] 91) :: (AE0 ++ (A2 ++ (AG ++ [(b6, .cells #[.int .i64 g.wide, c] 25), (b5, .cells #[.int .i64 0, .slice none 0 0, .slice none 0 0, .slice none 0 0, .slice none 0 0, .slice none 0 0, .slice none 0 0] 91), (b2, .cells #[.int .i64 0, .slice none 0 0] 25)]))))) ⟨by simp only; omega, _, _, AE0, A2, [], rfl, ge0, by simp, q0, by simp only; omega⟩ ?_
  clear ge0 oe q0 q2 u1 u2 u3 u4 u5 u6
  rintro ⟨k, ev⟩ O ⟨hk, cs, q', AE, AW, es, rfl, ge, he, qw, hq'⟩
  simp only at hk ge he hq' ⊢
  have oe := ge.one
  have okw := ok0.dos es
  have hes : es.length ≤ 53 := by omega
  generalize hwd : wDos (worldNew g (1 + m)).1 es = w at *
  have q0 := qw
  obtain ⟨c1, c2, c3, c4, c5, c6, rfl, u1, u2, u3, u4, u5, u6⟩ := worldC qw
  have hmw := okw.many
  have hw1 := okw.head.n1
  have hw3 := okw.head.n3
  have hw10 := okw.nets
  have hwg := (gok okw.head.grid).small
  repeat first | refine R1 ?_ | refine R2 fun _ => ?_
  refine sf_if (fun e => ?_) fun e => ?_
  · obtain ⟨k, rfl⟩ : ∃ k' : Nat, k = k' + 1 := ⟨k - 1, by omega⟩
    repeat first | refine R1 ?_ | refine R2 fun _ => ?_
    refine fp (y_call (lendF AW fun h' l' inb => l72Event_f h' br v xs (s.le l'.le) hs q' (by omega) _ w ((worldR τ).lent q0 inb) (by omega) (by omega) (by omega) (by omega)) (by rfl) ?_)
    rintro _ _ ⟨_, rfl, e', q3, rfl, hq3, rfl⟩
    simp only [eventV]
    repeat first | refine R1 ?_ | refine R2 fun _ => ?_
    refine Xb fun u Au gu => ?_
    repeat first | refine R1 ?_ | refine R2 fun _ => ?_
    refine Xa ge gu fun ev2 A5 g5 => ?_
    have oe2 := g5.one
    repeat first | refine R1 ?_ | refine R2 fun _ => ?_
    refine fp (y_call (l31Do_f h _ _ w q0 okw e') (by rfl) ?_)
    rintro _ A6 ⟨cs, rfl, q6⟩
    have q7 := q6
    obtain ⟨d1, d2, d3, d4, d5, d6, rfl, w1, w2, w3, w4, w5, w6⟩ := worldC q6
    repeat first | refine R1 ?_ | refine R2 fun _ => ?_
    rw [show ((k + 1 : Nat) : Int) - 1 = (k : Int) by omega]
    refine ⟨(k, ev2), by simp only; omega, ⟨rfl, rfl, trivial⟩, rfl, rdA br v q3 ++ ((b8, .cells #[.int .i64 (wDo w e').keeper.first.wide, d1, d2, d3, d4, d5, d6] 91) :: (A5 ++ (A6 ++ (AG ++ [(b6, .cells #[.int .i64 g.wide, c] 25), (b5, .cells #[.int .i64 0, .slice none 0 0, .slice none 0 0, .slice none 0 0, .slice none 0 0, .slice none 0 0, .slice none 0 0] 91), (b2, .cells #[.int .i64 0, .slice none 0 0] 25)])))), _, inferInstance, by simp only; omega, _, q3, A5, A6, es ++ [e'], rfl, g5, by simp; omega, ?_, by simp only; omega⟩
    rw [show wDos (worldNew g (1 + m)).1 (es ++ [e']) = wDo w e' by rw [← hwd]; simp [wDos]]
    exact q7
  · refine sf_exit ?_
    repeat first | refine R1 ?_ | refine R2 fun _ => ?_
    refine sf_draw (by kernel_rfl) (regX_own ([(b2, .cells #[.int .i64 0, .slice none 0 0] 25), (b5, .cells #[.int .i64 0, .slice none 0 0, .slice none 0 0, .slice none 0 0, .slice none 0 0, .slice none 0 0, .slice none 0 0] 91)]) (Sw [[],[],[],[],[0],[0,1,4],[0,1,2,4,5],[0,1,2,3,4,5,6]] 7 [Nn 0,Nn 1,Nn 2,Nn 3,Yy 4,Nn 5,Nn 6] ?_))
    refine Da ?_
    refine a_store (by rfl) (by rfl) (by rfl) (.inl rfl) ?_
    refine Da ?_
    refine Ae ?_
    repeat first | refine R1 ?_ | refine R2 fun _ => ?_
    exact sf_ret (rt (rdA br v q' ++ (AG ++ (AE ++ AW))) (resV_four rfl (yr_cell rfl) (res_tmp rfl) (res_tmp rfl) (yr_cell rfl)) ⟨g, c, ev, 1 + m, es, w, _, AG, AE, AW, q', rfl, rfl, gg, gok', ge, q0, okw, by omega, hes, by omega, by omega, hwd.symm⟩)
structure DrawnP (cs : List Value) (p : Painter) (A : Own) : Prop where
  own : (painterR τ).O A cs p
  size : szPainterN p ≤ 200000
  lo : -1 ≤ p.ver
  hi : p.ver ≤ 61
  c25 : p.scene.grid.cells.length ≤ 25
theorem paint_small {p : Painter} (h : paintOk p = true) : szPainterN p ≤ 100000 ∧ 0 ≤ p.ver ∧ p.ver ≤ 60 ∧ p.scene.grid.cells.length ≤ 25 := by
  refine ⟨sz_painter h, ?_⟩
  by_cases hh : p.has = true
  · obtain ⟨-, h0, h1, h2⟩ := paintOk_has h hh
    exact ⟨h0, h1, by have := (gok (sceneOk_is h2).1).small; omega⟩
  · unfold paintOk at h
    rw [if_neg hh] at h
    simp only [Bool.and_eq_true, decide_eq_true_eq] at h
    rw [h.1, h.2]; decide
theorem l72Painter_f (h : PHeap) (br : Nat) (v : Value) (xs : List (Fin 256)) (s : Sl h v u8F xs) (hs : xs.length ≤ 2000) (p : Nat) (hp1 : p ≤ 800000) : CallF Tryz.prog M 26 [.pointer (some ⟨br, 0, none⟩)] (rdA br v p) h fun u A => ∃ (x : Painter) (cs : List Value) (A' : Own) (q : Nat), u = .agg cs.toArray ∧ A = rdA br v q ++ A' ∧ DrawnP cs x A' ∧ q ≤ p + 2010 := by
  have o0 := s.one
  refine Cs Tryz.func26 Tryz.ntmps26 ?_
  repeat first | refine R1 ?_ | refine R2 fun _ => ?_
  refine fp (y_call (l72Play_f _ br v xs s hs p (by omega)) (by rfl) ?_)
  rintro _ _ ⟨g, c, ev, many, es, w, cs, AG, AE, AW, q, rfl, rfl, gg, gok', ge, qw, okw, hq, -, -, -, -⟩
  obtain ⟨c1, e1, p1, s1, ps1, ns1, AK, AP, AN, rfl, rfl, qk, gp, gn, o1, o2, o3, o4⟩ := worldX qw
  have o5 := gp.one
  have o6 := gn.one
  have o7 := gg.one
  have o8 := ge.one
  have hm := okw.many
  have n1 := okw.head.n1
  have n3 := okw.head.n3
  have hps := okw.ps
  clear gg ge qw
  obtain ⟨D0, D1, rfl, rp, gq, op, hp⟩ := gp
  have lp := op.len
  repeat first | refine R1 ?_ | refine R2 fun _ => ?_
  rename_i b2 b3 b6
  apply viaT
  · intro tail
    refine sf_draw (by kernel_rfl) (regX_own (rdA br v q) (regX_split 6 9 (by rfl) ?_ ?_))
    case' refine_1 =>
      refine Sw [[],[0],[],[],[3],[3,4],[2,3,4,5],[0,1,2,3,4,5,6],[0,1,2,3,4,5,6,7],[2,3,4,5,6],[0,1,2,3,4,5,6,7,8,9]] 10 [Nn 0,Nn 1,Nn 2,Nn 3,Nn 4,Nn 5,Yy 6,Nn 7,Nn 8,Yy 9] ?_
      refine Di ?_
      refine Yc (pick_f _ br v xs s hs q (rp.length : Int) (by omega) (by omega) (by omega)) ?_
      rintro _ _ ⟨m, rfl, m0, m1, rfl⟩
      obtain ⟨j, rfl⟩ : ∃ j : Nat, m = j := ⟨m.toNat, by omega⟩
      have hj : j < w.painters.length := by omega
      obtain ⟨c, l, f, ex, o9, o10, o11⟩ : ∃ c l f, (gt rp j).cs = [.bool (gt w.painters j).up, .bool (gt w.painters j).has, .int .i64 (gt w.painters j).ver, .int .i64 (gt w.painters j).scene.grid.wide, c, l, f] ∧ Sl.One c ∧ Sl.One l ∧ Sl.One f := by
        obtain ⟨_, _, _, -, qp, -⟩ := op.at (k := j) hj
        exact painterX qp
      haveI i1 : FlatV (rawF (painterR τ).sz) (gt rp j) [.bool (gt w.painters j).up, .bool (gt w.painters j).has, .int .i64 (gt w.painters j).ver, .int .i64 (gt w.painters j).scene.grid.wide, c, l, f] := ⟨ex⟩
      haveI i2 : FlatV (rawF (painterR τ).sz) (gt rp (j : Int).toNat) [.bool (gt w.painters j).up, .bool (gt w.painters j).has, .int .i64 (gt w.painters j).ver, .int .i64 (gt w.painters j).scene.grid.wide, c, l, f] := ⟨ex⟩
      refine Di ?_
      refine Yl fun b7 => ?_
      refine Di ?_
      refine Ae ?_
    case' refine_2 =>
      refine Sw [[],[0],[],[],[3],[3,4],[2,3,4,5,9],[0,1,2,3,4,5,6,9],[0,1,2,3,4,5,6,7,9],[],[0,1,2,3,4,5,6,7,8,9]] 10 [Nn 0,Nn 1,Nn 2,Nn 3,Nn 4,Nn 5,Yy 9,Yy 6,Nn 7,Nn 8] ?_
      refine Di ?_
      refine Yl fun b7 => ?_
      refine Di ?_
      refine Yc (pick_f _ br v xs s hs q (rp.length : Int) (by omega) (by omega) (by omega)) ?_
      rintro _ _ ⟨m, rfl, m0, m1, rfl⟩
      obtain ⟨j, rfl⟩ : ∃ j : Nat, m = j := ⟨m.toNat, by omega⟩
      have hj : j < w.painters.length := by omega
      obtain ⟨c, l, f, ex, o9, o10, o11⟩ : ∃ c l f, (gt rp j).cs = [.bool (gt w.painters j).up, .bool (gt w.painters j).has, .int .i64 (gt w.painters j).ver, .int .i64 (gt w.painters j).scene.grid.wide, c, l, f] ∧ Sl.One c ∧ Sl.One l ∧ Sl.One f := by
        obtain ⟨_, _, _, -, qp, -⟩ := op.at (k := j) hj
        exact painterX qp
      haveI i1 : FlatV (rawF (painterR τ).sz) (gt rp j) [.bool (gt w.painters j).up, .bool (gt w.painters j).has, .int .i64 (gt w.painters j).ver, .int .i64 (gt w.painters j).scene.grid.wide, c, l, f] := ⟨ex⟩
      haveI i2 : FlatV (rawF (painterR τ).sz) (gt rp (j : Int).toNat) [.bool (gt w.painters j).up, .bool (gt w.painters j).has, .int .i64 (gt w.painters j).ver, .int .i64 (gt w.painters j).scene.grid.wide, c, l, f] := ⟨ex⟩
      refine Di ?_
      refine Ae ?_
    all_goals
      refine R1 ?_
      refine R1 ?_
      refine sf_keep [0, 2, 7] ?_
      refine sf_own (rdA br v (q + 1) ++ ((b7, .cells #[.bool (gt w.painters j).up, .bool (gt w.painters j).has, .int .i64 (gt w.painters j).ver, .int .i64 (gt w.painters j).scene.grid.wide, c, l, f] 31) :: (D1 ++ [(b2, .cells #[.bool false, .bool false, .int .i64 0, .int .i64 0, .slice none 0 0, .slice none 0 0, .slice none 0 0] 31)]))) ?_
      clear i1 i2 o9 o10 o11 m0 m1
      revert ex; revert hj; revert f; revert l; revert c; revert j; revert b7
      exact tail.out
  intro b7 j c l f hj ex
  obtain ⟨C1, Ck, C2, rfl, qp, oset⟩ := op.at (k := j) hj
  obtain ⟨c', l', f', X1, X2, X3, ex', rfl, ⟨g1, l1⟩, ⟨g2, l2⟩, g3⟩ := painterO qp
  rw [ex] at ex'
  simp only [List.cons.injEq, and_true, true_and] at ex'
  obtain ⟨rfl, rfl, rfl⟩ := ex'
  have hx := paint_small (painterTrue_is (hps _ (gt_mem hj))).2.1
  clear qp oset op ex
  generalize gt w.painters j = x at *
  obtain ⟨x1, x2, x3, x4⟩ := hx
  have o9 := g1.one
  have o10 := g2.one
  have o11 := g3.one
  repeat first | refine R1 ?_ | refine R2 fun _ => ?_
  refine fp (y_call (pick_f _ br v xs s hs (q + 1) 36 (by omega) (by omega) (by omega)) (by rfl) ?_)
  rintro _ _ ⟨m, rfl, -, -, rfl⟩
  repeat first | refine R1 ?_ | refine R2 fun _ => ?_
  refine sf_if (fun e0 => ?_) fun e0 => ?_
  · repeat first | refine R1 ?_ | refine R2 fun _ => ?_
    refine Xb fun u Au gu => ?_
    repeat first | refine R1 ?_ | refine R2 fun _ => ?_
    refine fp (y_call (pick_f _ br v xs s hs (q + 1 + 1) 3 (by omega) (by omega) (by omega)) (by rfl) ?_)
    rintro _ _ ⟨m3, rfl, m30, m31, rfl⟩
    obtain ⟨k, rfl⟩ : ∃ k : Nat, m3 = k := ⟨m3.toNat, by omega⟩
    repeat first | refine R1 ?_ | refine R2 fun _ => ?_
    refine fp (Rq ?_ (z_indexG (by rfl) (by rfl) gu (by simp; omega)))
    repeat first | refine R1 ?_ | refine R2 fun _ => ?_
    refine fp (Rq ?_ (z_loadG (by rfl) gu (by simp; omega) (by rfl)))
    repeat first | refine R1 ?_ | refine R2 fun _ => ?_
    have hv : -1 ≤ gt [(-1 : Int), 60, 61] k ∧ gt [(-1 : Int), 60, 61] k ≤ 61 := by
      have : k = 0 ∨ k = 1 ∨ k = 2 := by omega
      rcases this with rfl | rfl | rfl <;> decide
    exact sf_ret (rt (rdA br v (q + 1 + 1 + 1) ++ (X1 ++ (X2 ++ X3))) (resV_one rfl (yr_cell rfl)) ⟨{ x with ver := gt [(-1 : Int), 60, 61] k }, _, _, q + 1 + 1 + 1, rfl, rfl, ⟨painterO_mk (p := { x with ver := gt [(-1 : Int), 60, 61] k }) g1 l1 g2 l2 g3, by show szSceneN x.scene ≤ _; have : szSceneN x.scene = szPainterN x := rfl; omega, hv.1, hv.2, x4⟩, by omega⟩)
  repeat first | refine R1 ?_ | refine R2 fun _ => ?_
  refine sf_if (fun e1 => ?_) fun e1 => ?_
  · repeat first | refine R1 ?_ | refine R2 fun _ => ?_
    exact sf_ret (rt (rdA br v (q + 1 + 1) ++ (X1 ++ (X2 ++ X3))) (resV_one rfl (yr_cell rfl)) ⟨{ x with up := !x.up }, _, _, q + 1 + 1, rfl, rfl, ⟨painterO_mk (p := { x with up := !x.up }) g1 l1 g2 l2 g3, by show szSceneN x.scene ≤ _; have : szSceneN x.scene = szPainterN x := rfl; omega, by simp only; omega, by simp only; omega, x4⟩, by omega⟩)
  repeat first | refine R1 ?_ | refine R2 fun _ => ?_
  refine sf_if (fun e2 => ?_) fun e2 => ?_
  · repeat first | refine R1 ?_ | refine R2 fun _ => ?_
    exact sf_ret (rt (rdA br v (q + 1 + 1) ++ (X1 ++ (X2 ++ X3))) (resV_one rfl (yr_cell rfl)) ⟨{ x with has := !x.has }, _, _, q + 1 + 1, rfl, rfl, ⟨painterO_mk (p := { x with has := !x.has }) g1 l1 g2 l2 g3, by show szSceneN x.scene ≤ _; have : szSceneN x.scene = szPainterN x := rfl; omega, by simp only; omega, by simp only; omega, x4⟩, by omega⟩)
  repeat first | refine R1 ?_ | refine R2 fun _ => ?_
  refine sf_if (fun e3 => ?_) fun e3 => ?_
  · repeat first | refine R1 ?_ | refine R2 fun _ => ?_
    refine sf_if (fun e4 => ?_) fun e4 => ?_
    · have h0 : 0 < x.scene.lights.length := by omega
      repeat first | refine R1 ?_ | refine R2 fun _ => ?_ | refine fp (Rq ?_ (z_indexGI (by rfl) (by rfl) (by assumption) (by omega) (by omega)))
      refine Sd [[],[0],[0,1],[],[3],[3,4],[3,4,5],[3,4,5,6],[3,4,5,6,7],[0,1,2,3,4,5,6,7,8],[0,1,2,3,4,5,6,7,8,9]] 9 [Nn 0,Nn 1,Nn 2,Nn 3,Nn 4,Nn 5,Nn 6,Nn 7,Nn 8] ?_
      refine Di ?_
      refine Ae ?_
      repeat first | refine R1 ?_ | refine R2 fun _ => ?_ | refine fp (Rq ?_ (z_indexGI (by rfl) (by rfl) (by assumption) (by omega) (by omega)))
      refine fp (y_storeG0 (j := 0) (sz := 1) (by rfl) (by rfl) g2 (by omega) (by rfl) fun X5 ys ey ly _ g5 => ?_)
      repeat first | refine R1 ?_ | refine R2 fun _ => ?_
      exact sf_ret (rt (rdA br v (q + 1 + 1) ++ (X1 ++ (X5 ++ X3))) (resV_one rfl (yr_cell rfl)) ⟨{ x with scene := { x.scene with lights := ys } }, _, _, q + 1 + 1, rfl, rfl, ⟨painterO_mk (p := { x with scene := { x.scene with lights := ys } }) g1 l1 g5 (by simp only; omega) g3, by have : szPainterN x = x.scene.grid.cells.length + x.scene.lights.length + szIntSSN x.scene.feet := rfl; show x.scene.grid.cells.length + ys.length + szIntSSN x.scene.feet ≤ _; omega, by simp only; omega, by simp only; omega, x4⟩, by omega⟩)
    · repeat first | refine R1 ?_ | refine R2 fun _ => ?_
      exact sf_ret (rt (rdA br v (q + 1 + 1) ++ (X1 ++ (X2 ++ X3))) (resV_one rfl (yr_cell rfl)) ⟨x, _, _, q + 1 + 1, rfl, rfl, ⟨painterO_mk g1 l1 g2 l2 g3, by omega, by omega, by omega, x4⟩, by omega⟩)
  · repeat first | refine R1 ?_ | refine R2 fun _ => ?_
    exact sf_ret (rt (rdA br v (q + 1 + 1) ++ (X1 ++ (X2 ++ X3))) (resV_one rfl (yr_cell rfl)) ⟨x, _, _, q + 1 + 1, rfl, rfl, ⟨painterO_mk g1 l1 g2 l2 g3, by omega, by omega, by omega, x4⟩, by omega⟩)
def Drawn (u : Value) (g : Grid) (A : Own) : Prop := ∃ c, u = .agg #[.int .i64 g.wide, c] ∧ Sl.One c ∧ ∀ h', InB h' A → Sl h' c cellF g.cells
theorem drawn_gr {A : Own} {c : Value} {g : Grid} (gr : Gr A c 35 cellF g.cells) (hl : g.cells.length ≤ 100) : Drawn (.agg #[.int .i64 g.wide, c]) g A := ⟨c, rfl, gr.one, fun h' i => gr.lent (by omega) i⟩
theorem l71Some_f (h : PHeap) (br : Nat) (v : Value) (xs : List (Fin 256)) (s : Sl h v u8F xs) (hs : xs.length ≤ 2000) (p : Nat) (hp1 : p ≤ 990000) : CallF Tryz.prog M 36 [.pointer (some ⟨br, 0, none⟩)] (rdA br v p) h fun u A => ∃ (g : Grid) (A' : Own) (q : Nat), Drawn u g A' ∧ g.cells.length ≤ 100 ∧ q ≤ p + 100 ∧ A = rdA br v q ++ A' := by
  have o1 := s.one
  refine Cs Tryz.func36 Tryz.ntmps36 ?_
  repeat first | refine R1 ?_ | refine R2 fun _ => ?_
  refine fp (y_call (l71Grid_f _ br v xs s hs p (by omega)) (by rfl) ?_)
  rintro _ A1 ⟨⟨wide, ys⟩, c, A', q, rfl, gr, w1, w5, n1, n25, hq, rfl, -⟩
  simp only at w1 w5 n1 n25 gr ⊢
  have oc := gr.one
  repeat first | refine R1 ?_ | refine R2 fun _ => ?_
  refine fp (y_call (pick_f _ br v xs s hs q 24 (by omega) (by omega) (by omega)) (by rfl) ?_)
  rintro _ A2 ⟨m, rfl, m0, m1, rfl⟩
  repeat first | refine R1 ?_ | refine R2 fun _ => ?_
  refine sf_if (fun e => ?_) fun e => ?_
  · repeat first | refine R1 ?_ | refine R2 fun _ => ?_
    exact sf_ret (rt (rdA br v (q + 1) ++ A') (resV_one rfl (yr_cell rfl)) ⟨⟨wide, ys⟩, A', q + 1, drawn_gr (g := ⟨wide, ys⟩) gr (by simp only; omega), by simp only; omega, by omega, rfl⟩)
  repeat first | refine R1 ?_ | refine R2 fun _ => ?_
  refine fp (y_call (pick_f _ br v xs s hs (q + 1) 5 (by omega) (by omega) (by omega)) (by rfl) ?_)
  rintro _ A3 ⟨m2, rfl, m20, m21, rfl⟩
  repeat first | refine R1 ?_ | refine R2 fun _ => ?_
  rename_i b2 b3
  refine sf_if (fun e0 => ?_) fun e0 => ?_
  · repeat first | refine R1 ?_ | refine R2 fun _ => ?_
    refine Xb fun w Aw gw => ?_
    repeat first | refine R1 ?_ | refine R2 fun _ => ?_
    refine fp (y_call (pick_f _ br v xs s hs (q + 1 + 1) 3 (by omega) (by omega) (by omega)) (by rfl) ?_)
    rintro _ A4 ⟨m3, rfl, m30, m31, rfl⟩
    obtain ⟨k, rfl⟩ : ∃ k : Nat, m3 = k := ⟨m3.toNat, by omega⟩
    repeat first | refine R1 ?_ | refine R2 fun _ => ?_
    refine fp (Rq ?_ (z_indexG (by rfl) (by rfl) gw (by simp; omega)))
    repeat first | refine R1 ?_ | refine R2 fun _ => ?_
    refine fp (Rq ?_ (z_loadG (by rfl) gw (by simp; omega) (by rfl)))
    repeat first | refine R1 ?_ | refine R2 fun _ => ?_
    exact sf_ret (rt (rdA br v (q + 1 + 1 + 1) ++ A') (resV_one rfl (yr_cell rfl)) ⟨⟨_, ys⟩, A', q + 1 + 1 + 1, drawn_gr (g := ⟨_, ys⟩) gr (by simp only; omega), by simp only; omega, by omega, rfl⟩)
  repeat first | refine R1 ?_ | refine R2 fun _ => ?_
  refine sf_if (fun e1 => ?_) fun e1 => ?_
  · obtain ⟨b, cap, rfl, hc, hrest⟩ := gr.rest (by omega) (by omega)
    repeat first | refine R1 ?_ | refine R2 fun _ => ?_
    refine fp (Rq ?_ (q_sliceLo (l := 1) (by infer_instance) (by infer_instance) (by rfl) (by rfl) (by omega)))
    repeat first | refine R1 ?_ | refine R2 fun _ => ?_
    exact sf_ret (rt (rdA br v (q + 1 + 1) ++ A') (resV_one rfl (yr_cell rfl)) ⟨⟨wide, ys.tail⟩, A', q + 1 + 1, ⟨_, rfl, inferInstance, hrest⟩, by simp; omega, by omega, rfl⟩)
  repeat first | refine R1 ?_ | refine R2 fun _ => ?_
  refine sf_if (fun e2 => ?_) fun e2 => ?_
  · have hn := Int.natCast_nonneg ys.length
    repeat first | refine R1 ?_ | refine R2 fun _ => ?_
    refine sf_draw (by kernel_rfl) (regX_own (rdA br v (q + 1 + 1)) (Sw [[],[0],[],[],[3],[3,4],[2,3,4,5],[],[2,3,4,5,6,7],[0,1,2,3,4,5,6,7,8],[0,1,2,3,4,5,6,7,8,9]] 9 [Nn 0,Nn 1,Nn 2,Nn 3,Nn 4,Nn 5,Nn 7,Yy 6,Yy 8] ?_))
    refine Da ?_
    refine Yc (pick_f _ br v xs s hs (q + 1 + 1) (ys.length : Int) (by omega) (by omega) (by omega)) ?_
    rintro _ A4 ⟨m3, rfl, m30, m31, rfl⟩
    obtain ⟨k, rfl⟩ : ∃ k : Nat, m3 = k := ⟨m3.toNat, by omega⟩
    have hk : k < ys.length := by omega
    refine Da ?_
    refine Yc (l71Off_f _ br v xs s hs (q + 1 + 1 + 1) (by omega)) ?_
    rintro _ A5 ⟨cc, q2, rfl, hq2, rfl⟩
    refine Da ?_
    refine Ae ?_
    repeat first | refine R1 ?_ | refine R2 fun _ => ?_
    refine Xg gr fun A6 zs ez lz _ g6 => ?_
    repeat first | refine R1 ?_ | refine R2 fun _ => ?_
    exact sf_ret (rt (rdA br v q2 ++ A6) (resV_one rfl (yr_cell rfl)) ⟨⟨wide, zs⟩, A6, q2, drawn_gr (g := ⟨wide, zs⟩) g6 (by simp only; omega), by simp only; omega, by omega, rfl⟩)
  repeat first | refine R1 ?_ | refine R2 fun _ => ?_
  refine sf_if (fun e3 => ?_) fun e3 => ?_
  · repeat first | refine R1 ?_ | refine R2 fun _ => ?_
    obtain ⟨w, rfl⟩ : ∃ w : Nat, wide = w := ⟨wide.toNat, by omega⟩
    refine sf_lp (ι := List Cell) [2, 3] (fun _ => []) (fun zs O => zs.length ≤ 5 * w + 25 ∧ ∃ c A', O = rdA br v (q + 1 + 1) ++ ((b3, .cells #[.int .i64 w, c] 25) :: (A' ++ [(b2, .cells #[.int .i64 0, .slice none 0 0] 25)])) ∧ Gr A' c 35 cellF zs) (fun zs => 5 * w + 25 - zs.length) ys (rdA br v (q + 1 + 1) ++ ((b3, .cells #[.int .i64 w, c] 25) :: (A' ++ [(b2, .cells #[.int .i64 0, .slice none 0 0] 25)]))) ⟨by omega, _, _, rfl, gr⟩ ?_
    clear gr oc A'
    rintro zs O ⟨hz, c, A', rfl, gr⟩
    have oc := gr.one
    repeat first | refine R1 ?_ | refine R2 fun _ => ?_
    refine sf_if (fun e => ?_) fun e => ?_
    · repeat first | refine R1 ?_ | refine R2 fun _ => ?_
      refine Xb fun w2 Aw gw => ?_
      repeat first | refine R1 ?_ | refine R2 fun _ => ?_
      refine Xa gr gw fun c2 A4 g4 => ?_
      have oc2 := g4.one
      repeat first | refine R1 ?_ | refine R2 fun _ => ?_
      exact ⟨_, by simp; omega, trivial, rfl, rdA br v (q + 1 + 1) ++ ((b3, .cells #[.int .i64 w, c2] 25) :: (A4 ++ [(b2, .cells #[.int .i64 0, .slice none 0 0] 25)])), _, inferInstance, by simp; omega, c2, A4, rfl, g4⟩
    · refine sf_exit ?_
      repeat first | refine R1 ?_ | refine R2 fun _ => ?_
      exact sf_ret (rt (rdA br v (q + 1 + 1) ++ A') (resV_one rfl (yr_cell rfl)) ⟨⟨w, zs⟩, A', q + 1 + 1, drawn_gr (g := ⟨w, zs⟩) gr (by simp only; omega), by simp only; omega, by omega, rfl⟩)
  repeat first | refine R1 ?_ | refine R2 fun _ => ?_
  exact sf_ret (rt (rdA br v (q + 1 + 1)) (resV_one rfl (yr_cell rfl)) ⟨⟨wide, []⟩, [], q + 1 + 1, ⟨_, rfl, inferInstance, fun _ _ => Sl.nil _ _⟩, by simp, by omega, by simp⟩)
theorem l6Open_f (h : PHeap) (v : Value) (xs : List (Fin 256)) (s : Sl h v u8F xs) : CallF Tryz.prog M 25 [v] [] h fun u A => ∃ br v' xs', u = .pointer (some ⟨br, 0, none⟩) ∧ A = rdA br v' 0 ∧ Sl h v' u8F xs' ∧ xs'.length ≤ 2000 := by
  have o1 := s.one
  have hs := s.small
  refine Cs Tryz.func25 Tryz.ntmps25 ?_
  repeat first | refine R1 ?_ | refine R2 fun _ => ?_
  refine sf_if (fun e => ?_) fun e => ?_
  · obtain ⟨cap, hv, hc, s2⟩ := s.front (l := 2000) (by omega) (by omega)
    rw [hv]
    repeat first | refine R1 ?_ | refine R2 fun _ => ?_
    refine fp (Rq ?_ (q_sliceHi (l := 2000) (by infer_instance) (by infer_instance) (by rfl) (by rfl) (by omega)))
    repeat first | refine R1 ?_ | refine R2 fun _ => ?_
    rename_i br
    exact sf_ret (rt (rdA br (.slice (some ⟨vb v, vo v, none⟩) 2000 cap) 0) (resV_one rfl (res_tmp rfl)) ⟨br, _, _, rfl, rfl, s2, by simp; omega⟩)
  · repeat first | refine R1 ?_ | refine R2 fun _ => ?_
    rename_i br
    exact sf_ret (rt (rdA br v 0) (resV_one rfl (res_tmp rfl)) ⟨br, v, xs, rfl, rfl, s, by omega⟩)
structure DrawnWd (cs : List Value) (w : Word) (A : Own) : Prop where
  cells : ∃ c l, cs = wordCs w c l ∧ Sl.One c ∧ Sl.One l
  lent : ∀ h', InB h' A → (wordR τ).B h' cs w
theorem DrawnP.grid {p : Painter} {A : Own} {a b d z c x1 x2 : Value} (q : DrawnP [a, b, d, z, c, x1, x2] p A) {h' : PHeap} (i : InB h' A) : (gridR τ).B h' [z, c] p.scene.grid := by
  obtain ⟨c', l', f', ec, s1, -, -⟩ := painterB ((painterR τ).lent q.own i)
  simp only [List.cons.injEq, and_true] at ec
  obtain ⟨-, -, -, rfl, rfl, -⟩ := ec
  exact gridB_mk s1
theorem drawPaintTell_f (h : PHeap) (v : Value) (xs : List (Fin 256)) (s : Sl h v u8F xs) : CallF Tryz.prog M 9 [v] [] h fun u A => ∃ p cs z m, u = .tuple #[.agg cs.toArray, .int .i64 z, .int .i64 m] ∧ DrawnP cs p A ∧ 0 ≤ z ∧ z ≤ 3 ∧ 1 ≤ m ∧ m ≤ 4 := by
  have o1 := s.one
  refine Cs Tryz.func9 Tryz.ntmps9 ?_
  repeat first | refine R1 ?_ | refine R2 fun _ => ?_
  refine fp (y_call (l6Open_f _ v xs s) (by rfl) ?_)
  rintro _ _ ⟨br, v', xs', rfl, rfl, s', hs'⟩
  have o2 := s'.one
  repeat first | refine R1 ?_ | refine R2 fun _ => ?_
  refine fp (y_call (l72Painter_f _ br v' xs' s' hs' 0 (by omega)) (by rfl) ?_)
  rintro _ _ ⟨p, cs, A', q, rfl, rfl, dp, hq⟩
  have dp0 := dp
  obtain ⟨c, l, f, rfl, u1, u2, u3⟩ := painterX dp.own
  repeat first | refine R1 ?_ | refine R2 fun _ => ?_
  rename_i b2 b6
  refine sf_draw (by kernel_rfl) (regX_own (rdA br v' q ++ [(b2, .cells #[.bool false, .bool false, .int .i64 0, .int .i64 0, .slice none 0 0, .slice none 0 0, .slice none 0 0] 31)]) (Sw [[],[],[1],[1,2],[],[1,2,4],[1,2,4,5],[1,2,3,4,5,6],[],[1,2,4,5,8],[1,2,4,5,8,9],[],[1,2,4,5,8,9,11],[1,2,4,5,8,9,11,12],[1,2,4,5,8,9,10,11,12,13],[0,1,2,4,5,8,9,11,12],[0,1,2,3,4,5,6,7,8,9,11,12,15],[0,1,2,3,4,5,6,7,8,9,10,11,12,13,14,15,16]] 17 [Nn 0,Nn 1,Nn 4,Nn 8,Nn 11,Yy 2,Nn 3,Yy 5,Nn 6,Nn 7,Yy 9,Nn 10,Yy 12,Nn 13,Nn 14,Yy 15,Nn 16] ?_))
  refine Da ?_
  refine Yc (pick_f _ br v' xs' s' hs' q 3 (by omega) (by omega) (by omega)) ?_
  rintro _ _ ⟨m, rfl, m0, m1, rfl⟩
  refine Da ?_
  refine Yc (pick_f _ br v' xs' s' hs' (q + 1) 24 (by omega) (by omega) (by omega)) ?_
  rintro _ _ ⟨m2, rfl, m20, m21, rfl⟩
  refine Da ?_
  refine Yc (pick_f _ br v' xs' s' hs' (q + 1 + 1) 3 (by omega) (by omega) (by omega)) ?_
  rintro _ _ ⟨m3, rfl, m30, m31, rfl⟩
  refine Da ?_
  refine Yc (pick_f _ br v' xs' s' hs' (q + 1 + 1 + 1) 24 (by omega) (by omega) (by omega)) ?_
  rintro _ _ ⟨m4, rfl, m40, m41, rfl⟩
  refine Da ?_
  refine a_store (by rfl) (by rfl) (by rfl) (.inl rfl) ?_
  refine Da ?_
  refine Ae ?_
  repeat first | refine R1 ?_ | refine R2 fun _ => ?_
  exact sf_ret (rt A' (resV_three rfl (yr_cell rfl) (res_tmp rfl) (res_tmp rfl)) ⟨p, _, _, _, rfl, dp0, by omega, by omega, by omega, by omega⟩)
theorem drawPaintHear_f (h : PHeap) (v : Value) (xs : List (Fin 256)) (s : Sl h v u8F xs) : CallF Tryz.prog M 16 [v] [] h fun u A => ∃ p cs w cw A1 A2, u = .tuple #[.agg cs.toArray, .agg cw.toArray] ∧ A = A1 ++ A2 ∧ DrawnP cs p A1 ∧ DrawnWd cw w A2 := by
  have o1 := s.one
  refine Cs Tryz.func16 Tryz.ntmps16 ?_
  repeat first | refine R1 ?_ | refine R2 fun _ => ?_
  refine fp (y_call (l6Open_f _ v xs s) (by rfl) ?_)
  rintro _ _ ⟨br, v', xs', rfl, rfl, s', hs'⟩
  have o2 := s'.one
  repeat first | refine R1 ?_ | refine R2 fun _ => ?_
  refine fp (y_call (l72Painter_f _ br v' xs' s' hs' 0 (by omega)) (by rfl) ?_)
  rintro _ _ ⟨p, cs, A', q, rfl, rfl, dp, hq⟩
  have dp0 := dp
  obtain ⟨qo, hsz, lo, hi, c25⟩ := dp
  obtain ⟨c, l, f, rfl, u1, u2, u3⟩ := painterX qo
  repeat first | refine R1 ?_ | refine R2 fun _ => ?_
  rename_i b2 b3 b5
  apply viaT
  · intro tail
    refine sf_draw (by kernel_rfl) (regX_own (A' ++ rdA br v' q) (regX_split 4 13 (by rfl) (regX_split 11 13 (by rfl) ?_ ?_) ?_))
    case' refine_1 =>
      refine Sw [[],[0],[0,1],[],[3],[3,4],[0,1,2,3,4,5],[],[],[8],[8,9],[3,4,7,8,9,10],[0,1,2,3,4,5,6,7,8,9,10,11],[3,4,7,8,9,10,11],[0,1,2,3,4,5,6,7,8,9,10,11,12,13]] 14 [Nn 0,Nn 1,Nn 2,Nn 3,Nn 7,Nn 8,Nn 9,Nn 10,Yy 4,Nn 5,Nn 6,Yy 11,Nn 12,Yy 13] ?_
      refine Da ?_
      refine Yc (pick_f _ br v' xs' s' hs' q 8 (by omega) (by omega) (by omega)) ?_
      rintro _ _ ⟨m, rfl, m0, m1, rfl⟩
      refine Da ?_
      refine Yc (lendF A' fun h' l' inb => l71Edit_f h' br v' xs' (s'.le l'.le) hs' (q + 1) (by omega) _ p.scene.grid (dp0.grid inb) (by omega)) ?_
      rintro _ _ ⟨_, rfl, ed, q2, rfl, hq2, rfl⟩
      refine Da ?_
      refine Yl fun b6 => ?_
      refine Da ?_
      refine Ae ?_
    case' refine_2 =>
      refine Sw [[],[0],[0,1],[],[3],[3,4],[0,1,2,3,4,5],[],[],[8],[8,9],[3,4,7,8,9,10,13],[0,1,2,3,4,5,6,7,8,9,10,11,13],[3,4],[0,1,2,3,4,5,6,7,8,9,10,11,12,13]] 14 [Nn 0,Nn 1,Nn 2,Nn 3,Nn 7,Nn 8,Nn 9,Nn 10,Yy 4,Nn 5,Nn 6,Yy 13,Yy 11,Nn 12] ?_
      refine Da ?_
      refine Yc (pick_f _ br v' xs' s' hs' q 8 (by omega) (by omega) (by omega)) ?_
      rintro _ _ ⟨m, rfl, m0, m1, rfl⟩
      refine Da ?_
      refine Yl fun b6 => ?_
      refine Da ?_
      refine Yc (lendF A' fun h' l' inb => l71Edit_f h' br v' xs' (s'.le l'.le) hs' (q + 1) (by omega) _ p.scene.grid (dp0.grid inb) (by omega)) ?_
      rintro _ _ ⟨_, rfl, ed, q2, rfl, hq2, rfl⟩
      refine Da ?_
      refine Ae ?_
    case' refine_3 =>
      refine Sw [[],[0],[0,1],[],[3,13],[3,4,13],[0,1,2,3,4,5,13],[],[],[8],[8,9],[3,4,7,8,9,10,13],[0,1,2,3,4,5,6,7,8,9,10,11,13],[],[0,1,2,3,4,5,6,7,8,9,10,11,12,13]] 14 [Nn 0,Nn 1,Nn 2,Nn 3,Nn 7,Nn 8,Nn 9,Nn 10,Yy 13,Yy 4,Nn 5,Nn 6,Yy 11,Nn 12] ?_
      refine Da ?_
      refine Yl fun b6 => ?_
      refine Da ?_
      refine Yc (pick_f _ br v' xs' s' hs' q 8 (by omega) (by omega) (by omega)) ?_
      rintro _ _ ⟨m, rfl, m0, m1, rfl⟩
      refine Da ?_
      refine Yc (lendF A' fun h' l' inb => l71Edit_f h' br v' xs' (s'.le l'.le) hs' (q + 1) (by omega) _ p.scene.grid (dp0.grid inb) (by omega)) ?_
      rintro _ _ ⟨_, rfl, ed, q2, rfl, hq2, rfl⟩
      refine Da ?_
      refine Ae ?_
    all_goals
      refine R1 ?_
      refine R1 ?_
      refine sf_keep [2, 3, 4, 5, 6] ?_
      refine sf_own (A' ++ (rdA br v' q2 ++ [(b6, .cells #[.int .i64 2, .int .i64 1, .int .i64 0, .int .i64 (p.ver + 1 + m / 6), .int .i64 0, .slice none 0 0, .int .i64 ed.at', .int .i64 ed.cell.kind, .int .i64 ed.cell.light, .slice none 0 0] 39), (b5, .cells #[.bool p.up, .bool p.has, .int .i64 p.ver, .int .i64 p.scene.grid.wide, c, l, f] 31), (b3, .cells #[.int .i64 0, .int .i64 0, .int .i64 0, .int .i64 0, .int .i64 0, .slice none 0 0, .int .i64 0, .int .i64 0, .int .i64 0, .slice none 0 0] 39), (b2, .cells #[.bool false, .bool false, .int .i64 0, .int .i64 0, .slice none 0 0, .slice none 0 0, .slice none 0 0] 31)])) ?_
      clear m0 m1
      generalize p.ver + 1 + m / 6 = vr
      clear m
      revert hq2; revert vr; revert q2; revert ed; revert b6
      exact tail.out
  intro b6 ed q2 vr hq2
  repeat first | refine R1 ?_ | refine R2 fun _ => ?_
  refine fp (y_call (pick_f _ br v' xs' s' hs' q2 6 (by omega) (by omega) (by omega)) (by rfl) ?_)
  rintro _ _ ⟨m, rfl, m0, m1, rfl⟩
  repeat first | refine R1 ?_ | refine R2 fun _ => ?_
  refine sf_if (fun e0 => ?_) fun e0 => ?_
  · repeat first | refine R1 ?_ | refine R2 fun _ => ?_
    refine sf_draw (by kernel_rfl) (regX_own (rdA br v' (q2 + 1)) (Sw [[],[0],[],[2],[0,1,2,3],[0,1,2,3,4],[],[2,3,6],[0,1,2,3,4,5,6,7],[0,1,2,3,4,5,6,7,8]] 8 [Nn 0,Nn 1,Nn 2,Nn 6,Yy 3,Nn 4,Nn 5,Yy 7] ?_))
    refine Da ?_
    refine Yc (pick_f _ br v' xs' s' hs' (q2 + 1) 3 (by omega) (by omega) (by omega)) ?_
    rintro _ _ ⟨m2, rfl, m20, m21, rfl⟩
    refine Da ?_
    refine Yc (l71Some_f _ br v' xs' s' hs' (q2 + 1 + 1) (by omega)) ?_
    rintro _ _ ⟨g, A2, q3, ⟨c2, rfl, oc2, sc2⟩, hgl, hq3, rfl⟩
    refine Da ?_
    refine Ae ?_
    repeat first | refine R1 ?_ | refine R2 fun _ => ?_
    refine sf_draw (by kernel_rfl) (regX_own ([(b2, .cells #[.bool false, .bool false, .int .i64 0, .int .i64 0, .slice none 0 0, .slice none 0 0, .slice none 0 0] 31)]) (Sw [[],[],[0],[0,1,2]] 3 [Nn 0,Nn 1,Yy 2] ?_))
    refine Da ?_
    refine a_store (by rfl) (by rfl) (by rfl) (.inl rfl) ?_
    refine Da ?_
    refine Ae ?_
    repeat first | refine R1 ?_ | refine R2 fun _ => ?_
    exact sf_ret (rt (A' ++ A2) (resV_two rfl (yr_cell rfl) (yr_cell rfl)) ⟨p, _, ⟨1, 1, 0, p.ver + m2 - 1, g, noEdit, []⟩, _, A', A2, rfl, rfl, dp0, ⟨⟨c2, .slice none 0 0, rfl, oc2, inferInstance⟩, fun h' i => wordB_mk (w := ⟨1, 1, 0, p.ver + m2 - 1, g, noEdit, []⟩) (sc2 h' i) (Sl.nil _ _)⟩⟩)
  repeat first | refine R1 ?_ | refine R2 fun _ => ?_
  refine sf_if (fun e1 => ?_) fun e1 => ?_
  · repeat first | refine R1 ?_ | refine R2 fun _ => ?_
    refine fp (y_call (pick_f _ br v' xs' s' hs' (q2 + 1) 6 (by omega) (by omega) (by omega)) (by rfl) ?_)
    rintro _ _ ⟨m2, rfl, m20, m21, rfl⟩
    repeat first | refine R1 ?_ | refine R2 fun _ => ?_
    refine sf_draw (by kernel_rfl) (regX_own ([(b2, .cells #[.bool false, .bool false, .int .i64 0, .int .i64 0, .slice none 0 0, .slice none 0 0, .slice none 0 0] 31)]) (Sw [[],[],[0],[0,1,2]] 3 [Nn 0,Nn 1,Yy 2] ?_))
    refine Da ?_
    refine a_store (by rfl) (by rfl) (by rfl) (.inl rfl) ?_
    refine Da ?_
    refine Ae ?_
    repeat first | refine R1 ?_ | refine R2 fun _ => ?_
    exact sf_ret (rt (A' ++ []) (resV_two rfl (yr_cell rfl) (yr_cell rfl)) ⟨p, _, ⟨m2, 1, 0, vr, noGrid, ed, []⟩, _, A', [], rfl, rfl, dp0, ⟨⟨.slice none 0 0, .slice none 0 0, rfl, inferInstance, inferInstance⟩, fun h' i => wordB_mk (w := ⟨m2, 1, 0, vr, noGrid, ed, []⟩) (Sl.nil _ _) (Sl.nil _ _)⟩⟩)
  repeat first | refine R1 ?_ | refine R2 fun _ => ?_
  refine sf_draw (by kernel_rfl) (regX_own ([(b2, .cells #[.bool false, .bool false, .int .i64 0, .int .i64 0, .slice none 0 0, .slice none 0 0, .slice none 0 0] 31)]) (Sw [[],[],[0],[0,1,2]] 3 [Nn 0,Nn 1,Yy 2] ?_))
  refine Da ?_
  refine a_store (by rfl) (by rfl) (by rfl) (.inl rfl) ?_
  refine Da ?_
  refine Ae ?_
  repeat first | refine R1 ?_ | refine R2 fun _ => ?_
  exact sf_ret (rt (A' ++ []) (resV_two rfl (yr_cell rfl) (yr_cell rfl)) ⟨p, _, ⟨2, 1, 0, vr, noGrid, ed, []⟩, _, A', [], rfl, rfl, dp0, ⟨⟨.slice none 0 0, .slice none 0 0, rfl, inferInstance, inferInstance⟩, fun h' i => wordB_mk (w := ⟨2, 1, 0, vr, noGrid, ed, []⟩) (Sl.nil _ _) (Sl.nil _ _)⟩⟩)
instance eqFl_cell_Y6 : EqFl Tryz.prog 35 cellF := eqFl_cell inferInstance (inferInstance : Ty Tryz.prog 3 _ 1 _ _) (by kernel_rfl)
theorem llGrid_v (h : PHeap) (ca cb : List Value) (x y : Grid) (bx : (gridR τ).B h ca x) (by' : (gridR τ).B h cb y) : CallV Tryz.prog M 32 [.agg ca.toArray, .agg cb.toArray] h (.bool (decide (x = y))) := by
  obtain ⟨c1, rfl, s1⟩ := gridB bx
  obtain ⟨c2, rfl, s2⟩ := gridB by'
  have o1 := s1.one
  have o2 := s2.one
  have h1 := s1.small
  have h2 := s2.small
  refine Cs Tryz.func32 Tryz.ntmps32 ?_
  repeat first | refine R1 ?_ | refine R2 fun _ => ?_
  refine f_split (fun e => ?_) fun e => ?_
  · repeat first | refine R1 ?_ | refine R2 fun _ => ?_
    refine sf_T rfl ?_
    repeat first | refine R1 ?_ | refine R2 fun _ => ?_
    exact sf_ret (rV (bF fun z => e (by rw [z])))
  repeat first | refine R1 ?_ | refine R2 fun _ => ?_
  refine sf_if (fun e0 => ?_) fun e0 => ?_
  · repeat first | refine R1 ?_ | refine R2 fun _ => ?_
    exact sf_ret (rV (bF fun z => e0 (by rw [z])))
  have hl : x.cells.length = y.cells.length := by omega
  repeat first | refine R1 ?_ | refine R2 fun _ => ?_
  refine sf_rd [2, 3] 5 x.cells.length 0 (fun k => x.cells.take k = y.cells.take k) (by omega) rfl (fun k hk hi => ?_)
  repeat first | refine R1 ?_ | refine R2 fun _ => ?_
  refine sf_if (fun h4 => ?_) fun h4 => ?_
  · have hk4 : k < x.cells.length := by omega
    have hk5 : k < y.cells.length := by omega
    repeat first | refine R1 ?_ | refine R2 fun _ => ?_
    refine Sd [[],[0],[],[0,1,2],[0,1,2,3],[],[5],[],[5,6,7],[5,6,7,8],[0,1,2,3,4,5,6,7,8,9]] 10 [Nn 0,Nn 1,Nn 2,Nn 3,Nn 4,Nn 5,Nn 6,Nn 7,Nn 8,Nn 9] ?_
    refine Da ?_
    refine Ae ?_
    refine fp (Rq ?_ (q_neqS (E := cellF) (a := gt x.cells k) (b := gt y.cells k) inferInstance (by rfl) (by rfl)))
    repeat first | refine R1 ?_ | refine R2 fun _ => ?_
    refine sf_ifn (fun e1 => ?_) fun e1 => ?_
    · repeat first | refine R1 ?_ | refine R2 fun _ => ?_
      exact sf_ret (rV (bF fun z => eq_at e1 (by rw [z])))
    · repeat first | refine R1 ?_ | refine R2 fun _ => ?_
      exact ⟨⟨hk4, eq_step hk4 hk5 hi e1⟩, rfl, rfl, _, inferInstance⟩
  · refine sf_exit ?_
    repeat first | refine R1 ?_ | refine R2 fun _ => ?_
    have hc := eq_end hl (by omega) hi
    refine sf_ret (rV (bT ?_))
    cases x; cases y; simp_all
theorem llInts_v (h : PHeap) (a b : Value) (xs ys : List Int) (sx : Sl h a intF xs) (sy : Sl h b intF ys) : CallV Tryz.prog M 14 [a, b] h (.bool (decide (xs = ys))) := by
  have o1 := sx.one
  have o2 := sy.one
  have hx := sx.small
  have hy := sy.small
  refine Cs Tryz.func14 Tryz.ntmps14 ?_
  refine Wo ?_
  refine sf_if (fun e0 => ?_) fun e0 => ?_
  · refine Wo ?_
    exact sf_ret (rV (bF fun e => e0 (by rw [e])))
  have hl : xs.length = ys.length := by omega
  refine Wo ?_
  refine sf_rd [0, 1] 5 xs.length 0 (fun k => xs.take k = ys.take k) (by omega) rfl (fun k hk hi => ?_)
  refine Wo ?_
  refine sf_if (fun h4 => ?_) fun h4 => ?_
  · have hk4 : k < xs.length := by omega
    have hk5 : k < ys.length := by omega
    refine Wo ?_
    refine Sd [[],[],[0,1],[0,1,2],[],[],[4,5],[4,5,6],[0,1,2,3,4,5,6,7]] 8 [Nn 0,Nn 1,Nn 2,Nn 3,Nn 4,Nn 5,Nn 6,Nn 7] ?_
    refine Da ?_
    refine Ae ?_
    refine Wo ?_
    refine sf_if (fun e1 => ?_) fun e1 => ?_
    · refine Wo ?_
      exact sf_ret (rV (bF (eq_at e1)))
    · refine Wo ?_
      exact ⟨⟨hk4, eq_step hk4 hk5 hi (by simpa using e1)⟩, rfl, rfl, _, inferInstance⟩
  · refine sf_exit ?_
    refine Wo ?_
    exact sf_ret (rV (bT (eq_end hl (by omega) hi)))
theorem llRows_v (h : PHeap) (a b : Value) (xs ys : List (List Int)) (sx : SlR (intSR τ) h a xs) (sy : SlR (intSR τ) h b ys) : CallV Tryz.prog M 47 [a, b] h (.bool (decide (xs = ys))) := by
  have o1 := sx.one
  have o2 := sy.one
  obtain ⟨rx, sx, bx⟩ := sx
  obtain ⟨ry, sy, by'⟩ := sy
  have lx := bx.len
  have ly := by'.len
  have hx := sx.small
  have hy := sy.small
  refine Cs Tryz.func47 Tryz.ntmps47 ?_
  refine Wo ?_
  refine sf_if (fun e0 => ?_) fun e0 => ?_
  · refine Wo ?_
    exact sf_ret (rV (bF fun e => e0 (by rw [lx, ly, e])))
  have hl : xs.length = ys.length := by omega
  refine Wo ?_
  refine sf_rd [0, 1] 5 xs.length 0 (fun k => xs.take k = ys.take k) (by omega) rfl (fun k hk hi => ?_)
  refine Wo ?_
  refine sf_if (fun h4 => ?_) fun h4 => ?_
  · have hk4 : k < xs.length := by omega
    have hk5 : k < ys.length := by omega
    have bx4 := bx.at hk4
    have by4 := by'.at hk5
    have hk6 : k < rx.length := by omega
    have hk7 : k < ry.length := by omega
    obtain ⟨vx, ex, sx4⟩ := bx4
    obtain ⟨vy, ey, sy4⟩ := by4
    haveI : FlatV (rawF (intSR τ).sz) (gt rx k) [vx] := ⟨ex⟩
    haveI : FlatV (rawF (intSR τ).sz) (gt ry k) [vy] := ⟨ey⟩
    have o3 := sx4.one
    have o4 := sy4.one
    refine Wo ?_
    refine Sd [[],[],[0,1],[0,1,2],[],[],[4,5],[4,5,6],[0,1,2,3,4,5,6,7],[0,1,2,3,4,5,6,7,8]] 8 [Nn 0,Nn 1,Nn 2,Nn 3,Nn 4,Nn 5,Nn 6,Nn 7] ?_
    refine Da ?_
    refine Ae ?_
    refine Xv (llInts_v _ _ _ _ _ sx4 sy4) ?_
    refine Wo ?_
    refine sf_ifn (fun e1 => ?_) fun e1 => ?_
    · refine Wo ?_
      exact sf_ret (rV (bF (eq_at e1)))
    · refine Wo ?_
      exact ⟨⟨hk4, eq_step hk4 hk5 hi (by exact e1)⟩, rfl, rfl, _, inferInstance⟩
  · refine sf_exit ?_
    refine Wo ?_
    exact sf_ret (rV (bT (eq_end hl (by omega) hi)))
theorem llScene_v (h : PHeap) (ca cb : List Value) (x y : Scene) (bx : (sceneR τ).B h ca x) (by' : (sceneR τ).B h cb y) : CallV Tryz.prog M 23 [.agg ca.toArray, .agg cb.toArray] h (.bool (decide (x = y))) := by
  obtain ⟨c1, l1, f1, rfl, s1, t1, u1⟩ := sceneB bx
  obtain ⟨c2, l2, f2, rfl, s2, t2, u2⟩ := sceneB by'
  have o1 := s1.one
  have o2 := s2.one
  have o3 := t1.one
  have o4 := t2.one
  have o5 := u1.one
  have o6 := u2.one
  refine Cs Tryz.func23 Tryz.ntmps23 ?_
  repeat first | refine R1 ?_ | refine R2 fun _ => ?_
  refine Xv (llGrid_v _ _ _ x.grid y.grid (gridB_mk s1) (gridB_mk s2)) ?_
  repeat first | refine R1 ?_ | refine R2 fun _ => ?_
  refine f_split (fun e1 => ?_) fun e1 => ?_
  · repeat first | refine R1 ?_ | refine R2 fun _ => ?_
    refine Xv (llInts_v _ _ _ _ _ t1 t2) ?_
    repeat first | refine R1 ?_ | refine R2 fun _ => ?_
    refine f_split (fun e2 => ?_) fun e2 => ?_
    · repeat first | refine R1 ?_ | refine R2 fun _ => ?_
      refine Xv (llRows_v _ _ _ _ _ u1 u2) ?_
      repeat first | refine R1 ?_ | refine R2 fun _ => ?_
      refine sf_ret (rV ?_)
      congr 1
      cases x; cases y; simp_all
    · repeat first | refine R1 ?_ | refine R2 fun _ => ?_
      refine sf_ret (rV ?_)
      congr 1
      cases x; cases y; simp_all
  · repeat first | refine R1 ?_ | refine R2 fun _ => ?_
    refine sf_ret (rV ?_)
    congr 1
    cases x; cases y; simp_all
theorem llPainter_v (h : PHeap) (ca cb : List Value) (x y : Painter) (bx : (painterR τ).B h ca x) (by' : (painterR τ).B h cb y) : CallV Tryz.prog M 18 [.agg ca.toArray, .agg cb.toArray] h (.bool (decide (x = y))) := by
  obtain ⟨c1, l1, f1, rfl, s1, t1, u1⟩ := painterB bx
  obtain ⟨c2, l2, f2, rfl, s2, t2, u2⟩ := painterB by'
  have o1 := s1.one
  have o2 := s2.one
  have o3 := t1.one
  have o4 := t2.one
  have o5 := u1.one
  have o6 := u2.one
  refine Cs Tryz.func18 Tryz.ntmps18 ?_
  repeat first | refine R1 ?_ | refine R2 fun _ => ?_
  refine f_split (fun e0 => ?_) fun e0 => ?_
  · repeat first | refine R1 ?_ | refine R2 fun _ => ?_
    refine f_split (fun e1 => ?_) fun e1 => ?_
    · repeat first | refine R1 ?_ | refine R2 fun _ => ?_
      refine f_split (fun e2 => ?_) fun e2 => ?_
      · repeat first | refine R1 ?_ | refine R2 fun _ => ?_
        refine Xv (llScene_v _ _ _ x.scene y.scene (sceneB_mk (s := x.scene) s1 t1 u1) (sceneB_mk (s := y.scene) s2 t2 u2)) ?_
        repeat first | refine R1 ?_ | refine R2 fun _ => ?_
        refine sf_ret (rV ?_)
        congr 1
        cases x; cases y; simp_all
      · repeat first | refine R1 ?_ | refine R2 fun _ => ?_
        refine sf_ret (rV ?_)
        congr 1
        cases x; cases y; simp_all
    · repeat first | refine R1 ?_ | refine R2 fun _ => ?_
      refine sf_ret (rV ?_)
      congr 1
      cases x; cases y; simp_all
  · repeat first | refine R1 ?_ | refine R2 fun _ => ?_
    refine sf_ret (rV ?_)
    congr 1
    cases x; cases y; simp_all
end Go.Proofs.YtcpkcmgjfcbnpaaGreat
namespace Go.Proofs.YtcpkcmgjfcbnpaaGreat
open Go Go.Sl Go.Sort
set_option maxRecDepth 100000
set_option maxHeartbeats 4000000
attribute [local irreducible] Go.Code.sf sfOps Opq opo retF Do1 anyO
variable {M : Jdg → Prop} [IsCl Tryz.prog M]
theorem isNaN_v (h : PHeap) (x : Int) : CallV Tryz.prog M 170 [.int .i64 x] h (.bool false) := by
  refine Cs Tryz.func170 Tryz.ntmps170 ?_
  refine Wo ?_
  refine sf_ret (rV ?_)
  simp
theorem less_v (h : PHeap) (x y : Int) : CallV Tryz.prog M 135 [.int .i64 x, .int .i64 y] h (.bool (decide (x < y))) := by
  refine Cs Tryz.func135 Tryz.ntmps135 ?_
  refine Wo ?_
  refine Xv (isNaN_v _ _) ?_
  refine Wo ?_
  exact sf_ret (rV rfl)
theorem insertionSort_f (h : PHeap) (v : Value) (A : Own) (d : Array Int) (g : Gr A v 3 intF d.toList) (a b : Nat) (hb : b ≤ d.size) (hs : d.size ≤ 1000000) (ha : a ≤ b) :
    CallF Tryz.prog M 129 [v, .int .i64 (a : Int), .int .i64 (b : Int)] A h fun u A' => u = .tuple #[] ∧ Gr A' v 3 intF (insertionSort ltInt d a b).toList := by
  have o := g.one
  refine Cs Tryz.func129 Tryz.ntmps129 ?_
  refine Wo ?_
  refine sf_lp (ι := Nat × Array Int) [0, 1, 2] (fun x => [(6, .int .i64 (x.1 : Int))]) (fun x O => Gr O v 3 intF x.2.toList ∧ x.2.size = d.size ∧ a + 1 ≤ x.1 ∧ insOuter ltInt a b x.1 x.2 = insertionSort ltInt d a b) (fun x => b - x.1) (a + 1, d) A ⟨g, rfl, by simp only; omega, rfl⟩ ?_
  rintro ⟨i, e⟩ O ⟨ge, hsz, hi, hinv⟩
  simp only at ge hsz hi hinv ⊢
  refine Wo ?_
  refine sf_if (fun h1 => ?_) fun h1 => ?_
  · refine Wo ?_
    refine sf_lp (ι := Nat × Array Int) [0, 1, 2, 6] (fun x => [(7, .int .i64 (x.1 : Int))]) (fun x O => Gr O v 3 intF x.2.toList ∧ x.2.size = d.size ∧ x.1 < b ∧ insInner ltInt a x.1 x.2 = insInner ltInt a i e) (fun x => x.1) (i, e) O ⟨ge, hsz, by simp only; omega, rfl⟩ ?_
    rintro ⟨j, f⟩ O ⟨gf, fsz, hj, finv⟩
    simp only at gf fsz hj finv ⊢
    clear ge
    by_cases h2 : a < j
    · obtain ⟨j, rfl⟩ : ∃ j', j = j' + 1 := ⟨j - 1, by omega⟩
      have h3 : (a : Int) < ((j + 1 : Nat) : Int) := by omega
      have lf : f.toList.length = f.size := by simp
      have q1 : gt f.toList ((j + 1 : Nat) : Int).toNat = f[j + 1]! := gt_arr' (by omega) (by omega)
      have q2 : gt f.toList (((j + 1 : Nat) : Int) - 1).toNat = f[j]! := gt_arr' (by omega) (by omega)
      refine Wo ?_
      refine Sd [[],[],[0,1],[0,1,2],[0,1,2,3],[0,1,2,3],[0,1,2,3,4,5],[0,1,2,3,4,5,6],[0,1,2,3],[0,1,2,3],[0,1,2,3,9],[0,1,2,3,8,9,10],[0,1,2,3,8,9,10,11],[0,1,2,3,4,5,6,7,8,9,10,11,12],[0,1,2,3,4,5,6,7,8,9,10,11,12,13]] 13 [Nn 0,Nn 1,Nn 2,Nn 3,Nn 4,Nn 5,Nn 6,Nn 7,Nn 8,Nn 9,Nn 10,Nn 11,Nn 12] ?_
      refine Di ?_
      refine Ae ?_
      refine Xv (less_v _ _ _) ?_
      refine Wo ?_
      refine sf_if (fun h4 => ?_) fun h4 => ?_
      · refine Wo ?_
        refine sf_draw (by kernel_rfl) (regX_own (O) (regX_split 9 13 (by rfl) ?_ ?_))
        case' refine_1 =>
          refine Sw [[],[],[],[],[3],[],[],[6],[5,6,7],[5,6,7,8],[],[],[10,11],[5,6,7,8,9,10,11,12],[0,1,5,6,7,8,9,10,11,12,13],[0,1,5,6,7,8,9,10,11,12,13,14],[0,1,2,3,4,5,6,7,8,9,10,11,12,13,14,15],[0,1,2,3,4,5,6,7,8,9,10,11,12,13,14,15,16]] 16 [Nn 0,Nn 1,Nn 2,Nn 3,Nn 4,Nn 5,Nn 6,Nn 7,Nn 8,Nn 10,Nn 11,Nn 12,Yy 9,Yy 13,Nn 14,Yy 15] ?_
          refine Di ?_
          refine Yw (by rfl) (z_loadG (by rfl) gf (by omega) (by rfl)) ?_
          refine Di ?_
          refine Yw (by rfl) (z_loadG (by rfl) gf (by omega) (by rfl)) ?_
          refine Di ?_
          refine Yg gf fun As ys hy hl fs gg => ?_
          refine Di ?_
          refine Ae ?_
        case' refine_2 =>
          refine Sw [[],[],[],[],[3],[],[],[6],[5,6,7],[5,6,7,8,10,11,12,13],[],[],[10,11],[10,11,12],[0,1,5,6,7,8,9,10,11,12,13],[0,1,5,6,7,8,9,10,11,12,13,14],[0,1,2,3,4,5,6,7,8,9,10,11,12,13,14,15],[0,1,2,3,4,5,6,7,8,9,10,11,12,13,14,15,16]] 16 [Nn 0,Nn 1,Nn 2,Nn 3,Nn 4,Nn 5,Nn 6,Nn 7,Nn 8,Nn 10,Nn 11,Nn 12,Yy 13,Yy 9,Nn 14,Yy 15] ?_
          refine Di ?_
          refine Yw (by rfl) (z_loadG (by rfl) gf (by omega) (by rfl)) ?_
          refine Di ?_
          refine Yw (by rfl) (z_loadG (by rfl) gf (by omega) (by rfl)) ?_
          refine Di ?_
          refine Yg gf fun As ys hy hl fs gg => ?_
          refine Di ?_
          refine Ae ?_
        all_goals
          refine Wi ?_
          refine Xg gg fun At zs hz hlz fz gz => ?_
          refine Wi ?_
          have hf : zs = (swp f (j + 1) j).toList := swp_is hy hz (by omega) (by omega) (by omega) (by omega) (by omega) (by omega)
          rw [hf] at gz
          exact ⟨(j, swp f (j + 1) j), by simp only; omega, ⟨vI (by omega), trivial⟩, rfl, _, _, inferInstance, gz, by simp only [swp_size]; exact fsz, by simp only; omega, by simp only; rw [← finv, insInner_go h2 (by rw [← q1, ← q2]; exact h4)]⟩
      · refine sf_exit ?_
        refine Wo ?_
        exact ⟨(i + 1, f), by simp only; omega, ⟨rfl, trivial⟩, rfl, _, _, inferInstance, gf, fsz, by simp only; omega, by simp only; rw [← hinv, insOuter_go (i := i) (d := e) (by omega), ← finv, insInner_stop (by rw [← q1, ← q2]; exact h4)]⟩
    · have h3 : ¬ (a : Int) < (j : Int) := by omega
      refine Wo ?_
      refine Sd [[],[],[0,1],[0,1,2],[0,1,2,3],[0,1,2,3],[0,1,2,3,4,5],[0,1,2,3,4,5,6],[0,1,2,3],[0,1,2,3],[0,1,2,3,9],[0,1,2,3,8,9,10],[0,1,2,3,8,9,10,11],[0,1,2,3,4,5,6,7,8,9,10,11,12],[0,1,2,3,4,5,6,7,8,9,10,11,12,13]] 13 [Nn 0,Nn 1,Nn 2,Nn 3,Nn 4,Nn 5,Nn 6,Nn 7,Nn 8,Nn 9,Nn 10,Nn 11,Nn 12] ?_
      refine Di ?_
      refine Ae ?_
      refine Wo ?_
      refine sf_cond (by rfl) (fun e => by cases e) fun z1 => ?_
      clear z1
      refine sf_exit ?_
      refine Wo ?_
      exact ⟨(i + 1, f), by simp only; omega, ⟨rfl, trivial⟩, rfl, _, _, inferInstance, gf, fsz, by simp only; omega, by simp only; rw [← hinv, insOuter_go (i := i) (d := e) (by omega), ← finv, insInner_no h2]⟩
  · refine sf_exit ?_
    refine Wo ?_
    refine nO O ⟨rfl, ?_⟩
    rw [← hinv, insOuter_end (by omega)]
    exact ge
theorem siftDown_f (h : PHeap) (v : Value) (A : Own) (d : Array Int) (g : Gr A v 3 intF d.toList) (lo hi first : Nat) (hb : first + hi ≤ d.size) (hs : d.size ≤ 1000000) (hl : lo ≤ 1000000) :
    CallF Tryz.prog M 165 [v, .int .i64 (lo : Int), .int .i64 (hi : Int), .int .i64 (first : Int)] A h fun u A' => u = .tuple #[] ∧ Gr A' v 3 intF (siftDown ltInt hi first lo d).toList := by
  have o := g.one
  refine Cs Tryz.func165 Tryz.ntmps165 ?_
  refine Wo ?_
  refine sf_lp (ι := Nat × Array Int) [0, 2, 3] (fun x => [(8, .int .i64 (x.1 : Int))]) (fun x O => Gr O v 3 intF x.2.toList ∧ x.2.size = d.size ∧ x.1 ≤ 1000000 ∧ siftDown ltInt hi first x.1 x.2 = siftDown ltInt hi first lo d) (fun x => hi - x.1) (lo, d) A ⟨g, rfl, hl, rfl⟩ ?_
  rintro ⟨r, f⟩ O ⟨gf, fsz, hr, finv⟩
  simp only at gf fsz hr finv ⊢
  have lf : f.toList.length = f.size := by simp
  refine Wo ?_
  refine sf_if (fun h1 => ?_) fun h1 => ?_
  · refine sf_exit ?_
    refine Wo ?_
    refine nO O ⟨rfl, ?_⟩
    rw [← finv, siftDown, dif_pos (by omega)]
    exact gf
  refine Wo ?_
  have q1 : 2 * r + 1 < hi := by omega
  have w1 : gt f.toList ((first : Int) + (2 * (r : Int) + 1)).toNat = f[first + (2 * r + 1)]! := gt_arr' (by omega) (by omega)
  obtain ⟨c, hc⟩ := child_is hi first r f
  have cb : c < hi := by rcases hc with ⟨⟨_, _⟩, rfl⟩ | ⟨_, rfl⟩ <;> omega
  have cr : r < c := by rcases hc with ⟨⟨_, _⟩, rfl⟩ | ⟨_, rfl⟩ <;> omega
  have hstep := siftDown_step q1 hc
  apply viaT
  · intro tail
    by_cases hA : 2 * (r : Int) + 1 + 1 < (hi : Int)
    · have w2 : gt f.toList ((first : Int) + (2 * (r : Int) + 1) + 1).toNat = f[first + (2 * r + 2)]! := gt_arr' (by omega) (by omega)
      refine Sd [[],[0],[],[0,1,2],[0,1,2,3],[0,1,2,3,4],[0,1,2,3,4],[0,1,2,3,4],[0,1,2,3,4,6,7],[0,1,2,3,4,5,6,7,8],[0,1,2,3,4,5,6,7,8,9],[0,1,2,3,4],[0,1,2,3,4],[0,1,2,3,4],[0,1,2,3,4,12,13],[0,1,2,3,4,12,13,14],[0,1,2,3,4,11,12,13,14,15],[0,1,2,3,4,11,12,13,14,15,16],[0,1,2,3,4,5,6,7,8,9,10,11,12,13,14,15,16,17],[0,1,2,3,4,5,6,7,8,9,10,11,12,13,14,15,16,17,18]] 18 [Nn 0,Nn 1,Nn 2,Nn 3,Nn 4,Nn 5,Nn 6,Nn 7,Nn 8,Nn 9,Nn 10,Nn 11,Nn 12,Nn 13,Nn 14,Nn 15,Nn 16,Nn 17] ?_
      refine Di ?_
      refine Ae ?_
      refine Xv (less_v _ _ _) ?_
      refine Wo ?_
      rw [w1, w2]
      rcases hc with ⟨⟨_, hB⟩, hc⟩ | ⟨hB, hc⟩
      · refine sf_T (decide_eq_true hB) ?_
        refine Wo ?_
        rw [show 2 * (r : Int) + 1 + 1 = (c : Int) by omega]
        refine sf_keep [0, 2, 3, 8, 9] ?_
        exact tail.out
      · refine sf_N (decide_eq_false fun h => hB ⟨by omega, h⟩) ?_
        refine Wo ?_
        rw [show 2 * (r : Int) + 1 = (c : Int) by omega]
        refine sf_keep [0, 2, 3, 8, 9] ?_
        exact tail.out
    · refine Sd [[],[0],[],[0,1,2],[0,1,2,3],[0,1,2,3,4],[0,1,2,3,4],[0,1,2,3,4],[0,1,2,3,4,6,7],[0,1,2,3,4,5,6,7,8],[0,1,2,3,4,5,6,7,8,9],[0,1,2,3,4],[0,1,2,3,4],[0,1,2,3,4],[0,1,2,3,4,12,13],[0,1,2,3,4,12,13,14],[0,1,2,3,4,11,12,13,14,15],[0,1,2,3,4,11,12,13,14,15,16],[0,1,2,3,4,5,6,7,8,9,10,11,12,13,14,15,16,17],[0,1,2,3,4,5,6,7,8,9,10,11,12,13,14,15,16,17,18]] 18 [Nn 0,Nn 1,Nn 2,Nn 3,Nn 4,Nn 5,Nn 6,Nn 7,Nn 8,Nn 9,Nn 10,Nn 11,Nn 12,Nn 13,Nn 14,Nn 15,Nn 16,Nn 17] ?_
      refine Di ?_
      refine Ae ?_
      refine Wo ?_
      refine sf_cond (by rfl) (fun e => by cases e) fun z1 => ?_
      clear z1
      refine Wo ?_
      rw [show 2 * (r : Int) + 1 = (c : Int) by rcases hc with ⟨⟨_, _⟩, rfl⟩ | ⟨_, rfl⟩ <;> omega]
      refine sf_keep [0, 2, 3, 8, 9] ?_
      exact tail.out
  refine Wo ?_
  have v1 : gt f.toList (first + r) = f[first + r]! := gt_arr (by omega)
  have v2 : gt f.toList (first + c) = f[first + c]! := gt_arr (by omega)
  refine Sd [[],[],[],[1,2],[0,1,2,3],[0,1,2,3,4],[],[],[],[7,8],[6,7,8,9],[6,7,8,9,10],[0,1,2,3,4,5,6,7,8,9,10,11],[0,1,2,3,4,5,6,7,8,9,10,11,12]] 12 [Nn 0,Nn 1,Nn 2,Nn 3,Nn 4,Nn 5,Nn 6,Nn 7,Nn 8,Nn 9,Nn 10,Nn 11] ?_
  refine Di ?_
  refine Ae ?_
  refine Xv (less_v _ _ _) ?_
  refine Wo ?_
  rw [v1, v2]
  refine sf_ifn (fun h4 => ?_) fun h4 => ?_
  · refine Wo ?_
    refine sf_ret (rO O ⟨rfl, ?_⟩)
    rw [← finv, hstep, if_neg h4]
    exact gf
  rw [if_pos h4] at hstep
  refine Wo ?_
  refine sf_draw (by kernel_rfl) (regX_own (O) (regX_split 13 19 (by rfl) ?_ ?_))
  case' refine_1 =>
    refine Sw [[],[],[],[1,2],[],[],[],[5,6],[],[],[],[9,10],[8,9,10,11],[8,9,10,11,12],[],[],[],[15,16],[14,15,16,17],[8,9,10,11,12,13,14,15,16,17,18],[0,1,2,3,8,9,10,11,12,13,14,15,16,17,18,19],[0,1,2,3,8,9,10,11,12,13,14,15,16,17,18,19,20],[0,1,2,3,4,5,6,7,8,9,10,11,12,13,14,15,16,17,18,19,20,21],[0,1,2,3,4,5,6,7,8,9,10,11,12,13,14,15,16,17,18,19,20,21,22]] 22 [Nn 0,Nn 1,Nn 2,Nn 3,Nn 4,Nn 5,Nn 6,Nn 7,Nn 8,Nn 9,Nn 10,Nn 11,Nn 12,Nn 14,Nn 15,Nn 16,Nn 17,Nn 18,Yy 13,Yy 19,Nn 20,Yy 21] ?_
    refine Di ?_
    refine Yw (by rfl) (z_loadG (by rfl) gf (by omega) (by rfl)) ?_
    refine Di ?_
    refine Yw (by rfl) (z_loadG (by rfl) gf (by omega) (by rfl)) ?_
    refine Di ?_
    refine Yg gf fun As ys hy hl fs gg => ?_
    refine Di ?_
    refine Ae ?_
  case' refine_2 =>
    refine Sw [[],[],[],[1,2],[],[],[],[5,6],[],[],[],[9,10],[8,9,10,11],[8,9,10,11,12,14,15,16,17,18,19],[],[],[],[15,16],[14,15,16,17],[14,15,16,17,18],[0,1,2,3,8,9,10,11,12,13,14,15,16,17,18,19],[0,1,2,3,8,9,10,11,12,13,14,15,16,17,18,19,20],[0,1,2,3,4,5,6,7,8,9,10,11,12,13,14,15,16,17,18,19,20,21],[0,1,2,3,4,5,6,7,8,9,10,11,12,13,14,15,16,17,18,19,20,21,22]] 22 [Nn 0,Nn 1,Nn 2,Nn 3,Nn 4,Nn 5,Nn 6,Nn 7,Nn 8,Nn 9,Nn 10,Nn 11,Nn 12,Nn 14,Nn 15,Nn 16,Nn 17,Nn 18,Yy 19,Yy 13,Nn 20,Yy 21] ?_
    refine Di ?_
    refine Yw (by rfl) (z_loadG (by rfl) gf (by omega) (by rfl)) ?_
    refine Di ?_
    refine Yw (by rfl) (z_loadG (by rfl) gf (by omega) (by rfl)) ?_
    refine Di ?_
    refine Yg gf fun As ys hy hl fs gg => ?_
    refine Di ?_
    refine Ae ?_
  all_goals
    refine Wi ?_
    refine Xg gg fun At zs hz hlz fz gz => ?_
    refine Wi ?_
    have hf : zs = (swp f (first + r) (first + c)).toList := swp_is hy hz (by omega) (by omega) (by omega) (by omega) (by omega) (by omega)
    rw [hf] at gz
    exact ⟨(c, swp f (first + r) (first + c)), by simp only; omega, ⟨rfl, trivial⟩, rfl, _, _, inferInstance, gz, by simp only [swp_size]; exact fsz, by simp only; omega, by simp only; rw [← finv, hstep]⟩
theorem heapSort_f (h : PHeap) (v : Value) (A : Own) (d : Array Int) (g : Gr A v 3 intF d.toList) (a b : Nat) (hb : b ≤ d.size) (hs : d.size ≤ 1000000) (hab : a < b) :
    CallF Tryz.prog M 130 [v, .int .i64 (a : Int), .int .i64 (b : Int)] A h fun u A' => u = .tuple #[] ∧ Gr A' v 3 intF (heapSort ltInt d a b).toList := by
  have o := g.one
  obtain ⟨n, rfl⟩ : ∃ n : Nat, b = a + n := ⟨b - a, by omega⟩
  refine Cs Tryz.func130 Tryz.ntmps130 ?_
  refine Wo ?_
  have e0 : ((a + n : Nat) : Int) - (a : Int) = (n : Int) := by omega
  rw [e0]
  rw [show ((n : Int) - 1) / 2 = (((n - 1) / 2 + 1 : Nat) : Int) - 1 by omega]
  have hsort : heapSort ltInt d a (a + n) = heapPop ltInt a n (heapBuild ltInt n a ((n - 1) / 2 + 1) d) := by
    unfold heapSort; rw [show a + n - a = n by omega]
  refine sf_lp (ι := Nat × Array Int) [0, 6, 7, 8] (fun x => [(9, .int .i64 ((x.1 : Int) - 1))]) (fun x O => Gr O v 3 intF x.2.toList ∧ x.2.size = d.size ∧ x.1 ≤ n + 1 ∧ heapBuild ltInt n a x.1 x.2 = heapBuild ltInt n a ((n - 1) / 2 + 1) d) (fun x => x.1) ((n - 1) / 2 + 1, d) A ⟨g, rfl, by simp only; omega, rfl⟩ ?_
  rintro ⟨k, f⟩ O ⟨gf, fsz, hk, finv⟩
  simp only at gf fsz hk finv ⊢
  refine Wo ?_
  refine sf_if (fun h1 => ?_) fun h1 => ?_
  · obtain ⟨k, rfl⟩ : ∃ k', k = k' + 1 := ⟨k - 1, by omega⟩
    rw [show (((k + 1 : Nat) : Int) - 1) = (k : Int) by omega]
    refine Wo ?_
    refine fp (y_call (siftDown_f (M := M) _ v O f gf k n a (by omega) (by omega) (by omega)) (by rfl) ?_)
    rintro _ A1 ⟨rfl, g1⟩
    refine Wo ?_
    exact ⟨(k, _), by simp only; omega, ⟨rfl, trivial⟩, rfl, A1, _, inferInstance, g1, by simp only [siftDown_size]; exact fsz, by simp only; omega, by simp only; rw [← finv]; rfl⟩
  · refine sf_exit ?_
    obtain rfl : k = 0 := by omega
    rw [← finv] at hsort
    clear finv
    refine Wo ?_
    refine sf_lp (ι := Nat × Array Int) [0, 6, 7] (fun x => [(10, .int .i64 ((x.1 : Int) - 1))]) (fun x O => Gr O v 3 intF x.2.toList ∧ x.2.size = d.size ∧ x.1 ≤ n ∧ heapPop ltInt a x.1 x.2 = heapSort ltInt d a (a + n)) (fun x => x.1) (n, f) O ⟨gf, fsz, by simp only; omega, hsort.symm⟩ ?_
    rintro ⟨k, f⟩ O ⟨gf, fsz, hk, finv⟩
    simp only at gf fsz hk finv ⊢
    have lf : f.toList.length = f.size := by simp
    refine Wo ?_
    refine sf_if (fun h1 => ?_) fun h1 => ?_
    · obtain ⟨k, rfl⟩ : ∃ k', k = k' + 1 := ⟨k - 1, by omega⟩
      rw [show (((k + 1 : Nat) : Int) - 1) = (k : Int) by omega]
      refine Wo ?_
      refine sf_draw (by kernel_rfl) (regX_own (O) (regX_split 11 15 (by rfl) ?_ ?_))
      case' refine_1 =>
        refine Sw [[],[],[],[],[],[3,4],[],[],[],[7,8],[6,7,8,9],[6,7,8,9,10],[],[],[12,13],[6,7,8,9,10,11,12,13,14],[0,1,6,7,8,9,10,11,12,13,14,15],[0,1,6,7,8,9,10,11,12,13,14,15,16],[0,1,2,3,4,5,6,7,8,9,10,11,12,13,14,15,16,17],[0,1,2,3,4,5,6,7,8,9,10,11,12,13,14,15,16,17,18]] 18 [Nn 0,Nn 1,Nn 2,Nn 3,Nn 4,Nn 5,Nn 6,Nn 7,Nn 8,Nn 9,Nn 10,Nn 12,Nn 13,Nn 14,Yy 11,Yy 15,Nn 16,Yy 17] ?_
        refine Di ?_
        refine Yw (by rfl) (z_loadG (by rfl) gf (by omega) (by rfl)) ?_
        refine Di ?_
        refine Yw (by rfl) (z_loadG (by rfl) gf (by omega) (by rfl)) ?_
        refine Di ?_
        refine Yg gf fun As ys hy hl fs gg => ?_
        refine Di ?_
        refine Ae ?_
      case' refine_2 =>
        refine Sw [[],[],[],[],[],[3,4],[],[],[],[7,8],[6,7,8,9],[6,7,8,9,10,12,13,14,15],[],[],[12,13],[12,13,14],[0,1,6,7,8,9,10,11,12,13,14,15],[0,1,6,7,8,9,10,11,12,13,14,15,16],[0,1,2,3,4,5,6,7,8,9,10,11,12,13,14,15,16,17],[0,1,2,3,4,5,6,7,8,9,10,11,12,13,14,15,16,17,18]] 18 [Nn 0,Nn 1,Nn 2,Nn 3,Nn 4,Nn 5,Nn 6,Nn 7,Nn 8,Nn 9,Nn 10,Nn 12,Nn 13,Nn 14,Yy 15,Yy 11,Nn 16,Yy 17] ?_
        refine Di ?_
        refine Yw (by rfl) (z_loadG (by rfl) gf (by omega) (by rfl)) ?_
        refine Di ?_
        refine Yw (by rfl) (z_loadG (by rfl) gf (by omega) (by rfl)) ?_
        refine Di ?_
        refine Yg gf fun As ys hy hl fs gg => ?_
        refine Di ?_
        refine Ae ?_
      all_goals
        refine Wi ?_
        refine Xg gg fun At zs hz hlz fz gz => ?_
        refine Wi ?_
        have hf : zs = (swp f a (a + k)).toList := swp_is hy hz (by omega) (by omega) (by omega) (by omega) (by omega) (by omega)
        rw [hf] at gz
        refine fp (y_call (siftDown_f (M := M) _ v At (swp f a (a + k)) gz 0 k a (by rw [swp_size]; omega) (by rw [swp_size]; omega) (by omega)) (by rfl) ?_)
        rintro _ A1 ⟨rfl, g1⟩
        refine Wo ?_
        exact ⟨(k, _), by simp only; omega, ⟨rfl, trivial⟩, rfl, A1, _, inferInstance, g1, by simp only [siftDown_size, swp_size]; exact fsz, by simp only; omega, by simp only; rw [← finv]; rfl⟩
    · refine sf_exit ?_
      obtain rfl : k = 0 := by omega
      refine Wo ?_
      refine nO O ⟨rfl, ?_⟩
      rw [← finv]
      exact gf
theorem reverseRange_f (h : PHeap) (v : Value) (A : Own) (d : Array Int) (g : Gr A v 3 intF d.toList) (a b : Nat) (hb : b ≤ d.size) (hs : d.size ≤ 1000000) (hab : a < b) :
    CallF Tryz.prog M 133 [v, .int .i64 (a : Int), .int .i64 (b : Int)] A h fun u A' => u = .tuple #[] ∧ Gr A' v 3 intF (reverseRange d a b).toList := by
  have o := g.one
  obtain ⟨n, rfl⟩ : ∃ n : Nat, b = n + 1 := ⟨b - 1, by omega⟩
  refine Cs Tryz.func133 Tryz.ntmps133 ?_
  refine Wo ?_
  rw [show (((n + 1 : Nat) : Int) - 1) = (n : Int) by omega]
  refine sf_lp (ι := Nat × Nat × Array Int) [0] (fun x => [(6, .int .i64 (x.1 : Int)), (7, .int .i64 (x.2.1 : Int))]) (fun x O => Gr O v 3 intF x.2.2.toList ∧ x.2.2.size = d.size ∧ x.2.1 ≤ n ∧ reverseLoop x.1 x.2.1 x.2.2 = reverseRange d a (n + 1)) (fun x => x.2.1) (a, n, d) A ⟨g, rfl, by simp only; omega, rfl⟩ ?_
  rintro ⟨i, j, f⟩ O ⟨gf, fsz, hk, finv⟩
  simp only at gf fsz hk finv ⊢
  have lf : f.toList.length = f.size := by simp
  refine Wo ?_
  refine sf_if (fun h1 => ?_) fun h1 => ?_
  · have hst : reverseLoop i j f = reverseLoop (i + 1) (j - 1) (swp f i j) := by rw [reverseLoop, if_pos (by omega)]
    obtain ⟨j, rfl⟩ : ∃ k', j = k' + 1 := ⟨j - 1, by omega⟩
    refine Wo ?_
    refine sf_draw (by kernel_rfl) (regX_own (O) (regX_split 7 11 (by rfl) ?_ ?_))
    case' refine_1 =>
      refine Sw [[],[],[],[],[],[],[4,5],[4,5,6],[],[],[8,9],[4,5,6,7,8,9,10],[0,1,4,5,6,7,8,9,10,11],[0,1,4,5,6,7,8,9,10,11,12],[0,1,2,3,4,5,6,7,8,9,10,11,12,13],[0,1,2,3,4,5,6,7,8,9,10,11,12,13,14]] 14 [Nn 0,Nn 1,Nn 2,Nn 3,Nn 4,Nn 5,Nn 6,Nn 8,Nn 9,Nn 10,Yy 7,Yy 11,Nn 12,Yy 13] ?_
      refine Di ?_
      refine Yw (by rfl) (z_loadG (by rfl) gf (by omega) (by rfl)) ?_
      refine Di ?_
      refine Yw (by rfl) (z_loadG (by rfl) gf (by omega) (by rfl)) ?_
      refine Di ?_
      refine Yg gf fun As ys hy hl fs gg => ?_
      refine Di ?_
      refine Ae ?_
    case' refine_2 =>
      refine Sw [[],[],[],[],[],[],[4,5],[4,5,6,8,9,10,11],[],[],[8,9],[8,9,10],[0,1,4,5,6,7,8,9,10,11],[0,1,4,5,6,7,8,9,10,11,12],[0,1,2,3,4,5,6,7,8,9,10,11,12,13],[0,1,2,3,4,5,6,7,8,9,10,11,12,13,14]] 14 [Nn 0,Nn 1,Nn 2,Nn 3,Nn 4,Nn 5,Nn 6,Nn 8,Nn 9,Nn 10,Yy 11,Yy 7,Nn 12,Yy 13] ?_
      refine Di ?_
      refine Yw (by rfl) (z_loadG (by rfl) gf (by omega) (by rfl)) ?_
      refine Di ?_
      refine Yw (by rfl) (z_loadG (by rfl) gf (by omega) (by rfl)) ?_
      refine Di ?_
      refine Yg gf fun As ys hy hl fs gg => ?_
      refine Di ?_
      refine Ae ?_
    all_goals
      refine Wi ?_
      refine Xg gg fun At zs hz hlz fz gz => ?_
      refine Wi ?_
      have hf : zs = (swp f i (j + 1)).toList := swp_is hy hz (by omega) (by omega) (by omega) (by omega) (by omega) (by omega)
      rw [hf] at gz
      exact ⟨(i + 1, j, swp f i (j + 1)), by simp only; omega, ⟨rfl, vI (show ((j + 1 : Nat) : Int) - 1 = (j : Int) by omega), trivial⟩, rfl, _, _, inferInstance, gz, by simp only [swp_size]; exact fsz, by simp only; omega, by simp only; rw [← finv, hst]; rfl⟩
  · refine sf_exit ?_
    refine Wo ?_
    refine nO O ⟨rfl, ?_⟩
    rw [← finv, reverseLoop, if_neg (by omega)]
    exact gf
abbrev swA (bs : Nat) (z : Int) : Own := [(bs, .cells #[.int .i64 z] 3)]
theorem order2_f (h : PHeap) (v : Value) (xs : List Int) (s : Sl h v intF xs) (a b : Nat) (ha : a < xs.length) (hb : b < xs.length) (bs : Nat) (z : Int) (hz : 0 ≤ z ∧ z ≤ 1000) :
    CallF Tryz.prog M 182 [v, .int .i64 (a : Int), .int .i64 (b : Int), .pointer (some ⟨bs, 0, none⟩)] (swA bs z) h fun u A => ∃ (x y : Nat) (z' : Int), u = .tuple #[.int .i64 (x : Int), .int .i64 (y : Int)] ∧ ((x = a ∧ y = b) ∨ (x = b ∧ y = a)) ∧ (0 ≤ z' ∧ z' ≤ z + 1) ∧ A = swA bs z' := by
  have o := s.one
  refine Cs Tryz.func182 Tryz.ntmps182 ?_
  refine Wo ?_
  refine Sd [[],[],[0,1],[0,1,2],[],[],[4,5],[4,5,6],[0,1,2,3,4,5,6,7]] 8 [Nn 0,Nn 1,Nn 2,Nn 3,Nn 4,Nn 5,Nn 6,Nn 7] ?_
  refine Da ?_
  refine Ae ?_
  refine Xv (less_v _ _ _) ?_
  refine Wo ?_
  refine sf_if (fun h1 => ?_) fun h1 => ?_
  · refine Wo ?_
    exact sf_ret (rO _ ⟨b, a, z + 1, rfl, .inr ⟨rfl, rfl⟩, by omega, rfl⟩)
  · refine Wo ?_
    exact sf_ret (rO _ ⟨a, b, z, rfl, .inl ⟨rfl, rfl⟩, by omega, rfl⟩)
theorem median_f (h : PHeap) (v : Value) (xs : List Int) (s : Sl h v intF xs) (a b c : Nat) (ha : a < xs.length) (hb : b < xs.length) (hc : c < xs.length) (bs : Nat) (z : Int) (hz : 0 ≤ z ∧ z ≤ 900) :
    CallF Tryz.prog M 169 [v, .int .i64 (a : Int), .int .i64 (b : Int), .int .i64 (c : Int), .pointer (some ⟨bs, 0, none⟩)] (swA bs z) h fun u A => ∃ (x : Nat) (z' : Int), u = .int .i64 (x : Int) ∧ (x = a ∨ x = b ∨ x = c) ∧ (0 ≤ z' ∧ z' ≤ z + 3) ∧ A = swA bs z' := by
  have o := s.one
  refine Cs Tryz.func169 Tryz.ntmps169 ?_
  refine Wo ?_
  refine fp (y_call (order2_f (M := M) _ v xs s a b ha hb bs z (by omega)) (by rfl) ?_)
  rintro _ _ ⟨x1, y1, z1, rfl, h1, hz1, rfl⟩
  refine Wo ?_
  refine fp (y_call (order2_f (M := M) _ v xs s y1 c (by omega) hc bs z1 (by omega)) (by rfl) ?_)
  rintro _ _ ⟨x2, y2, z2, rfl, h2, hz2, rfl⟩
  refine Wo ?_
  refine fp (y_call (order2_f (M := M) _ v xs s x1 x2 (by omega) (by omega) bs z2 (by omega)) (by rfl) ?_)
  rintro _ _ ⟨x3, y3, z3, rfl, h3, hz3, rfl⟩
  refine Wo ?_
  exact sf_ret (rO _ ⟨y3, z3, rfl, by omega, by omega, rfl⟩)
theorem medianAdjacent_f (h : PHeap) (v : Value) (xs : List Int) (s : Sl h v intF xs) (a : Nat) (ha : 1 ≤ a) (hb : a + 1 < xs.length) (hs : xs.length ≤ 1000000) (bs : Nat) (z : Int) (hz : 0 ≤ z ∧ z ≤ 900) :
    CallF Tryz.prog M 168 [v, .int .i64 (a : Int), .pointer (some ⟨bs, 0, none⟩)] (swA bs z) h fun u A => ∃ (x : Nat) (z' : Int), u = .int .i64 (x : Int) ∧ (a ≤ x + 1 ∧ x ≤ a + 1) ∧ (0 ≤ z' ∧ z' ≤ z + 3) ∧ A = swA bs z' := by
  have o := s.one
  obtain ⟨k, rfl⟩ : ∃ k, a = k + 1 := ⟨a - 1, by omega⟩
  refine Cs Tryz.func168 Tryz.ntmps168 ?_
  refine Wo ?_
  rw [show ((k + 1 : Nat) : Int) - 1 = (k : Int) by omega]
  refine fp (y_call (median_f (M := M) _ v xs s k (k + 1) (k + 1 + 1) (by omega) (by omega) (by omega) bs z (by omega)) (by rfl) ?_)
  rintro _ _ ⟨x1, z1, rfl, h1, hz1, rfl⟩
  refine Wo ?_
  exact sf_ret (rO _ ⟨x1, z1, rfl, by omega, by omega, rfl⟩)
theorem choosePivot_f (h : PHeap) (v : Value) (xs : List Int) (s : Sl h v intF xs) (a b : Nat) (hab : a < b) (hb : b ≤ xs.length) (hs : xs.length ≤ 1000000) :
    CallF Tryz.prog M 132 [v, .int .i64 (a : Int), .int .i64 (b : Int)] [] h fun u A => ∃ (p : Nat) (z : Int), u = .tuple #[.int .i64 (p : Int), .int .i64 z] ∧ (a ≤ p ∧ p < b) ∧ A = [] := by
  have o := s.one
  obtain ⟨n, rfl⟩ : ∃ n : Nat, b = a + n := ⟨b - a, by omega⟩
  refine Cs Tryz.func132 Tryz.ntmps132 ?_
  repeat first | refine R1 ?_ | refine R2 fun _ => ?_
  have e0 : ((a + n : Nat) : Int) - (a : Int) = (n : Int) := by omega
  rename_i bs
  rw [e0]
  rw [show (a : Int) + (n : Int) / 4 * 1 = ((a + n / 4 : Nat) : Int) by omega, show (a : Int) + (n : Int) / 4 * 2 = ((a + n / 4 * 2 : Nat) : Int) by omega, show (a : Int) + (n : Int) / 4 * 3 = ((a + n / 4 * 3 : Nat) : Int) by omega]
  apply viaT (G := ∀ (p : Nat) (z : Int), a ≤ p → p < a + n → _)
  · intro tail
    refine sf_if (fun h1 => ?_) fun h1 => ?_
    · repeat first | refine R1 ?_ | refine R2 fun _ => ?_
      apply viaT (G := ∀ (p1 p2 p3 : Nat) (z : Int), (a ≤ p1 ∧ p1 < a + n) → (a ≤ p2 ∧ p2 < a + n) → (a ≤ p3 ∧ p3 < a + n) → (0 ≤ z ∧ z ≤ 9) → _)
      · intro tail2
        refine sf_if (fun h2 => ?_) fun h2 => ?_
        · repeat first | refine R1 ?_ | refine R2 fun _ => ?_
          refine fp (y_call (medianAdjacent_f (M := M) _ v xs s (a + n / 4) (by omega) (by omega) hs bs 0 (by omega)) (by rfl) ?_)
          rintro _ _ ⟨p1, z1, rfl, k1, hz1, rfl⟩
          repeat first | refine R1 ?_ | refine R2 fun _ => ?_
          refine fp (y_call (medianAdjacent_f (M := M) _ v xs s (a + n / 4 * 2) (by omega) (by omega) hs bs z1 (by omega)) (by rfl) ?_)
          rintro _ _ ⟨p2, z2, rfl, k2, hz2, rfl⟩
          repeat first | refine R1 ?_ | refine R2 fun _ => ?_
          refine fp (y_call (medianAdjacent_f (M := M) _ v xs s (a + n / 4 * 3) (by omega) (by omega) hs bs z2 (by omega)) (by rfl) ?_)
          rintro _ _ ⟨p3, z3, rfl, k3, hz3, rfl⟩
          repeat first | refine R1 ?_ | refine R2 fun _ => ?_
          refine fops_keep [9, 44, 45, 46, 47] ?_
          refine fops_own (swA bs z3) ?_
          exact tail2.out p1 p2 p3 z3 (by omega) (by omega) (by omega) (by omega)
        · repeat first | refine R1 ?_ | refine R2 fun _ => ?_
          refine fops_keep [9, 44, 45, 46, 47] ?_
          refine fops_own (swA bs 0) ?_
          exact tail2.out (a + n / 4) (a + n / 4 * 2) (a + n / 4 * 3) 0 (by omega) (by omega) (by omega) (by omega)
      · intro p1 p2 p3 z k1 k2 k3 hz
        refine fp (y_call (median_f (M := M) _ v xs s p1 p2 p3 (by omega) (by omega) (by omega) bs z (by omega)) (by rfl) ?_)
        rintro _ _ ⟨p, z4, rfl, k4, hz4, rfl⟩
        repeat first | refine R1 ?_ | refine R2 fun _ => ?_
        show Code.sf _ _ _ _ _ _ _ _
        refine sf_keep [11, 49, 51] ?_
        refine sf_own (swA bs z4) ?_
        exact tail.out p z4 (by omega) (by omega)
    · repeat first | refine R1 ?_ | refine R2 fun _ => ?_
      show Code.sf _ _ _ _ _ _ _ _
      refine sf_keep [11, 49, 51] ?_
      refine sf_own (swA bs 0) ?_
      exact tail.out (a + n / 4 * 2) 0 (by omega) (by omega)
  · intro p z k1 k2
    refine sf_if (fun h1 => ?_) fun h1 => ?_
    · repeat first | refine R1 ?_ | refine R2 fun _ => ?_
      exact sf_ret (rO [] ⟨p, 1, rfl, by omega, rfl⟩)
    · repeat first | refine R1 ?_ | refine R2 fun _ => ?_
      refine sf_if (fun h1 => ?_) fun h1 => ?_
      · repeat first | refine R1 ?_ | refine R2 fun _ => ?_
        exact sf_ret (rO [] ⟨p, 2, rfl, by omega, rfl⟩)
      · repeat first | refine R1 ?_ | refine R2 fun _ => ?_
        exact sf_ret (rO [] ⟨p, 0, rfl, by omega, rfl⟩)
theorem partition_f (h : PHeap) (v : Value) (A : Own) (d : Array Int) (g : Gr A v 3 intF d.toList) (a b p : Nat) (hb : b ≤ d.size) (hs : d.size ≤ 1000000) (hab : a < b) (hp : a ≤ p ∧ p < b) :
    CallF Tryz.prog M 137 [v, .int .i64 (a : Int), .int .i64 (b : Int), .int .i64 (p : Int)] A h fun u A' => u = .tuple #[.int .i64 ((Sort.partition ltInt d a b p).1 : Int), .bool (Sort.partition ltInt d a b p).2.1] ∧ Gr A' v 3 intF (Sort.partition ltInt d a b p).2.2.toList := by
  have o := g.one
  have ld : d.toList.length = d.size := by simp
  obtain ⟨n, rfl⟩ : ∃ n : Nat, b = n + 1 := ⟨b - 1, by omega⟩
  refine Cs Tryz.func137 Tryz.ntmps137 ?_
  refine Wo ?_
  apply viaT (G := ∀ (B : Own), Gr B v 3 intF (swp d a p).toList → _)
  · intro tail
    refine sf_draw (by kernel_rfl) (regX_own (A) (regX_split 7 11 (by rfl) ?_ ?_))
    case' refine_1 =>
      refine Sw [[],[],[],[],[],[],[4,5],[4,5,6],[],[],[8,9],[4,5,6,7,8,9,10],[0,1,4,5,6,7,8,9,10,11],[0,1,4,5,6,7,8,9,10,11,12],[0,1,2,3,4,5,6,7,8,9,10,11,12,13],[0,1,2,3,4,5,6,7,8,9,10,11,12,13,14]] 14 [Nn 0,Nn 1,Nn 2,Nn 3,Nn 4,Nn 5,Nn 6,Nn 8,Nn 9,Nn 10,Yy 7,Yy 11,Nn 12,Yy 13] ?_
      refine Di ?_
      refine Yw (by rfl) (z_loadG (by rfl) g (by omega) (by rfl)) ?_
      refine Di ?_
      refine Yw (by rfl) (z_loadG (by rfl) g (by omega) (by rfl)) ?_
      refine Di ?_
      refine Yg g fun As ys hy hl fs gg => ?_
      refine Di ?_
      refine Ae ?_
    case' refine_2 =>
      refine Sw [[],[],[],[],[],[],[4,5],[4,5,6,8,9,10,11],[],[],[8,9],[8,9,10],[0,1,4,5,6,7,8,9,10,11],[0,1,4,5,6,7,8,9,10,11,12],[0,1,2,3,4,5,6,7,8,9,10,11,12,13],[0,1,2,3,4,5,6,7,8,9,10,11,12,13,14]] 14 [Nn 0,Nn 1,Nn 2,Nn 3,Nn 4,Nn 5,Nn 6,Nn 8,Nn 9,Nn 10,Yy 11,Yy 7,Nn 12,Yy 13] ?_
      refine Di ?_
      refine Yw (by rfl) (z_loadG (by rfl) g (by omega) (by rfl)) ?_
      refine Di ?_
      refine Yw (by rfl) (z_loadG (by rfl) g (by omega) (by rfl)) ?_
      refine Di ?_
      refine Yg g fun As ys hy hl fs gg => ?_
      refine Di ?_
      refine Ae ?_
    all_goals
      refine Wi ?_
      refine Xg gg fun At zs hz hlz fz gz => ?_
      refine Wi ?_
      rw [show (((n + 1 : Nat) : Int) - 1) = (n : Int) by omega]
      have hf : zs = (swp d a p).toList := swp_is hy hz (by omega) (by omega) (by omega) (by omega) (by omega) (by omega)
      rw [hf] at gz
      show Code.sf _ _ _ _ _ _ _ _
      refine sf_keep [0, 1, 10, 11] ?_
      refine sf_own At ?_
      exact tail.out At gz
  intro B ge
  obtain ⟨e, he⟩ : ∃ e, e = swp d a p := ⟨_, rfl⟩
  rw [← he] at ge
  have es : e.size = d.size := by rw [he, swp_size]
  have le : e.toList.length = e.size := by simp
  have ua : gt e.toList a = e[a]! := gt_arr (by omega)
  apply viaT (G := ∀ i : Nat, a + 1 ≤ i → i ≤ n + 2 → scanUp (fun x => ltInt x e[a]!) e n (a + 1) = i → _)
  · intro tail
    refine sf_lp (ι := Nat) [0, 1, 11] (fun x => [(10, .int .i64 (x : Int))]) (fun x O' => O' = B ∧ a + 1 ≤ x ∧ x ≤ n + 2 ∧ scanUp (fun x => ltInt x e[a]!) e n x = scanUp (fun x => ltInt x e[a]!) e n (a + 1)) (fun x => n + 2 - x) (a + 1) B ⟨rfl, by omega, by omega, rfl⟩ ?_
    rintro x _ ⟨rfl, hx0, hx1, hinv⟩
    by_cases h2 : x ≤ n
    · have h3 : (x : Int) ≤ ((n : Nat) : Int) := by omega
      have u1 : gt e.toList x = e[x]! := gt_arr (by omega)
      refine Wo ?_
      refine Sd [[],[],[0,1],[0,1,2],[0,1,2,3],[0,1,2,3],[0,1,2,3,4,5],[0,1,2,3,4,5,6],[0,1,2,3],[0,1,2,3],[0,1,2,3,8,9],[0,1,2,3,8,9,10],[0,1,2,3,4,5,6,7,8,9,10,11],[0,1,2,3,4,5,6,7,8,9,10,11,12]] 12 [Nn 0,Nn 1,Nn 2,Nn 3,Nn 4,Nn 5,Nn 6,Nn 7,Nn 8,Nn 9,Nn 10,Nn 11] ?_
      refine Di ?_
      refine Ae ?_
      refine Xv (less_v _ _ _) ?_
      refine Wo ?_
      rw [u1, ua]
      refine sf_if (fun h4 => ?_) fun h4 => ?_
      · refine Wo ?_
        exact ⟨x + 1, by omega, ⟨rfl, trivial⟩, rfl, _, _, inferInstance, rfl, by omega, by omega, by rw [← hinv]; exact (scanUp_go h2 (by simp only [ltInt_is]; simp [h4])).symm⟩
      · refine sf_exit ?_
        refine Wo ?_
        refine sf_keep [0, 1, 10, 11] ?_
        exact tail.out x (by omega) (by omega) (by rw [← hinv]; exact scanUp_stop (fun h => h4 (by simpa [ltInt_is] using h.2)))
    · have h3 : ¬ (x : Int) ≤ ((n : Nat) : Int) := by omega
      refine Wo ?_
      refine Sd [[],[],[0,1],[0,1,2],[0,1,2,3],[0,1,2,3],[0,1,2,3,4,5],[0,1,2,3,4,5,6],[0,1,2,3],[0,1,2,3],[0,1,2,3,8,9],[0,1,2,3,8,9,10],[0,1,2,3,4,5,6,7,8,9,10,11],[0,1,2,3,4,5,6,7,8,9,10,11,12]] 12 [Nn 0,Nn 1,Nn 2,Nn 3,Nn 4,Nn 5,Nn 6,Nn 7,Nn 8,Nn 9,Nn 10,Nn 11] ?_
      refine Di ?_
      refine Ae ?_
      refine Wo ?_
      refine sf_cond (by rfl) (fun e => by cases e) fun z1 => ?_
      clear z1
      refine sf_exit ?_
      refine Wo ?_
      refine sf_keep [0, 1, 10, 11] ?_
      exact tail.out x (by omega) (by omega) (by rw [← hinv]; exact scanUp_stop (fun h => h2 h.1))
  intro i hi0 hi1 hsu
  apply viaT (G := ∀ j : Nat, i ≤ j + 2 → a ≤ j → j ≤ n → scanDown (fun x => !ltInt x e[a]!) e i n = j → _)
  · intro tail
    refine sf_lp (ι := Nat) [0, 1, 10] (fun x => [(11, .int .i64 (x : Int))]) (fun x O' => O' = B ∧ i ≤ x + 2 ∧ a ≤ x ∧ x ≤ n ∧ scanDown (fun x => !ltInt x e[a]!) e i x = scanDown (fun x => !ltInt x e[a]!) e i (n)) (fun x => x) (n) B ⟨rfl, by omega, by omega, by omega, rfl⟩ ?_
    rintro x _ ⟨rfl, hx0, hx2, hx1, hinv⟩
    by_cases h2 : i ≤ x
    · obtain ⟨y, hy0⟩ : ∃ k, x = k + 1 := ⟨x - 1, by omega⟩
      have h3 : ((i : Nat) : Int) ≤ (x : Int) := by omega
      have u1 : gt e.toList x = e[x]! := gt_arr (by omega)
      refine Wo ?_
      refine Sd [[],[],[0,1],[0,1,2],[0,1,2,3],[0,1,2,3],[0,1,2,3,4,5],[0,1,2,3,4,5,6],[0,1,2,3],[0,1,2,3],[0,1,2,3,8,9],[0,1,2,3,8,9,10],[0,1,2,3,4,5,6,7,8,9,10,11],[0,1,2,3,4,5,6,7,8,9,10,11,12],[0,1,2,3,4,5,6,7,8,9,10,11,12,13]] 12 [Nn 0,Nn 1,Nn 2,Nn 3,Nn 4,Nn 5,Nn 6,Nn 7,Nn 8,Nn 9,Nn 10,Nn 11] ?_
      refine Di ?_
      refine Ae ?_
      refine Xv (less_v _ _ _) ?_
      refine Wo ?_
      rw [u1, ua]
      refine sf_ifn (fun h4 => ?_) fun h4 => ?_
      · refine Wo ?_
        subst hy0
        exact ⟨y, by omega, ⟨vI (show ((y + 1 : Nat) : Int) - 1 = (y : Int) by omega), trivial⟩, rfl, _, _, inferInstance, rfl, by omega, by omega, by omega, by rw [← hinv]; exact (scanDown_go h2 (by simp only [ltInt_is]; simp [h4])).symm⟩
      · refine sf_exit ?_
        refine Wo ?_
        (show Code.sf _ _ _ _ _ _ _ _; refine sf_keep [0, 1, 10, 11, 65] ?_)
        exact tail.out x (by omega) (by omega) (by omega) (by rw [← hinv]; exact scanDown_stop (fun h => absurd h4 (by simpa [ltInt_is] using h.2)))
    · have h3 : ¬ ((i : Nat) : Int) ≤ (x : Int) := by omega
      refine Wo ?_
      refine Sd [[],[],[0,1],[0,1,2],[0,1,2,3],[0,1,2,3],[0,1,2,3,4,5],[0,1,2,3,4,5,6],[0,1,2,3],[0,1,2,3],[0,1,2,3,8,9],[0,1,2,3,8,9,10],[0,1,2,3,4,5,6,7,8,9,10,11],[0,1,2,3,4,5,6,7,8,9,10,11,12],[0,1,2,3,4,5,6,7,8,9,10,11,12,13]] 12 [Nn 0,Nn 1,Nn 2,Nn 3,Nn 4,Nn 5,Nn 6,Nn 7,Nn 8,Nn 9,Nn 10,Nn 11] ?_
      refine Di ?_
      refine Ae ?_
      refine Wo ?_
      refine sf_cond (by rfl) (fun e => by cases e) fun z1 => ?_
      clear z1
      refine sf_exit ?_
      refine Wo ?_
      (show Code.sf _ _ _ _ _ _ _ _; refine sf_keep [0, 1, 10, 11, 65] ?_)
      exact tail.out x (by omega) (by omega) (by omega) (by rw [← hinv]; exact scanDown_stop (fun h => h2 h.1))
  intro j hj0 hj1 hj2 hsd
  refine sf_if (fun h1 => ?_) fun h1 => ?_
  · have hP := partition_A (b := n + 1) he hsu hsd (by omega)
    rw [hP]
    refine Wo ?_
    refine sf_draw (by kernel_rfl) (regX_own (B) (regX_split 7 11 (by rfl) ?_ ?_))
    case' refine_1 =>
      refine Sw [[],[],[],[],[],[],[4,5],[4,5,6],[],[],[8,9],[4,5,6,7,8,9,10],[0,1,4,5,6,7,8,9,10,11],[0,1,4,5,6,7,8,9,10,11,12],[0,1,2,3,4,5,6,7,8,9,10,11,12,13],[0,1,2,3,4,5,6,7,8,9,10,11,12,13,14]] 14 [Nn 0,Nn 1,Nn 2,Nn 3,Nn 4,Nn 5,Nn 6,Nn 8,Nn 9,Nn 10,Yy 7,Yy 11,Nn 12,Yy 13] ?_
      refine Di ?_
      refine Yw (by rfl) (z_loadG (by rfl) ge (by omega) (by rfl)) ?_
      refine Di ?_
      refine Yw (by rfl) (z_loadG (by rfl) ge (by omega) (by rfl)) ?_
      refine Di ?_
      refine Yg ge fun As ys hy hl fs gg => ?_
      refine Di ?_
      refine Ae ?_
    case' refine_2 =>
      refine Sw [[],[],[],[],[],[],[4,5],[4,5,6,8,9,10,11],[],[],[8,9],[8,9,10],[0,1,4,5,6,7,8,9,10,11],[0,1,4,5,6,7,8,9,10,11,12],[0,1,2,3,4,5,6,7,8,9,10,11,12,13],[0,1,2,3,4,5,6,7,8,9,10,11,12,13,14]] 14 [Nn 0,Nn 1,Nn 2,Nn 3,Nn 4,Nn 5,Nn 6,Nn 8,Nn 9,Nn 10,Yy 11,Yy 7,Nn 12,Yy 13] ?_
      refine Di ?_
      refine Yw (by rfl) (z_loadG (by rfl) ge (by omega) (by rfl)) ?_
      refine Di ?_
      refine Yw (by rfl) (z_loadG (by rfl) ge (by omega) (by rfl)) ?_
      refine Di ?_
      refine Yg ge fun As ys hy hl fs gg => ?_
      refine Di ?_
      refine Ae ?_
    all_goals
      refine Wi ?_
      refine Xg gg fun At zs hz hlz fz gz => ?_
      refine Wi ?_
      have hf : zs = (swp e j a).toList := swp_is hy hz (by omega) (by omega) (by omega) (by omega) (by omega) (by omega)
      rw [hf] at gz
      exact sf_ret (rO At ⟨rfl, gz⟩)
  have hB := fun r hr => partition_B (b := n + 1) he hsu hsd (by omega) (r := r) hr
  obtain ⟨j, rfl⟩ : ∃ k, j = k + 1 := ⟨j - 1, by omega⟩
  simp only [Nat.add_sub_cancel] at hB
  refine Wo ?_
  apply viaT (G := ∀ (B2 : Own), Gr B2 v 3 intF (swp e i (j + 1)).toList → _)
  · intro tail
    refine sf_draw (by kernel_rfl) (regX_own (B) (regX_split 7 11 (by rfl) ?_ ?_))
    case' refine_1 =>
      refine Sw [[],[],[],[],[],[],[4,5],[4,5,6],[],[],[8,9],[4,5,6,7,8,9,10],[0,1,4,5,6,7,8,9,10,11],[0,1,4,5,6,7,8,9,10,11,12],[0,1,2,3,4,5,6,7,8,9,10,11,12,13],[0,1,2,3,4,5,6,7,8,9,10,11,12,13,14]] 14 [Nn 0,Nn 1,Nn 2,Nn 3,Nn 4,Nn 5,Nn 6,Nn 8,Nn 9,Nn 10,Yy 7,Yy 11,Nn 12,Yy 13] ?_
      refine Di ?_
      refine Yw (by rfl) (z_loadG (by rfl) ge (by omega) (by rfl)) ?_
      refine Di ?_
      refine Yw (by rfl) (z_loadG (by rfl) ge (by omega) (by rfl)) ?_
      refine Di ?_
      refine Yg ge fun As ys hy hl fs gg => ?_
      refine Di ?_
      refine Ae ?_
    case' refine_2 =>
      refine Sw [[],[],[],[],[],[],[4,5],[4,5,6,8,9,10,11],[],[],[8,9],[8,9,10],[0,1,4,5,6,7,8,9,10,11],[0,1,4,5,6,7,8,9,10,11,12],[0,1,2,3,4,5,6,7,8,9,10,11,12,13],[0,1,2,3,4,5,6,7,8,9,10,11,12,13,14]] 14 [Nn 0,Nn 1,Nn 2,Nn 3,Nn 4,Nn 5,Nn 6,Nn 8,Nn 9,Nn 10,Yy 11,Yy 7,Nn 12,Yy 13] ?_
      refine Di ?_
      refine Yw (by rfl) (z_loadG (by rfl) ge (by omega) (by rfl)) ?_
      refine Di ?_
      refine Yw (by rfl) (z_loadG (by rfl) ge (by omega) (by rfl)) ?_
      refine Di ?_
      refine Yg ge fun As ys hy hl fs gg => ?_
      refine Di ?_
      refine Ae ?_
    all_goals
      refine Wi ?_
      refine Xg gg fun At zs hz hlz fz gz => ?_
      refine Wi ?_
      rw [show (((j + 1 : Nat) : Int) - 1) = (j : Int) by omega]
      have hf : zs = (swp e i (j + 1)).toList := swp_is hy hz (by omega) (by omega) (by omega) (by omega) (by omega) (by omega)
      rw [hf] at gz
      show Code.sf _ _ _ _ _ _ _ _
      refine sf_keep [0, 1, 10, 11] ?_
      refine sf_own At ?_
      exact tail.out At gz
  intro B2 ge2
  obtain ⟨e2, he2⟩ : ∃ e2, e2 = swp e i (j + 1) := ⟨_, rfl⟩
  rw [← he2] at ge2
  have e2s : e2.size = e.size := by rw [he2, swp_size]
  rw [← he2] at hB
  refine sf_lp (ι := Nat × Nat × Array Int) [0, 1] (fun x => [(10, .int .i64 (x.1 : Int)), (11, .int .i64 (x.2.1 : Int))]) (fun x O => Gr O v 3 intF x.2.2.toList ∧ x.2.2.size = d.size ∧ a + 1 ≤ x.1 ∧ x.1 ≤ x.2.1 + 2 ∧ a ≤ x.2.1 ∧ x.2.1 ≤ n ∧ partLoop ltInt a x.1 x.2.1 x.2.2 = partLoop ltInt a (i + 1) j e2) (fun x => x.2.1 + 2 - x.1) (i + 1, j, e2) B2 ⟨ge2, by simp only; omega, by simp only; omega, by simp only; omega, by simp only; omega, by simp only; omega, rfl⟩ ?_
  rintro ⟨i3, j3, f⟩ O3 ⟨gf, fsz, k1, k2, k3, k4, finv⟩
  simp only at gf fsz k1 k2 k3 k4 finv ⊢
  have lf : f.toList.length = f.size := by simp
  have uf : gt f.toList a = f[a]! := gt_arr (by omega)
  refine Wo ?_
  apply viaT (G := ∀ i : Nat, i3 ≤ i → i ≤ j3 + 2 → scanUp (fun x => ltInt x f[a]!) f j3 i3 = i → _)
  · intro tail
    refine sf_lp (ι := Nat) [0, 1, 11] (fun x => [(10, .int .i64 (x : Int))]) (fun x O' => O' = O3 ∧ i3 ≤ x ∧ x ≤ j3 + 2 ∧ scanUp (fun x => ltInt x f[a]!) f j3 x = scanUp (fun x => ltInt x f[a]!) f j3 (i3)) (fun x => j3 + 2 - x) (i3) O3 ⟨rfl, by omega, by omega, rfl⟩ ?_
    rintro x _ ⟨rfl, hx0, hx1, hinv⟩
    by_cases h2 : x ≤ j3
    · have h3 : (x : Int) ≤ ((j3 : Nat) : Int) := by omega
      have u1 : gt f.toList x = f[x]! := gt_arr (by omega)
      refine Wo ?_
      refine Sd [[],[],[0,1],[0,1,2],[0,1,2,3],[0,1,2,3],[0,1,2,3,4,5],[0,1,2,3,4,5,6],[0,1,2,3],[0,1,2,3],[0,1,2,3,8,9],[0,1,2,3,8,9,10],[0,1,2,3,4,5,6,7,8,9,10,11],[0,1,2,3,4,5,6,7,8,9,10,11,12]] 12 [Nn 0,Nn 1,Nn 2,Nn 3,Nn 4,Nn 5,Nn 6,Nn 7,Nn 8,Nn 9,Nn 10,Nn 11] ?_
      refine Di ?_
      refine Ae ?_
      refine Xv (less_v _ _ _) ?_
      refine Wo ?_
      rw [u1, uf]
      refine sf_if (fun h4 => ?_) fun h4 => ?_
      · refine Wo ?_
        exact ⟨x + 1, by omega, ⟨rfl, trivial⟩, rfl, _, _, inferInstance, rfl, by omega, by omega, by rw [← hinv]; exact (scanUp_go h2 (by simp only [ltInt_is]; simp [h4])).symm⟩
      · refine sf_exit ?_
        refine Wo ?_
        refine sf_keep [0, 1, 10, 11] ?_
        exact tail.out x (by omega) (by omega) (by rw [← hinv]; exact scanUp_stop (fun h => h4 (by simpa [ltInt_is] using h.2)))
    · have h3 : ¬ (x : Int) ≤ ((j3 : Nat) : Int) := by omega
      refine Wo ?_
      refine Sd [[],[],[0,1],[0,1,2],[0,1,2,3],[0,1,2,3],[0,1,2,3,4,5],[0,1,2,3,4,5,6],[0,1,2,3],[0,1,2,3],[0,1,2,3,8,9],[0,1,2,3,8,9,10],[0,1,2,3,4,5,6,7,8,9,10,11],[0,1,2,3,4,5,6,7,8,9,10,11,12]] 12 [Nn 0,Nn 1,Nn 2,Nn 3,Nn 4,Nn 5,Nn 6,Nn 7,Nn 8,Nn 9,Nn 10,Nn 11] ?_
      refine Di ?_
      refine Ae ?_
      refine Wo ?_
      refine sf_cond (by rfl) (fun e => by cases e) fun z1 => ?_
      clear z1
      refine sf_exit ?_
      refine Wo ?_
      refine sf_keep [0, 1, 10, 11] ?_
      exact tail.out x (by omega) (by omega) (by rw [← hinv]; exact scanUp_stop (fun h => h2 h.1))
  intro i4 hi4 hi5 hsu4
  apply viaT (G := ∀ j : Nat, i4 ≤ j + 2 → a ≤ j → j ≤ j3 → scanDown (fun x => !ltInt x f[a]!) f i4 j3 = j → _)
  · intro tail
    refine sf_lp (ι := Nat) [0, 1, 10] (fun x => [(11, .int .i64 (x : Int))]) (fun x O' => O' = O3 ∧ i4 ≤ x + 2 ∧ a ≤ x ∧ x ≤ j3 ∧ scanDown (fun x => !ltInt x f[a]!) f i4 x = scanDown (fun x => !ltInt x f[a]!) f i4 (j3)) (fun x => x) (j3) O3 ⟨rfl, by omega, by omega, by omega, rfl⟩ ?_
    rintro x _ ⟨rfl, hx0, hx2, hx1, hinv⟩
    by_cases h2 : i4 ≤ x
    · obtain ⟨y, hy0⟩ : ∃ k, x = k + 1 := ⟨x - 1, by omega⟩
      have h3 : ((i4 : Nat) : Int) ≤ (x : Int) := by omega
      have u1 : gt f.toList x = f[x]! := gt_arr (by omega)
      refine Wo ?_
      refine Sd [[],[],[0,1],[0,1,2],[0,1,2,3],[0,1,2,3],[0,1,2,3,4,5],[0,1,2,3,4,5,6],[0,1,2,3],[0,1,2,3],[0,1,2,3,8,9],[0,1,2,3,8,9,10],[0,1,2,3,4,5,6,7,8,9,10,11],[0,1,2,3,4,5,6,7,8,9,10,11,12],[0,1,2,3,4,5,6,7,8,9,10,11,12,13]] 12 [Nn 0,Nn 1,Nn 2,Nn 3,Nn 4,Nn 5,Nn 6,Nn 7,Nn 8,Nn 9,Nn 10,Nn 11] ?_
      refine Di ?_
      refine Ae ?_
      refine Xv (less_v _ _ _) ?_
      refine Wo ?_
      rw [u1, uf]
      refine sf_ifn (fun h4 => ?_) fun h4 => ?_
      · refine Wo ?_
        subst hy0
        exact ⟨y, by omega, ⟨vI (show ((y + 1 : Nat) : Int) - 1 = (y : Int) by omega), trivial⟩, rfl, _, _, inferInstance, rfl, by omega, by omega, by omega, by rw [← hinv]; exact (scanDown_go h2 (by simp only [ltInt_is]; simp [h4])).symm⟩
      · refine sf_exit ?_
        refine Wo ?_
        (show Code.sf _ _ _ _ _ _ _ _; refine sf_keep [0, 1, 10, 11, 134] ?_)
        exact tail.out x (by omega) (by omega) (by omega) (by rw [← hinv]; exact scanDown_stop (fun h => absurd h4 (by simpa [ltInt_is] using h.2)))
    · have h3 : ¬ ((i4 : Nat) : Int) ≤ (x : Int) := by omega
      refine Wo ?_
      refine Sd [[],[],[0,1],[0,1,2],[0,1,2,3],[0,1,2,3],[0,1,2,3,4,5],[0,1,2,3,4,5,6],[0,1,2,3],[0,1,2,3],[0,1,2,3,8,9],[0,1,2,3,8,9,10],[0,1,2,3,4,5,6,7,8,9,10,11],[0,1,2,3,4,5,6,7,8,9,10,11,12],[0,1,2,3,4,5,6,7,8,9,10,11,12,13]] 12 [Nn 0,Nn 1,Nn 2,Nn 3,Nn 4,Nn 5,Nn 6,Nn 7,Nn 8,Nn 9,Nn 10,Nn 11] ?_
      refine Di ?_
      refine Ae ?_
      refine Wo ?_
      refine sf_cond (by rfl) (fun e => by cases e) fun z1 => ?_
      clear z1
      refine sf_exit ?_
      refine Wo ?_
      (show Code.sf _ _ _ _ _ _ _ _; refine sf_keep [0, 1, 10, 11, 134] ?_)
      exact tail.out x (by omega) (by omega) (by omega) (by rw [← hinv]; exact scanDown_stop (fun h => h2 h.1))
  intro j4 hj4 hj5 hj6 hsd4
  obtain ⟨s1, s2⟩ := partLoop_step hsu4 hsd4 hi4 hj6
  refine sf_if (fun h5 => ?_) fun h5 => ?_
  · refine sf_exit ?_
    have hP := hB _ (finv.symm.trans (s1 (by omega)))
    rw [hP]
    refine Wo ?_
    refine sf_draw (by kernel_rfl) (regX_own (O3) (regX_split 7 11 (by rfl) ?_ ?_))
    case' refine_1 =>
      refine Sw [[],[],[],[],[],[],[4,5],[4,5,6],[],[],[8,9],[4,5,6,7,8,9,10],[0,1,4,5,6,7,8,9,10,11],[0,1,4,5,6,7,8,9,10,11,12],[0,1,2,3,4,5,6,7,8,9,10,11,12,13],[0,1,2,3,4,5,6,7,8,9,10,11,12,13,14]] 14 [Nn 0,Nn 1,Nn 2,Nn 3,Nn 4,Nn 5,Nn 6,Nn 8,Nn 9,Nn 10,Yy 7,Yy 11,Nn 12,Yy 13] ?_
      refine Di ?_
      refine Yw (by rfl) (z_loadG (by rfl) gf (by omega) (by rfl)) ?_
      refine Di ?_
      refine Yw (by rfl) (z_loadG (by rfl) gf (by omega) (by rfl)) ?_
      refine Di ?_
      refine Yg gf fun As ys hy hl fs gg => ?_
      refine Di ?_
      refine Ae ?_
    case' refine_2 =>
      refine Sw [[],[],[],[],[],[],[4,5],[4,5,6,8,9,10,11],[],[],[8,9],[8,9,10],[0,1,4,5,6,7,8,9,10,11],[0,1,4,5,6,7,8,9,10,11,12],[0,1,2,3,4,5,6,7,8,9,10,11,12,13],[0,1,2,3,4,5,6,7,8,9,10,11,12,13,14]] 14 [Nn 0,Nn 1,Nn 2,Nn 3,Nn 4,Nn 5,Nn 6,Nn 8,Nn 9,Nn 10,Yy 11,Yy 7,Nn 12,Yy 13] ?_
      refine Di ?_
      refine Yw (by rfl) (z_loadG (by rfl) gf (by omega) (by rfl)) ?_
      refine Di ?_
      refine Yw (by rfl) (z_loadG (by rfl) gf (by omega) (by rfl)) ?_
      refine Di ?_
      refine Yg gf fun As ys hy hl fs gg => ?_
      refine Di ?_
      refine Ae ?_
    all_goals
      refine Wi ?_
      refine Xg gg fun At zs hz hlz fz gz => ?_
      refine Wi ?_
      have hf : zs = (swp f j4 a).toList := swp_is hy hz (by omega) (by omega) (by omega) (by omega) (by omega) (by omega)
      rw [hf] at gz
      exact sf_ret (rO At ⟨rfl, gz⟩)
  obtain ⟨j4, rfl⟩ : ∃ k, j4 = k + 1 := ⟨j4 - 1, by omega⟩
  have s3 := s2 (by omega) (by omega)
  refine Wo ?_
  refine sf_draw (by kernel_rfl) (regX_own (O3) (regX_split 7 11 (by rfl) ?_ ?_))
  case' refine_1 =>
    refine Sw [[],[],[],[],[],[],[4,5],[4,5,6],[],[],[8,9],[4,5,6,7,8,9,10],[0,1,4,5,6,7,8,9,10,11],[0,1,4,5,6,7,8,9,10,11,12],[0,1,2,3,4,5,6,7,8,9,10,11,12,13],[0,1,2,3,4,5,6,7,8,9,10,11,12,13,14]] 14 [Nn 0,Nn 1,Nn 2,Nn 3,Nn 4,Nn 5,Nn 6,Nn 8,Nn 9,Nn 10,Yy 7,Yy 11,Nn 12,Yy 13] ?_
    refine Di ?_
    refine Yw (by rfl) (z_loadG (by rfl) gf (by omega) (by rfl)) ?_
    refine Di ?_
    refine Yw (by rfl) (z_loadG (by rfl) gf (by omega) (by rfl)) ?_
    refine Di ?_
    refine Yg gf fun As ys hy hl fs gg => ?_
    refine Di ?_
    refine Ae ?_
  case' refine_2 =>
    refine Sw [[],[],[],[],[],[],[4,5],[4,5,6,8,9,10,11],[],[],[8,9],[8,9,10],[0,1,4,5,6,7,8,9,10,11],[0,1,4,5,6,7,8,9,10,11,12],[0,1,2,3,4,5,6,7,8,9,10,11,12,13],[0,1,2,3,4,5,6,7,8,9,10,11,12,13,14]] 14 [Nn 0,Nn 1,Nn 2,Nn 3,Nn 4,Nn 5,Nn 6,Nn 8,Nn 9,Nn 10,Yy 11,Yy 7,Nn 12,Yy 13] ?_
    refine Di ?_
    refine Yw (by rfl) (z_loadG (by rfl) gf (by omega) (by rfl)) ?_
    refine Di ?_
    refine Yw (by rfl) (z_loadG (by rfl) gf (by omega) (by rfl)) ?_
    refine Di ?_
    refine Yg gf fun As ys hy hl fs gg => ?_
    refine Di ?_
    refine Ae ?_
  all_goals
    refine Wi ?_
    refine Xg gg fun At zs hz hlz fz gz => ?_
    refine Wi ?_
    rw [show (((j4 + 1 : Nat) : Int) - 1) = (j4 : Int) by omega]
    have hf : zs = (swp f i4 (j4 + 1)).toList := swp_is hy hz (by omega) (by omega) (by omega) (by omega) (by omega) (by omega)
    rw [hf] at gz
    exact ⟨(i4 + 1, j4, swp f i4 (j4 + 1)), by simp only; omega, ⟨rfl, rfl, trivial⟩, rfl, _, _, inferInstance, gz, by simp only [swp_size]; exact fsz, by simp only; omega, by simp only; omega, by simp only; omega, by simp only; omega, by simp only; rw [← finv, s3]; rfl⟩
theorem partitionEqual_f (h : PHeap) (v : Value) (A : Own) (d : Array Int) (g : Gr A v 3 intF d.toList) (a b p : Nat) (hb : b ≤ d.size) (hs : d.size ≤ 1000000) (hab : a < b) (hp : a ≤ p ∧ p < b) :
    CallF Tryz.prog M 136 [v, .int .i64 (a : Int), .int .i64 (b : Int), .int .i64 (p : Int)] A h fun u A' => u = .int .i64 ((partitionEqual ltInt d a b p).1 : Int) ∧ Gr A' v 3 intF (partitionEqual ltInt d a b p).2.toList := by
  have o := g.one
  have ld : d.toList.length = d.size := by simp
  obtain ⟨n, rfl⟩ : ∃ n : Nat, b = n + 1 := ⟨b - 1, by omega⟩
  refine Cs Tryz.func136 Tryz.ntmps136 ?_
  refine Wo ?_
  apply viaT (G := ∀ (B : Own), Gr B v 3 intF (swp d a p).toList → _)
  · intro tail
    refine sf_draw (by kernel_rfl) (regX_own (A) (regX_split 7 11 (by rfl) ?_ ?_))
    case' refine_1 =>
      refine Sw [[],[],[],[],[],[],[4,5],[4,5,6],[],[],[8,9],[4,5,6,7,8,9,10],[0,1,4,5,6,7,8,9,10,11],[0,1,4,5,6,7,8,9,10,11,12],[0,1,2,3,4,5,6,7,8,9,10,11,12,13],[0,1,2,3,4,5,6,7,8,9,10,11,12,13,14]] 14 [Nn 0,Nn 1,Nn 2,Nn 3,Nn 4,Nn 5,Nn 6,Nn 8,Nn 9,Nn 10,Yy 7,Yy 11,Nn 12,Yy 13] ?_
      refine Di ?_
      refine Yw (by rfl) (z_loadG (by rfl) g (by omega) (by rfl)) ?_
      refine Di ?_
      refine Yw (by rfl) (z_loadG (by rfl) g (by omega) (by rfl)) ?_
      refine Di ?_
      refine Yg g fun As ys hy hl fs gg => ?_
      refine Di ?_
      refine Ae ?_
    case' refine_2 =>
      refine Sw [[],[],[],[],[],[],[4,5],[4,5,6,8,9,10,11],[],[],[8,9],[8,9,10],[0,1,4,5,6,7,8,9,10,11],[0,1,4,5,6,7,8,9,10,11,12],[0,1,2,3,4,5,6,7,8,9,10,11,12,13],[0,1,2,3,4,5,6,7,8,9,10,11,12,13,14]] 14 [Nn 0,Nn 1,Nn 2,Nn 3,Nn 4,Nn 5,Nn 6,Nn 8,Nn 9,Nn 10,Yy 11,Yy 7,Nn 12,Yy 13] ?_
      refine Di ?_
      refine Yw (by rfl) (z_loadG (by rfl) g (by omega) (by rfl)) ?_
      refine Di ?_
      refine Yw (by rfl) (z_loadG (by rfl) g (by omega) (by rfl)) ?_
      refine Di ?_
      refine Yg g fun As ys hy hl fs gg => ?_
      refine Di ?_
      refine Ae ?_
    all_goals
      refine Wi ?_
      refine Xg gg fun At zs hz hlz fz gz => ?_
      refine Wi ?_
      rw [show (((n + 1 : Nat) : Int) - 1) = (n : Int) by omega]
      have hf : zs = (swp d a p).toList := swp_is hy hz (by omega) (by omega) (by omega) (by omega) (by omega) (by omega)
      rw [hf] at gz
      show Code.sf _ _ _ _ _ _ _ _
      refine sf_keep [0, 1, 9, 10] ?_
      refine sf_own At ?_
      exact tail.out At gz
  intro B ge
  obtain ⟨e, he⟩ : ∃ e, e = swp d a p := ⟨_, rfl⟩
  rw [← he] at ge
  have es : e.size = d.size := by rw [he, swp_size]
  have hpe : partitionEqual ltInt d a (n + 1) p = partEqLoop ltInt a (a + 1) n e := by rw [he]; rfl
  rw [hpe]
  refine sf_lp (ι := Nat × Nat × Array Int) [0, 1] (fun x => [(9, .int .i64 (x.1 : Int)), (10, .int .i64 (x.2.1 : Int))]) (fun x O => Gr O v 3 intF x.2.2.toList ∧ x.2.2.size = d.size ∧ a + 1 ≤ x.1 ∧ x.1 ≤ x.2.1 + 2 ∧ a ≤ x.2.1 ∧ x.2.1 ≤ n ∧ partEqLoop ltInt a x.1 x.2.1 x.2.2 = partEqLoop ltInt a (a + 1) n e) (fun x => x.2.1 + 2 - x.1) (a + 1, n, e) B ⟨ge, by simp only; omega, by simp only; omega, by simp only; omega, by simp only; omega, by simp only; omega, rfl⟩ ?_
  rintro ⟨i3, j3, f⟩ O3 ⟨gf, fsz, k1, k2, k3, k4, finv⟩
  simp only at gf fsz k1 k2 k3 k4 finv ⊢
  have lf : f.toList.length = f.size := by simp
  have uf : gt f.toList a = f[a]! := gt_arr (by omega)
  refine Wo ?_
  apply viaT (G := ∀ i : Nat, i3 ≤ i → i ≤ j3 + 2 → scanUp (fun x => !ltInt f[a]! x) f j3 i3 = i → _)
  · intro tail
    refine sf_lp (ι := Nat) [0, 1, 10] (fun x => [(9, .int .i64 (x : Int))]) (fun x O' => O' = O3 ∧ i3 ≤ x ∧ x ≤ j3 + 2 ∧ scanUp (fun x => !ltInt f[a]! x) f j3 x = scanUp (fun x => !ltInt f[a]! x) f j3 (i3)) (fun x => j3 + 2 - x) (i3) O3 ⟨rfl, by omega, by omega, rfl⟩ ?_
    rintro x _ ⟨rfl, hx0, hx1, hinv⟩
    by_cases h2 : x ≤ j3
    · have h3 : (x : Int) ≤ ((j3 : Nat) : Int) := by omega
      have u1 : gt f.toList x = f[x]! := gt_arr (by omega)
      refine Wo ?_
      refine Sd [[],[],[0,1],[0,1,2],[0,1,2,3],[0,1,2,3],[0,1,2,3,4,5],[0,1,2,3,4,5,6],[0,1,2,3],[0,1,2,3],[0,1,2,3,8,9],[0,1,2,3,8,9,10],[0,1,2,3,4,5,6,7,8,9,10,11],[0,1,2,3,4,5,6,7,8,9,10,11,12],[0,1,2,3,4,5,6,7,8,9,10,11,12,13]] 12 [Nn 0,Nn 1,Nn 2,Nn 3,Nn 4,Nn 5,Nn 6,Nn 7,Nn 8,Nn 9,Nn 10,Nn 11] ?_
      refine Di ?_
      refine Ae ?_
      refine Xv (less_v _ _ _) ?_
      refine Wo ?_
      rw [u1, uf]
      refine sf_ifn (fun h4 => ?_) fun h4 => ?_
      · refine Wo ?_
        exact ⟨x + 1, by omega, ⟨rfl, trivial⟩, rfl, _, _, inferInstance, rfl, by omega, by omega, by rw [← hinv]; exact (scanUp_go h2 (by simp only [ltInt_is]; simp [h4])).symm⟩
      · refine sf_exit ?_
        refine Wo ?_
        refine sf_keep [0, 1, 9, 10] ?_
        exact tail.out x (by omega) (by omega) (by rw [← hinv]; exact scanUp_stop (fun h => absurd h4 (by simpa [ltInt_is] using h.2)))
    · have h3 : ¬ (x : Int) ≤ ((j3 : Nat) : Int) := by omega
      refine Wo ?_
      refine Sd [[],[],[0,1],[0,1,2],[0,1,2,3],[0,1,2,3],[0,1,2,3,4,5],[0,1,2,3,4,5,6],[0,1,2,3],[0,1,2,3],[0,1,2,3,8,9],[0,1,2,3,8,9,10],[0,1,2,3,4,5,6,7,8,9,10,11],[0,1,2,3,4,5,6,7,8,9,10,11,12],[0,1,2,3,4,5,6,7,8,9,10,11,12,13]] 12 [Nn 0,Nn 1,Nn 2,Nn 3,Nn 4,Nn 5,Nn 6,Nn 7,Nn 8,Nn 9,Nn 10,Nn 11] ?_
      refine Di ?_
      refine Ae ?_
      refine Wo ?_
      refine sf_cond (by rfl) (fun e => by cases e) fun z1 => ?_
      clear z1
      refine sf_exit ?_
      refine Wo ?_
      refine sf_keep [0, 1, 9, 10] ?_
      exact tail.out x (by omega) (by omega) (by rw [← hinv]; exact scanUp_stop (fun h => h2 h.1))
  intro i4 hi4 hi5 hsu4
  apply viaT (G := ∀ j : Nat, i4 ≤ j + 2 → a ≤ j → j ≤ j3 → scanDown (fun x => ltInt f[a]! x) f i4 j3 = j → _)
  · intro tail
    refine sf_lp (ι := Nat) [0, 1, 9] (fun x => [(10, .int .i64 (x : Int))]) (fun x O' => O' = O3 ∧ i4 ≤ x + 2 ∧ a ≤ x ∧ x ≤ j3 ∧ scanDown (fun x => ltInt f[a]! x) f i4 x = scanDown (fun x => ltInt f[a]! x) f i4 (j3)) (fun x => x) (j3) O3 ⟨rfl, by omega, by omega, by omega, rfl⟩ ?_
    rintro x _ ⟨rfl, hx0, hx2, hx1, hinv⟩
    by_cases h2 : i4 ≤ x
    · obtain ⟨y, hy0⟩ : ∃ k, x = k + 1 := ⟨x - 1, by omega⟩
      have h3 : ((i4 : Nat) : Int) ≤ (x : Int) := by omega
      have u1 : gt f.toList x = f[x]! := gt_arr (by omega)
      refine Wo ?_
      refine Sd [[],[],[0,1],[0,1,2],[0,1,2,3],[0,1,2,3],[0,1,2,3,4,5],[0,1,2,3,4,5,6],[0,1,2,3],[0,1,2,3],[0,1,2,3,8,9],[0,1,2,3,8,9,10],[0,1,2,3,4,5,6,7,8,9,10,11],[0,1,2,3,4,5,6,7,8,9,10,11,12]] 12 [Nn 0,Nn 1,Nn 2,Nn 3,Nn 4,Nn 5,Nn 6,Nn 7,Nn 8,Nn 9,Nn 10,Nn 11] ?_
      refine Di ?_
      refine Ae ?_
      refine Xv (less_v _ _ _) ?_
      refine Wo ?_
      rw [u1, uf]
      refine sf_if (fun h4 => ?_) fun h4 => ?_
      · refine Wo ?_
        subst hy0
        exact ⟨y, by omega, ⟨vI (show ((y + 1 : Nat) : Int) - 1 = (y : Int) by omega), trivial⟩, rfl, _, _, inferInstance, rfl, by omega, by omega, by omega, by rw [← hinv]; exact (scanDown_go h2 (by simp only [ltInt_is]; simp [h4])).symm⟩
      · refine sf_exit ?_
        refine Wo ?_
        (show Code.sf _ _ _ _ _ _ _ _; refine sf_keep [0, 1, 9, 10, 64] ?_)
        exact tail.out x (by omega) (by omega) (by omega) (by rw [← hinv]; exact scanDown_stop (fun h => h4 (by simpa [ltInt_is] using h.2)))
    · have h3 : ¬ ((i4 : Nat) : Int) ≤ (x : Int) := by omega
      refine Wo ?_
      refine Sd [[],[],[0,1],[0,1,2],[0,1,2,3],[0,1,2,3],[0,1,2,3,4,5],[0,1,2,3,4,5,6],[0,1,2,3],[0,1,2,3],[0,1,2,3,8,9],[0,1,2,3,8,9,10],[0,1,2,3,4,5,6,7,8,9,10,11],[0,1,2,3,4,5,6,7,8,9,10,11,12]] 12 [Nn 0,Nn 1,Nn 2,Nn 3,Nn 4,Nn 5,Nn 6,Nn 7,Nn 8,Nn 9,Nn 10,Nn 11] ?_
      refine Di ?_
      refine Ae ?_
      refine Wo ?_
      refine sf_cond (by rfl) (fun e => by cases e) fun z1 => ?_
      clear z1
      refine sf_exit ?_
      refine Wo ?_
      (show Code.sf _ _ _ _ _ _ _ _; refine sf_keep [0, 1, 9, 10, 64] ?_)
      exact tail.out x (by omega) (by omega) (by omega) (by rw [← hinv]; exact scanDown_stop (fun h => h2 h.1))
  intro j4 hj4 hj5 hj6 hsd4
  obtain ⟨s1, s2⟩ := partEqLoop_step hsu4 hsd4 hi4 hj6
  refine sf_if (fun h5 => ?_) fun h5 => ?_
  · refine sf_exit ?_
    rw [← finv, s1 (by omega)]
    refine Wo ?_
    exact sf_ret (rO O3 ⟨rfl, gf⟩)
  obtain ⟨j4, rfl⟩ : ∃ k, j4 = k + 1 := ⟨j4 - 1, by omega⟩
  have s3 := s2 (by omega) (by omega)
  refine Wo ?_
  refine sf_draw (by kernel_rfl) (regX_own (O3) (regX_split 7 11 (by rfl) ?_ ?_))
  case' refine_1 =>
    refine Sw [[],[],[],[],[],[],[4,5],[4,5,6],[],[],[8,9],[4,5,6,7,8,9,10],[0,1,4,5,6,7,8,9,10,11],[0,1,4,5,6,7,8,9,10,11,12],[0,1,2,3,4,5,6,7,8,9,10,11,12,13],[0,1,2,3,4,5,6,7,8,9,10,11,12,13,14]] 14 [Nn 0,Nn 1,Nn 2,Nn 3,Nn 4,Nn 5,Nn 6,Nn 8,Nn 9,Nn 10,Yy 7,Yy 11,Nn 12,Yy 13] ?_
    refine Di ?_
    refine Yw (by rfl) (z_loadG (by rfl) gf (by omega) (by rfl)) ?_
    refine Di ?_
    refine Yw (by rfl) (z_loadG (by rfl) gf (by omega) (by rfl)) ?_
    refine Di ?_
    refine Yg gf fun As ys hy hl fs gg => ?_
    refine Di ?_
    refine Ae ?_
  case' refine_2 =>
    refine Sw [[],[],[],[],[],[],[4,5],[4,5,6,8,9,10,11],[],[],[8,9],[8,9,10],[0,1,4,5,6,7,8,9,10,11],[0,1,4,5,6,7,8,9,10,11,12],[0,1,2,3,4,5,6,7,8,9,10,11,12,13],[0,1,2,3,4,5,6,7,8,9,10,11,12,13,14]] 14 [Nn 0,Nn 1,Nn 2,Nn 3,Nn 4,Nn 5,Nn 6,Nn 8,Nn 9,Nn 10,Yy 11,Yy 7,Nn 12,Yy 13] ?_
    refine Di ?_
    refine Yw (by rfl) (z_loadG (by rfl) gf (by omega) (by rfl)) ?_
    refine Di ?_
    refine Yw (by rfl) (z_loadG (by rfl) gf (by omega) (by rfl)) ?_
    refine Di ?_
    refine Yg gf fun As ys hy hl fs gg => ?_
    refine Di ?_
    refine Ae ?_
  all_goals
    refine Wi ?_
    refine Xg gg fun At zs hz hlz fz gz => ?_
    refine Wi ?_
    rw [show (((j4 + 1 : Nat) : Int) - 1) = (j4 : Int) by omega]
    have hf : zs = (swp f i4 (j4 + 1)).toList := swp_is hy hz (by omega) (by omega) (by omega) (by omega) (by omega) (by omega)
    rw [hf] at gz
    exact ⟨(i4 + 1, j4, swp f i4 (j4 + 1)), by simp only; omega, ⟨rfl, rfl, trivial⟩, rfl, _, _, inferInstance, gz, by simp only [swp_size]; exact fsz, by simp only; omega, by simp only; omega, by simp only; omega, by simp only; omega, by simp only; rw [← finv, s3]; rfl⟩
theorem partialInsertionSort_f (h : PHeap) (v : Value) (A : Own) (d : Array Int) (g : Gr A v 3 intF d.toList) (a b : Nat) (hb : b ≤ d.size) (hs : d.size ≤ 1000000) (hab : a < b) :
    CallF Tryz.prog M 134 [v, .int .i64 (a : Int), .int .i64 (b : Int)] A h fun u A' => u = .bool (partialInsertionSort ltInt d a b).2 ∧ Gr A' v 3 intF (partialInsertionSort ltInt d a b).1.toList := by
  have o := g.one
  refine Cs Tryz.func134 Tryz.ntmps134 ?_
  refine Wo ?_
  refine sf_lp (ι := Nat × Nat × Array Int) [0, 1, 2] (fun x => [(8, .int .i64 (5 - (x.1 : Int))), (7, .int .i64 (x.2.1 : Int))]) (fun x O => Gr O v 3 intF x.2.2.toList ∧ x.2.2.size = d.size ∧ x.1 ≤ 5 ∧ a + 1 ≤ x.2.1 ∧ x.2.1 ≤ b ∧ partialIns ltInt a b x.1 x.2.1 x.2.2 = partialInsertionSort ltInt d a b) (fun x => x.1) (5, a + 1, d) A ⟨g, rfl, by simp only; omega, by simp only; omega, by simp only; omega, rfl⟩ ?_
  rintro ⟨s, i, f⟩ O ⟨gf, fsz, hs5, hi, hib, finv⟩
  simp only at gf fsz hs5 hi hib finv ⊢
  have lf : f.toList.length = f.size := by simp
  refine Wo ?_
  refine sf_if (fun h1 => ?_) fun h1 => ?_
  · obtain ⟨s, rfl⟩ : ∃ k, s = k + 1 := ⟨s - 1, by omega⟩
    refine Wo ?_
    apply viaT (G := ∀ i2 : Nat, i ≤ i2 → i2 ≤ b → scanSorted ltInt f b i = i2 → _)
    · intro tail
      refine sf_lp (ι := Nat) [0, 1, 2, 8] (fun x => [(7, .int .i64 (x : Int))]) (fun x O' => O' = O ∧ i ≤ x ∧ x ≤ b ∧ scanSorted ltInt f b x = scanSorted ltInt f b i) (fun x => b - x) i O ⟨rfl, by omega, hib, rfl⟩ ?_
      rintro x _ ⟨rfl, hx0, hx1, hinv⟩
      by_cases h2 : x < b
      · have h3 : (x : Int) < ((b : Nat) : Int) := by omega
        have u1 : gt f.toList x = f[x]! := gt_arr (by omega)
        have u2 : gt f.toList ((x : Int) - 1).toNat = f[x - 1]! := gt_arr' (by omega) (by omega)
        refine Wo ?_
        refine Sd [[],[],[0,1],[0,1,2],[0,1,2,3],[0,1,2,3],[0,1,2,3,4,5],[0,1,2,3,4,5,6],[0,1,2,3],[0,1,2,3],[0,1,2,3,9],[0,1,2,3,8,9,10],[0,1,2,3,8,9,10,11],[0,1,2,3,4,5,6,7,8,9,10,11,12],[0,1,2,3,4,5,6,7,8,9,10,11,12,13],[0,1,2,3,4,5,6,7,8,9,10,11,12,13,14]] 13 [Nn 0,Nn 1,Nn 2,Nn 3,Nn 4,Nn 5,Nn 6,Nn 7,Nn 8,Nn 9,Nn 10,Nn 11,Nn 12] ?_
        refine Di ?_
        refine Ae ?_
        refine Xv (less_v _ _ _) ?_
        refine Wo ?_
        rw [u1, u2]
        refine sf_ifn (fun h4 => ?_) fun h4 => ?_
        · refine Wo ?_
          exact ⟨x + 1, by omega, ⟨rfl, trivial⟩, rfl, _, _, inferInstance, rfl, by omega, by omega, by rw [← hinv]; exact (scanSorted_go h2 h4).symm⟩
        · refine sf_exit ?_
          refine Wo ?_
          show Code.sf _ _ _ _ _ _ _ _
          refine sf_keep [0, 1, 2, 7, 8, 37] ?_
          exact tail.out x hx0 hx1 (by rw [← hinv]; exact scanSorted_stop fun h => h.2 h4)
      · have h3 : ¬ (x : Int) < ((b : Nat) : Int) := by omega
        refine Wo ?_
        refine Sd [[],[],[0,1],[0,1,2],[0,1,2,3],[0,1,2,3],[0,1,2,3,4,5],[0,1,2,3,4,5,6],[0,1,2,3],[0,1,2,3],[0,1,2,3,9],[0,1,2,3,8,9,10],[0,1,2,3,8,9,10,11],[0,1,2,3,4,5,6,7,8,9,10,11,12],[0,1,2,3,4,5,6,7,8,9,10,11,12,13],[0,1,2,3,4,5,6,7,8,9,10,11,12,13,14]] 13 [Nn 0,Nn 1,Nn 2,Nn 3,Nn 4,Nn 5,Nn 6,Nn 7,Nn 8,Nn 9,Nn 10,Nn 11,Nn 12] ?_
        refine Di ?_
        refine Ae ?_
        refine Wo ?_
        refine sf_cond (by rfl) (fun e => by cases e) fun z1 => ?_
        clear z1
        refine sf_exit ?_
        refine Wo ?_
        show Code.sf _ _ _ _ _ _ _ _
        refine sf_keep [0, 1, 2, 7, 8, 37] ?_
        exact tail.out x hx0 hx1 (by rw [← hinv]; exact scanSorted_stop fun h => h2 h.1)
    intro i2 hi2 hi3 hsc
    obtain ⟨p1, p2, p3⟩ := partialIns_step (a := a) (s := s) hsc
    refine sf_if (fun h5 => ?_) fun h5 => ?_
    · refine Wo ?_
      refine sf_ret (rO O ?_)
      rw [← finv, p1 (by omega)]
      exact ⟨rfl, gf⟩
    refine Wo ?_
    refine sf_if (fun h6 => ?_) fun h6 => ?_
    · refine Wo ?_
      refine sf_ret (rO O ?_)
      rw [← finv, p2 (by omega) (by omega)]
      exact ⟨rfl, gf⟩
    have p4 := p3 (by omega) (by omega) _ _ rfl rfl
    clear p1 p2 p3
    rw [finv] at p4
    clear finv
    refine Wo ?_
    apply viaT (G := ∀ (B : Own), Gr B v 3 intF (swp f i2 (i2 - 1)).toList → _)
    · intro tail
      refine sf_draw (by kernel_rfl) (regX_own (O) (regX_split 9 13 (by rfl) ?_ ?_))
      case' refine_1 =>
        refine Sw [[],[],[],[],[3],[],[],[6],[5,6,7],[5,6,7,8],[],[],[10,11],[5,6,7,8,9,10,11,12],[0,1,5,6,7,8,9,10,11,12,13],[0,1,5,6,7,8,9,10,11,12,13,14],[0,1,2,3,4,5,6,7,8,9,10,11,12,13,14,15],[0,1,2,3,4,5,6,7,8,9,10,11,12,13,14,15,16]] 16 [Nn 0,Nn 1,Nn 2,Nn 3,Nn 4,Nn 5,Nn 6,Nn 7,Nn 8,Nn 10,Nn 11,Nn 12,Yy 9,Yy 13,Nn 14,Yy 15] ?_
        refine Di ?_
        refine Yw (by rfl) (z_loadG (by rfl) gf (by omega) (by rfl)) ?_
        refine Di ?_
        refine Yw (by rfl) (z_loadG (by rfl) gf (by omega) (by rfl)) ?_
        refine Di ?_
        refine Yg gf fun As ys hy hl fs gg => ?_
        refine Di ?_
        refine Ae ?_
      case' refine_2 =>
        refine Sw [[],[],[],[],[3],[],[],[6],[5,6,7],[5,6,7,8,10,11,12,13],[],[],[10,11],[10,11,12],[0,1,5,6,7,8,9,10,11,12,13],[0,1,5,6,7,8,9,10,11,12,13,14],[0,1,2,3,4,5,6,7,8,9,10,11,12,13,14,15],[0,1,2,3,4,5,6,7,8,9,10,11,12,13,14,15,16]] 16 [Nn 0,Nn 1,Nn 2,Nn 3,Nn 4,Nn 5,Nn 6,Nn 7,Nn 8,Nn 10,Nn 11,Nn 12,Yy 13,Yy 9,Nn 14,Yy 15] ?_
        refine Di ?_
        refine Yw (by rfl) (z_loadG (by rfl) gf (by omega) (by rfl)) ?_
        refine Di ?_
        refine Yw (by rfl) (z_loadG (by rfl) gf (by omega) (by rfl)) ?_
        refine Di ?_
        refine Yg gf fun As ys hy hl fs gg => ?_
        refine Di ?_
        refine Ae ?_
      all_goals
        refine Wi ?_
        refine Xg gg fun At zs hz hlz fz gz => ?_
        refine Wi ?_
        have hf : zs = (swp f i2 (i2 - 1)).toList := swp_is hy hz (by omega) (by omega) (by omega) (by omega) (by omega) (by omega)
        rw [hf] at gz
        show Code.sf _ _ _ _ _ _ _ _
        refine sf_keep [0, 1, 2, 7, 8, 61] ?_
        refine sf_own At ?_
        exact tail.out At gz
    intro B ge
    obtain ⟨e, he⟩ : ∃ e, e = swp f i2 (i2 - 1) := ⟨_, rfl⟩
    rw [← he] at ge p4
    have es : e.size = d.size := by rw [he, swp_size]; exact fsz
    apply viaT (G := ∀ (B : Own), Gr B v 3 intF (if 2 ≤ i2 - a then shiftDown ltInt (i2 - 1) e else e).toList → (if 2 ≤ i2 - a then shiftDown ltInt (i2 - 1) e else e).size = d.size → _)
    · intro tail
      refine sf_if (fun h7 => ?_) fun h7 => ?_
      · rw [if_pos (by omega)] at tail
        refine Wo ?_
        rw [show ((i2 : Int) - 1) = ((i2 - 1 : Nat) : Int) by omega]
        refine sf_lp (ι := Nat × Array Int) [0, 1, 2, 7, 8] (fun x => [(9, .int .i64 (x.1 : Int))]) (fun x O => Gr O v 3 intF x.2.toList ∧ x.2.size = d.size ∧ x.1 < b ∧ shiftDown ltInt x.1 x.2 = shiftDown ltInt (i2 - 1) e) (fun x => x.1) (i2 - 1, e) B ⟨ge, es, by simp only; omega, rfl⟩ ?_
        rintro ⟨j, f2⟩ O2 ⟨gf2, f2sz, hj, f2inv⟩
        simp only at gf2 f2sz hj f2inv ⊢
        have lf2 : f2.toList.length = f2.size := by simp
        refine Wo ?_
        refine sf_if (fun h8 => ?_) fun h8 => ?_
        · obtain ⟨j, rfl⟩ : ∃ k, j = k + 1 := ⟨j - 1, by omega⟩
          have u1 : gt f2.toList (j + 1) = f2[j + 1]! := gt_arr (by omega)
          have u2 : gt f2.toList (((j + 1 : Nat) : Int) - 1).toNat = f2[j]! := gt_arr' (by omega) (by omega)
          refine Wo ?_
          refine Sd [[],[],[0,1],[0,1,2],[],[],[5],[4,5,6],[4,5,6,7],[0,1,2,3,4,5,6,7,8],[0,1,2,3,4,5,6,7,8,9]] 9 [Nn 0,Nn 1,Nn 2,Nn 3,Nn 4,Nn 5,Nn 6,Nn 7,Nn 8] ?_
          refine Di ?_
          refine Ae ?_
          refine Xv (less_v _ _ _) ?_
          refine Wo ?_
          rw [u1, u2]
          refine sf_ifn (fun h9 => ?_) fun h9 => ?_
          · refine sf_exit ?_
            have fin := f2inv.symm.trans (shiftDown_stop h9)
            rw [fin] at tail
            refine Wo ?_
            show Code.sf _ _ _ _ _ _ _ _
            refine sf_keep [0, 1, 2, 7, 8, 98] ?_
            refine sf_own O2 ?_
            exact tail.out O2 gf2 f2sz
          · refine Wo ?_
            refine sf_draw (by kernel_rfl) (regX_own (O2) (regX_split 9 13 (by rfl) ?_ ?_))
            case' refine_1 =>
              refine Sw [[],[],[],[],[3],[],[],[6],[5,6,7],[5,6,7,8],[],[],[10,11],[5,6,7,8,9,10,11,12],[0,1,5,6,7,8,9,10,11,12,13],[0,1,5,6,7,8,9,10,11,12,13,14],[0,1,2,3,4,5,6,7,8,9,10,11,12,13,14,15],[0,1,2,3,4,5,6,7,8,9,10,11,12,13,14,15,16]] 16 [Nn 0,Nn 1,Nn 2,Nn 3,Nn 4,Nn 5,Nn 6,Nn 7,Nn 8,Nn 10,Nn 11,Nn 12,Yy 9,Yy 13,Nn 14,Yy 15] ?_
              refine Di ?_
              refine Yw (by rfl) (z_loadG (by rfl) gf2 (by omega) (by rfl)) ?_
              refine Di ?_
              refine Yw (by rfl) (z_loadG (by rfl) gf2 (by omega) (by rfl)) ?_
              refine Di ?_
              refine Yg gf2 fun As ys hy hl fs gg => ?_
              refine Di ?_
              refine Ae ?_
            case' refine_2 =>
              refine Sw [[],[],[],[],[3],[],[],[6],[5,6,7],[5,6,7,8,10,11,12,13],[],[],[10,11],[10,11,12],[0,1,5,6,7,8,9,10,11,12,13],[0,1,5,6,7,8,9,10,11,12,13,14],[0,1,2,3,4,5,6,7,8,9,10,11,12,13,14,15],[0,1,2,3,4,5,6,7,8,9,10,11,12,13,14,15,16]] 16 [Nn 0,Nn 1,Nn 2,Nn 3,Nn 4,Nn 5,Nn 6,Nn 7,Nn 8,Nn 10,Nn 11,Nn 12,Yy 13,Yy 9,Nn 14,Yy 15] ?_
              refine Di ?_
              refine Yw (by rfl) (z_loadG (by rfl) gf2 (by omega) (by rfl)) ?_
              refine Di ?_
              refine Yw (by rfl) (z_loadG (by rfl) gf2 (by omega) (by rfl)) ?_
              refine Di ?_
              refine Yg gf2 fun As ys hy hl fs gg => ?_
              refine Di ?_
              refine Ae ?_
            all_goals
              refine Wi ?_
              refine Xg gg fun At zs hz hlz fz gz => ?_
              refine Wi ?_
              rw [show (((j + 1 : Nat) : Int) - 1) = (j : Int) by omega]
              have hf : zs = (swp f2 (j + 1) j).toList := swp_is hy hz (by omega) (by omega) (by omega) (by omega) (by omega) (by omega)
              rw [hf] at gz
              exact ⟨(j, swp f2 (j + 1) j), by simp only; omega, ⟨rfl, trivial⟩, rfl, _, _, inferInstance, gz, by simp only [swp_size]; exact f2sz, by simp only; omega, by simp only; rw [← f2inv, shiftDown_go h9]⟩
        · obtain rfl : j = 0 := by omega
          refine sf_exit ?_
          have fin : shiftDown ltInt (i2 - 1) e = f2 := f2inv.symm
          rw [fin] at tail
          refine Wo ?_
          show Code.sf _ _ _ _ _ _ _ _
          refine sf_keep [0, 1, 2, 7, 8, 98] ?_
          refine sf_own O2 ?_
          exact tail.out O2 gf2 f2sz
      · rw [if_neg (by omega)] at tail
        refine Wo ?_
        show Code.sf _ _ _ _ _ _ _ _
        refine sf_keep [0, 1, 2, 7, 8, 98] ?_
        exact tail.out B ge es
    intro B2 ge2 es2
    obtain ⟨e2, he2⟩ : ∃ e2, e2 = (if 2 ≤ i2 - a then shiftDown ltInt (i2 - 1) e else e) := ⟨_, rfl⟩
    rw [← he2] at ge2 p4 es2
    refine sf_if (fun h7 => ?_) fun h7 => ?_
    · rw [if_pos (by omega)] at p4
      refine Wo ?_
      refine sf_lp (ι := Nat × Array Int) [0, 1, 2, 7, 8] (fun x => [(10, .int .i64 (x.1 : Int))]) (fun x O => Gr O v 3 intF x.2.toList ∧ x.2.size = d.size ∧ 1 ≤ x.1 ∧ x.1 ≤ b ∧ shiftUp ltInt b x.1 x.2 = shiftUp ltInt b (i2 + 1) e2) (fun x => b - x.1) (i2 + 1, e2) B2 ⟨ge2, es2, by simp only; omega, by simp only; omega, rfl⟩ ?_
      rintro ⟨j, f2⟩ O2 ⟨gf2, f2sz, hj0, hj, f2inv⟩
      simp only at gf2 f2sz hj0 hj f2inv ⊢
      have lf2 : f2.toList.length = f2.size := by simp
      refine Wo ?_
      refine sf_if (fun h8 => ?_) fun h8 => ?_
      · have u1 : gt f2.toList j = f2[j]! := gt_arr (by omega)
        have u2 : gt f2.toList ((j : Int) - 1).toNat = f2[j - 1]! := gt_arr' (by omega) (by omega)
        refine Wo ?_
        refine Sd [[],[],[0,1],[0,1,2],[],[],[5],[4,5,6],[4,5,6,7],[0,1,2,3,4,5,6,7,8],[0,1,2,3,4,5,6,7,8,9]] 9 [Nn 0,Nn 1,Nn 2,Nn 3,Nn 4,Nn 5,Nn 6,Nn 7,Nn 8] ?_
        refine Di ?_
        refine Ae ?_
        refine Xv (less_v _ _ _) ?_
        refine Wo ?_
        rw [u1, u2]
        refine sf_ifn (fun h9 => ?_) fun h9 => ?_
        · refine sf_exit ?_
          have fin := f2inv.symm.trans (shiftUp_stop fun h => h9 h.2)
          rw [fin] at p4
          refine Wo ?_
          exact ⟨(s, i2, f2), by simp only; omega, ⟨vI (show (5 : Int) - ((s + 1 : Nat) : Int) + 1 = 5 - (s : Int) by omega), rfl, trivial⟩, rfl, _, _, inferInstance, gf2, f2sz, by simp only; omega, by simp only; omega, hi3, p4.symm⟩
        · refine Wo ?_
          refine sf_draw (by kernel_rfl) (regX_own (O2) (regX_split 9 13 (by rfl) ?_ ?_))
          case' refine_1 =>
            refine Sw [[],[],[],[],[3],[],[],[6],[5,6,7],[5,6,7,8],[],[],[10,11],[5,6,7,8,9,10,11,12],[0,1,5,6,7,8,9,10,11,12,13],[0,1,5,6,7,8,9,10,11,12,13,14],[0,1,2,3,4,5,6,7,8,9,10,11,12,13,14,15],[0,1,2,3,4,5,6,7,8,9,10,11,12,13,14,15,16]] 16 [Nn 0,Nn 1,Nn 2,Nn 3,Nn 4,Nn 5,Nn 6,Nn 7,Nn 8,Nn 10,Nn 11,Nn 12,Yy 9,Yy 13,Nn 14,Yy 15] ?_
            refine Di ?_
            refine Yw (by rfl) (z_loadG (by rfl) gf2 (by omega) (by rfl)) ?_
            refine Di ?_
            refine Yw (by rfl) (z_loadG (by rfl) gf2 (by omega) (by rfl)) ?_
            refine Di ?_
            refine Yg gf2 fun As ys hy hl fs gg => ?_
            refine Di ?_
            refine Ae ?_
          case' refine_2 =>
            refine Sw [[],[],[],[],[3],[],[],[6],[5,6,7],[5,6,7,8,10,11,12,13],[],[],[10,11],[10,11,12],[0,1,5,6,7,8,9,10,11,12,13],[0,1,5,6,7,8,9,10,11,12,13,14],[0,1,2,3,4,5,6,7,8,9,10,11,12,13,14,15],[0,1,2,3,4,5,6,7,8,9,10,11,12,13,14,15,16]] 16 [Nn 0,Nn 1,Nn 2,Nn 3,Nn 4,Nn 5,Nn 6,Nn 7,Nn 8,Nn 10,Nn 11,Nn 12,Yy 13,Yy 9,Nn 14,Yy 15] ?_
            refine Di ?_
            refine Yw (by rfl) (z_loadG (by rfl) gf2 (by omega) (by rfl)) ?_
            refine Di ?_
            refine Yw (by rfl) (z_loadG (by rfl) gf2 (by omega) (by rfl)) ?_
            refine Di ?_
            refine Yg gf2 fun As ys hy hl fs gg => ?_
            refine Di ?_
            refine Ae ?_
          all_goals
            refine Wi ?_
            refine Xg gg fun At zs hz hlz fz gz => ?_
            refine Wi ?_
            have hf : zs = (swp f2 j (j - 1)).toList := swp_is hy hz (by omega) (by omega) (by omega) (by omega) (by omega) (by omega)
            rw [hf] at gz
            exact ⟨(j + 1, swp f2 j (j - 1)), by simp only; omega, ⟨rfl, trivial⟩, rfl, _, _, inferInstance, gz, by simp only [swp_size]; exact f2sz, by simp only; omega, by simp only; omega, by simp only; rw [← f2inv, shiftUp_go (by omega) h9]⟩
      · refine sf_exit ?_
        have fin := f2inv.symm.trans (shiftUp_stop fun h => h8 (by omega))
        rw [fin] at p4
        refine Wo ?_
        exact ⟨(s, i2, f2), by simp only; omega, ⟨vI (show (5 : Int) - ((s + 1 : Nat) : Int) + 1 = 5 - (s : Int) by omega), rfl, trivial⟩, rfl, _, _, inferInstance, gf2, f2sz, by simp only; omega, by simp only; omega, hi3, p4.symm⟩
    · rw [if_neg (by omega)] at p4
      refine Wo ?_
      exact ⟨(s, i2, e2), by simp only; omega, ⟨vI (show (5 : Int) - ((s + 1 : Nat) : Int) + 1 = 5 - (s : Int) by omega), rfl, trivial⟩, rfl, _, _, inferInstance, ge2, es2, by simp only; omega, by simp only; omega, hi3, p4.symm⟩
  · refine sf_exit ?_
    refine Wo ?_
    refine sf_ret (rO O ?_)
    obtain rfl : s = 0 := by omega
    rw [← finv]
    exact ⟨rfl, gf⟩
theorem len64_f (h : PHeap) (n : Nat) (hn : n ≤ 1000000) : CallF Tryz.prog M 139 [.int .u64 (n : Int)] [] h fun u A => A = [] ∧ ∃ L : Nat, u = .int .i64 (L : Int) ∧ L ≤ 40 ∧ (1 ≤ n → 2 ^ L ≤ 2 * n) := by
  refine Cs Tryz.func139 Tryz.ntmps139 ?_
  refine Wo ?_
  refine sf_if (fun h1 => ?_) fun h1 => ?_
  · omega
  refine Wo ?_
  refine sf_if (fun h2 => ?_) fun h2 => ?_
  · refine Wo ?_
    refine fp (Rq ?_ (q_shrU (s := 16) (by rfl) (by rfl) (by decide)))
    refine Wo ?_
    refine sf_if (fun h3 => ?_) fun h3 => ?_
    · omega
    refine Wo ?_
    rw [IntKind.wrap_u8, show (((n / 2 ^ 16 : Nat) : Int)) % 256 = ((n / 2 ^ 16 : Nat) : Int) by omega]
    refine Wo ?_
    refine fp (y_len8 (by infer_instance) (by rfl) (by rfl) (by omega) (by kernel_rfl) fun b hb1 hb2 => ?_)
    refine Wo ?_
    rw [show IntKind.i64.wrap (b : Int) = (b : Int) from wrap_in (by omega) (by omega), wrap_in (by omega) (by omega)]
    refine Wo ?_
    refine sf_ret (rO [] ⟨rfl, 16 + b, rfl, by omega, fun _ => ?_⟩)
    have := hb2 (by omega)
    rw [Nat.pow_add]
    omega
  refine Wo ?_
  refine sf_if (fun h3 => ?_) fun h3 => ?_
  · refine Wo ?_
    refine fp (Rq ?_ (q_shrU (s := 8) (by rfl) (by rfl) (by decide)))
    refine Wo ?_
    rw [IntKind.wrap_u8, show (((n / 2 ^ 8 : Nat) : Int)) % 256 = ((n / 2 ^ 8 : Nat) : Int) by omega]
    refine Wo ?_
    refine fp (y_len8 (by infer_instance) (by rfl) (by rfl) (by omega) (by kernel_rfl) fun b hb1 hb2 => ?_)
    refine Wo ?_
    rw [show IntKind.i64.wrap (b : Int) = (b : Int) from wrap_in (by omega) (by omega), wrap_in (by omega) (by omega)]
    refine Wo ?_
    refine sf_ret (rO [] ⟨rfl, 8 + b, rfl, by omega, fun _ => ?_⟩)
    have := hb2 (by omega)
    rw [Nat.pow_add]
    omega
  · refine Wo ?_
    rw [IntKind.wrap_u8, show (((n : Nat) : Int)) % 256 = ((n : Nat) : Int) by omega]
    refine Wo ?_
    refine fp (y_len8 (by infer_instance) (by rfl) (by rfl) (by omega) (by kernel_rfl) fun b hb1 hb2 => ?_)
    refine Wo ?_
    rw [show IntKind.i64.wrap (b : Int) = (b : Int) from wrap_in (by omega) (by omega), wrap_in (by omega) (by omega)]
    refine Wo ?_
    refine sf_ret (rO [] ⟨rfl, b, ?_, by omega, hb2⟩)
    simp
theorem len_f (h : PHeap) (n : Nat) (hn : n ≤ 1000000) : CallF Tryz.prog M 108 [.int .u64 (n : Int)] [] h fun u A => A = [] ∧ ∃ L : Nat, u = .int .i64 (L : Int) ∧ L ≤ 40 ∧ (1 ≤ n → 2 ^ L ≤ 2 * n) := by
  refine Cs Tryz.func108 Tryz.ntmps108 ?_
  refine Wo ?_
  refine sf_cond (by rfl) (fun e => by cases e) fun z1 => ?_
  clear z1
  refine Wo ?_
  refine fp (y_call (len64_f (M := M) _ n hn) (by rfl) ?_)
  rintro _ _ ⟨rfl, L, rfl, h1, h2⟩
  refine Wo ?_
  exact sf_ret (rO [] ⟨rfl, L, rfl, h1, h2⟩)
theorem nextPow_f (h : PHeap) (n : Nat) (hn : n ≤ 1000000) (h1 : 1 ≤ n) : CallF Tryz.prog M 166 [.int .i64 (n : Int)] [] h fun u A => A = [] ∧ ∃ m : Nat, u = .int .u64 (m : Int) ∧ 1 ≤ m ∧ m ≤ 2 * n := by
  refine Cs Tryz.func166 Tryz.ntmps166 ?_
  refine Wo ?_
  rw [IntKind.wrap_u64, show (n : Int) % 18446744073709551616 = (n : Int) by omega]
  refine fp (y_call (len_f (M := M) _ n hn) (by rfl) ?_)
  rintro _ _ ⟨rfl, L, rfl, k1, k2⟩
  refine Wo ?_
  refine fp (Rq ?_ (q_shlU (a := 1) (s := L) (by rfl) (by rfl) (by omega)))
  refine Wo ?_
  have k3 := k2 h1
  have k4 : 1 ≤ 2 ^ L := Nat.one_le_two_pow
  refine sf_ret (rO [] ⟨rfl, _, rfl, ?_, ?_⟩)
  · rw [Nat.one_mul, Nat.mod_eq_of_lt (by omega)]; exact k4
  · rw [Nat.one_mul, Nat.mod_eq_of_lt (by omega)]; exact k3
instance : Fun Tryz.prog 167 := ⟨by kernel_rfl⟩
abbrev rndA (br : Nat) (r : Nat) : Own := [(br, .cells #[.int .u64 (r : Int)] 235)]
theorem next_f (h : PHeap) (br r : Nat) (hr : r < 18446744073709551616) : CallF Tryz.prog M 167 [.pointer (some ⟨br, 0, none⟩)] (rndA br r) h fun u A => ∃ r' : Nat, u = .int .u64 (r' : Int) ∧ r' < 18446744073709551616 ∧ A = rndA br r' := by
  refine Cs Tryz.func167 Tryz.ntmps167 ?_
  refine Wo ?_
  have step : ∀ (z : Nat), z < 18446744073709551616 → z * 2 ^ 13 % 18446744073709551616 < 18446744073709551616 ∧ z / 2 ^ 7 < 18446744073709551616 ∧ z * 2 ^ 17 % 18446744073709551616 < 18446744073709551616 := fun z hz => ⟨Nat.mod_lt _ (by decide), by omega, Nat.mod_lt _ (by decide)⟩
  have xl : ∀ a b : Nat, a < 18446744073709551616 → b < 18446744073709551616 → a ^^^ b < 18446744073709551616 := fun a b ha hb => Nat.xor_lt_two_pow (n := 64) ha hb
  refine Sd [[],[0],[0,1],[],[3],[3,4],[3,4,5],[0,1,2,3,4,5,6],[0,1,2,3,4,5,6,7],[0,1,2,3,4,5,6,7,8]] 7 [Nn 0,Nn 1,Nn 2,Nn 3,Nn 4,Nn 5,Nn 6] ?_
  refine Da ?_
  refine Yq (by rfl) (fun X h' [_] => q_shlU (s := 13) (by rfl) (by rfl) (by decide)) ?_
  refine Da ?_
  refine Ae ?_
  refine fp (Rq ?_ (q_xorU (by rfl) (by rfl) hr (step r hr).1))
  refine Wo ?_
  obtain ⟨r1, hr1⟩ : ∃ z, z = r ^^^ (r * 2 ^ 13 % 18446744073709551616) := ⟨_, rfl⟩
  have h1 : r1 < 18446744073709551616 := by rw [hr1]; exact xl _ _ hr (step r hr).1
  rw [← hr1]
  refine Sd [[],[0],[0,1],[],[3],[3,4],[3,4,5],[0,1,2,3,4,5,6],[0,1,2,3,4,5,6,7],[0,1,2,3,4,5,6,7,8]] 7 [Nn 0,Nn 1,Nn 2,Nn 3,Nn 4,Nn 5,Nn 6] ?_
  refine Da ?_
  refine Yq (by rfl) (fun X h' [_] => q_shrU (s := 7) (by rfl) (by rfl) (by decide)) ?_
  refine Da ?_
  refine Ae ?_
  refine fp (Rq ?_ (q_xorU (by rfl) (by rfl) h1 (step r1 h1).2.1))
  refine Wo ?_
  obtain ⟨r2, hr2⟩ : ∃ z, z = r1 ^^^ (r1 / 2 ^ 7) := ⟨_, rfl⟩
  have h2 : r2 < 18446744073709551616 := by rw [hr2]; exact xl _ _ h1 (step r1 h1).2.1
  rw [← hr2]
  refine Sd [[],[0],[0,1],[],[3],[3,4],[3,4,5],[0,1,2,3,4,5,6],[0,1,2,3,4,5,6,7],[0,1,2,3,4,5,6,7,8]] 7 [Nn 0,Nn 1,Nn 2,Nn 3,Nn 4,Nn 5,Nn 6] ?_
  refine Da ?_
  refine Yq (by rfl) (fun X h' [_] => q_shlU (s := 17) (by rfl) (by rfl) (by decide)) ?_
  refine Da ?_
  refine Ae ?_
  refine fp (Rq ?_ (q_xorU (by rfl) (by rfl) h2 (step r2 h2).2.2))
  refine Wo ?_
  exact sf_ret (rO _ ⟨_, rfl, xl _ _ h2 (step r2 h2).2.2, rfl⟩)
theorem breakPatterns_f (h : PHeap) (v : Value) (A : Own) (d : Array Int) (g : Gr A v 3 intF d.toList) (a b : Nat) (hb : b ≤ d.size) (hs : d.size ≤ 1000000) (hab : a < b) :
    CallF Tryz.prog M 131 [v, .int .i64 (a : Int), .int .i64 (b : Int)] A h fun u A' => u = .tuple #[] ∧ ∃ d' : Array Int, Gr A' v 3 intF d'.toList ∧ PermIn a b d d' := by
  have o := g.one
  obtain ⟨n, rfl⟩ : ∃ n : Nat, b = a + n := ⟨b - a, by omega⟩
  refine Cs Tryz.func131 Tryz.ntmps131 ?_
  repeat first | refine R1 ?_ | refine R2 fun _ => ?_
  have e0 : ((a + n : Nat) : Int) - (a : Int) = (n : Int) := by omega
  rw [e0]
  refine sf_if (fun h1 => ?_) fun h1 => ?_
  · repeat first | refine R1 ?_ | refine R2 fun _ => ?_
    rw [IntKind.wrap_u64, show (n : Int) % 18446744073709551616 = (n : Int) by omega]
    repeat first | refine R1 ?_ | refine R2 fun _ => ?_
    rename_i br
    refine fp (y_call (nextPow_f (M := M) _ n (by omega) (by omega)) (by rfl) ?_)
    rintro _ _ ⟨rfl, m, rfl, hm1, hm2⟩
    repeat first | refine R1 ?_ | refine R2 fun _ => ?_
    rw [show (a : Int) + (n : Int) / 4 * 2 - 1 = ((a + n / 4 * 2 - 1 : Nat) : Int) by omega]
    refine sf_lp (ι := Nat × Array Int) [0, 1, 6, 7, 8] (fun x => [(9, .int .i64 (x.1 : Int))]) (fun x O => ∃ (B : Own) (r : Nat), O = rndA br r ++ B ∧ r < 18446744073709551616 ∧ Gr B v 3 intF x.2.toList ∧ x.2.size = d.size ∧ a ≤ x.1 ∧ PermIn a (a + n) d x.2) (fun x => a + n / 4 * 2 + 2 - x.1) (a + n / 4 * 2 - 1, d) (rndA br n ++ A) ⟨A, n, rfl, by omega, g, rfl, by simp only; omega, Sort.permIn_refl _ _ _⟩ ?_
    rintro ⟨k, f⟩ O ⟨B, r, rfl, hr, gf, fsz, hk, fp0⟩
    simp only at gf fsz hk fp0 ⊢
    have lf : f.toList.length = f.size := by simp
    repeat first | refine R1 ?_ | refine R2 fun _ => ?_
    refine sf_if (fun h2 => ?_) fun h2 => ?_
    · repeat first | refine R1 ?_ | refine R2 fun _ => ?_
      refine fp (y_call (next_f (M := M) _ br r hr) (by rfl) ?_)
      rintro _ _ ⟨r2, rfl, hr2, rfl⟩
      repeat first | refine R1 ?_ | refine R2 fun _ => ?_
      rw [IntKind.wrap_u64, show ((m : Int) - 1) % 18446744073709551616 = ((m - 1 : Nat) : Int) by omega]
      refine fp (Rq ?_ (q_andU (by rfl) (by rfl) hr2 (by omega)))
      have ho : r2 &&& (m - 1) ≤ m - 1 := Nat.and_le_right
      generalize r2 &&& (m - 1) = w at ho
      repeat first | refine R1 ?_ | refine R2 fun _ => ?_
      rw [wrap_in (by omega) (by omega)]
      apply viaT (G := ∀ w : Nat, w < n → _)
      · intro tail
        refine sf_if (fun h3 => ?_) fun h3 => ?_
        · repeat first | refine R1 ?_ | refine R2 fun _ => ?_
          rw [show (w : Int) - (n : Int) = ((w - n : Nat) : Int) by omega]
          generalize hw : w - n = w2
          refine sf_keep [0, 1, 6, 7, 8, 9, 10] ?_
          exact tail.out w2 (by omega)
        · repeat first | refine R1 ?_ | refine R2 fun _ => ?_
          refine sf_keep [0, 1, 6, 7, 8, 9, 10] ?_
          exact tail.out w (by omega)
      intro w hw
      refine sf_draw (by kernel_rfl) (regX_own (B) (regX_split 11 15 (by rfl) ?_ ?_))
      case' refine_1 =>
        refine Sw [[],[],[],[],[],[3,4],[],[],[],[7,8],[6,7,8,9],[6,7,8,9,10],[],[],[12,13],[6,7,8,9,10,11,12,13,14],[0,1,6,7,8,9,10,11,12,13,14,15],[0,1,6,7,8,9,10,11,12,13,14,15,16],[0,1,2,3,4,5,6,7,8,9,10,11,12,13,14,15,16,17],[0,1,2,3,4,5,6,7,8,9,10,11,12,13,14,15,16,17,18]] 18 [Nn 0,Nn 1,Nn 2,Nn 3,Nn 4,Nn 5,Nn 6,Nn 7,Nn 8,Nn 9,Nn 10,Nn 12,Nn 13,Nn 14,Yy 11,Yy 15,Nn 16,Yy 17] ?_
        refine Di ?_
        refine Yw (by rfl) (z_loadG (by rfl) gf (by omega) (by rfl)) ?_
        refine Di ?_
        refine Yw (by rfl) (z_loadG (by rfl) gf (by omega) (by rfl)) ?_
        refine Di ?_
        refine Yg gf fun As ys hy hl fs gg => ?_
        refine Di ?_
        refine Ae ?_
      case' refine_2 =>
        refine Sw [[],[],[],[],[],[3,4],[],[],[],[7,8],[6,7,8,9],[6,7,8,9,10,12,13,14,15],[],[],[12,13],[12,13,14],[0,1,6,7,8,9,10,11,12,13,14,15],[0,1,6,7,8,9,10,11,12,13,14,15,16],[0,1,2,3,4,5,6,7,8,9,10,11,12,13,14,15,16,17],[0,1,2,3,4,5,6,7,8,9,10,11,12,13,14,15,16,17,18]] 18 [Nn 0,Nn 1,Nn 2,Nn 3,Nn 4,Nn 5,Nn 6,Nn 7,Nn 8,Nn 9,Nn 10,Nn 12,Nn 13,Nn 14,Yy 15,Yy 11,Nn 16,Yy 17] ?_
        refine Di ?_
        refine Yw (by rfl) (z_loadG (by rfl) gf (by omega) (by rfl)) ?_
        refine Di ?_
        refine Yw (by rfl) (z_loadG (by rfl) gf (by omega) (by rfl)) ?_
        refine Di ?_
        refine Yg gf fun As ys hy hl fs gg => ?_
        refine Di ?_
        refine Ae ?_
      all_goals
        repeat first | refine R1 ?_ | refine R2 fun _ => ?_ | refine fp (Rq ?_ (z_indexGI (by rfl) (by rfl) (by assumption) (by omega) (by omega)))
        refine Xg gg fun At zs hz hlz fz gz => ?_
        repeat first | refine R1 ?_ | refine R2 fun _ => ?_ | refine fp (Rq ?_ (z_indexGI (by rfl) (by rfl) (by assumption) (by omega) (by omega)))
        have hf : zs = (swp f k (a + w)).toList := swp_is hy hz (by omega) (by omega) (by omega) (by omega) (by omega) (by omega)
        rw [hf] at gz
        refine ⟨(k + 1, swp f k (a + w)), by simp only; omega, ⟨rfl, trivial⟩, rfl, rndA br r2 ++ At, _, inferInstance, At, r2, rfl, hr2, gz, by simp only [swp_size]; exact fsz, by simp only; omega, ?_⟩
        exact Sort.permIn_trans _ _ _ _ _ fp0 (Sort.swp_permIn _ _ _ _ _ (by omega) (by omega) (by omega) (by omega) (by omega))
    · refine sf_exit ?_
      repeat first | refine R1 ?_ | refine R2 fun _ => ?_
      exact nO B ⟨rfl, f, gf, fp0⟩
  · repeat first | refine R1 ?_ | refine R2 fun _ => ?_
    exact nO A ⟨rfl, d, g, Sort.permIn_refl _ _ _⟩
end Go.Proofs.YtcpkcmgjfcbnpaaGreat

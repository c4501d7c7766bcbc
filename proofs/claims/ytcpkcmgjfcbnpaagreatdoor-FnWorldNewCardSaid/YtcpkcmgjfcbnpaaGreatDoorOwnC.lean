/- Walks of the seat: N1 N2 N3 Y1 K1 K2 LA LB SA SB SC SD SG SF SH SI SJ TA TB SK TC SE TD TE TF Y2 W1 Y3 Y4 N4 N5 Y5 Y6 Y8 QA QB QC QD. -/
import Derived.Test.YtcpkcmgjfcbnpaaGreatDoorOwnA
import Derived.Test.YtcpkcmgjfcbnpaaGreatDoorLibH
import Derived.Test.YtcpkcmgjfcbnpaaGreatDoorSmZ
import Derived.Test.YtcpkcmgjfcbnpaaGreatDoorLibD
import Derived.Test.YtcpkcmgjfcbnpaaGreatDoorLibC
import Derived.Test.YtcpkcmgjfcbnpaaGreatDoorLibE
import Derived.Test.YtcpkcmgjfcbnpaaGreatDoorLibF
import Derived.Test.YtcpkcmgjfcbnpaaGreatDoorLibG
import Derived.Test.YtcpkcmgjfcbnpaaGreatDoorLibI
import Derived.Test.YtcpkcmgjfcbnpaaGreatDoorSmW
import Derived.Test.YtcpkcmgjfcbnpaaGreatDoorSmYe
set_option linter.unusedVariables false
set_option linter.unusedSimpArgs false
set_option linter.unusedSectionVars false
namespace Go.Proofs.YtcpkcmgjfcbnpaaGreatDoor
open Go Go.Sl
set_option maxRecDepth 100000
set_option maxHeartbeats 4000000
attribute [local irreducible] Go.Code.sf sfOps Opq opo retF Do1 anyO
variable {M : Jdg → Prop} [IsCl Tryz.prog M]
theorem pick_f (h : PHeap) (br : Nat) (v : Value) (xs : List (Fin 256)) (s : Sl h v u8F xs) (hs : xs.length ≤ 2000) (p : Nat) (n : Int) (hp1 : p ≤ 1000000) (hn : 1 ≤ n) (hn1 : n ≤ 1000) : CallF Tryz.prog M 56 [.pointer (some ⟨br, 0, none⟩), .int .i64 n] [(br, .cells #[v, .int .i64 (p : Int)] 129)] h fun u A => ∃ m, u = .int .i64 m ∧ 0 ≤ m ∧ m < n ∧ A = [(br, .cells #[v, .int .i64 ((p + 1 : Nat) : Int)] 129)] := by
  have o1 := s.one
  refine Cs Tryz.func56 Tryz.ntmps56 ?_
  refine Wo ?_
  refine f_split (fun h1 => ?_) fun h1 => ?_
  · omega
  refine Wo ?_
  refine sf_if (fun h2 => ?_) fun h2 => ?_
  · refine Wo ?_
    exact sf_ret (rO [(br, .cells #[v, .int .i64 ((p : Int) + 1)] 129)] ⟨0, rfl, by omega, by omega, rfl⟩)
  refine Wo ?_
  rw [show (p : Int) + 1 - 1 = p by omega]
  refine sf_if (fun h3 => ?_) fun h3 => ?_
  · refine Wo ?_
    exact sf_ret (rt [(br, .cells #[v, .int .i64 ((p : Int) + 1)] 129)] (resV_one rfl (res_tmp rfl)) ⟨_, rfl, Int.emod_nonneg _ (by omega), Int.emod_lt_of_pos _ (by omega), rfl⟩)
  refine Wo ?_
  have hl : 0 < xs.length := by omega
  have m1 : p % xs.length < xs.length := Nat.mod_lt _ hl
  have m2 : (p * 7 + 3) % xs.length < xs.length := Nat.mod_lt _ hl
  have m3 := Int.emod_nonneg ((p : Int) * 7 + 3) (show (xs.length : Int) ≠ 0 by omega)
  have m4 := Int.emod_lt_of_pos ((p : Int) * 7 + 3) (show 0 < (xs.length : Int) by omega)
  have b1 := (gt xs ((p : Int) % (xs.length : Int)).toNat).isLt
  have b2 := (gt xs (((p : Int) * 7 + 3) % (xs.length : Int)).toNat).isLt
  have d1 := Int.ediv_nonneg (a := (p : Int)) (b := (xs.length : Int)) (by omega) (by omega)
  have d2 := Int.ediv_le_self (a := (p : Int)) (xs.length : Int) (by omega)
  refine Sd [[],[0],[0,1],[0,1,2],[],[],[5],[5,6],[5,6,7],[5,6,7,8],[4,5,6,7,8,9],[0,1,2,3,4,5,6,7,8,9,10],[0,1,2,3,4,5,6,7,8,9,10,11],[0,1,2,3,4,5,6,7,8,9,10,11,12],[0,1,2,3,4,5,6,7,8,9,10,11,12,13],[],[15],[15,16],[15,16,17],[],[19],[19,20],[],[22],[22,23],[22,23,24],[22,23,24,25],[19,20,21,22,23,24,25,26],[15,16,17,18,19,20,21,22,23,24,25,26,27],[15,16,17,18,19,20,21,22,23,24,25,26,27,28],[15,16,17,18,19,20,21,22,23,24,25,26,27,28,29],[15,16,17,18,19,20,21,22,23,24,25,26,27,28,29,30],[0,1,2,3,4,5,6,7,8,9,10,11,12,13,14,15,16,17,18,19,20,21,22,23,24,25,26,27,28,29,30,31],[],[33],[0,1,2,3,4,5,6,7,8,9,10,11,12,13,14,15,16,17,18,19,20,21,22,23,24,25,26,27,28,29,30,31,32,33,34],[],[],[37],[37,38],[37,38,39],[37,38,39,40],[36,37,38,39,40,41],[36,37,38,39,40,41,42],[0,1,2,3,4,5,6,7,8,9,10,11,12,13,14,15,16,17,18,19,20,21,22,23,24,25,26,27,28,29,30,31,32,33,34,35,36,37,38,39,40,41,42,43],[0,1,2,3,4,5,6,7,8,9,10,11,12,13,14,15,16,17,18,19,20,21,22,23,24,25,26,27,28,29,30,31,32,33,34,35,36,37,38,39,40,41,42,43,44]] 44 [Nn 0,Nn 1,Nn 2,Nn 3,Nn 4,Nn 5,Nn 6,Nn 7,Nn 8,Nn 9,Nn 10,Nn 11,Nn 12,Nn 13,Nn 14,Nn 15,Nn 16,Nn 17,Nn 18,Nn 19,Nn 20,Nn 21,Nn 22,Nn 23,Nn 24,Nn 25,Nn 26,Nn 27,Nn 28,Nn 29,Nn 30,Nn 31,Nn 32,Nn 33,Nn 34,Nn 35,Nn 36,Nn 37,Nn 38,Nn 39,Nn 40,Nn 41,Nn 42,Nn 43] ?_
  refine Da ?_
  refine Ae ?_
  refine Wo ?_
  exact sf_ret (rt [(br, .cells #[v, .int .i64 ((p : Int) + 1)] 129)] (resV_one rfl (res_tmp rfl)) ⟨_, rfl, Int.tmod_nonneg _ (xorN_nonneg _ _), Int.tmod_lt_of_pos _ (by omega), rfl⟩)
abbrev rdA (br : Nat) (v : Value) (p : Nat) : Own := [(br, .cells #[v, .int .i64 (p : Int)] 129)]
theorem l71Cell_f (h : PHeap) (br : Nat) (v : Value) (xs : List (Fin 256)) (s : Sl h v u8F xs) (hs : xs.length ≤ 2000) (p : Nat) (hp1 : p ≤ 999990) : CallF Tryz.prog M 99 [.pointer (some ⟨br, 0, none⟩)] (rdA br v p) h fun u A => ∃ (c : Cell) (q : Nat), u = .agg #[.int .i64 c.kind, .int .i64 c.light] ∧ q ≤ p + 2 ∧ A = rdA br v q ∧ cellOk c = true := by
  have o1 := s.one
  refine Cs Tryz.func99 Tryz.ntmps99 ?_
  repeat first | refine R1 ?_ | refine R2 fun _ => ?_
  refine fp (y_call (pick_f _ br v xs s hs p 12 (by omega) (by omega) (by omega)) (by rfl) ?_)
  rintro _ A1 ⟨m, rfl, m0, m1, rfl⟩
  repeat first | refine R1 ?_ | refine R2 fun _ => ?_
  refine sf_if (fun e0 => ?_) fun e0 => ?_
  · repeat first | refine R1 ?_ | refine R2 fun _ => ?_
    exact sf_ret (rO (rdA br v (p + 1)) ⟨⟨1, 0⟩, p + 1, rfl, by omega, rfl, by decide⟩)
  repeat first | refine R1 ?_ | refine R2 fun _ => ?_
  refine sf_if (fun e1 => ?_) fun e1 => ?_
  · repeat first | refine R1 ?_ | refine R2 fun _ => ?_
    refine sf_if (fun e2 => ?_) fun e2 => ?_
    · repeat first | refine R1 ?_ | refine R2 fun _ => ?_
      exact sf_ret (rO (rdA br v (p + 1)) ⟨⟨2, 0⟩, p + 1, rfl, by omega, rfl, by decide⟩)
    · exact absurd e1 e2
  repeat first | refine R1 ?_ | refine R2 fun _ => ?_
  refine sf_if (fun e2 => ?_) fun e2 => ?_
  · repeat first | refine R1 ?_ | refine R2 fun _ => ?_
    exact sf_ret (rO (rdA br v (p + 1)) ⟨⟨2, 0⟩, p + 1, rfl, by omega, rfl, by decide⟩)
  repeat first | refine R1 ?_ | refine R2 fun _ => ?_
  refine sf_if (fun e3 => ?_) fun e3 => ?_
  · repeat first | refine R1 ?_ | refine R2 fun _ => ?_
    refine sf_if (fun e4 => ?_) fun e4 => ?_
    · repeat first | refine R1 ?_ | refine R2 fun _ => ?_
      exact sf_ret (rO (rdA br v (p + 1)) ⟨⟨3, 0⟩, p + 1, rfl, by omega, rfl, by decide⟩)
    · exact absurd e3 e4
  repeat first | refine R1 ?_ | refine R2 fun _ => ?_
  refine sf_if (fun e4 => ?_) fun e4 => ?_
  · repeat first | refine R1 ?_ | refine R2 fun _ => ?_
    exact sf_ret (rO (rdA br v (p + 1)) ⟨⟨3, 0⟩, p + 1, rfl, by omega, rfl, by decide⟩)
  repeat first | refine R1 ?_ | refine R2 fun _ => ?_
  refine sf_if (fun e5 => ?_) fun e5 => ?_
  · repeat first | refine R1 ?_ | refine R2 fun _ => ?_
    exact sf_ret (rO (rdA br v (p + 1)) ⟨⟨4, 0⟩, p + 1, rfl, by omega, rfl, by decide⟩)
  repeat first | refine R1 ?_ | refine R2 fun _ => ?_
  refine sf_if (fun e6 => ?_) fun e6 => ?_
  · repeat first | refine R1 ?_ | refine R2 fun _ => ?_
    exact sf_ret (rO (rdA br v (p + 1)) ⟨⟨5, 0⟩, p + 1, rfl, by omega, rfl, by decide⟩)
  repeat first | refine R1 ?_ | refine R2 fun _ => ?_
  refine sf_if (fun e7 => ?_) fun e7 => ?_
  · repeat first | refine R1 ?_ | refine R2 fun _ => ?_
    exact sf_ret (rO (rdA br v (p + 1)) ⟨⟨6, 0⟩, p + 1, rfl, by omega, rfl, by decide⟩)
  repeat first | refine R1 ?_ | refine R2 fun _ => ?_
  refine sf_if (fun e8 => ?_) fun e8 => ?_
  · repeat first | refine R1 ?_ | refine R2 fun _ => ?_
    refine fp (y_call (pick_f _ br v xs s hs (p + 1) 9 (by omega) (by omega) (by omega)) (by rfl) ?_)
    rintro _ A2 ⟨m2, rfl, m20, m21, rfl⟩
    repeat first | refine R1 ?_ | refine R2 fun _ => ?_
    exact sf_ret (rO (rdA br v (p + 1 + 1)) ⟨⟨7, 1 + m2⟩, p + 1 + 1, rfl, by omega, rfl, by simp [cellOk]; omega⟩)
  repeat first | refine R1 ?_ | refine R2 fun _ => ?_
  exact sf_ret (rO (rdA br v (p + 1)) ⟨⟨0, 0⟩, p + 1, rfl, by omega, rfl, by decide⟩)
theorem l71Off_f (h : PHeap) (br : Nat) (v : Value) (xs : List (Fin 256)) (s : Sl h v u8F xs) (hs : xs.length ≤ 2000) (p : Nat) (hp1 : p ≤ 999990) : CallF Tryz.prog M 100 [.pointer (some ⟨br, 0, none⟩)] (rdA br v p) h fun u A => ∃ (c : Cell) (q : Nat), u = .agg #[.int .i64 c.kind, .int .i64 c.light] ∧ q ≤ p + 2 ∧ A = rdA br v q := by
  have o1 := s.one
  refine Cs Tryz.func100 Tryz.ntmps100 ?_
  repeat first | refine R1 ?_ | refine R2 fun _ => ?_
  refine Xb fun w Aw gw => ?_
  repeat first | refine R1 ?_ | refine R2 fun _ => ?_
  refine fp (y_call (pick_f _ br v xs s hs p 6 (by omega) (by omega) (by omega)) (by rfl) ?_)
  rintro _ A1 ⟨m, rfl, m0, m1, rfl⟩
  obtain ⟨m, rfl⟩ : ∃ k : Nat, m = k := ⟨m.toNat, by omega⟩
  repeat first | refine R1 ?_ | refine R2 fun _ => ?_
  refine fp (Rq ?_ (z_indexG (by rfl) (by rfl) gw (by simp; omega)))
  repeat first | refine R1 ?_ | refine R2 fun _ => ?_
  refine fp (Rq ?_ (z_loadG (by rfl) gw (by simp; omega) (by rfl)))
  repeat first | refine R1 ?_ | refine R2 fun _ => ?_
  exact sf_ret (rt (rdA br v (p + 1)) (resV_one rfl (yr_cell rfl)) ⟨_, p + 1, rfl, by omega, rfl⟩)
theorem l71Grid_f (h : PHeap) (br : Nat) (v : Value) (xs : List (Fin 256)) (s : Sl h v u8F xs) (hs : xs.length ≤ 2000) (p : Nat) (hp1 : p ≤ 999000) : CallF Tryz.prog M 124 [.pointer (some ⟨br, 0, none⟩)] (rdA br v p) h fun u A => ∃ (g : Grid) (c : Value) (A' : Own) (q : Nat), u = .agg #[.int .i64 g.wide, c] ∧ Gr A' c 46 cellF g.cells ∧ 1 ≤ g.wide ∧ g.wide ≤ 5 ∧ 1 ≤ g.cells.length ∧ g.cells.length ≤ 25 ∧ q ≤ p + 60 ∧ A = rdA br v q ++ A' ∧ gridOk g = true := by
  have o1 := s.one
  refine Cs Tryz.func124 Tryz.ntmps124 ?_
  repeat first | refine R1 ?_ | refine R2 fun _ => ?_
  refine fp (y_call (pick_f _ br v xs s hs p 5 (by omega) (by omega) (by omega)) (by rfl) ?_)
  rintro _ A1 ⟨m, rfl, m0, m1, rfl⟩
  repeat first | refine R1 ?_ | refine R2 fun _ => ?_
  refine sf_draw (by kernel_rfl) (regX_own (rdA br v (p + 1)) (Sw [[],[0],[],[2],[2,3],[0,1,2,3,4],[0,1,2,3,4,5]] 5 [Nn 0,Nn 1,Nn 2,Yy 3,Nn 4] ?_))
  refine Da ?_
  refine Yc (pick_f _ br v xs s hs (p + 1) 5 (by omega) (by omega) (by omega)) ?_
  rintro _ A2 ⟨m2, rfl, m20, m21, rfl⟩
  have hm1 : 1 ≤ (1 + m) * (1 + m2) := Int.mul_pos (by omega) (by omega)
  have hm2 : (1 + m) * (1 + m2) ≤ 5 * 5 := Int.mul_le_mul (by omega) (by omega) (by omega) (by omega)
  refine Da ?_
  refine Ae ?_
  repeat first | refine R1 ?_ | refine R2 fun _ => ?_
  obtain ⟨N, hN⟩ : ∃ N : Nat, (1 + m) * (1 + m2) = N := ⟨((1 + m) * (1 + m2)).toNat, by omega⟩
  rw [hN] at hm1 hm2 ⊢
  rename_i b2 b3
  refine sf_lp (ι := Nat) [0, 2, 3] (fun k => [(4, .int .i64 (k : Int))]) (fun k O => k ≤ N ∧ ∃ c q A', O = rdA br v q ++ ((b3, .cells #[.int .i64 (1 + m), c] 25) :: (A' ++ [(b2, .cells #[.int .i64 0, .slice none 0 0] 25)])) ∧ ∃ ys, Gr A' c 46 cellF ys ∧ ys.length = N - k ∧ q + 2 * k ≤ p + 2 + 2 * N ∧ ys.all cellOk = true) (fun k => k) N (rdA br v (p + 1 + 1) ++ ((b3, .cells #[.int .i64 (1 + m), .slice none 0 0] 25) :: ([] ++ [(b2, .cells #[.int .i64 0, .slice none 0 0] 25)]))) ⟨by omega, _, _, [], rfl, [], Gr.nil _ _, by simp, by omega, rfl⟩ ?_
  rintro k O ⟨hk, c, q, A', rfl, ys, gr, hy, hq, hall⟩
  have oc := gr.one
  repeat first | refine R1 ?_ | refine R2 fun _ => ?_
  refine sf_if (fun e => ?_) fun e => ?_
  · obtain ⟨k, rfl⟩ : ∃ k' : Nat, k = k' + 1 := ⟨k - 1, by omega⟩
    repeat first | refine R1 ?_ | refine R2 fun _ => ?_
    refine sf_draw (by kernel_rfl) (regX_own (rdA br v q) (Sw [[],[0],[],[2],[2,3],[0,1,2,3,4],[0,1,2,3,4,5],[0,1,2,3,4,5,6]] 5 [Nn 0,Nn 1,Nn 2,Yy 3,Yy 4] ?_))
    refine Da ?_
    refine Yc (l71Cell_f _ br v xs s hs q (by omega)) ?_
    rintro _ A3 ⟨cc, q2, rfl, hq2, rfl, hcc⟩
    refine Da ?_
    refine Yb fun w Aw gw => ?_
    refine Ae ?_
    refine Xa gr gw fun c2 A4 g4 => ?_
    have oc2 := g4.one
    repeat first | refine R1 ?_ | refine R2 fun _ => ?_
    rw [show ((k + 1 : Nat) : Int) - 1 = (k : Int) by omega]
    exact ⟨k, by omega, ⟨rfl, trivial⟩, rfl, rdA br v q2 ++ ((b3, .cells #[.int .i64 (1 + m), c2] 25) :: (A4 ++ [(b2, .cells #[.int .i64 0, .slice none 0 0] 25)])), _, inferInstance, by omega, c2, q2, A4, rfl, _, g4, by simp; omega, by omega, by simp only [List.all_append, hall, Bool.true_and]; simp [hcc]⟩
  · refine sf_exit ?_
    repeat first | refine R1 ?_ | refine R2 fun _ => ?_
    exact sf_ret (rt (rdA br v q ++ A') (resV_one rfl (yr_cell rfl)) ⟨⟨1 + m, ys⟩, c, A', q, rfl, gr, by simp only; omega, by simp only; omega, by simp only; omega, by simp only; omega, by omega, rfl, (gridOk_iff _).2 ⟨by simp only; omega, by simp only; omega, by simp only; have := Int.mul_le_mul_of_nonneg_left (show 1 + m2 ≤ 5 by omega) (show 0 ≤ 1 + m by omega); omega, by simp only; rw [show (ys.length : Int) = (1 + m) * (1 + m2) by omega]; exact Int.mul_emod_right _ _, hall⟩⟩)
theorem l1Copy_f (h : PHeap) (ca : List Value) (g : Grid) (b : (gridR τ).B h ca g) (hs : g.cells.length ≤ 1048576) : CallF Tryz.prog M 94 [.agg ca.toArray] [] h fun v A => ∃ cs, v = .agg cs.toArray ∧ (gridR τ).O A cs g := by
  obtain ⟨c, rfl, s⟩ := gridB b
  have o1 := s.one
  refine Cs Tryz.func94 Tryz.ntmps94 ?_
  repeat first | refine R1 ?_ | refine R2 fun _ => ?_
  refine Sd [[],[0],[],[],[3],[2,3,4],[0,1,2,3,4,5],[0,1,2,3,4,5,6]] 6 [Nn 0,Nn 1,Nn 3,Nn 4,Yy 2,Yy 5] ?_
  refine Da ?_
  refine Yb fun w A gw => ?_
  refine Ys gw s fun w2 A2 g2 => ?_
  have o2 := g2.one
  refine Ae ?_
  repeat first | refine R1 ?_ | refine R2 fun _ => ?_
  exact sf_ret (rO A2 ⟨_, rfl, gridO_mk g2 (by omega)⟩)
theorem sKeepNew_f (h : PHeap) (ca : List Value) (g : Grid) (many : Int) (b : (gridR τ).B h ca g) (hs : g.cells.length ≤ 1048576) : CallF Tryz.prog M 79 [.agg ca.toArray, .int .i64 many] [] h fun v A => ∃ cs, v = .tuple #[.agg cs.toArray, .bool (keepNew g many).2] ∧ (keeperR τ).O A cs (keepNew g many).1 := by
  obtain ⟨c, rfl, s⟩ := gridB b
  have o1 := s.one
  refine Cs Tryz.func79 Tryz.ntmps79 ?_
  repeat first | refine R1 ?_ | refine R2 fun _ => ?_
  refine Xv (sGridOk_v _ _ g ⟨c, rfl, s⟩) ?_
  repeat first | refine R1 ?_ | refine R2 fun _ => ?_
  refine f_splitB (fun h1 => ?_) fun h1 => ?_
  · repeat first | refine R1 ?_ | refine R2 fun _ => ?_
    refine sf_T rfl ?_
    repeat first | refine R1 ?_ | refine R2 fun _ => ?_
    have e : keepNew g many = (noKeeper, false) := by unfold keepNew; simp at h1; simp [h1]
    rw [e]
    exact sf_ret (rO [] ⟨_, rfl, noKeeperO⟩)
  · repeat first | refine R1 ?_ | refine R2 fun _ => ?_
    refine Xv (l6In_v _ _ _ _) ?_
    repeat first | refine R1 ?_ | refine R2 fun _ => ?_
    refine sf_cond (by rfl) (fun h2 => ?_) fun h2 => ?_
    · repeat first | refine R1 ?_ | refine R2 fun _ => ?_
      have e : keepNew g many = (noKeeper, false) := by unfold keepNew; simp only [Bool.not_eq_true'] at h2; simp [h2]
      rw [e]
      exact sf_ret (rO [] ⟨_, rfl, noKeeperO⟩)
    · have hm : 1 ≤ many ∧ many ≤ 3 := by simpa using h2
      have e : keepNew g many = (⟨g, [], List.replicate many.toNat noPart, []⟩, true) := by
        unfold keepNew; simp at h1; simp [h1, hm]
      rw [e]
      repeat first | refine R1 ?_ | refine R2 fun _ => ?_
      refine fp (y_call (l1Copy_f _ _ _ b hs) (by rfl) ?_)
      rintro _ A1 ⟨_, rfl, q⟩
      obtain ⟨c2, rfl, g1, l1⟩ := gridO q
      have o2 := g1.one
      repeat first | refine R1 ?_ | refine R2 fun _ => ?_
      refine Xb fun e1 A2 g2 => ?_
      have o3 := g2.one
      repeat first | refine R1 ?_ | refine R2 fun _ => ?_
      refine Xb fun s1 A4 g4 => ?_
      have o4 := g4.one
      repeat first | refine R1 ?_ | refine R2 fun _ => ?_
      rename_i b2 b4 b6
      obtain ⟨n, rfl⟩ : ∃ n : Nat, many = n := ⟨many.toNat, by omega⟩
      refine sf_lp [1, 4, 6] (fun i : Nat => [(7, .int .i64 (i : Int))]) (fun i O => i ≤ n ∧ ∃ p A0 A3, O = (b6, .cells #[.int .i64 g.wide, c2, e1, p, s1] 30) :: (A0 ++ A3 ++ (A4 ++ (A2 ++ (A1 ++ [(b4, .cells #[.int .i64 0, .slice none 0 0, .slice none 0 0, .slice none 0 0, .slice none 0 0] 30)])))) ∧ ∃ rs : List (Raw (partR τ).sz), rs.length = i ∧ Gr A0 p 35 (rawF (partR τ).sz) rs ∧ OAll (partR τ) A3 rs (List.replicate i noPart)) (fun i => n - i) 0 ((b6, .cells #[.int .i64 g.wide, c2, e1, .slice none 0 0, s1] 30) :: ([] ++ [] ++ (A4 ++ (A2 ++ (A1 ++ [(b4, .cells #[.int .i64 0, .slice none 0 0, .slice none 0 0, .slice none 0 0, .slice none 0 0] 30)]))))) ⟨by omega, _, [], [], rfl, [], rfl, Gr.nil _ _, .nil⟩ ?_
      rintro i O ⟨hi, p, A0, A3, rfl, rs, hr, g3, oa⟩
      have o5 := g3.one
      repeat first | refine R1 ?_ | refine R2 fun _ => ?_
      refine sf_if (fun h4 => ?_) fun h4 => ?_
      · repeat first | refine R1 ?_ | refine R2 fun _ => ?_
        refine Xb fun l1 Al gl => ?_
        have ol := gl.one
        repeat first | refine R1 ?_ | refine R2 fun _ => ?_
        refine Xb fun u Au gu => ?_
        repeat first | refine R1 ?_ | refine R2 fun _ => ?_
        refine fp (y_append (by rfl) (by rfl) g3 gu (by intro y hy; simp at hy; subst hy; exact (inferInstance : AllOne [Value.bool false, .int .i64 0, l1]).is) (by rfl) (by rfl) (by simp; omega) (by simp; omega) fun p2 A5 g5 => ?_)
        have o6 := g5.one
        repeat first | refine R1 ?_ | refine R2 fun _ => ?_
        refine ⟨i + 1, by omega, ⟨rfl, trivial⟩, rfl, (b6, .cells #[.int .i64 g.wide, c2, e1, p2, s1] 30) :: (A5 ++ (A3 ++ Al) ++ (A4 ++ (A2 ++ (A1 ++ [(b4, .cells #[.int .i64 0, .slice none 0 0, .slice none 0 0, .slice none 0 0, .slice none 0 0] 30)])))), _, inferInstance, by omega, p2, A5, A3 ++ Al, rfl, _, by simp [hr], g5, ?_⟩
        rw [List.replicate_succ']
        exact oa.snoc (partO_mk (p := noPart) gl (by decide))
      · refine sf_exit ?_
        repeat first | refine R1 ?_ | refine R2 fun _ => ?_
        have : i = n := by omega
        subst this
        refine sf_ret (rO (A1 ++ (A2 ++ ((A0 ++ A3) ++ A4))) ⟨_, rfl, ?_⟩)
        simp only [Int.toNat_natCast]
        exact keeperO_mk (k := ⟨g, [], List.replicate i noPart, []⟩) g1 l1 g2 (Nat.zero_le _) ⟨A0, A3, rfl, rs, g3, oa, by simp; omega⟩ (GrR.of_gr g4)
def typedV (c : Cell) : Value :=
  if c.kind = 7 then .iface 211 (.agg #[.int .i64 c.light])
  else if cellOk c then
    if c.kind = 0 then .iface 212 (.agg #[]) else if c.kind = 1 then .iface 213 (.agg #[]) else if c.kind = 2 then .iface 214 (.agg #[]) else if c.kind = 3 then .iface 215 (.agg #[])
    else if c.kind = 4 then .iface 216 (.agg #[]) else if c.kind = 5 then .iface 217 (.agg #[]) else .iface 218 (.agg #[])
  else .nilIface
theorem cellTyped_v (h : PHeap) (c : Cell) : CallV Tryz.prog M 97 [.agg #[.int .i64 c.kind, .int .i64 c.light]] h (.tuple #[typedV c, .bool (cellOk c)]) := by
  obtain ⟨k, l⟩ := c
  refine Cs Tryz.func97 Tryz.ntmps97 ?_
  repeat first | refine R1 ?_ | refine R2 fun _ => ?_
  refine sf_if (fun h1 => ?_) fun h1 => ?_
  · by_cases h2 : l ≥ 1 <;>
    · repeat first | refine R1 ?_ | refine R2 fun _ => ?_
      refine Sd [[],[0],[0,1],[0,1,2],[],[4],[4,5],[4,5,6],[4,5,6,7],[4,5,6,7,8],[4,5,6,7,8,9],[4,5,6,7,8,9,10],[0,1,2,3,4,5,6,7],[0,1,2,3,4,5,6,7,8,9,10,11,12]] 13 [Nn 0,Nn 1,Nn 2,Nn 3,Nn 4,Nn 5,Nn 6,Nn 7,Nn 8,Nn 9,Nn 10,Nn 11,Nn 12] ?_
      refine Da ?_
      refine Ae ?_
      repeat first | refine R1 ?_ | refine R2 fun _ => ?_
      refine sf_ret (rV ?_)
      simp [typedV, cellOk, h1, h2]
  · repeat first | refine R1 ?_ | refine R2 fun _ => ?_
    refine f_split (fun h2 => ?_) fun h2 => ?_
    · repeat first | refine R1 ?_ | refine R2 fun _ => ?_
      refine sf_T rfl ?_
      repeat first | refine R1 ?_ | refine R2 fun _ => ?_
      refine sf_ret (rV ?_)
      simp [typedV, cellOk, h1, show ¬ 0 ≤ k by omega]
    · repeat first | refine R1 ?_ | refine R2 fun _ => ?_
      refine f_split (fun h3 => ?_) fun h3 => ?_
      · repeat first | refine R1 ?_ | refine R2 fun _ => ?_
        refine sf_T rfl ?_
        repeat first | refine R1 ?_ | refine R2 fun _ => ?_
        refine sf_ret (rV ?_)
        simp [typedV, cellOk, h1, show ¬ k ≤ 6 by omega]
      · repeat first | refine R1 ?_ | refine R2 fun _ => ?_
        refine sf_if (fun h4 => ?_) fun h4 => ?_
        · repeat first | refine R1 ?_ | refine R2 fun _ => ?_
          refine sf_ret (rV ?_)
          simp [typedV, cellOk, h1, h4]
        · obtain ⟨n, rfl⟩ : ∃ n : Nat, k = n := ⟨k.toNat, by omega⟩
          have hn : n = 0 ∨ n = 1 ∨ n = 2 ∨ n = 3 ∨ n = 4 ∨ n = 5 ∨ n = 6 := by omega
          repeat first | refine R1 ?_ | refine R2 fun _ => ?_
          rcases hn with rfl | rfl | rfl | rfl | rfl | rfl | rfl <;>
          · repeat first | refine R1 ?_ | refine R2 fun _ => ?_
            refine sf_ret (rV ?_)
            simp at h4
            simp [typedV, cellOk, h4]
theorem cellOk_v (h : PHeap) (c : Cell) : CallV Tryz.prog M 60 [.agg #[.int .i64 c.kind, .int .i64 c.light]] h (.bool (cellOk c)) := by
  refine Cs Tryz.func60 Tryz.ntmps60 ?_
  repeat first | refine R1 ?_ | refine R2 fun _ => ?_
  refine Xv (cellTyped_v _ c) ?_
  repeat first | refine R1 ?_ | refine R2 fun _ => ?_
  exact sf_ret (rV rfl)
theorem gridOk_v (h : PHeap) (ca : List Value) (g : Grid) (b : (gridR τ).B h ca g) : CallV Tryz.prog M 59 [.agg ca.toArray] h (.bool (gridOk g)) := by
  obtain ⟨c, rfl, s⟩ := gridB b
  have o1 := s.one
  have hs := s.small
  refine Cs Tryz.func59 Tryz.ntmps59 ?_
  repeat first | refine R1 ?_ | refine R2 fun _ => ?_
  refine f_split (fun h1 => ?_) fun h1 => ?_
  · repeat first | refine R1 ?_ | refine R2 fun _ => ?_
    refine sf_T rfl ?_
    repeat first | refine R1 ?_ | refine R2 fun _ => ?_
    exact sf_ret (rV (by rw [gridOk_F (by omega)]))
  · repeat first | refine R1 ?_ | refine R2 fun _ => ?_
    refine sf_if (fun h2 => ?_) fun h2 => ?_
    · repeat first | refine R1 ?_ | refine R2 fun _ => ?_
      exact sf_ret (rV (by rw [gridOk_F (by omega)]))
    · repeat first | refine R1 ?_ | refine R2 fun _ => ?_
      refine f_split (fun h3 => ?_) fun h3 => ?_
      · repeat first | refine R1 ?_ | refine R2 fun _ => ?_
        refine sf_T rfl ?_
        repeat first | refine R1 ?_ | refine R2 fun _ => ?_
        exact sf_ret (rV (by rw [gridOk_F (by omega)]))
      · repeat first | refine R1 ?_ | refine R2 fun _ => ?_
        refine f_split (fun h4 => ?_) fun h4 => ?_
        · repeat first | refine R1 ?_ | refine R2 fun _ => ?_
          refine sf_T rfl ?_
          repeat first | refine R1 ?_ | refine R2 fun _ => ?_
          exact sf_ret (rV (by rw [gridOk_F (by omega)]))
        · repeat first | refine R1 ?_ | refine R2 fun _ => ?_
          refine sf_if (fun h5 => ?_) fun h5 => ?_
          · repeat first | refine R1 ?_ | refine R2 fun _ => ?_
            exact sf_ret (rV (by rw [gridOk_F (by omega)]))
          · repeat first | refine R1 ?_ | refine R2 fun _ => ?_
            refine sf_rd [36, 37] 38 g.cells.length 0 (fun k => (g.cells.take k).all cellOk = true) (by omega) rfl (fun k hk hi => ?_)
            repeat first | refine R1 ?_ | refine R2 fun _ => ?_
            refine sf_if (fun h6 => ?_) fun h6 => ?_
            · have hk4 : k < g.cells.length := by omega
              repeat first | refine R1 ?_ | refine R2 fun _ => ?_
              refine Xv (cellOk_v _ (gt g.cells k)) ?_
              repeat first | refine R1 ?_ | refine R2 fun _ => ?_
              refine sf_cond (by rfl) (fun h7 => ?_) fun h7 => ?_
              · repeat first | refine R1 ?_ | refine R2 fun _ => ?_
                simp only [Bool.not_eq_true'] at h7
                refine sf_ret (rV ?_)
                simp [gridOk, all_false hk4 h7]
              · repeat first | refine R1 ?_ | refine R2 fun _ => ?_
                refine ⟨⟨hk4, ?_⟩, rfl, rfl, _, inferInstance⟩
                rw [all_take hk4, hi]; simpa using h7
            · refine sf_exit ?_
              repeat first | refine R1 ?_ | refine R2 fun _ => ?_
              rw [take_ge hk (by omega)] at hi
              exact sf_ret (rV (by rw [(gridOk_iff g).2 ⟨⟨by omega, by omega⟩, by omega, by omega, by omega, hi⟩]))
theorem cloneCells_f (h : PHeap) (v : Value) (xs : List Cell) (s : Sl h v cellF xs) (hs : xs.length ≤ 1048576) : CallF Tryz.prog M 98 [v] [] h fun v' A => Gr A v' 46 cellF xs := by
  have o1 := s.one
  refine Cs Tryz.func98 Tryz.ntmps98 ?_
  refine Wo ?_
  refine fp (Rq ?_ (q_eqNil (by infer_instance) (by rfl) (by rfl) s))
  refine Wo ?_
  refine sf_cond (by rfl) (fun h1 => ?_) fun h1 => ?_
  · obtain ⟨rfl, rfl⟩ := isNilS_nil s h1
    refine Wo ?_
    exact sf_ret (rO [] (Gr.nil _ _))
  · refine Wo ?_
    refine Xb fun w A gw => ?_
    refine Wo ?_
    refine Xs gw s fun w2 A2 g2 => ?_
    refine Wo ?_
    exact sf_ret (rO A2 g2)
theorem gridCopy_f (h : PHeap) (ca : List Value) (g : Grid) (b : (gridR τ).B h ca g) (hs : g.cells.length ≤ 1048576) : CallF Tryz.prog M 61 [.agg ca.toArray] [] h fun v A => ∃ cs, v = .agg cs.toArray ∧ (gridR τ).O A cs g := by
  obtain ⟨c, rfl, s⟩ := gridB b
  have o1 := s.one
  refine Cs Tryz.func61 Tryz.ntmps61 ?_
  repeat first | refine R1 ?_ | refine R2 fun _ => ?_
  refine Sd [[],[0],[],[2],[2,3],[0,1,2,3,4],[0,1,2,3,4,5]] 5 [Nn 0,Nn 1,Nn 2,Nn 3,Yy 4] ?_
  refine Da ?_
  refine Yc (cloneCells_f _ _ _ s hs) fun w A g2 => ?_
  have o2 := g2.one
  refine Ae ?_
  repeat first | refine R1 ?_ | refine R2 fun _ => ?_
  exact sf_ret (rO A ⟨_, rfl, gridO_mk g2 (by omega)⟩)
theorem parts0 {A : Own} {v : Value} {n : Nat} (g : Gr A v 35 (rawF (partR τ).sz) (List.replicate n ⟨[.bool false, .int .i64 0, .slice none 0 0], rfl⟩)) (hn : n ≤ 281474976710656 := by omega) : GrR (partR τ) A v 35 (List.replicate n noPart) := by
  refine ⟨A, [], by simp, _, g, ?_, by simpa using hn⟩
  clear g hn
  induction n with
  | zero => exact .nil
  | succ n ih => rw [List.replicate_succ, List.replicate_succ]; exact .cons (A := []) (partO_mk (p := noPart) (Gr.nil _ _) (by decide)) ih
theorem keepNew_f (h : PHeap) (ca : List Value) (g : Grid) (many : Int) (b : (gridR τ).B h ca g) (hs : g.cells.length ≤ 1048576) : CallF Tryz.prog M 80 [.agg ca.toArray, .int .i64 many] [] h fun v A => ∃ cs, v = .tuple #[.agg cs.toArray, .bool (keepNew g many).2] ∧ (keeperR τ).O A cs (keepNew g many).1 := by
  obtain ⟨c, rfl, s⟩ := gridB b
  have o1 := s.one
  have eF : ¬ (gridOk g = true ∧ 1 ≤ many ∧ many ≤ 3) → keepNew g many = (noKeeper, false) := fun hn => by
    unfold keepNew; rw [if_neg (by simpa using hn)]
  refine Cs Tryz.func80 Tryz.ntmps80 ?_
  repeat first | refine R1 ?_ | refine R2 fun _ => ?_
  refine Xv (gridOk_v _ _ g b) ?_
  repeat first | refine R1 ?_ | refine R2 fun _ => ?_
  refine f_splitB (fun h1 => ?_) fun h1 => ?_
  · repeat first | refine R1 ?_ | refine R2 fun _ => ?_
    refine sf_T rfl ?_
    repeat first | refine R1 ?_ | refine R2 fun _ => ?_
    rw [eF (by simp at h1; simp [h1])]
    exact sf_ret (rO [] ⟨_, rfl, noKeeperO⟩)
  · repeat first | refine R1 ?_ | refine R2 fun _ => ?_
    refine f_split (fun h2 => ?_) fun h2 => ?_
    · repeat first | refine R1 ?_ | refine R2 fun _ => ?_
      refine sf_T rfl ?_
      repeat first | refine R1 ?_ | refine R2 fun _ => ?_
      rw [eF (by omega)]
      exact sf_ret (rO [] ⟨_, rfl, noKeeperO⟩)
    · repeat first | refine R1 ?_ | refine R2 fun _ => ?_
      refine sf_if (fun h3 => ?_) fun h3 => ?_
      · repeat first | refine R1 ?_ | refine R2 fun _ => ?_
        rw [eF (by omega)]
        exact sf_ret (rO [] ⟨_, rfl, noKeeperO⟩)
      · obtain ⟨n, rfl⟩ : ∃ n : Nat, many = n := ⟨many.toNat, by omega⟩
        have e : keepNew g n = (⟨g, [], List.replicate n noPart, []⟩, true) := by
          unfold keepNew; simp at h1; rw [if_pos (by simp [h1]; omega)]; simp
        rw [e]
        repeat first | refine R1 ?_ | refine R2 fun _ => ?_
        refine sf_draw (by kernel_rfl) (regX_split 1 3 (by rfl) ?_ ?_)
        · refine Sr [[],[0],[],[0,1,2],[0,1,2,3],[0,1,2,3,4],[0,1,2,3,4,5]] 3 [Nn 0,Nn 2,Yy 1] ?_
          refine Da ?_
          refine Yc (gridCopy_f _ _ _ b hs) ?_
          rintro _ A1 ⟨_, rfl, q⟩
          obtain ⟨c2, rfl, g1, l1⟩ := gridO q
          have o2 := g1.one
          refine Ae ?_
          repeat first | refine R1 ?_ | refine R2 fun _ => ?_
          refine Xm fun w A2 g2 => ?_
          have o3 := g2.one
          repeat first | refine R1 ?_ | refine R2 fun _ => ?_
          refine sf_ret (rO (A1 ++ ([] ++ (A2 ++ []))) ⟨_, rfl, ?_⟩)
          exact keeperO_mk (k := ⟨g, [], List.replicate n noPart, []⟩) g1 l1 (Gr.nil _ _) (Nat.zero_le _) (parts0 g2) GrR.nil
        · refine Sr [[],[0,2,3],[],[2],[0,1,2,3],[0,1,2,3,4],[0,1,2,3,4,5]] 4 [Nn 0,Nn 2,Yy 3,Yy 1] ?_
          refine Da ?_
          refine Ym fun w A2 g2 => ?_
          have o3 := g2.one
          refine Da ?_
          refine Yc (gridCopy_f _ _ _ b hs) ?_
          rintro _ A1 ⟨_, rfl, q⟩
          obtain ⟨c2, rfl, g1, l1⟩ := gridO q
          have o2 := g1.one
          refine Da ?_
          refine Ae ?_
          repeat first | refine R1 ?_ | refine R2 fun _ => ?_
          refine sf_ret (rO (A1 ++ ([] ++ (A2 ++ []))) ⟨_, rfl, ?_⟩)
          exact keeperO_mk (k := ⟨g, [], List.replicate n noPart, []⟩) g1 l1 (Gr.nil _ _) (Nat.zero_le _) (parts0 g2) GrR.nil
instance : ElemF Tryz.prog 155 visitF := ⟨trivial⟩
instance : ElemF Tryz.prog 117 endF := ⟨trivial⟩
instance : ElemF Tryz.prog 151 rayF := ⟨trivial⟩
instance : ElemF Tryz.prog 157 beamF := ⟨trivial⟩
instance : ElemF Tryz.prog 4 boolF := ⟨trivial⟩
instance : EqFl Tryz.prog 151 rayF := eqFl_ray inferInstance (inferInstance : Ty Tryz.prog 3 _ 1 _ _) (by kernel_rfl)
theorem rowsOf_v (h : PHeap) (c : Value) (g : Grid) (s : Sl h c cellF g.cells) (hw : 1 ≤ g.wide) : CallV Tryz.prog M 108 [.agg #[.int .i64 g.wide, c]] h (.int .i64 (rowsOf g)) := by
  have o1 := s.one
  have hs := s.small
  refine Cs Tryz.func108 Tryz.ntmps108 ?_
  repeat first | refine R1 ?_ | refine R2 fun _ => ?_
  exact sf_ret (rV rfl)
theorem dirOk_v (h : PHeap) (d : Int) : CallV Tryz.prog M 148 [.int .i64 d] h (.bool (decide (0 ≤ d) && decide (d ≤ 3))) := by
  refine Cs Tryz.func148 Tryz.ntmps148 ?_
  refine Wo ?_
  refine f_split (fun h1 => ?_) fun h1 => ?_ <;>
  · refine Wo ?_
    refine sf_ret (rV ?_)
    simp [h1]
theorem dirOpposite_v (h : PHeap) (d : Int) (h0 : 0 ≤ d) (h1 : d ≤ 3) : CallV Tryz.prog M 186 [.int .i64 d] h (.int .i64 ((d + 2) % 4)) := by
  refine Cs Tryz.func186 Tryz.ntmps186 ?_
  refine Wo ?_
  exact sf_ret (rV rfl)
section
variable (h : PHeap) (c : Value) (g : Grid) (a : Int) (s : Sl h c cellF g.cells) (hw : 1 ≤ g.wide ∧ g.wide ≤ 5) (ha : 0 ≤ a ∧ a < 1000)
include s hw ha
theorem up_v : CallV Tryz.prog M 182 [.agg #[.int .i64 g.wide, c, .int .i64 a]] h (.tuple #[.int .i64 (a - g.wide), .bool (decide (g.wide ≤ a))]) := by
  have o1 := s.one
  refine Cs Tryz.func182 Tryz.ntmps182 ?_
  repeat first | refine R1 ?_ | refine R2 fun _ => ?_
  refine Sd [[],[0],[],[2],[2,3],[0,1,2,3,4],[],[6],[],[8],[8,9],[6,7,8,9,10],[0,1,2,3,4,5],[0,1,2,3,4,5,6,7,8,9,10,11,12]] 13 [Nn 0,Nn 1,Nn 2,Nn 3,Nn 4,Nn 5,Nn 6,Nn 7,Nn 8,Nn 9,Nn 10,Nn 11,Nn 12] ?_
  refine Da ?_
  refine Ae ?_
  repeat first | refine R1 ?_ | refine R2 fun _ => ?_
  exact sf_ret (rV rfl)
theorem right_v : CallV Tryz.prog M 183 [.agg #[.int .i64 g.wide, c, .int .i64 a]] h (.tuple #[.int .i64 (a + 1), .bool (decide (a % g.wide ≠ g.wide - 1))]) := by
  have o1 := s.one
  refine Cs Tryz.func183 Tryz.ntmps183 ?_
  repeat first | refine R1 ?_ | refine R2 fun _ => ?_
  refine Sd [[],[0],[0,1],[],[3],[],[5],[5,6],[3,4,5,6,7],[],[9],[9,10],[9,10,11],[3,4,5,6,7,8,9,10,11,12],[0,1,2],[0,1,2,3,4,5,6,7,8,9,10,11,12,13,14]] 15 [Nn 0,Nn 1,Nn 2,Nn 3,Nn 4,Nn 5,Nn 6,Nn 7,Nn 8,Nn 9,Nn 10,Nn 11,Nn 12,Nn 13,Nn 14] ?_
  refine Da ?_
  refine Ae ?_
  repeat first | refine R1 ?_ | refine R2 fun _ => ?_
  exact sf_ret (rV rfl)
theorem down_v : CallV Tryz.prog M 184 [.agg #[.int .i64 g.wide, c, .int .i64 a]] h (.tuple #[.int .i64 (a + g.wide), .bool (decide (a + g.wide < g.cells.length))]) := by
  have o1 := s.one
  refine Cs Tryz.func184 Tryz.ntmps184 ?_
  repeat first | refine R1 ?_ | refine R2 fun _ => ?_
  refine Sd [[],[0],[],[2],[2,3],[0,1,2,3,4],[],[6],[],[8],[8,9],[6,7,8,9,10],[],[12],[12,13],[12,13,14],[6,7,8,9,10,11,12,13,14,15],[0,1,2,3,4,5],[0,1,2,3,4,5,6,7,8,9,10,11,12,13,14,15,16,17]] 18 [Nn 0,Nn 1,Nn 2,Nn 3,Nn 4,Nn 5,Nn 6,Nn 7,Nn 8,Nn 9,Nn 10,Nn 11,Nn 12,Nn 13,Nn 14,Nn 15,Nn 16,Nn 17] ?_
  refine Da ?_
  refine Ae ?_
  repeat first | refine R1 ?_ | refine R2 fun _ => ?_
  exact sf_ret (rV rfl)
theorem left_v : CallV Tryz.prog M 185 [.agg #[.int .i64 g.wide, c, .int .i64 a]] h (.tuple #[.int .i64 (a - 1), .bool (decide (a % g.wide ≠ 0))]) := by
  have o1 := s.one
  refine Cs Tryz.func185 Tryz.ntmps185 ?_
  repeat first | refine R1 ?_ | refine R2 fun _ => ?_
  refine Sd [[],[0],[0,1],[],[3],[],[5],[5,6],[3,4,5,6,7],[3,4,5,6,7,8],[0,1,2],[0,1,2,3,4,5,6,7,8,9,10]] 11 [Nn 0,Nn 1,Nn 2,Nn 3,Nn 4,Nn 5,Nn 6,Nn 7,Nn 8,Nn 9,Nn 10] ?_
  refine Da ?_
  refine Ae ?_
  repeat first | refine R1 ?_ | refine R2 fun _ => ?_
  exact sf_ret (rV rfl)
end
def stepV (g : Grid) (a d : Int) : Value := match nextAt g a d with
  | some b => .tuple #[.agg #[.int .i64 b, .int .i64 d], .bool true]
  | none => .tuple #[.agg #[.int .i64 0, .int .i64 0], .bool false]
theorem rayStep_v (h : PHeap) (c : Value) (g : Grid) (a d : Int) (s : Sl h c cellF g.cells) (hw : 1 ≤ g.wide ∧ g.wide ≤ 5) (ha : 0 ≤ a ∧ a < 1000) (hd : 0 ≤ d ∧ d ≤ 3) : CallV Tryz.prog M 146 [.agg #[.int .i64 g.wide, c], .int .i64 a, .int .i64 d] h (stepV g a d) := by
  have o1 := s.one
  obtain ⟨n, rfl⟩ : ∃ n : Nat, d = n := ⟨d.toNat, by omega⟩
  have hn : n = 0 ∨ n = 1 ∨ n = 2 ∨ n = 3 := by omega
  refine Cs Tryz.func146 Tryz.ntmps146 ?_
  repeat first | refine R1 ?_ | refine R2 fun _ => ?_
  rcases hn with rfl | rfl | rfl | rfl
  · refine Sd [[],[0],[0,1],[],[],[3,4],[0,1,2,3,4,5],[0,1,2,3,4,5,6],[0,1,2,3,4,5,6,7],[0,1,2,3,4,5,6,7],[0,1,2,3,4,5,6,7,8],[0,1,2,3,4,5,6,7,8,9,10]] 11 [Nn 0,Nn 1,Nn 2,Nn 3,Nn 4,Nn 5,Yy 6,Nn 7,Nn 8,Nn 9,Nn 10] ?_
    refine Da ?_
    refine a_callC (by rfl) (by rfl) (by rfl) (by exact up_v h c g a s hw ha) (.inl rfl) ?_
    rintro _ _ ⟨rfl, rfl⟩
    refine Da ?_
    refine Ae ?_
    repeat first | refine R1 ?_ | refine R2 fun _ => ?_
    refine sf_ifn (fun e => ?_) fun e => ?_
    · repeat first | refine R1 ?_ | refine R2 fun _ => ?_
      refine sf_ret (rV ?_)
      simp [stepV, nextAt, e]
    · repeat first | refine R1 ?_ | refine R2 fun _ => ?_
      refine sf_ret (rV ?_)
      simp [stepV, nextAt, e]
  · refine Sd [[],[0],[0,1],[],[],[3,4],[0,1,2,3,4,5],[0,1,2,3,4,5,6],[0,1,2,3,4,5,6,7],[0,1,2,3,4,5,6,7],[0,1,2,3,4,5,6,7,8],[0,1,2,3,4,5,6,7,8,9,10]] 11 [Nn 0,Nn 1,Nn 2,Nn 3,Nn 4,Nn 5,Yy 6,Nn 7,Nn 8,Nn 9,Nn 10] ?_
    refine Da ?_
    refine a_callC (by rfl) (by rfl) (by rfl) (by exact right_v h c g a s hw ha) (.inl rfl) ?_
    rintro _ _ ⟨rfl, rfl⟩
    refine Da ?_
    refine Ae ?_
    repeat first | refine R1 ?_ | refine R2 fun _ => ?_
    refine sf_ifn (fun e => ?_) fun e => ?_
    · repeat first | refine R1 ?_ | refine R2 fun _ => ?_
      refine sf_ret (rV ?_)
      simp [stepV, nextAt, e]
    · repeat first | refine R1 ?_ | refine R2 fun _ => ?_
      refine sf_ret (rV ?_)
      simp [stepV, nextAt, e]
  · refine Sd [[],[0],[0,1],[],[],[3,4],[0,1,2,3,4,5],[0,1,2,3,4,5,6],[0,1,2,3,4,5,6,7],[0,1,2,3,4,5,6,7],[0,1,2,3,4,5,6,7,8],[0,1,2,3,4,5,6,7,8,9,10]] 11 [Nn 0,Nn 1,Nn 2,Nn 3,Nn 4,Nn 5,Yy 6,Nn 7,Nn 8,Nn 9,Nn 10] ?_
    refine Da ?_
    refine a_callC (by rfl) (by rfl) (by rfl) (by exact down_v h c g a s hw ha) (.inl rfl) ?_
    rintro _ _ ⟨rfl, rfl⟩
    refine Da ?_
    refine Ae ?_
    repeat first | refine R1 ?_ | refine R2 fun _ => ?_
    refine sf_ifn (fun e => ?_) fun e => ?_
    · repeat first | refine R1 ?_ | refine R2 fun _ => ?_
      refine sf_ret (rV ?_)
      simp [stepV, nextAt, e]
    · repeat first | refine R1 ?_ | refine R2 fun _ => ?_
      refine sf_ret (rV ?_)
      simp [stepV, nextAt, e]
  · refine Sd [[],[0],[0,1],[],[],[3,4],[0,1,2,3,4,5],[0,1,2,3,4,5,6],[0,1,2,3,4,5,6,7],[0,1,2,3,4,5,6,7],[0,1,2,3,4,5,6,7,8],[0,1,2,3,4,5,6,7,8,9,10]] 11 [Nn 0,Nn 1,Nn 2,Nn 3,Nn 4,Nn 5,Yy 6,Nn 7,Nn 8,Nn 9,Nn 10] ?_
    refine Da ?_
    refine a_callC (by rfl) (by rfl) (by rfl) (by exact left_v h c g a s hw ha) (.inl rfl) ?_
    rintro _ _ ⟨rfl, rfl⟩
    refine Da ?_
    refine Ae ?_
    repeat first | refine R1 ?_ | refine R2 fun _ => ?_
    refine sf_ifn (fun e => ?_) fun e => ?_
    · repeat first | refine R1 ?_ | refine R2 fun _ => ?_
      refine sf_ret (rV ?_)
      simp [stepV, nextAt, e]
    · repeat first | refine R1 ?_ | refine R2 fun _ => ?_
      refine sf_ret (rV ?_)
      simp [stepV, nextAt, e]
theorem dirTurn_v (h : PHeap) (k d : Int) (hd : 0 ≤ d ∧ d ≤ 3) : CallV Tryz.prog M 113 [.int .i64 k, .int .i64 d] h (.int .i64 (dirTurn k d)) := by
  obtain ⟨n, rfl⟩ : ∃ n : Nat, d = n := ⟨d.toNat, by omega⟩
  have hn : n = 0 ∨ n = 1 ∨ n = 2 ∨ n = 3 := by omega
  refine Cs Tryz.func113 Tryz.ntmps113 ?_
  refine Wo ?_
  refine Xv (dirOk_v _ _) ?_
  refine Wo ?_
  refine sf_cond (by rfl) (fun e => by simp at e; omega) fun _ => ?_
  refine Wo ?_
  rcases hn with rfl | rfl | rfl | rfl <;>
  · refine sf_if (fun e1 => ?_) fun e1 => ?_
    · refine Wo ?_
      refine sf_if (fun _ => ?_) fun e => absurd e1 e
      refine Wo ?_
      refine fp (Rq ?_ (q_index (by infer_instance) (by infer_instance) (by rfl) (by rfl) (by decide) (by decide) (by rfl)))
      refine Wo ?_
      refine sf_ret (rV ?_)
      simp [dirTurn, e1]
    · refine Wo ?_
      refine sf_if (fun e2 => ?_) fun e2 => ?_
      · refine Wo ?_
        refine fp (Rq ?_ (q_index (by infer_instance) (by infer_instance) (by rfl) (by rfl) (by decide) (by decide) (by rfl)))
        refine Wo ?_
        refine sf_ret (rV ?_)
        simp [dirTurn, e2]
      · refine Wo ?_
        refine sf_if (fun e3 => ?_) fun e3 => ?_
        · refine Wo ?_
          refine sf_if (fun _ => ?_) fun e => absurd e3 e
          refine Wo ?_
          refine fp (Rq ?_ (q_index (by infer_instance) (by infer_instance) (by rfl) (by rfl) (by decide) (by decide) (by rfl)))
          refine Wo ?_
          refine sf_ret (rV ?_)
          simp [dirTurn, e3]
        · refine Wo ?_
          refine sf_if (fun e4 => ?_) fun e4 => ?_
          · refine Wo ?_
            refine fp (Rq ?_ (q_index (by infer_instance) (by infer_instance) (by rfl) (by rfl) (by decide) (by decide) (by rfl)))
            refine Wo ?_
            refine sf_ret (rV ?_)
            simp [dirTurn, e4]
          · refine Wo ?_
            refine sf_ret (rV ?_)
            simp [dirTurn, e1, e2, e3, e4]
theorem sidesToldR_f (h : PHeap) (c : Value) (g : Grid) (s : Sl h c cellF g.cells) (hw : 1 ≤ g.wide ∧ g.wide ≤ 5) (rw' : Nat) (ww : Nat) (ew : g.wide = ww) (er : rowsOf g = rw') (hl : g.cells.length = rw' * ww) (hr : 1 ≤ rw' ∧ rw' ≤ 5) (f : FuncId) [Fun Tryz.prog f] (cap : Array Value) (St : Nat → Own) (val : Nat → Ray)
    (C : ∀ k, k < 2 * (ww + rw') → CallF Tryz.prog M f ([.int .i64 (k : Int), .agg #[.int .i64 (rayAt g (k : Nat)).at', .int .i64 (rayAt g (k : Nat)).dir]] ++ cap.toList) (St k) h fun v A => v = .agg #[.int .i64 (val k).at', .int .i64 (val k).dir] ∧ A = St (k + 1)) :
    CallF Tryz.prog M 139 [.agg #[.int .i64 g.wide, c], .func (.func f) #[] cap] (St 0) h fun v A => ∃ A', A = St (2 * (ww + rw')) ++ A' ∧ Gr A' v 151 rayF ((List.range (2 * (ww + rw'))).map val) := by
  have o1 := s.one
  have ray : ∀ (k : Nat), k < 2 * (ww + rw') → ∀ x y, rayAt g (k : Nat) = ⟨x, y⟩ → CallF Tryz.prog M f (#[].toList ++ [.int .i64 (k : Int), .agg #[.int .i64 x, .int .i64 y]] ++ cap.toList) (St k) h fun v A => v = .agg #[.int .i64 (val k).at', .int .i64 (val k).dir] ∧ A = St (k + 1) := fun k hk x y e => by
    have := C k hk
    rw [e] at this; exact this
  have step : ∀ (k : Nat) (xs : List Ray), xs.length = k → xs = (List.range k).map val → xs ++ [val k] = (List.range (k + 1)).map val := fun k xs _ e => by rw [List.range_succ, List.map_append, e]; rfl
  refine Cs Tryz.func139 Tryz.ntmps139 ?_
  repeat first | refine R1 ?_ | refine R2 fun _ => ?_
  refine Sd [[],[0],[],[2],[0,1,2,3],[0,1,2,3,4]] 4 [Nn 0,Nn 1,Nn 2,Yy 3] ?_
  refine Da ?_
  refine Yv (rowsOf_v h c g s hw.1) ?_
  rw [er]
  refine Da ?_
  refine Ae ?_
  repeat first | refine R1 ?_ | refine R2 fun _ => ?_
  obtain ⟨N, hN⟩ : ∃ N : Nat, 2 * (g.wide + (rw' : Int)) = N := ⟨2 * (ww + rw'), by omega⟩
  rw [hN]
  refine fp (y_make0 (by rfl) (by rfl) (by rfl) (by decide) (by omega) fun w A g0 => ?_)
  repeat first | refine R1 ?_ | refine R2 fun _ => ?_
  rename_i b2
  refine sf_lp (ι := Nat × Value) [1, 5, 6, 21] (fun x => [(22, .int .i64 (x.1 : Int)), (7, x.2)]) (fun x O => x.1 ≤ ww ∧ ∃ A', O = St x.1 ++ (A' ++ [(b2, .cells #[.int .i64 g.wide, c] 25)]) ∧ ∃ xs, xs.length = x.1 ∧ xs = (List.range x.1).map val ∧ Gr A' x.2 151 rayF xs) (fun x => ww - x.1) (0, w) (St 0 ++ (A ++ [(b2, .cells #[.int .i64 g.wide, c] 25)])) ⟨by omega, A, rfl, [], rfl, rfl, g0⟩ ?_
  rintro ⟨j, v⟩ O ⟨hj, A', rfl, xs, hx, ex, gr⟩
  simp only at hj hx ex gr ⊢
  subst hx
  have o2 := gr.one
  repeat first | refine R1 ?_ | refine R2 fun _ => ?_
  refine sf_if (fun e => ?_) fun e => ?_
  · repeat first | refine R1 ?_ | refine R2 fun _ => ?_
    refine fp (y_callC2 (by rfl) (by rfl) (by exact ray xs.length (by omega) xs.length 2 (by unfold rayAt; rw [if_pos (by omega)])) ?_)
    rintro _ _ ⟨rfl, rfl⟩
    repeat first | refine R1 ?_ | refine R2 fun _ => ?_
    refine Xb fun u Au gu => ?_
    repeat first | refine R1 ?_ | refine R2 fun _ => ?_
    refine Xa gr gu fun v2 A2 g2 => ?_
    repeat first | refine R1 ?_ | refine R2 fun _ => ?_
    exact ⟨(xs.length + 1, v2), by simp only; omega, ⟨rfl, rfl, trivial⟩, rfl, St (xs.length + 1) ++ (A2 ++ [(b2, .cells #[.int .i64 g.wide, c] 25)]), _, inferInstance, by simp only; omega, A2, rfl, _, by simp, step _ xs rfl ex, g2⟩
  refine sf_exit ?_
  obtain rfl : ww = xs.length := by omega
  clear g0 w A e hj
  repeat first | refine R1 ?_ | refine R2 fun _ => ?_
  refine sf_lp (ι := Nat × Value) [1, 5, 6, 35] (fun x => [(36, .int .i64 (x.1 : Int)), (7, x.2)]) (fun x O => x.1 ≤ rw' ∧ ∃ A', O = St (xs.length + x.1) ++ (A' ++ [(b2, .cells #[.int .i64 g.wide, c] 25)]) ∧ ∃ ys, ys.length = xs.length + x.1 ∧ ys = (List.range (xs.length + x.1)).map val ∧ Gr A' x.2 151 rayF ys) (fun x => rw' - x.1) (0, v) (St xs.length ++ (A' ++ [(b2, .cells #[.int .i64 g.wide, c] 25)])) ⟨by omega, A', rfl, xs, rfl, ex, gr⟩ ?_
  rintro ⟨j, v⟩ O ⟨hj, A', rfl, ys, hx, ey, gr⟩
  simp only at hj hx ey gr ⊢
  have o2 := gr.one
  repeat first | refine R1 ?_ | refine R2 fun _ => ?_
  refine sf_if (fun e => ?_) fun e => ?_
  · have hm : 0 ≤ (j : Int) * g.wide ∧ (j : Int) * g.wide ≤ 4 * 5 := ⟨Int.mul_nonneg (by omega) (by omega), Int.mul_le_mul (by omega) (by omega) (by omega) (by omega)⟩
    repeat first | refine R1 ?_ | refine R2 fun _ => ?_
    rw [← hx]
    refine fp (y_callC2 (by rfl) (by rfl) (by exact ray ys.length (by omega) _ 3 (by unfold rayAt; rw [if_neg (by omega), if_pos (by omega)]; exact ray_ext (by rw [show ((ys.length : Nat) : Int) - g.wide = j by omega]) rfl)) ?_)
    rintro _ _ ⟨rfl, rfl⟩
    repeat first | refine R1 ?_ | refine R2 fun _ => ?_
    refine Xb fun u Au gu => ?_
    repeat first | refine R1 ?_ | refine R2 fun _ => ?_
    refine Xa gr gu fun v2 A2 g2 => ?_
    repeat first | refine R1 ?_ | refine R2 fun _ => ?_
    exact ⟨(j + 1, v2), by simp only; omega, ⟨rfl, rfl, trivial⟩, rfl, St (ys.length + 1) ++ (A2 ++ [(b2, .cells #[.int .i64 g.wide, c] 25)]), _, inferInstance, by simp only; omega, A2, by simp only [hx]; rfl, _, by simp; omega, by rw [step _ ys rfl (by rw [hx]; exact ey), hx]; rfl, g2⟩
  refine sf_exit ?_
  obtain rfl : rw' = j := by omega
  clear e hj
  have gr' := gr
  clear gr
  have hl' : (g.cells.length : Int) = (rw' : Int) * g.wide := by rw [ew, hl, Int.natCast_mul]
  have hm0 : 0 ≤ (rw' : Int) * g.wide ∧ (rw' : Int) * g.wide ≤ 5 * 5 := ⟨Int.mul_nonneg (by omega) (by omega), Int.mul_le_mul (by omega) (by omega) (by omega) (by omega)⟩
  repeat first | refine R1 ?_ | refine R2 fun _ => ?_
  refine sf_lp (ι := Nat × Value) [1, 5, 6, 54] (fun x => [(55, .int .i64 (x.1 : Int)), (7, x.2)]) (fun x O => x.1 ≤ xs.length ∧ ∃ A', O = St (xs.length + rw' + x.1) ++ (A' ++ [(b2, .cells #[.int .i64 g.wide, c] 25)]) ∧ ∃ ys, ys.length = xs.length + rw' + x.1 ∧ ys = (List.range (xs.length + rw' + x.1)).map val ∧ Gr A' x.2 151 rayF ys) (fun x => xs.length - x.1) (0, v) (St (xs.length + rw') ++ (A' ++ [(b2, .cells #[.int .i64 g.wide, c] 25)])) ⟨by omega, A', rfl, ys, hx, ey, gr'⟩ ?_
  clear gr' ey hx o2 ys
  rintro ⟨j, v⟩ O ⟨hj, A', rfl, ys, hx, ey, gr⟩
  simp only at hj hx ey gr ⊢
  have o2 := gr.one
  repeat first | refine R1 ?_ | refine R2 fun _ => ?_
  refine sf_if (fun e => ?_) fun e => ?_
  · repeat first | refine R1 ?_ | refine R2 fun _ => ?_
    rw [← hx]
    refine fp (y_callC2 (by rfl) (by rfl) (by exact ray ys.length (by omega) _ 0 (by unfold rayAt; rw [if_neg (by omega), if_neg (by omega), if_pos (by omega)]; exact ray_ext (by omega) rfl)) ?_)
    rintro _ _ ⟨rfl, rfl⟩
    repeat first | refine R1 ?_ | refine R2 fun _ => ?_
    refine Xb fun u Au gu => ?_
    repeat first | refine R1 ?_ | refine R2 fun _ => ?_
    refine Xa gr gu fun v2 A2 g2 => ?_
    repeat first | refine R1 ?_ | refine R2 fun _ => ?_
    exact ⟨(j + 1, v2), by simp only; omega, ⟨rfl, rfl, trivial⟩, rfl, St (ys.length + 1) ++ (A2 ++ [(b2, .cells #[.int .i64 g.wide, c] 25)]), _, inferInstance, by simp only; omega, A2, by simp only [hx]; rfl, _, by simp; omega, by rw [step _ ys rfl (by rw [hx]; exact ey), hx]; rfl, g2⟩
  refine sf_exit ?_
  obtain rfl : xs.length = j := by omega
  clear e hj
  repeat first | refine R1 ?_ | refine R2 fun _ => ?_
  refine sf_lp (ι := Nat × Value) [1, 5, 6, 73] (fun x => [(74, .int .i64 (x.1 : Int)), (7, x.2)]) (fun x O => x.1 ≤ rw' ∧ ∃ A', O = St (xs.length + rw' + xs.length + x.1) ++ (A' ++ [(b2, .cells #[.int .i64 g.wide, c] 25)]) ∧ ∃ ys, ys.length = xs.length + rw' + xs.length + x.1 ∧ ys = (List.range (xs.length + rw' + xs.length + x.1)).map val ∧ Gr A' x.2 151 rayF ys) (fun x => rw' - x.1) (0, v) (St (xs.length + rw' + xs.length) ++ (A' ++ [(b2, .cells #[.int .i64 g.wide, c] 25)])) ⟨by omega, A', rfl, ys, hx, ey, gr⟩ ?_
  clear gr ey hx o2 ys
  rintro ⟨j, v⟩ O ⟨hj, A', rfl, ys, hx, ey, gr⟩
  simp only at hj hx ey gr ⊢
  have o2 := gr.one
  repeat first | refine R1 ?_ | refine R2 fun _ => ?_
  refine sf_if (fun e => ?_) fun e => ?_
  · have hm : 0 ≤ ((rw' : Int) - 1 - j) * g.wide ∧ ((rw' : Int) - 1 - j) * g.wide ≤ 4 * 5 := ⟨Int.mul_nonneg (by omega) (by omega), Int.mul_le_mul (by omega) (by omega) (by omega) (by omega)⟩
    have hq : ((rw' : Int) - 1 - j) * g.wide = (rw' : Int) * g.wide - g.wide - (j : Int) * g.wide := by rw [Int.sub_mul, Int.sub_mul, Int.one_mul]
    repeat first | refine R1 ?_ | refine R2 fun _ => ?_
    rw [← hx]
    refine fp (y_callC2 (by rfl) (by rfl) (by exact ray ys.length (by omega) _ 1 (by unfold rayAt; rw [if_neg (by omega), if_neg (by omega), if_neg (by omega)]; exact ray_ext (by rw [hl', hq, show ((ys.length : Nat) : Int) - g.wide - rowsOf g - g.wide = j by omega]) rfl)) ?_)
    rintro _ _ ⟨rfl, rfl⟩
    repeat first | refine R1 ?_ | refine R2 fun _ => ?_
    refine Xb fun u Au gu => ?_
    repeat first | refine R1 ?_ | refine R2 fun _ => ?_
    refine Xa gr gu fun v2 A2 g2 => ?_
    repeat first | refine R1 ?_ | refine R2 fun _ => ?_
    exact ⟨(j + 1, v2), by simp only; omega, ⟨rfl, rfl, trivial⟩, rfl, St (ys.length + 1) ++ (A2 ++ [(b2, .cells #[.int .i64 g.wide, c] 25)]), _, inferInstance, by simp only; omega, A2, by simp only [hx]; rfl, _, by simp; omega, by rw [step _ ys rfl (by rw [hx]; exact ey), hx]; rfl, g2⟩
  refine sf_exit ?_
  obtain rfl : rw' = j := by omega
  repeat first | refine R1 ?_ | refine R2 fun _ => ?_
  have eN : 2 * (xs.length + rw') = xs.length + rw' + xs.length + rw' := by omega
  exact sf_ret (rO (St (xs.length + rw' + xs.length + rw') ++ A') ⟨A', by rw [eN], by rw [eN, ← ey]; exact gr⟩)
theorem sidesToldB_f (h : PHeap) (c : Value) (g : Grid) (s : Sl h c cellF g.cells) (hw : 1 ≤ g.wide ∧ g.wide ≤ 5) (rw' : Nat) (ww : Nat) (ew : g.wide = ww) (er : rowsOf g = rw') (hl : g.cells.length = rw' * ww) (hr : 1 ≤ rw' ∧ rw' ≤ 5) (f : FuncId) [Fun Tryz.prog f] (cap : Array Value) (St : Nat → Own) (val : Nat → Bool)
    (C : ∀ k, k < 2 * (ww + rw') → CallF Tryz.prog M f ([.int .i64 (k : Int), .agg #[.int .i64 (rayAt g (k : Nat)).at', .int .i64 (rayAt g (k : Nat)).dir]] ++ cap.toList) (St k) h fun v A => v = .bool (val k) ∧ A = St (k + 1)) :
    CallF Tryz.prog M 187 [.agg #[.int .i64 g.wide, c], .func (.func f) #[] cap] (St 0) h fun v A => ∃ A', A = St (2 * (ww + rw')) ++ A' ∧ Gr A' v 4 boolF ((List.range (2 * (ww + rw'))).map val) := by
  have o1 := s.one
  have ray : ∀ (k : Nat), k < 2 * (ww + rw') → ∀ x y, rayAt g (k : Nat) = ⟨x, y⟩ → CallF Tryz.prog M f (#[].toList ++ [.int .i64 (k : Int), .agg #[.int .i64 x, .int .i64 y]] ++ cap.toList) (St k) h fun v A => v = .bool (val k) ∧ A = St (k + 1) := fun k hk x y e => by
    have := C k hk
    rw [e] at this; exact this
  have step : ∀ (k : Nat) (xs : List Bool), xs.length = k → xs = (List.range k).map val → xs ++ [val k] = (List.range (k + 1)).map val := fun k xs _ e => by rw [List.range_succ, List.map_append, e]; rfl
  refine Cs Tryz.func187 Tryz.ntmps187 ?_
  repeat first | refine R1 ?_ | refine R2 fun _ => ?_
  refine Sd [[],[0],[],[2],[0,1,2,3],[0,1,2,3,4]] 4 [Nn 0,Nn 1,Nn 2,Yy 3] ?_
  refine Da ?_
  refine Yv (rowsOf_v h c g s hw.1) ?_
  rw [er]
  refine Da ?_
  refine Ae ?_
  repeat first | refine R1 ?_ | refine R2 fun _ => ?_
  obtain ⟨N, hN⟩ : ∃ N : Nat, 2 * (g.wide + (rw' : Int)) = N := ⟨2 * (ww + rw'), by omega⟩
  rw [hN]
  refine fp (y_make0 (by rfl) (by rfl) (by rfl) (by decide) (by omega) fun w A g0 => ?_)
  repeat first | refine R1 ?_ | refine R2 fun _ => ?_
  rename_i b2
  refine sf_lp (ι := Nat × Value) [1, 5, 6, 21] (fun x => [(22, .int .i64 (x.1 : Int)), (7, x.2)]) (fun x O => x.1 ≤ ww ∧ ∃ A', O = St x.1 ++ (A' ++ [(b2, .cells #[.int .i64 g.wide, c] 25)]) ∧ ∃ xs, xs.length = x.1 ∧ xs = (List.range x.1).map val ∧ Gr A' x.2 4 boolF xs) (fun x => ww - x.1) (0, w) (St 0 ++ (A ++ [(b2, .cells #[.int .i64 g.wide, c] 25)])) ⟨by omega, A, rfl, [], rfl, rfl, g0⟩ ?_
  rintro ⟨j, v⟩ O ⟨hj, A', rfl, xs, hx, ex, gr⟩
  simp only at hj hx ex gr ⊢
  subst hx
  have o2 := gr.one
  repeat first | refine R1 ?_ | refine R2 fun _ => ?_
  refine sf_if (fun e => ?_) fun e => ?_
  · repeat first | refine R1 ?_ | refine R2 fun _ => ?_
    refine fp (y_callC2 (by rfl) (by rfl) (by exact ray xs.length (by omega) xs.length 2 (by unfold rayAt; rw [if_pos (by omega)])) ?_)
    rintro _ _ ⟨rfl, rfl⟩
    repeat first | refine R1 ?_ | refine R2 fun _ => ?_
    refine Xb fun u Au gu => ?_
    repeat first | refine R1 ?_ | refine R2 fun _ => ?_
    refine Xa gr gu fun v2 A2 g2 => ?_
    repeat first | refine R1 ?_ | refine R2 fun _ => ?_
    exact ⟨(xs.length + 1, v2), by simp only; omega, ⟨rfl, rfl, trivial⟩, rfl, St (xs.length + 1) ++ (A2 ++ [(b2, .cells #[.int .i64 g.wide, c] 25)]), _, inferInstance, by simp only; omega, A2, rfl, _, by simp, step _ xs rfl ex, g2⟩
  refine sf_exit ?_
  obtain rfl : ww = xs.length := by omega
  clear g0 w A e hj
  repeat first | refine R1 ?_ | refine R2 fun _ => ?_
  refine sf_lp (ι := Nat × Value) [1, 5, 6, 35] (fun x => [(36, .int .i64 (x.1 : Int)), (7, x.2)]) (fun x O => x.1 ≤ rw' ∧ ∃ A', O = St (xs.length + x.1) ++ (A' ++ [(b2, .cells #[.int .i64 g.wide, c] 25)]) ∧ ∃ ys, ys.length = xs.length + x.1 ∧ ys = (List.range (xs.length + x.1)).map val ∧ Gr A' x.2 4 boolF ys) (fun x => rw' - x.1) (0, v) (St xs.length ++ (A' ++ [(b2, .cells #[.int .i64 g.wide, c] 25)])) ⟨by omega, A', rfl, xs, rfl, ex, gr⟩ ?_
  rintro ⟨j, v⟩ O ⟨hj, A', rfl, ys, hx, ey, gr⟩
  simp only at hj hx ey gr ⊢
  have o2 := gr.one
  repeat first | refine R1 ?_ | refine R2 fun _ => ?_
  refine sf_if (fun e => ?_) fun e => ?_
  · have hm : 0 ≤ (j : Int) * g.wide ∧ (j : Int) * g.wide ≤ 4 * 5 := ⟨Int.mul_nonneg (by omega) (by omega), Int.mul_le_mul (by omega) (by omega) (by omega) (by omega)⟩
    repeat first | refine R1 ?_ | refine R2 fun _ => ?_
    rw [← hx]
    refine fp (y_callC2 (by rfl) (by rfl) (by exact ray ys.length (by omega) _ 3 (by unfold rayAt; rw [if_neg (by omega), if_pos (by omega)]; exact ray_ext (by rw [show ((ys.length : Nat) : Int) - g.wide = j by omega]) rfl)) ?_)
    rintro _ _ ⟨rfl, rfl⟩
    repeat first | refine R1 ?_ | refine R2 fun _ => ?_
    refine Xb fun u Au gu => ?_
    repeat first | refine R1 ?_ | refine R2 fun _ => ?_
    refine Xa gr gu fun v2 A2 g2 => ?_
    repeat first | refine R1 ?_ | refine R2 fun _ => ?_
    exact ⟨(j + 1, v2), by simp only; omega, ⟨rfl, rfl, trivial⟩, rfl, St (ys.length + 1) ++ (A2 ++ [(b2, .cells #[.int .i64 g.wide, c] 25)]), _, inferInstance, by simp only; omega, A2, by simp only [hx]; rfl, _, by simp; omega, by rw [step _ ys rfl (by rw [hx]; exact ey), hx]; rfl, g2⟩
  refine sf_exit ?_
  obtain rfl : rw' = j := by omega
  clear e hj
  have gr' := gr
  clear gr
  have hl' : (g.cells.length : Int) = (rw' : Int) * g.wide := by rw [ew, hl, Int.natCast_mul]
  have hm0 : 0 ≤ (rw' : Int) * g.wide ∧ (rw' : Int) * g.wide ≤ 5 * 5 := ⟨Int.mul_nonneg (by omega) (by omega), Int.mul_le_mul (by omega) (by omega) (by omega) (by omega)⟩
  repeat first | refine R1 ?_ | refine R2 fun _ => ?_
  refine sf_lp (ι := Nat × Value) [1, 5, 6, 54] (fun x => [(55, .int .i64 (x.1 : Int)), (7, x.2)]) (fun x O => x.1 ≤ xs.length ∧ ∃ A', O = St (xs.length + rw' + x.1) ++ (A' ++ [(b2, .cells #[.int .i64 g.wide, c] 25)]) ∧ ∃ ys, ys.length = xs.length + rw' + x.1 ∧ ys = (List.range (xs.length + rw' + x.1)).map val ∧ Gr A' x.2 4 boolF ys) (fun x => xs.length - x.1) (0, v) (St (xs.length + rw') ++ (A' ++ [(b2, .cells #[.int .i64 g.wide, c] 25)])) ⟨by omega, A', rfl, ys, hx, ey, gr'⟩ ?_
  clear gr' ey hx o2 ys
  rintro ⟨j, v⟩ O ⟨hj, A', rfl, ys, hx, ey, gr⟩
  simp only at hj hx ey gr ⊢
  have o2 := gr.one
  repeat first | refine R1 ?_ | refine R2 fun _ => ?_
  refine sf_if (fun e => ?_) fun e => ?_
  · repeat first | refine R1 ?_ | refine R2 fun _ => ?_
    rw [← hx]
    refine fp (y_callC2 (by rfl) (by rfl) (by exact ray ys.length (by omega) _ 0 (by unfold rayAt; rw [if_neg (by omega), if_neg (by omega), if_pos (by omega)]; exact ray_ext (by omega) rfl)) ?_)
    rintro _ _ ⟨rfl, rfl⟩
    repeat first | refine R1 ?_ | refine R2 fun _ => ?_
    refine Xb fun u Au gu => ?_
    repeat first | refine R1 ?_ | refine R2 fun _ => ?_
    refine Xa gr gu fun v2 A2 g2 => ?_
    repeat first | refine R1 ?_ | refine R2 fun _ => ?_
    exact ⟨(j + 1, v2), by simp only; omega, ⟨rfl, rfl, trivial⟩, rfl, St (ys.length + 1) ++ (A2 ++ [(b2, .cells #[.int .i64 g.wide, c] 25)]), _, inferInstance, by simp only; omega, A2, by simp only [hx]; rfl, _, by simp; omega, by rw [step _ ys rfl (by rw [hx]; exact ey), hx]; rfl, g2⟩
  refine sf_exit ?_
  obtain rfl : xs.length = j := by omega
  clear e hj
  repeat first | refine R1 ?_ | refine R2 fun _ => ?_
  refine sf_lp (ι := Nat × Value) [1, 5, 6, 73] (fun x => [(74, .int .i64 (x.1 : Int)), (7, x.2)]) (fun x O => x.1 ≤ rw' ∧ ∃ A', O = St (xs.length + rw' + xs.length + x.1) ++ (A' ++ [(b2, .cells #[.int .i64 g.wide, c] 25)]) ∧ ∃ ys, ys.length = xs.length + rw' + xs.length + x.1 ∧ ys = (List.range (xs.length + rw' + xs.length + x.1)).map val ∧ Gr A' x.2 4 boolF ys) (fun x => rw' - x.1) (0, v) (St (xs.length + rw' + xs.length) ++ (A' ++ [(b2, .cells #[.int .i64 g.wide, c] 25)])) ⟨by omega, A', rfl, ys, hx, ey, gr⟩ ?_
  clear gr ey hx o2 ys
  rintro ⟨j, v⟩ O ⟨hj, A', rfl, ys, hx, ey, gr⟩
  simp only at hj hx ey gr ⊢
  have o2 := gr.one
  repeat first | refine R1 ?_ | refine R2 fun _ => ?_
  refine sf_if (fun e => ?_) fun e => ?_
  · have hm : 0 ≤ ((rw' : Int) - 1 - j) * g.wide ∧ ((rw' : Int) - 1 - j) * g.wide ≤ 4 * 5 := ⟨Int.mul_nonneg (by omega) (by omega), Int.mul_le_mul (by omega) (by omega) (by omega) (by omega)⟩
    have hq : ((rw' : Int) - 1 - j) * g.wide = (rw' : Int) * g.wide - g.wide - (j : Int) * g.wide := by rw [Int.sub_mul, Int.sub_mul, Int.one_mul]
    repeat first | refine R1 ?_ | refine R2 fun _ => ?_
    rw [← hx]
    refine fp (y_callC2 (by rfl) (by rfl) (by exact ray ys.length (by omega) _ 1 (by unfold rayAt; rw [if_neg (by omega), if_neg (by omega), if_neg (by omega)]; exact ray_ext (by rw [hl', hq, show ((ys.length : Nat) : Int) - g.wide - rowsOf g - g.wide = j by omega]) rfl)) ?_)
    rintro _ _ ⟨rfl, rfl⟩
    repeat first | refine R1 ?_ | refine R2 fun _ => ?_
    refine Xb fun u Au gu => ?_
    repeat first | refine R1 ?_ | refine R2 fun _ => ?_
    refine Xa gr gu fun v2 A2 g2 => ?_
    repeat first | refine R1 ?_ | refine R2 fun _ => ?_
    exact ⟨(j + 1, v2), by simp only; omega, ⟨rfl, rfl, trivial⟩, rfl, St (ys.length + 1) ++ (A2 ++ [(b2, .cells #[.int .i64 g.wide, c] 25)]), _, inferInstance, by simp only; omega, A2, by simp only [hx]; rfl, _, by simp; omega, by rw [step _ ys rfl (by rw [hx]; exact ey), hx]; rfl, g2⟩
  refine sf_exit ?_
  obtain rfl : rw' = j := by omega
  repeat first | refine R1 ?_ | refine R2 fun _ => ?_
  have eN : 2 * (xs.length + rw') = xs.length + rw' + xs.length + rw' := by omega
  exact sf_ret (rO (St (xs.length + rw' + xs.length + rw') ++ A') ⟨A', by rw [eN], by rw [eN, ← ey]; exact gr⟩)
def sightMany (g : Grid) : Int := if gridOk g = true then manyOf g else 0
theorem sightMany_v (h : PHeap) (ca : List Value) (g : Grid) (b : (gridR τ).B h ca g) : CallV Tryz.prog M 72 [.agg ca.toArray] h (.int .i64 (sightMany g)) := by
  obtain ⟨c, rfl, s⟩ := gridB b
  have o1 := s.one
  refine Cs Tryz.func72 Tryz.ntmps72 ?_
  repeat first | refine R1 ?_ | refine R2 fun _ => ?_
  refine Xv (gridOk_v _ _ g b) ?_
  repeat first | refine R1 ?_ | refine R2 fun _ => ?_
  refine sf_cond (by rfl) (fun e => ?_) fun e => ?_
  · repeat first | refine R1 ?_ | refine R2 fun _ => ?_
    simp only [Bool.not_eq_true'] at e
    refine sf_ret (rV ?_)
    simp [sightMany, e]
  · simp only [Bool.not_eq_false'] at e
    have k := gok e
    have h1 := k.w1; have h2 := k.w5; have h3 := k.r1; have h4 := k.r5
    repeat first | refine R1 ?_ | refine R2 fun _ => ?_
    refine Sd [[],[0],[],[2],[0,1,2,3],[0,1,2,3,4],[0,1,2,3,4,5]] 4 [Nn 0,Nn 1,Nn 2,Yy 3] ?_
    refine Da ?_
    refine Yv (rowsOf_v h c g s h1) ?_
    refine Da ?_
    refine Ae ?_
    repeat first | refine R1 ?_ | refine R2 fun _ => ?_
    refine sf_ret (rV ?_)
    simp [sightMany, e, manyOf]
def sightRayV (g : Grid) (k : Int) : Value := if 0 ≤ k ∧ k < sightMany g then .tuple #[.agg #[.int .i64 (rayAt g k).at', .int .i64 (rayAt g k).dir], .bool true] else .tuple #[.agg #[.int .i64 0, .int .i64 0], .bool false]
theorem sightRay1_v (h : PHeap) (k a d : Int) : CallV Tryz.prog M 140 [.int .i64 k, .agg #[.int .i64 a, .int .i64 d]] h (.agg #[.int .i64 a, .int .i64 d]) := by
  refine Cs Tryz.func140 Tryz.ntmps140 ?_
  repeat first | refine R1 ?_ | refine R2 fun _ => ?_
  exact sf_ret (rV rfl)
theorem sightRay_v (h : PHeap) (ca : List Value) (g : Grid) (b : (gridR τ).B h ca g) (k : Int) : CallV Tryz.prog M 109 [.agg ca.toArray, .int .i64 k] h (sightRayV g k) := by
  obtain ⟨c, rfl, s⟩ := gridB b
  have o1 := s.one
  refine Cs Tryz.func109 Tryz.ntmps109 ?_
  repeat first | refine R1 ?_ | refine R2 fun _ => ?_
  refine f_split (fun h1 => ?_) fun h1 => ?_
  · repeat first | refine R1 ?_ | refine R2 fun _ => ?_
    refine sf_T rfl ?_
    repeat first | refine R1 ?_ | refine R2 fun _ => ?_
    refine sf_ret (rV ?_)
    rw [sightRayV, if_neg (by omega)]
  repeat first | refine R1 ?_ | refine R2 fun _ => ?_
  refine Xv (sightMany_v _ _ g b) ?_
  repeat first | refine R1 ?_ | refine R2 fun _ => ?_
  refine sf_if (fun h2 => ?_) fun h2 => ?_
  · repeat first | refine R1 ?_ | refine R2 fun _ => ?_
    refine sf_ret (rV ?_)
    rw [sightRayV, if_neg (by omega)]
  have hk : 0 ≤ k ∧ k < sightMany g := by omega
  obtain ⟨n, rfl⟩ : ∃ n : Nat, k = n := ⟨k.toNat, by omega⟩
  have e : gridOk g = true := by
    cases e : gridOk g with
    | true => rfl
    | false => simp [sightMany, e] at hk; omega
  have kg := gok e
  have w1 := kg.w1; have w5 := kg.w5; have r1 := kg.r1; have r5 := kg.r5
  have em : sightMany g = manyOf g := by rw [sightMany, if_pos e]
  obtain ⟨ww, ew⟩ : ∃ ww : Nat, g.wide = ww := ⟨g.wide.toNat, by omega⟩
  obtain ⟨rr, er⟩ : ∃ rr : Nat, rowsOf g = rr := ⟨(rowsOf g).toNat, by omega⟩
  have hl : g.cells.length = rr * ww := by
    have := kg.len
    rw [er, ew] at this
    exact_mod_cast this
  have hm : n < 2 * (ww + rr) := by
    rw [em, manyOf, er, ew] at hk; omega
  repeat first | refine R1 ?_ | refine R2 fun _ => ?_
  refine fp (y_call (sidesToldR_f h c g s ⟨w1, w5⟩ rr ww ew er hl ⟨by omega, by omega⟩ 140 #[] (fun _ => []) (fun k : Nat => rayAt g (k : Nat)) (fun k hk => sightRay1_v h _ _ _)) (by rfl) ?_)
  rintro v _ ⟨A', rfl, gr⟩
  have gx : gt ((List.range (2 * (ww + rr))).map fun k : Nat => rayAt g (k : Nat)) n = rayAt g n := by
    rw [gt_eq (by simp; omega)]; simp
  have lx : ((List.range (2 * (ww + rr))).map fun k : Nat => rayAt g (k : Nat)).length = 2 * (ww + rr) := by simp
  generalize ((List.range (2 * (ww + rr))).map fun k : Nat => rayAt g (k : Nat)) = xs at gr gx lx
  have o2 := gr.one
  repeat first | refine R1 ?_ | refine R2 fun _ => ?_
  refine sf_ret (rV ?_)
  rw [gx, sightRayV, if_pos hk]
def foundAt (p : Nat → Bool) : Nat → Int
  | 0 => -1
  | k + 1 => if p k = true then k else foundAt p k
theorem foundAt_is {g : Grid} {R : Int} (k : Gok g R) {a d : Int} (N : Nat) (hN : manyOf g = N) : foundAt (fun k => decide (rayAt g (k : Nat) = ⟨a, (d + 2) % 4⟩)) N = sightOf g a d := by
  have key : ∀ n : Nat, n ≤ N → ((∃ i : Nat, i < n ∧ rayAt g (i : Nat) = ⟨a, (d + 2) % 4⟩ ∧ foundAt (fun k => decide (rayAt g (k : Nat) = ⟨a, (d + 2) % 4⟩)) n = i) ∨ ((∀ i : Nat, i < n → rayAt g (i : Nat) ≠ ⟨a, (d + 2) % 4⟩) ∧ foundAt (fun k => decide (rayAt g (k : Nat) = ⟨a, (d + 2) % 4⟩)) n = -1)) := by
    intro n
    induction n with
    | zero => intro _; exact .inr ⟨fun i hi => absurd hi (by omega), rfl⟩
    | succ n ih =>
      intro hn
      by_cases e : rayAt g (n : Nat) = ⟨a, (d + 2) % 4⟩
      · exact .inl ⟨n, by omega, e, by simp [foundAt, e]⟩
      · rcases ih (by omega) with ⟨i, h1, h2, h3⟩ | ⟨h1, h2⟩
        · exact .inl ⟨i, by omega, h2, by simp only [foundAt, e, decide_false, Bool.false_eq_true, if_false]; exact h3⟩
        · refine .inr ⟨fun i hi => ?_, by simp only [foundAt, e, decide_false, Bool.false_eq_true, if_false]; exact h2⟩
          rcases Nat.lt_or_ge i n with h | h
          · exact h1 i h
          · obtain rfl : i = n := by omega
            exact e
  rcases key N (Nat.le_refl _) with ⟨i, h1, h2, h3⟩ | ⟨h1, h2⟩
  · rw [h3, sightOf_some k (by omega) (by omega) h2]
  · rw [h2, sightOf_none fun i i0 i1 => ?_]
    have := h1 i.toNat (by omega)
    rwa [Int.toNat_of_nonneg i0] at this
theorem sightOf1_f (h : PHeap) (k a d x y f : Int) (b1 b2 : Nat) : CallF Tryz.prog M 188 [.int .i64 k, .agg #[.int .i64 a, .int .i64 d], .pointer (some ⟨b1, 0, none⟩), .pointer (some ⟨b2, 0, none⟩)] [(b1, .cells #[.int .i64 x, .int .i64 y] 151), (b2, .cells #[.int .i64 f] 3)] h fun v A => v = .bool (decide ((⟨a, d⟩ : Ray) = ⟨x, y⟩)) ∧ A = [(b1, .cells #[.int .i64 x, .int .i64 y] 151), (b2, .cells #[.int .i64 (if (⟨a, d⟩ : Ray) = ⟨x, y⟩ then k else f)] 3)] := by
  refine Cs Tryz.func188 Tryz.ntmps188 ?_
  repeat first | refine R1 ?_ | refine R2 fun _ => ?_
  refine fp (Rq ?_ (q_eqS (E := rayF) (a := ⟨a, d⟩) (b := ⟨x, y⟩) inferInstance (by rfl) (by rfl)))
  repeat first | refine R1 ?_ | refine R2 fun _ => ?_
  refine sf_if (fun e => ?_) fun e => ?_
  · repeat first | refine R1 ?_ | refine R2 fun _ => ?_
    refine fp (Rq ?_ (q_eqS (E := rayF) (a := ⟨a, d⟩) (b := ⟨x, y⟩) inferInstance (by rfl) (by rfl)))
    repeat first | refine R1 ?_ | refine R2 fun _ => ?_
    exact sf_ret (rO [(b1, .cells #[.int .i64 x, .int .i64 y] 151), (b2, .cells #[.int .i64 k] 3)] ⟨rfl, by rw [if_pos e]⟩)
  · repeat first | refine R1 ?_ | refine R2 fun _ => ?_
    refine fp (Rq ?_ (q_eqS (E := rayF) (a := ⟨a, d⟩) (b := ⟨x, y⟩) inferInstance (by rfl) (by rfl)))
    repeat first | refine R1 ?_ | refine R2 fun _ => ?_
    exact sf_ret (rO [(b1, .cells #[.int .i64 x, .int .i64 y] 151), (b2, .cells #[.int .i64 f] 3)] ⟨rfl, by rw [if_neg e]⟩)
theorem sightOf_v (h : PHeap) (ca : List Value) (g : Grid) (b : (gridR τ).B h ca g) (e : gridOk g = true) (a d : Int) (hd : 0 ≤ d ∧ d ≤ 3) : CallV Tryz.prog M 147 [.agg ca.toArray, .int .i64 a, .int .i64 d] h (.int .i64 (sightOf g a d)) := by
  obtain ⟨c, rfl, s⟩ := gridB b
  have o1 := s.one
  have kg := gok e
  have w1 := kg.w1; have w5 := kg.w5; have r1 := kg.r1; have r5 := kg.r5
  obtain ⟨ww, ew⟩ : ∃ ww : Nat, g.wide = ww := ⟨g.wide.toNat, by omega⟩
  obtain ⟨rr, er⟩ : ∃ rr : Nat, rowsOf g = rr := ⟨(rowsOf g).toNat, by omega⟩
  have hl : g.cells.length = rr * ww := by
    have := kg.len
    rw [er, ew] at this
    exact_mod_cast this
  have hN : manyOf g = (2 * (ww + rr) : Nat) := by
    rw [manyOf, er, ew]; omega
  refine Cs Tryz.func147 Tryz.ntmps147 ?_
  repeat first | refine R1 ?_ | refine R2 fun _ => ?_
  refine Xv (gridOk_v _ _ g b) ?_
  rw [e]
  repeat first | refine R1 ?_ | refine R2 fun _ => ?_
  refine Xv (dirOk_v _ _) ?_
  rw [show (decide (0 ≤ d) && decide (d ≤ 3)) = true by simp; omega]
  repeat first | refine R1 ?_ | refine R2 fun _ => ?_
  refine sf_cond (by rfl) (fun e => by cases e) fun z1 => ?_
  clear z1
  repeat first | refine R1 ?_ | refine R2 fun _ => ?_
  refine Xv (dirOpposite_v _ _ hd.1 hd.2) ?_
  repeat first | refine R1 ?_ | refine R2 fun _ => ?_
  rename_i b1 b2 b3
  refine fp (y_call (A := [(b2, .cells #[.int .i64 a, .int .i64 ((d + 2) % 4)] 151), (b3, .cells #[.int .i64 (-1)] 3)]) (sidesToldB_f h c g s ⟨w1, w5⟩ rr ww ew er hl ⟨by omega, by omega⟩ 188 #[.pointer (some ⟨b2, 0, none⟩), .pointer (some ⟨b3, 0, none⟩)] (fun k => [(b2, .cells #[.int .i64 a, .int .i64 ((d + 2) % 4)] 151), (b3, .cells #[.int .i64 (foundAt (fun k => decide (rayAt g (k : Nat) = ⟨a, (d + 2) % 4⟩)) k)] 3)]) (fun k => decide (rayAt g (k : Nat) = ⟨a, (d + 2) % 4⟩)) (fun k hk => (sightOf1_f h _ _ _ a ((d + 2) % 4) _ b2 b3).to ?_)) (by rfl) ?_)
  · rintro v O ⟨rfl, rfl⟩
    refine ⟨rfl, ?_⟩
    simp only [foundAt, decide_eq_true_eq]
  rintro v _ ⟨A', rfl, gr⟩
  rw [foundAt_is kg _ hN]
  repeat first | refine R1 ?_ | refine R2 fun _ => ?_
  exact sf_ret (rV rfl)
theorem painters0 {A : Own} {v : Value} {n : Nat} (g : Gr A v 70 (rawF (painterR τ).sz) (List.replicate n ⟨[.bool true, .bool false, .int .i64 0, .int .i64 0, .slice none 0 0, .slice none 0 0, .slice none 0 0], rfl⟩)) (hn : n ≤ 281474976710656) : GrR (painterR τ) A v 70 (List.replicate n freshPainter) := by
  refine ⟨A, [], by simp, _, g, ?_, by simpa using hn⟩
  clear g hn
  induction n with
  | zero => exact .nil
  | succ n ih => rw [List.replicate_succ, List.replicate_succ]; exact .cons (A := []) freshPainterO ih
theorem sWorldNew_f (h : PHeap) (ca : List Value) (g : Grid) (many : Int) (b : (gridR τ).B h ca g) (hs : g.cells.length ≤ 1048576) : CallF Tryz.prog M 40 [.agg ca.toArray, .int .i64 many] [] h fun v A => ∃ cs, v = .tuple #[.agg cs.toArray, .bool (worldNew g many).2] ∧ (worldR τ).O A cs (worldNew g many).1 := by
  obtain ⟨c, rfl, s⟩ := gridB b
  have o1 := s.one
  refine Cs Tryz.func40 Tryz.ntmps40 ?_
  repeat first | refine R1 ?_ | refine R2 fun _ => ?_
  refine fp (y_call (sKeepNew_f _ _ g many b hs) (by rfl) ?_)
  rintro _ A1 ⟨_, rfl, q⟩
  obtain ⟨x1, x2, x3, x4, K1, K2, K3, K4, rfl, rfl, ⟨r1, l1⟩, ⟨r2, l2⟩, r3, r4⟩ := keeperO q
  have p1 := r1.one
  have p2 := r2.one
  have p3 := r3.one
  have p4 := r4.one
  repeat first | refine R1 ?_ | refine R2 fun _ => ?_
  refine sf_cond (by rfl) (fun h2 => ?_) fun h2 => ?_
  · rw [worldNew_F (by simpa using h2)]
    repeat first | refine R1 ?_ | refine R2 fun _ => ?_
    exact sf_ret (rO [] ⟨_, rfl, noWorldO⟩)
  · have h3 : (keepNew g many).2 = true := by simpa using h2
    have hm := keepNew_many h3
    rw [worldNew_T h3]
    generalize keepNew g many = kn at *
    repeat first | refine R1 ?_ | refine R2 fun _ => ?_
    refine Xb fun e1 A2 g2 => ?_
    have o2 := g2.one
    repeat first | refine R1 ?_ | refine R2 fun _ => ?_
    rename_i b2 b4 b6 b8
    obtain ⟨n, rfl⟩ : ∃ n : Nat, many = n := ⟨many.toNat, by omega⟩
    refine sf_lp [1, 4, 8] (fun i : Nat => [(9, .int .i64 (i : Int))]) (fun i O => i ≤ n ∧ ∃ p A0, O = (b8, .cells #[.int .i64 kn.1.first.wide, x1, x2, x3, x4, p, e1] 80) :: (A0 ++ (A2 ++ (K1 ++ (K2 ++ (K3 ++ K4)) ++ [(b4, .cells #[.int .i64 0, .slice none 0 0, .slice none 0 0, .slice none 0 0, .slice none 0 0, .slice none 0 0, .slice none 0 0] 80)]))) ∧ Gr A0 p 70 (rawF (painterR τ).sz) (List.replicate i ⟨[.bool true, .bool false, .int .i64 0, .int .i64 0, .slice none 0 0, .slice none 0 0, .slice none 0 0], rfl⟩)) (fun i => n - i) 0 ((b8, .cells #[.int .i64 kn.1.first.wide, x1, x2, x3, x4, .slice none 0 0, e1] 80) :: ([] ++ (A2 ++ (K1 ++ (K2 ++ (K3 ++ K4)) ++ [(b4, .cells #[.int .i64 0, .slice none 0 0, .slice none 0 0, .slice none 0 0, .slice none 0 0, .slice none 0 0, .slice none 0 0] 80)])))) ⟨by omega, _, [], rfl, Gr.nil _ _⟩ ?_
    rintro i O ⟨hi, p, A0, rfl, g3⟩
    have o5 := g3.one
    repeat first | refine R1 ?_ | refine R2 fun _ => ?_
    refine sf_if (fun h4 => ?_) fun h4 => ?_
    · repeat first | refine R1 ?_ | refine R2 fun _ => ?_
      refine Xb fun u Au gu => ?_
      repeat first | refine R1 ?_ | refine R2 fun _ => ?_
      refine fp (y_append (by rfl) (by rfl) g3 gu (by intro y hy; simp at hy; subst hy; exact (inferInstance : AllOne [Value.bool true, .bool false, .int .i64 0, .int .i64 0, .slice none 0 0, .slice none 0 0, .slice none 0 0]).is) (by rfl) (by rfl) (by simp; omega) (by simp; omega) fun p2 A5 g5 => ?_)
      have o6 := g5.one
      repeat first | refine R1 ?_ | refine R2 fun _ => ?_
      refine ⟨i + 1, by omega, ⟨rfl, trivial⟩, rfl, (b8, .cells #[.int .i64 kn.1.first.wide, x1, x2, x3, x4, p2, e1] 80) :: (A5 ++ (A2 ++ (K1 ++ (K2 ++ (K3 ++ K4)) ++ [(b4, .cells #[.int .i64 0, .slice none 0 0, .slice none 0 0, .slice none 0 0, .slice none 0 0, .slice none 0 0, .slice none 0 0] 80)]))), _, inferInstance, by omega, p2, A5, rfl, ?_⟩
      rw [List.replicate_succ']
      exact g5
    · refine sf_exit ?_
      repeat first | refine R1 ?_ | refine R2 fun _ => ?_
      have : i = n := by omega
      subst this
      refine sf_ret (rO (K1 ++ (K2 ++ (K3 ++ (K4 ++ (A0 ++ A2))))) ⟨_, rfl, ?_⟩)
      simp only [Int.toNat_natCast]
      exact worldO_mk (w := ⟨kn.1, List.replicate i freshPainter, []⟩) r1 l1 r2 l2 r3 r4 (painters0 g3 (by omega)) (GrR.of_gr g2)
theorem worldNew_f (h : PHeap) (ca : List Value) (g : Grid) (many : Int) (b : (gridR τ).B h ca g) (hs : g.cells.length ≤ 1048576) : CallF Tryz.prog M 41 [.agg ca.toArray, .int .i64 many] [] h fun v A => ∃ cs, v = .tuple #[.agg cs.toArray, .bool (worldNew g many).2] ∧ (worldR τ).O A cs (worldNew g many).1 := by
  obtain ⟨c, rfl, s⟩ := gridB b
  have o1 := s.one
  refine Cs Tryz.func41 Tryz.ntmps41 ?_
  repeat first | refine R1 ?_ | refine R2 fun _ => ?_
  refine fp (y_call (keepNew_f _ _ g many b hs) (by rfl) ?_)
  rintro _ A1 ⟨_, rfl, q⟩
  obtain ⟨x1, x2, x3, x4, K1, K2, K3, K4, rfl, rfl, ⟨r1, l1⟩, ⟨r2, l2⟩, r3, r4⟩ := keeperO q
  have p1 := r1.one
  have p2 := r2.one
  have p3 := r3.one
  have p4 := r4.one
  repeat first | refine R1 ?_ | refine R2 fun _ => ?_
  refine sf_cond (by rfl) (fun h2 => ?_) fun h2 => ?_
  · rw [worldNew_F (by simpa using h2)]
    repeat first | refine R1 ?_ | refine R2 fun _ => ?_
    exact sf_ret (rO [] ⟨_, rfl, noWorldO⟩)
  · have h3 : (keepNew g many).2 = true := by simpa using h2
    have hm := keepNew_many h3
    rw [worldNew_T h3]
    generalize keepNew g many = kn at *
    repeat first | refine R1 ?_ | refine R2 fun _ => ?_
    rename_i b2 b4 b6 b8
    obtain ⟨n, rfl⟩ : ∃ n : Nat, many = n := ⟨many.toNat, by omega⟩
    refine sf_lp [4, 8, 20] (fun i : Nat => [(21, .int .i64 (i : Int))]) (fun i O => i ≤ n ∧ ∃ p A0, O = (b8, .cells #[.int .i64 kn.1.first.wide, x1, x2, x3, x4, p, .slice none 0 0] 80) :: (A0 ++ ((K1 ++ (K2 ++ (K3 ++ K4)) ++ [(b4, .cells #[.int .i64 0, .slice none 0 0, .slice none 0 0, .slice none 0 0, .slice none 0 0, .slice none 0 0, .slice none 0 0] 80)]))) ∧ Gr A0 p 70 (rawF (painterR τ).sz) (List.replicate i ⟨[.bool true, .bool false, .int .i64 0, .int .i64 0, .slice none 0 0, .slice none 0 0, .slice none 0 0], rfl⟩)) (fun i => n - i) 0 ((b8, .cells #[.int .i64 kn.1.first.wide, x1, x2, x3, x4, .slice none 0 0, .slice none 0 0] 80) :: ([] ++ ((K1 ++ (K2 ++ (K3 ++ K4)) ++ [(b4, .cells #[.int .i64 0, .slice none 0 0, .slice none 0 0, .slice none 0 0, .slice none 0 0, .slice none 0 0, .slice none 0 0] 80)])))) ⟨by omega, _, [], rfl, Gr.nil _ _⟩ ?_
    rintro i O ⟨hi, p, A0, rfl, g3⟩
    have o5 := g3.one
    repeat first | refine R1 ?_ | refine R2 fun _ => ?_
    refine sf_if (fun h4 => ?_) fun h4 => ?_
    · repeat first | refine R1 ?_ | refine R2 fun _ => ?_
      refine Xb fun u Au gu => ?_
      repeat first | refine R1 ?_ | refine R2 fun _ => ?_
      refine fp (y_append (by rfl) (by rfl) g3 gu (by intro y hy; simp at hy; subst hy; exact (inferInstance : AllOne [Value.bool true, .bool false, .int .i64 0, .int .i64 0, .slice none 0 0, .slice none 0 0, .slice none 0 0]).is) (by rfl) (by rfl) (by simp; omega) (by simp; omega) fun p2 A5 g5 => ?_)
      have o6 := g5.one
      repeat first | refine R1 ?_ | refine R2 fun _ => ?_
      refine ⟨i + 1, by omega, ⟨rfl, trivial⟩, rfl, (b8, .cells #[.int .i64 kn.1.first.wide, x1, x2, x3, x4, p2, .slice none 0 0] 80) :: (A5 ++ ((K1 ++ (K2 ++ (K3 ++ K4)) ++ [(b4, .cells #[.int .i64 0, .slice none 0 0, .slice none 0 0, .slice none 0 0, .slice none 0 0, .slice none 0 0, .slice none 0 0] 80)]))), _, inferInstance, by omega, p2, A5, rfl, ?_⟩
      rw [List.replicate_succ']
      exact g5
    · refine sf_exit ?_
      repeat first | refine R1 ?_ | refine R2 fun _ => ?_
      have : i = n := by omega
      subst this
      refine sf_ret (rO (K1 ++ (K2 ++ (K3 ++ (K4 ++ (A0 ++ []))))) ⟨_, rfl, ?_⟩)
      simp only [Int.toNat_natCast]
      exact worldO_mk (w := ⟨kn.1, List.replicate i freshPainter, []⟩) r1 l1 r2 l2 r3 r4 (painters0 g3 (by omega)) GrR.nil
structure DrawnK (cs : List Value) (k : Keeper) (A : Own) : Prop where
  cells : ∃ c b1 c1 b2 c2 b3 c3, cs = [.int .i64 k.first.wide, c, .slice b1 k.edits.length c1, .slice b2 k.parts.length c2, .slice b3 k.shown.length c3] ∧ Sl.One c
  lent : ∀ h', InB h' A → (keeperR τ).B h' cs k
  size : szKeeperN k ≤ 200000
  n1 : 1 ≤ k.parts.length
  n3 : k.parts.length ≤ 3
  e100 : k.edits.length ≤ 100
  c25 : k.first.cells.length ≤ 25
theorem DrawnK.grid {k : Keeper} {A : Own} {z c x1 x2 x3 : Value} (d : DrawnK [z, c, x1, x2, x3] k A) {h' : PHeap} (i : InB h' A) : (gridR τ).B h' [z, c] k.first := by
  obtain ⟨c', e, p, s, ec, s1, -⟩ := keeperB (d.lent h' i)
  simp only [List.cons.injEq, and_true] at ec
  obtain ⟨rfl, rfl, -⟩ := ec
  exact gridB_mk s1
def Drawn (u : Value) (g : Grid) (A : Own) : Prop := ∃ c, u = .agg #[.int .i64 g.wide, c] ∧ Sl.One c ∧ ∀ h', InB h' A → Sl h' c cellF g.cells
theorem drawn_gr {A : Own} {c : Value} {g : Grid} (gr : Gr A c 46 cellF g.cells) (hl : g.cells.length ≤ 100) : Drawn (.agg #[.int .i64 g.wide, c]) g A := ⟨c, rfl, gr.one, fun h' i => gr.lent (by omega) i⟩
theorem l71Some_f (h : PHeap) (br : Nat) (v : Value) (xs : List (Fin 256)) (s : Sl h v u8F xs) (hs : xs.length ≤ 2000) (p : Nat) (hp1 : p ≤ 990000) : CallF Tryz.prog M 120 [.pointer (some ⟨br, 0, none⟩)] (rdA br v p) h fun u A => ∃ (g : Grid) (A' : Own) (q : Nat), Drawn u g A' ∧ g.cells.length ≤ 100 ∧ q ≤ p + 100 ∧ A = rdA br v q ++ A' := by
  have o1 := s.one
  refine Cs Tryz.func120 Tryz.ntmps120 ?_
  repeat first | refine R1 ?_ | refine R2 fun _ => ?_
  refine fp (y_call (l71Grid_f _ br v xs s hs p (by omega)) (by rfl) ?_)
  rintro _ A1 ⟨⟨wide, ys⟩, c, A', q, rfl, gr, w1, w5, n1, n25, hq, rfl, -⟩
  simp only at w1 w5 n1 n25 gr ⊢
  have oc := gr.one
  repeat first | refine R1 ?_ | refine R2 fun _ => ?_
  refine fp (y_call (pick_f _ br v xs s hs q 24 (by omega) (by omega) (by omega)) (by rfl) ?_)
  rintro _ A2 ⟨m, rfl, m0, m1, rfl⟩
  repeat first | refine R1 ?_ | refine R2 fun _ => ?_
  refine sf_if (fun e => ?_) fun e => ?_
  · repeat first | refine R1 ?_ | refine R2 fun _ => ?_
    exact sf_ret (rt (rdA br v (q + 1) ++ A') (resV_one rfl (yr_cell rfl)) ⟨⟨wide, ys⟩, A', q + 1, drawn_gr (g := ⟨wide, ys⟩) gr (by simp only; omega), by simp only; omega, by omega, rfl⟩)
  repeat first | refine R1 ?_ | refine R2 fun _ => ?_
  refine fp (y_call (pick_f _ br v xs s hs (q + 1) 5 (by omega) (by omega) (by omega)) (by rfl) ?_)
  rintro _ A3 ⟨m2, rfl, m20, m21, rfl⟩
  repeat first | refine R1 ?_ | refine R2 fun _ => ?_
  rename_i b2 b3
  refine sf_if (fun e0 => ?_) fun e0 => ?_
  · repeat first | refine R1 ?_ | refine R2 fun _ => ?_
    refine Xb fun w Aw gw => ?_
    repeat first | refine R1 ?_ | refine R2 fun _ => ?_
    refine fp (y_call (pick_f _ br v xs s hs (q + 1 + 1) 3 (by omega) (by omega) (by omega)) (by rfl) ?_)
    rintro _ A4 ⟨m3, rfl, m30, m31, rfl⟩
    obtain ⟨k, rfl⟩ : ∃ k : Nat, m3 = k := ⟨m3.toNat, by omega⟩
    repeat first | refine R1 ?_ | refine R2 fun _ => ?_
    refine fp (Rq ?_ (z_indexG (by rfl) (by rfl) gw (by simp; omega)))
    repeat first | refine R1 ?_ | refine R2 fun _ => ?_
    refine fp (Rq ?_ (z_loadG (by rfl) gw (by simp; omega) (by rfl)))
    repeat first | refine R1 ?_ | refine R2 fun _ => ?_
    exact sf_ret (rt (rdA br v (q + 1 + 1 + 1) ++ A') (resV_one rfl (yr_cell rfl)) ⟨⟨_, ys⟩, A', q + 1 + 1 + 1, drawn_gr (g := ⟨_, ys⟩) gr (by simp only; omega), by simp only; omega, by omega, rfl⟩)
  repeat first | refine R1 ?_ | refine R2 fun _ => ?_
  refine sf_if (fun e1 => ?_) fun e1 => ?_
  · obtain ⟨b, cap, rfl, hc, hrest⟩ := gr.rest (by omega) (by omega)
    repeat first | refine R1 ?_ | refine R2 fun _ => ?_
    refine fp (Rq ?_ (q_sliceLo (l := 1) (by infer_instance) (by infer_instance) (by rfl) (by rfl) (by omega)))
    repeat first | refine R1 ?_ | refine R2 fun _ => ?_
    exact sf_ret (rt (rdA br v (q + 1 + 1) ++ A') (resV_one rfl (yr_cell rfl)) ⟨⟨wide, ys.tail⟩, A', q + 1 + 1, ⟨_, rfl, inferInstance, hrest⟩, by simp; omega, by omega, rfl⟩)
  repeat first | refine R1 ?_ | refine R2 fun _ => ?_
  refine sf_if (fun e2 => ?_) fun e2 => ?_
  · have hn := Int.natCast_nonneg ys.length
    repeat first | refine R1 ?_ | refine R2 fun _ => ?_
    refine sf_draw (by kernel_rfl) (regX_own (rdA br v (q + 1 + 1)) (Sw [[],[0],[],[],[3],[3,4],[2,3,4,5],[],[2,3,4,5,6,7],[0,1,2,3,4,5,6,7,8],[0,1,2,3,4,5,6,7,8,9]] 9 [Nn 0,Nn 1,Nn 2,Nn 3,Nn 4,Nn 5,Nn 7,Yy 6,Yy 8] ?_))
    refine Da ?_
    refine Yc (pick_f _ br v xs s hs (q + 1 + 1) (ys.length : Int) (by omega) (by omega) (by omega)) ?_
    rintro _ A4 ⟨m3, rfl, m30, m31, rfl⟩
    obtain ⟨k, rfl⟩ : ∃ k : Nat, m3 = k := ⟨m3.toNat, by omega⟩
    have hk : k < ys.length := by omega
    refine Da ?_
    refine Yc (l71Off_f _ br v xs s hs (q + 1 + 1 + 1) (by omega)) ?_
    rintro _ A5 ⟨cc, q2, rfl, hq2, rfl⟩
    refine Da ?_
    refine Ae ?_
    repeat first | refine R1 ?_ | refine R2 fun _ => ?_
    refine Xg gr fun A6 zs ez lz _ g6 => ?_
    repeat first | refine R1 ?_ | refine R2 fun _ => ?_
    exact sf_ret (rt (rdA br v q2 ++ A6) (resV_one rfl (yr_cell rfl)) ⟨⟨wide, zs⟩, A6, q2, drawn_gr (g := ⟨wide, zs⟩) g6 (by simp only; omega), by simp only; omega, by omega, rfl⟩)
  repeat first | refine R1 ?_ | refine R2 fun _ => ?_
  refine sf_if (fun e3 => ?_) fun e3 => ?_
  · repeat first | refine R1 ?_ | refine R2 fun _ => ?_
    obtain ⟨w, rfl⟩ : ∃ w : Nat, wide = w := ⟨wide.toNat, by omega⟩
    refine sf_lp (ι := List Cell) [2, 3] (fun _ => []) (fun zs O => zs.length ≤ 5 * w + 25 ∧ ∃ c A', O = rdA br v (q + 1 + 1) ++ ((b3, .cells #[.int .i64 w, c] 25) :: (A' ++ [(b2, .cells #[.int .i64 0, .slice none 0 0] 25)])) ∧ Gr A' c 46 cellF zs) (fun zs => 5 * w + 25 - zs.length) ys (rdA br v (q + 1 + 1) ++ ((b3, .cells #[.int .i64 w, c] 25) :: (A' ++ [(b2, .cells #[.int .i64 0, .slice none 0 0] 25)]))) ⟨by omega, _, _, rfl, gr⟩ ?_
    clear gr oc A'
    rintro zs O ⟨hz, c, A', rfl, gr⟩
    have oc := gr.one
    repeat first | refine R1 ?_ | refine R2 fun _ => ?_
    refine sf_if (fun e => ?_) fun e => ?_
    · repeat first | refine R1 ?_ | refine R2 fun _ => ?_
      refine Xb fun w2 Aw gw => ?_
      repeat first | refine R1 ?_ | refine R2 fun _ => ?_
      refine Xa gr gw fun c2 A4 g4 => ?_
      have oc2 := g4.one
      repeat first | refine R1 ?_ | refine R2 fun _ => ?_
      exact ⟨_, by simp; omega, trivial, rfl, rdA br v (q + 1 + 1) ++ ((b3, .cells #[.int .i64 w, c2] 25) :: (A4 ++ [(b2, .cells #[.int .i64 0, .slice none 0 0] 25)])), _, inferInstance, by simp; omega, c2, A4, rfl, g4⟩
    · refine sf_exit ?_
      repeat first | refine R1 ?_ | refine R2 fun _ => ?_
      exact sf_ret (rt (rdA br v (q + 1 + 1) ++ A') (resV_one rfl (yr_cell rfl)) ⟨⟨w, zs⟩, A', q + 1 + 1, drawn_gr (g := ⟨w, zs⟩) gr (by simp only; omega), by simp only; omega, by omega, rfl⟩)
  repeat first | refine R1 ?_ | refine R2 fun _ => ?_
  exact sf_ret (rt (rdA br v (q + 1 + 1)) (resV_one rfl (yr_cell rfl)) ⟨⟨wide, []⟩, [], q + 1 + 1, ⟨_, rfl, inferInstance, fun _ _ => Sl.nil _ _⟩, by simp, by omega, by simp⟩)
theorem l6Open_f (h : PHeap) (v : Value) (xs : List (Fin 256)) (s : Sl h v u8F xs) : CallF Tryz.prog M 45 [v] [] h fun u A => ∃ br v' xs', u = .pointer (some ⟨br, 0, none⟩) ∧ A = rdA br v' 0 ∧ Sl h v' u8F xs' ∧ xs'.length ≤ 2000 := by
  have o1 := s.one
  have hs := s.small
  refine Cs Tryz.func45 Tryz.ntmps45 ?_
  repeat first | refine R1 ?_ | refine R2 fun _ => ?_
  refine sf_if (fun e => ?_) fun e => ?_
  · obtain ⟨cap, hv, hc, s2⟩ := s.front (l := 2000) (by omega) (by omega)
    rw [hv]
    repeat first | refine R1 ?_ | refine R2 fun _ => ?_
    refine fp (Rq ?_ (q_sliceHi (l := 2000) (by infer_instance) (by infer_instance) (by rfl) (by rfl) (by omega)))
    repeat first | refine R1 ?_ | refine R2 fun _ => ?_
    rename_i br
    exact sf_ret (rt (rdA br (.slice (some ⟨vb v, vo v, none⟩) 2000 cap) 0) (resV_one rfl (res_tmp rfl)) ⟨br, _, _, rfl, rfl, s2, by simp; omega⟩)
  · repeat first | refine R1 ?_ | refine R2 fun _ => ?_
    rename_i br
    exact sf_ret (rt (rdA br v 0) (resV_one rfl (res_tmp rfl)) ⟨br, v, xs, rfl, rfl, s, by omega⟩)
theorem drawKeepNew_f (h : PHeap) (v : Value) (xs : List (Fin 256)) (s : Sl h v u8F xs) : CallF Tryz.prog M 78 [v] [] h fun u A => ∃ (gv : Value) (g : Grid) (m : Int), u = .tuple #[gv, .int .i64 m] ∧ Drawn gv g A ∧ g.cells.length ≤ 100 := by
  have o1 := s.one
  refine Cs Tryz.func78 Tryz.ntmps78 ?_
  repeat first | refine R1 ?_ | refine R2 fun _ => ?_
  refine fp (y_call (l6Open_f _ v xs s) (by rfl) ?_)
  rintro _ A1 ⟨br, v', xs', rfl, rfl, s', hs'⟩
  have o2 := s'.one
  repeat first | refine R1 ?_ | refine R2 fun _ => ?_
  refine fp (y_call (l71Some_f _ br v' xs' s' hs' 0 (by omega)) (by rfl) ?_)
  rintro _ A2 ⟨g, A', q, ⟨c, rfl, oc, hd⟩, hl, hq, rfl⟩
  repeat first | refine R1 ?_ | refine R2 fun _ => ?_
  refine fp (y_call (pick_f _ br v' xs' s' hs' q 5 (by omega) (by omega) (by omega)) (by rfl) ?_)
  rintro _ A3 ⟨m, rfl, m0, m1, rfl⟩
  repeat first | refine R1 ?_ | refine R2 fun _ => ?_
  exact sf_ret (rt A' (resV_two rfl (yr_cell rfl) (res_tmp rfl)) ⟨_, g, m, rfl, ⟨c, rfl, oc, hd⟩, hl⟩)
instance eqFl_cell_Y6 : EqFl Tryz.prog 46 cellF := eqFl_cell inferInstance (inferInstance : Ty Tryz.prog 3 _ 1 _ _) (by kernel_rfl)
instance eqFl_edit_Y6 : EqFl Tryz.prog 48 editF := eqFl_edit inferInstance (inferInstance : Ty Tryz.prog 3 _ 1 _ _) (inferInstance : Ty Tryz.prog 46 _ 2 _ _) (by kernel_rfl) (by kernel_rfl)
theorem llGrid_v (h : PHeap) (ca cb : List Value) (x y : Grid) (bx : (gridR τ).B h ca x) (by' : (gridR τ).B h cb y) : CallV Tryz.prog M 19 [.agg ca.toArray, .agg cb.toArray] h (.bool (decide (x = y))) := by
  obtain ⟨c1, rfl, s1⟩ := gridB bx
  obtain ⟨c2, rfl, s2⟩ := gridB by'
  have o1 := s1.one
  have o2 := s2.one
  have h1 := s1.small
  have h2 := s2.small
  refine Cs Tryz.func19 Tryz.ntmps19 ?_
  repeat first | refine R1 ?_ | refine R2 fun _ => ?_
  refine f_split (fun e => ?_) fun e => ?_
  · repeat first | refine R1 ?_ | refine R2 fun _ => ?_
    refine sf_T rfl ?_
    repeat first | refine R1 ?_ | refine R2 fun _ => ?_
    exact sf_ret (rV (bF fun z => e (by rw [z])))
  repeat first | refine R1 ?_ | refine R2 fun _ => ?_
  refine sf_if (fun e0 => ?_) fun e0 => ?_
  · repeat first | refine R1 ?_ | refine R2 fun _ => ?_
    exact sf_ret (rV (bF fun z => e0 (by rw [z])))
  have hl : x.cells.length = y.cells.length := by omega
  repeat first | refine R1 ?_ | refine R2 fun _ => ?_
  refine sf_rd [2, 3] 5 x.cells.length 0 (fun k => x.cells.take k = y.cells.take k) (by omega) rfl (fun k hk hi => ?_)
  repeat first | refine R1 ?_ | refine R2 fun _ => ?_
  refine sf_if (fun h4 => ?_) fun h4 => ?_
  · have hk4 : k < x.cells.length := by omega
    have hk5 : k < y.cells.length := by omega
    repeat first | refine R1 ?_ | refine R2 fun _ => ?_
    refine Sd [[],[0],[],[0,1,2],[0,1,2,3],[],[5],[],[5,6,7],[5,6,7,8],[0,1,2,3,4,5,6,7,8,9]] 10 [Nn 0,Nn 1,Nn 2,Nn 3,Nn 4,Nn 5,Nn 6,Nn 7,Nn 8,Nn 9] ?_
    refine Da ?_
    refine Ae ?_
    refine fp (Rq ?_ (q_neqS (E := cellF) (a := gt x.cells k) (b := gt y.cells k) inferInstance (by rfl) (by rfl)))
    repeat first | refine R1 ?_ | refine R2 fun _ => ?_
    refine sf_ifn (fun e1 => ?_) fun e1 => ?_
    · repeat first | refine R1 ?_ | refine R2 fun _ => ?_
      exact sf_ret (rV (bF fun z => eq_at e1 (by rw [z])))
    · repeat first | refine R1 ?_ | refine R2 fun _ => ?_
      exact ⟨⟨hk4, eq_step hk4 hk5 hi e1⟩, rfl, rfl, _, inferInstance⟩
  · refine sf_exit ?_
    repeat first | refine R1 ?_ | refine R2 fun _ => ?_
    have hc := eq_end hl (by omega) hi
    refine sf_ret (rV (bT ?_))
    cases x; cases y; simp_all
theorem llInts_v (h : PHeap) (a b : Value) (xs ys : List Int) (sx : Sl h a intF xs) (sy : Sl h b intF ys) : CallV Tryz.prog M 32 [a, b] h (.bool (decide (xs = ys))) := by
  have o1 := sx.one
  have o2 := sy.one
  have hx := sx.small
  have hy := sy.small
  refine Cs Tryz.func32 Tryz.ntmps32 ?_
  refine Wo ?_
  refine sf_if (fun e0 => ?_) fun e0 => ?_
  · refine Wo ?_
    exact sf_ret (rV (bF fun e => e0 (by rw [e])))
  have hl : xs.length = ys.length := by omega
  refine Wo ?_
  refine sf_rd [0, 1] 5 xs.length 0 (fun k => xs.take k = ys.take k) (by omega) rfl (fun k hk hi => ?_)
  refine Wo ?_
  refine sf_if (fun h4 => ?_) fun h4 => ?_
  · have hk4 : k < xs.length := by omega
    have hk5 : k < ys.length := by omega
    refine Wo ?_
    refine Sd [[],[],[0,1],[0,1,2],[],[],[4,5],[4,5,6],[0,1,2,3,4,5,6,7]] 8 [Nn 0,Nn 1,Nn 2,Nn 3,Nn 4,Nn 5,Nn 6,Nn 7] ?_
    refine Da ?_
    refine Ae ?_
    refine Wo ?_
    refine sf_if (fun e1 => ?_) fun e1 => ?_
    · refine Wo ?_
      exact sf_ret (rV (bF (eq_at e1)))
    · refine Wo ?_
      exact ⟨⟨hk4, eq_step hk4 hk5 hi (by simpa using e1)⟩, rfl, rfl, _, inferInstance⟩
  · refine sf_exit ?_
    refine Wo ?_
    exact sf_ret (rV (bT (eq_end hl (by omega) hi)))
theorem llEdits_s (h : PHeap) (a b : Value) (xs : List Edit) (sx : Sl h a editF xs) (sy : Sl h b editF xs) : CallV Tryz.prog M 33 [a, b] h (.bool true) := by
  have o1 := sx.one
  have o2 := sy.one
  have hx := sx.small
  refine Cs Tryz.func33 Tryz.ntmps33 ?_
  refine Wo ?_
  refine sf_if (fun e0 => absurd rfl e0) fun e0 => ?_
  refine Wo ?_
  refine sf_rd [0, 1] 5 xs.length 0 (fun _ => True) (by omega) trivial (fun k hk _ => ?_)
  refine Wo ?_
  refine sf_if (fun h4 => ?_) fun h4 => ?_
  · have hk4 : k < xs.length := by omega
    refine Wo ?_
    refine Sd [[],[],[0,1],[0,1,2],[],[],[4,5],[4,5,6],[0,1,2,3,4,5,6,7]] 8 [Nn 0,Nn 1,Nn 2,Nn 3,Nn 4,Nn 5,Nn 6,Nn 7] ?_
    refine Da ?_
    refine Ae ?_
    refine fp (Rq ?_ (q_neqS (E := editF) (a := gt xs k) (b := gt xs k) inferInstance (by rfl) (by rfl)))
    refine Wo ?_
    refine sf_ifn (fun e1 => absurd rfl e1) fun e1 => ?_
    refine Wo ?_
    exact ⟨⟨hk4, trivial⟩, rfl, rfl, _, inferInstance⟩
  · refine sf_exit ?_
    refine Wo ?_
    exact sf_ret (rV rfl)
theorem llKeeper_s (h : PHeap) (ca cb : List Value) (x : Keeper) (bx : (keeperR τ).B h ca x) (by' : (keeperR τ).B h cb x) : CallV Tryz.prog M 28 [.agg ca.toArray, .agg cb.toArray] h (.bool true) := by
  obtain ⟨c1, e1, p1, s1, rfl, a1, a2, a3, a4⟩ := keeperB bx
  obtain ⟨c2, e2, p2, s2, rfl, b1, b2, b3, b4⟩ := keeperB by'
  have o1 := a1.one
  have o2 := a2.one
  have o3 := a3.one
  have o4 := a4.one
  have o5 := b1.one
  have o6 := b2.one
  have o7 := b3.one
  have o8 := b4.one
  obtain ⟨rp1, ap, bp1⟩ := a3
  obtain ⟨rp2, bp, bp2⟩ := b3
  obtain ⟨rs1, sa, bs1⟩ := a4
  obtain ⟨rs2, sb, bs2⟩ := b4
  have lp1 := bp1.len
  have lp2 := bp2.len
  have ls1 := bs1.len
  have ls2 := bs2.len
  refine Cs Tryz.func28 Tryz.ntmps28 ?_
  repeat first | refine R1 ?_ | refine R2 fun _ => ?_
  refine Xv (llGrid_v _ _ _ x.first x.first (gridB_mk a1) (gridB_mk b1)) ?_
  simp only [decide_true]
  repeat first | refine R1 ?_ | refine R2 fun _ => ?_
  refine Xv (llEdits_s _ _ _ _ a2 b2) ?_
  repeat first | refine R1 ?_ | refine R2 fun _ => ?_
  have q1 : ¬ ((rp1.length : Int) ≠ (rp2.length : Int)) := by omega
  repeat first | refine R1 ?_ | refine R2 fun _ => ?_
  have q2 : ¬ ((rs1.length : Int) ≠ (rs2.length : Int)) := by omega
  repeat first | refine R1 ?_ | refine R2 fun _ => ?_
  refine sf_if (fun e => ?_) fun e => ?_
  · omega
  have hsp := ap.small
  have hsq := bp.small
  repeat first | refine R1 ?_ | refine R2 fun _ => ?_
  refine sf_rd [2, 3] 5 x.parts.length 0 (fun _ => True) (by omega) trivial (fun k hk _ => ?_)
  repeat first | refine R1 ?_ | refine R2 fun _ => ?_
  refine sf_if (fun h4 => ?_) fun h4 => ?_
  · have hk4 : k < x.parts.length := by omega
    have hk5 : k < rp1.length := by omega
    have hk6 : k < rp2.length := by omega
    obtain ⟨l1, ex1, sl1⟩ := partB (bp1.at hk4)
    obtain ⟨l2, ex2, sl2⟩ := partB (bp2.at hk4)
    have ol1 := sl1.one
    have ol2 := sl2.one
    haveI : FlatV (rawF (partR τ).sz) (gt rp1 k) [.bool (gt x.parts k).has, .int .i64 (gt x.parts k).ver, l1] := ⟨ex1⟩
    haveI : FlatV (rawF (partR τ).sz) (gt rp2 k) [.bool (gt x.parts k).has, .int .i64 (gt x.parts k).ver, l2] := ⟨ex2⟩
    have q3 : (!decide ((gt x.parts k).has = (gt x.parts k).has)) = false := by simp
    have q4 : ¬ ((gt x.parts k).ver ≠ (gt x.parts k).ver) := by simp
    repeat first | refine R1 ?_ | refine R2 fun _ => ?_
    refine Sd [[],[0],[],[0,1,2],[0,1,2,3],[0,1,2,3,4],[],[6],[],[6,7,8],[6,7,8,9],[6,7,8,9,10],[0,1,2,3,4,5,6,7,8,9,10,11],[0,1,2,3,4,5,6,7,8,9,10,11,12],[0,1,2,3,4,5,6,7,8,9,10,11,12,13],[0,1,2,3,4,5,6,7,8,9,10,11,12,13,14],[0,1,2,3,4,5,6,7,8,9,10,11,12,13],[0,1,2,3,4,5,6,7,8,9,10,11,12,13,14,15,16],[0,1,2,3,4,5,6,7,8,9,10,11,12,13,14,15,16,17],[0,1,2,3,4,5,6,7,8,9,10,11,12,13,14,15,16,17,18],[0,1,2,3,4,5,6,7,8,9,10,11,12,13],[0,1,2,3,4,5,6,7,8,9,10,11,12,13,20],[0,1,2,3,4,5,6,7,8,9,10,11,12,13],[0,1,2,3,4,5,6,7,8,9,10,11,12,13,20,21,22],[0,1,2,3,4,5,6,7,8,9,10,11,12,13,20,21,22,23],[0,1,2,3,4,5,6,7,8,9,10,11,12,13,20,21,22,23,24],[0,1,2,3,4,5,6,7,8,9,10,11,12,13,14,15,16,17,18,19,20,21,22,23,24,25],[0,1,2,3,4,5,6,7,8,9,10,11,12,13,14,15,16,17,18,19,20,21,22,23,24,25,26],[0,1,2,3,4,5,6,7,8,9,10,11,12,13,14,15,16,17,18,19,20,21,22,23,24,25,26,27],[0,1,2,3,4,5,6,7,8,9,10,11,12,13,14,15,16,17,18,19,20,21,22,23,24,25,26,27,28],[0,1,2,3,4,5,6,7,8,9,10,11,12,13,14,15,16,17,18,19,20,21,22,23,24,25,26,27,28,29],[0,1,2,3,4,5,6,7,8,9,10,11,12,13,14,15,16,17,18,19,20,21,22,23,24,25,26,27,28],[0,1,2,3,4,5,6,7,8,9,10,11,12,13,14,15,16,17,18,19,20,21,22,23,24,25,26,27,28,29,30,31],[0,1,2,3,4,5,6,7,8,9,10,11,12,13,14,15,16,17,18,19,20,21,22,23,24,25,26,27,28,29,30,31,32],[0,1,2,3,4,5,6,7,8,9,10,11,12,13,14,15,16,17,18,19,20,21,22,23,24,25,26,27,28,29,30,31,32,33],[0,1,2,3,4,5,6,7,8,9,10,11,12,13,14,15,16,17,18,19,20,21,22,23,24,25,26,27,28],[0,1,2,3,4,5,6,7,8,9,10,11,12,13,14,15,16,17,18,19,20,21,22,23,24,25,26,27,28,35],[0,1,2,3,4,5,6,7,8,9,10,11,12,13,14,15,16,17,18,19,20,21,22,23,24,25,26,27,28],[0,1,2,3,4,5,6,7,8,9,10,11,12,13,14,15,16,17,18,19,20,21,22,23,24,25,26,27,28,35,36,37],[0,1,2,3,4,5,6,7,8,9,10,11,12,13,14,15,16,17,18,19,20,21,22,23,24,25,26,27,28,35,36,37,38],[0,1,2,3,4,5,6,7,8,9,10,11,12,13,14,15,16,17,18,19,20,21,22,23,24,25,26,27,28,35,36,37,38,39],[0,1,2,3,4,5,6,7,8,9,10,11,12,13,14,15,16,17,18,19,20,21,22,23,24,25,26,27,28,29,30,31,32,33,34,35,36,37,38,39,40],[0,1,2,3,4,5,6,7,8,9,10,11,12,13,14,15,16,17,18,19,20,21,22,23,24,25,26,27,28,29,30,31,32,33,34,35,36,37,38,39,40,41],[0,1,2,3,4,5,6,7,8,9,10,11,12,13,14,15,16,17,18,19,20,21,22,23,24,25,26,27,28,29,30,31,32,33,34,35,36,37,38,39,40,41,42]] 41 [Nn 0,Nn 1,Nn 2,Nn 3,Nn 4,Nn 5,Nn 6,Nn 7,Nn 8,Nn 9,Nn 10,Nn 11,Nn 12,Nn 13,Nn 14,Nn 15,Nn 16,Nn 17,Nn 18,Nn 19,Nn 20,Nn 21,Nn 22,Nn 23,Nn 24,Nn 25,Nn 26,Nn 27,Nn 28,Nn 29,Nn 30,Nn 31,Nn 32,Nn 33,Nn 34,Nn 35,Nn 36,Nn 37,Nn 38,Nn 39,Nn 40] ?_
    refine Da ?_
    refine Ae ?_
    refine Xv (llInts_v _ _ _ _ _ sl1 sl2) ?_
    rw [decide_eq_true rfl]
    repeat first | refine R1 ?_ | refine R2 fun _ => ?_
    refine sf_cond (by rfl) (fun e => by cases e) fun z1 => ?_
    clear z1
    repeat first | refine R1 ?_ | refine R2 fun _ => ?_
    exact ⟨⟨hk4, trivial⟩, rfl, rfl, _, inferInstance⟩
  · refine sf_exit ?_
    repeat first | refine R1 ?_ | refine R2 fun _ => ?_
    have hss := sa.small
    refine sf_rd [2, 3] 6 x.shown.length 0 (fun _ => True) (by omega) trivial (fun k hk _ => ?_)
    repeat first | refine R1 ?_ | refine R2 fun _ => ?_
    refine sf_if (fun h5 => ?_) fun h5 => ?_
    · have hk4 : k < x.shown.length := by omega
      have hk5 : k < rs1.length := by omega
      have hk6 : k < rs2.length := by omega
      obtain ⟨l1, ex1, sl1⟩ := shownB (bs1.at hk4)
      obtain ⟨l2, ex2, sl2⟩ := shownB (bs2.at hk4)
      have ol1 := sl1.one
      have ol2 := sl2.one
      haveI : FlatV (rawF (shownR τ).sz) (gt rs1 k) [.int .i64 (gt x.shown k).ver, l1] := ⟨ex1⟩
      haveI : FlatV (rawF (shownR τ).sz) (gt rs2 k) [.int .i64 (gt x.shown k).ver, l2] := ⟨ex2⟩
      have q4 : ¬ ((gt x.shown k).ver ≠ (gt x.shown k).ver) := by simp
      repeat first | refine R1 ?_ | refine R2 fun _ => ?_
      refine Sd [[],[0],[],[0,1,2],[0,1,2,3],[0,1,2,3,4],[],[6],[],[6,7,8],[6,7,8,9],[6,7,8,9,10],[0,1,2,3,4,5,6,7,8,9,10,11],[0,1,2,3,4,5,6,7,8,9,10,11,12],[0,1,2,3,4,5,6,7,8,9,10,11,12,13],[0,1,2,3,4,5,6,7,8,9,10,11,12,13,14],[0,1,2,3,4,5,6,7,8,9,10,11,12,13],[0,1,2,3,4,5,6,7,8,9,10,11,12,13,14,15,16],[0,1,2,3,4,5,6,7,8,9,10,11,12,13,14,15,16,17],[0,1,2,3,4,5,6,7,8,9,10,11,12,13,14,15,16,17,18],[0,1,2,3,4,5,6,7,8,9,10,11,12,13],[0,1,2,3,4,5,6,7,8,9,10,11,12,13,20],[0,1,2,3,4,5,6,7,8,9,10,11,12,13],[0,1,2,3,4,5,6,7,8,9,10,11,12,13,20,21,22],[0,1,2,3,4,5,6,7,8,9,10,11,12,13,20,21,22,23],[0,1,2,3,4,5,6,7,8,9,10,11,12,13,20,21,22,23,24],[0,1,2,3,4,5,6,7,8,9,10,11,12,13,14,15,16,17,18,19,20,21,22,23,24,25],[0,1,2,3,4,5,6,7,8,9,10,11,12,13,14,15,16,17,18,19,20,21,22,23,24,25,26],[0,1,2,3,4,5,6,7,8,9,10,11,12,13,14,15,16,17,18,19,20,21,22,23,24,25,26,27]] 26 [Nn 0,Nn 1,Nn 2,Nn 3,Nn 4,Nn 5,Nn 6,Nn 7,Nn 8,Nn 9,Nn 10,Nn 11,Nn 12,Nn 13,Nn 14,Nn 15,Nn 16,Nn 17,Nn 18,Nn 19,Nn 20,Nn 21,Nn 22,Nn 23,Nn 24,Nn 25] ?_
      refine Da ?_
      refine Ae ?_
      refine Xv (llInts_v _ _ _ _ _ sl1 sl2) ?_
      rw [decide_eq_true rfl]
      repeat first | refine R1 ?_ | refine R2 fun _ => ?_
      refine sf_cond (by rfl) (fun e => by cases e) fun z1 => ?_
      clear z1
      repeat first | refine R1 ?_ | refine R2 fun _ => ?_
      exact ⟨⟨hk4, trivial⟩, rfl, rfl, _, inferInstance⟩
    · refine sf_exit ?_
      repeat first | refine R1 ?_ | refine R2 fun _ => ?_
      exact sf_ret (rV rfl)
theorem llRows_v (h : PHeap) (a b : Value) (xs ys : List (List Int)) (sx : SlR (intSR τ) h a xs) (sy : SlR (intSR τ) h b ys) : CallV Tryz.prog M 77 [a, b] h (.bool (decide (xs = ys))) := by
  have o1 := sx.one
  have o2 := sy.one
  obtain ⟨rx, sx, bx⟩ := sx
  obtain ⟨ry, sy, by'⟩ := sy
  have lx := bx.len
  have ly := by'.len
  have hx := sx.small
  have hy := sy.small
  refine Cs Tryz.func77 Tryz.ntmps77 ?_
  refine Wo ?_
  refine sf_if (fun e0 => ?_) fun e0 => ?_
  · refine Wo ?_
    exact sf_ret (rV (bF fun e => e0 (by rw [lx, ly, e])))
  have hl : xs.length = ys.length := by omega
  refine Wo ?_
  refine sf_rd [0, 1] 5 xs.length 0 (fun k => xs.take k = ys.take k) (by omega) rfl (fun k hk hi => ?_)
  refine Wo ?_
  refine sf_if (fun h4 => ?_) fun h4 => ?_
  · have hk4 : k < xs.length := by omega
    have hk5 : k < ys.length := by omega
    have bx4 := bx.at hk4
    have by4 := by'.at hk5
    have hk6 : k < rx.length := by omega
    have hk7 : k < ry.length := by omega
    obtain ⟨vx, ex, sx4⟩ := bx4
    obtain ⟨vy, ey, sy4⟩ := by4
    haveI : FlatV (rawF (intSR τ).sz) (gt rx k) [vx] := ⟨ex⟩
    haveI : FlatV (rawF (intSR τ).sz) (gt ry k) [vy] := ⟨ey⟩
    have o3 := sx4.one
    have o4 := sy4.one
    refine Wo ?_
    refine Sd [[],[],[0,1],[0,1,2],[],[],[4,5],[4,5,6],[0,1,2,3,4,5,6,7],[0,1,2,3,4,5,6,7,8]] 8 [Nn 0,Nn 1,Nn 2,Nn 3,Nn 4,Nn 5,Nn 6,Nn 7] ?_
    refine Da ?_
    refine Ae ?_
    refine Xv (llInts_v _ _ _ _ _ sx4 sy4) ?_
    refine Wo ?_
    refine sf_ifn (fun e1 => ?_) fun e1 => ?_
    · refine Wo ?_
      exact sf_ret (rV (bF (eq_at e1)))
    · refine Wo ?_
      exact ⟨⟨hk4, eq_step hk4 hk5 hi (by exact e1)⟩, rfl, rfl, _, inferInstance⟩
  · refine sf_exit ?_
    refine Wo ?_
    exact sf_ret (rV (bT (eq_end hl (by omega) hi)))
theorem llScene_v (h : PHeap) (ca cb : List Value) (x y : Scene) (bx : (sceneR τ).B h ca x) (by' : (sceneR τ).B h cb y) : CallV Tryz.prog M 38 [.agg ca.toArray, .agg cb.toArray] h (.bool (decide (x = y))) := by
  obtain ⟨c1, l1, f1, rfl, s1, t1, u1⟩ := sceneB bx
  obtain ⟨c2, l2, f2, rfl, s2, t2, u2⟩ := sceneB by'
  have o1 := s1.one
  have o2 := s2.one
  have o3 := t1.one
  have o4 := t2.one
  have o5 := u1.one
  have o6 := u2.one
  refine Cs Tryz.func38 Tryz.ntmps38 ?_
  repeat first | refine R1 ?_ | refine R2 fun _ => ?_
  refine Xv (llGrid_v _ _ _ x.grid y.grid (gridB_mk s1) (gridB_mk s2)) ?_
  repeat first | refine R1 ?_ | refine R2 fun _ => ?_
  refine f_split (fun e1 => ?_) fun e1 => ?_
  · repeat first | refine R1 ?_ | refine R2 fun _ => ?_
    refine Xv (llInts_v _ _ _ _ _ t1 t2) ?_
    repeat first | refine R1 ?_ | refine R2 fun _ => ?_
    refine f_split (fun e2 => ?_) fun e2 => ?_
    · repeat first | refine R1 ?_ | refine R2 fun _ => ?_
      refine Xv (llRows_v _ _ _ _ _ u1 u2) ?_
      repeat first | refine R1 ?_ | refine R2 fun _ => ?_
      refine sf_ret (rV ?_)
      congr 1
      cases x; cases y; simp_all
    · repeat first | refine R1 ?_ | refine R2 fun _ => ?_
      refine sf_ret (rV ?_)
      congr 1
      cases x; cases y; simp_all
  · repeat first | refine R1 ?_ | refine R2 fun _ => ?_
    refine sf_ret (rV ?_)
    congr 1
    cases x; cases y; simp_all
theorem llPainter_v (h : PHeap) (ca cb : List Value) (x y : Painter) (bx : (painterR τ).B h ca x) (by' : (painterR τ).B h cb y) : CallV Tryz.prog M 81 [.agg ca.toArray, .agg cb.toArray] h (.bool (decide (x = y))) := by
  obtain ⟨c1, l1, f1, rfl, s1, t1, u1⟩ := painterB bx
  obtain ⟨c2, l2, f2, rfl, s2, t2, u2⟩ := painterB by'
  have o1 := s1.one
  have o2 := s2.one
  have o3 := t1.one
  have o4 := t2.one
  have o5 := u1.one
  have o6 := u2.one
  refine Cs Tryz.func81 Tryz.ntmps81 ?_
  repeat first | refine R1 ?_ | refine R2 fun _ => ?_
  refine f_split (fun e0 => ?_) fun e0 => ?_
  · repeat first | refine R1 ?_ | refine R2 fun _ => ?_
    refine f_split (fun e1 => ?_) fun e1 => ?_
    · repeat first | refine R1 ?_ | refine R2 fun _ => ?_
      refine f_split (fun e2 => ?_) fun e2 => ?_
      · repeat first | refine R1 ?_ | refine R2 fun _ => ?_
        refine Xv (llScene_v _ _ _ x.scene y.scene (sceneB_mk (s := x.scene) s1 t1 u1) (sceneB_mk (s := y.scene) s2 t2 u2)) ?_
        repeat first | refine R1 ?_ | refine R2 fun _ => ?_
        refine sf_ret (rV ?_)
        congr 1
        cases x; cases y; simp_all
      · repeat first | refine R1 ?_ | refine R2 fun _ => ?_
        refine sf_ret (rV ?_)
        congr 1
        cases x; cases y; simp_all
    · repeat first | refine R1 ?_ | refine R2 fun _ => ?_
      refine sf_ret (rV ?_)
      congr 1
      cases x; cases y; simp_all
  · repeat first | refine R1 ?_ | refine R2 fun _ => ?_
    refine sf_ret (rV ?_)
    congr 1
    cases x; cases y; simp_all
theorem llWordP_s (h : PHeap) (ca cb : List Value) (w : Word) (bx : (wordR τ).B h ca w) (by' : (wordR τ).B h cb w) : CallV Tryz.prog M 24 [.agg ca.toArray, .agg cb.toArray] h (.bool true) := by
  obtain ⟨c1, l1, rfl, s1, t1⟩ := wordB bx
  have o1 := s1.one
  have p1 := t1.one
  obtain ⟨c2, l2, rfl, s2, t2⟩ := wordB by'
  have o2 := s2.one
  have p2 := t2.one
  refine Cs Tryz.func24 Tryz.ntmps24 ?_
  repeat first | refine R1 ?_ | refine R2 fun _ => ?_
  rw [decide_eq_true (rfl : w.kind = w.kind)]
  repeat first | refine R1 ?_ | refine R2 fun _ => ?_
  rw [decide_eq_true (rfl : w.to = w.to)]
  repeat first | refine R1 ?_ | refine R2 fun _ => ?_
  rw [decide_eq_true (rfl : w.frm = w.frm)]
  repeat first | refine R1 ?_ | refine R2 fun _ => ?_
  rw [decide_eq_true (rfl : w.ver = w.ver)]
  repeat first | refine R1 ?_ | refine R2 fun _ => ?_
  refine Xv (llGrid_v _ _ _ w.grid w.grid (gridB_mk s1) (gridB_mk s2)) ?_
  rw [decide_eq_true (rfl : w.grid = w.grid)]
  repeat first | refine R1 ?_ | refine R2 fun _ => ?_
  refine fp (Rq ?_ (q_eqS (E := editF) (a := w.edit) (b := w.edit) inferInstance (by rfl) (by rfl)))
  rw [decide_eq_true (rfl : w.edit = w.edit)]
  repeat first | refine R1 ?_ | refine R2 fun _ => ?_
  refine Xv (llInts_v _ _ _ w.lights w.lights t1 t2) ?_
  rw [decide_eq_true (rfl : w.lights = w.lights)]
  repeat first | refine R1 ?_ | refine R2 fun _ => ?_
  exact sf_ret (rV rfl)
end Go.Proofs.YtcpkcmgjfcbnpaaGreatDoor
namespace Go.Proofs.YtcpkcmgjfcbnpaaGreatDoor
open Go Go.Sl Go.Sort
set_option maxRecDepth 100000
set_option maxHeartbeats 4000000
attribute [local irreducible] Go.Code.sf sfOps Opq opo retF Do1 anyO
variable {M : Jdg → Prop} [IsCl Tryz.prog M]
theorem isNaN_v (h : PHeap) (x : Int) : CallV Tryz.prog M 223 [.int .i64 x] h (.bool false) := by
  refine Cs Tryz.func223 Tryz.ntmps223 ?_
  refine Wo ?_
  refine sf_ret (rV ?_)
  simp
theorem less_v (h : PHeap) (x y : Int) : CallV Tryz.prog M 210 [.int .i64 x, .int .i64 y] h (.bool (decide (x < y))) := by
  refine Cs Tryz.func210 Tryz.ntmps210 ?_
  refine Wo ?_
  refine Xv (isNaN_v _ _) ?_
  refine Wo ?_
  exact sf_ret (rV rfl)
theorem insertionSort_f (h : PHeap) (v : Value) (A : Own) (d : Array Int) (g : Gr A v 3 intF d.toList) (a b : Nat) (hb : b ≤ d.size) (hs : d.size ≤ 1000000) (ha : a ≤ b) :
    CallF Tryz.prog M 204 [v, .int .i64 (a : Int), .int .i64 (b : Int)] A h fun u A' => u = .tuple #[] ∧ Gr A' v 3 intF (insertionSort ltInt d a b).toList := by
  have o := g.one
  refine Cs Tryz.func204 Tryz.ntmps204 ?_
  refine Wo ?_
  refine sf_lp (ι := Nat × Array Int) [0, 1, 2] (fun x => [(6, .int .i64 (x.1 : Int))]) (fun x O => Gr O v 3 intF x.2.toList ∧ x.2.size = d.size ∧ a + 1 ≤ x.1 ∧ insOuter ltInt a b x.1 x.2 = insertionSort ltInt d a b) (fun x => b - x.1) (a + 1, d) A ⟨g, rfl, by simp only; omega, rfl⟩ ?_
  rintro ⟨i, e⟩ O ⟨ge, hsz, hi, hinv⟩
  simp only at ge hsz hi hinv ⊢
  refine Wo ?_
  refine sf_if (fun h1 => ?_) fun h1 => ?_
  · refine Wo ?_
    refine sf_lp (ι := Nat × Array Int) [0, 1, 2, 6] (fun x => [(7, .int .i64 (x.1 : Int))]) (fun x O => Gr O v 3 intF x.2.toList ∧ x.2.size = d.size ∧ x.1 < b ∧ insInner ltInt a x.1 x.2 = insInner ltInt a i e) (fun x => x.1) (i, e) O ⟨ge, hsz, by simp only; omega, rfl⟩ ?_
    rintro ⟨j, f⟩ O ⟨gf, fsz, hj, finv⟩
    simp only at gf fsz hj finv ⊢
    clear ge
    by_cases h2 : a < j
    · obtain ⟨j, rfl⟩ : ∃ j', j = j' + 1 := ⟨j - 1, by omega⟩
      have h3 : (a : Int) < ((j + 1 : Nat) : Int) := by omega
      have lf : f.toList.length = f.size := by simp
      have q1 : gt f.toList ((j + 1 : Nat) : Int).toNat = f[j + 1]! := gt_arr' (by omega) (by omega)
      have q2 : gt f.toList (((j + 1 : Nat) : Int) - 1).toNat = f[j]! := gt_arr' (by omega) (by omega)
      refine Wo ?_
      refine Sd [[],[],[0,1],[0,1,2],[0,1,2,3],[0,1,2,3],[0,1,2,3,4,5],[0,1,2,3,4,5,6],[0,1,2,3],[0,1,2,3],[0,1,2,3,9],[0,1,2,3,8,9,10],[0,1,2,3,8,9,10,11],[0,1,2,3,4,5,6,7,8,9,10,11,12],[0,1,2,3,4,5,6,7,8,9,10,11,12,13]] 13 [Nn 0,Nn 1,Nn 2,Nn 3,Nn 4,Nn 5,Nn 6,Nn 7,Nn 8,Nn 9,Nn 10,Nn 11,Nn 12] ?_
      refine Di ?_
      refine Ae ?_
      refine Xv (less_v _ _ _) ?_
      refine Wo ?_
      refine sf_if (fun h4 => ?_) fun h4 => ?_
      · refine Wo ?_
        refine sf_draw (by kernel_rfl) (regX_own (O) (regX_split 9 13 (by rfl) ?_ ?_))
        case' refine_1 =>
          refine Sw [[],[],[],[],[3],[],[],[6],[5,6,7],[5,6,7,8],[],[],[10,11],[5,6,7,8,9,10,11,12],[0,1,5,6,7,8,9,10,11,12,13],[0,1,5,6,7,8,9,10,11,12,13,14],[0,1,2,3,4,5,6,7,8,9,10,11,12,13,14,15],[0,1,2,3,4,5,6,7,8,9,10,11,12,13,14,15,16]] 16 [Nn 0,Nn 1,Nn 2,Nn 3,Nn 4,Nn 5,Nn 6,Nn 7,Nn 8,Nn 10,Nn 11,Nn 12,Yy 9,Yy 13,Nn 14,Yy 15] ?_
          refine Di ?_
          refine Yw (by rfl) (z_loadG (by rfl) gf (by omega) (by rfl)) ?_
          refine Di ?_
          refine Yw (by rfl) (z_loadG (by rfl) gf (by omega) (by rfl)) ?_
          refine Di ?_
          refine Yg gf fun As ys hy hl fs gg => ?_
          refine Di ?_
          refine Ae ?_
        case' refine_2 =>
          refine Sw [[],[],[],[],[3],[],[],[6],[5,6,7],[5,6,7,8,10,11,12,13],[],[],[10,11],[10,11,12],[0,1,5,6,7,8,9,10,11,12,13],[0,1,5,6,7,8,9,10,11,12,13,14],[0,1,2,3,4,5,6,7,8,9,10,11,12,13,14,15],[0,1,2,3,4,5,6,7,8,9,10,11,12,13,14,15,16]] 16 [Nn 0,Nn 1,Nn 2,Nn 3,Nn 4,Nn 5,Nn 6,Nn 7,Nn 8,Nn 10,Nn 11,Nn 12,Yy 13,Yy 9,Nn 14,Yy 15] ?_
          refine Di ?_
          refine Yw (by rfl) (z_loadG (by rfl) gf (by omega) (by rfl)) ?_
          refine Di ?_
          refine Yw (by rfl) (z_loadG (by rfl) gf (by omega) (by rfl)) ?_
          refine Di ?_
          refine Yg gf fun As ys hy hl fs gg => ?_
          refine Di ?_
          refine Ae ?_
        all_goals
          refine Wi ?_
          refine Xg gg fun At zs hz hlz fz gz => ?_
          refine Wi ?_
          have hf : zs = (swp f (j + 1) j).toList := swp_is hy hz (by omega) (by omega) (by omega) (by omega) (by omega) (by omega)
          rw [hf] at gz
          exact ⟨(j, swp f (j + 1) j), by simp only; omega, ⟨vI (by omega), trivial⟩, rfl, _, _, inferInstance, gz, by simp only [swp_size]; exact fsz, by simp only; omega, by simp only; rw [← finv, insInner_go h2 (by rw [← q1, ← q2]; exact h4)]⟩
      · refine sf_exit ?_
        refine Wo ?_
        exact ⟨(i + 1, f), by simp only; omega, ⟨rfl, trivial⟩, rfl, _, _, inferInstance, gf, fsz, by simp only; omega, by simp only; rw [← hinv, insOuter_go (i := i) (d := e) (by omega), ← finv, insInner_stop (by rw [← q1, ← q2]; exact h4)]⟩
    · have h3 : ¬ (a : Int) < (j : Int) := by omega
      refine Wo ?_
      refine Sd [[],[],[0,1],[0,1,2],[0,1,2,3],[0,1,2,3],[0,1,2,3,4,5],[0,1,2,3,4,5,6],[0,1,2,3],[0,1,2,3],[0,1,2,3,9],[0,1,2,3,8,9,10],[0,1,2,3,8,9,10,11],[0,1,2,3,4,5,6,7,8,9,10,11,12],[0,1,2,3,4,5,6,7,8,9,10,11,12,13]] 13 [Nn 0,Nn 1,Nn 2,Nn 3,Nn 4,Nn 5,Nn 6,Nn 7,Nn 8,Nn 9,Nn 10,Nn 11,Nn 12] ?_
      refine Di ?_
      refine Ae ?_
      refine Wo ?_
      refine sf_cond (by rfl) (fun e => by cases e) fun z1 => ?_
      clear z1
      refine sf_exit ?_
      refine Wo ?_
      exact ⟨(i + 1, f), by simp only; omega, ⟨rfl, trivial⟩, rfl, _, _, inferInstance, gf, fsz, by simp only; omega, by simp only; rw [← hinv, insOuter_go (i := i) (d := e) (by omega), ← finv, insInner_no h2]⟩
  · refine sf_exit ?_
    refine Wo ?_
    refine nO O ⟨rfl, ?_⟩
    rw [← hinv, insOuter_end (by omega)]
    exact ge
theorem siftDown_f (h : PHeap) (v : Value) (A : Own) (d : Array Int) (g : Gr A v 3 intF d.toList) (lo hi first : Nat) (hb : first + hi ≤ d.size) (hs : d.size ≤ 1000000) (hl : lo ≤ 1000000) :
    CallF Tryz.prog M 218 [v, .int .i64 (lo : Int), .int .i64 (hi : Int), .int .i64 (first : Int)] A h fun u A' => u = .tuple #[] ∧ Gr A' v 3 intF (siftDown ltInt hi first lo d).toList := by
  have o := g.one
  refine Cs Tryz.func218 Tryz.ntmps218 ?_
  refine Wo ?_
  refine sf_lp (ι := Nat × Array Int) [0, 2, 3] (fun x => [(8, .int .i64 (x.1 : Int))]) (fun x O => Gr O v 3 intF x.2.toList ∧ x.2.size = d.size ∧ x.1 ≤ 1000000 ∧ siftDown ltInt hi first x.1 x.2 = siftDown ltInt hi first lo d) (fun x => hi - x.1) (lo, d) A ⟨g, rfl, hl, rfl⟩ ?_
  rintro ⟨r, f⟩ O ⟨gf, fsz, hr, finv⟩
  simp only at gf fsz hr finv ⊢
  have lf : f.toList.length = f.size := by simp
  refine Wo ?_
  refine sf_if (fun h1 => ?_) fun h1 => ?_
  · refine sf_exit ?_
    refine Wo ?_
    refine nO O ⟨rfl, ?_⟩
    rw [← finv, siftDown, dif_pos (by omega)]
    exact gf
  refine Wo ?_
  have q1 : 2 * r + 1 < hi := by omega
  have w1 : gt f.toList ((first : Int) + (2 * (r : Int) + 1)).toNat = f[first + (2 * r + 1)]! := gt_arr' (by omega) (by omega)
  obtain ⟨c, hc⟩ := child_is hi first r f
  have cb : c < hi := by rcases hc with ⟨⟨_, _⟩, rfl⟩ | ⟨_, rfl⟩ <;> omega
  have cr : r < c := by rcases hc with ⟨⟨_, _⟩, rfl⟩ | ⟨_, rfl⟩ <;> omega
  have hstep := siftDown_step q1 hc
  apply viaT
  · intro tail
    by_cases hA : 2 * (r : Int) + 1 + 1 < (hi : Int)
    · have w2 : gt f.toList ((first : Int) + (2 * (r : Int) + 1) + 1).toNat = f[first + (2 * r + 2)]! := gt_arr' (by omega) (by omega)
      refine Sd [[],[0],[],[0,1,2],[0,1,2,3],[0,1,2,3,4],[0,1,2,3,4],[0,1,2,3,4],[0,1,2,3,4,6,7],[0,1,2,3,4,5,6,7,8],[0,1,2,3,4,5,6,7,8,9],[0,1,2,3,4],[0,1,2,3,4],[0,1,2,3,4],[0,1,2,3,4,12,13],[0,1,2,3,4,12,13,14],[0,1,2,3,4,11,12,13,14,15],[0,1,2,3,4,11,12,13,14,15,16],[0,1,2,3,4,5,6,7,8,9,10,11,12,13,14,15,16,17],[0,1,2,3,4,5,6,7,8,9,10,11,12,13,14,15,16,17,18]] 18 [Nn 0,Nn 1,Nn 2,Nn 3,Nn 4,Nn 5,Nn 6,Nn 7,Nn 8,Nn 9,Nn 10,Nn 11,Nn 12,Nn 13,Nn 14,Nn 15,Nn 16,Nn 17] ?_
      refine Di ?_
      refine Ae ?_
      refine Xv (less_v _ _ _) ?_
      refine Wo ?_
      rw [w1, w2]
      rcases hc with ⟨⟨_, hB⟩, hc⟩ | ⟨hB, hc⟩
      · refine sf_T (decide_eq_true hB) ?_
        refine Wo ?_
        rw [show 2 * (r : Int) + 1 + 1 = (c : Int) by omega]
        refine sf_keep [0, 2, 3, 8, 9] ?_
        exact tail.out
      · refine sf_N (decide_eq_false fun h => hB ⟨by omega, h⟩) ?_
        refine Wo ?_
        rw [show 2 * (r : Int) + 1 = (c : Int) by omega]
        refine sf_keep [0, 2, 3, 8, 9] ?_
        exact tail.out
    · refine Sd [[],[0],[],[0,1,2],[0,1,2,3],[0,1,2,3,4],[0,1,2,3,4],[0,1,2,3,4],[0,1,2,3,4,6,7],[0,1,2,3,4,5,6,7,8],[0,1,2,3,4,5,6,7,8,9],[0,1,2,3,4],[0,1,2,3,4],[0,1,2,3,4],[0,1,2,3,4,12,13],[0,1,2,3,4,12,13,14],[0,1,2,3,4,11,12,13,14,15],[0,1,2,3,4,11,12,13,14,15,16],[0,1,2,3,4,5,6,7,8,9,10,11,12,13,14,15,16,17],[0,1,2,3,4,5,6,7,8,9,10,11,12,13,14,15,16,17,18]] 18 [Nn 0,Nn 1,Nn 2,Nn 3,Nn 4,Nn 5,Nn 6,Nn 7,Nn 8,Nn 9,Nn 10,Nn 11,Nn 12,Nn 13,Nn 14,Nn 15,Nn 16,Nn 17] ?_
      refine Di ?_
      refine Ae ?_
      refine Wo ?_
      refine sf_cond (by rfl) (fun e => by cases e) fun z1 => ?_
      clear z1
      refine Wo ?_
      rw [show 2 * (r : Int) + 1 = (c : Int) by rcases hc with ⟨⟨_, _⟩, rfl⟩ | ⟨_, rfl⟩ <;> omega]
      refine sf_keep [0, 2, 3, 8, 9] ?_
      exact tail.out
  refine Wo ?_
  have v1 : gt f.toList (first + r) = f[first + r]! := gt_arr (by omega)
  have v2 : gt f.toList (first + c) = f[first + c]! := gt_arr (by omega)
  refine Sd [[],[],[],[1,2],[0,1,2,3],[0,1,2,3,4],[],[],[],[7,8],[6,7,8,9],[6,7,8,9,10],[0,1,2,3,4,5,6,7,8,9,10,11],[0,1,2,3,4,5,6,7,8,9,10,11,12]] 12 [Nn 0,Nn 1,Nn 2,Nn 3,Nn 4,Nn 5,Nn 6,Nn 7,Nn 8,Nn 9,Nn 10,Nn 11] ?_
  refine Di ?_
  refine Ae ?_
  refine Xv (less_v _ _ _) ?_
  refine Wo ?_
  rw [v1, v2]
  refine sf_ifn (fun h4 => ?_) fun h4 => ?_
  · refine Wo ?_
    refine sf_ret (rO O ⟨rfl, ?_⟩)
    rw [← finv, hstep, if_neg h4]
    exact gf
  rw [if_pos h4] at hstep
  refine Wo ?_
  refine sf_draw (by kernel_rfl) (regX_own (O) (regX_split 13 19 (by rfl) ?_ ?_))
  case' refine_1 =>
    refine Sw [[],[],[],[1,2],[],[],[],[5,6],[],[],[],[9,10],[8,9,10,11],[8,9,10,11,12],[],[],[],[15,16],[14,15,16,17],[8,9,10,11,12,13,14,15,16,17,18],[0,1,2,3,8,9,10,11,12,13,14,15,16,17,18,19],[0,1,2,3,8,9,10,11,12,13,14,15,16,17,18,19,20],[0,1,2,3,4,5,6,7,8,9,10,11,12,13,14,15,16,17,18,19,20,21],[0,1,2,3,4,5,6,7,8,9,10,11,12,13,14,15,16,17,18,19,20,21,22]] 22 [Nn 0,Nn 1,Nn 2,Nn 3,Nn 4,Nn 5,Nn 6,Nn 7,Nn 8,Nn 9,Nn 10,Nn 11,Nn 12,Nn 14,Nn 15,Nn 16,Nn 17,Nn 18,Yy 13,Yy 19,Nn 20,Yy 21] ?_
    refine Di ?_
    refine Yw (by rfl) (z_loadG (by rfl) gf (by omega) (by rfl)) ?_
    refine Di ?_
    refine Yw (by rfl) (z_loadG (by rfl) gf (by omega) (by rfl)) ?_
    refine Di ?_
    refine Yg gf fun As ys hy hl fs gg => ?_
    refine Di ?_
    refine Ae ?_
  case' refine_2 =>
    refine Sw [[],[],[],[1,2],[],[],[],[5,6],[],[],[],[9,10],[8,9,10,11],[8,9,10,11,12,14,15,16,17,18,19],[],[],[],[15,16],[14,15,16,17],[14,15,16,17,18],[0,1,2,3,8,9,10,11,12,13,14,15,16,17,18,19],[0,1,2,3,8,9,10,11,12,13,14,15,16,17,18,19,20],[0,1,2,3,4,5,6,7,8,9,10,11,12,13,14,15,16,17,18,19,20,21],[0,1,2,3,4,5,6,7,8,9,10,11,12,13,14,15,16,17,18,19,20,21,22]] 22 [Nn 0,Nn 1,Nn 2,Nn 3,Nn 4,Nn 5,Nn 6,Nn 7,Nn 8,Nn 9,Nn 10,Nn 11,Nn 12,Nn 14,Nn 15,Nn 16,Nn 17,Nn 18,Yy 19,Yy 13,Nn 20,Yy 21] ?_
    refine Di ?_
    refine Yw (by rfl) (z_loadG (by rfl) gf (by omega) (by rfl)) ?_
    refine Di ?_
    refine Yw (by rfl) (z_loadG (by rfl) gf (by omega) (by rfl)) ?_
    refine Di ?_
    refine Yg gf fun As ys hy hl fs gg => ?_
    refine Di ?_
    refine Ae ?_
  all_goals
    refine Wi ?_
    refine Xg gg fun At zs hz hlz fz gz => ?_
    refine Wi ?_
    have hf : zs = (swp f (first + r) (first + c)).toList := swp_is hy hz (by omega) (by omega) (by omega) (by omega) (by omega) (by omega)
    rw [hf] at gz
    exact ⟨(c, swp f (first + r) (first + c)), by simp only; omega, ⟨rfl, trivial⟩, rfl, _, _, inferInstance, gz, by simp only [swp_size]; exact fsz, by simp only; omega, by simp only; rw [← finv, hstep]⟩
theorem heapSort_f (h : PHeap) (v : Value) (A : Own) (d : Array Int) (g : Gr A v 3 intF d.toList) (a b : Nat) (hb : b ≤ d.size) (hs : d.size ≤ 1000000) (hab : a < b) :
    CallF Tryz.prog M 205 [v, .int .i64 (a : Int), .int .i64 (b : Int)] A h fun u A' => u = .tuple #[] ∧ Gr A' v 3 intF (heapSort ltInt d a b).toList := by
  have o := g.one
  obtain ⟨n, rfl⟩ : ∃ n : Nat, b = a + n := ⟨b - a, by omega⟩
  refine Cs Tryz.func205 Tryz.ntmps205 ?_
  refine Wo ?_
  have e0 : ((a + n : Nat) : Int) - (a : Int) = (n : Int) := by omega
  rw [e0]
  rw [show ((n : Int) - 1) / 2 = (((n - 1) / 2 + 1 : Nat) : Int) - 1 by omega]
  have hsort : heapSort ltInt d a (a + n) = heapPop ltInt a n (heapBuild ltInt n a ((n - 1) / 2 + 1) d) := by
    unfold heapSort; rw [show a + n - a = n by omega]
  refine sf_lp (ι := Nat × Array Int) [0, 6, 7, 8] (fun x => [(9, .int .i64 ((x.1 : Int) - 1))]) (fun x O => Gr O v 3 intF x.2.toList ∧ x.2.size = d.size ∧ x.1 ≤ n + 1 ∧ heapBuild ltInt n a x.1 x.2 = heapBuild ltInt n a ((n - 1) / 2 + 1) d) (fun x => x.1) ((n - 1) / 2 + 1, d) A ⟨g, rfl, by simp only; omega, rfl⟩ ?_
  rintro ⟨k, f⟩ O ⟨gf, fsz, hk, finv⟩
  simp only at gf fsz hk finv ⊢
  refine Wo ?_
  refine sf_if (fun h1 => ?_) fun h1 => ?_
  · obtain ⟨k, rfl⟩ : ∃ k', k = k' + 1 := ⟨k - 1, by omega⟩
    rw [show (((k + 1 : Nat) : Int) - 1) = (k : Int) by omega]
    refine Wo ?_
    refine fp (y_call (siftDown_f (M := M) _ v O f gf k n a (by omega) (by omega) (by omega)) (by rfl) ?_)
    rintro _ A1 ⟨rfl, g1⟩
    refine Wo ?_
    exact ⟨(k, _), by simp only; omega, ⟨rfl, trivial⟩, rfl, A1, _, inferInstance, g1, by simp only [siftDown_size]; exact fsz, by simp only; omega, by simp only; rw [← finv]; rfl⟩
  · refine sf_exit ?_
    obtain rfl : k = 0 := by omega
    rw [← finv] at hsort
    clear finv
    refine Wo ?_
    refine sf_lp (ι := Nat × Array Int) [0, 6, 7] (fun x => [(10, .int .i64 ((x.1 : Int) - 1))]) (fun x O => Gr O v 3 intF x.2.toList ∧ x.2.size = d.size ∧ x.1 ≤ n ∧ heapPop ltInt a x.1 x.2 = heapSort ltInt d a (a + n)) (fun x => x.1) (n, f) O ⟨gf, fsz, by simp only; omega, hsort.symm⟩ ?_
    rintro ⟨k, f⟩ O ⟨gf, fsz, hk, finv⟩
    simp only at gf fsz hk finv ⊢
    have lf : f.toList.length = f.size := by simp
    refine Wo ?_
    refine sf_if (fun h1 => ?_) fun h1 => ?_
    · obtain ⟨k, rfl⟩ : ∃ k', k = k' + 1 := ⟨k - 1, by omega⟩
      rw [show (((k + 1 : Nat) : Int) - 1) = (k : Int) by omega]
      refine Wo ?_
      refine sf_draw (by kernel_rfl) (regX_own (O) (regX_split 11 15 (by rfl) ?_ ?_))
      case' refine_1 =>
        refine Sw [[],[],[],[],[],[3,4],[],[],[],[7,8],[6,7,8,9],[6,7,8,9,10],[],[],[12,13],[6,7,8,9,10,11,12,13,14],[0,1,6,7,8,9,10,11,12,13,14,15],[0,1,6,7,8,9,10,11,12,13,14,15,16],[0,1,2,3,4,5,6,7,8,9,10,11,12,13,14,15,16,17],[0,1,2,3,4,5,6,7,8,9,10,11,12,13,14,15,16,17,18]] 18 [Nn 0,Nn 1,Nn 2,Nn 3,Nn 4,Nn 5,Nn 6,Nn 7,Nn 8,Nn 9,Nn 10,Nn 12,Nn 13,Nn 14,Yy 11,Yy 15,Nn 16,Yy 17] ?_
        refine Di ?_
        refine Yw (by rfl) (z_loadG (by rfl) gf (by omega) (by rfl)) ?_
        refine Di ?_
        refine Yw (by rfl) (z_loadG (by rfl) gf (by omega) (by rfl)) ?_
        refine Di ?_
        refine Yg gf fun As ys hy hl fs gg => ?_
        refine Di ?_
        refine Ae ?_
      case' refine_2 =>
        refine Sw [[],[],[],[],[],[3,4],[],[],[],[7,8],[6,7,8,9],[6,7,8,9,10,12,13,14,15],[],[],[12,13],[12,13,14],[0,1,6,7,8,9,10,11,12,13,14,15],[0,1,6,7,8,9,10,11,12,13,14,15,16],[0,1,2,3,4,5,6,7,8,9,10,11,12,13,14,15,16,17],[0,1,2,3,4,5,6,7,8,9,10,11,12,13,14,15,16,17,18]] 18 [Nn 0,Nn 1,Nn 2,Nn 3,Nn 4,Nn 5,Nn 6,Nn 7,Nn 8,Nn 9,Nn 10,Nn 12,Nn 13,Nn 14,Yy 15,Yy 11,Nn 16,Yy 17] ?_
        refine Di ?_
        refine Yw (by rfl) (z_loadG (by rfl) gf (by omega) (by rfl)) ?_
        refine Di ?_
        refine Yw (by rfl) (z_loadG (by rfl) gf (by omega) (by rfl)) ?_
        refine Di ?_
        refine Yg gf fun As ys hy hl fs gg => ?_
        refine Di ?_
        refine Ae ?_
      all_goals
        refine Wi ?_
        refine Xg gg fun At zs hz hlz fz gz => ?_
        refine Wi ?_
        have hf : zs = (swp f a (a + k)).toList := swp_is hy hz (by omega) (by omega) (by omega) (by omega) (by omega) (by omega)
        rw [hf] at gz
        refine fp (y_call (siftDown_f (M := M) _ v At (swp f a (a + k)) gz 0 k a (by rw [swp_size]; omega) (by rw [swp_size]; omega) (by omega)) (by rfl) ?_)
        rintro _ A1 ⟨rfl, g1⟩
        refine Wo ?_
        exact ⟨(k, _), by simp only; omega, ⟨rfl, trivial⟩, rfl, A1, _, inferInstance, g1, by simp only [siftDown_size, swp_size]; exact fsz, by simp only; omega, by simp only; rw [← finv]; rfl⟩
    · refine sf_exit ?_
      obtain rfl : k = 0 := by omega
      refine Wo ?_
      refine nO O ⟨rfl, ?_⟩
      rw [← finv]
      exact gf
theorem reverseRange_f (h : PHeap) (v : Value) (A : Own) (d : Array Int) (g : Gr A v 3 intF d.toList) (a b : Nat) (hb : b ≤ d.size) (hs : d.size ≤ 1000000) (hab : a < b) :
    CallF Tryz.prog M 208 [v, .int .i64 (a : Int), .int .i64 (b : Int)] A h fun u A' => u = .tuple #[] ∧ Gr A' v 3 intF (reverseRange d a b).toList := by
  have o := g.one
  obtain ⟨n, rfl⟩ : ∃ n : Nat, b = n + 1 := ⟨b - 1, by omega⟩
  refine Cs Tryz.func208 Tryz.ntmps208 ?_
  refine Wo ?_
  rw [show (((n + 1 : Nat) : Int) - 1) = (n : Int) by omega]
  refine sf_lp (ι := Nat × Nat × Array Int) [0] (fun x => [(6, .int .i64 (x.1 : Int)), (7, .int .i64 (x.2.1 : Int))]) (fun x O => Gr O v 3 intF x.2.2.toList ∧ x.2.2.size = d.size ∧ x.2.1 ≤ n ∧ reverseLoop x.1 x.2.1 x.2.2 = reverseRange d a (n + 1)) (fun x => x.2.1) (a, n, d) A ⟨g, rfl, by simp only; omega, rfl⟩ ?_
  rintro ⟨i, j, f⟩ O ⟨gf, fsz, hk, finv⟩
  simp only at gf fsz hk finv ⊢
  have lf : f.toList.length = f.size := by simp
  refine Wo ?_
  refine sf_if (fun h1 => ?_) fun h1 => ?_
  · have hst : reverseLoop i j f = reverseLoop (i + 1) (j - 1) (swp f i j) := by rw [reverseLoop, if_pos (by omega)]
    obtain ⟨j, rfl⟩ : ∃ k', j = k' + 1 := ⟨j - 1, by omega⟩
    refine Wo ?_
    refine sf_draw (by kernel_rfl) (regX_own (O) (regX_split 7 11 (by rfl) ?_ ?_))
    case' refine_1 =>
      refine Sw [[],[],[],[],[],[],[4,5],[4,5,6],[],[],[8,9],[4,5,6,7,8,9,10],[0,1,4,5,6,7,8,9,10,11],[0,1,4,5,6,7,8,9,10,11,12],[0,1,2,3,4,5,6,7,8,9,10,11,12,13],[0,1,2,3,4,5,6,7,8,9,10,11,12,13,14]] 14 [Nn 0,Nn 1,Nn 2,Nn 3,Nn 4,Nn 5,Nn 6,Nn 8,Nn 9,Nn 10,Yy 7,Yy 11,Nn 12,Yy 13] ?_
      refine Di ?_
      refine Yw (by rfl) (z_loadG (by rfl) gf (by omega) (by rfl)) ?_
      refine Di ?_
      refine Yw (by rfl) (z_loadG (by rfl) gf (by omega) (by rfl)) ?_
      refine Di ?_
      refine Yg gf fun As ys hy hl fs gg => ?_
      refine Di ?_
      refine Ae ?_
    case' refine_2 =>
      refine Sw [[],[],[],[],[],[],[4,5],[4,5,6,8,9,10,11],[],[],[8,9],[8,9,10],[0,1,4,5,6,7,8,9,10,11],[0,1,4,5,6,7,8,9,10,11,12],[0,1,2,3,4,5,6,7,8,9,10,11,12,13],[0,1,2,3,4,5,6,7,8,9,10,11,12,13,14]] 14 [Nn 0,Nn 1,Nn 2,Nn 3,Nn 4,Nn 5,Nn 6,Nn 8,Nn 9,Nn 10,Yy 11,Yy 7,Nn 12,Yy 13] ?_
      refine Di ?_
      refine Yw (by rfl) (z_loadG (by rfl) gf (by omega) (by rfl)) ?_
      refine Di ?_
      refine Yw (by rfl) (z_loadG (by rfl) gf (by omega) (by rfl)) ?_
      refine Di ?_
      refine Yg gf fun As ys hy hl fs gg => ?_
      refine Di ?_
      refine Ae ?_
    all_goals
      refine Wi ?_
      refine Xg gg fun At zs hz hlz fz gz => ?_
      refine Wi ?_
      have hf : zs = (swp f i (j + 1)).toList := swp_is hy hz (by omega) (by omega) (by omega) (by omega) (by omega) (by omega)
      rw [hf] at gz
      exact ⟨(i + 1, j, swp f i (j + 1)), by simp only; omega, ⟨rfl, vI (show ((j + 1 : Nat) : Int) - 1 = (j : Int) by omega), trivial⟩, rfl, _, _, inferInstance, gz, by simp only [swp_size]; exact fsz, by simp only; omega, by simp only; rw [← finv, hst]; rfl⟩
  · refine sf_exit ?_
    refine Wo ?_
    refine nO O ⟨rfl, ?_⟩
    rw [← finv, reverseLoop, if_neg (by omega)]
    exact gf
abbrev swA (bs : Nat) (z : Int) : Own := [(bs, .cells #[.int .i64 z] 3)]
theorem order2_f (h : PHeap) (v : Value) (xs : List Int) (s : Sl h v intF xs) (a b : Nat) (ha : a < xs.length) (hb : b < xs.length) (bs : Nat) (z : Int) (hz : 0 ≤ z ∧ z ≤ 1000) :
    CallF Tryz.prog M 227 [v, .int .i64 (a : Int), .int .i64 (b : Int), .pointer (some ⟨bs, 0, none⟩)] (swA bs z) h fun u A => ∃ (x y : Nat) (z' : Int), u = .tuple #[.int .i64 (x : Int), .int .i64 (y : Int)] ∧ ((x = a ∧ y = b) ∨ (x = b ∧ y = a)) ∧ (0 ≤ z' ∧ z' ≤ z + 1) ∧ A = swA bs z' := by
  have o := s.one
  refine Cs Tryz.func227 Tryz.ntmps227 ?_
  refine Wo ?_
  refine Sd [[],[],[0,1],[0,1,2],[],[],[4,5],[4,5,6],[0,1,2,3,4,5,6,7]] 8 [Nn 0,Nn 1,Nn 2,Nn 3,Nn 4,Nn 5,Nn 6,Nn 7] ?_
  refine Da ?_
  refine Ae ?_
  refine Xv (less_v _ _ _) ?_
  refine Wo ?_
  refine sf_if (fun h1 => ?_) fun h1 => ?_
  · refine Wo ?_
    exact sf_ret (rO _ ⟨b, a, z + 1, rfl, .inr ⟨rfl, rfl⟩, by omega, rfl⟩)
  · refine Wo ?_
    exact sf_ret (rO _ ⟨a, b, z, rfl, .inl ⟨rfl, rfl⟩, by omega, rfl⟩)
theorem median_f (h : PHeap) (v : Value) (xs : List Int) (s : Sl h v intF xs) (a b c : Nat) (ha : a < xs.length) (hb : b < xs.length) (hc : c < xs.length) (bs : Nat) (z : Int) (hz : 0 ≤ z ∧ z ≤ 900) :
    CallF Tryz.prog M 222 [v, .int .i64 (a : Int), .int .i64 (b : Int), .int .i64 (c : Int), .pointer (some ⟨bs, 0, none⟩)] (swA bs z) h fun u A => ∃ (x : Nat) (z' : Int), u = .int .i64 (x : Int) ∧ (x = a ∨ x = b ∨ x = c) ∧ (0 ≤ z' ∧ z' ≤ z + 3) ∧ A = swA bs z' := by
  have o := s.one
  refine Cs Tryz.func222 Tryz.ntmps222 ?_
  refine Wo ?_
  refine fp (y_call (order2_f (M := M) _ v xs s a b ha hb bs z (by omega)) (by rfl) ?_)
  rintro _ _ ⟨x1, y1, z1, rfl, h1, hz1, rfl⟩
  refine Wo ?_
  refine fp (y_call (order2_f (M := M) _ v xs s y1 c (by omega) hc bs z1 (by omega)) (by rfl) ?_)
  rintro _ _ ⟨x2, y2, z2, rfl, h2, hz2, rfl⟩
  refine Wo ?_
  refine fp (y_call (order2_f (M := M) _ v xs s x1 x2 (by omega) (by omega) bs z2 (by omega)) (by rfl) ?_)
  rintro _ _ ⟨x3, y3, z3, rfl, h3, hz3, rfl⟩
  refine Wo ?_
  exact sf_ret (rO _ ⟨y3, z3, rfl, by omega, by omega, rfl⟩)
theorem medianAdjacent_f (h : PHeap) (v : Value) (xs : List Int) (s : Sl h v intF xs) (a : Nat) (ha : 1 ≤ a) (hb : a + 1 < xs.length) (hs : xs.length ≤ 1000000) (bs : Nat) (z : Int) (hz : 0 ≤ z ∧ z ≤ 900) :
    CallF Tryz.prog M 221 [v, .int .i64 (a : Int), .pointer (some ⟨bs, 0, none⟩)] (swA bs z) h fun u A => ∃ (x : Nat) (z' : Int), u = .int .i64 (x : Int) ∧ (a ≤ x + 1 ∧ x ≤ a + 1) ∧ (0 ≤ z' ∧ z' ≤ z + 3) ∧ A = swA bs z' := by
  have o := s.one
  obtain ⟨k, rfl⟩ : ∃ k, a = k + 1 := ⟨a - 1, by omega⟩
  refine Cs Tryz.func221 Tryz.ntmps221 ?_
  refine Wo ?_
  rw [show ((k + 1 : Nat) : Int) - 1 = (k : Int) by omega]
  refine fp (y_call (median_f (M := M) _ v xs s k (k + 1) (k + 1 + 1) (by omega) (by omega) (by omega) bs z (by omega)) (by rfl) ?_)
  rintro _ _ ⟨x1, z1, rfl, h1, hz1, rfl⟩
  refine Wo ?_
  exact sf_ret (rO _ ⟨x1, z1, rfl, by omega, by omega, rfl⟩)
theorem choosePivot_f (h : PHeap) (v : Value) (xs : List Int) (s : Sl h v intF xs) (a b : Nat) (hab : a < b) (hb : b ≤ xs.length) (hs : xs.length ≤ 1000000) :
    CallF Tryz.prog M 207 [v, .int .i64 (a : Int), .int .i64 (b : Int)] [] h fun u A => ∃ (p : Nat) (z : Int), u = .tuple #[.int .i64 (p : Int), .int .i64 z] ∧ (a ≤ p ∧ p < b) ∧ A = [] := by
  have o := s.one
  obtain ⟨n, rfl⟩ : ∃ n : Nat, b = a + n := ⟨b - a, by omega⟩
  refine Cs Tryz.func207 Tryz.ntmps207 ?_
  repeat first | refine R1 ?_ | refine R2 fun _ => ?_
  have e0 : ((a + n : Nat) : Int) - (a : Int) = (n : Int) := by omega
  rename_i bs
  rw [e0]
  rw [show (a : Int) + (n : Int) / 4 * 1 = ((a + n / 4 : Nat) : Int) by omega, show (a : Int) + (n : Int) / 4 * 2 = ((a + n / 4 * 2 : Nat) : Int) by omega, show (a : Int) + (n : Int) / 4 * 3 = ((a + n / 4 * 3 : Nat) : Int) by omega]
  apply viaT (G := ∀ (p : Nat) (z : Int), a ≤ p → p < a + n → _)
  · intro tail
    refine sf_if (fun h1 => ?_) fun h1 => ?_
    · repeat first | refine R1 ?_ | refine R2 fun _ => ?_
      apply viaT (G := ∀ (p1 p2 p3 : Nat) (z : Int), (a ≤ p1 ∧ p1 < a + n) → (a ≤ p2 ∧ p2 < a + n) → (a ≤ p3 ∧ p3 < a + n) → (0 ≤ z ∧ z ≤ 9) → _)
      · intro tail2
        refine sf_if (fun h2 => ?_) fun h2 => ?_
        · repeat first | refine R1 ?_ | refine R2 fun _ => ?_
          refine fp (y_call (medianAdjacent_f (M := M) _ v xs s (a + n / 4) (by omega) (by omega) hs bs 0 (by omega)) (by rfl) ?_)
          rintro _ _ ⟨p1, z1, rfl, k1, hz1, rfl⟩
          repeat first | refine R1 ?_ | refine R2 fun _ => ?_
          refine fp (y_call (medianAdjacent_f (M := M) _ v xs s (a + n / 4 * 2) (by omega) (by omega) hs bs z1 (by omega)) (by rfl) ?_)
          rintro _ _ ⟨p2, z2, rfl, k2, hz2, rfl⟩
          repeat first | refine R1 ?_ | refine R2 fun _ => ?_
          refine fp (y_call (medianAdjacent_f (M := M) _ v xs s (a + n / 4 * 3) (by omega) (by omega) hs bs z2 (by omega)) (by rfl) ?_)
          rintro _ _ ⟨p3, z3, rfl, k3, hz3, rfl⟩
          repeat first | refine R1 ?_ | refine R2 fun _ => ?_
          refine fops_keep [9, 44, 45, 46, 47] ?_
          refine fops_own (swA bs z3) ?_
          exact tail2.out p1 p2 p3 z3 (by omega) (by omega) (by omega) (by omega)
        · repeat first | refine R1 ?_ | refine R2 fun _ => ?_
          refine fops_keep [9, 44, 45, 46, 47] ?_
          refine fops_own (swA bs 0) ?_
          exact tail2.out (a + n / 4) (a + n / 4 * 2) (a + n / 4 * 3) 0 (by omega) (by omega) (by omega) (by omega)
      · intro p1 p2 p3 z k1 k2 k3 hz
        refine fp (y_call (median_f (M := M) _ v xs s p1 p2 p3 (by omega) (by omega) (by omega) bs z (by omega)) (by rfl) ?_)
        rintro _ _ ⟨p, z4, rfl, k4, hz4, rfl⟩
        repeat first | refine R1 ?_ | refine R2 fun _ => ?_
        show Code.sf _ _ _ _ _ _ _ _
        refine sf_keep [11, 49, 51] ?_
        refine sf_own (swA bs z4) ?_
        exact tail.out p z4 (by omega) (by omega)
    · repeat first | refine R1 ?_ | refine R2 fun _ => ?_
      show Code.sf _ _ _ _ _ _ _ _
      refine sf_keep [11, 49, 51] ?_
      refine sf_own (swA bs 0) ?_
      exact tail.out (a + n / 4 * 2) 0 (by omega) (by omega)
  · intro p z k1 k2
    refine sf_if (fun h1 => ?_) fun h1 => ?_
    · repeat first | refine R1 ?_ | refine R2 fun _ => ?_
      exact sf_ret (rO [] ⟨p, 1, rfl, by omega, rfl⟩)
    · repeat first | refine R1 ?_ | refine R2 fun _ => ?_
      refine sf_if (fun h1 => ?_) fun h1 => ?_
      · repeat first | refine R1 ?_ | refine R2 fun _ => ?_
        exact sf_ret (rO [] ⟨p, 2, rfl, by omega, rfl⟩)
      · repeat first | refine R1 ?_ | refine R2 fun _ => ?_
        exact sf_ret (rO [] ⟨p, 0, rfl, by omega, rfl⟩)
theorem partition_f (h : PHeap) (v : Value) (A : Own) (d : Array Int) (g : Gr A v 3 intF d.toList) (a b p : Nat) (hb : b ≤ d.size) (hs : d.size ≤ 1000000) (hab : a < b) (hp : a ≤ p ∧ p < b) :
    CallF Tryz.prog M 212 [v, .int .i64 (a : Int), .int .i64 (b : Int), .int .i64 (p : Int)] A h fun u A' => u = .tuple #[.int .i64 ((Sort.partition ltInt d a b p).1 : Int), .bool (Sort.partition ltInt d a b p).2.1] ∧ Gr A' v 3 intF (Sort.partition ltInt d a b p).2.2.toList := by
  have o := g.one
  have ld : d.toList.length = d.size := by simp
  obtain ⟨n, rfl⟩ : ∃ n : Nat, b = n + 1 := ⟨b - 1, by omega⟩
  refine Cs Tryz.func212 Tryz.ntmps212 ?_
  refine Wo ?_
  apply viaT (G := ∀ (B : Own), Gr B v 3 intF (swp d a p).toList → _)
  · intro tail
    refine sf_draw (by kernel_rfl) (regX_own (A) (regX_split 7 11 (by rfl) ?_ ?_))
    case' refine_1 =>
      refine Sw [[],[],[],[],[],[],[4,5],[4,5,6],[],[],[8,9],[4,5,6,7,8,9,10],[0,1,4,5,6,7,8,9,10,11],[0,1,4,5,6,7,8,9,10,11,12],[0,1,2,3,4,5,6,7,8,9,10,11,12,13],[0,1,2,3,4,5,6,7,8,9,10,11,12,13,14]] 14 [Nn 0,Nn 1,Nn 2,Nn 3,Nn 4,Nn 5,Nn 6,Nn 8,Nn 9,Nn 10,Yy 7,Yy 11,Nn 12,Yy 13] ?_
      refine Di ?_
      refine Yw (by rfl) (z_loadG (by rfl) g (by omega) (by rfl)) ?_
      refine Di ?_
      refine Yw (by rfl) (z_loadG (by rfl) g (by omega) (by rfl)) ?_
      refine Di ?_
      refine Yg g fun As ys hy hl fs gg => ?_
      refine Di ?_
      refine Ae ?_
    case' refine_2 =>
      refine Sw [[],[],[],[],[],[],[4,5],[4,5,6,8,9,10,11],[],[],[8,9],[8,9,10],[0,1,4,5,6,7,8,9,10,11],[0,1,4,5,6,7,8,9,10,11,12],[0,1,2,3,4,5,6,7,8,9,10,11,12,13],[0,1,2,3,4,5,6,7,8,9,10,11,12,13,14]] 14 [Nn 0,Nn 1,Nn 2,Nn 3,Nn 4,Nn 5,Nn 6,Nn 8,Nn 9,Nn 10,Yy 11,Yy 7,Nn 12,Yy 13] ?_
      refine Di ?_
      refine Yw (by rfl) (z_loadG (by rfl) g (by omega) (by rfl)) ?_
      refine Di ?_
      refine Yw (by rfl) (z_loadG (by rfl) g (by omega) (by rfl)) ?_
      refine Di ?_
      refine Yg g fun As ys hy hl fs gg => ?_
      refine Di ?_
      refine Ae ?_
    all_goals
      refine Wi ?_
      refine Xg gg fun At zs hz hlz fz gz => ?_
      refine Wi ?_
      rw [show (((n + 1 : Nat) : Int) - 1) = (n : Int) by omega]
      have hf : zs = (swp d a p).toList := swp_is hy hz (by omega) (by omega) (by omega) (by omega) (by omega) (by omega)
      rw [hf] at gz
      show Code.sf _ _ _ _ _ _ _ _
      refine sf_keep [0, 1, 10, 11] ?_
      refine sf_own At ?_
      exact tail.out At gz
  intro B ge
  obtain ⟨e, he⟩ : ∃ e, e = swp d a p := ⟨_, rfl⟩
  rw [← he] at ge
  have es : e.size = d.size := by rw [he, swp_size]
  have le : e.toList.length = e.size := by simp
  have ua : gt e.toList a = e[a]! := gt_arr (by omega)
  apply viaT (G := ∀ i : Nat, a + 1 ≤ i → i ≤ n + 2 → scanUp (fun x => ltInt x e[a]!) e n (a + 1) = i → _)
  · intro tail
    refine sf_lp (ι := Nat) [0, 1, 11] (fun x => [(10, .int .i64 (x : Int))]) (fun x O' => O' = B ∧ a + 1 ≤ x ∧ x ≤ n + 2 ∧ scanUp (fun x => ltInt x e[a]!) e n x = scanUp (fun x => ltInt x e[a]!) e n (a + 1)) (fun x => n + 2 - x) (a + 1) B ⟨rfl, by omega, by omega, rfl⟩ ?_
    rintro x _ ⟨rfl, hx0, hx1, hinv⟩
    by_cases h2 : x ≤ n
    · have h3 : (x : Int) ≤ ((n : Nat) : Int) := by omega
      have u1 : gt e.toList x = e[x]! := gt_arr (by omega)
      refine Wo ?_
      refine Sd [[],[],[0,1],[0,1,2],[0,1,2,3],[0,1,2,3],[0,1,2,3,4,5],[0,1,2,3,4,5,6],[0,1,2,3],[0,1,2,3],[0,1,2,3,8,9],[0,1,2,3,8,9,10],[0,1,2,3,4,5,6,7,8,9,10,11],[0,1,2,3,4,5,6,7,8,9,10,11,12]] 12 [Nn 0,Nn 1,Nn 2,Nn 3,Nn 4,Nn 5,Nn 6,Nn 7,Nn 8,Nn 9,Nn 10,Nn 11] ?_
      refine Di ?_
      refine Ae ?_
      refine Xv (less_v _ _ _) ?_
      refine Wo ?_
      rw [u1, ua]
      refine sf_if (fun h4 => ?_) fun h4 => ?_
      · refine Wo ?_
        exact ⟨x + 1, by omega, ⟨rfl, trivial⟩, rfl, _, _, inferInstance, rfl, by omega, by omega, by rw [← hinv]; exact (scanUp_go h2 (by simp only [ltInt_is]; simp [h4])).symm⟩
      · refine sf_exit ?_
        refine Wo ?_
        refine sf_keep [0, 1, 10, 11] ?_
        exact tail.out x (by omega) (by omega) (by rw [← hinv]; exact scanUp_stop (fun h => h4 (by simpa [ltInt_is] using h.2)))
    · have h3 : ¬ (x : Int) ≤ ((n : Nat) : Int) := by omega
      refine Wo ?_
      refine Sd [[],[],[0,1],[0,1,2],[0,1,2,3],[0,1,2,3],[0,1,2,3,4,5],[0,1,2,3,4,5,6],[0,1,2,3],[0,1,2,3],[0,1,2,3,8,9],[0,1,2,3,8,9,10],[0,1,2,3,4,5,6,7,8,9,10,11],[0,1,2,3,4,5,6,7,8,9,10,11,12]] 12 [Nn 0,Nn 1,Nn 2,Nn 3,Nn 4,Nn 5,Nn 6,Nn 7,Nn 8,Nn 9,Nn 10,Nn 11] ?_
      refine Di ?_
      refine Ae ?_
      refine Wo ?_
      refine sf_cond (by rfl) (fun e => by cases e) fun z1 => ?_
      clear z1
      refine sf_exit ?_
      refine Wo ?_
      refine sf_keep [0, 1, 10, 11] ?_
      exact tail.out x (by omega) (by omega) (by rw [← hinv]; exact scanUp_stop (fun h => h2 h.1))
  intro i hi0 hi1 hsu
  apply viaT (G := ∀ j : Nat, i ≤ j + 2 → a ≤ j → j ≤ n → scanDown (fun x => !ltInt x e[a]!) e i n = j → _)
  · intro tail
    refine sf_lp (ι := Nat) [0, 1, 10] (fun x => [(11, .int .i64 (x : Int))]) (fun x O' => O' = B ∧ i ≤ x + 2 ∧ a ≤ x ∧ x ≤ n ∧ scanDown (fun x => !ltInt x e[a]!) e i x = scanDown (fun x => !ltInt x e[a]!) e i (n)) (fun x => x) (n) B ⟨rfl, by omega, by omega, by omega, rfl⟩ ?_
    rintro x _ ⟨rfl, hx0, hx2, hx1, hinv⟩
    by_cases h2 : i ≤ x
    · obtain ⟨y, hy0⟩ : ∃ k, x = k + 1 := ⟨x - 1, by omega⟩
      have h3 : ((i : Nat) : Int) ≤ (x : Int) := by omega
      have u1 : gt e.toList x = e[x]! := gt_arr (by omega)
      refine Wo ?_
      refine Sd [[],[],[0,1],[0,1,2],[0,1,2,3],[0,1,2,3],[0,1,2,3,4,5],[0,1,2,3,4,5,6],[0,1,2,3],[0,1,2,3],[0,1,2,3,8,9],[0,1,2,3,8,9,10],[0,1,2,3,4,5,6,7,8,9,10,11],[0,1,2,3,4,5,6,7,8,9,10,11,12],[0,1,2,3,4,5,6,7,8,9,10,11,12,13]] 12 [Nn 0,Nn 1,Nn 2,Nn 3,Nn 4,Nn 5,Nn 6,Nn 7,Nn 8,Nn 9,Nn 10,Nn 11] ?_
      refine Di ?_
      refine Ae ?_
      refine Xv (less_v _ _ _) ?_
      refine Wo ?_
      rw [u1, ua]
      refine sf_ifn (fun h4 => ?_) fun h4 => ?_
      · refine Wo ?_
        subst hy0
        exact ⟨y, by omega, ⟨vI (show ((y + 1 : Nat) : Int) - 1 = (y : Int) by omega), trivial⟩, rfl, _, _, inferInstance, rfl, by omega, by omega, by omega, by rw [← hinv]; exact (scanDown_go h2 (by simp only [ltInt_is]; simp [h4])).symm⟩
      · refine sf_exit ?_
        refine Wo ?_
        (show Code.sf _ _ _ _ _ _ _ _; refine sf_keep [0, 1, 10, 11, 65] ?_)
        exact tail.out x (by omega) (by omega) (by omega) (by rw [← hinv]; exact scanDown_stop (fun h => absurd h4 (by simpa [ltInt_is] using h.2)))
    · have h3 : ¬ ((i : Nat) : Int) ≤ (x : Int) := by omega
      refine Wo ?_
      refine Sd [[],[],[0,1],[0,1,2],[0,1,2,3],[0,1,2,3],[0,1,2,3,4,5],[0,1,2,3,4,5,6],[0,1,2,3],[0,1,2,3],[0,1,2,3,8,9],[0,1,2,3,8,9,10],[0,1,2,3,4,5,6,7,8,9,10,11],[0,1,2,3,4,5,6,7,8,9,10,11,12],[0,1,2,3,4,5,6,7,8,9,10,11,12,13]] 12 [Nn 0,Nn 1,Nn 2,Nn 3,Nn 4,Nn 5,Nn 6,Nn 7,Nn 8,Nn 9,Nn 10,Nn 11] ?_
      refine Di ?_
      refine Ae ?_
      refine Wo ?_
      refine sf_cond (by rfl) (fun e => by cases e) fun z1 => ?_
      clear z1
      refine sf_exit ?_
      refine Wo ?_
      (show Code.sf _ _ _ _ _ _ _ _; refine sf_keep [0, 1, 10, 11, 65] ?_)
      exact tail.out x (by omega) (by omega) (by omega) (by rw [← hinv]; exact scanDown_stop (fun h => h2 h.1))
  intro j hj0 hj1 hj2 hsd
  refine sf_if (fun h1 => ?_) fun h1 => ?_
  · have hP := partition_A (b := n + 1) he hsu hsd (by omega)
    rw [hP]
    refine Wo ?_
    refine sf_draw (by kernel_rfl) (regX_own (B) (regX_split 7 11 (by rfl) ?_ ?_))
    case' refine_1 =>
      refine Sw [[],[],[],[],[],[],[4,5],[4,5,6],[],[],[8,9],[4,5,6,7,8,9,10],[0,1,4,5,6,7,8,9,10,11],[0,1,4,5,6,7,8,9,10,11,12],[0,1,2,3,4,5,6,7,8,9,10,11,12,13],[0,1,2,3,4,5,6,7,8,9,10,11,12,13,14]] 14 [Nn 0,Nn 1,Nn 2,Nn 3,Nn 4,Nn 5,Nn 6,Nn 8,Nn 9,Nn 10,Yy 7,Yy 11,Nn 12,Yy 13] ?_
      refine Di ?_
      refine Yw (by rfl) (z_loadG (by rfl) ge (by omega) (by rfl)) ?_
      refine Di ?_
      refine Yw (by rfl) (z_loadG (by rfl) ge (by omega) (by rfl)) ?_
      refine Di ?_
      refine Yg ge fun As ys hy hl fs gg => ?_
      refine Di ?_
      refine Ae ?_
    case' refine_2 =>
      refine Sw [[],[],[],[],[],[],[4,5],[4,5,6,8,9,10,11],[],[],[8,9],[8,9,10],[0,1,4,5,6,7,8,9,10,11],[0,1,4,5,6,7,8,9,10,11,12],[0,1,2,3,4,5,6,7,8,9,10,11,12,13],[0,1,2,3,4,5,6,7,8,9,10,11,12,13,14]] 14 [Nn 0,Nn 1,Nn 2,Nn 3,Nn 4,Nn 5,Nn 6,Nn 8,Nn 9,Nn 10,Yy 11,Yy 7,Nn 12,Yy 13] ?_
      refine Di ?_
      refine Yw (by rfl) (z_loadG (by rfl) ge (by omega) (by rfl)) ?_
      refine Di ?_
      refine Yw (by rfl) (z_loadG (by rfl) ge (by omega) (by rfl)) ?_
      refine Di ?_
      refine Yg ge fun As ys hy hl fs gg => ?_
      refine Di ?_
      refine Ae ?_
    all_goals
      refine Wi ?_
      refine Xg gg fun At zs hz hlz fz gz => ?_
      refine Wi ?_
      have hf : zs = (swp e j a).toList := swp_is hy hz (by omega) (by omega) (by omega) (by omega) (by omega) (by omega)
      rw [hf] at gz
      exact sf_ret (rO At ⟨rfl, gz⟩)
  have hB := fun r hr => partition_B (b := n + 1) he hsu hsd (by omega) (r := r) hr
  obtain ⟨j, rfl⟩ : ∃ k, j = k + 1 := ⟨j - 1, by omega⟩
  simp only [Nat.add_sub_cancel] at hB
  refine Wo ?_
  apply viaT (G := ∀ (B2 : Own), Gr B2 v 3 intF (swp e i (j + 1)).toList → _)
  · intro tail
    refine sf_draw (by kernel_rfl) (regX_own (B) (regX_split 7 11 (by rfl) ?_ ?_))
    case' refine_1 =>
      refine Sw [[],[],[],[],[],[],[4,5],[4,5,6],[],[],[8,9],[4,5,6,7,8,9,10],[0,1,4,5,6,7,8,9,10,11],[0,1,4,5,6,7,8,9,10,11,12],[0,1,2,3,4,5,6,7,8,9,10,11,12,13],[0,1,2,3,4,5,6,7,8,9,10,11,12,13,14]] 14 [Nn 0,Nn 1,Nn 2,Nn 3,Nn 4,Nn 5,Nn 6,Nn 8,Nn 9,Nn 10,Yy 7,Yy 11,Nn 12,Yy 13] ?_
      refine Di ?_
      refine Yw (by rfl) (z_loadG (by rfl) ge (by omega) (by rfl)) ?_
      refine Di ?_
      refine Yw (by rfl) (z_loadG (by rfl) ge (by omega) (by rfl)) ?_
      refine Di ?_
      refine Yg ge fun As ys hy hl fs gg => ?_
      refine Di ?_
      refine Ae ?_
    case' refine_2 =>
      refine Sw [[],[],[],[],[],[],[4,5],[4,5,6,8,9,10,11],[],[],[8,9],[8,9,10],[0,1,4,5,6,7,8,9,10,11],[0,1,4,5,6,7,8,9,10,11,12],[0,1,2,3,4,5,6,7,8,9,10,11,12,13],[0,1,2,3,4,5,6,7,8,9,10,11,12,13,14]] 14 [Nn 0,Nn 1,Nn 2,Nn 3,Nn 4,Nn 5,Nn 6,Nn 8,Nn 9,Nn 10,Yy 11,Yy 7,Nn 12,Yy 13] ?_
      refine Di ?_
      refine Yw (by rfl) (z_loadG (by rfl) ge (by omega) (by rfl)) ?_
      refine Di ?_
      refine Yw (by rfl) (z_loadG (by rfl) ge (by omega) (by rfl)) ?_
      refine Di ?_
      refine Yg ge fun As ys hy hl fs gg => ?_
      refine Di ?_
      refine Ae ?_
    all_goals
      refine Wi ?_
      refine Xg gg fun At zs hz hlz fz gz => ?_
      refine Wi ?_
      rw [show (((j + 1 : Nat) : Int) - 1) = (j : Int) by omega]
      have hf : zs = (swp e i (j + 1)).toList := swp_is hy hz (by omega) (by omega) (by omega) (by omega) (by omega) (by omega)
      rw [hf] at gz
      show Code.sf _ _ _ _ _ _ _ _
      refine sf_keep [0, 1, 10, 11] ?_
      refine sf_own At ?_
      exact tail.out At gz
  intro B2 ge2
  obtain ⟨e2, he2⟩ : ∃ e2, e2 = swp e i (j + 1) := ⟨_, rfl⟩
  rw [← he2] at ge2
  have e2s : e2.size = e.size := by rw [he2, swp_size]
  rw [← he2] at hB
  refine sf_lp (ι := Nat × Nat × Array Int) [0, 1] (fun x => [(10, .int .i64 (x.1 : Int)), (11, .int .i64 (x.2.1 : Int))]) (fun x O => Gr O v 3 intF x.2.2.toList ∧ x.2.2.size = d.size ∧ a + 1 ≤ x.1 ∧ x.1 ≤ x.2.1 + 2 ∧ a ≤ x.2.1 ∧ x.2.1 ≤ n ∧ partLoop ltInt a x.1 x.2.1 x.2.2 = partLoop ltInt a (i + 1) j e2) (fun x => x.2.1 + 2 - x.1) (i + 1, j, e2) B2 ⟨ge2, by simp only; omega, by simp only; omega, by simp only; omega, by simp only; omega, by simp only; omega, rfl⟩ ?_
  rintro ⟨i3, j3, f⟩ O3 ⟨gf, fsz, k1, k2, k3, k4, finv⟩
  simp only at gf fsz k1 k2 k3 k4 finv ⊢
  have lf : f.toList.length = f.size := by simp
  have uf : gt f.toList a = f[a]! := gt_arr (by omega)
  refine Wo ?_
  apply viaT (G := ∀ i : Nat, i3 ≤ i → i ≤ j3 + 2 → scanUp (fun x => ltInt x f[a]!) f j3 i3 = i → _)
  · intro tail
    refine sf_lp (ι := Nat) [0, 1, 11] (fun x => [(10, .int .i64 (x : Int))]) (fun x O' => O' = O3 ∧ i3 ≤ x ∧ x ≤ j3 + 2 ∧ scanUp (fun x => ltInt x f[a]!) f j3 x = scanUp (fun x => ltInt x f[a]!) f j3 (i3)) (fun x => j3 + 2 - x) (i3) O3 ⟨rfl, by omega, by omega, rfl⟩ ?_
    rintro x _ ⟨rfl, hx0, hx1, hinv⟩
    by_cases h2 : x ≤ j3
    · have h3 : (x : Int) ≤ ((j3 : Nat) : Int) := by omega
      have u1 : gt f.toList x = f[x]! := gt_arr (by omega)
      refine Wo ?_
      refine Sd [[],[],[0,1],[0,1,2],[0,1,2,3],[0,1,2,3],[0,1,2,3,4,5],[0,1,2,3,4,5,6],[0,1,2,3],[0,1,2,3],[0,1,2,3,8,9],[0,1,2,3,8,9,10],[0,1,2,3,4,5,6,7,8,9,10,11],[0,1,2,3,4,5,6,7,8,9,10,11,12]] 12 [Nn 0,Nn 1,Nn 2,Nn 3,Nn 4,Nn 5,Nn 6,Nn 7,Nn 8,Nn 9,Nn 10,Nn 11] ?_
      refine Di ?_
      refine Ae ?_
      refine Xv (less_v _ _ _) ?_
      refine Wo ?_
      rw [u1, uf]
      refine sf_if (fun h4 => ?_) fun h4 => ?_
      · refine Wo ?_
        exact ⟨x + 1, by omega, ⟨rfl, trivial⟩, rfl, _, _, inferInstance, rfl, by omega, by omega, by rw [← hinv]; exact (scanUp_go h2 (by simp only [ltInt_is]; simp [h4])).symm⟩
      · refine sf_exit ?_
        refine Wo ?_
        refine sf_keep [0, 1, 10, 11] ?_
        exact tail.out x (by omega) (by omega) (by rw [← hinv]; exact scanUp_stop (fun h => h4 (by simpa [ltInt_is] using h.2)))
    · have h3 : ¬ (x : Int) ≤ ((j3 : Nat) : Int) := by omega
      refine Wo ?_
      refine Sd [[],[],[0,1],[0,1,2],[0,1,2,3],[0,1,2,3],[0,1,2,3,4,5],[0,1,2,3,4,5,6],[0,1,2,3],[0,1,2,3],[0,1,2,3,8,9],[0,1,2,3,8,9,10],[0,1,2,3,4,5,6,7,8,9,10,11],[0,1,2,3,4,5,6,7,8,9,10,11,12]] 12 [Nn 0,Nn 1,Nn 2,Nn 3,Nn 4,Nn 5,Nn 6,Nn 7,Nn 8,Nn 9,Nn 10,Nn 11] ?_
      refine Di ?_
      refine Ae ?_
      refine Wo ?_
      refine sf_cond (by rfl) (fun e => by cases e) fun z1 => ?_
      clear z1
      refine sf_exit ?_
      refine Wo ?_
      refine sf_keep [0, 1, 10, 11] ?_
      exact tail.out x (by omega) (by omega) (by rw [← hinv]; exact scanUp_stop (fun h => h2 h.1))
  intro i4 hi4 hi5 hsu4
  apply viaT (G := ∀ j : Nat, i4 ≤ j + 2 → a ≤ j → j ≤ j3 → scanDown (fun x => !ltInt x f[a]!) f i4 j3 = j → _)
  · intro tail
    refine sf_lp (ι := Nat) [0, 1, 10] (fun x => [(11, .int .i64 (x : Int))]) (fun x O' => O' = O3 ∧ i4 ≤ x + 2 ∧ a ≤ x ∧ x ≤ j3 ∧ scanDown (fun x => !ltInt x f[a]!) f i4 x = scanDown (fun x => !ltInt x f[a]!) f i4 (j3)) (fun x => x) (j3) O3 ⟨rfl, by omega, by omega, by omega, rfl⟩ ?_
    rintro x _ ⟨rfl, hx0, hx2, hx1, hinv⟩
    by_cases h2 : i4 ≤ x
    · obtain ⟨y, hy0⟩ : ∃ k, x = k + 1 := ⟨x - 1, by omega⟩
      have h3 : ((i4 : Nat) : Int) ≤ (x : Int) := by omega
      have u1 : gt f.toList x = f[x]! := gt_arr (by omega)
      refine Wo ?_
      refine Sd [[],[],[0,1],[0,1,2],[0,1,2,3],[0,1,2,3],[0,1,2,3,4,5],[0,1,2,3,4,5,6],[0,1,2,3],[0,1,2,3],[0,1,2,3,8,9],[0,1,2,3,8,9,10],[0,1,2,3,4,5,6,7,8,9,10,11],[0,1,2,3,4,5,6,7,8,9,10,11,12],[0,1,2,3,4,5,6,7,8,9,10,11,12,13]] 12 [Nn 0,Nn 1,Nn 2,Nn 3,Nn 4,Nn 5,Nn 6,Nn 7,Nn 8,Nn 9,Nn 10,Nn 11] ?_
      refine Di ?_
      refine Ae ?_
      refine Xv (less_v _ _ _) ?_
      refine Wo ?_
      rw [u1, uf]
      refine sf_ifn (fun h4 => ?_) fun h4 => ?_
      · refine Wo ?_
        subst hy0
        exact ⟨y, by omega, ⟨vI (show ((y + 1 : Nat) : Int) - 1 = (y : Int) by omega), trivial⟩, rfl, _, _, inferInstance, rfl, by omega, by omega, by omega, by rw [← hinv]; exact (scanDown_go h2 (by simp only [ltInt_is]; simp [h4])).symm⟩
      · refine sf_exit ?_
        refine Wo ?_
        (show Code.sf _ _ _ _ _ _ _ _; refine sf_keep [0, 1, 10, 11, 134] ?_)
        exact tail.out x (by omega) (by omega) (by omega) (by rw [← hinv]; exact scanDown_stop (fun h => absurd h4 (by simpa [ltInt_is] using h.2)))
    · have h3 : ¬ ((i4 : Nat) : Int) ≤ (x : Int) := by omega
      refine Wo ?_
      refine Sd [[],[],[0,1],[0,1,2],[0,1,2,3],[0,1,2,3],[0,1,2,3,4,5],[0,1,2,3,4,5,6],[0,1,2,3],[0,1,2,3],[0,1,2,3,8,9],[0,1,2,3,8,9,10],[0,1,2,3,4,5,6,7,8,9,10,11],[0,1,2,3,4,5,6,7,8,9,10,11,12],[0,1,2,3,4,5,6,7,8,9,10,11,12,13]] 12 [Nn 0,Nn 1,Nn 2,Nn 3,Nn 4,Nn 5,Nn 6,Nn 7,Nn 8,Nn 9,Nn 10,Nn 11] ?_
      refine Di ?_
      refine Ae ?_
      refine Wo ?_
      refine sf_cond (by rfl) (fun e => by cases e) fun z1 => ?_
      clear z1
      refine sf_exit ?_
      refine Wo ?_
      (show Code.sf _ _ _ _ _ _ _ _; refine sf_keep [0, 1, 10, 11, 134] ?_)
      exact tail.out x (by omega) (by omega) (by omega) (by rw [← hinv]; exact scanDown_stop (fun h => h2 h.1))
  intro j4 hj4 hj5 hj6 hsd4
  obtain ⟨s1, s2⟩ := partLoop_step hsu4 hsd4 hi4 hj6
  refine sf_if (fun h5 => ?_) fun h5 => ?_
  · refine sf_exit ?_
    have hP := hB _ (finv.symm.trans (s1 (by omega)))
    rw [hP]
    refine Wo ?_
    refine sf_draw (by kernel_rfl) (regX_own (O3) (regX_split 7 11 (by rfl) ?_ ?_))
    case' refine_1 =>
      refine Sw [[],[],[],[],[],[],[4,5],[4,5,6],[],[],[8,9],[4,5,6,7,8,9,10],[0,1,4,5,6,7,8,9,10,11],[0,1,4,5,6,7,8,9,10,11,12],[0,1,2,3,4,5,6,7,8,9,10,11,12,13],[0,1,2,3,4,5,6,7,8,9,10,11,12,13,14]] 14 [Nn 0,Nn 1,Nn 2,Nn 3,Nn 4,Nn 5,Nn 6,Nn 8,Nn 9,Nn 10,Yy 7,Yy 11,Nn 12,Yy 13] ?_
      refine Di ?_
      refine Yw (by rfl) (z_loadG (by rfl) gf (by omega) (by rfl)) ?_
      refine Di ?_
      refine Yw (by rfl) (z_loadG (by rfl) gf (by omega) (by rfl)) ?_
      refine Di ?_
      refine Yg gf fun As ys hy hl fs gg => ?_
      refine Di ?_
      refine Ae ?_
    case' refine_2 =>
      refine Sw [[],[],[],[],[],[],[4,5],[4,5,6,8,9,10,11],[],[],[8,9],[8,9,10],[0,1,4,5,6,7,8,9,10,11],[0,1,4,5,6,7,8,9,10,11,12],[0,1,2,3,4,5,6,7,8,9,10,11,12,13],[0,1,2,3,4,5,6,7,8,9,10,11,12,13,14]] 14 [Nn 0,Nn 1,Nn 2,Nn 3,Nn 4,Nn 5,Nn 6,Nn 8,Nn 9,Nn 10,Yy 11,Yy 7,Nn 12,Yy 13] ?_
      refine Di ?_
      refine Yw (by rfl) (z_loadG (by rfl) gf (by omega) (by rfl)) ?_
      refine Di ?_
      refine Yw (by rfl) (z_loadG (by rfl) gf (by omega) (by rfl)) ?_
      refine Di ?_
      refine Yg gf fun As ys hy hl fs gg => ?_
      refine Di ?_
      refine Ae ?_
    all_goals
      refine Wi ?_
      refine Xg gg fun At zs hz hlz fz gz => ?_
      refine Wi ?_
      have hf : zs = (swp f j4 a).toList := swp_is hy hz (by omega) (by omega) (by omega) (by omega) (by omega) (by omega)
      rw [hf] at gz
      exact sf_ret (rO At ⟨rfl, gz⟩)
  obtain ⟨j4, rfl⟩ : ∃ k, j4 = k + 1 := ⟨j4 - 1, by omega⟩
  have s3 := s2 (by omega) (by omega)
  refine Wo ?_
  refine sf_draw (by kernel_rfl) (regX_own (O3) (regX_split 7 11 (by rfl) ?_ ?_))
  case' refine_1 =>
    refine Sw [[],[],[],[],[],[],[4,5],[4,5,6],[],[],[8,9],[4,5,6,7,8,9,10],[0,1,4,5,6,7,8,9,10,11],[0,1,4,5,6,7,8,9,10,11,12],[0,1,2,3,4,5,6,7,8,9,10,11,12,13],[0,1,2,3,4,5,6,7,8,9,10,11,12,13,14]] 14 [Nn 0,Nn 1,Nn 2,Nn 3,Nn 4,Nn 5,Nn 6,Nn 8,Nn 9,Nn 10,Yy 7,Yy 11,Nn 12,Yy 13] ?_
    refine Di ?_
    refine Yw (by rfl) (z_loadG (by rfl) gf (by omega) (by rfl)) ?_
    refine Di ?_
    refine Yw (by rfl) (z_loadG (by rfl) gf (by omega) (by rfl)) ?_
    refine Di ?_
    refine Yg gf fun As ys hy hl fs gg => ?_
    refine Di ?_
    refine Ae ?_
  case' refine_2 =>
    refine Sw [[],[],[],[],[],[],[4,5],[4,5,6,8,9,10,11],[],[],[8,9],[8,9,10],[0,1,4,5,6,7,8,9,10,11],[0,1,4,5,6,7,8,9,10,11,12],[0,1,2,3,4,5,6,7,8,9,10,11,12,13],[0,1,2,3,4,5,6,7,8,9,10,11,12,13,14]] 14 [Nn 0,Nn 1,Nn 2,Nn 3,Nn 4,Nn 5,Nn 6,Nn 8,Nn 9,Nn 10,Yy 11,Yy 7,Nn 12,Yy 13] ?_
    refine Di ?_
    refine Yw (by rfl) (z_loadG (by rfl) gf (by omega) (by rfl)) ?_
    refine Di ?_
    refine Yw (by rfl) (z_loadG (by rfl) gf (by omega) (by rfl)) ?_
    refine Di ?_
    refine Yg gf fun As ys hy hl fs gg => ?_
    refine Di ?_
    refine Ae ?_
  all_goals
    refine Wi ?_
    refine Xg gg fun At zs hz hlz fz gz => ?_
    refine Wi ?_
    rw [show (((j4 + 1 : Nat) : Int) - 1) = (j4 : Int) by omega]
    have hf : zs = (swp f i4 (j4 + 1)).toList := swp_is hy hz (by omega) (by omega) (by omega) (by omega) (by omega) (by omega)
    rw [hf] at gz
    exact ⟨(i4 + 1, j4, swp f i4 (j4 + 1)), by simp only; omega, ⟨rfl, rfl, trivial⟩, rfl, _, _, inferInstance, gz, by simp only [swp_size]; exact fsz, by simp only; omega, by simp only; omega, by simp only; omega, by simp only; omega, by simp only; rw [← finv, s3]; rfl⟩
theorem partitionEqual_f (h : PHeap) (v : Value) (A : Own) (d : Array Int) (g : Gr A v 3 intF d.toList) (a b p : Nat) (hb : b ≤ d.size) (hs : d.size ≤ 1000000) (hab : a < b) (hp : a ≤ p ∧ p < b) :
    CallF Tryz.prog M 211 [v, .int .i64 (a : Int), .int .i64 (b : Int), .int .i64 (p : Int)] A h fun u A' => u = .int .i64 ((partitionEqual ltInt d a b p).1 : Int) ∧ Gr A' v 3 intF (partitionEqual ltInt d a b p).2.toList := by
  have o := g.one
  have ld : d.toList.length = d.size := by simp
  obtain ⟨n, rfl⟩ : ∃ n : Nat, b = n + 1 := ⟨b - 1, by omega⟩
  refine Cs Tryz.func211 Tryz.ntmps211 ?_
  refine Wo ?_
  apply viaT (G := ∀ (B : Own), Gr B v 3 intF (swp d a p).toList → _)
  · intro tail
    refine sf_draw (by kernel_rfl) (regX_own (A) (regX_split 7 11 (by rfl) ?_ ?_))
    case' refine_1 =>
      refine Sw [[],[],[],[],[],[],[4,5],[4,5,6],[],[],[8,9],[4,5,6,7,8,9,10],[0,1,4,5,6,7,8,9,10,11],[0,1,4,5,6,7,8,9,10,11,12],[0,1,2,3,4,5,6,7,8,9,10,11,12,13],[0,1,2,3,4,5,6,7,8,9,10,11,12,13,14]] 14 [Nn 0,Nn 1,Nn 2,Nn 3,Nn 4,Nn 5,Nn 6,Nn 8,Nn 9,Nn 10,Yy 7,Yy 11,Nn 12,Yy 13] ?_
      refine Di ?_
      refine Yw (by rfl) (z_loadG (by rfl) g (by omega) (by rfl)) ?_
      refine Di ?_
      refine Yw (by rfl) (z_loadG (by rfl) g (by omega) (by rfl)) ?_
      refine Di ?_
      refine Yg g fun As ys hy hl fs gg => ?_
      refine Di ?_
      refine Ae ?_
    case' refine_2 =>
      refine Sw [[],[],[],[],[],[],[4,5],[4,5,6,8,9,10,11],[],[],[8,9],[8,9,10],[0,1,4,5,6,7,8,9,10,11],[0,1,4,5,6,7,8,9,10,11,12],[0,1,2,3,4,5,6,7,8,9,10,11,12,13],[0,1,2,3,4,5,6,7,8,9,10,11,12,13,14]] 14 [Nn 0,Nn 1,Nn 2,Nn 3,Nn 4,Nn 5,Nn 6,Nn 8,Nn 9,Nn 10,Yy 11,Yy 7,Nn 12,Yy 13] ?_
      refine Di ?_
      refine Yw (by rfl) (z_loadG (by rfl) g (by omega) (by rfl)) ?_
      refine Di ?_
      refine Yw (by rfl) (z_loadG (by rfl) g (by omega) (by rfl)) ?_
      refine Di ?_
      refine Yg g fun As ys hy hl fs gg => ?_
      refine Di ?_
      refine Ae ?_
    all_goals
      refine Wi ?_
      refine Xg gg fun At zs hz hlz fz gz => ?_
      refine Wi ?_
      rw [show (((n + 1 : Nat) : Int) - 1) = (n : Int) by omega]
      have hf : zs = (swp d a p).toList := swp_is hy hz (by omega) (by omega) (by omega) (by omega) (by omega) (by omega)
      rw [hf] at gz
      show Code.sf _ _ _ _ _ _ _ _
      refine sf_keep [0, 1, 9, 10] ?_
      refine sf_own At ?_
      exact tail.out At gz
  intro B ge
  obtain ⟨e, he⟩ : ∃ e, e = swp d a p := ⟨_, rfl⟩
  rw [← he] at ge
  have es : e.size = d.size := by rw [he, swp_size]
  have hpe : partitionEqual ltInt d a (n + 1) p = partEqLoop ltInt a (a + 1) n e := by rw [he]; rfl
  rw [hpe]
  refine sf_lp (ι := Nat × Nat × Array Int) [0, 1] (fun x => [(9, .int .i64 (x.1 : Int)), (10, .int .i64 (x.2.1 : Int))]) (fun x O => Gr O v 3 intF x.2.2.toList ∧ x.2.2.size = d.size ∧ a + 1 ≤ x.1 ∧ x.1 ≤ x.2.1 + 2 ∧ a ≤ x.2.1 ∧ x.2.1 ≤ n ∧ partEqLoop ltInt a x.1 x.2.1 x.2.2 = partEqLoop ltInt a (a + 1) n e) (fun x => x.2.1 + 2 - x.1) (a + 1, n, e) B ⟨ge, by simp only; omega, by simp only; omega, by simp only; omega, by simp only; omega, by simp only; omega, rfl⟩ ?_
  rintro ⟨i3, j3, f⟩ O3 ⟨gf, fsz, k1, k2, k3, k4, finv⟩
  simp only at gf fsz k1 k2 k3 k4 finv ⊢
  have lf : f.toList.length = f.size := by simp
  have uf : gt f.toList a = f[a]! := gt_arr (by omega)
  refine Wo ?_
  apply viaT (G := ∀ i : Nat, i3 ≤ i → i ≤ j3 + 2 → scanUp (fun x => !ltInt f[a]! x) f j3 i3 = i → _)
  · intro tail
    refine sf_lp (ι := Nat) [0, 1, 10] (fun x => [(9, .int .i64 (x : Int))]) (fun x O' => O' = O3 ∧ i3 ≤ x ∧ x ≤ j3 + 2 ∧ scanUp (fun x => !ltInt f[a]! x) f j3 x = scanUp (fun x => !ltInt f[a]! x) f j3 (i3)) (fun x => j3 + 2 - x) (i3) O3 ⟨rfl, by omega, by omega, rfl⟩ ?_
    rintro x _ ⟨rfl, hx0, hx1, hinv⟩
    by_cases h2 : x ≤ j3
    · have h3 : (x : Int) ≤ ((j3 : Nat) : Int) := by omega
      have u1 : gt f.toList x = f[x]! := gt_arr (by omega)
      refine Wo ?_
      refine Sd [[],[],[0,1],[0,1,2],[0,1,2,3],[0,1,2,3],[0,1,2,3,4,5],[0,1,2,3,4,5,6],[0,1,2,3],[0,1,2,3],[0,1,2,3,8,9],[0,1,2,3,8,9,10],[0,1,2,3,4,5,6,7,8,9,10,11],[0,1,2,3,4,5,6,7,8,9,10,11,12],[0,1,2,3,4,5,6,7,8,9,10,11,12,13]] 12 [Nn 0,Nn 1,Nn 2,Nn 3,Nn 4,Nn 5,Nn 6,Nn 7,Nn 8,Nn 9,Nn 10,Nn 11] ?_
      refine Di ?_
      refine Ae ?_
      refine Xv (less_v _ _ _) ?_
      refine Wo ?_
      rw [u1, uf]
      refine sf_ifn (fun h4 => ?_) fun h4 => ?_
      · refine Wo ?_
        exact ⟨x + 1, by omega, ⟨rfl, trivial⟩, rfl, _, _, inferInstance, rfl, by omega, by omega, by rw [← hinv]; exact (scanUp_go h2 (by simp only [ltInt_is]; simp [h4])).symm⟩
      · refine sf_exit ?_
        refine Wo ?_
        refine sf_keep [0, 1, 9, 10] ?_
        exact tail.out x (by omega) (by omega) (by rw [← hinv]; exact scanUp_stop (fun h => absurd h4 (by simpa [ltInt_is] using h.2)))
    · have h3 : ¬ (x : Int) ≤ ((j3 : Nat) : Int) := by omega
      refine Wo ?_
      refine Sd [[],[],[0,1],[0,1,2],[0,1,2,3],[0,1,2,3],[0,1,2,3,4,5],[0,1,2,3,4,5,6],[0,1,2,3],[0,1,2,3],[0,1,2,3,8,9],[0,1,2,3,8,9,10],[0,1,2,3,4,5,6,7,8,9,10,11],[0,1,2,3,4,5,6,7,8,9,10,11,12],[0,1,2,3,4,5,6,7,8,9,10,11,12,13]] 12 [Nn 0,Nn 1,Nn 2,Nn 3,Nn 4,Nn 5,Nn 6,Nn 7,Nn 8,Nn 9,Nn 10,Nn 11] ?_
      refine Di ?_
      refine Ae ?_
      refine Wo ?_
      refine sf_cond (by rfl) (fun e => by cases e) fun z1 => ?_
      clear z1
      refine sf_exit ?_
      refine Wo ?_
      refine sf_keep [0, 1, 9, 10] ?_
      exact tail.out x (by omega) (by omega) (by rw [← hinv]; exact scanUp_stop (fun h => h2 h.1))
  intro i4 hi4 hi5 hsu4
  apply viaT (G := ∀ j : Nat, i4 ≤ j + 2 → a ≤ j → j ≤ j3 → scanDown (fun x => ltInt f[a]! x) f i4 j3 = j → _)
  · intro tail
    refine sf_lp (ι := Nat) [0, 1, 9] (fun x => [(10, .int .i64 (x : Int))]) (fun x O' => O' = O3 ∧ i4 ≤ x + 2 ∧ a ≤ x ∧ x ≤ j3 ∧ scanDown (fun x => ltInt f[a]! x) f i4 x = scanDown (fun x => ltInt f[a]! x) f i4 (j3)) (fun x => x) (j3) O3 ⟨rfl, by omega, by omega, by omega, rfl⟩ ?_
    rintro x _ ⟨rfl, hx0, hx2, hx1, hinv⟩
    by_cases h2 : i4 ≤ x
    · obtain ⟨y, hy0⟩ : ∃ k, x = k + 1 := ⟨x - 1, by omega⟩
      have h3 : ((i4 : Nat) : Int) ≤ (x : Int) := by omega
      have u1 : gt f.toList x = f[x]! := gt_arr (by omega)
      refine Wo ?_
      refine Sd [[],[],[0,1],[0,1,2],[0,1,2,3],[0,1,2,3],[0,1,2,3,4,5],[0,1,2,3,4,5,6],[0,1,2,3],[0,1,2,3],[0,1,2,3,8,9],[0,1,2,3,8,9,10],[0,1,2,3,4,5,6,7,8,9,10,11],[0,1,2,3,4,5,6,7,8,9,10,11,12]] 12 [Nn 0,Nn 1,Nn 2,Nn 3,Nn 4,Nn 5,Nn 6,Nn 7,Nn 8,Nn 9,Nn 10,Nn 11] ?_
      refine Di ?_
      refine Ae ?_
      refine Xv (less_v _ _ _) ?_
      refine Wo ?_
      rw [u1, uf]
      refine sf_if (fun h4 => ?_) fun h4 => ?_
      · refine Wo ?_
        subst hy0
        exact ⟨y, by omega, ⟨vI (show ((y + 1 : Nat) : Int) - 1 = (y : Int) by omega), trivial⟩, rfl, _, _, inferInstance, rfl, by omega, by omega, by omega, by rw [← hinv]; exact (scanDown_go h2 (by simp only [ltInt_is]; simp [h4])).symm⟩
      · refine sf_exit ?_
        refine Wo ?_
        (show Code.sf _ _ _ _ _ _ _ _; refine sf_keep [0, 1, 9, 10, 64] ?_)
        exact tail.out x (by omega) (by omega) (by omega) (by rw [← hinv]; exact scanDown_stop (fun h => h4 (by simpa [ltInt_is] using h.2)))
    · have h3 : ¬ ((i4 : Nat) : Int) ≤ (x : Int) := by omega
      refine Wo ?_
      refine Sd [[],[],[0,1],[0,1,2],[0,1,2,3],[0,1,2,3],[0,1,2,3,4,5],[0,1,2,3,4,5,6],[0,1,2,3],[0,1,2,3],[0,1,2,3,8,9],[0,1,2,3,8,9,10],[0,1,2,3,4,5,6,7,8,9,10,11],[0,1,2,3,4,5,6,7,8,9,10,11,12]] 12 [Nn 0,Nn 1,Nn 2,Nn 3,Nn 4,Nn 5,Nn 6,Nn 7,Nn 8,Nn 9,Nn 10,Nn 11] ?_
      refine Di ?_
      refine Ae ?_
      refine Wo ?_
      refine sf_cond (by rfl) (fun e => by cases e) fun z1 => ?_
      clear z1
      refine sf_exit ?_
      refine Wo ?_
      (show Code.sf _ _ _ _ _ _ _ _; refine sf_keep [0, 1, 9, 10, 64] ?_)
      exact tail.out x (by omega) (by omega) (by omega) (by rw [← hinv]; exact scanDown_stop (fun h => h2 h.1))
  intro j4 hj4 hj5 hj6 hsd4
  obtain ⟨s1, s2⟩ := partEqLoop_step hsu4 hsd4 hi4 hj6
  refine sf_if (fun h5 => ?_) fun h5 => ?_
  · refine sf_exit ?_
    rw [← finv, s1 (by omega)]
    refine Wo ?_
    exact sf_ret (rO O3 ⟨rfl, gf⟩)
  obtain ⟨j4, rfl⟩ : ∃ k, j4 = k + 1 := ⟨j4 - 1, by omega⟩
  have s3 := s2 (by omega) (by omega)
  refine Wo ?_
  refine sf_draw (by kernel_rfl) (regX_own (O3) (regX_split 7 11 (by rfl) ?_ ?_))
  case' refine_1 =>
    refine Sw [[],[],[],[],[],[],[4,5],[4,5,6],[],[],[8,9],[4,5,6,7,8,9,10],[0,1,4,5,6,7,8,9,10,11],[0,1,4,5,6,7,8,9,10,11,12],[0,1,2,3,4,5,6,7,8,9,10,11,12,13],[0,1,2,3,4,5,6,7,8,9,10,11,12,13,14]] 14 [Nn 0,Nn 1,Nn 2,Nn 3,Nn 4,Nn 5,Nn 6,Nn 8,Nn 9,Nn 10,Yy 7,Yy 11,Nn 12,Yy 13] ?_
    refine Di ?_
    refine Yw (by rfl) (z_loadG (by rfl) gf (by omega) (by rfl)) ?_
    refine Di ?_
    refine Yw (by rfl) (z_loadG (by rfl) gf (by omega) (by rfl)) ?_
    refine Di ?_
    refine Yg gf fun As ys hy hl fs gg => ?_
    refine Di ?_
    refine Ae ?_
  case' refine_2 =>
    refine Sw [[],[],[],[],[],[],[4,5],[4,5,6,8,9,10,11],[],[],[8,9],[8,9,10],[0,1,4,5,6,7,8,9,10,11],[0,1,4,5,6,7,8,9,10,11,12],[0,1,2,3,4,5,6,7,8,9,10,11,12,13],[0,1,2,3,4,5,6,7,8,9,10,11,12,13,14]] 14 [Nn 0,Nn 1,Nn 2,Nn 3,Nn 4,Nn 5,Nn 6,Nn 8,Nn 9,Nn 10,Yy 11,Yy 7,Nn 12,Yy 13] ?_
    refine Di ?_
    refine Yw (by rfl) (z_loadG (by rfl) gf (by omega) (by rfl)) ?_
    refine Di ?_
    refine Yw (by rfl) (z_loadG (by rfl) gf (by omega) (by rfl)) ?_
    refine Di ?_
    refine Yg gf fun As ys hy hl fs gg => ?_
    refine Di ?_
    refine Ae ?_
  all_goals
    refine Wi ?_
    refine Xg gg fun At zs hz hlz fz gz => ?_
    refine Wi ?_
    rw [show (((j4 + 1 : Nat) : Int) - 1) = (j4 : Int) by omega]
    have hf : zs = (swp f i4 (j4 + 1)).toList := swp_is hy hz (by omega) (by omega) (by omega) (by omega) (by omega) (by omega)
    rw [hf] at gz
    exact ⟨(i4 + 1, j4, swp f i4 (j4 + 1)), by simp only; omega, ⟨rfl, rfl, trivial⟩, rfl, _, _, inferInstance, gz, by simp only [swp_size]; exact fsz, by simp only; omega, by simp only; omega, by simp only; omega, by simp only; omega, by simp only; rw [← finv, s3]; rfl⟩
theorem partialInsertionSort_f (h : PHeap) (v : Value) (A : Own) (d : Array Int) (g : Gr A v 3 intF d.toList) (a b : Nat) (hb : b ≤ d.size) (hs : d.size ≤ 1000000) (hab : a < b) :
    CallF Tryz.prog M 209 [v, .int .i64 (a : Int), .int .i64 (b : Int)] A h fun u A' => u = .bool (partialInsertionSort ltInt d a b).2 ∧ Gr A' v 3 intF (partialInsertionSort ltInt d a b).1.toList := by
  have o := g.one
  refine Cs Tryz.func209 Tryz.ntmps209 ?_
  refine Wo ?_
  refine sf_lp (ι := Nat × Nat × Array Int) [0, 1, 2] (fun x => [(8, .int .i64 (5 - (x.1 : Int))), (7, .int .i64 (x.2.1 : Int))]) (fun x O => Gr O v 3 intF x.2.2.toList ∧ x.2.2.size = d.size ∧ x.1 ≤ 5 ∧ a + 1 ≤ x.2.1 ∧ x.2.1 ≤ b ∧ partialIns ltInt a b x.1 x.2.1 x.2.2 = partialInsertionSort ltInt d a b) (fun x => x.1) (5, a + 1, d) A ⟨g, rfl, by simp only; omega, by simp only; omega, by simp only; omega, rfl⟩ ?_
  rintro ⟨s, i, f⟩ O ⟨gf, fsz, hs5, hi, hib, finv⟩
  simp only at gf fsz hs5 hi hib finv ⊢
  have lf : f.toList.length = f.size := by simp
  refine Wo ?_
  refine sf_if (fun h1 => ?_) fun h1 => ?_
  · obtain ⟨s, rfl⟩ : ∃ k, s = k + 1 := ⟨s - 1, by omega⟩
    refine Wo ?_
    apply viaT (G := ∀ i2 : Nat, i ≤ i2 → i2 ≤ b → scanSorted ltInt f b i = i2 → _)
    · intro tail
      refine sf_lp (ι := Nat) [0, 1, 2, 8] (fun x => [(7, .int .i64 (x : Int))]) (fun x O' => O' = O ∧ i ≤ x ∧ x ≤ b ∧ scanSorted ltInt f b x = scanSorted ltInt f b i) (fun x => b - x) i O ⟨rfl, by omega, hib, rfl⟩ ?_
      rintro x _ ⟨rfl, hx0, hx1, hinv⟩
      by_cases h2 : x < b
      · have h3 : (x : Int) < ((b : Nat) : Int) := by omega
        have u1 : gt f.toList x = f[x]! := gt_arr (by omega)
        have u2 : gt f.toList ((x : Int) - 1).toNat = f[x - 1]! := gt_arr' (by omega) (by omega)
        refine Wo ?_
        refine Sd [[],[],[0,1],[0,1,2],[0,1,2,3],[0,1,2,3],[0,1,2,3,4,5],[0,1,2,3,4,5,6],[0,1,2,3],[0,1,2,3],[0,1,2,3,9],[0,1,2,3,8,9,10],[0,1,2,3,8,9,10,11],[0,1,2,3,4,5,6,7,8,9,10,11,12],[0,1,2,3,4,5,6,7,8,9,10,11,12,13],[0,1,2,3,4,5,6,7,8,9,10,11,12,13,14]] 13 [Nn 0,Nn 1,Nn 2,Nn 3,Nn 4,Nn 5,Nn 6,Nn 7,Nn 8,Nn 9,Nn 10,Nn 11,Nn 12] ?_
        refine Di ?_
        refine Ae ?_
        refine Xv (less_v _ _ _) ?_
        refine Wo ?_
        rw [u1, u2]
        refine sf_ifn (fun h4 => ?_) fun h4 => ?_
        · refine Wo ?_
          exact ⟨x + 1, by omega, ⟨rfl, trivial⟩, rfl, _, _, inferInstance, rfl, by omega, by omega, by rw [← hinv]; exact (scanSorted_go h2 h4).symm⟩
        · refine sf_exit ?_
          refine Wo ?_
          show Code.sf _ _ _ _ _ _ _ _
          refine sf_keep [0, 1, 2, 7, 8, 37] ?_
          exact tail.out x hx0 hx1 (by rw [← hinv]; exact scanSorted_stop fun h => h.2 h4)
      · have h3 : ¬ (x : Int) < ((b : Nat) : Int) := by omega
        refine Wo ?_
        refine Sd [[],[],[0,1],[0,1,2],[0,1,2,3],[0,1,2,3],[0,1,2,3,4,5],[0,1,2,3,4,5,6],[0,1,2,3],[0,1,2,3],[0,1,2,3,9],[0,1,2,3,8,9,10],[0,1,2,3,8,9,10,11],[0,1,2,3,4,5,6,7,8,9,10,11,12],[0,1,2,3,4,5,6,7,8,9,10,11,12,13],[0,1,2,3,4,5,6,7,8,9,10,11,12,13,14]] 13 [Nn 0,Nn 1,Nn 2,Nn 3,Nn 4,Nn 5,Nn 6,Nn 7,Nn 8,Nn 9,Nn 10,Nn 11,Nn 12] ?_
        refine Di ?_
        refine Ae ?_
        refine Wo ?_
        refine sf_cond (by rfl) (fun e => by cases e) fun z1 => ?_
        clear z1
        refine sf_exit ?_
        refine Wo ?_
        show Code.sf _ _ _ _ _ _ _ _
        refine sf_keep [0, 1, 2, 7, 8, 37] ?_
        exact tail.out x hx0 hx1 (by rw [← hinv]; exact scanSorted_stop fun h => h2 h.1)
    intro i2 hi2 hi3 hsc
    obtain ⟨p1, p2, p3⟩ := partialIns_step (a := a) (s := s) hsc
    refine sf_if (fun h5 => ?_) fun h5 => ?_
    · refine Wo ?_
      refine sf_ret (rO O ?_)
      rw [← finv, p1 (by omega)]
      exact ⟨rfl, gf⟩
    refine Wo ?_
    refine sf_if (fun h6 => ?_) fun h6 => ?_
    · refine Wo ?_
      refine sf_ret (rO O ?_)
      rw [← finv, p2 (by omega) (by omega)]
      exact ⟨rfl, gf⟩
    have p4 := p3 (by omega) (by omega) _ _ rfl rfl
    clear p1 p2 p3
    rw [finv] at p4
    clear finv
    refine Wo ?_
    apply viaT (G := ∀ (B : Own), Gr B v 3 intF (swp f i2 (i2 - 1)).toList → _)
    · intro tail
      refine sf_draw (by kernel_rfl) (regX_own (O) (regX_split 9 13 (by rfl) ?_ ?_))
      case' refine_1 =>
        refine Sw [[],[],[],[],[3],[],[],[6],[5,6,7],[5,6,7,8],[],[],[10,11],[5,6,7,8,9,10,11,12],[0,1,5,6,7,8,9,10,11,12,13],[0,1,5,6,7,8,9,10,11,12,13,14],[0,1,2,3,4,5,6,7,8,9,10,11,12,13,14,15],[0,1,2,3,4,5,6,7,8,9,10,11,12,13,14,15,16]] 16 [Nn 0,Nn 1,Nn 2,Nn 3,Nn 4,Nn 5,Nn 6,Nn 7,Nn 8,Nn 10,Nn 11,Nn 12,Yy 9,Yy 13,Nn 14,Yy 15] ?_
        refine Di ?_
        refine Yw (by rfl) (z_loadG (by rfl) gf (by omega) (by rfl)) ?_
        refine Di ?_
        refine Yw (by rfl) (z_loadG (by rfl) gf (by omega) (by rfl)) ?_
        refine Di ?_
        refine Yg gf fun As ys hy hl fs gg => ?_
        refine Di ?_
        refine Ae ?_
      case' refine_2 =>
        refine Sw [[],[],[],[],[3],[],[],[6],[5,6,7],[5,6,7,8,10,11,12,13],[],[],[10,11],[10,11,12],[0,1,5,6,7,8,9,10,11,12,13],[0,1,5,6,7,8,9,10,11,12,13,14],[0,1,2,3,4,5,6,7,8,9,10,11,12,13,14,15],[0,1,2,3,4,5,6,7,8,9,10,11,12,13,14,15,16]] 16 [Nn 0,Nn 1,Nn 2,Nn 3,Nn 4,Nn 5,Nn 6,Nn 7,Nn 8,Nn 10,Nn 11,Nn 12,Yy 13,Yy 9,Nn 14,Yy 15] ?_
        refine Di ?_
        refine Yw (by rfl) (z_loadG (by rfl) gf (by omega) (by rfl)) ?_
        refine Di ?_
        refine Yw (by rfl) (z_loadG (by rfl) gf (by omega) (by rfl)) ?_
        refine Di ?_
        refine Yg gf fun As ys hy hl fs gg => ?_
        refine Di ?_
        refine Ae ?_
      all_goals
        refine Wi ?_
        refine Xg gg fun At zs hz hlz fz gz => ?_
        refine Wi ?_
        have hf : zs = (swp f i2 (i2 - 1)).toList := swp_is hy hz (by omega) (by omega) (by omega) (by omega) (by omega) (by omega)
        rw [hf] at gz
        show Code.sf _ _ _ _ _ _ _ _
        refine sf_keep [0, 1, 2, 7, 8, 61] ?_
        refine sf_own At ?_
        exact tail.out At gz
    intro B ge
    obtain ⟨e, he⟩ : ∃ e, e = swp f i2 (i2 - 1) := ⟨_, rfl⟩
    rw [← he] at ge p4
    have es : e.size = d.size := by rw [he, swp_size]; exact fsz
    apply viaT (G := ∀ (B : Own), Gr B v 3 intF (if 2 ≤ i2 - a then shiftDown ltInt (i2 - 1) e else e).toList → (if 2 ≤ i2 - a then shiftDown ltInt (i2 - 1) e else e).size = d.size → _)
    · intro tail
      refine sf_if (fun h7 => ?_) fun h7 => ?_
      · rw [if_pos (by omega)] at tail
        refine Wo ?_
        rw [show ((i2 : Int) - 1) = ((i2 - 1 : Nat) : Int) by omega]
        refine sf_lp (ι := Nat × Array Int) [0, 1, 2, 7, 8] (fun x => [(9, .int .i64 (x.1 : Int))]) (fun x O => Gr O v 3 intF x.2.toList ∧ x.2.size = d.size ∧ x.1 < b ∧ shiftDown ltInt x.1 x.2 = shiftDown ltInt (i2 - 1) e) (fun x => x.1) (i2 - 1, e) B ⟨ge, es, by simp only; omega, rfl⟩ ?_
        rintro ⟨j, f2⟩ O2 ⟨gf2, f2sz, hj, f2inv⟩
        simp only at gf2 f2sz hj f2inv ⊢
        have lf2 : f2.toList.length = f2.size := by simp
        refine Wo ?_
        refine sf_if (fun h8 => ?_) fun h8 => ?_
        · obtain ⟨j, rfl⟩ : ∃ k, j = k + 1 := ⟨j - 1, by omega⟩
          have u1 : gt f2.toList (j + 1) = f2[j + 1]! := gt_arr (by omega)
          have u2 : gt f2.toList (((j + 1 : Nat) : Int) - 1).toNat = f2[j]! := gt_arr' (by omega) (by omega)
          refine Wo ?_
          refine Sd [[],[],[0,1],[0,1,2],[],[],[5],[4,5,6],[4,5,6,7],[0,1,2,3,4,5,6,7,8],[0,1,2,3,4,5,6,7,8,9]] 9 [Nn 0,Nn 1,Nn 2,Nn 3,Nn 4,Nn 5,Nn 6,Nn 7,Nn 8] ?_
          refine Di ?_
          refine Ae ?_
          refine Xv (less_v _ _ _) ?_
          refine Wo ?_
          rw [u1, u2]
          refine sf_ifn (fun h9 => ?_) fun h9 => ?_
          · refine sf_exit ?_
            have fin := f2inv.symm.trans (shiftDown_stop h9)
            rw [fin] at tail
            refine Wo ?_
            show Code.sf _ _ _ _ _ _ _ _
            refine sf_keep [0, 1, 2, 7, 8, 98] ?_
            refine sf_own O2 ?_
            exact tail.out O2 gf2 f2sz
          · refine Wo ?_
            refine sf_draw (by kernel_rfl) (regX_own (O2) (regX_split 9 13 (by rfl) ?_ ?_))
            case' refine_1 =>
              refine Sw [[],[],[],[],[3],[],[],[6],[5,6,7],[5,6,7,8],[],[],[10,11],[5,6,7,8,9,10,11,12],[0,1,5,6,7,8,9,10,11,12,13],[0,1,5,6,7,8,9,10,11,12,13,14],[0,1,2,3,4,5,6,7,8,9,10,11,12,13,14,15],[0,1,2,3,4,5,6,7,8,9,10,11,12,13,14,15,16]] 16 [Nn 0,Nn 1,Nn 2,Nn 3,Nn 4,Nn 5,Nn 6,Nn 7,Nn 8,Nn 10,Nn 11,Nn 12,Yy 9,Yy 13,Nn 14,Yy 15] ?_
              refine Di ?_
              refine Yw (by rfl) (z_loadG (by rfl) gf2 (by omega) (by rfl)) ?_
              refine Di ?_
              refine Yw (by rfl) (z_loadG (by rfl) gf2 (by omega) (by rfl)) ?_
              refine Di ?_
              refine Yg gf2 fun As ys hy hl fs gg => ?_
              refine Di ?_
              refine Ae ?_
            case' refine_2 =>
              refine Sw [[],[],[],[],[3],[],[],[6],[5,6,7],[5,6,7,8,10,11,12,13],[],[],[10,11],[10,11,12],[0,1,5,6,7,8,9,10,11,12,13],[0,1,5,6,7,8,9,10,11,12,13,14],[0,1,2,3,4,5,6,7,8,9,10,11,12,13,14,15],[0,1,2,3,4,5,6,7,8,9,10,11,12,13,14,15,16]] 16 [Nn 0,Nn 1,Nn 2,Nn 3,Nn 4,Nn 5,Nn 6,Nn 7,Nn 8,Nn 10,Nn 11,Nn 12,Yy 13,Yy 9,Nn 14,Yy 15] ?_
              refine Di ?_
              refine Yw (by rfl) (z_loadG (by rfl) gf2 (by omega) (by rfl)) ?_
              refine Di ?_
              refine Yw (by rfl) (z_loadG (by rfl) gf2 (by omega) (by rfl)) ?_
              refine Di ?_
              refine Yg gf2 fun As ys hy hl fs gg => ?_
              refine Di ?_
              refine Ae ?_
            all_goals
              refine Wi ?_
              refine Xg gg fun At zs hz hlz fz gz => ?_
              refine Wi ?_
              rw [show (((j + 1 : Nat) : Int) - 1) = (j : Int) by omega]
              have hf : zs = (swp f2 (j + 1) j).toList := swp_is hy hz (by omega) (by omega) (by omega) (by omega) (by omega) (by omega)
              rw [hf] at gz
              exact ⟨(j, swp f2 (j + 1) j), by simp only; omega, ⟨rfl, trivial⟩, rfl, _, _, inferInstance, gz, by simp only [swp_size]; exact f2sz, by simp only; omega, by simp only; rw [← f2inv, shiftDown_go h9]⟩
        · obtain rfl : j = 0 := by omega
          refine sf_exit ?_
          have fin : shiftDown ltInt (i2 - 1) e = f2 := f2inv.symm
          rw [fin] at tail
          refine Wo ?_
          show Code.sf _ _ _ _ _ _ _ _
          refine sf_keep [0, 1, 2, 7, 8, 98] ?_
          refine sf_own O2 ?_
          exact tail.out O2 gf2 f2sz
      · rw [if_neg (by omega)] at tail
        refine Wo ?_
        show Code.sf _ _ _ _ _ _ _ _
        refine sf_keep [0, 1, 2, 7, 8, 98] ?_
        exact tail.out B ge es
    intro B2 ge2 es2
    obtain ⟨e2, he2⟩ : ∃ e2, e2 = (if 2 ≤ i2 - a then shiftDown ltInt (i2 - 1) e else e) := ⟨_, rfl⟩
    rw [← he2] at ge2 p4 es2
    refine sf_if (fun h7 => ?_) fun h7 => ?_
    · rw [if_pos (by omega)] at p4
      refine Wo ?_
      refine sf_lp (ι := Nat × Array Int) [0, 1, 2, 7, 8] (fun x => [(10, .int .i64 (x.1 : Int))]) (fun x O => Gr O v 3 intF x.2.toList ∧ x.2.size = d.size ∧ 1 ≤ x.1 ∧ x.1 ≤ b ∧ shiftUp ltInt b x.1 x.2 = shiftUp ltInt b (i2 + 1) e2) (fun x => b - x.1) (i2 + 1, e2) B2 ⟨ge2, es2, by simp only; omega, by simp only; omega, rfl⟩ ?_
      rintro ⟨j, f2⟩ O2 ⟨gf2, f2sz, hj0, hj, f2inv⟩
      simp only at gf2 f2sz hj0 hj f2inv ⊢
      have lf2 : f2.toList.length = f2.size := by simp
      refine Wo ?_
      refine sf_if (fun h8 => ?_) fun h8 => ?_
      · have u1 : gt f2.toList j = f2[j]! := gt_arr (by omega)
        have u2 : gt f2.toList ((j : Int) - 1).toNat = f2[j - 1]! := gt_arr' (by omega) (by omega)
        refine Wo ?_
        refine Sd [[],[],[0,1],[0,1,2],[],[],[5],[4,5,6],[4,5,6,7],[0,1,2,3,4,5,6,7,8],[0,1,2,3,4,5,6,7,8,9]] 9 [Nn 0,Nn 1,Nn 2,Nn 3,Nn 4,Nn 5,Nn 6,Nn 7,Nn 8] ?_
        refine Di ?_
        refine Ae ?_
        refine Xv (less_v _ _ _) ?_
        refine Wo ?_
        rw [u1, u2]
        refine sf_ifn (fun h9 => ?_) fun h9 => ?_
        · refine sf_exit ?_
          have fin := f2inv.symm.trans (shiftUp_stop fun h => h9 h.2)
          rw [fin] at p4
          refine Wo ?_
          exact ⟨(s, i2, f2), by simp only; omega, ⟨vI (show (5 : Int) - ((s + 1 : Nat) : Int) + 1 = 5 - (s : Int) by omega), rfl, trivial⟩, rfl, _, _, inferInstance, gf2, f2sz, by simp only; omega, by simp only; omega, hi3, p4.symm⟩
        · refine Wo ?_
          refine sf_draw (by kernel_rfl) (regX_own (O2) (regX_split 9 13 (by rfl) ?_ ?_))
          case' refine_1 =>
            refine Sw [[],[],[],[],[3],[],[],[6],[5,6,7],[5,6,7,8],[],[],[10,11],[5,6,7,8,9,10,11,12],[0,1,5,6,7,8,9,10,11,12,13],[0,1,5,6,7,8,9,10,11,12,13,14],[0,1,2,3,4,5,6,7,8,9,10,11,12,13,14,15],[0,1,2,3,4,5,6,7,8,9,10,11,12,13,14,15,16]] 16 [Nn 0,Nn 1,Nn 2,Nn 3,Nn 4,Nn 5,Nn 6,Nn 7,Nn 8,Nn 10,Nn 11,Nn 12,Yy 9,Yy 13,Nn 14,Yy 15] ?_
            refine Di ?_
            refine Yw (by rfl) (z_loadG (by rfl) gf2 (by omega) (by rfl)) ?_
            refine Di ?_
            refine Yw (by rfl) (z_loadG (by rfl) gf2 (by omega) (by rfl)) ?_
            refine Di ?_
            refine Yg gf2 fun As ys hy hl fs gg => ?_
            refine Di ?_
            refine Ae ?_
          case' refine_2 =>
            refine Sw [[],[],[],[],[3],[],[],[6],[5,6,7],[5,6,7,8,10,11,12,13],[],[],[10,11],[10,11,12],[0,1,5,6,7,8,9,10,11,12,13],[0,1,5,6,7,8,9,10,11,12,13,14],[0,1,2,3,4,5,6,7,8,9,10,11,12,13,14,15],[0,1,2,3,4,5,6,7,8,9,10,11,12,13,14,15,16]] 16 [Nn 0,Nn 1,Nn 2,Nn 3,Nn 4,Nn 5,Nn 6,Nn 7,Nn 8,Nn 10,Nn 11,Nn 12,Yy 13,Yy 9,Nn 14,Yy 15] ?_
            refine Di ?_
            refine Yw (by rfl) (z_loadG (by rfl) gf2 (by omega) (by rfl)) ?_
            refine Di ?_
            refine Yw (by rfl) (z_loadG (by rfl) gf2 (by omega) (by rfl)) ?_
            refine Di ?_
            refine Yg gf2 fun As ys hy hl fs gg => ?_
            refine Di ?_
            refine Ae ?_
          all_goals
            refine Wi ?_
            refine Xg gg fun At zs hz hlz fz gz => ?_
            refine Wi ?_
            have hf : zs = (swp f2 j (j - 1)).toList := swp_is hy hz (by omega) (by omega) (by omega) (by omega) (by omega) (by omega)
            rw [hf] at gz
            exact ⟨(j + 1, swp f2 j (j - 1)), by simp only; omega, ⟨rfl, trivial⟩, rfl, _, _, inferInstance, gz, by simp only [swp_size]; exact f2sz, by simp only; omega, by simp only; omega, by simp only; rw [← f2inv, shiftUp_go (by omega) h9]⟩
      · refine sf_exit ?_
        have fin := f2inv.symm.trans (shiftUp_stop fun h => h8 (by omega))
        rw [fin] at p4
        refine Wo ?_
        exact ⟨(s, i2, f2), by simp only; omega, ⟨vI (show (5 : Int) - ((s + 1 : Nat) : Int) + 1 = 5 - (s : Int) by omega), rfl, trivial⟩, rfl, _, _, inferInstance, gf2, f2sz, by simp only; omega, by simp only; omega, hi3, p4.symm⟩
    · rw [if_neg (by omega)] at p4
      refine Wo ?_
      exact ⟨(s, i2, e2), by simp only; omega, ⟨vI (show (5 : Int) - ((s + 1 : Nat) : Int) + 1 = 5 - (s : Int) by omega), rfl, trivial⟩, rfl, _, _, inferInstance, ge2, es2, by simp only; omega, by simp only; omega, hi3, p4.symm⟩
  · refine sf_exit ?_
    refine Wo ?_
    refine sf_ret (rO O ?_)
    obtain rfl : s = 0 := by omega
    rw [← finv]
    exact ⟨rfl, gf⟩
end Go.Proofs.YtcpkcmgjfcbnpaaGreatDoor

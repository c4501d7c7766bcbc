/- Walks: drawing grids, seldom spoilt. -/
import Derived.Test.YtcefbjpebgofjaaGreatDoorN3
import Derived.Test.YtcefbjpebgofjaaGreatDoorSmT
set_option linter.unusedVariables false
set_option linter.unusedSimpArgs false
set_option linter.unusedSectionVars false

namespace Go.Proofs.YtcefbjpebgofjaaGreatDoor
open Go Go.Sl
set_option maxRecDepth 100000
set_option maxHeartbeats 4000000
attribute [local irreducible] Go.Code.sf sfOps Opq opo retF Do1 anyO
variable {M : Jdg → Prop} [IsCl Tryz.prog M]

/-- A drawn grid: its cells lie in own blocks, to be lent. -/
def Drawn (u : Value) (g : Grid) (A : Own) : Prop := ∃ c, u = .agg #[.int .i64 g.wide, c] ∧ Sl.One c ∧ ∀ h', InB h' A → Sl h' c cellF g.cells
theorem drawn_gr {A : Own} {c : Value} {g : Grid} (gr : Gr A c 61 cellF g.cells) (hl : g.cells.length ≤ 100) : Drawn (.agg #[.int .i64 g.wide, c]) g A := ⟨c, rfl, gr.one, fun h' i => gr.lent (by omega) i⟩

theorem l71Some_f (h : PHeap) (br : Nat) (v : Value) (xs : List (Fin 256)) (s : Sl h v u8F xs) (hs : xs.length ≤ 2000) (p : Nat) (hp1 : p ≤ 990000) : CallF Tryz.prog M 12 [.pointer (some ⟨br, 0, none⟩)] (rdA br v p) h fun u A => ∃ (g : Grid) (A' : Own) (q : Nat), Drawn u g A' ∧ g.cells.length ≤ 100 ∧ q ≤ p + 100 ∧ A = rdA br v q ++ A' := by
  have o1 := s.one
  refine calls_of_sf Tryz.func12 rfl Tryz.ntmps12 ?_
  simp only [argsL, Nat.reduceAdd]
  repeat (first | refine R1 ?_ | (refine R2 ?_; intro _))
  refine fp (y_call (l71Grid_f _ br v xs s hs p (by omega)) (by rfl) ?_)
  rintro _ A1 ⟨⟨wide, ys⟩, c, A', q, rfl, gr, w1, w5, n1, n25, hq, rfl⟩
  simp only at w1 w5 n1 n25 gr ⊢
  have oc := gr.one
  repeat (first | refine R1 ?_ | (refine R2 ?_; intro _))
  refine fp (y_call (pick_f _ br v xs s hs q 24 (by omega) (by omega) (by omega)) (by rfl) ?_)
  rintro _ A2 ⟨m, rfl, m0, m1, rfl⟩
  repeat (first | refine R1 ?_ | (refine R2 ?_; intro _))
  refine sf_if (fun e => ?_) fun e => ?_
  · repeat (first | refine R1 ?_ | (refine R2 ?_; intro _))
    exact sf_ret (rt (rdA br v (q + 1) ++ A') (resV_one rfl (yr_cell rfl)) ⟨⟨wide, ys⟩, A', q + 1, drawn_gr (g := ⟨wide, ys⟩) gr (by simp only; omega), by simp only; omega, by omega, rfl⟩)
  repeat (first | refine R1 ?_ | (refine R2 ?_; intro _))
  refine fp (y_call (pick_f _ br v xs s hs (q + 1) 5 (by omega) (by omega) (by omega)) (by rfl) ?_)
  rintro _ A3 ⟨m2, rfl, m20, m21, rfl⟩
  repeat (first | refine R1 ?_ | (refine R2 ?_; intro _))
  rename_i b2 b3
  refine sf_if (fun e0 => ?_) fun e0 => ?_
  · repeat (first | refine R1 ?_ | (refine R2 ?_; intro _))
    refine fp (y_bs (by rfl) (by rfl) (by rfl) (by rfl) (by decide) fun w Aw gw => ?_)
    repeat (first | refine R1 ?_ | (refine R2 ?_; intro _))
    refine fp (y_call (pick_f _ br v xs s hs (q + 1 + 1) 3 (by omega) (by omega) (by omega)) (by rfl) ?_)
    rintro _ A4 ⟨m3, rfl, m30, m31, rfl⟩
    obtain ⟨k, rfl⟩ : ∃ k : Nat, m3 = k := ⟨m3.toNat, by omega⟩
    repeat (first | refine R1 ?_ | (refine R2 ?_; intro _))
    refine fp (Rq ?_ (z_indexG (by rfl) (by rfl) gw (by simp; omega)))
    repeat (first | refine R1 ?_ | (refine R2 ?_; intro _))
    refine fp (Rq ?_ (z_loadG (by rfl) gw (by simp; omega) (by rfl)))
    repeat (first | refine R1 ?_ | (refine R2 ?_; intro _))
    exact sf_ret (rt (rdA br v (q + 1 + 1 + 1) ++ A') (resV_one rfl (yr_cell rfl)) ⟨⟨_, ys⟩, A', q + 1 + 1 + 1, drawn_gr (g := ⟨_, ys⟩) gr (by simp only; omega), by simp only; omega, by omega, rfl⟩)
  repeat (first | refine R1 ?_ | (refine R2 ?_; intro _))
  refine sf_if (fun e1 => ?_) fun e1 => ?_
  · obtain ⟨b, cap, rfl, hc, hrest⟩ := gr.rest (by omega) (by omega)
    repeat (first | refine R1 ?_ | (refine R2 ?_; intro _))
    refine fp (Rq ?_ (q_sliceLo (l := 1) (by infer_instance) (by infer_instance) (by rfl) (by rfl) (by omega)))
    repeat (first | refine R1 ?_ | (refine R2 ?_; intro _))
    exact sf_ret (rt (rdA br v (q + 1 + 1) ++ A') (resV_one rfl (yr_cell rfl)) ⟨⟨wide, ys.tail⟩, A', q + 1 + 1, ⟨_, rfl, inferInstance, hrest⟩, by simp; omega, by omega, rfl⟩)
  repeat (first | refine R1 ?_ | (refine R2 ?_; intro _))
  refine sf_if (fun e2 => ?_) fun e2 => ?_
  · have hn := Int.natCast_nonneg ys.length
    repeat (first | refine R1 ?_ | (refine R2 ?_; intro _))
    refine sf_draw (by kernel_rfl) (regX_own (rdA br v (q + 1 + 1)) (regX_runW _ [[], [0], [], [], [3], [3, 4], [2, 3, 4, 5], [], [2, 3, 4, 5, 6, 7], [0, 1, 2, 3, 4, 5, 6, 7, 8], [0, 1, 2, 3, 4, 5, 6, 7, 8, 9]] 9 [(0, false), (1, false), (2, false), (3, false), (4, false), (5, false), (7, false), (6, true), (8, true)] (by kernel_rfl) (by kernel_rfl) (by kernel_rfl) ?_))
    repeat (refine Da1 ?_)
    refine a_call (pick_f _ br v xs s hs (q + 1 + 1) (ys.length : Int) (by omega) (by omega) (by omega)) (by rfl) (by rfl) (.inl rfl) ?_
    rintro _ A4 ⟨m3, rfl, m30, m31, rfl⟩
    obtain ⟨k, rfl⟩ : ∃ k : Nat, m3 = k := ⟨m3.toNat, by omega⟩
    have hk : k < ys.length := by omega
    repeat (refine Da1 ?_)
    refine a_call (l71Off_f _ br v xs s hs (q + 1 + 1 + 1) (by omega)) (by rfl) (by rfl) (.inl rfl) ?_
    rintro _ A5 ⟨cc, q2, rfl, hq2, rfl⟩
    repeat (refine Da1 ?_)
    (refine a_end (by rfl) (by rfl) ?_; simp only [finA, setL, List.drop_succ_cons, List.drop_zero])
    repeat (first | refine R1 ?_ | (refine R2 ?_; intro _))
    refine fp (y_storeG0 (by rfl) (by rfl) gr (by omega) (by rfl) fun A6 zs ez lz _ g6 => ?_)
    repeat (first | refine R1 ?_ | (refine R2 ?_; intro _))
    exact sf_ret (rt (rdA br v q2 ++ A6) (resV_one rfl (yr_cell rfl)) ⟨⟨wide, zs⟩, A6, q2, drawn_gr (g := ⟨wide, zs⟩) g6 (by simp only; omega), by simp only; omega, by omega, rfl⟩)
  repeat (first | refine R1 ?_ | (refine R2 ?_; intro _))
  refine sf_if (fun e3 => ?_) fun e3 => ?_
  · repeat (first | refine R1 ?_ | (refine R2 ?_; intro _))
    obtain ⟨w, rfl⟩ : ∃ w : Nat, wide = w := ⟨wide.toNat, by omega⟩
    refine sf_lp (ι := List Cell) [2, 3] (fun _ => []) (fun zs O => zs.length ≤ 5 * w + 25 ∧ ∃ c A', O = rdA br v (q + 1 + 1) ++ ((b3, .cells #[.int .i64 w, c] 25) :: (A' ++ [(b2, .cells #[.int .i64 0, .slice none 0 0] 25)])) ∧ Gr A' c 61 cellF zs) (fun zs => 5 * w + 25 - zs.length) ys (rdA br v (q + 1 + 1) ++ ((b3, .cells #[.int .i64 w, c] 25) :: (A' ++ [(b2, .cells #[.int .i64 0, .slice none 0 0] 25)]))) ⟨by omega, _, _, rfl, gr⟩ ?_
    clear gr oc A'
    rintro zs O ⟨hz, c, A', rfl, gr⟩
    have oc := gr.one
    repeat (first | refine R1 ?_ | (refine R2 ?_; intro _))
    refine sf_if (fun e => ?_) fun e => ?_
    · repeat (first | refine R1 ?_ | (refine R2 ?_; intro _))
      refine fp (y_bs (by rfl) (by rfl) (by rfl) (by rfl) (by decide) fun w2 Aw gw => ?_)
      repeat (first | refine R1 ?_ | (refine R2 ?_; intro _))
      refine fp (y_append (by rfl) (by rfl) gr gw (fun y _ => FlatOne.one y) (by rfl) (by rfl) (by simp; omega) (by simp; omega) fun c2 A4 g4 => ?_)
      have oc2 := g4.one
      repeat (first | refine R1 ?_ | (refine R2 ?_; intro _))
      exact ⟨_, by simp; omega, trivial, rfl, rdA br v (q + 1 + 1) ++ ((b3, .cells #[.int .i64 w, c2] 25) :: (A4 ++ [(b2, .cells #[.int .i64 0, .slice none 0 0] 25)])), _, inferInstance, by simp; omega, c2, A4, rfl, g4⟩
    · refine sf_exit ?_
      repeat (first | refine R1 ?_ | (refine R2 ?_; intro _))
      exact sf_ret (rt (rdA br v (q + 1 + 1) ++ A') (resV_one rfl (yr_cell rfl)) ⟨⟨w, zs⟩, A', q + 1 + 1, drawn_gr (g := ⟨w, zs⟩) gr (by simp only; omega), by simp only; omega, by omega, rfl⟩)
  repeat (first | refine R1 ?_ | (refine R2 ?_; intro _))
  exact sf_ret (rt (rdA br v (q + 1 + 1)) (resV_one rfl (yr_cell rfl)) ⟨⟨wide, []⟩, [], q + 1 + 1, ⟨_, rfl, inferInstance, fun _ _ => Sl.nil _ _⟩, by simp, by omega, by simp⟩)
end Go.Proofs.YtcefbjpebgofjaaGreatDoor

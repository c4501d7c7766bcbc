/- Walks of the seat: TA TB SK TC SE TD TE TF Y2 W1 Y3 Y9 N4 N5 YA Y6 Y8 QA QB QC. -/
import Derived.Test.YtcpkcmgjfcbnpaaGreatOwnC
import Derived.Test.YtcpkcmgjfcbnpaaGreatLibG
import Derived.Test.YtcpkcmgjfcbnpaaGreatLibC
import Derived.Test.YtcpkcmgjfcbnpaaGreatLibI
import Derived.Test.YtcpkcmgjfcbnpaaGreatSmW
import Derived.Test.YtcpkcmgjfcbnpaaGreatLibJ
import Derived.Test.YtcpkcmgjfcbnpaaGreatLibF
import Derived.Test.YtcpkcmgjfcbnpaaGreatLibH
import Derived.Test.YtcpkcmgjfcbnpaaGreatSmYe
import Derived.Test.YtcpkcmgjfcbnpaaGreatSmZ
import Derived.Test.YtcpkcmgjfcbnpaaGreatOwnA
import Derived.Test.YtcpkcmgjfcbnpaaGreatLibE
set_option linter.unusedVariables false
set_option linter.unusedSimpArgs false
set_option linter.unusedSectionVars false
namespace Go.Proofs.YtcpkcmgjfcbnpaaGreat
open Go Go.Sl
set_option maxRecDepth 100000
set_option maxHeartbeats 4000000
attribute [local irreducible] Go.Code.sf sfOps Opq opo retF Do1 anyO
variable {M : Jdg → Prop} [IsCl Tryz.prog M]
theorem l13Has_v (h : PHeap) (v : Value) (xs : List Int) (s : Sl h v intF xs) (a : Int) : CallV Tryz.prog M 123 [v, .int .i64 a] h (.bool (decide (a ∈ xs))) := by
  have o1 := s.one
  have hs := s.small
  refine Cs Tryz.func123 Tryz.ntmps123 ?_
  refine Wo ?_
  refine sf_lp (ι := Nat) [0, 1] (fun i => [(5, .int .i64 (i : Int))]) (fun i O => O = [] ∧ i ≤ xs.length ∧ a ∉ xs.take i) (fun i => xs.length - i) 0 [] ⟨rfl, by omega, by simp⟩ ?_
  rintro i O ⟨rfl, hi, hn⟩
  refine Wo ?_
  refine sf_if (fun h4 => ?_) fun h4 => ?_
  · have hi4 : i < xs.length := by omega
    refine Wo ?_
    refine sf_if (fun h5 => ?_) fun h5 => ?_
    · refine Wo ?_
      refine sf_ret (rV (bT ?_))
      rw [← h5, gt_eq hi4]; exact List.getElem_mem _
    · refine Wo ?_
      refine ⟨i + 1, by omega, ⟨rfl, trivial⟩, rfl, [], _, inferInstance, rfl, by omega, ?_⟩
      rw [take_succ_gt hi4]
      simp only [List.mem_append, List.mem_singleton]
      rintro (e | e)
      · exact hn e
      · exact h5 e.symm
  · refine sf_exit ?_
    refine Wo ?_
    refine sf_ret (rV (bF fun e => hn ?_))
    rw [List.take_of_length_le (by omega)]; exact e
theorem l13Touch_f (h : PHeap) (ca : List Value) (s : Scene) (b : (sceneR τ).B h ca s) (hs : s.feet.length ≤ 1000000) (a : Int) : CallF Tryz.prog M 99 [.agg ca.toArray, .int .i64 a] [] h fun u A => Gr A u 3 intF (natsI (touched s.feet a)) := by
  obtain ⟨c, l, f, rfl, s1, s2, s3⟩ := sceneB b
  have o1 := s1.one
  have o2 := s2.one
  have o3 := s3.one
  obtain ⟨rx, s3, bx⟩ := s3
  have lx := bx.len
  refine Cs Tryz.func99 Tryz.ntmps99 ?_
  repeat first | refine R1 ?_ | refine R2 fun _ => ?_
  rename_i b2
  refine Xb fun w AW gw => ?_
  repeat first | refine R1 ?_ | refine R2 fun _ => ?_
  refine sf_lp (ι := Nat × Value) [1, 2] (fun x => [(5, x.2), (6, .int .i64 (x.1 : Int))]) (fun x O => x.1 ≤ s.feet.length ∧ ∃ AW, O = AW ++ [(b2, .cells #[.int .i64 s.grid.wide, c, l, f] 29)] ∧ Gr AW x.2 3 intF (natsI (touchTo s.feet a x.1))) (fun x => s.feet.length - x.1) (0, w) (AW ++ [(b2, .cells #[.int .i64 s.grid.wide, c, l, f] 29)]) ⟨by simp only; omega, AW, rfl, gw⟩ ?_
  rintro ⟨k, w⟩ O ⟨hk, AW, rfl, gx⟩
  simp only at hk gx ⊢
  have ow := gx.one
  have hlen := touchTo_len s.feet a k
  have hlen2 := natsI_len (touchTo s.feet a k)
  repeat first | refine R1 ?_ | refine R2 fun _ => ?_
  refine sf_if (fun h4 => ?_) fun h4 => ?_
  · have hk4 : k < s.feet.length := by omega
    have hk5 : k < rx.length := by omega
    obtain ⟨vx, ex, sx4⟩ := bx.at hk4
    haveI : FlatV (rawF (intSR τ).sz) (gt rx k) [vx] := ⟨ex⟩
    have o4 := sx4.one
    repeat first | refine R1 ?_ | refine R2 fun _ => ?_
    refine Xv (l13Has_v _ _ _ sx4 a) ?_
    repeat first | refine R1 ?_ | refine R2 fun _ => ?_
    refine sf_if (fun h5 => ?_) fun h5 => ?_
    · repeat first | refine R1 ?_ | refine R2 fun _ => ?_
      refine Xb fun u Au gu => ?_
      repeat first | refine R1 ?_ | refine R2 fun _ => ?_
      refine Xa gx gu fun w2 A2 g2 => ?_
      repeat first | refine R1 ?_ | refine R2 fun _ => ?_
      exact ⟨(k + 1, w2), by simp only; omega, ⟨rfl, rfl, trivial⟩, rfl, A2 ++ [(b2, .cells #[.int .i64 s.grid.wide, c, l, f] 29)], _, inferInstance, by simp only; omega, A2, rfl, by simp only; rw [touchTo_step, if_pos h5, natsI_snoc]; exact g2⟩
    · repeat first | refine R1 ?_ | refine R2 fun _ => ?_
      exact ⟨(k + 1, w), by simp only; omega, ⟨rfl, rfl, trivial⟩, rfl, AW ++ [(b2, .cells #[.int .i64 s.grid.wide, c, l, f] 29)], _, inferInstance, by simp only; omega, AW, rfl, by simp only; rw [touchTo_step, if_neg h5]; exact gx⟩
  · refine sf_exit ?_
    obtain rfl : k = s.feet.length := by omega
    repeat first | refine R1 ?_ | refine R2 fun _ => ?_
    exact sf_ret (rO AW gx)
theorem l13Copy_f (h : PHeap) (ca : List Value) (s : Scene) (b : (sceneR τ).B h ca s) (hs : szSceneN s ≤ 1048576) : CallF Tryz.prog M 67 [.agg ca.toArray] [] h fun u A => ∃ cs, u = .agg cs.toArray ∧ (sceneR τ).O A cs s := by
  simp only [szSceneN, szIntSSN] at hs
  obtain ⟨c, l, f, rfl, s1, s2, s3⟩ := sceneB b
  have o1 := s1.one
  have o2 := s2.one
  have o3 := s3.one
  obtain ⟨rx, s3, bx⟩ := s3
  have lx := bx.len
  refine Cs Tryz.func67 Tryz.ntmps67 ?_
  repeat first | refine R1 ?_ | refine R2 fun _ => ?_
  rename_i b1 b2
  apply viaT (G := ∀ (c2 l2 : Value) (AC AL : Own) (b3 : Nat), Gr AC c2 35 cellF s.grid.cells → Gr AL l2 3 intF s.lights → _)
  · intro tail
    refine sf_draw (by kernel_rfl) (regX_split 2 3 (by rfl) (regX_split 2 8 (by rfl) (regX_split 3 8 (by rfl) (regX_split 6 8 (by rfl) ?_ ?_) ?_) ?_) (regX_split 2 8 (by rfl) (regX_split 6 8 (by rfl) ?_ ?_) (regX_split 3 8 (by rfl) ?_ ?_)))
    case' refine_1 =>
      refine Sr [[],[0],[0,1],[0,1,2],[],[4],[0,1,2,3,4,5],[0,1,2,3,4,5,6],[0,1,2,3,4,5,6],[0,1,2,3,4,5,6,7,8]] 9 [Nn 0,Nn 1,Nn 4,Nn 5,Yy 2,Yy 3,Yy 6,Nn 7,Yy 8] ?_
      refine Da ?_
      refine Yc (l1Copy_f (M := M) _ _ s.grid (gridB_mk s1) (by omega)) ?_
      rintro _ AC ⟨_, rfl, q⟩
      obtain ⟨c2, rfl, g1, l1⟩ := gridO q
      have o5 := g1.one
      refine Da ?_
      refine Yb fun e0 AE ge => ?_
      have o6 := ge.one
      refine Da ?_
      refine Ys ge s2 fun l2 AL g2 => ?_
      have o7 := g2.one
      refine Da ?_
      refine Yl fun b3 => ?_
      refine Da ?_
      refine Ae ?_
      repeat first | refine R1 ?_ | refine R2 fun _ => ?_
      refine sf_keep [1, 2, 3, 4] ?_
      refine sf_own ((b3, .cells #[.int .i64 s.grid.wide, c2, l2, .slice none 0 0] 29) :: (AC ++ (AL ++ [(b2, .cells #[.int .i64 0, .slice none 0 0, .slice none 0 0, .slice none 0 0] 29), (b1, .cells #[.int .i64 s.grid.wide, c, l, f] 29)]))) ?_
      exact tail.out c2 l2 AC AL b3 g1 g2
    case' refine_2 =>
      refine Sr [[],[0],[0,1],[0,1,2],[],[4],[0,1,2,3,4,5,8],[0,1,2,3,4,5,6,8],[0,1,2,3],[0,1,2,3,4,5,6,7,8]] 9 [Nn 0,Nn 1,Nn 4,Nn 5,Yy 2,Yy 3,Yy 8,Yy 6,Nn 7] ?_
      refine Da ?_
      refine Yc (l1Copy_f (M := M) _ _ s.grid (gridB_mk s1) (by omega)) ?_
      rintro _ AC ⟨_, rfl, q⟩
      obtain ⟨c2, rfl, g1, l1⟩ := gridO q
      have o5 := g1.one
      refine Da ?_
      refine Yb fun e0 AE ge => ?_
      have o6 := ge.one
      refine Da ?_
      refine Yl fun b3 => ?_
      refine Da ?_
      refine Ys ge s2 fun l2 AL g2 => ?_
      have o7 := g2.one
      refine Da ?_
      refine Ae ?_
      repeat first | refine R1 ?_ | refine R2 fun _ => ?_
      refine sf_keep [1, 2, 3, 4] ?_
      refine sf_own ((b3, .cells #[.int .i64 s.grid.wide, c2, l2, .slice none 0 0] 29) :: (AC ++ (AL ++ [(b2, .cells #[.int .i64 0, .slice none 0 0, .slice none 0 0, .slice none 0 0] 29), (b1, .cells #[.int .i64 s.grid.wide, c, l, f] 29)]))) ?_
      exact tail.out c2 l2 AC AL b3 g1 g2
    case' refine_3 =>
      refine Sr [[],[0],[0,1],[0,1,2,8],[],[4],[0,1,2,3,4,5,8],[0,1,2,3,4,5,6,8],[0,1,2],[0,1,2,3,4,5,6,7,8]] 9 [Nn 0,Nn 1,Nn 4,Nn 5,Yy 2,Yy 8,Yy 3,Yy 6,Nn 7] ?_
      refine Da ?_
      refine Yc (l1Copy_f (M := M) _ _ s.grid (gridB_mk s1) (by omega)) ?_
      rintro _ AC ⟨_, rfl, q⟩
      obtain ⟨c2, rfl, g1, l1⟩ := gridO q
      have o5 := g1.one
      refine Da ?_
      refine Yl fun b3 => ?_
      refine Da ?_
      refine Yb fun e0 AE ge => ?_
      have o6 := ge.one
      refine Da ?_
      refine Ys ge s2 fun l2 AL g2 => ?_
      have o7 := g2.one
      refine Da ?_
      refine Ae ?_
      repeat first | refine R1 ?_ | refine R2 fun _ => ?_
      refine sf_keep [1, 2, 3, 4] ?_
      refine sf_own ((b3, .cells #[.int .i64 s.grid.wide, c2, l2, .slice none 0 0] 29) :: (AC ++ (AL ++ [(b2, .cells #[.int .i64 0, .slice none 0 0, .slice none 0 0, .slice none 0 0] 29), (b1, .cells #[.int .i64 s.grid.wide, c, l, f] 29)]))) ?_
      exact tail.out c2 l2 AC AL b3 g1 g2
    case' refine_4 =>
      refine Sr [[],[0],[0,1,8],[0,1,2,8],[],[4],[0,1,2,3,4,5,8],[0,1,2,3,4,5,6,8],[],[0,1,2,3,4,5,6,7,8]] 9 [Nn 0,Nn 1,Nn 4,Nn 5,Yy 8,Yy 2,Yy 3,Yy 6,Nn 7] ?_
      refine Da ?_
      refine Yl fun b3 => ?_
      refine Da ?_
      refine Yc (l1Copy_f (M := M) _ _ s.grid (gridB_mk s1) (by omega)) ?_
      rintro _ AC ⟨_, rfl, q⟩
      obtain ⟨c2, rfl, g1, l1⟩ := gridO q
      have o5 := g1.one
      refine Da ?_
      refine Yb fun e0 AE ge => ?_
      have o6 := ge.one
      refine Da ?_
      refine Ys ge s2 fun l2 AL g2 => ?_
      have o7 := g2.one
      refine Da ?_
      refine Ae ?_
      repeat first | refine R1 ?_ | refine R2 fun _ => ?_
      refine sf_keep [1, 2, 3, 4] ?_
      refine sf_own ((b3, .cells #[.int .i64 s.grid.wide, c2, l2, .slice none 0 0] 29) :: (AC ++ (AL ++ [(b2, .cells #[.int .i64 0, .slice none 0 0, .slice none 0 0, .slice none 0 0] 29), (b1, .cells #[.int .i64 s.grid.wide, c, l, f] 29)]))) ?_
      exact tail.out c2 l2 AC AL b3 g1 g2
    case' refine_5 =>
      refine Sr [[],[0],[0,1,3],[],[],[4],[0,1,2,3,4,5],[0,1,2,3,4,5,6],[0,1,2,3,4,5,6],[0,1,2,3,4,5,6,7,8]] 9 [Nn 0,Nn 1,Nn 4,Nn 5,Yy 3,Yy 2,Yy 6,Nn 7,Yy 8] ?_
      refine Da ?_
      refine Yb fun e0 AE ge => ?_
      have o6 := ge.one
      refine Da ?_
      refine Yc (l1Copy_f (M := M) _ _ s.grid (gridB_mk s1) (by omega)) ?_
      rintro _ AC ⟨_, rfl, q⟩
      obtain ⟨c2, rfl, g1, l1⟩ := gridO q
      have o5 := g1.one
      refine Da ?_
      refine Ys ge s2 fun l2 AL g2 => ?_
      have o7 := g2.one
      refine Da ?_
      refine Yl fun b3 => ?_
      refine Da ?_
      refine Ae ?_
      repeat first | refine R1 ?_ | refine R2 fun _ => ?_
      refine sf_keep [1, 2, 3, 4] ?_
      refine sf_own ((b3, .cells #[.int .i64 s.grid.wide, c2, l2, .slice none 0 0] 29) :: (AC ++ (AL ++ [(b2, .cells #[.int .i64 0, .slice none 0 0, .slice none 0 0, .slice none 0 0] 29), (b1, .cells #[.int .i64 s.grid.wide, c, l, f] 29)]))) ?_
      exact tail.out c2 l2 AC AL b3 g1 g2
    case' refine_6 =>
      refine Sr [[],[0],[0,1,3],[],[],[4],[0,1,2,3,4,5,8],[0,1,2,3,4,5,6,8],[0,1,2,3],[0,1,2,3,4,5,6,7,8]] 9 [Nn 0,Nn 1,Nn 4,Nn 5,Yy 3,Yy 2,Yy 8,Yy 6,Nn 7] ?_
      refine Da ?_
      refine Yb fun e0 AE ge => ?_
      have o6 := ge.one
      refine Da ?_
      refine Yc (l1Copy_f (M := M) _ _ s.grid (gridB_mk s1) (by omega)) ?_
      rintro _ AC ⟨_, rfl, q⟩
      obtain ⟨c2, rfl, g1, l1⟩ := gridO q
      have o5 := g1.one
      refine Da ?_
      refine Yl fun b3 => ?_
      refine Da ?_
      refine Ys ge s2 fun l2 AL g2 => ?_
      have o7 := g2.one
      refine Da ?_
      refine Ae ?_
      repeat first | refine R1 ?_ | refine R2 fun _ => ?_
      refine sf_keep [1, 2, 3, 4] ?_
      refine sf_own ((b3, .cells #[.int .i64 s.grid.wide, c2, l2, .slice none 0 0] 29) :: (AC ++ (AL ++ [(b2, .cells #[.int .i64 0, .slice none 0 0, .slice none 0 0, .slice none 0 0] 29), (b1, .cells #[.int .i64 s.grid.wide, c, l, f] 29)]))) ?_
      exact tail.out c2 l2 AC AL b3 g1 g2
    case' refine_7 =>
      refine Sr [[],[0],[0,1,3,8],[],[],[4],[0,1,2,3,4,5,8],[0,1,2,3,4,5,6,8],[3],[0,1,2,3,4,5,6,7,8]] 9 [Nn 0,Nn 1,Nn 4,Nn 5,Yy 3,Yy 8,Yy 2,Yy 6,Nn 7] ?_
      refine Da ?_
      refine Yb fun e0 AE ge => ?_
      have o6 := ge.one
      refine Da ?_
      refine Yl fun b3 => ?_
      refine Da ?_
      refine Yc (l1Copy_f (M := M) _ _ s.grid (gridB_mk s1) (by omega)) ?_
      rintro _ AC ⟨_, rfl, q⟩
      obtain ⟨c2, rfl, g1, l1⟩ := gridO q
      have o5 := g1.one
      refine Da ?_
      refine Ys ge s2 fun l2 AL g2 => ?_
      have o7 := g2.one
      refine Da ?_
      refine Ae ?_
      repeat first | refine R1 ?_ | refine R2 fun _ => ?_
      refine sf_keep [1, 2, 3, 4] ?_
      refine sf_own ((b3, .cells #[.int .i64 s.grid.wide, c2, l2, .slice none 0 0] 29) :: (AC ++ (AL ++ [(b2, .cells #[.int .i64 0, .slice none 0 0, .slice none 0 0, .slice none 0 0] 29), (b1, .cells #[.int .i64 s.grid.wide, c, l, f] 29)]))) ?_
      exact tail.out c2 l2 AC AL b3 g1 g2
    case' refine_8 =>
      refine Sr [[],[0],[0,1,3,8],[8],[],[4],[0,1,2,3,4,5,8],[0,1,2,3,4,5,6,8],[],[0,1,2,3,4,5,6,7,8]] 9 [Nn 0,Nn 1,Nn 4,Nn 5,Yy 8,Yy 3,Yy 2,Yy 6,Nn 7] ?_
      refine Da ?_
      refine Yl fun b3 => ?_
      refine Da ?_
      refine Yb fun e0 AE ge => ?_
      have o6 := ge.one
      refine Da ?_
      refine Yc (l1Copy_f (M := M) _ _ s.grid (gridB_mk s1) (by omega)) ?_
      rintro _ AC ⟨_, rfl, q⟩
      obtain ⟨c2, rfl, g1, l1⟩ := gridO q
      have o5 := g1.one
      refine Da ?_
      refine Ys ge s2 fun l2 AL g2 => ?_
      have o7 := g2.one
      refine Da ?_
      refine Ae ?_
      repeat first | refine R1 ?_ | refine R2 fun _ => ?_
      refine sf_keep [1, 2, 3, 4] ?_
      refine sf_own ((b3, .cells #[.int .i64 s.grid.wide, c2, l2, .slice none 0 0] 29) :: (AC ++ (AL ++ [(b2, .cells #[.int .i64 0, .slice none 0 0, .slice none 0 0, .slice none 0 0] 29), (b1, .cells #[.int .i64 s.grid.wide, c, l, f] 29)]))) ?_
      exact tail.out c2 l2 AC AL b3 g1 g2
  intro c2 l2 AC AL b3 g1 g2
  have o5 := g1.one
  have o7 := g2.one
  repeat first | refine R1 ?_ | refine R2 fun _ => ?_
  refine sf_lp (ι := Nat) [1, 2, 3] (fun k => [(4, .int .i64 (k : Int))]) (fun k O => k ≤ s.feet.length ∧ ∃ fv A0 A1, O = (b3, .cells #[.int .i64 s.grid.wide, c2, l2, fv] 29) :: (A0 ++ A1 ++ (AC ++ (AL ++ [(b2, .cells #[.int .i64 0, .slice none 0 0, .slice none 0 0, .slice none 0 0] 29), (b1, .cells #[.int .i64 s.grid.wide, c, l, f] 29)]))) ∧ ∃ rs : List (Raw (intSR τ).sz), rs.length = k ∧ Gr A0 fv 26 (rawF (intSR τ).sz) rs ∧ OAll (intSR τ) A1 rs (s.feet.take k)) (fun k => s.feet.length - k) 0 ((b3, .cells #[.int .i64 s.grid.wide, c2, l2, .slice none 0 0] 29) :: ([] ++ [] ++ (AC ++ (AL ++ [(b2, .cells #[.int .i64 0, .slice none 0 0, .slice none 0 0, .slice none 0 0] 29), (b1, .cells #[.int .i64 s.grid.wide, c, l, f] 29)])))) ⟨by omega, _, [], [], rfl, [], rfl, Gr.nil _ _, .nil⟩ ?_
  rintro k O ⟨hk, fv, A0, A1, rfl, rs, hr, gr, oa⟩
  have o8 := gr.one
  repeat first | refine R1 ?_ | refine R2 fun _ => ?_
  refine sf_if (fun h4 => ?_) fun h4 => ?_
  · have hk4 : k < s.feet.length := by omega
    have hk5 : k < rx.length := by omega
    obtain ⟨vx, ex, sx4⟩ := bx.at hk4
    haveI : FlatV (rawF (intSR τ).sz) (gt rx k) [vx] := ⟨ex⟩
    have o9 := sx4.one
    have hsz := sizeL_at (f := List.length) hk4
    repeat first | refine R1 ?_ | refine R2 fun _ => ?_
    refine Sd [[],[0],[],[],[3],[],[3,4,5],[3,4,5,6],[2,3,4,5,6,7],[2,3,4,5,6,7,8],[0,1,2,3,4,5,6,7,8,9],[0,1,2,3,4,5,6,7,8,9,10],[0,1,2,3,4,5,6,7,8,9,10,11]] 10 [Nn 0,Nn 1,Nn 3,Nn 4,Nn 5,Nn 6,Nn 7,Yy 2,Yy 8,Yy 9] ?_
    refine Da ?_
    refine Yb fun e0 AE ge => ?_
    refine Da ?_
    refine Ys ge sx4 fun w AW gw => ?_
    have o10 := gw.one
    refine Da ?_
    refine Yb fun u Au gu => ?_
    refine Da ?_
    refine Ae ?_
    refine fp (y_append (by rfl) (by rfl) gr gu (by intro y hy; simp at hy; subst hy; exact (inferInstance : AllOne [w]).is) (by rfl) (by rfl) (by simp; omega) (by simp; omega) fun fv2 A5 g5 => ?_)
    have o11 := g5.one
    repeat first | refine R1 ?_ | refine R2 fun _ => ?_
    refine ⟨k + 1, by omega, ⟨rfl, trivial⟩, rfl, (b3, .cells #[.int .i64 s.grid.wide, c2, l2, fv2] 29) :: (A5 ++ (A1 ++ AW) ++ (AC ++ (AL ++ [(b2, .cells #[.int .i64 0, .slice none 0 0, .slice none 0 0, .slice none 0 0] 29), (b1, .cells #[.int .i64 s.grid.wide, c, l, f] 29)]))), _, inferInstance, by omega, fv2, A5, A1 ++ AW, rfl, _, by simp [hr], g5, ?_⟩
    rw [take_succ_gt hk4]
    exact oa.snoc ⟨w, rfl, gw, by omega⟩
  · refine sf_exit ?_
    obtain rfl : k = s.feet.length := by omega
    rw [List.take_of_length_le (Nat.le_refl _)] at oa
    repeat first | refine R1 ?_ | refine R2 fun _ => ?_
    refine sf_ret (rO (AC ++ (AL ++ (A0 ++ A1))) ⟨_, rfl, ?_⟩)
    exact sceneO_mk (s := s) g1 (by omega) g2 (by omega) ⟨A0, A1, rfl, rs, gr, oa, by omega⟩
theorem l13Do_f (h : PHeap) (c l f v : Value) (X1 X2 X3 : Own) (s : Scene) (e : Edit) (g1 : Gr X1 c 35 cellF s.grid.cells) (g2 : Gr X2 l 3 intF s.lights) (g3 : GrR (intSR τ) X3 f 26 s.feet) (sv : Sl h v editF [e]) (hg : gridOk s.grid = true) (he : editOk s.grid e = true) (hl : (s.lights.length : Int) = manyOf s.grid) (hf : (s.feet.length : Int) = manyOf s.grid) :
    CallF Tryz.prog M 66 [.agg #[.int .i64 s.grid.wide, c, l, f], v] (X1 ++ (X2 ++ X3)) h fun u A => ∃ w, u = .tuple #[.agg #[.int .i64 s.grid.wide, c, l, f], w] ∧ (sceneR τ).O A [.int .i64 s.grid.wide, c, l, f] (editScene s e) ∧ Sl.One w := by
  have kg := gok hg
  have hm := kg.many
  have hsm := kg.small
  have hg' := gridOk_put hg he
  have hmp := manyOf_put s.grid e
  have q : (sceneR τ).O (X1 ++ (X2 ++ X3)) [.int .i64 s.grid.wide, c, l, f] s := sceneO_mk g1 (by omega) g2 (by omega) g3
  have o1 := g1.one
  have o2 := g2.one
  have o3 := g3.one
  have o4 := sv.one
  have hea : 0 ≤ e.at' ∧ e.at' < s.grid.cells.length := by simp only [editOk, Bool.and_eq_true, decide_eq_true_eq] at he; omega
  obtain ⟨N, hN⟩ : ∃ N, s.feet.length = N := ⟨_, rfl⟩
  obtain ⟨ks, hks⟩ : ∃ ks, touched s.feet e.at' = ks := ⟨_, rfl⟩
  have hkl : ∀ k ∈ ks, k < N := fun k hk => by rw [← hks] at hk; rw [← hN]; exact touchTo_lt hk
  have hkn : ks.length ≤ N := by rw [← hks, ← hN]; exact touchTo_len _ _ _
  have eg : ∀ i, i < [e].length → gt [e] i = e := fun i hi => by
    obtain rfl : i = 0 := by simpa using hi
    rfl
  obtain ⟨F0, F1, rfl, rs, gr, oa, hb⟩ := id g3
  have hr := oa.len
  refine Cs Tryz.func66 Tryz.ntmps66 ?_
  repeat first | refine R1 ?_ | refine R2 fun _ => ?_
  rename_i b2 b4
  refine Xm fun vb AB gb => ?_
  have o5 := gb.one
  rw [show rs.length = N by omega] at gb
  repeat first | refine R1 ?_ | refine R2 fun _ => ?_
  refine Xb fun w7 A7 g7 => ?_
  have o6 := g7.one
  repeat first | refine R1 ?_ | refine R2 fun _ => ?_
  refine sf_lp (ι := Nat × List Bool) [1, 2, 4, 6, 7] (fun x => [(8, .int .i64 (x.1 : Int))]) (fun x O => x.1 ≤ 1 ∧ ∃ AB, O = AB ++ (A7 ++ ((b2, .cells #[.int .i64 s.grid.wide, c, l, f] 29) :: ((b4, .cells #[.int .i64 0, .slice none 0 0, .slice none 0 0, .slice none 0 0] 29) :: (X1 ++ (X2 ++ (F0 ++ F1)))))) ∧ Gr AB vb 4 boolF x.2 ∧ x.2.length = N ∧ (x.1 = 0 → ∀ k, k < N → gt x.2 k = false) ∧ (x.1 = 1 → ∀ k, k < N → gt x.2 k = decide (k ∈ ks))) (fun x => 1 - x.1) (0, List.replicate N false) (AB ++ (A7 ++ ((b2, .cells #[.int .i64 s.grid.wide, c, l, f] 29) :: ((b4, .cells #[.int .i64 0, .slice none 0 0, .slice none 0 0, .slice none 0 0] 29) :: (X1 ++ (X2 ++ (F0 ++ F1))))))) ⟨by simp only; omega, AB, rfl, gb, by simp, fun _ k hk => by simp [gt, hk], fun h0 => by cases h0⟩ ?_
  clear gb
  rintro ⟨i, bs⟩ O ⟨hi, AB, rfl, gb, hbl, hb0, hb1⟩
  simp only at hi gb hbl hb0 hb1 ⊢
  repeat first | refine R1 ?_ | refine R2 fun _ => ?_
  refine sf_if (fun h4 => ?_) fun h4 => ?_
  · have hi4 : i < [e].length := by simp only [List.length_cons, List.length_nil]; simp at h4; omega
    have ee := eg i hi4
    obtain rfl : i = 0 := by simpa using hi4
    repeat first | refine R1 ?_ | refine R2 fun _ => ?_
    refine Sd [[],[],[],[1,2],[1,2,3],[1,2,3,4],[0,1,2,3,4,5],[0,1,2,3,4,5,6]] 6 [Nn 0,Nn 1,Nn 2,Nn 3,Nn 4,Nn 5] ?_
    refine Da ?_
    refine Ae ?_
    refine fp (y_lend (X1 ++ (X2 ++ (F0 ++ F1))) (fun h' _ i' => l13Touch_f (M := M) h' _ s ((sceneR τ).lent q i') (by omega) e.at') (by rfl) ?_)
    rintro w9 AT gw
    rw [hks] at gw
    have o7 := gw.one
    repeat first | refine R1 ?_ | refine R2 fun _ => ?_
    refine sf_lp (ι := Nat × List Bool) [1, 2, 4, 6, 7, 8, 9] (fun x => [(10, .int .i64 (x.1 : Int))]) (fun x O => x.1 ≤ ks.length ∧ ∃ AB, O = AB ++ (AT ++ (A7 ++ ((b2, .cells #[.int .i64 s.grid.wide, c, l, f] 29) :: ((b4, .cells #[.int .i64 0, .slice none 0 0, .slice none 0 0, .slice none 0 0] 29) :: (X1 ++ (X2 ++ (F0 ++ F1))))))) ∧ Gr AB vb 4 boolF x.2 ∧ x.2.length = N ∧ ∀ k, k < N → gt x.2 k = decide (k ∈ ks.take x.1)) (fun x => ks.length - x.1) (0, bs) (AB ++ (AT ++ (A7 ++ ((b2, .cells #[.int .i64 s.grid.wide, c, l, f] 29) :: ((b4, .cells #[.int .i64 0, .slice none 0 0, .slice none 0 0, .slice none 0 0] 29) :: (X1 ++ (X2 ++ (F0 ++ F1)))))))) ⟨by simp only; omega, AB, rfl, gb, hbl, fun k hk => by simp only [hb0 rfl k hk]; simp⟩ ?_
    clear gb hb0 hb1 hbl
    rintro ⟨j, bs⟩ O ⟨hj, AB, rfl, gb, hbl, hb⟩
    simp only at hj gb hbl hb ⊢
    have hnl := natsI_len ks
    repeat first | refine R1 ?_ | refine R2 fun _ => ?_
    refine sf_if (fun h5 => ?_) fun h5 => ?_
    · have hj4 : j < ks.length := by omega
      have hj5 : j < (natsI ks).length := by omega
      have hz := natsI_at hj4
      have hz1 := hkl (gt ks j) (by rw [gt_eq hj4]; exact List.getElem_mem _)
      have hz0 : 0 ≤ gt (natsI ks) j := by omega
      have hz2 : gt (natsI ks) j < (bs.length : Int) := by omega
      repeat first | refine R1 ?_ | refine R2 fun _ => ?_ | refine fp (Rq ?_ (z_indexGI (by rfl) (by rfl) (by assumption) (by omega) (by omega)))
      refine Xg gb fun A2 ys hy hly fv gy => ?_
      repeat first | refine R1 ?_ | refine R2 fun _ => ?_
      refine ⟨(j + 1, ys), by simp only; omega, ⟨rfl, trivial⟩, rfl, A2 ++ (AT ++ (A7 ++ ((b2, .cells #[.int .i64 s.grid.wide, c, l, f] 29) :: ((b4, .cells #[.int .i64 0, .slice none 0 0, .slice none 0 0, .slice none 0 0] 29) :: (X1 ++ (X2 ++ (F0 ++ F1))))))), _, inferInstance, by simp only; omega, A2, rfl, gy, by simp only; omega, fun k hk => ?_⟩
      simp only
      rw [hy, take_succ_gt hj4]
      by_cases ek : (gt (natsI ks) j).toNat = k
      · subst ek
        rw [gt_set (by omega)]
        have : (gt (natsI ks) j).toNat = gt ks j := by omega
        simp [this]
      · rw [gt_set_ne ek, hb k hk]
        have : ¬ k = gt ks j := by omega
        simp [this]
    · refine sf_exit ?_
      obtain rfl : j = ks.length := by omega
      rw [List.take_of_length_le (Nat.le_refl _)] at hb
      repeat first | refine R1 ?_ | refine R2 fun _ => ?_
      exact ⟨(1, bs), by simp, ⟨rfl, trivial⟩, rfl, AB ++ (A7 ++ ((b2, .cells #[.int .i64 s.grid.wide, c, l, f] 29) :: ((b4, .cells #[.int .i64 0, .slice none 0 0, .slice none 0 0, .slice none 0 0] 29) :: (X1 ++ (X2 ++ (F0 ++ F1)))))), _, inferInstance, by simp, AB, rfl, gb, hbl, fun h0 => (by cases h0), fun _ => hb⟩
  refine sf_exit ?_
  obtain rfl : i = 1 := by simp at h4; omega
  have hb := hb1 rfl
  clear hb0 hb1
  repeat first | refine R1 ?_ | refine R2 fun _ => ?_
  refine sf_lp (ι := Nat × List Cell) [1, 2, 4, 6, 7] (fun x => [(11, .int .i64 (x.1 : Int))]) (fun x O => x.1 ≤ 1 ∧ ∃ X1, O = AB ++ (A7 ++ ((b2, .cells #[.int .i64 s.grid.wide, c, l, f] 29) :: ((b4, .cells #[.int .i64 0, .slice none 0 0, .slice none 0 0, .slice none 0 0] 29) :: (X1 ++ (X2 ++ (F0 ++ F1)))))) ∧ Gr X1 c 35 cellF x.2 ∧ (x.1 = 0 → x.2 = s.grid.cells) ∧ (x.1 = 1 → x.2 = (putCell s.grid e).cells)) (fun x => 1 - x.1) (0, s.grid.cells) (AB ++ (A7 ++ ((b2, .cells #[.int .i64 s.grid.wide, c, l, f] 29) :: ((b4, .cells #[.int .i64 0, .slice none 0 0, .slice none 0 0, .slice none 0 0] 29) :: (X1 ++ (X2 ++ (F0 ++ F1))))))) ⟨by simp, X1, rfl, g1, fun _ => rfl, fun h0 => by cases h0⟩ ?_
  clear q g1
  rintro ⟨i, cl⟩ O ⟨hi, X1, rfl, g1, hc0, hc1⟩
  simp only at hi g1 hc0 hc1 ⊢
  repeat first | refine R1 ?_ | refine R2 fun _ => ?_
  refine sf_if (fun h4 => ?_) fun h4 => ?_
  · have hi4 : i < [e].length := by simp only [List.length_cons, List.length_nil]; simp at h4; omega
    have ee := eg i hi4
    obtain rfl : i = 0 := by simpa using hi4
    obtain rfl := hc0 rfl
    have ha0 : 0 ≤ (gt [e] 0).at' := hea.1
    have ha1 : (gt [e] 0).at' < (s.grid.cells.length : Int) := hea.2
    repeat first | refine R1 ?_ | refine R2 fun _ => ?_
    refine Sd [[],[0],[0,1],[],[],[3,4],[3,4,5],[3,4,5,6],[],[],[8,9],[8,9,10],[8,9,10,11],[0,1,2,3,4,5,6,7,8,9,10,11,12],[0,1,2,3,4,5,6,7,8,9,10,11,12,13]] 13 [Nn 0,Nn 1,Nn 2,Nn 3,Nn 4,Nn 5,Nn 6,Nn 7,Nn 8,Nn 9,Nn 10,Nn 11,Nn 12] ?_
    refine Da ?_
    refine Ae ?_
    repeat first | refine R1 ?_ | refine R2 fun _ => ?_ | refine fp (Rq ?_ (z_indexGI (by rfl) (by rfl) (by assumption) (by omega) (by omega)))
    refine Xg g1 fun A2 ys hy hly fv gy => ?_
    repeat first | refine R1 ?_ | refine R2 fun _ => ?_
    exact ⟨(1, ys), by simp, ⟨rfl, trivial⟩, rfl, AB ++ (A7 ++ ((b2, .cells #[.int .i64 s.grid.wide, c, l, f] 29) :: ((b4, .cells #[.int .i64 0, .slice none 0 0, .slice none 0 0, .slice none 0 0] 29) :: (A2 ++ (X2 ++ (F0 ++ F1)))))), _, inferInstance, by simp, A2, rfl, gy, fun h0 => (by cases h0), fun _ => hy⟩
  refine sf_exit ?_
  obtain rfl : i = 1 := by simp at h4; omega
  obtain rfl := hc1 rfl
  clear hc0 hc1
  repeat first | refine R1 ?_ | refine R2 fun _ => ?_
  refine sf_lp (ι := Nat × Value) [2, 4, 6] (fun x => [(7, x.2), (12, .int .i64 (x.1 : Int))]) (fun x O => x.1 ≤ N ∧ ∃ A2 A3 AW, O = AW ++ (AB ++ ((b2, .cells #[.int .i64 s.grid.wide, c, l, f] 29) :: ((b4, .cells #[.int .i64 0, .slice none 0 0, .slice none 0 0, .slice none 0 0] 29) :: (X1 ++ (A2 ++ A3))))) ∧ Gr A2 l 3 intF (lookL (putCell s.grid e) (touchTo s.feet e.at' x.1) s.lights) ∧ GrR (intSR τ) A3 f 26 (lookF (putCell s.grid e) (touchTo s.feet e.at' x.1) s.feet) ∧ Gr AW x.2 3 intF (natsI (touchTo s.feet e.at' x.1))) (fun x => N - x.1) (0, w7) (A7 ++ (AB ++ ((b2, .cells #[.int .i64 s.grid.wide, c, l, f] 29) :: ((b4, .cells #[.int .i64 0, .slice none 0 0, .slice none 0 0, .slice none 0 0] 29) :: (X1 ++ (X2 ++ (F0 ++ F1))))))) ⟨by simp, X2, F0 ++ F1, A7, rfl, g2, g3, g7⟩ ?_
  clear g2 g3 g7 gr oa
  rintro ⟨k, w7⟩ O ⟨hk, A2, A3, AW, rfl, ga, gf, gx⟩
  simp only at hk ga gf gx ⊢
  have o7 := gx.one
  have hll := lookL_len (putCell s.grid e) (touchTo s.feet e.at' k) s.lights
  have hfl := lookF_len (putCell s.grid e) (touchTo s.feet e.at' k) s.feet
  have htl := touchTo_len s.feet e.at' k
  have hnl := natsI_len (touchTo s.feet e.at' k)
  repeat first | refine R1 ?_ | refine R2 fun _ => ?_
  refine sf_if (fun h4 => ?_) fun h4 => ?_
  · have hk4 : k < N := by omega
    have hk5 : k < bs.length := by omega
    repeat first | refine R1 ?_ | refine R2 fun _ => ?_
    rw [hb k hk4, ← hks]
    refine sf_if (fun h5 => ?_) fun h5 => ?_
    · have h6 := (mem_touched (by omega)).1 h5
      repeat first | refine R1 ?_ | refine R2 fun _ => ?_
      refine fp (y_lend X1 (fun h' _ i => l13Look_f (M := M) h' c (putCell s.grid e) (g1.lent (by rw [show (putCell s.grid e).cells.length = s.grid.cells.length by simp [putCell]]; omega) i) hg' l f A2 A3 _ _ ga gf k (by omega) (by omega) (by omega)) (by rfl) ?_)
      rintro u0 _ ⟨A5, A6, e1, rfl, ga2, gf2⟩
      have e2 : u0 = .agg #[.int .i64 s.grid.wide, c, l, f] := e1
      subst e2
      repeat first | refine R1 ?_ | refine R2 fun _ => ?_
      refine Xb fun u Au gu => ?_
      repeat first | refine R1 ?_ | refine R2 fun _ => ?_
      refine Xa gx gu fun w2 A4 g4 => ?_
      repeat first | refine R1 ?_ | refine R2 fun _ => ?_
      refine ⟨(k + 1, w2), by simp only; omega, ⟨rfl, rfl, trivial⟩, rfl, A4 ++ (AB ++ ((b2, .cells #[.int .i64 s.grid.wide, c, l, f] 29) :: ((b4, .cells #[.int .i64 0, .slice none 0 0, .slice none 0 0, .slice none 0 0] 29) :: (X1 ++ (A5 ++ A6))))), _, inferInstance, by simp only; omega, A5, A6, A4, rfl, ?_, ?_, ?_⟩
      · simp only; rw [touchTo_step, if_pos h6, lookL_snoc]; exact ga2
      · simp only; rw [touchTo_step, if_pos h6, lookF_snoc]; exact gf2
      · simp only; rw [touchTo_step, if_pos h6, natsI_snoc]; exact g4
    · have h6 : ¬ e.at' ∈ gt s.feet k := fun z => h5 ((mem_touched (by omega)).2 z)
      repeat first | refine R1 ?_ | refine R2 fun _ => ?_
      refine ⟨(k + 1, w7), by simp only; omega, ⟨rfl, rfl, trivial⟩, rfl, AW ++ (AB ++ ((b2, .cells #[.int .i64 s.grid.wide, c, l, f] 29) :: ((b4, .cells #[.int .i64 0, .slice none 0 0, .slice none 0 0, .slice none 0 0] 29) :: (X1 ++ (A2 ++ A3))))), _, inferInstance, by simp only; omega, A2, A3, AW, rfl, ?_, ?_, ?_⟩
      · simp only; rw [touchTo_step, if_neg h6]; exact ga
      · simp only; rw [touchTo_step, if_neg h6]; exact gf
      · simp only; rw [touchTo_step, if_neg h6]; exact gx
  · refine sf_exit ?_
    obtain rfl : k = N := by omega
    subst hN
    repeat first | refine R1 ?_ | refine R2 fun _ => ?_
    refine sf_ret (rO (X1 ++ (A2 ++ A3)) ⟨_, rfl, ?_, o7⟩)
    exact sceneO_mk (s := editScene s e) g1 (by simp only [editScene, putCell, List.length_set]; omega) ga (by simp only [editScene]; rw [lookL_len]; omega) gf
theorem sNoWordO' : (wordR τ).O [] (wordCs noWord (.slice none 0 0) (.slice none 0 0)) noWord := wordO_mk (w := noWord) (Gr.nil _ _) (by decide) (Gr.nil _ _) (by decide)
theorem l21Tell_f (h : PHeap) (ca : List Value) (p : Painter) (b : (painterR τ).B h ca p) (ok : paintOk p = true) (id many : Int) (hid : idOk id many = true) : CallF Tryz.prog M 29 [.agg ca.toArray, .int .i64 id, .int .i64 many] [] h fun u A => ∃ cs, u = .tuple #[.agg cs.toArray, .bool (paintTold p id many).2] ∧ (wordR τ).O A cs (paintTold p id many).1 := by
  obtain ⟨c, l, f, rfl, s1, s2, s3⟩ := painterB b
  have o1 := s1.one
  have o2 := s2.one
  have o3 := s3.one
  simp only [idOk, Bool.and_eq_true, decide_eq_true_eq] at hid
  refine Cs Tryz.func29 Tryz.ntmps29 ?_
  repeat first | refine R1 ?_ | refine R2 fun _ => ?_
  refine sf_cond (by rfl) (fun e1 => ?_) fun e1 => ?_
  · simp only [Bool.not_eq_true'] at e1
    repeat first | refine R1 ?_ | refine R2 fun _ => ?_
    rw [paintTold, if_pos e1]
    exact sf_ret (rO [] ⟨_, rfl, sNoWordO'⟩)
  simp only [Bool.not_eq_false'] at e1
  repeat first | refine R1 ?_ | refine R2 fun _ => ?_
  refine sf_cond (by rfl) (fun e2 => ?_) fun e2 => ?_
  · simp only [Bool.not_eq_true'] at e2
    repeat first | refine R1 ?_ | refine R2 fun _ => ?_
    rw [paintTold, if_neg (by rw [e1]; decide), if_pos e2]
    exact sf_ret (rO [] ⟨wordCs ⟨4, 0, id, 0, noGrid, noEdit, []⟩ (.slice none 0 0) (.slice none 0 0), rfl, wordO_mk (w := ⟨4, 0, id, 0, noGrid, noEdit, []⟩) (Gr.nil _ _) (by simp [noGrid]) (Gr.nil _ _) (by simp)⟩)
  simp only [Bool.not_eq_false'] at e2
  obtain ⟨hup, hv0, hv1, hsc⟩ := paintOk_has ok e2
  obtain ⟨hg, hs⟩ := sceneOk_is hsc
  have kg := gok hg
  have hm := kg.many
  obtain ⟨N, hN⟩ : ∃ N : Nat, manyOf p.scene.grid = N := ⟨(manyOf p.scene.grid).toNat, by omega⟩
  have hll : p.scene.lights.length = N := by rw [hs]; simp only [sceneOf]; rw [picOf_len, hN]; simp
  obtain ⟨i, rfl⟩ : ∃ i : Nat, id = i := ⟨id.toNat, by omega⟩
  obtain ⟨m, rfl⟩ : ∃ m : Nat, many = m := ⟨many.toNat, by omega⟩
  have hres : paintTold p i m = (⟨3, 0, i, p.ver, noGrid, noEdit, ownLights p.scene.lights N m i⟩, true) := by
    rw [paintTold, if_neg (by rw [e1]; decide), if_neg (by rw [e2]; decide), hN]; simp
  rw [hres]
  repeat first | refine R1 ?_ | refine R2 fun _ => ?_
  rename_i b3 b6
  refine Xb fun lv0 AL0 gl0 => ?_
  have ol0 := gl0.one
  repeat first | refine R1 ?_ | refine R2 fun _ => ?_
  rename_i b8
  refine fp (y_call (l21Own_f (M := M) _ _ p.scene.grid s1 kg i m (by omega) (by omega) (by omega)) (by rfl) ?_)
  intro w AW gw
  have ow := gw.one
  rw [hN] at gw
  simp only [Int.toNat_natCast] at gw
  have lw := ownList_len N m i
  have hc : ∀ j, j < ownCnt N m i ↔ i - 1 + j * m < N := fun j => ownCnt_lt (by omega) (by omega) (by omega)
  have hln : ownCnt N m i ≤ 20 := by
    rcases Nat.lt_or_ge 20 (ownCnt N m i) with h | h
    · have := (hc 20).1 h
      have : 20 * 1 ≤ 20 * m := Nat.mul_le_mul_left _ (by omega)
      omega
    · exact h
  have hat : ∀ j, j < ownCnt N m i → gt (ownList N m i) j = ((i - 1 + j * m : Nat) : Int) := fun j hj => ownList_at hj
  unfold ownLights
  generalize hxs : ownList N m i = xs at *
  repeat first | refine R1 ?_ | refine R2 fun _ => ?_
  refine sf_lp (ι := Nat) [3, 6, 8, 9] (fun x => [(10, .int .i64 (x : Int))]) (fun x O => x ≤ xs.length ∧ ∃ lv A', O = (b8, .cells #[.int .i64 3, .int .i64 0, .int .i64 (i : Int), .int .i64 p.ver, .int .i64 0, .slice none 0 0, .int .i64 0, .int .i64 0, .int .i64 0, lv] 39) :: (A' ++ (AW ++ [(b6, .cells #[.int .i64 0, .int .i64 0, .int .i64 0, .int .i64 0, .int .i64 0, .slice none 0 0, .int .i64 0, .int .i64 0, .int .i64 0, .slice none 0 0] 39), (b3, .cells #[.bool p.up, .bool p.has, .int .i64 p.ver, .int .i64 p.scene.grid.wide, c, l, f] 31)])) ∧ Gr A' lv 3 intF ((xs.take x).map fun k => gt p.scene.lights k.toNat)) (fun x => xs.length - x) 0 ((b8, .cells #[.int .i64 3, .int .i64 0, .int .i64 (i : Int), .int .i64 p.ver, .int .i64 0, .slice none 0 0, .int .i64 0, .int .i64 0, .int .i64 0, lv0] 39) :: (AL0 ++ (AW ++ [(b6, .cells #[.int .i64 0, .int .i64 0, .int .i64 0, .int .i64 0, .int .i64 0, .slice none 0 0, .int .i64 0, .int .i64 0, .int .i64 0, .slice none 0 0] 39), (b3, .cells #[.bool p.up, .bool p.has, .int .i64 p.ver, .int .i64 p.scene.grid.wide, c, l, f] 31)]))) ⟨by omega, _, AL0, rfl, gl0⟩ ?_
  rintro j O ⟨hj, lv, A', rfl, gr⟩
  have o4 := gr.one
  have hlt : ((xs.take j).map fun k => gt p.scene.lights k.toNat).length = j := by rw [List.length_map, List.length_take]; omega
  repeat first | refine R1 ?_ | refine R2 fun _ => ?_
  refine sf_if (fun h4 => ?_) fun h4 => ?_
  · have hj4 : j < ownCnt N m i := by omega
    have ha := hat j hj4
    have hb := (hc j).1 hj4
    have hstep : ((xs.take (j + 1)).map fun k => gt p.scene.lights k.toNat) = ((xs.take j).map fun k => gt p.scene.lights k.toNat) ++ [gt p.scene.lights (gt xs j).toNat] := by
      rw [take_succ_gt (by omega), List.map_append]; rfl
    have hz0 : 0 ≤ gt xs j := by omega
    have hz1 : (gt xs j).toNat < p.scene.lights.length := by omega
    repeat first | refine R1 ?_ | refine R2 fun _ => ?_
    refine Sd [[],[0],[],[2],[2,3],[],[],[5,6],[5,6,7],[2,3,4,5,6,7,8],[2,3,4,5,6,7,8,9],[2,3,4,5,6,7,8,9,10],[0,1,2,3,4,5,6,7,8,9,10,11],[0,1,2,3,4,5,6,7,8,9,10,11,12],[0,1,2,3,4,5,6,7,8,9,10,11,12,13]] 12 [Nn 0,Nn 1,Nn 2,Nn 3,Nn 4,Nn 5,Nn 6,Nn 7,Nn 8,Nn 9,Nn 10,Yy 11] ?_
    refine Da ?_
    refine Yb fun u Au gu => ?_
    refine Da ?_
    refine Ae ?_
    refine Xa gr gu fun lv2 A2 g2 => ?_
    have o5 := g2.one
    repeat first | refine R1 ?_ | refine R2 fun _ => ?_
    exact ⟨j + 1, by omega, ⟨rfl, trivial⟩, rfl, (b8, .cells #[.int .i64 3, .int .i64 0, .int .i64 (i : Int), .int .i64 p.ver, .int .i64 0, .slice none 0 0, .int .i64 0, .int .i64 0, .int .i64 0, lv2] 39) :: (A2 ++ (AW ++ [(b6, .cells #[.int .i64 0, .int .i64 0, .int .i64 0, .int .i64 0, .int .i64 0, .slice none 0 0, .int .i64 0, .int .i64 0, .int .i64 0, .slice none 0 0] 39), (b3, .cells #[.bool p.up, .bool p.has, .int .i64 p.ver, .int .i64 p.scene.grid.wide, c, l, f] 31)])), _, inferInstance, by omega, lv2, A2, rfl, by rw [hstep]; exact g2⟩
  · refine sf_exit ?_
    repeat first | refine R1 ?_ | refine R2 fun _ => ?_
    rw [take_ge hj (by omega)] at gr
    refine sf_ret (rO ([] ++ A') ⟨wordCs ⟨3, 0, i, p.ver, noGrid, noEdit, xs.map fun k => gt p.scene.lights k.toNat⟩ (.slice none 0 0) lv, rfl, ?_⟩)
    exact wordO_mk (τ := τ) (w := ⟨3, 0, i, p.ver, noGrid, noEdit, xs.map fun k => gt p.scene.lights k.toNat⟩) (Gr.nil _ _) (by simp [noGrid]) gr (by simp; omega)
theorem sPaintTell_f (h : PHeap) (ca : List Value) (p : Painter) (b : (painterR τ).B h ca p) (id many : Int) : CallF Tryz.prog M 10 [.agg ca.toArray, .int .i64 id, .int .i64 many] [] h fun u A => ∃ cs, u = .tuple #[.agg cs.toArray, .bool (paintTell p id many).2] ∧ (wordR τ).O A cs (paintTell p id many).1 := by
  have b0 := b
  obtain ⟨c, l, f, rfl, s1, s2, s3⟩ := painterB b
  have o1 := s1.one
  have o2 := s2.one
  have o3 := s3.one
  refine Cs Tryz.func10 Tryz.ntmps10 ?_
  repeat first | refine R1 ?_ | refine R2 fun _ => ?_
  refine Xv (sPaintOk_v (M := M) _ _ p b0) ?_
  repeat first | refine R1 ?_ | refine R2 fun _ => ?_
  refine f_splitB (fun h1 => ?_) fun h1 => ?_
  · have h1' := h1
    simp only [Bool.not_eq_true'] at h1'
    repeat first | refine R1 ?_ | refine R2 fun _ => ?_
    refine sf_T rfl ?_
    repeat first | refine R1 ?_ | refine R2 fun _ => ?_
    rw [paintTell, if_neg (fun h => by rw [h.1] at h1'; cases h1')]
    exact sf_ret (rO [] ⟨_, rfl, sNoWordO'⟩)
  have h1' := h1
  simp only [Bool.not_eq_false'] at h1'
  repeat first | refine R1 ?_ | refine R2 fun _ => ?_
  refine Xv (l21Id_v _ _ _) ?_
  repeat first | refine R1 ?_ | refine R2 fun _ => ?_
  refine sf_cond (by rfl) (fun h2 => ?_) fun h2 => ?_
  · simp only [Bool.not_eq_true'] at h2
    repeat first | refine R1 ?_ | refine R2 fun _ => ?_
    rw [paintTell, if_neg (fun h => by have h3 := h.2; rw [h2] at h3; cases h3)]
    exact sf_ret (rO [] ⟨_, rfl, sNoWordO'⟩)
  · simp only [Bool.not_eq_false'] at h2
    repeat first | refine R1 ?_ | refine R2 fun _ => ?_
    refine fp (y_call (l21Tell_f (M := M) _ _ p b0 h1' id many h2) (by rfl) ?_)
    rintro _ A1 ⟨cs, rfl, q⟩
    have q0 := q
    obtain ⟨c2, l2, X1, X2, rfl, rfl, ⟨g1, _⟩, ⟨g2, _⟩⟩ := wordO q
    have o4 := g1.one
    have o5 := g2.one
    repeat first | refine R1 ?_ | refine R2 fun _ => ?_
    rw [paintTell, if_pos ⟨h1', h2⟩]
    exact sf_ret (rO (X1 ++ X2) ⟨_, rfl, q0⟩)
theorem painterO_sc {A : Own} {cs : List Value} {sc : Scene} (q : (sceneR τ).O A cs sc) (u hs : Bool) (v : Int) : (painterR τ).O A (.bool u :: .bool hs :: .int .i64 v :: cs) ⟨u, hs, v, sc⟩ := by
  obtain ⟨c, l, f, A1, A2, A3, rfl, rfl, ⟨g1, j1⟩, ⟨g2, j2⟩, g3⟩ := sceneO q
  exact painterO_mk (p := ⟨u, hs, v, sc⟩) g1 j1 g2 j2 g3
theorem l21Hear_f (h : PHeap) (cb : List Value) (p : Painter) (w : Word) (c l f : Value) (X1 X2 X3 : Own) (g1 : Gr X1 c 35 cellF p.scene.grid.cells) (g2 : Gr X2 l 3 intF p.scene.lights) (g3 : GrR (intSR τ) X3 f 26 p.scene.feet) (ok : paintOk p = true) (hs : szPainterN p ≤ 1048576) (bw : (wordR τ).B h cb w) :
    CallF Tryz.prog M 38 [.agg #[.bool p.up, .bool p.has, .int .i64 p.ver, .int .i64 p.scene.grid.wide, c, l, f], .agg cb.toArray] (X1 ++ (X2 ++ X3)) h fun u A => ∃ cs, u = .agg cs.toArray ∧ (painterR τ).O A cs (paintHeard p w) := by
  have hs' := hs
  simp only [szPainterN, szSceneN, szIntSSN] at hs'
  have qs : (sceneR τ).O (X1 ++ (X2 ++ X3)) _ p.scene := sceneO_mk g1 (by omega) g2 (by omega) g3
  have qp : (painterR τ).O (X1 ++ (X2 ++ X3)) _ p := painterO_mk g1 (by omega) g2 (by omega) g3
  have o1 := g1.one
  have o2 := g2.one
  have o3 := g3.one
  obtain ⟨wc, wl, ecb, sw1, sw2⟩ := wordB bw
  have ecb' : cb = [.int .i64 w.kind, .int .i64 w.to, .int .i64 w.frm, .int .i64 w.ver, .int .i64 w.grid.wide, wc, .int .i64 w.edit.at', .int .i64 w.edit.cell.kind, .int .i64 w.edit.cell.light, wl] := ecb
  subst ecb'
  clear ecb
  have o4 := sw1.one
  have o5 := sw2.one
  refine Cs Tryz.func38 Tryz.ntmps38 ?_
  repeat first | refine R1 ?_ | refine R2 fun _ => ?_
  refine sf_cond (by rfl) (fun e => ?_) fun e => ?_
  · simp only [Bool.not_eq_true'] at e
    repeat first | refine R1 ?_ | refine R2 fun _ => ?_
    rw [heard_up e]
    exact sf_ret (rO (X1 ++ (X2 ++ X3)) ⟨_, rfl, qp⟩)
  simp only [Bool.not_eq_false'] at e
  repeat first | refine R1 ?_ | refine R2 fun _ => ?_
  refine sf_if (fun e1 => ?_) fun e1 => ?_
  · rw [heard1 e e1]
    repeat first | refine R1 ?_ | refine R2 fun _ => ?_
    refine fp (y_call (sSceneNew_f (M := M) _ _ w.grid (gridB_mk sw1)) (by rfl) ?_)
    rintro _ A1 ⟨cs, rfl, q⟩
    by_cases eg : gridOk w.grid = true
    · have en : sceneNew w.grid = (sceneOf w.grid, true) := by rw [sceneNew, if_pos eg]
      rw [en] at q ⊢
      obtain ⟨c2, l2, f2, Y1, Y2, Y3, rfl, rfl, ⟨k1, j1⟩, ⟨k2, j2⟩, k3⟩ := sceneO q
      have o6 := k1.one
      have o7 := k2.one
      have o8 := k3.one
      simp only at k1 k2 k3 j1 j2 q ⊢
      repeat first | refine R1 ?_ | refine R2 fun _ => ?_
      refine Xv (l6In_v _ _ _ _) ?_
      repeat first | refine R1 ?_ | refine R2 fun _ => ?_
      refine f_splitB (fun e2 => ?_) fun e2 => ?_
      · repeat first | refine R1 ?_ | refine R2 fun _ => ?_
        refine f_splitB (fun e3 => ?_) fun e3 => ?_
        · have e3' : p.has = false := by simpa using e3
          repeat first | refine R1 ?_ | refine R2 fun _ => ?_
          refine sf_cond (by rfl) (fun e4 => ?_) fun e4 => ?_
          · repeat first | refine R1 ?_ | refine R2 fun _ => ?_
            rw [if_pos ⟨by simpa using e2, fun z => by (rw [e3'] at z; cases z), eg⟩]
            exact sf_ret (rO (Y1 ++ (Y2 ++ Y3)) ⟨_, rfl, painterO_mk (p := ⟨true, true, w.ver, sceneOf w.grid⟩) k1 j1 k2 j2 k3⟩)
          · simp [e2, e3] at e4
        · have e3' : p.has = true := by simpa using e3
          repeat first | refine R1 ?_ | refine R2 fun _ => ?_
          refine sf_cond (by rfl) (fun e4 => ?_) fun e4 => ?_
          · repeat first | refine R1 ?_ | refine R2 fun _ => ?_
            rw [if_pos ⟨by simpa using e2, fun _ => by simpa using e4, eg⟩]
            exact sf_ret (rO (Y1 ++ (Y2 ++ Y3)) ⟨_, rfl, painterO_mk (p := ⟨true, true, w.ver, sceneOf w.grid⟩) k1 j1 k2 j2 k3⟩)
          · repeat first | refine R1 ?_ | refine R2 fun _ => ?_
            rw [if_neg (fun z => by have := z.2.1 e3'; simp at e4; omega)]
            exact sf_ret (rO (X1 ++ (X2 ++ X3)) ⟨_, rfl, qp⟩)
      · repeat first | refine R1 ?_ | refine R2 fun _ => ?_
        refine sf_cond (by rfl) (fun e4 => ?_) fun e4 => ?_
        · simp [e2] at e4
        repeat first | refine R1 ?_ | refine R2 fun _ => ?_
        rw [if_neg (fun z => by have := z.1; simp at e2; omega)]
        exact sf_ret (rO (X1 ++ (X2 ++ X3)) ⟨_, rfl, qp⟩)
    · have en : sceneNew w.grid = (noScene, false) := by rw [sceneNew, if_neg eg]
      rw [en] at q ⊢
      obtain ⟨c2, l2, f2, Y1, Y2, Y3, rfl, rfl, ⟨k1, j1⟩, ⟨k2, j2⟩, k3⟩ := sceneO q
      have o6 := k1.one
      have o7 := k2.one
      have o8 := k3.one
      simp only at k1 k2 k3 j1 j2 q ⊢
      repeat first | refine R1 ?_ | refine R2 fun _ => ?_
      refine sf_cond (by rfl) (fun e4 => ?_) fun e4 => ?_
      · simp at e4
      repeat first | refine R1 ?_ | refine R2 fun _ => ?_
      rw [if_neg (fun z => eg z.2.2)]
      exact sf_ret (rO (X1 ++ (X2 ++ X3)) ⟨_, rfl, qp⟩)
  repeat first | refine R1 ?_ | refine R2 fun _ => ?_
  refine sf_if (fun e2 => ?_) fun e2 => ?_
  · rw [heard2 e e2]
    repeat first | refine R1 ?_ | refine R2 fun _ => ?_
    refine f_splitB (fun e3 => ?_) fun e3 => ?_
    · obtain ⟨-, hv0, hv1, hsc⟩ := paintOk_has ok e3
      obtain ⟨hgk, hse⟩ := sceneOk_is hsc
      repeat first | refine R1 ?_ | refine R2 fun _ => ?_
      refine f_split (fun e4 => ?_) fun e4 => ?_
      · repeat first | refine R1 ?_ | refine R2 fun _ => ?_
        refine f_split (fun e5 => ?_) fun e5 => ?_
        · repeat first | refine R1 ?_ | refine R2 fun _ => ?_
          refine Xb fun ev AE ge => ?_
          have o6 := ge.one
          repeat first | refine R1 ?_ | refine R2 fun _ => ?_
          refine fp (y_lendV (X1 ++ AE) (fun h' _ i => l13Edits_v (M := M) h' c p.scene.grid (g1.lent (by omega) (inb_l i)) ev [w.edit] (ge.lent (by simp) (inb_r i))) (by rfl) ?_)
          rw [editsOk_one]
          repeat first | refine R1 ?_ | refine R2 fun _ => ?_
          refine sf_cond (by rfl) (fun e6 => ?_) fun e6 => ?_
          · have e6' : editOk p.scene.grid w.edit = true := by simpa using e6
            have hfl : p.scene.feet = feetOf p.scene.grid := congrArg Scene.feet hse
            have hll : p.scene.lights = picOf p.scene.grid := congrArg Scene.lights hse
            have hm := (gok hgk).many
            rw [if_pos ⟨e3, e5, by omega, e6'⟩]
            repeat first | refine R1 ?_ | refine R2 fun _ => ?_
            refine sf_draw (by kernel_rfl) (regX_own (X1 ++ (X2 ++ X3)) (regX_split 2 5 (by rfl) (regX_split 2 10 (by rfl) (regX_split 5 10 (by rfl) (regX_split 6 10 (by rfl) ?_ ?_) ?_) ?_) (regX_split 2 10 (by rfl) (regX_split 6 10 (by rfl) ?_ ?_) (regX_split 5 10 (by rfl) ?_ ?_))))
            case' refine_1 =>
              refine Sw [[],[0],[0,1],[],[3],[0,1,2,3,4],[0,1,2,3,4,5],[0,1,2,3,4,5,6],[0,1,2,3,4,5,6,7],[0,1,2,3,4,5,6,7],[0,1,2,3,4,5,6],[0,1,2,3,4,5,6,7,8,10],[0,1,2,3,4,5,6,7,8,9,10,11]] 12 [Nn 0,Nn 1,Nn 3,Nn 4,Yy 2,Yy 5,Yy 6,Nn 7,Nn 8,Nn 9,Yy 10,Yy 11] ?_
              refine Da ?_
              refine Yc (lendF (X1 ++ (X2 ++ X3)) fun h' l' i => l13Copy_f (M := M) h' _ p.scene ((sceneR τ).lent qs i) hs) ?_
              rintro _ _ ⟨AX, rfl, cs, rfl, q⟩
              obtain ⟨c2, l2, f2, Y1, Y2, Y3, rfl, rfl, ⟨k1, j1⟩, ⟨k2, j2⟩, k3⟩ := sceneO q
              have o7 := k1.one
              have o8 := k2.one
              have o9 := k3.one
              refine Da ?_
              refine Yb fun ev AE ge => ?_
              have o10 := ge.one
              refine Da ?_
              refine Yc (lendF AE fun h' l' i => l13Do_f (M := M) h' c2 l2 f2 ev Y1 Y2 Y3 p.scene w.edit k1 k2 k3 (ge.lent (by simp) i) hgk e6' (by rw [hll, picOf_len]; omega) (by rw [hfl, feetOf_len]; omega)) ?_
              rintro _ _ ⟨A5, rfl, w2, rfl, q5, ow⟩
              refine Da ?_
              refine Yl fun b7 => ?_
              refine Da ?_
              refine a_store (by rfl) (by rfl) (by rfl) (.inl rfl) ?_
              refine Da ?_
              refine Ae ?_
              repeat first | refine R1 ?_ | refine R2 fun _ => ?_
              exact sf_ret (rO A5 ⟨_, rfl, painterO_sc q5 _ _ _⟩)
            case' refine_2 =>
              refine Sw [[],[0],[0,1],[],[3],[0,1,2,3,4],[0,1,2,3,4,5,10],[0,1,2,3,4,5,6,10],[0,1,2,3,4,5,6,7,10],[0,1,2,3,4,5,6,7,10],[0,1,2,3,4,5],[0,1,2,3,4,5,6,7,8,10],[0,1,2,3,4,5,6,7,8,9,10,11]] 12 [Nn 0,Nn 1,Nn 3,Nn 4,Yy 2,Yy 5,Yy 10,Yy 6,Nn 7,Nn 8,Nn 9,Yy 11] ?_
              refine Da ?_
              refine Yc (lendF (X1 ++ (X2 ++ X3)) fun h' l' i => l13Copy_f (M := M) h' _ p.scene ((sceneR τ).lent qs i) hs) ?_
              rintro _ _ ⟨AX, rfl, cs, rfl, q⟩
              obtain ⟨c2, l2, f2, Y1, Y2, Y3, rfl, rfl, ⟨k1, j1⟩, ⟨k2, j2⟩, k3⟩ := sceneO q
              have o7 := k1.one
              have o8 := k2.one
              have o9 := k3.one
              refine Da ?_
              refine Yb fun ev AE ge => ?_
              have o10 := ge.one
              refine Da ?_
              refine Yl fun b7 => ?_
              refine Da ?_
              refine Yc (lendF AE fun h' l' i => l13Do_f (M := M) h' c2 l2 f2 ev Y1 Y2 Y3 p.scene w.edit k1 k2 k3 (ge.lent (by simp) i) hgk e6' (by rw [hll, picOf_len]; omega) (by rw [hfl, feetOf_len]; omega)) ?_
              rintro _ _ ⟨A5, rfl, w2, rfl, q5, ow⟩
              refine Da ?_
              refine a_store (by rfl) (by rfl) (by rfl) (.inl rfl) ?_
              refine Da ?_
              refine Ae ?_
              repeat first | refine R1 ?_ | refine R2 fun _ => ?_
              exact sf_ret (rO A5 ⟨_, rfl, painterO_sc q5 _ _ _⟩)
            case' refine_3 =>
              refine Sw [[],[0],[0,1],[],[3],[0,1,2,3,4,10],[0,1,2,3,4,5,10],[0,1,2,3,4,5,6,10],[0,1,2,3,4,5,6,7,10],[0,1,2,3,4,5,6,7,10],[0,1,2],[0,1,2,3,4,5,6,7,8,10],[0,1,2,3,4,5,6,7,8,9,10,11]] 12 [Nn 0,Nn 1,Nn 3,Nn 4,Yy 2,Yy 10,Yy 5,Yy 6,Nn 7,Nn 8,Nn 9,Yy 11] ?_
              refine Da ?_
              refine Yc (lendF (X1 ++ (X2 ++ X3)) fun h' l' i => l13Copy_f (M := M) h' _ p.scene ((sceneR τ).lent qs i) hs) ?_
              rintro _ _ ⟨AX, rfl, cs, rfl, q⟩
              obtain ⟨c2, l2, f2, Y1, Y2, Y3, rfl, rfl, ⟨k1, j1⟩, ⟨k2, j2⟩, k3⟩ := sceneO q
              have o7 := k1.one
              have o8 := k2.one
              have o9 := k3.one
              refine Da ?_
              refine Yl fun b7 => ?_
              refine Da ?_
              refine Yb fun ev AE ge => ?_
              have o10 := ge.one
              refine Da ?_
              refine Yc (lendF AE fun h' l' i => l13Do_f (M := M) h' c2 l2 f2 ev Y1 Y2 Y3 p.scene w.edit k1 k2 k3 (ge.lent (by simp) i) hgk e6' (by rw [hll, picOf_len]; omega) (by rw [hfl, feetOf_len]; omega)) ?_
              rintro _ _ ⟨A5, rfl, w2, rfl, q5, ow⟩
              refine Da ?_
              refine a_store (by rfl) (by rfl) (by rfl) (.inl rfl) ?_
              refine Da ?_
              refine Ae ?_
              repeat first | refine R1 ?_ | refine R2 fun _ => ?_
              exact sf_ret (rO A5 ⟨_, rfl, painterO_sc q5 _ _ _⟩)
            case' refine_4 =>
              refine Sw [[],[0],[0,1,10],[],[3],[0,1,2,3,4,10],[0,1,2,3,4,5,10],[0,1,2,3,4,5,6,10],[0,1,2,3,4,5,6,7,10],[0,1,2,3,4,5,6,7,10],[],[0,1,2,3,4,5,6,7,8,10],[0,1,2,3,4,5,6,7,8,9,10,11]] 12 [Nn 0,Nn 1,Nn 3,Nn 4,Yy 10,Yy 2,Yy 5,Yy 6,Nn 7,Nn 8,Nn 9,Yy 11] ?_
              refine Da ?_
              refine Yl fun b7 => ?_
              refine Da ?_
              refine Yc (lendF (X1 ++ (X2 ++ X3)) fun h' l' i => l13Copy_f (M := M) h' _ p.scene ((sceneR τ).lent qs i) hs) ?_
              rintro _ _ ⟨AX, rfl, cs, rfl, q⟩
              obtain ⟨c2, l2, f2, Y1, Y2, Y3, rfl, rfl, ⟨k1, j1⟩, ⟨k2, j2⟩, k3⟩ := sceneO q
              have o7 := k1.one
              have o8 := k2.one
              have o9 := k3.one
              refine Da ?_
              refine Yb fun ev AE ge => ?_
              have o10 := ge.one
              refine Da ?_
              refine Yc (lendF AE fun h' l' i => l13Do_f (M := M) h' c2 l2 f2 ev Y1 Y2 Y3 p.scene w.edit k1 k2 k3 (ge.lent (by simp) i) hgk e6' (by rw [hll, picOf_len]; omega) (by rw [hfl, feetOf_len]; omega)) ?_
              rintro _ _ ⟨A5, rfl, w2, rfl, q5, ow⟩
              refine Da ?_
              refine a_store (by rfl) (by rfl) (by rfl) (.inl rfl) ?_
              refine Da ?_
              refine Ae ?_
              repeat first | refine R1 ?_ | refine R2 fun _ => ?_
              exact sf_ret (rO A5 ⟨_, rfl, painterO_sc q5 _ _ _⟩)
            case' refine_5 =>
              refine Sw [[],[0],[0,1,3,4,5],[],[3],[3,4],[0,1,2,3,4,5],[0,1,2,3,4,5,6],[0,1,2,3,4,5,6,7],[0,1,2,3,4,5,6,7],[0,1,2,3,4,5,6],[0,1,2,3,4,5,6,7,8,10],[0,1,2,3,4,5,6,7,8,9,10,11]] 12 [Nn 0,Nn 1,Nn 3,Nn 4,Yy 5,Yy 2,Yy 6,Nn 7,Nn 8,Nn 9,Yy 10,Yy 11] ?_
              refine Da ?_
              refine Yb fun ev AE ge => ?_
              have o10 := ge.one
              refine Da ?_
              refine Yc (lendF (X1 ++ (X2 ++ X3)) fun h' l' i => l13Copy_f (M := M) h' _ p.scene ((sceneR τ).lent qs i) hs) ?_
              rintro _ _ ⟨AX, rfl, cs, rfl, q⟩
              obtain ⟨c2, l2, f2, Y1, Y2, Y3, rfl, rfl, ⟨k1, j1⟩, ⟨k2, j2⟩, k3⟩ := sceneO q
              have o7 := k1.one
              have o8 := k2.one
              have o9 := k3.one
              refine Da ?_
              refine Yc (lendF AE fun h' l' i => l13Do_f (M := M) h' c2 l2 f2 ev Y1 Y2 Y3 p.scene w.edit k1 k2 k3 (ge.lent (by simp) i) hgk e6' (by rw [hll, picOf_len]; omega) (by rw [hfl, feetOf_len]; omega)) ?_
              rintro _ _ ⟨A5, rfl, w2, rfl, q5, ow⟩
              refine Da ?_
              refine Yl fun b7 => ?_
              refine Da ?_
              refine a_store (by rfl) (by rfl) (by rfl) (.inl rfl) ?_
              refine Da ?_
              refine Ae ?_
              repeat first | refine R1 ?_ | refine R2 fun _ => ?_
              exact sf_ret (rO A5 ⟨_, rfl, painterO_sc q5 _ _ _⟩)
            case' refine_6 =>
              refine Sw [[],[0],[0,1,3,4,5],[],[3],[3,4],[0,1,2,3,4,5,10],[0,1,2,3,4,5,6,10],[0,1,2,3,4,5,6,7,10],[0,1,2,3,4,5,6,7,10],[0,1,2,3,4,5],[0,1,2,3,4,5,6,7,8,10],[0,1,2,3,4,5,6,7,8,9,10,11]] 12 [Nn 0,Nn 1,Nn 3,Nn 4,Yy 5,Yy 2,Yy 10,Yy 6,Nn 7,Nn 8,Nn 9,Yy 11] ?_
              refine Da ?_
              refine Yb fun ev AE ge => ?_
              have o10 := ge.one
              refine Da ?_
              refine Yc (lendF (X1 ++ (X2 ++ X3)) fun h' l' i => l13Copy_f (M := M) h' _ p.scene ((sceneR τ).lent qs i) hs) ?_
              rintro _ _ ⟨AX, rfl, cs, rfl, q⟩
              obtain ⟨c2, l2, f2, Y1, Y2, Y3, rfl, rfl, ⟨k1, j1⟩, ⟨k2, j2⟩, k3⟩ := sceneO q
              have o7 := k1.one
              have o8 := k2.one
              have o9 := k3.one
              refine Da ?_
              refine Yl fun b7 => ?_
              refine Da ?_
              refine Yc (lendF AE fun h' l' i => l13Do_f (M := M) h' c2 l2 f2 ev Y1 Y2 Y3 p.scene w.edit k1 k2 k3 (ge.lent (by simp) i) hgk e6' (by rw [hll, picOf_len]; omega) (by rw [hfl, feetOf_len]; omega)) ?_
              rintro _ _ ⟨A5, rfl, w2, rfl, q5, ow⟩
              refine Da ?_
              refine a_store (by rfl) (by rfl) (by rfl) (.inl rfl) ?_
              refine Da ?_
              refine Ae ?_
              repeat first | refine R1 ?_ | refine R2 fun _ => ?_
              exact sf_ret (rO A5 ⟨_, rfl, painterO_sc q5 _ _ _⟩)
            case' refine_7 =>
              refine Sw [[],[0],[0,1,3,4,5,10],[],[3],[3,4],[0,1,2,3,4,5,10],[0,1,2,3,4,5,6,10],[0,1,2,3,4,5,6,7,10],[0,1,2,3,4,5,6,7,10],[3,4,5],[0,1,2,3,4,5,6,7,8,10],[0,1,2,3,4,5,6,7,8,9,10,11]] 12 [Nn 0,Nn 1,Nn 3,Nn 4,Yy 5,Yy 10,Yy 2,Yy 6,Nn 7,Nn 8,Nn 9,Yy 11] ?_
              refine Da ?_
              refine Yb fun ev AE ge => ?_
              have o10 := ge.one
              refine Da ?_
              refine Yl fun b7 => ?_
              refine Da ?_
              refine Yc (lendF (X1 ++ (X2 ++ X3)) fun h' l' i => l13Copy_f (M := M) h' _ p.scene ((sceneR τ).lent qs i) hs) ?_
              rintro _ _ ⟨AX, rfl, cs, rfl, q⟩
              obtain ⟨c2, l2, f2, Y1, Y2, Y3, rfl, rfl, ⟨k1, j1⟩, ⟨k2, j2⟩, k3⟩ := sceneO q
              have o7 := k1.one
              have o8 := k2.one
              have o9 := k3.one
              refine Da ?_
              refine Yc (lendF AE fun h' l' i => l13Do_f (M := M) h' c2 l2 f2 ev Y1 Y2 Y3 p.scene w.edit k1 k2 k3 (ge.lent (by simp) i) hgk e6' (by rw [hll, picOf_len]; omega) (by rw [hfl, feetOf_len]; omega)) ?_
              rintro _ _ ⟨A5, rfl, w2, rfl, q5, ow⟩
              refine Da ?_
              refine a_store (by rfl) (by rfl) (by rfl) (.inl rfl) ?_
              refine Da ?_
              refine Ae ?_
              repeat first | refine R1 ?_ | refine R2 fun _ => ?_
              exact sf_ret (rO A5 ⟨_, rfl, painterO_sc q5 _ _ _⟩)
            case' refine_8 =>
              refine Sw [[],[0],[0,1,3,4,5,10],[],[3],[3,4,10],[0,1,2,3,4,5,10],[0,1,2,3,4,5,6,10],[0,1,2,3,4,5,6,7,10],[0,1,2,3,4,5,6,7,10],[],[0,1,2,3,4,5,6,7,8,10],[0,1,2,3,4,5,6,7,8,9,10,11]] 12 [Nn 0,Nn 1,Nn 3,Nn 4,Yy 10,Yy 5,Yy 2,Yy 6,Nn 7,Nn 8,Nn 9,Yy 11] ?_
              refine Da ?_
              refine Yl fun b7 => ?_
              refine Da ?_
              refine Yb fun ev AE ge => ?_
              have o10 := ge.one
              refine Da ?_
              refine Yc (lendF (X1 ++ (X2 ++ X3)) fun h' l' i => l13Copy_f (M := M) h' _ p.scene ((sceneR τ).lent qs i) hs) ?_
              rintro _ _ ⟨AX, rfl, cs, rfl, q⟩
              obtain ⟨c2, l2, f2, Y1, Y2, Y3, rfl, rfl, ⟨k1, j1⟩, ⟨k2, j2⟩, k3⟩ := sceneO q
              have o7 := k1.one
              have o8 := k2.one
              have o9 := k3.one
              refine Da ?_
              refine Yc (lendF AE fun h' l' i => l13Do_f (M := M) h' c2 l2 f2 ev Y1 Y2 Y3 p.scene w.edit k1 k2 k3 (ge.lent (by simp) i) hgk e6' (by rw [hll, picOf_len]; omega) (by rw [hfl, feetOf_len]; omega)) ?_
              rintro _ _ ⟨A5, rfl, w2, rfl, q5, ow⟩
              refine Da ?_
              refine a_store (by rfl) (by rfl) (by rfl) (.inl rfl) ?_
              refine Da ?_
              refine Ae ?_
              repeat first | refine R1 ?_ | refine R2 fun _ => ?_
              exact sf_ret (rO A5 ⟨_, rfl, painterO_sc q5 _ _ _⟩)
          · have e6' : ¬ editOk p.scene.grid w.edit = true := by simpa using e6
            repeat first | refine R1 ?_ | refine R2 fun _ => ?_
            rw [if_neg (fun z => e6' z.2.2.2)]
            exact sf_ret (rO (X1 ++ (X2 ++ X3)) ⟨_, rfl, qp⟩)
        · repeat first | refine R1 ?_ | refine R2 fun _ => ?_
          refine sf_cond (by rfl) (fun e6 => ?_) fun e6 => ?_
          · simp [e5] at e6
          repeat first | refine R1 ?_ | refine R2 fun _ => ?_
          rw [if_neg (fun z => e5 z.2.1)]
          exact sf_ret (rO (X1 ++ (X2 ++ X3)) ⟨_, rfl, qp⟩)
      · repeat first | refine R1 ?_ | refine R2 fun _ => ?_
        refine sf_cond (by rfl) (fun e6 => ?_) fun e6 => ?_
        · simp [e4] at e6
        repeat first | refine R1 ?_ | refine R2 fun _ => ?_
        rw [if_neg (fun z => by omega)]
        exact sf_ret (rO (X1 ++ (X2 ++ X3)) ⟨_, rfl, qp⟩)
    · repeat first | refine R1 ?_ | refine R2 fun _ => ?_
      refine sf_cond (by rfl) (fun e6 => ?_) fun e6 => ?_
      · simp [e3] at e6
      repeat first | refine R1 ?_ | refine R2 fun _ => ?_
      rw [if_neg (fun z => by rw [e3] at z; exact Bool.noConfusion z.1)]
      exact sf_ret (rO (X1 ++ (X2 ++ X3)) ⟨_, rfl, qp⟩)
  · repeat first | refine R1 ?_ | refine R2 fun _ => ?_
    rw [heard0 e1 e2]
    exact sf_ret (rO (X1 ++ (X2 ++ X3)) ⟨_, rfl, qp⟩)
theorem l22Tell_f (h : PHeap) (ca : List Value) (k : Keeper) (b : (keeperR τ).B h ca k) (ok : keepOk k = true) (z : Int) (hz1 : 1 ≤ z) (hz2 : z ≤ k.parts.length) : CallF Tryz.prog M 144 [.agg ca.toArray, .int .i64 z] [] h fun u A => ∃ cs, u = .agg cs.toArray ∧ (wordR τ).O A cs (toldTo k z) := by
  have b0 := b
  have hk := keepOk_head ok
  obtain ⟨c, ed, p, s, rfl, s1, s2, s3, s4⟩ := keeperB b
  have o1 := s1.one
  have o2 := s2.one
  have o3 := s3.one
  have o4 := s4.one
  have hs2 := s2.small
  have h60 := hk.e60
  have n3 := hk.n3
  obtain ⟨rp, sp, bp⟩ := s3
  have lp := bp.len
  have hsm := sp.small
  obtain ⟨i, hi, hz⟩ : ∃ i : Nat, i < k.parts.length ∧ z = i + 1 := ⟨(z - 1).toNat, by omega, by omega⟩
  obtain ⟨l, ex, sl⟩ := partB (bp.at hi)
  have ol := sl.one
  have hsl := sl.small
  have hi' : i < rp.length := by omega
  have hpo := keepOk_part ok hi
  have ez : (z - 1).toNat = i := by omega
  have hT := toldTo.eq_1 k z
  rw [ez] at hT
  generalize hpt : gt k.parts i = pt at *
  have hver := partOk_ver hpo
  haveI : FlatV (rawF (partR τ).sz) (gt rp (z - 1).toNat) [.bool pt.has, .int .i64 pt.ver, l] := ⟨by rw [ez]; exact ex⟩
  have hgr : pt.has = false ∨ ¬ (1 ≤ (k.edits.length : Int) - pt.ver ∧ (k.edits.length : Int) - pt.ver ≤ 2) → toldTo k z = ⟨1, z, 0, k.edits.length, gridAt k k.edits.length, noEdit, []⟩ := fun x => by
    rw [hT]
    rcases x with x | x
    · rw [if_neg (fun y => by rw [x] at y; exact absurd y.1 (by decide))]
    · rw [if_neg (fun y => x y.2)]
  refine Cs Tryz.func144 Tryz.ntmps144 ?_
  repeat first | refine R1 ?_ | refine R2 fun _ => ?_
  refine f_splitB (fun e => ?_) fun e => ?_
  · have hv := hver e
    repeat first | refine R1 ?_ | refine R2 fun _ => ?_
    refine Xv (l6In_v _ _ _ _) ?_
    repeat first | refine R1 ?_ | refine R2 fun _ => ?_
    refine sf_cond (by rfl) (fun h4 => ?_) fun h4 => ?_
    · simp only [Bool.and_eq_true, decide_eq_true_eq] at h4
      rw [if_pos ⟨e, by omega, by omega⟩] at hT
      rw [hT]
      repeat first | refine R1 ?_ | refine R2 fun _ => ?_
      refine Sd [[],[],[1],[1,2],[],[4],[],[6],[4,5,6,7],[4,5,6,7,8],[0,1,2,3,4,5,6,7,8,9],[0,1,2,3,4,5,6,7,8,9,10]] 10 [Nn 0,Nn 1,Nn 2,Nn 3,Nn 4,Nn 5,Nn 6,Nn 7,Nn 8,Nn 9] ?_
      refine Da ?_
      refine Ae ?_
      repeat first | refine R1 ?_ | refine R2 fun _ => ?_
      exact sf_ret (rO [] ⟨wordCs ⟨2, z, 0, pt.ver + 1, noGrid, gt k.edits pt.ver.toNat, []⟩ _ _, rfl, wordO_mk (w := ⟨2, z, 0, pt.ver + 1, noGrid, gt k.edits pt.ver.toNat, []⟩) (A1 := []) (A2 := []) (Gr.nil _ _) (Nat.zero_le _) (Gr.nil _ _) (Nat.zero_le _)⟩)
    · simp only [Bool.and_eq_false_iff, decide_eq_false_iff_not] at h4
      rw [hgr (.inr (by omega))]
      repeat first | refine R1 ?_ | refine R2 fun _ => ?_
      refine fp (y_call (l22Grid_f _ _ k b0 hk _ (verOk_all k)) (by rfl) ?_)
      rintro _ A1 ⟨cs, rfl, q⟩
      obtain ⟨c2, rfl, g1, l1⟩ := gridO q
      have o5 := g1.one
      repeat first | refine R1 ?_ | refine R2 fun _ => ?_
      exact sf_ret (rO A1 ⟨wordCs ⟨1, z, 0, k.edits.length, gridAt k k.edits.length, noEdit, []⟩ _ _, rfl, by have := wordO_mk (τ := τ) (w := ⟨1, z, 0, k.edits.length, gridAt k k.edits.length, noEdit, []⟩) (A1 := A1) (A2 := []) g1 l1 (Gr.nil _ _) (Nat.zero_le _); rwa [List.append_nil] at this⟩)
  · rw [hgr (.inl (by simpa using e))]
    repeat first | refine R1 ?_ | refine R2 fun _ => ?_
    refine sf_N (by first | rfl | (simp; omega)) ?_
    repeat first | refine R1 ?_ | refine R2 fun _ => ?_
    refine fp (y_call (l22Grid_f _ _ k b0 hk _ (verOk_all k)) (by rfl) ?_)
    rintro _ A1 ⟨cs, rfl, q⟩
    obtain ⟨c2, rfl, g1, l1⟩ := gridO q
    have o5 := g1.one
    repeat first | refine R1 ?_ | refine R2 fun _ => ?_
    exact sf_ret (rO A1 ⟨wordCs ⟨1, z, 0, k.edits.length, gridAt k k.edits.length, noEdit, []⟩ _ _, rfl, by have := wordO_mk (τ := τ) (w := ⟨1, z, 0, k.edits.length, gridAt k k.edits.length, noEdit, []⟩) (A1 := A1) (A2 := []) g1 l1 (Gr.nil _ _) (Nat.zero_le _); rwa [List.append_nil] at this⟩)
theorem l31Put_f (h : PHeap) (A B : Own) (ca cb : List Value) (w : World') (x : Word) (bw : (worldR τ).O A ca w) (bx : (wordR τ).O B cb x) : CallF Tryz.prog M 142 [.agg ca.toArray, .agg cb.toArray] (A ++ B) h fun u A' => ∃ cs, u = .agg cs.toArray ∧ (worldR τ).O A' cs (wPut w x) := by
  have bw0 := bw
  have bx0 := bx
  obtain ⟨c, e, p, s, ps, ns, AK, AP, AN, rfl, rfl, k, gp, gn, o1, o2, o3, o4⟩ := worldX bw
  have o5 := gp.one
  have o6 := gn.one
  obtain ⟨wc, wl, rfl, o7, o8⟩ := wordX bx
  obtain ⟨N0, N1, rfl, rs, g, oa, hq⟩ := gn
  have lq := oa.len
  refine Cs Tryz.func142 Tryz.ntmps142 ?_
  repeat first | refine R1 ?_ | refine R2 fun _ => ?_
  refine sf_if (fun e1 => ?_) fun e1 => ?_
  · repeat first | refine R1 ?_ | refine R2 fun _ => ?_
    refine Xb fun w0 Aw gw => ?_
    repeat first | refine R1 ?_ | refine R2 fun _ => ?_
    refine fp (y_append (by rfl) (by rfl) g gw (by intro y hy; simp at hy; subst hy; exact ((wordR τ).oneO bx0).is) (by rfl) (by rfl) (by simp; omega) (by simp; omega) fun n2 A5 g5 => ?_)
    have o9 := g5.one
    repeat first | refine R1 ?_ | refine R2 fun _ => ?_
    rw [wPut, if_pos (by omega)]
    exact sf_ret (rO (AK ++ (AP ++ (A5 ++ (N1 ++ B)))) ⟨_, rfl, worldX_mk (w := { w with nets := w.nets ++ [x] }) k gp ⟨A5, N1 ++ B, rfl, _, g5, oa.snoc bx0, by simp; omega⟩⟩)
  · repeat first | refine R1 ?_ | refine R2 fun _ => ?_
    rw [wPut, if_neg (by omega)]
    exact sf_ret (rO (AK ++ (AP ++ (N0 ++ N1))) ⟨_, rfl, bw0⟩)
theorem l31Take_f (h : PHeap) (z : Int) (c e p s ps ns : Value) (rs : List (Raw (wordR τ).sz)) (o1 : Sl.One c) (o2 : Sl.One e) (o3 : Sl.One p) (o4 : Sl.One s) (o5 : Sl.One ps) (sl : Sl h ns (rawF (wordR τ).sz) rs) (i : Nat) (hi : i < rs.length) (hn : rs.length ≤ 1000) (one : ∀ r ∈ rs, allOne r.cs = true) : CallF Tryz.prog M 141 [.agg #[.int .i64 z, c, e, p, s, ps, ns], .int .i64 (i : Int)] [] h fun u A => ∃ ns', u = .agg #[.int .i64 z, c, e, p, s, ps, ns'] ∧ Gr A ns' 39 (rawF (wordR τ).sz) (rs.take i ++ rs.drop (i + 1)) := by
  obtain ⟨b, off, cap, rfl, hc, s1, s2⟩ := sl.cut hi
  refine Cs Tryz.func141 Tryz.ntmps141 ?_
  repeat first | refine R1 ?_ | refine R2 fun _ => ?_
  refine Sd [[],[],[1],[],[1,2,3],[0,1,2,3,4],[],[6],[],[8],[6,7,8,9],[0,1,2,3,4,5,6,7,8,9,10],[0,1,2,3,4,5,6,7,8,9,10,11],[0,1,2,3,4,5,6,7,8,9,10,11,12]] 11 [Nn 1,Nn 2,Nn 3,Nn 4,Nn 6,Nn 7,Nn 8,Nn 9,Nn 10,Yy 0,Yy 5] ?_
  refine Da ?_
  refine Yq (by rfl) (fun X h' [_] => q_sliceHi (l := i) (by infer_instance) (by infer_instance) (by rfl) (by rfl) (by omega)) ?_
  refine Da ?_
  refine Yq (by rfl) (fun X h' [_] => q_sliceLo (l := i + 1) (by infer_instance) (by infer_instance) (by rfl) (by rfl) (by omega)) ?_
  refine Da ?_
  refine Yb fun w0 Aw gw => ?_
  have ow := gw.one
  refine Da ?_
  refine a_appendS (by rfl) (by rfl) (by rfl) gw s1 (by infer_instance) (by infer_instance) (fun y hy => one y (List.mem_of_mem_take hy)) (by rfl) (by rfl) (by simp; omega) (by simp; omega) (.inl rfl) fun n1 A1 g1 => ?_
  have o6 := g1.one
  refine Da ?_
  refine Ae ?_
  refine fp (y_appendS (by rfl) (by rfl) g1 s2 (fun y hy => one y (List.mem_of_mem_drop hy)) (by rfl) (by rfl) (by simp; omega) (by simp; omega) fun n2 A2 g2 => ?_)
  have o7 := g2.one
  repeat first | refine R1 ?_ | refine R2 fun _ => ?_
  exact sf_ret (rO A2 ⟨_, rfl, by simpa using g2⟩)
theorem l31WordCopy_f (h : PHeap) (cb : List Value) (x : Word) (bx : (wordR τ).B h cb x) (h1 : x.grid.cells.length ≤ 1048576) (h2 : x.lights.length ≤ 1048576) : CallF Tryz.prog M 143 [.agg cb.toArray] [] h fun u A => ∃ cs, u = .agg cs.toArray ∧ (wordR τ).O A cs x := by
  obtain ⟨wc, wl, rfl, s1, s2⟩ := wordB bx
  have o1 := s1.one
  have o2 := s2.one
  refine Cs Tryz.func143 Tryz.ntmps143 ?_
  repeat first | refine R1 ?_ | refine R2 fun _ => ?_
  refine Sd [[],[0],[0,1],[],[],[4],[4,5],[3,4,5,6],[0,1,2,3,4,5,6,7],[0,1,2,3,4,5,6,7,8],[0,1,2,3,4,5,6,7,8,9]] 8 [Nn 0,Nn 1,Nn 2,Nn 4,Nn 5,Nn 6,Yy 3,Yy 7] ?_
  refine Da ?_
  refine Yb fun w0 Aw gw => ?_
  have ow := gw.one
  refine Da ?_
  refine Ys gw s1 fun c1 A1 g1 => ?_
  have o3 := g1.one
  refine Da ?_
  refine Ae ?_
  repeat first | refine R1 ?_ | refine R2 fun _ => ?_
  refine Xb fun w2 A2 g2 => ?_
  repeat first | refine R1 ?_ | refine R2 fun _ => ?_
  refine Xs g2 s2 fun l1 A3 g3 => ?_
  have o4 := g3.one
  repeat first | refine R1 ?_ | refine R2 fun _ => ?_
  exact sf_ret (rO (A1 ++ A3) ⟨_, rfl, wordO_mk (w := x) g1 (by omega) g3 (by omega)⟩)
theorem l31Bring_f (h : PHeap) (A : Own) (ca : List Value) (w : World') (bw : (worldR τ).O A ca w) (ok : WOk w) (i : Nat) (hi : i < w.nets.length) : CallF Tryz.prog M 140 [.agg ca.toArray, .int .i64 (i : Int)] A h fun u A' => ∃ cs, u = .agg cs.toArray ∧ (worldR τ).O A' cs (wBring w i) := by
  obtain ⟨c, e, p, s, ps, ns, AK, AP, AN, rfl, rfl, k, gp, gn, o1, o2, o3, o4⟩ := worldX bw
  have o5 := gp.one
  have o6 := gn.one
  obtain ⟨N0, N1, rfl, rs, g, oa, hq⟩ := gn
  have lq := oa.len
  have h10 := ok.nets
  have ones := oa.ones
  obtain ⟨B1, Bx, B2, rfl, qx, oT⟩ := oa.pull hi
  have hx := ok.ns _ (gt_mem hi)
  have szx := sz_word ok.head hx
  have hto := wordTrue_to hx
  rw [wBring]
  generalize gt w.nets i = x at *
  obtain ⟨wc, wl, ex, o7, o8⟩ := wordX qx
  have hi' : i < rs.length := by omega
  haveI : FlatV (rawF (wordR τ).sz) (gt rs i) [.int .i64 x.kind, .int .i64 x.to, .int .i64 x.frm, .int .i64 x.ver, .int .i64 x.grid.wide, wc, .int .i64 x.edit.at', .int .i64 x.edit.cell.kind, .int .i64 x.edit.cell.light, wl] := ⟨ex⟩
  rw [ex] at qx
  have lT : (rs.take i ++ rs.drop (i + 1)).length ≤ 10 := by simp; omega
  refine Cs Tryz.func140 Tryz.ntmps140 ?_
  repeat first | refine R1 ?_ | refine R2 fun _ => ?_
  refine fp (y_call (lendF N0 fun h' _ inb => l31Take_f h' w.keeper.first.wide c e p s ps ns rs o1 o2 o3 o4 o5 (g.lent (by omega) inb) i hi' (by omega) ones) (by rfl) ?_)
  rintro _ _ ⟨A2, rfl, ns', rfl, g2⟩
  have o9 := g2.one
  have gn2 : GrR (wordR τ) (A2 ++ (B1 ++ B2)) ns' τ.word (wTake w i).nets := ⟨A2, B1 ++ B2, rfl, _, g2, oT, by have := oT.len; simp only [wTake]; omega⟩
  repeat first | refine R1 ?_ | refine R2 fun _ => ?_
  refine sf_if (fun e1 => ?_) fun e1 => ?_
  · rw [wHear, if_pos e1]
    repeat first | refine R1 ?_ | refine R2 fun _ => ?_
    refine fp (y_call (lendF Bx fun h' _ inb => l22Hear_f h' AK _ w.keeper k ok.keep (by have := (sz_keeper ok.keep).1; omega) _ x ((wordR τ).lent qx inb) (by omega)) (by rfl) ?_)
    rintro _ _ ⟨A3, rfl, kc, rfl, q⟩
    obtain ⟨c2, e2, p2, s2, rfl, u1, u2, u3, u4⟩ := keeperX q
    repeat first | refine R1 ?_ | refine R2 fun _ => ?_
    exact sf_ret (rO (A3 ++ (AP ++ (A2 ++ (B1 ++ B2)))) ⟨_, rfl, worldX_mk (w := { wTake w i with keeper := heard w.keeper x }) q gp gn2⟩)
  · rw [wHear, if_neg e1, show gt (wTake w i).painters (x.to - 1).toNat = gt w.painters (x.to - 1).toNat from rfl]
    have hj : (x.to - 1).toNat < w.painters.length := by rw [ok.many]; omega
    obtain ⟨P0, P1, rfl, rp, gq, op, hp⟩ := gp
    have lp := op.len
    obtain ⟨C1, Ck, C2, rfl, qk, oset⟩ := op.at hj
    have hpt := (painterTrue_is (ok.ps _ (gt_mem hj))).2.1
    have szp := sz_painter hpt
    generalize gt w.painters (x.to - 1).toNat = pt at *
    obtain ⟨c5, l5, f5, X1, X2, X3, ex5, rfl, ⟨k1, j1⟩, ⟨k2, j2⟩, k3⟩ := painterO qk
    have q1 := k1.one
    have q2 := k2.one
    have q3 := k3.one
    haveI : FlatV (rawF (painterR τ).sz) (gt rp (x.to - 1).toNat) [.bool pt.up, .bool pt.has, .int .i64 pt.ver, .int .i64 pt.scene.grid.wide, c5, l5, f5] := ⟨ex5⟩
    repeat first | refine R1 ?_ | refine R2 fun _ => ?_
    refine sf_draw (by kernel_rfl) (regX_own (Bx ++ (X1 ++ (X2 ++ X3))) (Sw [[],[0],[],[2],[2,3],[],[5],[],[7],[7,8],[5,6,7,8,9],[5,6,7,8,9,10],[],[5,6,7,8,9,10,11,12],[0,1,2,3,4,5,6,7,8,9,10,11,12,13],[0,1,2,3,4,5,6,7,8,9,10,11,12,13,14]] 14 [Nn 0,Nn 1,Nn 2,Nn 3,Nn 4,Nn 5,Nn 6,Nn 7,Nn 8,Nn 9,Nn 10,Nn 11,Nn 12,Yy 13] ?_))
    refine Di ?_
    refine Yc (lendF Bx fun h' _ inb => l21Hear_f h' _ pt x c5 l5 f5 X1 X2 X3 k1 k2 k3 hpt (by omega) ((wordR τ).lent qx inb)) ?_
    rintro _ _ ⟨A3, rfl, pc, rfl, q⟩
    obtain ⟨c6, l6, f6, rfl, u1, u2, u3⟩ := painterX q
    refine Di ?_
    refine Ae ?_
    repeat first | refine R1 ?_ | refine R2 fun _ => ?_ | refine fp (Rq ?_ (z_indexGI (by rfl) (by rfl) (by assumption) (by omega) (by omega)))
    refine Xg gq fun D0 ys ey ly _ g5 => ?_
    have oall := oset A3 ⟨_, rfl⟩ _ q
    have gp2 : GrR (painterR τ) (D0 ++ (C1 ++ (A3 ++ C2))) ps τ.painter (w.painters.set (x.to - 1).toNat (paintHeard pt x)) := ⟨D0, _, rfl, ys, g5, by rw [ey]; exact oall, by simp; omega⟩
    repeat first | refine R1 ?_ | refine R2 fun _ => ?_
    exact sf_ret (rO (AK ++ ((D0 ++ (C1 ++ (A3 ++ C2))) ++ (A2 ++ (B1 ++ B2)))) ⟨_, rfl, worldX_mk (w := setP (wTake w i) (x.to - 1).toNat (paintHeard pt x)) k gp2 gn2⟩)
abbrev eventV (e : Event') : Value := .agg #[.int .i64 e.kind, .int .i64 e.a, .int .i64 e.edit.at', .int .i64 e.edit.cell.kind, .int .i64 e.edit.cell.light]
theorem l31Net_f (h : PHeap) (A : Own) (ca : List Value) (w : World') (bw : (worldR τ).O A ca w) (ok : WOk w) (e : Event') : CallF Tryz.prog M 110 [.agg ca.toArray, eventV e] A h fun u A' => ∃ cs, u = .agg cs.toArray ∧ (worldR τ).O A' cs (wNet w e) := by
  have bw0 := bw
  obtain ⟨c, ee, p, s, ps, ns, AK, AP, AN, rfl, rfl, k, gp, gn, o1, o2, o3, o4⟩ := worldX bw
  have o5 := gp.one
  have o6 := gn.one
  obtain ⟨N0, N1, rfl, rs, g, oa, hq⟩ := gn
  have lq := oa.len
  have h10 := ok.nets
  obtain ⟨kind, a, ed⟩ := e
  simp only [eventV]
  refine Cs Tryz.func110 Tryz.ntmps110 ?_
  repeat first | refine R1 ?_ | refine R2 fun _ => ?_
  refine Xv (l6In_v _ _ _ _) ?_
  repeat first | refine R1 ?_ | refine R2 fun _ => ?_
  refine sf_cond (by rfl) (fun e1 => ?_) fun e1 => ?_
  · repeat first | refine R1 ?_ | refine R2 fun _ => ?_
    rw [wNet, if_neg (by simp at e1; simp only; omega)]
    exact sf_ret (rO (AK ++ (AP ++ (N0 ++ N1))) ⟨_, rfl, bw0⟩)
  have hr : 0 ≤ a ∧ a < w.nets.length := by simp at e1; omega
  rw [wNet, if_pos hr]
  simp only
  obtain ⟨i, rfl⟩ : ∃ i : Nat, a = i := ⟨a.toNat, by omega⟩
  simp only [Int.toNat_natCast]
  have hi : i < w.nets.length := by omega
  have hi' : i < rs.length := by omega
  repeat first | refine R1 ?_ | refine R2 fun _ => ?_
  refine sf_if (fun e2 => ?_) fun e2 => ?_
  · rw [if_pos e2]
    repeat first | refine R1 ?_ | refine R2 fun _ => ?_
    refine fp (y_call (l31Bring_f h _ _ w bw0 ok i hi) (by rfl) ?_)
    rintro _ A2 ⟨cs, rfl, q⟩
    obtain ⟨c1, c2, c3, c4, c5, c6, rfl, v1, v2, v3, v4, v5, v6⟩ := worldC q
    repeat first | refine R1 ?_ | refine R2 fun _ => ?_
    exact sf_ret (rO A2 ⟨_, rfl, q⟩)
  rw [if_neg e2]
  repeat first | refine R1 ?_ | refine R2 fun _ => ?_
  refine sf_if (fun e3 => ?_) fun e3 => ?_
  · rw [if_pos e3]
    repeat first | refine R1 ?_ | refine R2 fun _ => ?_
    obtain ⟨B1, Bx, B2, rfl, qx, oT⟩ := oa.pull hi
    refine fp (y_call (lendF N0 fun h' _ inb => l31Take_f h' w.keeper.first.wide c ee p s ps ns rs o1 o2 o3 o4 o5 (g.lent (by omega) inb) i hi' (by omega) oa.ones) (by rfl) ?_)
    rintro _ _ ⟨A2, rfl, ns', rfl, g2⟩
    have o9 := g2.one
    repeat first | refine R1 ?_ | refine R2 fun _ => ?_
    exact sf_ret (rO (AK ++ (AP ++ (A2 ++ (B1 ++ B2)))) ⟨_, rfl, worldX_mk (w := wTake w i) k gp ⟨A2, B1 ++ B2, rfl, _, g2, oT, by have := oT.len; simp only [wTake]; simp at this ⊢; omega⟩⟩)
  rw [if_neg e3]
  obtain ⟨B1, Bx, B2, -, qx, -⟩ := oa.pull hi
  have szx := sz_word ok.head (ok.ns _ (gt_mem hi))
  obtain ⟨wc, wl, ex, o7, o8⟩ := wordX qx
  clear qx
  haveI : FlatV (rawF (wordR τ).sz) (gt rs i) [.int .i64 (gt w.nets i).kind, .int .i64 (gt w.nets i).to, .int .i64 (gt w.nets i).frm, .int .i64 (gt w.nets i).ver, .int .i64 (gt w.nets i).grid.wide, wc, .int .i64 (gt w.nets i).edit.at', .int .i64 (gt w.nets i).edit.cell.kind, .int .i64 (gt w.nets i).edit.cell.light, wl] := ⟨ex⟩
  repeat first | refine R1 ?_ | refine R2 fun _ => ?_
  refine sf_draw (by kernel_rfl) (regX_own (AK ++ (AP ++ (N0 ++ N1))) ?_)
  refine Sw [[],[],[1],[],[3],[1,2,3,4],[1,2,3,4,5],[1,2,3,4,5,6],[0,1,2,3,4,5,6,7],[0,1,2,3,4,5,6,7,8]] 8 [Nn 0,Nn 1,Nn 2,Nn 3,Nn 4,Nn 5,Yy 6,Yy 7] ?_
  refine Da ?_
  refine Yw (by rfl) (z_loadG (by rfl) g (by omega) (by rfl)) ?_
  refine Da ?_
  refine Yc (lendF (AK ++ (AP ++ (N0 ++ N1))) fun h' _ inb => l31WordCopy_f h' (wordCs (gt w.nets i) wc wl) (gt w.nets i) (by have := (oa.lent (inb_r (inb_r (inb_r inb)))).at hi; rw [ex] at this; exact this) (by omega) (by omega)) ?_
  rintro _ _ ⟨A2, rfl, cs, rfl, q⟩
  have q0 := q
  obtain ⟨w2, l2, rfl, v1, v2⟩ := wordX q
  refine Da ?_
  refine Ae ?_
  refine fp (y_call (l31Put_f h _ _ _ _ w (gt w.nets i) bw0 q0) (by rfl) ?_)
  rintro _ A3 ⟨cs, rfl, q⟩
  obtain ⟨c1, c2, c3, c4, c5, c6, rfl, v1, v2, v3, v4, v5, v6⟩ := worldC q
  repeat first | refine R1 ?_ | refine R2 fun _ => ?_
  exact sf_ret (rO A3 ⟨_, rfl, q⟩)
theorem paint_upR {A : Own} {c l f : Value} {p : Painter} (q : (painterR τ).O A [.bool p.up, .bool p.has, .int .i64 p.ver, .int .i64 p.scene.grid.wide, c, l, f] p) : (painterR τ).O A [.bool true, .bool p.has, .int .i64 p.ver, .int .i64 p.scene.grid.wide, c, l, f] (upP p) := by
  obtain ⟨c', l', f', A1, A2, A3, e, rfl, ⟨g1, j1⟩, ⟨g2, j2⟩, g3⟩ := painterO q
  simp only [List.cons.injEq, and_true, true_and] at e
  obtain ⟨rfl, rfl, rfl⟩ := e
  exact painterO_mk (p := upP p) g1 j1 g2 j2 g3
theorem l31Painter_f (h : PHeap) (A : Own) (ca : List Value) (w : World') (bw : (worldR τ).O A ca w) (ok : WOk w) (e : Event') : CallF Tryz.prog M 111 [.agg ca.toArray, eventV e] A h fun u A' => ∃ cs, u = .agg cs.toArray ∧ (worldR τ).O A' cs (wOne w e) := by
  have bw0 := bw
  obtain ⟨c, ee, p, s, ps, ns, AK, AP, AN, rfl, rfl, k, gp, gn, o1, o2, o3, o4⟩ := worldX bw
  have o5 := gp.one
  have o6 := gn.one
  obtain ⟨P0, P1, rfl, rp, gq, op, hp⟩ := gp
  have lp := op.len
  have hm := ok.many
  have n3 := ok.head.n3
  obtain ⟨kind, a, ed⟩ := e
  simp only [eventV]
  refine Cs Tryz.func111 Tryz.ntmps111 ?_
  repeat first | refine R1 ?_ | refine R2 fun _ => ?_
  refine Xv (l6In_v _ _ _ _) ?_
  repeat first | refine R1 ?_ | refine R2 fun _ => ?_
  refine sf_cond (by rfl) (fun e1 => ?_) fun e1 => ?_
  · repeat first | refine R1 ?_ | refine R2 fun _ => ?_
    rw [wOne, if_neg (by simp at e1; simp only; omega)]
    exact sf_ret (rO (AK ++ ((P0 ++ P1) ++ AN)) ⟨_, rfl, bw0⟩)
  have hr : 1 ≤ a ∧ a ≤ w.painters.length := by simp at e1; omega
  rw [wOne, if_pos hr]
  simp only
  obtain ⟨i, rfl⟩ : ∃ i : Nat, a = i + 1 := ⟨(a - 1).toNat, by omega⟩
  rw [show ((i : Int) + 1 - 1).toNat = i by omega, wWho]
  have ei : (i : Int) + 1 - 1 = i := by omega
  have ei' : ((i + 1 : Nat) : Int) = (i : Int) + 1 := by omega
  have hi : i < w.painters.length := by omega
  have hi' : i < rp.length := by omega
  repeat first | refine R1 ?_ | refine R2 fun _ => ?_
  refine sf_if (fun e2 => ?_) fun e2 => ?_
  · rw [if_pos e2, ei']
    repeat first | refine R1 ?_ | refine R2 fun _ => ?_
    refine sf_draw (by kernel_rfl) (regX_own (AK ++ ((P0 ++ P1) ++ AN)) (Sw [[],[],[1],[],[3],[1,2,3,4],[0,1,2,3,4,5],[0,1,2,3,4,5,6]] 6 [Nn 0,Nn 1,Nn 2,Nn 3,Nn 4,Yy 5] ?_))
    refine Da ?_
    refine Yc (lendF AK fun h' _ inb => l22Tell_f h' _ w.keeper ((keeperR τ).lent k inb) ok.keep ((i : Int) + 1) (by omega) (by omega)) ?_
    rintro _ _ ⟨A2, rfl, cs, rfl, q⟩
    have q0 := q
    obtain ⟨w2, l2, rfl, v1, v2⟩ := wordX q
    refine Da ?_
    refine Ae ?_
    refine fp (y_call (l31Put_f h _ _ _ _ w _ bw0 q0) (by rfl) ?_)
    rintro _ A3 ⟨cs, rfl, q⟩
    obtain ⟨c1, c2, c3, c4, c5, c6, rfl, v1, v2, v3, v4, v5, v6⟩ := worldC q
    repeat first | refine R1 ?_ | refine R2 fun _ => ?_
    exact sf_ret (rO A3 ⟨_, rfl, q⟩)
  rw [if_neg e2]
  obtain ⟨C1, Ck, C2, rfl, qk, oset⟩ := op.at hi
  have hpt := (painterTrue_is (ok.ps _ (gt_mem hi))).2.1
  obtain ⟨c5, l5, f5, ex5, q1, q2, q3⟩ := painterX qk
  rw [ex5] at qk
  haveI : FlatV (rawF (painterR τ).sz) (gt rp i) [.bool (gt w.painters i).up, .bool (gt w.painters i).has, .int .i64 (gt w.painters i).ver, .int .i64 (gt w.painters i).scene.grid.wide, c5, l5, f5] := ⟨ex5⟩
  repeat first | refine R1 ?_ | refine R2 fun _ => ?_
  refine sf_if (fun e3 => ?_) fun e3 => ?_
  · rw [if_pos e3, wPaint, ei']
    repeat first | refine R1 ?_ | refine R2 fun _ => ?_
    have tell : ∀ h', Le h h' → InB h' Ck → CallF Tryz.prog M 29 [.agg #[.bool (gt w.painters i).up, .bool (gt w.painters i).has, .int .i64 (gt w.painters i).ver, .int .i64 (gt w.painters i).scene.grid.wide, c5, l5, f5], .int .i64 ((i : Int) + 1), .int .i64 (rp.length : Int)] [] h' fun u A => ∃ cs, u = .tuple #[.agg cs.toArray, .bool (paintTold (gt w.painters i) ((i : Int) + 1) w.painters.length).2] ∧ (wordR τ).O A cs (paintTold (gt w.painters i) ((i : Int) + 1) w.painters.length).1 := fun h' _ inb => by
      rw [lp]
      exact l21Tell_f h' _ _ ((painterR τ).lent qk inb) hpt ((i : Int) + 1) w.painters.length (by simp only [idOk, Bool.and_eq_true, decide_eq_true_eq]; omega)
    refine sf_draw (by kernel_rfl) (regX_own (Ck) (regX_split 12 16 (by rfl) ?_ ?_))
    case' refine_1 =>
      refine Sw [[],[0],[],[2],[2,3],[0,1,2,3,4],[0,1,2,3,4,5],[],[7],[],[9],[9,10],[0,1,2,3,4,5,6,7,8,9,10,11],[0,1,2,3,4,5,6,7,8,9,10,11,12],[0,1,2,3,4,5,6,7,8,9,10,11,12,13],[0,1,2,3,4,5,6,7,8,9,10,11,12,13],[0,1,2,3,4,5,6,7,8,9,10,11,12],[0,1,2,3,4,5,6,7,8,9,10,11,12,13,14,16],[0,1,2,3,4,5,6,7,8,9,10,11,12,13,14,15,16,17]] 18 [Nn 0,Nn 1,Nn 2,Nn 3,Nn 4,Nn 5,Nn 6,Nn 7,Nn 8,Nn 9,Nn 10,Nn 11,Yy 12,Nn 13,Nn 14,Nn 15,Yy 16,Yy 17] ?_
      refine Da ?_
      try simp only [ei]
      refine Da ?_
      refine Yc (lendF Ck tell) ?_
      rintro _ _ ⟨A2, rfl, cs, rfl, q⟩
      have q0 := q
      obtain ⟨w2, l2, rfl, v1, v2⟩ := wordX q
      refine Da ?_
      try simp only [ei]
      refine Da ?_
      refine Yl fun b7 => ?_
      refine Da ?_
      refine a_store (by rfl) (by rfl) (by rfl) (.inl rfl) ?_
      refine Da ?_
      refine Ae ?_
      repeat first | refine R1 ?_ | refine R2 fun _ => ?_
      refine sf_cond (by rfl) (fun e4 => ?_) fun e4 => ?_
      · rw [if_pos e4]
        repeat first | refine R1 ?_ | refine R2 fun _ => ?_
        refine fp (y_call (l31Put_f h _ _ _ _ w _ bw0 q0) (by rfl) ?_)
        rintro _ A3 ⟨cs, rfl, q⟩
        obtain ⟨c1, c2, c3, c4, c5, c6, rfl, v1, v2, v3, v4, v5, v6⟩ := worldC q
        repeat first | refine R1 ?_ | refine R2 fun _ => ?_
        exact sf_ret (rO A3 ⟨_, rfl, q⟩)
      · rw [if_neg (by simp [e4])]
        repeat first | refine R1 ?_ | refine R2 fun _ => ?_
        exact sf_ret (rO (AK ++ ((P0 ++ (C1 ++ (Ck ++ C2))) ++ AN)) ⟨_, rfl, bw0⟩)
    case' refine_2 =>
      refine Sw [[],[0],[],[2],[2,3],[0,1,2,3,4],[0,1,2,3,4,5],[],[7],[],[9],[9,10],[0,1,2,3,4,5,6,7,8,9,10,11,16],[0,1,2,3,4,5,6,7,8,9,10,11,12,16],[0,1,2,3,4,5,6,7,8,9,10,11,12,13,16],[0,1,2,3,4,5,6,7,8,9,10,11,12,13,16],[],[0,1,2,3,4,5,6,7,8,9,10,11,12,13,14,16],[0,1,2,3,4,5,6,7,8,9,10,11,12,13,14,15,16,17]] 18 [Nn 0,Nn 1,Nn 2,Nn 3,Nn 4,Nn 5,Nn 6,Nn 7,Nn 8,Nn 9,Nn 10,Nn 11,Yy 16,Yy 12,Nn 13,Nn 14,Nn 15,Yy 17] ?_
      refine Da ?_
      try simp only [ei]
      refine Da ?_
      refine Yl fun b7 => ?_
      refine Da ?_
      try simp only [ei]
      refine Da ?_
      refine Yc (lendF Ck tell) ?_
      rintro _ _ ⟨A2, rfl, cs, rfl, q⟩
      have q0 := q
      obtain ⟨w2, l2, rfl, v1, v2⟩ := wordX q
      refine Da ?_
      refine a_store (by rfl) (by rfl) (by rfl) (.inl rfl) ?_
      refine Da ?_
      refine Ae ?_
      repeat first | refine R1 ?_ | refine R2 fun _ => ?_
      refine sf_cond (by rfl) (fun e4 => ?_) fun e4 => ?_
      · rw [if_pos e4]
        repeat first | refine R1 ?_ | refine R2 fun _ => ?_
        refine fp (y_call (l31Put_f h _ _ _ _ w _ bw0 q0) (by rfl) ?_)
        rintro _ A3 ⟨cs, rfl, q⟩
        obtain ⟨c1, c2, c3, c4, c5, c6, rfl, v1, v2, v3, v4, v5, v6⟩ := worldC q
        repeat first | refine R1 ?_ | refine R2 fun _ => ?_
        exact sf_ret (rO A3 ⟨_, rfl, q⟩)
      · rw [if_neg (by simp [e4])]
        repeat first | refine R1 ?_ | refine R2 fun _ => ?_
        exact sf_ret (rO (AK ++ ((P0 ++ (C1 ++ (Ck ++ C2))) ++ AN)) ⟨_, rfl, bw0⟩)
  rw [if_neg e3]
  repeat first | refine R1 ?_ | refine R2 fun _ => ?_
  refine sf_if (fun e4 => ?_) fun e4 => ?_
  · rw [if_pos e4]
    repeat first | refine R1 ?_ | refine R2 fun _ => ?_
    simp only [ei]
    repeat first | refine R1 ?_ | refine R2 fun _ => ?_
    refine Xg gq fun D0 ys ey ly _ g5 => ?_
    have oall := oset [] ⟨_, rfl⟩ noPainter noPainterO'
    repeat first | refine R1 ?_ | refine R2 fun _ => ?_
    exact sf_ret (rO (AK ++ ((D0 ++ (C1 ++ ([] ++ C2))) ++ AN)) ⟨_, rfl, worldX_mk (w := setP w i noPainter) k ⟨D0, _, rfl, ys, g5, by rw [ey]; exact oall, by simp [setP]; omega⟩ gn⟩)
  rw [if_neg e4]
  repeat first | refine R1 ?_ | refine R2 fun _ => ?_
  refine sf_if (fun e5 => ?_) fun e5 => ?_
  · rw [if_pos e5]
    repeat first | refine R1 ?_ | refine R2 fun _ => ?_
    simp only [ei]
    repeat first | refine R1 ?_ | refine R2 fun _ => ?_
    refine Xh gq fun D0 ys ey ly _ g5 => ?_
    have oall := oset Ck ⟨_, rfl⟩ (upP (gt w.painters i)) (paint_upR qk)
    repeat first | refine R1 ?_ | refine R2 fun _ => ?_
    exact sf_ret (rO (AK ++ ((D0 ++ (C1 ++ (Ck ++ C2))) ++ AN)) ⟨_, rfl, worldX_mk (w := setP w i (upP (gt w.painters i))) k ⟨D0, _, rfl, ys, g5, by rw [ey]; exact oall, by simp [setP]; omega⟩ gn⟩)
  rw [if_neg e5]
  repeat first | refine R1 ?_ | refine R2 fun _ => ?_
  exact sf_ret (rO (AK ++ ((P0 ++ (C1 ++ (Ck ++ C2))) ++ AN)) ⟨_, rfl, bw0⟩)
theorem l31Do_f (h : PHeap) (A : Own) (ca : List Value) (w : World') (bw : (worldR τ).O A ca w) (ok : WOk w) (e : Event') : CallF Tryz.prog M 83 [.agg ca.toArray, eventV e] A h fun u A' => ∃ cs, u = .agg cs.toArray ∧ (worldR τ).O A' cs (wDo w e) := by
  have bw0 := bw
  obtain ⟨c, ee, p, s, ps, ns, AK, AP, AN, rfl, rfl, k, gp, gn, o1, o2, o3, o4⟩ := worldX bw
  have o5 := gp.one
  have o6 := gn.one
  obtain ⟨kind, a, ed⟩ := e
  simp only [eventV]
  rw [wDo]
  simp only
  refine Cs Tryz.func83 Tryz.ntmps83 ?_
  repeat first | refine R1 ?_ | refine R2 fun _ => ?_
  refine sf_if (fun e1 => ?_) fun e1 => ?_
  · rw [if_pos e1]
    obtain ⟨c', e', p', s', K1, K2, K3, K4, ec, rfl, ⟨g1, l1⟩, ⟨g2, l2⟩, g3, g4⟩ := keeperO k
    simp only [List.cons.injEq, and_true, true_and] at ec
    obtain ⟨rfl, rfl, rfl, rfl⟩ := ec
    repeat first | refine R1 ?_ | refine R2 fun _ => ?_
    refine f_split (fun e2 => ?_) fun e2 => ?_
    · repeat first | refine R1 ?_ | refine R2 fun _ => ?_
      refine Xb fun ev AE ge => ?_
      have oe := ge.one
      repeat first | refine R1 ?_ | refine R2 fun _ => ?_
      refine fp (y_lendV (K1 ++ AE) (fun h' _ i => l13Edits_v h' c w.keeper.first (g1.lent l1 (inb_l i)) ev [ed] (ge.lent (by simp) (inb_r i))) (by rfl) ?_)
      rw [editsOk_one]
      repeat first | refine R1 ?_ | refine R2 fun _ => ?_
      refine sf_cond (by rfl) (fun e3 => ?_) fun e3 => ?_
      · rw [if_pos (by simp [canEdit] at e3 ⊢; exact ⟨by omega, e3⟩)]
        repeat first | refine R1 ?_ | refine R2 fun _ => ?_
        refine Xb fun u Au gu => ?_
        repeat first | refine R1 ?_ | refine R2 fun _ => ?_
        refine Xa g2 gu fun v2 A2 g5 => ?_
        have o7 := g5.one
        repeat first | refine R1 ?_ | refine R2 fun _ => ?_
        exact sf_ret (rO ((K1 ++ (A2 ++ (K3 ++ K4))) ++ (AP ++ AN)) ⟨_, rfl, worldX_mk (w := { w with keeper := withEdit w.keeper ed }) (keeperO_mk (k := withEdit w.keeper ed) g1 l1 g5 (by simp [withEdit]; omega) g3 g4) gp gn⟩)
      · rw [if_neg (by simp [canEdit] at e3 ⊢; intro _; exact e3)]
        repeat first | refine R1 ?_ | refine R2 fun _ => ?_
        exact sf_ret (rO ((K1 ++ (K2 ++ (K3 ++ K4))) ++ (AP ++ AN)) ⟨_, rfl, bw0⟩)
    · rw [if_neg (by simp [canEdit]; intro z; omega)]
      repeat first | refine R1 ?_ | refine R2 fun _ => ?_
      refine sf_cond (by rfl) (fun e => by cases e) fun _ => ?_
      repeat first | refine R1 ?_ | refine R2 fun _ => ?_
      exact sf_ret (rO ((K1 ++ (K2 ++ (K3 ++ K4))) ++ (AP ++ AN)) ⟨_, rfl, bw0⟩)
  rw [if_neg e1]
  by_cases e2 : 4 ≤ kind ∧ kind ≤ 6
  · rw [if_pos e2]
    have net := l31Net_f (M := M) h _ _ w bw0 ok ⟨kind, a, ed⟩
    have fin : ∀ {X : Prop} (_ : X), X := fun x => x
    repeat first | refine R1 ?_ | refine R2 fun _ => ?_
    refine sf_if (fun e3 => ?_) fun e3 => ?_
    · repeat first | refine R1 ?_ | refine R2 fun _ => ?_
      refine sf_if (fun _ => ?_) fun z => absurd (by assumption) z
      repeat first | refine R1 ?_ | refine R2 fun _ => ?_
      refine fp (y_call net (by rfl) ?_)
      rintro _ A2 ⟨cs, rfl, q⟩
      obtain ⟨c1, c2, c3, c4, c5, c6, rfl, v1, v2, v3, v4, v5, v6⟩ := worldC q
      repeat first | refine R1 ?_ | refine R2 fun _ => ?_
      exact sf_ret (rO A2 ⟨_, rfl, q⟩)
    repeat first | refine R1 ?_ | refine R2 fun _ => ?_
    refine sf_if (fun e4 => ?_) fun e4 => ?_
    · repeat first | refine R1 ?_ | refine R2 fun _ => ?_
      refine sf_if (fun _ => ?_) fun z => absurd (by assumption) z
      repeat first | refine R1 ?_ | refine R2 fun _ => ?_
      refine fp (y_call net (by rfl) ?_)
      rintro _ A2 ⟨cs, rfl, q⟩
      obtain ⟨c1, c2, c3, c4, c5, c6, rfl, v1, v2, v3, v4, v5, v6⟩ := worldC q
      repeat first | refine R1 ?_ | refine R2 fun _ => ?_
      exact sf_ret (rO A2 ⟨_, rfl, q⟩)
    have e5 : kind = 6 := by omega
    repeat first | refine R1 ?_ | refine R2 fun _ => ?_
    refine sf_if (fun _ => ?_) fun e6 => absurd e5 e6
    repeat first | refine R1 ?_ | refine R2 fun _ => ?_
    refine fp (y_call net (by rfl) ?_)
    rintro _ A2 ⟨cs, rfl, q⟩
    obtain ⟨c1, c2, c3, c4, c5, c6, rfl, v1, v2, v3, v4, v5, v6⟩ := worldC q
    repeat first | refine R1 ?_ | refine R2 fun _ => ?_
    exact sf_ret (rO A2 ⟨_, rfl, q⟩)
  · rw [if_neg e2]
    repeat first | refine R1 ?_ | refine R2 fun _ => ?_
    refine sf_if (fun e3 => ?_) fun e3 => ?_
    · omega
    repeat first | refine R1 ?_ | refine R2 fun _ => ?_
    refine sf_if (fun e4 => ?_) fun e4 => ?_
    · omega
    repeat first | refine R1 ?_ | refine R2 fun _ => ?_
    refine sf_if (fun e5 => ?_) fun e5 => ?_
    · omega
    repeat first | refine R1 ?_ | refine R2 fun _ => ?_
    refine fp (y_call (l31Painter_f (M := M) h _ _ w bw0 ok ⟨kind, a, ed⟩) (by rfl) ?_)
    rintro _ A2 ⟨cs, rfl, q⟩
    obtain ⟨c1, c2, c3, c4, c5, c6, rfl, v1, v2, v3, v4, v5, v6⟩ := worldC q
    repeat first | refine R1 ?_ | refine R2 fun _ => ?_
    exact sf_ret (rO A2 ⟨_, rfl, q⟩)
instance : ElemF Tryz.prog 132 eventF := ⟨trivial⟩
theorem l72Event_f (h : PHeap) (br : Nat) (v : Value) (xs : List (Fin 256)) (s : Sl h v u8F xs) (hs : xs.length ≤ 2000) (p : Nat) (hp1 : p ≤ 980000) (ca : List Value) (w : World') (b : (worldR τ).B h ca w) (hn : w.nets.length ≤ 900) (h1 : 1 ≤ w.painters.length) (h3 : w.painters.length ≤ 900) (hg : w.keeper.first.cells.length ≤ 1000) : CallF Tryz.prog M 82 [.pointer (some ⟨br, 0, none⟩), .agg ca.toArray] (rdA br v p) h fun u A => ∃ (e : Event') (q : Nat), u = eventV e ∧ q ≤ p + 20 ∧ A = rdA br v q := by
  have o0 := s.one
  obtain ⟨c, ed, pt, sh, ps, ns, rfl, s1, s2, s3, s4, s5, s6⟩ := worldB b
  have o1 := s1.one
  have o2 := s2.one
  have o3 := s3.one
  have o4 := s4.one
  have o5 := s5.one
  have o6 := s6.one
  obtain ⟨rp, sp, bp⟩ := s5
  obtain ⟨rn, sn, bn⟩ := s6
  have lp := bp.len
  have ln := bn.len
  have bg : (gridR τ).B h [.int .i64 w.keeper.first.wide, c] w.keeper.first := gridB_mk s1
  refine Cs Tryz.func82 Tryz.ntmps82 ?_
  repeat first | refine R1 ?_ | refine R2 fun _ => ?_
  refine fp (y_call (pick_f _ br v xs s hs p (rp.length : Int) (by omega) (by omega) (by omega)) (by rfl) ?_)
  rintro _ _ ⟨m, rfl, m0, m1, rfl⟩
  repeat first | refine R1 ?_ | refine R2 fun _ => ?_
  refine f_split (fun g1 => ?_) fun g1 => ?_
  · repeat first | refine R1 ?_ | refine R2 fun _ => ?_
    refine fp (y_call (pick_f _ br v xs s hs (p + 1) 3 (by omega) (by omega) (by omega)) (by rfl) ?_)
    rintro _ _ ⟨m2, rfl, -, -, rfl⟩
    repeat first | refine R1 ?_ | refine R2 fun _ => ?_
    refine sf_if (fun g2 => ?_) fun g2 => ?_
    · repeat first | refine R1 ?_ | refine R2 fun _ => ?_
      refine fp (y_call (pick_f _ br v xs s hs (p + 1 + 1) (rn.length : Int) (by omega) (by omega) (by omega)) (by rfl) ?_)
      rintro _ _ ⟨m3, rfl, -, -, rfl⟩
      repeat first | refine R1 ?_ | refine R2 fun _ => ?_
      exact sf_ret (rt (rdA br v (p + 1 + 1 + 1)) (resV_one rfl (yr_cell rfl)) ⟨⟨4, m3, noEdit⟩, _, rfl, by omega, rfl⟩)
    repeat first | refine R1 ?_ | refine R2 fun _ => ?_
    refine fp (y_call (pick_f _ br v xs s hs (p + 1 + 1) 14 (by omega) (by omega) (by omega)) (by rfl) ?_)
    rintro _ _ ⟨n, rfl, -, -, rfl⟩
    repeat first | refine R1 ?_ | refine R2 fun _ => ?_
    refine sf_if (fun z => ?_) fun z => ?_
    · repeat first | refine R1 ?_ | refine R2 fun _ => ?_
      refine sf_if (fun _ => ?_) fun y => absurd z y
      repeat first | refine R1 ?_ | refine R2 fun _ => ?_
      refine fp (y_call (l71Edit_f _ br v xs s hs (p + 1 + 1 + 1) (by omega) _ _ bg hg) (by rfl) ?_)
      rintro _ _ ⟨e, q, rfl, hq, rfl⟩
      repeat first | refine R1 ?_ | refine R2 fun _ => ?_
      exact sf_ret (rt (rdA br v q) (resV_one rfl (yr_cell rfl)) ⟨⟨1, 0, e⟩, _, rfl, by omega, rfl⟩)
    repeat first | refine R1 ?_ | refine R2 fun _ => ?_
    refine sf_if (fun z => ?_) fun z => ?_
    · repeat first | refine R1 ?_ | refine R2 fun _ => ?_
      refine sf_if (fun _ => ?_) fun y => absurd z y
      repeat first | refine R1 ?_ | refine R2 fun _ => ?_
      refine fp (y_call (l71Edit_f _ br v xs s hs (p + 1 + 1 + 1) (by omega) _ _ bg hg) (by rfl) ?_)
      rintro _ _ ⟨e, q, rfl, hq, rfl⟩
      repeat first | refine R1 ?_ | refine R2 fun _ => ?_
      exact sf_ret (rt (rdA br v q) (resV_one rfl (yr_cell rfl)) ⟨⟨1, 0, e⟩, _, rfl, by omega, rfl⟩)
    repeat first | refine R1 ?_ | refine R2 fun _ => ?_
    refine sf_if (fun z => ?_) fun z => ?_
    · repeat first | refine R1 ?_ | refine R2 fun _ => ?_
      refine fp (y_call (l71Edit_f _ br v xs s hs (p + 1 + 1 + 1) (by omega) _ _ bg hg) (by rfl) ?_)
      rintro _ _ ⟨e, q, rfl, hq, rfl⟩
      repeat first | refine R1 ?_ | refine R2 fun _ => ?_
      exact sf_ret (rt (rdA br v q) (resV_one rfl (yr_cell rfl)) ⟨⟨1, 0, e⟩, _, rfl, by omega, rfl⟩)
    repeat first | refine R1 ?_ | refine R2 fun _ => ?_
    refine sf_if (fun z => ?_) fun z => ?_
    · repeat first | refine R1 ?_ | refine R2 fun _ => ?_
      refine sf_if (fun _ => ?_) fun y => absurd z y
      repeat first | refine R1 ?_ | refine R2 fun _ => ?_
      exact sf_ret (rt (rdA br v (p + 1 + 1 + 1)) (resV_one rfl (yr_cell rfl)) ⟨⟨2, 1 + m, noEdit⟩, _, rfl, by omega, rfl⟩)
    repeat first | refine R1 ?_ | refine R2 fun _ => ?_
    refine sf_if (fun z => ?_) fun z => ?_
    · repeat first | refine R1 ?_ | refine R2 fun _ => ?_
      refine sf_if (fun _ => ?_) fun y => absurd z y
      repeat first | refine R1 ?_ | refine R2 fun _ => ?_
      exact sf_ret (rt (rdA br v (p + 1 + 1 + 1)) (resV_one rfl (yr_cell rfl)) ⟨⟨2, 1 + m, noEdit⟩, _, rfl, by omega, rfl⟩)
    repeat first | refine R1 ?_ | refine R2 fun _ => ?_
    refine sf_if (fun z => ?_) fun z => ?_
    · repeat first | refine R1 ?_ | refine R2 fun _ => ?_
      exact sf_ret (rt (rdA br v (p + 1 + 1 + 1)) (resV_one rfl (yr_cell rfl)) ⟨⟨2, 1 + m, noEdit⟩, _, rfl, by omega, rfl⟩)
    repeat first | refine R1 ?_ | refine R2 fun _ => ?_
    refine sf_if (fun z => ?_) fun z => ?_
    · repeat first | refine R1 ?_ | refine R2 fun _ => ?_
      refine sf_if (fun _ => ?_) fun y => absurd z y
      repeat first | refine R1 ?_ | refine R2 fun _ => ?_
      exact sf_ret (rt (rdA br v (p + 1 + 1 + 1)) (resV_one rfl (yr_cell rfl)) ⟨⟨3, 1 + m, noEdit⟩, _, rfl, by omega, rfl⟩)
    repeat first | refine R1 ?_ | refine R2 fun _ => ?_
    refine sf_if (fun z => ?_) fun z => ?_
    · repeat first | refine R1 ?_ | refine R2 fun _ => ?_
      refine sf_if (fun _ => ?_) fun y => absurd z y
      repeat first | refine R1 ?_ | refine R2 fun _ => ?_
      exact sf_ret (rt (rdA br v (p + 1 + 1 + 1)) (resV_one rfl (yr_cell rfl)) ⟨⟨3, 1 + m, noEdit⟩, _, rfl, by omega, rfl⟩)
    repeat first | refine R1 ?_ | refine R2 fun _ => ?_
    refine sf_if (fun z => ?_) fun z => ?_
    · repeat first | refine R1 ?_ | refine R2 fun _ => ?_
      exact sf_ret (rt (rdA br v (p + 1 + 1 + 1)) (resV_one rfl (yr_cell rfl)) ⟨⟨3, 1 + m, noEdit⟩, _, rfl, by omega, rfl⟩)
    repeat first | refine R1 ?_ | refine R2 fun _ => ?_
    refine sf_if (fun z => ?_) fun z => ?_
    · repeat first | refine R1 ?_ | refine R2 fun _ => ?_
      refine fp (y_call (pick_f _ br v xs s hs (p + 1 + 1 + 1) ((rn.length : Int) + 1) (by omega) (by omega) (by omega)) (by rfl) ?_)
      rintro _ _ ⟨m4, rfl, -, -, rfl⟩
      repeat first | refine R1 ?_ | refine R2 fun _ => ?_
      exact sf_ret (rt (rdA br v (p + 1 + 1 + 1 + 1)) (resV_one rfl (yr_cell rfl)) ⟨⟨4, m4, noEdit⟩, _, rfl, by omega, rfl⟩)
    repeat first | refine R1 ?_ | refine R2 fun _ => ?_
    refine sf_if (fun z => ?_) fun z => ?_
    · repeat first | refine R1 ?_ | refine R2 fun _ => ?_
      refine fp (y_call (pick_f _ br v xs s hs (p + 1 + 1 + 1) ((rn.length : Int) + 1) (by omega) (by omega) (by omega)) (by rfl) ?_)
      rintro _ _ ⟨m4, rfl, -, -, rfl⟩
      repeat first | refine R1 ?_ | refine R2 fun _ => ?_
      exact sf_ret (rt (rdA br v (p + 1 + 1 + 1 + 1)) (resV_one rfl (yr_cell rfl)) ⟨⟨5, m4, noEdit⟩, _, rfl, by omega, rfl⟩)
    repeat first | refine R1 ?_ | refine R2 fun _ => ?_
    refine sf_if (fun z => ?_) fun z => ?_
    · repeat first | refine R1 ?_ | refine R2 fun _ => ?_
      refine fp (y_call (pick_f _ br v xs s hs (p + 1 + 1 + 1) ((rn.length : Int) + 1) (by omega) (by omega) (by omega)) (by rfl) ?_)
      rintro _ _ ⟨m4, rfl, -, -, rfl⟩
      repeat first | refine R1 ?_ | refine R2 fun _ => ?_
      exact sf_ret (rt (rdA br v (p + 1 + 1 + 1 + 1)) (resV_one rfl (yr_cell rfl)) ⟨⟨6, m4, noEdit⟩, _, rfl, by omega, rfl⟩)
    repeat first | refine R1 ?_ | refine R2 fun _ => ?_
    refine sf_if (fun z => ?_) fun z => ?_
    · repeat first | refine R1 ?_ | refine R2 fun _ => ?_
      exact sf_ret (rt (rdA br v (p + 1 + 1 + 1)) (resV_one rfl (yr_cell rfl)) ⟨⟨7, 1 + m, noEdit⟩, _, rfl, by omega, rfl⟩)
    repeat first | refine R1 ?_ | refine R2 fun _ => ?_
    exact sf_ret (rt (rdA br v (p + 1 + 1 + 1)) (resV_one rfl (yr_cell rfl)) ⟨⟨8, 1 + m, noEdit⟩, _, rfl, by omega, rfl⟩)
  · repeat first | refine R1 ?_ | refine R2 fun _ => ?_
    refine sf_cond (by rfl) (fun z => by simp [g1] at z) fun _ => ?_
    repeat first | refine R1 ?_ | refine R2 fun _ => ?_
    refine fp (y_call (pick_f _ br v xs s hs (p + 1) 14 (by omega) (by omega) (by omega)) (by rfl) ?_)
    rintro _ _ ⟨n, rfl, -, -, rfl⟩
    repeat first | refine R1 ?_ | refine R2 fun _ => ?_
    refine sf_if (fun z => ?_) fun z => ?_
    · repeat first | refine R1 ?_ | refine R2 fun _ => ?_
      refine sf_if (fun _ => ?_) fun y => absurd z y
      repeat first | refine R1 ?_ | refine R2 fun _ => ?_
      refine fp (y_call (l71Edit_f _ br v xs s hs (p + 1 + 1) (by omega) _ _ bg hg) (by rfl) ?_)
      rintro _ _ ⟨e, q, rfl, hq, rfl⟩
      repeat first | refine R1 ?_ | refine R2 fun _ => ?_
      exact sf_ret (rt (rdA br v q) (resV_one rfl (yr_cell rfl)) ⟨⟨1, 0, e⟩, _, rfl, by omega, rfl⟩)
    repeat first | refine R1 ?_ | refine R2 fun _ => ?_
    refine sf_if (fun z => ?_) fun z => ?_
    · repeat first | refine R1 ?_ | refine R2 fun _ => ?_
      refine sf_if (fun _ => ?_) fun y => absurd z y
      repeat first | refine R1 ?_ | refine R2 fun _ => ?_
      refine fp (y_call (l71Edit_f _ br v xs s hs (p + 1 + 1) (by omega) _ _ bg hg) (by rfl) ?_)
      rintro _ _ ⟨e, q, rfl, hq, rfl⟩
      repeat first | refine R1 ?_ | refine R2 fun _ => ?_
      exact sf_ret (rt (rdA br v q) (resV_one rfl (yr_cell rfl)) ⟨⟨1, 0, e⟩, _, rfl, by omega, rfl⟩)
    repeat first | refine R1 ?_ | refine R2 fun _ => ?_
    refine sf_if (fun z => ?_) fun z => ?_
    · repeat first | refine R1 ?_ | refine R2 fun _ => ?_
      refine fp (y_call (l71Edit_f _ br v xs s hs (p + 1 + 1) (by omega) _ _ bg hg) (by rfl) ?_)
      rintro _ _ ⟨e, q, rfl, hq, rfl⟩
      repeat first | refine R1 ?_ | refine R2 fun _ => ?_
      exact sf_ret (rt (rdA br v q) (resV_one rfl (yr_cell rfl)) ⟨⟨1, 0, e⟩, _, rfl, by omega, rfl⟩)
    repeat first | refine R1 ?_ | refine R2 fun _ => ?_
    refine sf_if (fun z => ?_) fun z => ?_
    · repeat first | refine R1 ?_ | refine R2 fun _ => ?_
      refine sf_if (fun _ => ?_) fun y => absurd z y
      repeat first | refine R1 ?_ | refine R2 fun _ => ?_
      exact sf_ret (rt (rdA br v (p + 1 + 1)) (resV_one rfl (yr_cell rfl)) ⟨⟨2, 1 + m, noEdit⟩, _, rfl, by omega, rfl⟩)
    repeat first | refine R1 ?_ | refine R2 fun _ => ?_
    refine sf_if (fun z => ?_) fun z => ?_
    · repeat first | refine R1 ?_ | refine R2 fun _ => ?_
      refine sf_if (fun _ => ?_) fun y => absurd z y
      repeat first | refine R1 ?_ | refine R2 fun _ => ?_
      exact sf_ret (rt (rdA br v (p + 1 + 1)) (resV_one rfl (yr_cell rfl)) ⟨⟨2, 1 + m, noEdit⟩, _, rfl, by omega, rfl⟩)
    repeat first | refine R1 ?_ | refine R2 fun _ => ?_
    refine sf_if (fun z => ?_) fun z => ?_
    · repeat first | refine R1 ?_ | refine R2 fun _ => ?_
      exact sf_ret (rt (rdA br v (p + 1 + 1)) (resV_one rfl (yr_cell rfl)) ⟨⟨2, 1 + m, noEdit⟩, _, rfl, by omega, rfl⟩)
    repeat first | refine R1 ?_ | refine R2 fun _ => ?_
    refine sf_if (fun z => ?_) fun z => ?_
    · repeat first | refine R1 ?_ | refine R2 fun _ => ?_
      refine sf_if (fun _ => ?_) fun y => absurd z y
      repeat first | refine R1 ?_ | refine R2 fun _ => ?_
      exact sf_ret (rt (rdA br v (p + 1 + 1)) (resV_one rfl (yr_cell rfl)) ⟨⟨3, 1 + m, noEdit⟩, _, rfl, by omega, rfl⟩)
    repeat first | refine R1 ?_ | refine R2 fun _ => ?_
    refine sf_if (fun z => ?_) fun z => ?_
    · repeat first | refine R1 ?_ | refine R2 fun _ => ?_
      refine sf_if (fun _ => ?_) fun y => absurd z y
      repeat first | refine R1 ?_ | refine R2 fun _ => ?_
      exact sf_ret (rt (rdA br v (p + 1 + 1)) (resV_one rfl (yr_cell rfl)) ⟨⟨3, 1 + m, noEdit⟩, _, rfl, by omega, rfl⟩)
    repeat first | refine R1 ?_ | refine R2 fun _ => ?_
    refine sf_if (fun z => ?_) fun z => ?_
    · repeat first | refine R1 ?_ | refine R2 fun _ => ?_
      exact sf_ret (rt (rdA br v (p + 1 + 1)) (resV_one rfl (yr_cell rfl)) ⟨⟨3, 1 + m, noEdit⟩, _, rfl, by omega, rfl⟩)
    repeat first | refine R1 ?_ | refine R2 fun _ => ?_
    refine sf_if (fun z => ?_) fun z => ?_
    · repeat first | refine R1 ?_ | refine R2 fun _ => ?_
      refine fp (y_call (pick_f _ br v xs s hs (p + 1 + 1) ((rn.length : Int) + 1) (by omega) (by omega) (by omega)) (by rfl) ?_)
      rintro _ _ ⟨m4, rfl, -, -, rfl⟩
      repeat first | refine R1 ?_ | refine R2 fun _ => ?_
      exact sf_ret (rt (rdA br v (p + 1 + 1 + 1)) (resV_one rfl (yr_cell rfl)) ⟨⟨4, m4, noEdit⟩, _, rfl, by omega, rfl⟩)
    repeat first | refine R1 ?_ | refine R2 fun _ => ?_
    refine sf_if (fun z => ?_) fun z => ?_
    · repeat first | refine R1 ?_ | refine R2 fun _ => ?_
      refine fp (y_call (pick_f _ br v xs s hs (p + 1 + 1) ((rn.length : Int) + 1) (by omega) (by omega) (by omega)) (by rfl) ?_)
      rintro _ _ ⟨m4, rfl, -, -, rfl⟩
      repeat first | refine R1 ?_ | refine R2 fun _ => ?_
      exact sf_ret (rt (rdA br v (p + 1 + 1 + 1)) (resV_one rfl (yr_cell rfl)) ⟨⟨5, m4, noEdit⟩, _, rfl, by omega, rfl⟩)
    repeat first | refine R1 ?_ | refine R2 fun _ => ?_
    refine sf_if (fun z => ?_) fun z => ?_
    · repeat first | refine R1 ?_ | refine R2 fun _ => ?_
      refine fp (y_call (pick_f _ br v xs s hs (p + 1 + 1) ((rn.length : Int) + 1) (by omega) (by omega) (by omega)) (by rfl) ?_)
      rintro _ _ ⟨m4, rfl, -, -, rfl⟩
      repeat first | refine R1 ?_ | refine R2 fun _ => ?_
      exact sf_ret (rt (rdA br v (p + 1 + 1 + 1)) (resV_one rfl (yr_cell rfl)) ⟨⟨6, m4, noEdit⟩, _, rfl, by omega, rfl⟩)
    repeat first | refine R1 ?_ | refine R2 fun _ => ?_
    refine sf_if (fun z => ?_) fun z => ?_
    · repeat first | refine R1 ?_ | refine R2 fun _ => ?_
      exact sf_ret (rt (rdA br v (p + 1 + 1)) (resV_one rfl (yr_cell rfl)) ⟨⟨7, 1 + m, noEdit⟩, _, rfl, by omega, rfl⟩)
    repeat first | refine R1 ?_ | refine R2 fun _ => ?_
    exact sf_ret (rt (rdA br v (p + 1 + 1)) (resV_one rfl (yr_cell rfl)) ⟨⟨8, 1 + m, noEdit⟩, _, rfl, by omega, rfl⟩)
theorem painters0 {A : Own} {v : Value} {n : Nat} (g : Gr A v 31 (rawF (painterR τ).sz) (List.replicate n ⟨[.bool true, .bool false, .int .i64 0, .int .i64 0, .slice none 0 0, .slice none 0 0, .slice none 0 0], rfl⟩)) (hn : n ≤ 281474976710656) : GrR (painterR τ) A v 31 (List.replicate n freshPainter) := by
  refine ⟨A, [], by simp, _, g, ?_, by simpa using hn⟩
  clear g hn
  induction n with
  | zero => exact .nil
  | succ n ih => rw [List.replicate_succ, List.replicate_succ]; exact .cons (A := []) freshPainterO ih
theorem sWorldNew_f (h : PHeap) (ca : List Value) (g : Grid) (many : Int) (b : (gridR τ).B h ca g) (hs : g.cells.length ≤ 1048576) : CallF Tryz.prog M 81 [.agg ca.toArray, .int .i64 many] [] h fun v A => ∃ cs, v = .tuple #[.agg cs.toArray, .bool (worldNew g many).2] ∧ (worldR τ).O A cs (worldNew g many).1 := by
  obtain ⟨c, rfl, s⟩ := gridB b
  have o1 := s.one
  refine Cs Tryz.func81 Tryz.ntmps81 ?_
  repeat first | refine R1 ?_ | refine R2 fun _ => ?_
  refine fp (y_call (sKeepNew_f _ _ g many b hs) (by rfl) ?_)
  rintro _ A1 ⟨_, rfl, q⟩
  obtain ⟨x1, x2, x3, x4, K1, K2, K3, K4, rfl, rfl, ⟨r1, l1⟩, ⟨r2, l2⟩, r3, r4⟩ := keeperO q
  have p1 := r1.one
  have p2 := r2.one
  have p3 := r3.one
  have p4 := r4.one
  repeat first | refine R1 ?_ | refine R2 fun _ => ?_
  refine sf_cond (by rfl) (fun h2 => ?_) fun h2 => ?_
  · rw [worldNew_F (by simpa using h2)]
    repeat first | refine R1 ?_ | refine R2 fun _ => ?_
    exact sf_ret (rO [] ⟨_, rfl, noWorldO⟩)
  · have h3 : (keepNew g many).2 = true := by simpa using h2
    have hm := keepNew_many h3
    rw [worldNew_T h3]
    generalize keepNew g many = kn at *
    repeat first | refine R1 ?_ | refine R2 fun _ => ?_
    refine Xb fun e1 A2 g2 => ?_
    have o2 := g2.one
    repeat first | refine R1 ?_ | refine R2 fun _ => ?_
    rename_i b2 b4 b6 b8
    obtain ⟨n, rfl⟩ : ∃ n : Nat, many = n := ⟨many.toNat, by omega⟩
    refine sf_lp [1, 4, 8] (fun i : Nat => [(9, .int .i64 (i : Int))]) (fun i O => i ≤ n ∧ ∃ p A0, O = (b8, .cells #[.int .i64 kn.1.first.wide, x1, x2, x3, x4, p, e1] 91) :: (A0 ++ (A2 ++ (K1 ++ (K2 ++ (K3 ++ K4)) ++ [(b4, .cells #[.int .i64 0, .slice none 0 0, .slice none 0 0, .slice none 0 0, .slice none 0 0, .slice none 0 0, .slice none 0 0] 91)]))) ∧ Gr A0 p 31 (rawF (painterR τ).sz) (List.replicate i ⟨[.bool true, .bool false, .int .i64 0, .int .i64 0, .slice none 0 0, .slice none 0 0, .slice none 0 0], rfl⟩)) (fun i => n - i) 0 ((b8, .cells #[.int .i64 kn.1.first.wide, x1, x2, x3, x4, .slice none 0 0, e1] 91) :: ([] ++ (A2 ++ (K1 ++ (K2 ++ (K3 ++ K4)) ++ [(b4, .cells #[.int .i64 0, .slice none 0 0, .slice none 0 0, .slice none 0 0, .slice none 0 0, .slice none 0 0, .slice none 0 0] 91)])))) ⟨by omega, _, [], rfl, Gr.nil _ _⟩ ?_
    rintro i O ⟨hi, p, A0, rfl, g3⟩
    have o5 := g3.one
    repeat first | refine R1 ?_ | refine R2 fun _ => ?_
    refine sf_if (fun h4 => ?_) fun h4 => ?_
    · repeat first | refine R1 ?_ | refine R2 fun _ => ?_
      refine Xb fun u Au gu => ?_
      repeat first | refine R1 ?_ | refine R2 fun _ => ?_
      refine fp (y_append (by rfl) (by rfl) g3 gu (by intro y hy; simp at hy; subst hy; exact (inferInstance : AllOne [Value.bool true, .bool false, .int .i64 0, .int .i64 0, .slice none 0 0, .slice none 0 0, .slice none 0 0]).is) (by rfl) (by rfl) (by simp; omega) (by simp; omega) fun p2 A5 g5 => ?_)
      have o6 := g5.one
      repeat first | refine R1 ?_ | refine R2 fun _ => ?_
      refine ⟨i + 1, by omega, ⟨rfl, trivial⟩, rfl, (b8, .cells #[.int .i64 kn.1.first.wide, x1, x2, x3, x4, p2, e1] 91) :: (A5 ++ (A2 ++ (K1 ++ (K2 ++ (K3 ++ K4)) ++ [(b4, .cells #[.int .i64 0, .slice none 0 0, .slice none 0 0, .slice none 0 0, .slice none 0 0, .slice none 0 0, .slice none 0 0] 91)]))), _, inferInstance, by omega, p2, A5, rfl, ?_⟩
      rw [List.replicate_succ']
      exact g5
    · refine sf_exit ?_
      repeat first | refine R1 ?_ | refine R2 fun _ => ?_
      have : i = n := by omega
      subst this
      refine sf_ret (rO (K1 ++ (K2 ++ (K3 ++ (K4 ++ (A0 ++ A2))))) ⟨_, rfl, ?_⟩)
      simp only [Int.toNat_natCast]
      exact worldO_mk (w := ⟨kn.1, List.replicate i freshPainter, []⟩) r1 l1 r2 l2 r3 r4 (painters0 g3 (by omega)) (GrR.of_gr g2)
theorem l72Play_f (h : PHeap) (br : Nat) (v : Value) (xs : List (Fin 256)) (s : Sl h v u8F xs) (hs : xs.length ≤ 2000) (p : Nat) (hp1 : p ≤ 900000) : CallF Tryz.prog M 49 [.pointer (some ⟨br, 0, none⟩)] (rdA br v p) h fun u A => ∃ (g : Grid) (c ev : Value) (many : Int) (es : List Event') (w : World') (cs : List Value) (AG AE AW : Own) (q : Nat), u = .tuple #[.agg #[.int .i64 g.wide, c], .int .i64 many, ev, .agg cs.toArray] ∧ A = rdA br v q ++ (AG ++ (AE ++ AW)) ∧ Gr AG c 35 cellF g.cells ∧ gridOk g = true ∧ Gr AE ev 132 eventF es ∧ (worldR τ).O AW cs w ∧ WOk w ∧ q ≤ p + 2000 ∧ es.length ≤ 53 ∧ 1 ≤ many ∧ many ≤ 3 ∧ w = wDos (worldNew g many).1 es := by
  have o0 := s.one
  refine Cs Tryz.func49 Tryz.ntmps49 ?_
  repeat first | refine R1 ?_ | refine R2 fun _ => ?_
  refine fp (y_call (l71Grid_f _ br v xs s hs p (by omega)) (by rfl) ?_)
  rintro _ _ ⟨g, c, AG, q, rfl, gg, -, -, -, g25, hq, rfl, gok'⟩
  have o1 := gg.one
  repeat first | refine R1 ?_ | refine R2 fun _ => ?_
  refine fp (y_call (pick_f _ br v xs s hs q 3 (by omega) (by omega) (by omega)) (by rfl) ?_)
  rintro _ _ ⟨m, rfl, m0, m1, rfl⟩
  have hw : (worldNew g (1 + m)).2 = true := by
    have hk : (keepNew g (1 + m)).2 = true := by
      unfold keepNew
      rw [if_pos (by simp only [Bool.and_eq_true, decide_eq_true_eq]; exact ⟨gok', by omega, by omega⟩)]
    rw [worldNew_T hk]
  obtain ⟨ok0, hmn, -, -, -⟩ := worldNew_ok hw
  repeat first | refine R1 ?_ | refine R2 fun _ => ?_
  refine fp (y_call (lendF AG fun h' l' inb => sWorldNew_f h' _ g (1 + m) (gridB_mk (gg.lent (by omega) inb)) (by omega)) (by rfl) ?_)
  rintro _ _ ⟨A2, rfl, cs, rfl, q2⟩
  have q0 := q2
  obtain ⟨c1, c2, c3, c4, c5, c6, rfl, u1, u2, u3, u4, u5, u6⟩ := worldC q2
  repeat first | refine R1 ?_ | refine R2 fun _ => ?_
  refine Xb fun ev0 AE0 ge0 => ?_
  have oe := ge0.one
  repeat first | refine R1 ?_ | refine R2 fun _ => ?_
  refine fp (y_call (pick_f _ br v xs s hs (q + 1) 54 (by omega) (by omega) (by omega)) (by rfl) ?_)
  rintro _ _ ⟨n, rfl, n0, n1, rfl⟩
  obtain ⟨n, rfl⟩ : ∃ k : Nat, n = k := ⟨n.toNat, by omega⟩
  repeat first | refine R1 ?_ | refine R2 fun _ => ?_
  rename_i b2 b5 b6 b8
  refine sf_lp (ι := Nat × Value) [0, 2, 5, 6, 7, 8] (fun x => [(11, .int .i64 (x.1 : Int)), (10, x.2)]) (fun x O => x.1 ≤ n ∧ ∃ cs q' AE AW es, O = rdA br v q' ++ ((b8, .cells cs.toArray 91) :: (AE ++ (AW ++ (AG ++ [(b6, .cells #[.int .i64 g.wide, c] 25), (b5, .cells #[.int .i64 0, .slice none 0 0, .slice none 0 0, .slice none 0 0, .slice none 0 0, .slice none 0 0, .slice none 0 0] 91), (b2, .cells #[.int .i64 0, .slice none 0 0] 25)])))) ∧ Gr AE x.2 132 eventF es ∧ es.length = n - x.1 ∧ (worldR τ).O AW cs (wDos (worldNew g (1 + m)).1 es) ∧ q' + 20 * x.1 ≤ q + 2 + 20 * n) (fun x => x.1) (n, ev0) (rdA br v (q + 1 + 1) ++ ((b8, .cells #[.int .i64 (worldNew g (1 + m)).1.keeper.first.wide, c1, c2, c3, c4, c5, c6] 91) :: (AE0 ++ (A2 ++ (AG ++ [(b6, .cells #[.int .i64 g.wide, c] 25), (b5, .cells #[.int .i64 0, .slice none 0 0, .slice none 0 0, .slice none 0 0, .slice none 0 0, .slice none 0 0, .slice none 0 0] 91), (b2, .cells #[.int .i64 0, .slice none 0 0] 25)]))))) ⟨by simp only; omega, _, _, AE0, A2, [], rfl, ge0, by simp, q0, by simp only; omega⟩ ?_
  clear ge0 oe q0 q2 u1 u2 u3 u4 u5 u6
  rintro ⟨k, ev⟩ O ⟨hk, cs, q', AE, AW, es, rfl, ge, he, qw, hq'⟩
  simp only at hk ge he hq' ⊢
  have oe := ge.one
  have okw := ok0.dos es
  have hes : es.length ≤ 53 := by omega
  generalize hwd : wDos (worldNew g (1 + m)).1 es = w at *
  have q0 := qw
  obtain ⟨c1, c2, c3, c4, c5, c6, rfl, u1, u2, u3, u4, u5, u6⟩ := worldC qw
  have hmw := okw.many
  have hw1 := okw.head.n1
  have hw3 := okw.head.n3
  have hw10 := okw.nets
  have hwg := (gok okw.head.grid).small
  repeat first | refine R1 ?_ | refine R2 fun _ => ?_
  refine sf_if (fun e => ?_) fun e => ?_
  · obtain ⟨k, rfl⟩ : ∃ k' : Nat, k = k' + 1 := ⟨k - 1, by omega⟩
    repeat first | refine R1 ?_ | refine R2 fun _ => ?_
    refine fp (y_call (lendF AW fun h' l' inb => l72Event_f h' br v xs (s.le l'.le) hs q' (by omega) _ w ((worldR τ).lent q0 inb) (by omega) (by omega) (by omega) (by omega)) (by rfl) ?_)
    rintro _ _ ⟨_, rfl, e', q3, rfl, hq3, rfl⟩
    simp only [eventV]
    repeat first | refine R1 ?_ | refine R2 fun _ => ?_
    refine Xb fun u Au gu => ?_
    repeat first | refine R1 ?_ | refine R2 fun _ => ?_
    refine Xa ge gu fun ev2 A5 g5 => ?_
    have oe2 := g5.one
    repeat first | refine R1 ?_ | refine R2 fun _ => ?_
    refine fp (y_call (l31Do_f h _ _ w q0 okw e') (by rfl) ?_)
    rintro _ A6 ⟨cs, rfl, q6⟩
    have q7 := q6
    obtain ⟨d1, d2, d3, d4, d5, d6, rfl, w1, w2, w3, w4, w5, w6⟩ := worldC q6
    repeat first | refine R1 ?_ | refine R2 fun _ => ?_
    rw [show ((k + 1 : Nat) : Int) - 1 = (k : Int) by omega]
    refine ⟨(k, ev2), by simp only; omega, ⟨rfl, rfl, trivial⟩, rfl, rdA br v q3 ++ ((b8, .cells #[.int .i64 (wDo w e').keeper.first.wide, d1, d2, d3, d4, d5, d6] 91) :: (A5 ++ (A6 ++ (AG ++ [(b6, .cells #[.int .i64 g.wide, c] 25), (b5, .cells #[.int .i64 0, .slice none 0 0, .slice none 0 0, .slice none 0 0, .slice none 0 0, .slice none 0 0, .slice none 0 0] 91), (b2, .cells #[.int .i64 0, .slice none 0 0] 25)])))), _, inferInstance, by simp only; omega, _, q3, A5, A6, es ++ [e'], rfl, g5, by simp; omega, ?_, by simp only; omega⟩
    rw [show wDos (worldNew g (1 + m)).1 (es ++ [e']) = wDo w e' by rw [← hwd]; simp [wDos]]
    exact q7
  · refine sf_exit ?_
    repeat first | refine R1 ?_ | refine R2 fun _ => ?_
    refine sf_draw (by kernel_rfl) (regX_own ([(b2, .cells #[.int .i64 0, .slice none 0 0] 25), (b5, .cells #[.int .i64 0, .slice none 0 0, .slice none 0 0, .slice none 0 0, .slice none 0 0, .slice none 0 0, .slice none 0 0] 91)]) (Sw [[],[],[],[],[0],[0,1,4],[0,1,2,4,5],[0,1,2,3,4,5,6]] 7 [Nn 0,Nn 1,Nn 2,Nn 3,Yy 4,Nn 5,Nn 6] ?_))
    refine Da ?_
    refine a_store (by rfl) (by rfl) (by rfl) (.inl rfl) ?_
    refine Da ?_
    refine Ae ?_
    repeat first | refine R1 ?_ | refine R2 fun _ => ?_
    exact sf_ret (rt (rdA br v q' ++ (AG ++ (AE ++ AW))) (resV_four rfl (yr_cell rfl) (res_tmp rfl) (res_tmp rfl) (yr_cell rfl)) ⟨g, c, ev, 1 + m, es, w, _, AG, AE, AW, q', rfl, rfl, gg, gok', ge, q0, okw, by omega, hes, by omega, by omega, hwd.symm⟩)
structure DrawnP (cs : List Value) (p : Painter) (A : Own) : Prop where
  own : (painterR τ).O A cs p
  size : szPainterN p ≤ 200000
  lo : -1 ≤ p.ver
  hi : p.ver ≤ 61
  c25 : p.scene.grid.cells.length ≤ 25
theorem paint_small {p : Painter} (h : paintOk p = true) : szPainterN p ≤ 100000 ∧ 0 ≤ p.ver ∧ p.ver ≤ 60 ∧ p.scene.grid.cells.length ≤ 25 := by
  refine ⟨sz_painter h, ?_⟩
  by_cases hh : p.has = true
  · obtain ⟨-, h0, h1, h2⟩ := paintOk_has h hh
    exact ⟨h0, h1, by have := (gok (sceneOk_is h2).1).small; omega⟩
  · unfold paintOk at h
    rw [if_neg hh] at h
    simp only [Bool.and_eq_true, decide_eq_true_eq] at h
    rw [h.1, h.2]; decide
theorem l72Painter_f (h : PHeap) (br : Nat) (v : Value) (xs : List (Fin 256)) (s : Sl h v u8F xs) (hs : xs.length ≤ 2000) (p : Nat) (hp1 : p ≤ 800000) : CallF Tryz.prog M 26 [.pointer (some ⟨br, 0, none⟩)] (rdA br v p) h fun u A => ∃ (x : Painter) (cs : List Value) (A' : Own) (q : Nat), u = .agg cs.toArray ∧ A = rdA br v q ++ A' ∧ DrawnP cs x A' ∧ q ≤ p + 2010 := by
  have o0 := s.one
  refine Cs Tryz.func26 Tryz.ntmps26 ?_
  repeat first | refine R1 ?_ | refine R2 fun _ => ?_
  refine fp (y_call (l72Play_f _ br v xs s hs p (by omega)) (by rfl) ?_)
  rintro _ _ ⟨g, c, ev, many, es, w, cs, AG, AE, AW, q, rfl, rfl, gg, gok', ge, qw, okw, hq, -, -, -, -⟩
  obtain ⟨c1, e1, p1, s1, ps1, ns1, AK, AP, AN, rfl, rfl, qk, gp, gn, o1, o2, o3, o4⟩ := worldX qw
  have o5 := gp.one
  have o6 := gn.one
  have o7 := gg.one
  have o8 := ge.one
  have hm := okw.many
  have n1 := okw.head.n1
  have n3 := okw.head.n3
  have hps := okw.ps
  clear gg ge qw
  obtain ⟨D0, D1, rfl, rp, gq, op, hp⟩ := gp
  have lp := op.len
  repeat first | refine R1 ?_ | refine R2 fun _ => ?_
  rename_i b2 b3 b6
  apply viaT
  · intro tail
    refine sf_draw (by kernel_rfl) (regX_own (rdA br v q) (regX_split 6 9 (by rfl) ?_ ?_))
    case' refine_1 =>
      refine Sw [[],[0],[],[],[3],[3,4],[2,3,4,5],[0,1,2,3,4,5,6],[0,1,2,3,4,5,6,7],[2,3,4,5,6],[0,1,2,3,4,5,6,7,8,9]] 10 [Nn 0,Nn 1,Nn 2,Nn 3,Nn 4,Nn 5,Yy 6,Nn 7,Nn 8,Yy 9] ?_
      refine Di ?_
      refine Yc (pick_f _ br v xs s hs q (rp.length : Int) (by omega) (by omega) (by omega)) ?_
      rintro _ _ ⟨m, rfl, m0, m1, rfl⟩
      obtain ⟨j, rfl⟩ : ∃ j : Nat, m = j := ⟨m.toNat, by omega⟩
      have hj : j < w.painters.length := by omega
      obtain ⟨c, l, f, ex, o9, o10, o11⟩ : ∃ c l f, (gt rp j).cs = [.bool (gt w.painters j).up, .bool (gt w.painters j).has, .int .i64 (gt w.painters j).ver, .int .i64 (gt w.painters j).scene.grid.wide, c, l, f] ∧ Sl.One c ∧ Sl.One l ∧ Sl.One f := by
        obtain ⟨_, _, _, -, qp, -⟩ := op.at (k := j) hj
        exact painterX qp
      haveI i1 : FlatV (rawF (painterR τ).sz) (gt rp j) [.bool (gt w.painters j).up, .bool (gt w.painters j).has, .int .i64 (gt w.painters j).ver, .int .i64 (gt w.painters j).scene.grid.wide, c, l, f] := ⟨ex⟩
      haveI i2 : FlatV (rawF (painterR τ).sz) (gt rp (j : Int).toNat) [.bool (gt w.painters j).up, .bool (gt w.painters j).has, .int .i64 (gt w.painters j).ver, .int .i64 (gt w.painters j).scene.grid.wide, c, l, f] := ⟨ex⟩
      refine Di ?_
      refine Yl fun b7 => ?_
      refine Di ?_
      refine Ae ?_
    case' refine_2 =>
      refine Sw [[],[0],[],[],[3],[3,4],[2,3,4,5,9],[0,1,2,3,4,5,6,9],[0,1,2,3,4,5,6,7,9],[],[0,1,2,3,4,5,6,7,8,9]] 10 [Nn 0,Nn 1,Nn 2,Nn 3,Nn 4,Nn 5,Yy 9,Yy 6,Nn 7,Nn 8] ?_
      refine Di ?_
      refine Yl fun b7 => ?_
      refine Di ?_
      refine Yc (pick_f _ br v xs s hs q (rp.length : Int) (by omega) (by omega) (by omega)) ?_
      rintro _ _ ⟨m, rfl, m0, m1, rfl⟩
      obtain ⟨j, rfl⟩ : ∃ j : Nat, m = j := ⟨m.toNat, by omega⟩
      have hj : j < w.painters.length := by omega
      obtain ⟨c, l, f, ex, o9, o10, o11⟩ : ∃ c l f, (gt rp j).cs = [.bool (gt w.painters j).up, .bool (gt w.painters j).has, .int .i64 (gt w.painters j).ver, .int .i64 (gt w.painters j).scene.grid.wide, c, l, f] ∧ Sl.One c ∧ Sl.One l ∧ Sl.One f := by
        obtain ⟨_, _, _, -, qp, -⟩ := op.at (k := j) hj
        exact painterX qp
      haveI i1 : FlatV (rawF (painterR τ).sz) (gt rp j) [.bool (gt w.painters j).up, .bool (gt w.painters j).has, .int .i64 (gt w.painters j).ver, .int .i64 (gt w.painters j).scene.grid.wide, c, l, f] := ⟨ex⟩
      haveI i2 : FlatV (rawF (painterR τ).sz) (gt rp (j : Int).toNat) [.bool (gt w.painters j).up, .bool (gt w.painters j).has, .int .i64 (gt w.painters j).ver, .int .i64 (gt w.painters j).scene.grid.wide, c, l, f] := ⟨ex⟩
      refine Di ?_
      refine Ae ?_
    all_goals
      refine R1 ?_
      refine R1 ?_
      refine sf_keep [0, 2, 7] ?_
      refine sf_own (rdA br v (q + 1) ++ ((b7, .cells #[.bool (gt w.painters j).up, .bool (gt w.painters j).has, .int .i64 (gt w.painters j).ver, .int .i64 (gt w.painters j).scene.grid.wide, c, l, f] 31) :: (D1 ++ [(b2, .cells #[.bool false, .bool false, .int .i64 0, .int .i64 0, .slice none 0 0, .slice none 0 0, .slice none 0 0] 31)]))) ?_
      clear i1 i2 o9 o10 o11 m0 m1
      revert ex; revert hj; revert f; revert l; revert c; revert j; revert b7
      exact tail.out
  intro b7 j c l f hj ex
  obtain ⟨C1, Ck, C2, rfl, qp, oset⟩ := op.at (k := j) hj
  obtain ⟨c', l', f', X1, X2, X3, ex', rfl, ⟨g1, l1⟩, ⟨g2, l2⟩, g3⟩ := painterO qp
  rw [ex] at ex'
  simp only [List.cons.injEq, and_true, true_and] at ex'
  obtain ⟨rfl, rfl, rfl⟩ := ex'
  have hx := paint_small (painterTrue_is (hps _ (gt_mem hj))).2.1
  clear qp oset op ex
  generalize gt w.painters j = x at *
  obtain ⟨x1, x2, x3, x4⟩ := hx
  have o9 := g1.one
  have o10 := g2.one
  have o11 := g3.one
  repeat first | refine R1 ?_ | refine R2 fun _ => ?_
  refine fp (y_call (pick_f _ br v xs s hs (q + 1) 36 (by omega) (by omega) (by omega)) (by rfl) ?_)
  rintro _ _ ⟨m, rfl, -, -, rfl⟩
  repeat first | refine R1 ?_ | refine R2 fun _ => ?_
  refine sf_if (fun e0 => ?_) fun e0 => ?_
  · repeat first | refine R1 ?_ | refine R2 fun _ => ?_
    refine Xb fun u Au gu => ?_
    repeat first | refine R1 ?_ | refine R2 fun _ => ?_
    refine fp (y_call (pick_f _ br v xs s hs (q + 1 + 1) 3 (by omega) (by omega) (by omega)) (by rfl) ?_)
    rintro _ _ ⟨m3, rfl, m30, m31, rfl⟩
    obtain ⟨k, rfl⟩ : ∃ k : Nat, m3 = k := ⟨m3.toNat, by omega⟩
    repeat first | refine R1 ?_ | refine R2 fun _ => ?_
    refine fp (Rq ?_ (z_indexG (by rfl) (by rfl) gu (by simp; omega)))
    repeat first | refine R1 ?_ | refine R2 fun _ => ?_
    refine fp (Rq ?_ (z_loadG (by rfl) gu (by simp; omega) (by rfl)))
    repeat first | refine R1 ?_ | refine R2 fun _ => ?_
    have hv : -1 ≤ gt [(-1 : Int), 60, 61] k ∧ gt [(-1 : Int), 60, 61] k ≤ 61 := by
      have : k = 0 ∨ k = 1 ∨ k = 2 := by omega
      rcases this with rfl | rfl | rfl <;> decide
    exact sf_ret (rt (rdA br v (q + 1 + 1 + 1) ++ (X1 ++ (X2 ++ X3))) (resV_one rfl (yr_cell rfl)) ⟨{ x with ver := gt [(-1 : Int), 60, 61] k }, _, _, q + 1 + 1 + 1, rfl, rfl, ⟨painterO_mk (p := { x with ver := gt [(-1 : Int), 60, 61] k }) g1 l1 g2 l2 g3, by show szSceneN x.scene ≤ _; have : szSceneN x.scene = szPainterN x := rfl; omega, hv.1, hv.2, x4⟩, by omega⟩)
  repeat first | refine R1 ?_ | refine R2 fun _ => ?_
  refine sf_if (fun e1 => ?_) fun e1 => ?_
  · repeat first | refine R1 ?_ | refine R2 fun _ => ?_
    exact sf_ret (rt (rdA br v (q + 1 + 1) ++ (X1 ++ (X2 ++ X3))) (resV_one rfl (yr_cell rfl)) ⟨{ x with up := !x.up }, _, _, q + 1 + 1, rfl, rfl, ⟨painterO_mk (p := { x with up := !x.up }) g1 l1 g2 l2 g3, by show szSceneN x.scene ≤ _; have : szSceneN x.scene = szPainterN x := rfl; omega, by simp only; omega, by simp only; omega, x4⟩, by omega⟩)
  repeat first | refine R1 ?_ | refine R2 fun _ => ?_
  refine sf_if (fun e2 => ?_) fun e2 => ?_
  · repeat first | refine R1 ?_ | refine R2 fun _ => ?_
    exact sf_ret (rt (rdA br v (q + 1 + 1) ++ (X1 ++ (X2 ++ X3))) (resV_one rfl (yr_cell rfl)) ⟨{ x with has := !x.has }, _, _, q + 1 + 1, rfl, rfl, ⟨painterO_mk (p := { x with has := !x.has }) g1 l1 g2 l2 g3, by show szSceneN x.scene ≤ _; have : szSceneN x.scene = szPainterN x := rfl; omega, by simp only; omega, by simp only; omega, x4⟩, by omega⟩)
  repeat first | refine R1 ?_ | refine R2 fun _ => ?_
  refine sf_if (fun e3 => ?_) fun e3 => ?_
  · repeat first | refine R1 ?_ | refine R2 fun _ => ?_
    refine sf_if (fun e4 => ?_) fun e4 => ?_
    · have h0 : 0 < x.scene.lights.length := by omega
      repeat first | refine R1 ?_ | refine R2 fun _ => ?_ | refine fp (Rq ?_ (z_indexGI (by rfl) (by rfl) (by assumption) (by omega) (by omega)))
      refine Sd [[],[0],[0,1],[],[3],[3,4],[3,4,5],[3,4,5,6],[3,4,5,6,7],[0,1,2,3,4,5,6,7,8],[0,1,2,3,4,5,6,7,8,9]] 9 [Nn 0,Nn 1,Nn 2,Nn 3,Nn 4,Nn 5,Nn 6,Nn 7,Nn 8] ?_
      refine Di ?_
      refine Ae ?_
      repeat first | refine R1 ?_ | refine R2 fun _ => ?_ | refine fp (Rq ?_ (z_indexGI (by rfl) (by rfl) (by assumption) (by omega) (by omega)))
      refine fp (y_storeG0 (j := 0) (sz := 1) (by rfl) (by rfl) g2 (by omega) (by rfl) fun X5 ys ey ly _ g5 => ?_)
      repeat first | refine R1 ?_ | refine R2 fun _ => ?_
      exact sf_ret (rt (rdA br v (q + 1 + 1) ++ (X1 ++ (X5 ++ X3))) (resV_one rfl (yr_cell rfl)) ⟨{ x with scene := { x.scene with lights := ys } }, _, _, q + 1 + 1, rfl, rfl, ⟨painterO_mk (p := { x with scene := { x.scene with lights := ys } }) g1 l1 g5 (by simp only; omega) g3, by have : szPainterN x = x.scene.grid.cells.length + x.scene.lights.length + szIntSSN x.scene.feet := rfl; show x.scene.grid.cells.length + ys.length + szIntSSN x.scene.feet ≤ _; omega, by simp only; omega, by simp only; omega, x4⟩, by omega⟩)
    · repeat first | refine R1 ?_ | refine R2 fun _ => ?_
      exact sf_ret (rt (rdA br v (q + 1 + 1) ++ (X1 ++ (X2 ++ X3))) (resV_one rfl (yr_cell rfl)) ⟨x, _, _, q + 1 + 1, rfl, rfl, ⟨painterO_mk g1 l1 g2 l2 g3, by omega, by omega, by omega, x4⟩, by omega⟩)
  · repeat first | refine R1 ?_ | refine R2 fun _ => ?_
    exact sf_ret (rt (rdA br v (q + 1 + 1) ++ (X1 ++ (X2 ++ X3))) (resV_one rfl (yr_cell rfl)) ⟨x, _, _, q + 1 + 1, rfl, rfl, ⟨painterO_mk g1 l1 g2 l2 g3, by omega, by omega, by omega, x4⟩, by omega⟩)
theorem l6Open_f (h : PHeap) (v : Value) (xs : List (Fin 256)) (s : Sl h v u8F xs) : CallF Tryz.prog M 25 [v] [] h fun u A => ∃ br v' xs', u = .pointer (some ⟨br, 0, none⟩) ∧ A = rdA br v' 0 ∧ Sl h v' u8F xs' ∧ xs'.length ≤ 2000 := by
  have o1 := s.one
  have hs := s.small
  refine Cs Tryz.func25 Tryz.ntmps25 ?_
  repeat first | refine R1 ?_ | refine R2 fun _ => ?_
  refine sf_if (fun e => ?_) fun e => ?_
  · obtain ⟨cap, hv, hc, s2⟩ := s.front (l := 2000) (by omega) (by omega)
    rw [hv]
    repeat first | refine R1 ?_ | refine R2 fun _ => ?_
    refine fp (Rq ?_ (q_sliceHi (l := 2000) (by infer_instance) (by infer_instance) (by rfl) (by rfl) (by omega)))
    repeat first | refine R1 ?_ | refine R2 fun _ => ?_
    rename_i br
    exact sf_ret (rt (rdA br (.slice (some ⟨vb v, vo v, none⟩) 2000 cap) 0) (resV_one rfl (res_tmp rfl)) ⟨br, _, _, rfl, rfl, s2, by simp; omega⟩)
  · repeat first | refine R1 ?_ | refine R2 fun _ => ?_
    rename_i br
    exact sf_ret (rt (rdA br v 0) (resV_one rfl (res_tmp rfl)) ⟨br, v, xs, rfl, rfl, s, by omega⟩)
theorem DrawnP.grid {p : Painter} {A : Own} {a b d z c x1 x2 : Value} (q : DrawnP [a, b, d, z, c, x1, x2] p A) {h' : PHeap} (i : InB h' A) : (gridR τ).B h' [z, c] p.scene.grid := by
  obtain ⟨c', l', f', ec, s1, -, -⟩ := painterB ((painterR τ).lent q.own i)
  simp only [List.cons.injEq, and_true] at ec
  obtain ⟨-, -, -, rfl, rfl, -⟩ := ec
  exact gridB_mk s1
theorem drawPaintTell_f (h : PHeap) (v : Value) (xs : List (Fin 256)) (s : Sl h v u8F xs) : CallF Tryz.prog M 9 [v] [] h fun u A => ∃ p cs z m, u = .tuple #[.agg cs.toArray, .int .i64 z, .int .i64 m] ∧ DrawnP cs p A ∧ 0 ≤ z ∧ z ≤ 3 ∧ 1 ≤ m ∧ m ≤ 4 := by
  have o1 := s.one
  refine Cs Tryz.func9 Tryz.ntmps9 ?_
  repeat first | refine R1 ?_ | refine R2 fun _ => ?_
  refine fp (y_call (l6Open_f _ v xs s) (by rfl) ?_)
  rintro _ _ ⟨br, v', xs', rfl, rfl, s', hs'⟩
  have o2 := s'.one
  repeat first | refine R1 ?_ | refine R2 fun _ => ?_
  refine fp (y_call (l72Painter_f _ br v' xs' s' hs' 0 (by omega)) (by rfl) ?_)
  rintro _ _ ⟨p, cs, A', q, rfl, rfl, dp, hq⟩
  have dp0 := dp
  obtain ⟨c, l, f, rfl, u1, u2, u3⟩ := painterX dp.own
  repeat first | refine R1 ?_ | refine R2 fun _ => ?_
  rename_i b2 b6
  refine sf_draw (by kernel_rfl) (regX_own (rdA br v' q ++ [(b2, .cells #[.bool false, .bool false, .int .i64 0, .int .i64 0, .slice none 0 0, .slice none 0 0, .slice none 0 0] 31)]) (Sw [[],[],[1],[1,2],[],[1,2,4],[1,2,4,5],[1,2,3,4,5,6],[],[1,2,4,5,8],[1,2,4,5,8,9],[],[1,2,4,5,8,9,11],[1,2,4,5,8,9,11,12],[1,2,4,5,8,9,10,11,12,13],[0,1,2,4,5,8,9,11,12],[0,1,2,3,4,5,6,7,8,9,11,12,15],[0,1,2,3,4,5,6,7,8,9,10,11,12,13,14,15,16]] 17 [Nn 0,Nn 1,Nn 4,Nn 8,Nn 11,Yy 2,Nn 3,Yy 5,Nn 6,Nn 7,Yy 9,Nn 10,Yy 12,Nn 13,Nn 14,Yy 15,Nn 16] ?_))
  refine Da ?_
  refine Yc (pick_f _ br v' xs' s' hs' q 3 (by omega) (by omega) (by omega)) ?_
  rintro _ _ ⟨m, rfl, m0, m1, rfl⟩
  refine Da ?_
  refine Yc (pick_f _ br v' xs' s' hs' (q + 1) 24 (by omega) (by omega) (by omega)) ?_
  rintro _ _ ⟨m2, rfl, m20, m21, rfl⟩
  refine Da ?_
  refine Yc (pick_f _ br v' xs' s' hs' (q + 1 + 1) 3 (by omega) (by omega) (by omega)) ?_
  rintro _ _ ⟨m3, rfl, m30, m31, rfl⟩
  refine Da ?_
  refine Yc (pick_f _ br v' xs' s' hs' (q + 1 + 1 + 1) 24 (by omega) (by omega) (by omega)) ?_
  rintro _ _ ⟨m4, rfl, m40, m41, rfl⟩
  refine Da ?_
  refine a_store (by rfl) (by rfl) (by rfl) (.inl rfl) ?_
  refine Da ?_
  refine Ae ?_
  repeat first | refine R1 ?_ | refine R2 fun _ => ?_
  exact sf_ret (rt A' (resV_three rfl (yr_cell rfl) (res_tmp rfl) (res_tmp rfl)) ⟨p, _, _, _, rfl, dp0, by omega, by omega, by omega, by omega⟩)
instance eqFl_cell_Y6 : EqFl Tryz.prog 35 cellF := eqFl_cell inferInstance (inferInstance : Ty Tryz.prog 3 _ 1 _ _) (by kernel_rfl)
instance eqFl_edit_Y6 : EqFl Tryz.prog 37 editF := eqFl_edit inferInstance (inferInstance : Ty Tryz.prog 3 _ 1 _ _) (inferInstance : Ty Tryz.prog 35 _ 2 _ _) (by kernel_rfl) (by kernel_rfl)
theorem llGrid_v (h : PHeap) (ca cb : List Value) (x y : Grid) (bx : (gridR τ).B h ca x) (by' : (gridR τ).B h cb y) : CallV Tryz.prog M 32 [.agg ca.toArray, .agg cb.toArray] h (.bool (decide (x = y))) := by
  obtain ⟨c1, rfl, s1⟩ := gridB bx
  obtain ⟨c2, rfl, s2⟩ := gridB by'
  have o1 := s1.one
  have o2 := s2.one
  have h1 := s1.small
  have h2 := s2.small
  refine Cs Tryz.func32 Tryz.ntmps32 ?_
  repeat first | refine R1 ?_ | refine R2 fun _ => ?_
  refine f_split (fun e => ?_) fun e => ?_
  · repeat first | refine R1 ?_ | refine R2 fun _ => ?_
    refine sf_T rfl ?_
    repeat first | refine R1 ?_ | refine R2 fun _ => ?_
    exact sf_ret (rV (bF fun z => e (by rw [z])))
  repeat first | refine R1 ?_ | refine R2 fun _ => ?_
  refine sf_if (fun e0 => ?_) fun e0 => ?_
  · repeat first | refine R1 ?_ | refine R2 fun _ => ?_
    exact sf_ret (rV (bF fun z => e0 (by rw [z])))
  have hl : x.cells.length = y.cells.length := by omega
  repeat first | refine R1 ?_ | refine R2 fun _ => ?_
  refine sf_rd [2, 3] 5 x.cells.length 0 (fun k => x.cells.take k = y.cells.take k) (by omega) rfl (fun k hk hi => ?_)
  repeat first | refine R1 ?_ | refine R2 fun _ => ?_
  refine sf_if (fun h4 => ?_) fun h4 => ?_
  · have hk4 : k < x.cells.length := by omega
    have hk5 : k < y.cells.length := by omega
    repeat first | refine R1 ?_ | refine R2 fun _ => ?_
    refine Sd [[],[0],[],[0,1,2],[0,1,2,3],[],[5],[],[5,6,7],[5,6,7,8],[0,1,2,3,4,5,6,7,8,9]] 10 [Nn 0,Nn 1,Nn 2,Nn 3,Nn 4,Nn 5,Nn 6,Nn 7,Nn 8,Nn 9] ?_
    refine Da ?_
    refine Ae ?_
    refine fp (Rq ?_ (q_neqS (E := cellF) (a := gt x.cells k) (b := gt y.cells k) inferInstance (by rfl) (by rfl)))
    repeat first | refine R1 ?_ | refine R2 fun _ => ?_
    refine sf_ifn (fun e1 => ?_) fun e1 => ?_
    · repeat first | refine R1 ?_ | refine R2 fun _ => ?_
      exact sf_ret (rV (bF fun z => eq_at e1 (by rw [z])))
    · repeat first | refine R1 ?_ | refine R2 fun _ => ?_
      exact ⟨⟨hk4, eq_step hk4 hk5 hi e1⟩, rfl, rfl, _, inferInstance⟩
  · refine sf_exit ?_
    repeat first | refine R1 ?_ | refine R2 fun _ => ?_
    have hc := eq_end hl (by omega) hi
    refine sf_ret (rV (bT ?_))
    cases x; cases y; simp_all
theorem llInts_v (h : PHeap) (a b : Value) (xs ys : List Int) (sx : Sl h a intF xs) (sy : Sl h b intF ys) : CallV Tryz.prog M 14 [a, b] h (.bool (decide (xs = ys))) := by
  have o1 := sx.one
  have o2 := sy.one
  have hx := sx.small
  have hy := sy.small
  refine Cs Tryz.func14 Tryz.ntmps14 ?_
  refine Wo ?_
  refine sf_if (fun e0 => ?_) fun e0 => ?_
  · refine Wo ?_
    exact sf_ret (rV (bF fun e => e0 (by rw [e])))
  have hl : xs.length = ys.length := by omega
  refine Wo ?_
  refine sf_rd [0, 1] 5 xs.length 0 (fun k => xs.take k = ys.take k) (by omega) rfl (fun k hk hi => ?_)
  refine Wo ?_
  refine sf_if (fun h4 => ?_) fun h4 => ?_
  · have hk4 : k < xs.length := by omega
    have hk5 : k < ys.length := by omega
    refine Wo ?_
    refine Sd [[],[],[0,1],[0,1,2],[],[],[4,5],[4,5,6],[0,1,2,3,4,5,6,7]] 8 [Nn 0,Nn 1,Nn 2,Nn 3,Nn 4,Nn 5,Nn 6,Nn 7] ?_
    refine Da ?_
    refine Ae ?_
    refine Wo ?_
    refine sf_if (fun e1 => ?_) fun e1 => ?_
    · refine Wo ?_
      exact sf_ret (rV (bF (eq_at e1)))
    · refine Wo ?_
      exact ⟨⟨hk4, eq_step hk4 hk5 hi (by simpa using e1)⟩, rfl, rfl, _, inferInstance⟩
  · refine sf_exit ?_
    refine Wo ?_
    exact sf_ret (rV (bT (eq_end hl (by omega) hi)))
theorem llWordP_s (h : PHeap) (ca cb : List Value) (w : Word) (bx : (wordR τ).B h ca w) (by' : (wordR τ).B h cb w) : CallV Tryz.prog M 12 [.agg ca.toArray, .agg cb.toArray] h (.bool true) := by
  obtain ⟨c1, l1, rfl, s1, t1⟩ := wordB bx
  have o1 := s1.one
  have p1 := t1.one
  obtain ⟨c2, l2, rfl, s2, t2⟩ := wordB by'
  have o2 := s2.one
  have p2 := t2.one
  refine Cs Tryz.func12 Tryz.ntmps12 ?_
  repeat first | refine R1 ?_ | refine R2 fun _ => ?_
  rw [decide_eq_true (rfl : w.kind = w.kind)]
  repeat first | refine R1 ?_ | refine R2 fun _ => ?_
  rw [decide_eq_true (rfl : w.to = w.to)]
  repeat first | refine R1 ?_ | refine R2 fun _ => ?_
  rw [decide_eq_true (rfl : w.frm = w.frm)]
  repeat first | refine R1 ?_ | refine R2 fun _ => ?_
  rw [decide_eq_true (rfl : w.ver = w.ver)]
  repeat first | refine R1 ?_ | refine R2 fun _ => ?_
  refine Xv (llGrid_v _ _ _ w.grid w.grid (gridB_mk s1) (gridB_mk s2)) ?_
  rw [decide_eq_true (rfl : w.grid = w.grid)]
  repeat first | refine R1 ?_ | refine R2 fun _ => ?_
  refine fp (Rq ?_ (q_eqS (E := editF) (a := w.edit) (b := w.edit) inferInstance (by rfl) (by rfl)))
  rw [decide_eq_true (rfl : w.edit = w.edit)]
  repeat first | refine R1 ?_ | refine R2 fun _ => ?_
  refine Xv (llInts_v _ _ _ w.lights w.lights t1 t2) ?_
  rw [decide_eq_true (rfl : w.lights = w.lights)]
  repeat first | refine R1 ?_ | refine R2 fun _ => ?_
  exact sf_ret (rV rfl)
end Go.Proofs.YtcpkcmgjfcbnpaaGreat
namespace Go.Proofs.YtcpkcmgjfcbnpaaGreat
open Go Go.Sl Go.Sort
set_option maxRecDepth 100000
set_option maxHeartbeats 4000000
attribute [local irreducible] Go.Code.sf sfOps Opq opo retF Do1 anyO
variable {M : Jdg → Prop} [IsCl Tryz.prog M]
theorem isNaN_v (h : PHeap) (x : Int) : CallV Tryz.prog M 170 [.int .i64 x] h (.bool false) := by
  refine Cs Tryz.func170 Tryz.ntmps170 ?_
  refine Wo ?_
  refine sf_ret (rV ?_)
  simp
theorem less_v (h : PHeap) (x y : Int) : CallV Tryz.prog M 135 [.int .i64 x, .int .i64 y] h (.bool (decide (x < y))) := by
  refine Cs Tryz.func135 Tryz.ntmps135 ?_
  refine Wo ?_
  refine Xv (isNaN_v _ _) ?_
  refine Wo ?_
  exact sf_ret (rV rfl)
theorem insertionSort_f (h : PHeap) (v : Value) (A : Own) (d : Array Int) (g : Gr A v 3 intF d.toList) (a b : Nat) (hb : b ≤ d.size) (hs : d.size ≤ 1000000) (ha : a ≤ b) :
    CallF Tryz.prog M 129 [v, .int .i64 (a : Int), .int .i64 (b : Int)] A h fun u A' => u = .tuple #[] ∧ Gr A' v 3 intF (insertionSort ltInt d a b).toList := by
  have o := g.one
  refine Cs Tryz.func129 Tryz.ntmps129 ?_
  refine Wo ?_
  refine sf_lp (ι := Nat × Array Int) [0, 1, 2] (fun x => [(6, .int .i64 (x.1 : Int))]) (fun x O => Gr O v 3 intF x.2.toList ∧ x.2.size = d.size ∧ a + 1 ≤ x.1 ∧ insOuter ltInt a b x.1 x.2 = insertionSort ltInt d a b) (fun x => b - x.1) (a + 1, d) A ⟨g, rfl, by simp only; omega, rfl⟩ ?_
  rintro ⟨i, e⟩ O ⟨ge, hsz, hi, hinv⟩
  simp only at ge hsz hi hinv ⊢
  refine Wo ?_
  refine sf_if (fun h1 => ?_) fun h1 => ?_
  · refine Wo ?_
    refine sf_lp (ι := Nat × Array Int) [0, 1, 2, 6] (fun x => [(7, .int .i64 (x.1 : Int))]) (fun x O => Gr O v 3 intF x.2.toList ∧ x.2.size = d.size ∧ x.1 < b ∧ insInner ltInt a x.1 x.2 = insInner ltInt a i e) (fun x => x.1) (i, e) O ⟨ge, hsz, by simp only; omega, rfl⟩ ?_
    rintro ⟨j, f⟩ O ⟨gf, fsz, hj, finv⟩
    simp only at gf fsz hj finv ⊢
    clear ge
    by_cases h2 : a < j
    · obtain ⟨j, rfl⟩ : ∃ j', j = j' + 1 := ⟨j - 1, by omega⟩
      have h3 : (a : Int) < ((j + 1 : Nat) : Int) := by omega
      have lf : f.toList.length = f.size := by simp
      have q1 : gt f.toList ((j + 1 : Nat) : Int).toNat = f[j + 1]! := gt_arr' (by omega) (by omega)
      have q2 : gt f.toList (((j + 1 : Nat) : Int) - 1).toNat = f[j]! := gt_arr' (by omega) (by omega)
      refine Wo ?_
      refine Sd [[],[],[0,1],[0,1,2],[0,1,2,3],[0,1,2,3],[0,1,2,3,4,5],[0,1,2,3,4,5,6],[0,1,2,3],[0,1,2,3],[0,1,2,3,9],[0,1,2,3,8,9,10],[0,1,2,3,8,9,10,11],[0,1,2,3,4,5,6,7,8,9,10,11,12],[0,1,2,3,4,5,6,7,8,9,10,11,12,13]] 13 [Nn 0,Nn 1,Nn 2,Nn 3,Nn 4,Nn 5,Nn 6,Nn 7,Nn 8,Nn 9,Nn 10,Nn 11,Nn 12] ?_
      refine Di ?_
      refine Ae ?_
      refine Xv (less_v _ _ _) ?_
      refine Wo ?_
      refine sf_if (fun h4 => ?_) fun h4 => ?_
      · refine Wo ?_
        refine sf_draw (by kernel_rfl) (regX_own (O) (regX_split 9 13 (by rfl) ?_ ?_))
        case' refine_1 =>
          refine Sw [[],[],[],[],[3],[],[],[6],[5,6,7],[5,6,7,8],[],[],[10,11],[5,6,7,8,9,10,11,12],[0,1,5,6,7,8,9,10,11,12,13],[0,1,5,6,7,8,9,10,11,12,13,14],[0,1,2,3,4,5,6,7,8,9,10,11,12,13,14,15],[0,1,2,3,4,5,6,7,8,9,10,11,12,13,14,15,16]] 16 [Nn 0,Nn 1,Nn 2,Nn 3,Nn 4,Nn 5,Nn 6,Nn 7,Nn 8,Nn 10,Nn 11,Nn 12,Yy 9,Yy 13,Nn 14,Yy 15] ?_
          refine Di ?_
          refine Yw (by rfl) (z_loadG (by rfl) gf (by omega) (by rfl)) ?_
          refine Di ?_
          refine Yw (by rfl) (z_loadG (by rfl) gf (by omega) (by rfl)) ?_
          refine Di ?_
          refine Yg gf fun As ys hy hl fs gg => ?_
          refine Di ?_
          refine Ae ?_
        case' refine_2 =>
          refine Sw [[],[],[],[],[3],[],[],[6],[5,6,7],[5,6,7,8,10,11,12,13],[],[],[10,11],[10,11,12],[0,1,5,6,7,8,9,10,11,12,13],[0,1,5,6,7,8,9,10,11,12,13,14],[0,1,2,3,4,5,6,7,8,9,10,11,12,13,14,15],[0,1,2,3,4,5,6,7,8,9,10,11,12,13,14,15,16]] 16 [Nn 0,Nn 1,Nn 2,Nn 3,Nn 4,Nn 5,Nn 6,Nn 7,Nn 8,Nn 10,Nn 11,Nn 12,Yy 13,Yy 9,Nn 14,Yy 15] ?_
          refine Di ?_
          refine Yw (by rfl) (z_loadG (by rfl) gf (by omega) (by rfl)) ?_
          refine Di ?_
          refine Yw (by rfl) (z_loadG (by rfl) gf (by omega) (by rfl)) ?_
          refine Di ?_
          refine Yg gf fun As ys hy hl fs gg => ?_
          refine Di ?_
          refine Ae ?_
        all_goals
          refine Wi ?_
          refine Xg gg fun At zs hz hlz fz gz => ?_
          refine Wi ?_
          have hf : zs = (swp f (j + 1) j).toList := swp_is hy hz (by omega) (by omega) (by omega) (by omega) (by omega) (by omega)
          rw [hf] at gz
          exact ⟨(j, swp f (j + 1) j), by simp only; omega, ⟨vI (by omega), trivial⟩, rfl, _, _, inferInstance, gz, by simp only [swp_size]; exact fsz, by simp only; omega, by simp only; rw [← finv, insInner_go h2 (by rw [← q1, ← q2]; exact h4)]⟩
      · refine sf_exit ?_
        refine Wo ?_
        exact ⟨(i + 1, f), by simp only; omega, ⟨rfl, trivial⟩, rfl, _, _, inferInstance, gf, fsz, by simp only; omega, by simp only; rw [← hinv, insOuter_go (i := i) (d := e) (by omega), ← finv, insInner_stop (by rw [← q1, ← q2]; exact h4)]⟩
    · have h3 : ¬ (a : Int) < (j : Int) := by omega
      refine Wo ?_
      refine Sd [[],[],[0,1],[0,1,2],[0,1,2,3],[0,1,2,3],[0,1,2,3,4,5],[0,1,2,3,4,5,6],[0,1,2,3],[0,1,2,3],[0,1,2,3,9],[0,1,2,3,8,9,10],[0,1,2,3,8,9,10,11],[0,1,2,3,4,5,6,7,8,9,10,11,12],[0,1,2,3,4,5,6,7,8,9,10,11,12,13]] 13 [Nn 0,Nn 1,Nn 2,Nn 3,Nn 4,Nn 5,Nn 6,Nn 7,Nn 8,Nn 9,Nn 10,Nn 11,Nn 12] ?_
      refine Di ?_
      refine Ae ?_
      refine Wo ?_
      refine sf_cond (by rfl) (fun e => by cases e) fun z1 => ?_
      clear z1
      refine sf_exit ?_
      refine Wo ?_
      exact ⟨(i + 1, f), by simp only; omega, ⟨rfl, trivial⟩, rfl, _, _, inferInstance, gf, fsz, by simp only; omega, by simp only; rw [← hinv, insOuter_go (i := i) (d := e) (by omega), ← finv, insInner_no h2]⟩
  · refine sf_exit ?_
    refine Wo ?_
    refine nO O ⟨rfl, ?_⟩
    rw [← hinv, insOuter_end (by omega)]
    exact ge
theorem siftDown_f (h : PHeap) (v : Value) (A : Own) (d : Array Int) (g : Gr A v 3 intF d.toList) (lo hi first : Nat) (hb : first + hi ≤ d.size) (hs : d.size ≤ 1000000) (hl : lo ≤ 1000000) :
    CallF Tryz.prog M 165 [v, .int .i64 (lo : Int), .int .i64 (hi : Int), .int .i64 (first : Int)] A h fun u A' => u = .tuple #[] ∧ Gr A' v 3 intF (siftDown ltInt hi first lo d).toList := by
  have o := g.one
  refine Cs Tryz.func165 Tryz.ntmps165 ?_
  refine Wo ?_
  refine sf_lp (ι := Nat × Array Int) [0, 2, 3] (fun x => [(8, .int .i64 (x.1 : Int))]) (fun x O => Gr O v 3 intF x.2.toList ∧ x.2.size = d.size ∧ x.1 ≤ 1000000 ∧ siftDown ltInt hi first x.1 x.2 = siftDown ltInt hi first lo d) (fun x => hi - x.1) (lo, d) A ⟨g, rfl, hl, rfl⟩ ?_
  rintro ⟨r, f⟩ O ⟨gf, fsz, hr, finv⟩
  simp only at gf fsz hr finv ⊢
  have lf : f.toList.length = f.size := by simp
  refine Wo ?_
  refine sf_if (fun h1 => ?_) fun h1 => ?_
  · refine sf_exit ?_
    refine Wo ?_
    refine nO O ⟨rfl, ?_⟩
    rw [← finv, siftDown, dif_pos (by omega)]
    exact gf
  refine Wo ?_
  have q1 : 2 * r + 1 < hi := by omega
  have w1 : gt f.toList ((first : Int) + (2 * (r : Int) + 1)).toNat = f[first + (2 * r + 1)]! := gt_arr' (by omega) (by omega)
  obtain ⟨c, hc⟩ := child_is hi first r f
  have cb : c < hi := by rcases hc with ⟨⟨_, _⟩, rfl⟩ | ⟨_, rfl⟩ <;> omega
  have cr : r < c := by rcases hc with ⟨⟨_, _⟩, rfl⟩ | ⟨_, rfl⟩ <;> omega
  have hstep := siftDown_step q1 hc
  apply viaT
  · intro tail
    by_cases hA : 2 * (r : Int) + 1 + 1 < (hi : Int)
    · have w2 : gt f.toList ((first : Int) + (2 * (r : Int) + 1) + 1).toNat = f[first + (2 * r + 2)]! := gt_arr' (by omega) (by omega)
      refine Sd [[],[0],[],[0,1,2],[0,1,2,3],[0,1,2,3,4],[0,1,2,3,4],[0,1,2,3,4],[0,1,2,3,4,6,7],[0,1,2,3,4,5,6,7,8],[0,1,2,3,4,5,6,7,8,9],[0,1,2,3,4],[0,1,2,3,4],[0,1,2,3,4],[0,1,2,3,4,12,13],[0,1,2,3,4,12,13,14],[0,1,2,3,4,11,12,13,14,15],[0,1,2,3,4,11,12,13,14,15,16],[0,1,2,3,4,5,6,7,8,9,10,11,12,13,14,15,16,17],[0,1,2,3,4,5,6,7,8,9,10,11,12,13,14,15,16,17,18]] 18 [Nn 0,Nn 1,Nn 2,Nn 3,Nn 4,Nn 5,Nn 6,Nn 7,Nn 8,Nn 9,Nn 10,Nn 11,Nn 12,Nn 13,Nn 14,Nn 15,Nn 16,Nn 17] ?_
      refine Di ?_
      refine Ae ?_
      refine Xv (less_v _ _ _) ?_
      refine Wo ?_
      rw [w1, w2]
      rcases hc with ⟨⟨_, hB⟩, hc⟩ | ⟨hB, hc⟩
      · refine sf_T (decide_eq_true hB) ?_
        refine Wo ?_
        rw [show 2 * (r : Int) + 1 + 1 = (c : Int) by omega]
        refine sf_keep [0, 2, 3, 8, 9] ?_
        exact tail.out
      · refine sf_N (decide_eq_false fun h => hB ⟨by omega, h⟩) ?_
        refine Wo ?_
        rw [show 2 * (r : Int) + 1 = (c : Int) by omega]
        refine sf_keep [0, 2, 3, 8, 9] ?_
        exact tail.out
    · refine Sd [[],[0],[],[0,1,2],[0,1,2,3],[0,1,2,3,4],[0,1,2,3,4],[0,1,2,3,4],[0,1,2,3,4,6,7],[0,1,2,3,4,5,6,7,8],[0,1,2,3,4,5,6,7,8,9],[0,1,2,3,4],[0,1,2,3,4],[0,1,2,3,4],[0,1,2,3,4,12,13],[0,1,2,3,4,12,13,14],[0,1,2,3,4,11,12,13,14,15],[0,1,2,3,4,11,12,13,14,15,16],[0,1,2,3,4,5,6,7,8,9,10,11,12,13,14,15,16,17],[0,1,2,3,4,5,6,7,8,9,10,11,12,13,14,15,16,17,18]] 18 [Nn 0,Nn 1,Nn 2,Nn 3,Nn 4,Nn 5,Nn 6,Nn 7,Nn 8,Nn 9,Nn 10,Nn 11,Nn 12,Nn 13,Nn 14,Nn 15,Nn 16,Nn 17] ?_
      refine Di ?_
      refine Ae ?_
      refine Wo ?_
      refine sf_cond (by rfl) (fun e => by cases e) fun z1 => ?_
      clear z1
      refine Wo ?_
      rw [show 2 * (r : Int) + 1 = (c : Int) by rcases hc with ⟨⟨_, _⟩, rfl⟩ | ⟨_, rfl⟩ <;> omega]
      refine sf_keep [0, 2, 3, 8, 9] ?_
      exact tail.out
  refine Wo ?_
  have v1 : gt f.toList (first + r) = f[first + r]! := gt_arr (by omega)
  have v2 : gt f.toList (first + c) = f[first + c]! := gt_arr (by omega)
  refine Sd [[],[],[],[1,2],[0,1,2,3],[0,1,2,3,4],[],[],[],[7,8],[6,7,8,9],[6,7,8,9,10],[0,1,2,3,4,5,6,7,8,9,10,11],[0,1,2,3,4,5,6,7,8,9,10,11,12]] 12 [Nn 0,Nn 1,Nn 2,Nn 3,Nn 4,Nn 5,Nn 6,Nn 7,Nn 8,Nn 9,Nn 10,Nn 11] ?_
  refine Di ?_
  refine Ae ?_
  refine Xv (less_v _ _ _) ?_
  refine Wo ?_
  rw [v1, v2]
  refine sf_ifn (fun h4 => ?_) fun h4 => ?_
  · refine Wo ?_
    refine sf_ret (rO O ⟨rfl, ?_⟩)
    rw [← finv, hstep, if_neg h4]
    exact gf
  rw [if_pos h4] at hstep
  refine Wo ?_
  refine sf_draw (by kernel_rfl) (regX_own (O) (regX_split 13 19 (by rfl) ?_ ?_))
  case' refine_1 =>
    refine Sw [[],[],[],[1,2],[],[],[],[5,6],[],[],[],[9,10],[8,9,10,11],[8,9,10,11,12],[],[],[],[15,16],[14,15,16,17],[8,9,10,11,12,13,14,15,16,17,18],[0,1,2,3,8,9,10,11,12,13,14,15,16,17,18,19],[0,1,2,3,8,9,10,11,12,13,14,15,16,17,18,19,20],[0,1,2,3,4,5,6,7,8,9,10,11,12,13,14,15,16,17,18,19,20,21],[0,1,2,3,4,5,6,7,8,9,10,11,12,13,14,15,16,17,18,19,20,21,22]] 22 [Nn 0,Nn 1,Nn 2,Nn 3,Nn 4,Nn 5,Nn 6,Nn 7,Nn 8,Nn 9,Nn 10,Nn 11,Nn 12,Nn 14,Nn 15,Nn 16,Nn 17,Nn 18,Yy 13,Yy 19,Nn 20,Yy 21] ?_
    refine Di ?_
    refine Yw (by rfl) (z_loadG (by rfl) gf (by omega) (by rfl)) ?_
    refine Di ?_
    refine Yw (by rfl) (z_loadG (by rfl) gf (by omega) (by rfl)) ?_
    refine Di ?_
    refine Yg gf fun As ys hy hl fs gg => ?_
    refine Di ?_
    refine Ae ?_
  case' refine_2 =>
    refine Sw [[],[],[],[1,2],[],[],[],[5,6],[],[],[],[9,10],[8,9,10,11],[8,9,10,11,12,14,15,16,17,18,19],[],[],[],[15,16],[14,15,16,17],[14,15,16,17,18],[0,1,2,3,8,9,10,11,12,13,14,15,16,17,18,19],[0,1,2,3,8,9,10,11,12,13,14,15,16,17,18,19,20],[0,1,2,3,4,5,6,7,8,9,10,11,12,13,14,15,16,17,18,19,20,21],[0,1,2,3,4,5,6,7,8,9,10,11,12,13,14,15,16,17,18,19,20,21,22]] 22 [Nn 0,Nn 1,Nn 2,Nn 3,Nn 4,Nn 5,Nn 6,Nn 7,Nn 8,Nn 9,Nn 10,Nn 11,Nn 12,Nn 14,Nn 15,Nn 16,Nn 17,Nn 18,Yy 19,Yy 13,Nn 20,Yy 21] ?_
    refine Di ?_
    refine Yw (by rfl) (z_loadG (by rfl) gf (by omega) (by rfl)) ?_
    refine Di ?_
    refine Yw (by rfl) (z_loadG (by rfl) gf (by omega) (by rfl)) ?_
    refine Di ?_
    refine Yg gf fun As ys hy hl fs gg => ?_
    refine Di ?_
    refine Ae ?_
  all_goals
    refine Wi ?_
    refine Xg gg fun At zs hz hlz fz gz => ?_
    refine Wi ?_
    have hf : zs = (swp f (first + r) (first + c)).toList := swp_is hy hz (by omega) (by omega) (by omega) (by omega) (by omega) (by omega)
    rw [hf] at gz
    exact ⟨(c, swp f (first + r) (first + c)), by simp only; omega, ⟨rfl, trivial⟩, rfl, _, _, inferInstance, gz, by simp only [swp_size]; exact fsz, by simp only; omega, by simp only; rw [← finv, hstep]⟩
theorem heapSort_f (h : PHeap) (v : Value) (A : Own) (d : Array Int) (g : Gr A v 3 intF d.toList) (a b : Nat) (hb : b ≤ d.size) (hs : d.size ≤ 1000000) (hab : a < b) :
    CallF Tryz.prog M 130 [v, .int .i64 (a : Int), .int .i64 (b : Int)] A h fun u A' => u = .tuple #[] ∧ Gr A' v 3 intF (heapSort ltInt d a b).toList := by
  have o := g.one
  obtain ⟨n, rfl⟩ : ∃ n : Nat, b = a + n := ⟨b - a, by omega⟩
  refine Cs Tryz.func130 Tryz.ntmps130 ?_
  refine Wo ?_
  have e0 : ((a + n : Nat) : Int) - (a : Int) = (n : Int) := by omega
  rw [e0]
  rw [show ((n : Int) - 1) / 2 = (((n - 1) / 2 + 1 : Nat) : Int) - 1 by omega]
  have hsort : heapSort ltInt d a (a + n) = heapPop ltInt a n (heapBuild ltInt n a ((n - 1) / 2 + 1) d) := by
    unfold heapSort; rw [show a + n - a = n by omega]
  refine sf_lp (ι := Nat × Array Int) [0, 6, 7, 8] (fun x => [(9, .int .i64 ((x.1 : Int) - 1))]) (fun x O => Gr O v 3 intF x.2.toList ∧ x.2.size = d.size ∧ x.1 ≤ n + 1 ∧ heapBuild ltInt n a x.1 x.2 = heapBuild ltInt n a ((n - 1) / 2 + 1) d) (fun x => x.1) ((n - 1) / 2 + 1, d) A ⟨g, rfl, by simp only; omega, rfl⟩ ?_
  rintro ⟨k, f⟩ O ⟨gf, fsz, hk, finv⟩
  simp only at gf fsz hk finv ⊢
  refine Wo ?_
  refine sf_if (fun h1 => ?_) fun h1 => ?_
  · obtain ⟨k, rfl⟩ : ∃ k', k = k' + 1 := ⟨k - 1, by omega⟩
    rw [show (((k + 1 : Nat) : Int) - 1) = (k : Int) by omega]
    refine Wo ?_
    refine fp (y_call (siftDown_f (M := M) _ v O f gf k n a (by omega) (by omega) (by omega)) (by rfl) ?_)
    rintro _ A1 ⟨rfl, g1⟩
    refine Wo ?_
    exact ⟨(k, _), by simp only; omega, ⟨rfl, trivial⟩, rfl, A1, _, inferInstance, g1, by simp only [siftDown_size]; exact fsz, by simp only; omega, by simp only; rw [← finv]; rfl⟩
  · refine sf_exit ?_
    obtain rfl : k = 0 := by omega
    rw [← finv] at hsort
    clear finv
    refine Wo ?_
    refine sf_lp (ι := Nat × Array Int) [0, 6, 7] (fun x => [(10, .int .i64 ((x.1 : Int) - 1))]) (fun x O => Gr O v 3 intF x.2.toList ∧ x.2.size = d.size ∧ x.1 ≤ n ∧ heapPop ltInt a x.1 x.2 = heapSort ltInt d a (a + n)) (fun x => x.1) (n, f) O ⟨gf, fsz, by simp only; omega, hsort.symm⟩ ?_
    rintro ⟨k, f⟩ O ⟨gf, fsz, hk, finv⟩
    simp only at gf fsz hk finv ⊢
    have lf : f.toList.length = f.size := by simp
    refine Wo ?_
    refine sf_if (fun h1 => ?_) fun h1 => ?_
    · obtain ⟨k, rfl⟩ : ∃ k', k = k' + 1 := ⟨k - 1, by omega⟩
      rw [show (((k + 1 : Nat) : Int) - 1) = (k : Int) by omega]
      refine Wo ?_
      refine sf_draw (by kernel_rfl) (regX_own (O) (regX_split 11 15 (by rfl) ?_ ?_))
      case' refine_1 =>
        refine Sw [[],[],[],[],[],[3,4],[],[],[],[7,8],[6,7,8,9],[6,7,8,9,10],[],[],[12,13],[6,7,8,9,10,11,12,13,14],[0,1,6,7,8,9,10,11,12,13,14,15],[0,1,6,7,8,9,10,11,12,13,14,15,16],[0,1,2,3,4,5,6,7,8,9,10,11,12,13,14,15,16,17],[0,1,2,3,4,5,6,7,8,9,10,11,12,13,14,15,16,17,18]] 18 [Nn 0,Nn 1,Nn 2,Nn 3,Nn 4,Nn 5,Nn 6,Nn 7,Nn 8,Nn 9,Nn 10,Nn 12,Nn 13,Nn 14,Yy 11,Yy 15,Nn 16,Yy 17] ?_
        refine Di ?_
        refine Yw (by rfl) (z_loadG (by rfl) gf (by omega) (by rfl)) ?_
        refine Di ?_
        refine Yw (by rfl) (z_loadG (by rfl) gf (by omega) (by rfl)) ?_
        refine Di ?_
        refine Yg gf fun As ys hy hl fs gg => ?_
        refine Di ?_
        refine Ae ?_
      case' refine_2 =>
        refine Sw [[],[],[],[],[],[3,4],[],[],[],[7,8],[6,7,8,9],[6,7,8,9,10,12,13,14,15],[],[],[12,13],[12,13,14],[0,1,6,7,8,9,10,11,12,13,14,15],[0,1,6,7,8,9,10,11,12,13,14,15,16],[0,1,2,3,4,5,6,7,8,9,10,11,12,13,14,15,16,17],[0,1,2,3,4,5,6,7,8,9,10,11,12,13,14,15,16,17,18]] 18 [Nn 0,Nn 1,Nn 2,Nn 3,Nn 4,Nn 5,Nn 6,Nn 7,Nn 8,Nn 9,Nn 10,Nn 12,Nn 13,Nn 14,Yy 15,Yy 11,Nn 16,Yy 17] ?_
        refine Di ?_
        refine Yw (by rfl) (z_loadG (by rfl) gf (by omega) (by rfl)) ?_
        refine Di ?_
        refine Yw (by rfl) (z_loadG (by rfl) gf (by omega) (by rfl)) ?_
        refine Di ?_
        refine Yg gf fun As ys hy hl fs gg => ?_
        refine Di ?_
        refine Ae ?_
      all_goals
        refine Wi ?_
        refine Xg gg fun At zs hz hlz fz gz => ?_
        refine Wi ?_
        have hf : zs = (swp f a (a + k)).toList := swp_is hy hz (by omega) (by omega) (by omega) (by omega) (by omega) (by omega)
        rw [hf] at gz
        refine fp (y_call (siftDown_f (M := M) _ v At (swp f a (a + k)) gz 0 k a (by rw [swp_size]; omega) (by rw [swp_size]; omega) (by omega)) (by rfl) ?_)
        rintro _ A1 ⟨rfl, g1⟩
        refine Wo ?_
        exact ⟨(k, _), by simp only; omega, ⟨rfl, trivial⟩, rfl, A1, _, inferInstance, g1, by simp only [siftDown_size, swp_size]; exact fsz, by simp only; omega, by simp only; rw [← finv]; rfl⟩
    · refine sf_exit ?_
      obtain rfl : k = 0 := by omega
      refine Wo ?_
      refine nO O ⟨rfl, ?_⟩
      rw [← finv]
      exact gf
theorem reverseRange_f (h : PHeap) (v : Value) (A : Own) (d : Array Int) (g : Gr A v 3 intF d.toList) (a b : Nat) (hb : b ≤ d.size) (hs : d.size ≤ 1000000) (hab : a < b) :
    CallF Tryz.prog M 133 [v, .int .i64 (a : Int), .int .i64 (b : Int)] A h fun u A' => u = .tuple #[] ∧ Gr A' v 3 intF (reverseRange d a b).toList := by
  have o := g.one
  obtain ⟨n, rfl⟩ : ∃ n : Nat, b = n + 1 := ⟨b - 1, by omega⟩
  refine Cs Tryz.func133 Tryz.ntmps133 ?_
  refine Wo ?_
  rw [show (((n + 1 : Nat) : Int) - 1) = (n : Int) by omega]
  refine sf_lp (ι := Nat × Nat × Array Int) [0] (fun x => [(6, .int .i64 (x.1 : Int)), (7, .int .i64 (x.2.1 : Int))]) (fun x O => Gr O v 3 intF x.2.2.toList ∧ x.2.2.size = d.size ∧ x.2.1 ≤ n ∧ reverseLoop x.1 x.2.1 x.2.2 = reverseRange d a (n + 1)) (fun x => x.2.1) (a, n, d) A ⟨g, rfl, by simp only; omega, rfl⟩ ?_
  rintro ⟨i, j, f⟩ O ⟨gf, fsz, hk, finv⟩
  simp only at gf fsz hk finv ⊢
  have lf : f.toList.length = f.size := by simp
  refine Wo ?_
  refine sf_if (fun h1 => ?_) fun h1 => ?_
  · have hst : reverseLoop i j f = reverseLoop (i + 1) (j - 1) (swp f i j) := by rw [reverseLoop, if_pos (by omega)]
    obtain ⟨j, rfl⟩ : ∃ k', j = k' + 1 := ⟨j - 1, by omega⟩
    refine Wo ?_
    refine sf_draw (by kernel_rfl) (regX_own (O) (regX_split 7 11 (by rfl) ?_ ?_))
    case' refine_1 =>
      refine Sw [[],[],[],[],[],[],[4,5],[4,5,6],[],[],[8,9],[4,5,6,7,8,9,10],[0,1,4,5,6,7,8,9,10,11],[0,1,4,5,6,7,8,9,10,11,12],[0,1,2,3,4,5,6,7,8,9,10,11,12,13],[0,1,2,3,4,5,6,7,8,9,10,11,12,13,14]] 14 [Nn 0,Nn 1,Nn 2,Nn 3,Nn 4,Nn 5,Nn 6,Nn 8,Nn 9,Nn 10,Yy 7,Yy 11,Nn 12,Yy 13] ?_
      refine Di ?_
      refine Yw (by rfl) (z_loadG (by rfl) gf (by omega) (by rfl)) ?_
      refine Di ?_
      refine Yw (by rfl) (z_loadG (by rfl) gf (by omega) (by rfl)) ?_
      refine Di ?_
      refine Yg gf fun As ys hy hl fs gg => ?_
      refine Di ?_
      refine Ae ?_
    case' refine_2 =>
      refine Sw [[],[],[],[],[],[],[4,5],[4,5,6,8,9,10,11],[],[],[8,9],[8,9,10],[0,1,4,5,6,7,8,9,10,11],[0,1,4,5,6,7,8,9,10,11,12],[0,1,2,3,4,5,6,7,8,9,10,11,12,13],[0,1,2,3,4,5,6,7,8,9,10,11,12,13,14]] 14 [Nn 0,Nn 1,Nn 2,Nn 3,Nn 4,Nn 5,Nn 6,Nn 8,Nn 9,Nn 10,Yy 11,Yy 7,Nn 12,Yy 13] ?_
      refine Di ?_
      refine Yw (by rfl) (z_loadG (by rfl) gf (by omega) (by rfl)) ?_
      refine Di ?_
      refine Yw (by rfl) (z_loadG (by rfl) gf (by omega) (by rfl)) ?_
      refine Di ?_
      refine Yg gf fun As ys hy hl fs gg => ?_
      refine Di ?_
      refine Ae ?_
    all_goals
      refine Wi ?_
      refine Xg gg fun At zs hz hlz fz gz => ?_
      refine Wi ?_
      have hf : zs = (swp f i (j + 1)).toList := swp_is hy hz (by omega) (by omega) (by omega) (by omega) (by omega) (by omega)
      rw [hf] at gz
      exact ⟨(i + 1, j, swp f i (j + 1)), by simp only; omega, ⟨rfl, vI (show ((j + 1 : Nat) : Int) - 1 = (j : Int) by omega), trivial⟩, rfl, _, _, inferInstance, gz, by simp only [swp_size]; exact fsz, by simp only; omega, by simp only; rw [← finv, hst]; rfl⟩
  · refine sf_exit ?_
    refine Wo ?_
    refine nO O ⟨rfl, ?_⟩
    rw [← finv, reverseLoop, if_neg (by omega)]
    exact gf
abbrev swA (bs : Nat) (z : Int) : Own := [(bs, .cells #[.int .i64 z] 3)]
theorem order2_f (h : PHeap) (v : Value) (xs : List Int) (s : Sl h v intF xs) (a b : Nat) (ha : a < xs.length) (hb : b < xs.length) (bs : Nat) (z : Int) (hz : 0 ≤ z ∧ z ≤ 1000) :
    CallF Tryz.prog M 182 [v, .int .i64 (a : Int), .int .i64 (b : Int), .pointer (some ⟨bs, 0, none⟩)] (swA bs z) h fun u A => ∃ (x y : Nat) (z' : Int), u = .tuple #[.int .i64 (x : Int), .int .i64 (y : Int)] ∧ ((x = a ∧ y = b) ∨ (x = b ∧ y = a)) ∧ (0 ≤ z' ∧ z' ≤ z + 1) ∧ A = swA bs z' := by
  have o := s.one
  refine Cs Tryz.func182 Tryz.ntmps182 ?_
  refine Wo ?_
  refine Sd [[],[],[0,1],[0,1,2],[],[],[4,5],[4,5,6],[0,1,2,3,4,5,6,7]] 8 [Nn 0,Nn 1,Nn 2,Nn 3,Nn 4,Nn 5,Nn 6,Nn 7] ?_
  refine Da ?_
  refine Ae ?_
  refine Xv (less_v _ _ _) ?_
  refine Wo ?_
  refine sf_if (fun h1 => ?_) fun h1 => ?_
  · refine Wo ?_
    exact sf_ret (rO _ ⟨b, a, z + 1, rfl, .inr ⟨rfl, rfl⟩, by omega, rfl⟩)
  · refine Wo ?_
    exact sf_ret (rO _ ⟨a, b, z, rfl, .inl ⟨rfl, rfl⟩, by omega, rfl⟩)
theorem median_f (h : PHeap) (v : Value) (xs : List Int) (s : Sl h v intF xs) (a b c : Nat) (ha : a < xs.length) (hb : b < xs.length) (hc : c < xs.length) (bs : Nat) (z : Int) (hz : 0 ≤ z ∧ z ≤ 900) :
    CallF Tryz.prog M 169 [v, .int .i64 (a : Int), .int .i64 (b : Int), .int .i64 (c : Int), .pointer (some ⟨bs, 0, none⟩)] (swA bs z) h fun u A => ∃ (x : Nat) (z' : Int), u = .int .i64 (x : Int) ∧ (x = a ∨ x = b ∨ x = c) ∧ (0 ≤ z' ∧ z' ≤ z + 3) ∧ A = swA bs z' := by
  have o := s.one
  refine Cs Tryz.func169 Tryz.ntmps169 ?_
  refine Wo ?_
  refine fp (y_call (order2_f (M := M) _ v xs s a b ha hb bs z (by omega)) (by rfl) ?_)
  rintro _ _ ⟨x1, y1, z1, rfl, h1, hz1, rfl⟩
  refine Wo ?_
  refine fp (y_call (order2_f (M := M) _ v xs s y1 c (by omega) hc bs z1 (by omega)) (by rfl) ?_)
  rintro _ _ ⟨x2, y2, z2, rfl, h2, hz2, rfl⟩
  refine Wo ?_
  refine fp (y_call (order2_f (M := M) _ v xs s x1 x2 (by omega) (by omega) bs z2 (by omega)) (by rfl) ?_)
  rintro _ _ ⟨x3, y3, z3, rfl, h3, hz3, rfl⟩
  refine Wo ?_
  exact sf_ret (rO _ ⟨y3, z3, rfl, by omega, by omega, rfl⟩)
theorem medianAdjacent_f (h : PHeap) (v : Value) (xs : List Int) (s : Sl h v intF xs) (a : Nat) (ha : 1 ≤ a) (hb : a + 1 < xs.length) (hs : xs.length ≤ 1000000) (bs : Nat) (z : Int) (hz : 0 ≤ z ∧ z ≤ 900) :
    CallF Tryz.prog M 168 [v, .int .i64 (a : Int), .pointer (some ⟨bs, 0, none⟩)] (swA bs z) h fun u A => ∃ (x : Nat) (z' : Int), u = .int .i64 (x : Int) ∧ (a ≤ x + 1 ∧ x ≤ a + 1) ∧ (0 ≤ z' ∧ z' ≤ z + 3) ∧ A = swA bs z' := by
  have o := s.one
  obtain ⟨k, rfl⟩ : ∃ k, a = k + 1 := ⟨a - 1, by omega⟩
  refine Cs Tryz.func168 Tryz.ntmps168 ?_
  refine Wo ?_
  rw [show ((k + 1 : Nat) : Int) - 1 = (k : Int) by omega]
  refine fp (y_call (median_f (M := M) _ v xs s k (k + 1) (k + 1 + 1) (by omega) (by omega) (by omega) bs z (by omega)) (by rfl) ?_)
  rintro _ _ ⟨x1, z1, rfl, h1, hz1, rfl⟩
  refine Wo ?_
  exact sf_ret (rO _ ⟨x1, z1, rfl, by omega, by omega, rfl⟩)
theorem choosePivot_f (h : PHeap) (v : Value) (xs : List Int) (s : Sl h v intF xs) (a b : Nat) (hab : a < b) (hb : b ≤ xs.length) (hs : xs.length ≤ 1000000) :
    CallF Tryz.prog M 132 [v, .int .i64 (a : Int), .int .i64 (b : Int)] [] h fun u A => ∃ (p : Nat) (z : Int), u = .tuple #[.int .i64 (p : Int), .int .i64 z] ∧ (a ≤ p ∧ p < b) ∧ A = [] := by
  have o := s.one
  obtain ⟨n, rfl⟩ : ∃ n : Nat, b = a + n := ⟨b - a, by omega⟩
  refine Cs Tryz.func132 Tryz.ntmps132 ?_
  repeat first | refine R1 ?_ | refine R2 fun _ => ?_
  have e0 : ((a + n : Nat) : Int) - (a : Int) = (n : Int) := by omega
  rename_i bs
  rw [e0]
  rw [show (a : Int) + (n : Int) / 4 * 1 = ((a + n / 4 : Nat) : Int) by omega, show (a : Int) + (n : Int) / 4 * 2 = ((a + n / 4 * 2 : Nat) : Int) by omega, show (a : Int) + (n : Int) / 4 * 3 = ((a + n / 4 * 3 : Nat) : Int) by omega]
  apply viaT (G := ∀ (p : Nat) (z : Int), a ≤ p → p < a + n → _)
  · intro tail
    refine sf_if (fun h1 => ?_) fun h1 => ?_
    · repeat first | refine R1 ?_ | refine R2 fun _ => ?_
      apply viaT (G := ∀ (p1 p2 p3 : Nat) (z : Int), (a ≤ p1 ∧ p1 < a + n) → (a ≤ p2 ∧ p2 < a + n) → (a ≤ p3 ∧ p3 < a + n) → (0 ≤ z ∧ z ≤ 9) → _)
      · intro tail2
        refine sf_if (fun h2 => ?_) fun h2 => ?_
        · repeat first | refine R1 ?_ | refine R2 fun _ => ?_
          refine fp (y_call (medianAdjacent_f (M := M) _ v xs s (a + n / 4) (by omega) (by omega) hs bs 0 (by omega)) (by rfl) ?_)
          rintro _ _ ⟨p1, z1, rfl, k1, hz1, rfl⟩
          repeat first | refine R1 ?_ | refine R2 fun _ => ?_
          refine fp (y_call (medianAdjacent_f (M := M) _ v xs s (a + n / 4 * 2) (by omega) (by omega) hs bs z1 (by omega)) (by rfl) ?_)
          rintro _ _ ⟨p2, z2, rfl, k2, hz2, rfl⟩
          repeat first | refine R1 ?_ | refine R2 fun _ => ?_
          refine fp (y_call (medianAdjacent_f (M := M) _ v xs s (a + n / 4 * 3) (by omega) (by omega) hs bs z2 (by omega)) (by rfl) ?_)
          rintro _ _ ⟨p3, z3, rfl, k3, hz3, rfl⟩
          repeat first | refine R1 ?_ | refine R2 fun _ => ?_
          refine fops_keep [9, 44, 45, 46, 47] ?_
          refine fops_own (swA bs z3) ?_
          exact tail2.out p1 p2 p3 z3 (by omega) (by omega) (by omega) (by omega)
        · repeat first | refine R1 ?_ | refine R2 fun _ => ?_
          refine fops_keep [9, 44, 45, 46, 47] ?_
          refine fops_own (swA bs 0) ?_
          exact tail2.out (a + n / 4) (a + n / 4 * 2) (a + n / 4 * 3) 0 (by omega) (by omega) (by omega) (by omega)
      · intro p1 p2 p3 z k1 k2 k3 hz
        refine fp (y_call (median_f (M := M) _ v xs s p1 p2 p3 (by omega) (by omega) (by omega) bs z (by omega)) (by rfl) ?_)
        rintro _ _ ⟨p, z4, rfl, k4, hz4, rfl⟩
        repeat first | refine R1 ?_ | refine R2 fun _ => ?_
        show Code.sf _ _ _ _ _ _ _ _
        refine sf_keep [11, 49, 51] ?_
        refine sf_own (swA bs z4) ?_
        exact tail.out p z4 (by omega) (by omega)
    · repeat first | refine R1 ?_ | refine R2 fun _ => ?_
      show Code.sf _ _ _ _ _ _ _ _
      refine sf_keep [11, 49, 51] ?_
      refine sf_own (swA bs 0) ?_
      exact tail.out (a + n / 4 * 2) 0 (by omega) (by omega)
  · intro p z k1 k2
    refine sf_if (fun h1 => ?_) fun h1 => ?_
    · repeat first | refine R1 ?_ | refine R2 fun _ => ?_
      exact sf_ret (rO [] ⟨p, 1, rfl, by omega, rfl⟩)
    · repeat first | refine R1 ?_ | refine R2 fun _ => ?_
      refine sf_if (fun h1 => ?_) fun h1 => ?_
      · repeat first | refine R1 ?_ | refine R2 fun _ => ?_
        exact sf_ret (rO [] ⟨p, 2, rfl, by omega, rfl⟩)
      · repeat first | refine R1 ?_ | refine R2 fun _ => ?_
        exact sf_ret (rO [] ⟨p, 0, rfl, by omega, rfl⟩)
theorem partition_f (h : PHeap) (v : Value) (A : Own) (d : Array Int) (g : Gr A v 3 intF d.toList) (a b p : Nat) (hb : b ≤ d.size) (hs : d.size ≤ 1000000) (hab : a < b) (hp : a ≤ p ∧ p < b) :
    CallF Tryz.prog M 137 [v, .int .i64 (a : Int), .int .i64 (b : Int), .int .i64 (p : Int)] A h fun u A' => u = .tuple #[.int .i64 ((Sort.partition ltInt d a b p).1 : Int), .bool (Sort.partition ltInt d a b p).2.1] ∧ Gr A' v 3 intF (Sort.partition ltInt d a b p).2.2.toList := by
  have o := g.one
  have ld : d.toList.length = d.size := by simp
  obtain ⟨n, rfl⟩ : ∃ n : Nat, b = n + 1 := ⟨b - 1, by omega⟩
  refine Cs Tryz.func137 Tryz.ntmps137 ?_
  refine Wo ?_
  apply viaT (G := ∀ (B : Own), Gr B v 3 intF (swp d a p).toList → _)
  · intro tail
    refine sf_draw (by kernel_rfl) (regX_own (A) (regX_split 7 11 (by rfl) ?_ ?_))
    case' refine_1 =>
      refine Sw [[],[],[],[],[],[],[4,5],[4,5,6],[],[],[8,9],[4,5,6,7,8,9,10],[0,1,4,5,6,7,8,9,10,11],[0,1,4,5,6,7,8,9,10,11,12],[0,1,2,3,4,5,6,7,8,9,10,11,12,13],[0,1,2,3,4,5,6,7,8,9,10,11,12,13,14]] 14 [Nn 0,Nn 1,Nn 2,Nn 3,Nn 4,Nn 5,Nn 6,Nn 8,Nn 9,Nn 10,Yy 7,Yy 11,Nn 12,Yy 13] ?_
      refine Di ?_
      refine Yw (by rfl) (z_loadG (by rfl) g (by omega) (by rfl)) ?_
      refine Di ?_
      refine Yw (by rfl) (z_loadG (by rfl) g (by omega) (by rfl)) ?_
      refine Di ?_
      refine Yg g fun As ys hy hl fs gg => ?_
      refine Di ?_
      refine Ae ?_
    case' refine_2 =>
      refine Sw [[],[],[],[],[],[],[4,5],[4,5,6,8,9,10,11],[],[],[8,9],[8,9,10],[0,1,4,5,6,7,8,9,10,11],[0,1,4,5,6,7,8,9,10,11,12],[0,1,2,3,4,5,6,7,8,9,10,11,12,13],[0,1,2,3,4,5,6,7,8,9,10,11,12,13,14]] 14 [Nn 0,Nn 1,Nn 2,Nn 3,Nn 4,Nn 5,Nn 6,Nn 8,Nn 9,Nn 10,Yy 11,Yy 7,Nn 12,Yy 13] ?_
      refine Di ?_
      refine Yw (by rfl) (z_loadG (by rfl) g (by omega) (by rfl)) ?_
      refine Di ?_
      refine Yw (by rfl) (z_loadG (by rfl) g (by omega) (by rfl)) ?_
      refine Di ?_
      refine Yg g fun As ys hy hl fs gg => ?_
      refine Di ?_
      refine Ae ?_
    all_goals
      refine Wi ?_
      refine Xg gg fun At zs hz hlz fz gz => ?_
      refine Wi ?_
      rw [show (((n + 1 : Nat) : Int) - 1) = (n : Int) by omega]
      have hf : zs = (swp d a p).toList := swp_is hy hz (by omega) (by omega) (by omega) (by omega) (by omega) (by omega)
      rw [hf] at gz
      show Code.sf _ _ _ _ _ _ _ _
      refine sf_keep [0, 1, 10, 11] ?_
      refine sf_own At ?_
      exact tail.out At gz
  intro B ge
  obtain ⟨e, he⟩ : ∃ e, e = swp d a p := ⟨_, rfl⟩
  rw [← he] at ge
  have es : e.size = d.size := by rw [he, swp_size]
  have le : e.toList.length = e.size := by simp
  have ua : gt e.toList a = e[a]! := gt_arr (by omega)
  apply viaT (G := ∀ i : Nat, a + 1 ≤ i → i ≤ n + 2 → scanUp (fun x => ltInt x e[a]!) e n (a + 1) = i → _)
  · intro tail
    refine sf_lp (ι := Nat) [0, 1, 11] (fun x => [(10, .int .i64 (x : Int))]) (fun x O' => O' = B ∧ a + 1 ≤ x ∧ x ≤ n + 2 ∧ scanUp (fun x => ltInt x e[a]!) e n x = scanUp (fun x => ltInt x e[a]!) e n (a + 1)) (fun x => n + 2 - x) (a + 1) B ⟨rfl, by omega, by omega, rfl⟩ ?_
    rintro x _ ⟨rfl, hx0, hx1, hinv⟩
    by_cases h2 : x ≤ n
    · have h3 : (x : Int) ≤ ((n : Nat) : Int) := by omega
      have u1 : gt e.toList x = e[x]! := gt_arr (by omega)
      refine Wo ?_
      refine Sd [[],[],[0,1],[0,1,2],[0,1,2,3],[0,1,2,3],[0,1,2,3,4,5],[0,1,2,3,4,5,6],[0,1,2,3],[0,1,2,3],[0,1,2,3,8,9],[0,1,2,3,8,9,10],[0,1,2,3,4,5,6,7,8,9,10,11],[0,1,2,3,4,5,6,7,8,9,10,11,12]] 12 [Nn 0,Nn 1,Nn 2,Nn 3,Nn 4,Nn 5,Nn 6,Nn 7,Nn 8,Nn 9,Nn 10,Nn 11] ?_
      refine Di ?_
      refine Ae ?_
      refine Xv (less_v _ _ _) ?_
      refine Wo ?_
      rw [u1, ua]
      refine sf_if (fun h4 => ?_) fun h4 => ?_
      · refine Wo ?_
        exact ⟨x + 1, by omega, ⟨rfl, trivial⟩, rfl, _, _, inferInstance, rfl, by omega, by omega, by rw [← hinv]; exact (scanUp_go h2 (by simp only [ltInt_is]; simp [h4])).symm⟩
      · refine sf_exit ?_
        refine Wo ?_
        refine sf_keep [0, 1, 10, 11] ?_
        exact tail.out x (by omega) (by omega) (by rw [← hinv]; exact scanUp_stop (fun h => h4 (by simpa [ltInt_is] using h.2)))
    · have h3 : ¬ (x : Int) ≤ ((n : Nat) : Int) := by omega
      refine Wo ?_
      refine Sd [[],[],[0,1],[0,1,2],[0,1,2,3],[0,1,2,3],[0,1,2,3,4,5],[0,1,2,3,4,5,6],[0,1,2,3],[0,1,2,3],[0,1,2,3,8,9],[0,1,2,3,8,9,10],[0,1,2,3,4,5,6,7,8,9,10,11],[0,1,2,3,4,5,6,7,8,9,10,11,12]] 12 [Nn 0,Nn 1,Nn 2,Nn 3,Nn 4,Nn 5,Nn 6,Nn 7,Nn 8,Nn 9,Nn 10,Nn 11] ?_
      refine Di ?_
      refine Ae ?_
      refine Wo ?_
      refine sf_cond (by rfl) (fun e => by cases e) fun z1 => ?_
      clear z1
      refine sf_exit ?_
      refine Wo ?_
      refine sf_keep [0, 1, 10, 11] ?_
      exact tail.out x (by omega) (by omega) (by rw [← hinv]; exact scanUp_stop (fun h => h2 h.1))
  intro i hi0 hi1 hsu
  apply viaT (G := ∀ j : Nat, i ≤ j + 2 → a ≤ j → j ≤ n → scanDown (fun x => !ltInt x e[a]!) e i n = j → _)
  · intro tail
    refine sf_lp (ι := Nat) [0, 1, 10] (fun x => [(11, .int .i64 (x : Int))]) (fun x O' => O' = B ∧ i ≤ x + 2 ∧ a ≤ x ∧ x ≤ n ∧ scanDown (fun x => !ltInt x e[a]!) e i x = scanDown (fun x => !ltInt x e[a]!) e i (n)) (fun x => x) (n) B ⟨rfl, by omega, by omega, by omega, rfl⟩ ?_
    rintro x _ ⟨rfl, hx0, hx2, hx1, hinv⟩
    by_cases h2 : i ≤ x
    · obtain ⟨y, hy0⟩ : ∃ k, x = k + 1 := ⟨x - 1, by omega⟩
      have h3 : ((i : Nat) : Int) ≤ (x : Int) := by omega
      have u1 : gt e.toList x = e[x]! := gt_arr (by omega)
      refine Wo ?_
      refine Sd [[],[],[0,1],[0,1,2],[0,1,2,3],[0,1,2,3],[0,1,2,3,4,5],[0,1,2,3,4,5,6],[0,1,2,3],[0,1,2,3],[0,1,2,3,8,9],[0,1,2,3,8,9,10],[0,1,2,3,4,5,6,7,8,9,10,11],[0,1,2,3,4,5,6,7,8,9,10,11,12],[0,1,2,3,4,5,6,7,8,9,10,11,12,13]] 12 [Nn 0,Nn 1,Nn 2,Nn 3,Nn 4,Nn 5,Nn 6,Nn 7,Nn 8,Nn 9,Nn 10,Nn 11] ?_
      refine Di ?_
      refine Ae ?_
      refine Xv (less_v _ _ _) ?_
      refine Wo ?_
      rw [u1, ua]
      refine sf_ifn (fun h4 => ?_) fun h4 => ?_
      · refine Wo ?_
        subst hy0
        exact ⟨y, by omega, ⟨vI (show ((y + 1 : Nat) : Int) - 1 = (y : Int) by omega), trivial⟩, rfl, _, _, inferInstance, rfl, by omega, by omega, by omega, by rw [← hinv]; exact (scanDown_go h2 (by simp only [ltInt_is]; simp [h4])).symm⟩
      · refine sf_exit ?_
        refine Wo ?_
        (show Code.sf _ _ _ _ _ _ _ _; refine sf_keep [0, 1, 10, 11, 65] ?_)
        exact tail.out x (by omega) (by omega) (by omega) (by rw [← hinv]; exact scanDown_stop (fun h => absurd h4 (by simpa [ltInt_is] using h.2)))
    · have h3 : ¬ ((i : Nat) : Int) ≤ (x : Int) := by omega
      refine Wo ?_
      refine Sd [[],[],[0,1],[0,1,2],[0,1,2,3],[0,1,2,3],[0,1,2,3,4,5],[0,1,2,3,4,5,6],[0,1,2,3],[0,1,2,3],[0,1,2,3,8,9],[0,1,2,3,8,9,10],[0,1,2,3,4,5,6,7,8,9,10,11],[0,1,2,3,4,5,6,7,8,9,10,11,12],[0,1,2,3,4,5,6,7,8,9,10,11,12,13]] 12 [Nn 0,Nn 1,Nn 2,Nn 3,Nn 4,Nn 5,Nn 6,Nn 7,Nn 8,Nn 9,Nn 10,Nn 11] ?_
      refine Di ?_
      refine Ae ?_
      refine Wo ?_
      refine sf_cond (by rfl) (fun e => by cases e) fun z1 => ?_
      clear z1
      refine sf_exit ?_
      refine Wo ?_
      (show Code.sf _ _ _ _ _ _ _ _; refine sf_keep [0, 1, 10, 11, 65] ?_)
      exact tail.out x (by omega) (by omega) (by omega) (by rw [← hinv]; exact scanDown_stop (fun h => h2 h.1))
  intro j hj0 hj1 hj2 hsd
  refine sf_if (fun h1 => ?_) fun h1 => ?_
  · have hP := partition_A (b := n + 1) he hsu hsd (by omega)
    rw [hP]
    refine Wo ?_
    refine sf_draw (by kernel_rfl) (regX_own (B) (regX_split 7 11 (by rfl) ?_ ?_))
    case' refine_1 =>
      refine Sw [[],[],[],[],[],[],[4,5],[4,5,6],[],[],[8,9],[4,5,6,7,8,9,10],[0,1,4,5,6,7,8,9,10,11],[0,1,4,5,6,7,8,9,10,11,12],[0,1,2,3,4,5,6,7,8,9,10,11,12,13],[0,1,2,3,4,5,6,7,8,9,10,11,12,13,14]] 14 [Nn 0,Nn 1,Nn 2,Nn 3,Nn 4,Nn 5,Nn 6,Nn 8,Nn 9,Nn 10,Yy 7,Yy 11,Nn 12,Yy 13] ?_
      refine Di ?_
      refine Yw (by rfl) (z_loadG (by rfl) ge (by omega) (by rfl)) ?_
      refine Di ?_
      refine Yw (by rfl) (z_loadG (by rfl) ge (by omega) (by rfl)) ?_
      refine Di ?_
      refine Yg ge fun As ys hy hl fs gg => ?_
      refine Di ?_
      refine Ae ?_
    case' refine_2 =>
      refine Sw [[],[],[],[],[],[],[4,5],[4,5,6,8,9,10,11],[],[],[8,9],[8,9,10],[0,1,4,5,6,7,8,9,10,11],[0,1,4,5,6,7,8,9,10,11,12],[0,1,2,3,4,5,6,7,8,9,10,11,12,13],[0,1,2,3,4,5,6,7,8,9,10,11,12,13,14]] 14 [Nn 0,Nn 1,Nn 2,Nn 3,Nn 4,Nn 5,Nn 6,Nn 8,Nn 9,Nn 10,Yy 11,Yy 7,Nn 12,Yy 13] ?_
      refine Di ?_
      refine Yw (by rfl) (z_loadG (by rfl) ge (by omega) (by rfl)) ?_
      refine Di ?_
      refine Yw (by rfl) (z_loadG (by rfl) ge (by omega) (by rfl)) ?_
      refine Di ?_
      refine Yg ge fun As ys hy hl fs gg => ?_
      refine Di ?_
      refine Ae ?_
    all_goals
      refine Wi ?_
      refine Xg gg fun At zs hz hlz fz gz => ?_
      refine Wi ?_
      have hf : zs = (swp e j a).toList := swp_is hy hz (by omega) (by omega) (by omega) (by omega) (by omega) (by omega)
      rw [hf] at gz
      exact sf_ret (rO At ⟨rfl, gz⟩)
  have hB := fun r hr => partition_B (b := n + 1) he hsu hsd (by omega) (r := r) hr
  obtain ⟨j, rfl⟩ : ∃ k, j = k + 1 := ⟨j - 1, by omega⟩
  simp only [Nat.add_sub_cancel] at hB
  refine Wo ?_
  apply viaT (G := ∀ (B2 : Own), Gr B2 v 3 intF (swp e i (j + 1)).toList → _)
  · intro tail
    refine sf_draw (by kernel_rfl) (regX_own (B) (regX_split 7 11 (by rfl) ?_ ?_))
    case' refine_1 =>
      refine Sw [[],[],[],[],[],[],[4,5],[4,5,6],[],[],[8,9],[4,5,6,7,8,9,10],[0,1,4,5,6,7,8,9,10,11],[0,1,4,5,6,7,8,9,10,11,12],[0,1,2,3,4,5,6,7,8,9,10,11,12,13],[0,1,2,3,4,5,6,7,8,9,10,11,12,13,14]] 14 [Nn 0,Nn 1,Nn 2,Nn 3,Nn 4,Nn 5,Nn 6,Nn 8,Nn 9,Nn 10,Yy 7,Yy 11,Nn 12,Yy 13] ?_
      refine Di ?_
      refine Yw (by rfl) (z_loadG (by rfl) ge (by omega) (by rfl)) ?_
      refine Di ?_
      refine Yw (by rfl) (z_loadG (by rfl) ge (by omega) (by rfl)) ?_
      refine Di ?_
      refine Yg ge fun As ys hy hl fs gg => ?_
      refine Di ?_
      refine Ae ?_
    case' refine_2 =>
      refine Sw [[],[],[],[],[],[],[4,5],[4,5,6,8,9,10,11],[],[],[8,9],[8,9,10],[0,1,4,5,6,7,8,9,10,11],[0,1,4,5,6,7,8,9,10,11,12],[0,1,2,3,4,5,6,7,8,9,10,11,12,13],[0,1,2,3,4,5,6,7,8,9,10,11,12,13,14]] 14 [Nn 0,Nn 1,Nn 2,Nn 3,Nn 4,Nn 5,Nn 6,Nn 8,Nn 9,Nn 10,Yy 11,Yy 7,Nn 12,Yy 13] ?_
      refine Di ?_
      refine Yw (by rfl) (z_loadG (by rfl) ge (by omega) (by rfl)) ?_
      refine Di ?_
      refine Yw (by rfl) (z_loadG (by rfl) ge (by omega) (by rfl)) ?_
      refine Di ?_
      refine Yg ge fun As ys hy hl fs gg => ?_
      refine Di ?_
      refine Ae ?_
    all_goals
      refine Wi ?_
      refine Xg gg fun At zs hz hlz fz gz => ?_
      refine Wi ?_
      rw [show (((j + 1 : Nat) : Int) - 1) = (j : Int) by omega]
      have hf : zs = (swp e i (j + 1)).toList := swp_is hy hz (by omega) (by omega) (by omega) (by omega) (by omega) (by omega)
      rw [hf] at gz
      show Code.sf _ _ _ _ _ _ _ _
      refine sf_keep [0, 1, 10, 11] ?_
      refine sf_own At ?_
      exact tail.out At gz
  intro B2 ge2
  obtain ⟨e2, he2⟩ : ∃ e2, e2 = swp e i (j + 1) := ⟨_, rfl⟩
  rw [← he2] at ge2
  have e2s : e2.size = e.size := by rw [he2, swp_size]
  rw [← he2] at hB
  refine sf_lp (ι := Nat × Nat × Array Int) [0, 1] (fun x => [(10, .int .i64 (x.1 : Int)), (11, .int .i64 (x.2.1 : Int))]) (fun x O => Gr O v 3 intF x.2.2.toList ∧ x.2.2.size = d.size ∧ a + 1 ≤ x.1 ∧ x.1 ≤ x.2.1 + 2 ∧ a ≤ x.2.1 ∧ x.2.1 ≤ n ∧ partLoop ltInt a x.1 x.2.1 x.2.2 = partLoop ltInt a (i + 1) j e2) (fun x => x.2.1 + 2 - x.1) (i + 1, j, e2) B2 ⟨ge2, by simp only; omega, by simp only; omega, by simp only; omega, by simp only; omega, by simp only; omega, rfl⟩ ?_
  rintro ⟨i3, j3, f⟩ O3 ⟨gf, fsz, k1, k2, k3, k4, finv⟩
  simp only at gf fsz k1 k2 k3 k4 finv ⊢
  have lf : f.toList.length = f.size := by simp
  have uf : gt f.toList a = f[a]! := gt_arr (by omega)
  refine Wo ?_
  apply viaT (G := ∀ i : Nat, i3 ≤ i → i ≤ j3 + 2 → scanUp (fun x => ltInt x f[a]!) f j3 i3 = i → _)
  · intro tail
    refine sf_lp (ι := Nat) [0, 1, 11] (fun x => [(10, .int .i64 (x : Int))]) (fun x O' => O' = O3 ∧ i3 ≤ x ∧ x ≤ j3 + 2 ∧ scanUp (fun x => ltInt x f[a]!) f j3 x = scanUp (fun x => ltInt x f[a]!) f j3 (i3)) (fun x => j3 + 2 - x) (i3) O3 ⟨rfl, by omega, by omega, rfl⟩ ?_
    rintro x _ ⟨rfl, hx0, hx1, hinv⟩
    by_cases h2 : x ≤ j3
    · have h3 : (x : Int) ≤ ((j3 : Nat) : Int) := by omega
      have u1 : gt f.toList x = f[x]! := gt_arr (by omega)
      refine Wo ?_
      refine Sd [[],[],[0,1],[0,1,2],[0,1,2,3],[0,1,2,3],[0,1,2,3,4,5],[0,1,2,3,4,5,6],[0,1,2,3],[0,1,2,3],[0,1,2,3,8,9],[0,1,2,3,8,9,10],[0,1,2,3,4,5,6,7,8,9,10,11],[0,1,2,3,4,5,6,7,8,9,10,11,12]] 12 [Nn 0,Nn 1,Nn 2,Nn 3,Nn 4,Nn 5,Nn 6,Nn 7,Nn 8,Nn 9,Nn 10,Nn 11] ?_
      refine Di ?_
      refine Ae ?_
      refine Xv (less_v _ _ _) ?_
      refine Wo ?_
      rw [u1, uf]
      refine sf_if (fun h4 => ?_) fun h4 => ?_
      · refine Wo ?_
        exact ⟨x + 1, by omega, ⟨rfl, trivial⟩, rfl, _, _, inferInstance, rfl, by omega, by omega, by rw [← hinv]; exact (scanUp_go h2 (by simp only [ltInt_is]; simp [h4])).symm⟩
      · refine sf_exit ?_
        refine Wo ?_
        refine sf_keep [0, 1, 10, 11] ?_
        exact tail.out x (by omega) (by omega) (by rw [← hinv]; exact scanUp_stop (fun h => h4 (by simpa [ltInt_is] using h.2)))
    · have h3 : ¬ (x : Int) ≤ ((j3 : Nat) : Int) := by omega
      refine Wo ?_
      refine Sd [[],[],[0,1],[0,1,2],[0,1,2,3],[0,1,2,3],[0,1,2,3,4,5],[0,1,2,3,4,5,6],[0,1,2,3],[0,1,2,3],[0,1,2,3,8,9],[0,1,2,3,8,9,10],[0,1,2,3,4,5,6,7,8,9,10,11],[0,1,2,3,4,5,6,7,8,9,10,11,12]] 12 [Nn 0,Nn 1,Nn 2,Nn 3,Nn 4,Nn 5,Nn 6,Nn 7,Nn 8,Nn 9,Nn 10,Nn 11] ?_
      refine Di ?_
      refine Ae ?_
      refine Wo ?_
      refine sf_cond (by rfl) (fun e => by cases e) fun z1 => ?_
      clear z1
      refine sf_exit ?_
      refine Wo ?_
      refine sf_keep [0, 1, 10, 11] ?_
      exact tail.out x (by omega) (by omega) (by rw [← hinv]; exact scanUp_stop (fun h => h2 h.1))
  intro i4 hi4 hi5 hsu4
  apply viaT (G := ∀ j : Nat, i4 ≤ j + 2 → a ≤ j → j ≤ j3 → scanDown (fun x => !ltInt x f[a]!) f i4 j3 = j → _)
  · intro tail
    refine sf_lp (ι := Nat) [0, 1, 10] (fun x => [(11, .int .i64 (x : Int))]) (fun x O' => O' = O3 ∧ i4 ≤ x + 2 ∧ a ≤ x ∧ x ≤ j3 ∧ scanDown (fun x => !ltInt x f[a]!) f i4 x = scanDown (fun x => !ltInt x f[a]!) f i4 (j3)) (fun x => x) (j3) O3 ⟨rfl, by omega, by omega, by omega, rfl⟩ ?_
    rintro x _ ⟨rfl, hx0, hx2, hx1, hinv⟩
    by_cases h2 : i4 ≤ x
    · obtain ⟨y, hy0⟩ : ∃ k, x = k + 1 := ⟨x - 1, by omega⟩
      have h3 : ((i4 : Nat) : Int) ≤ (x : Int) := by omega
      have u1 : gt f.toList x = f[x]! := gt_arr (by omega)
      refine Wo ?_
      refine Sd [[],[],[0,1],[0,1,2],[0,1,2,3],[0,1,2,3],[0,1,2,3,4,5],[0,1,2,3,4,5,6],[0,1,2,3],[0,1,2,3],[0,1,2,3,8,9],[0,1,2,3,8,9,10],[0,1,2,3,4,5,6,7,8,9,10,11],[0,1,2,3,4,5,6,7,8,9,10,11,12],[0,1,2,3,4,5,6,7,8,9,10,11,12,13]] 12 [Nn 0,Nn 1,Nn 2,Nn 3,Nn 4,Nn 5,Nn 6,Nn 7,Nn 8,Nn 9,Nn 10,Nn 11] ?_
      refine Di ?_
      refine Ae ?_
      refine Xv (less_v _ _ _) ?_
      refine Wo ?_
      rw [u1, uf]
      refine sf_ifn (fun h4 => ?_) fun h4 => ?_
      · refine Wo ?_
        subst hy0
        exact ⟨y, by omega, ⟨vI (show ((y + 1 : Nat) : Int) - 1 = (y : Int) by omega), trivial⟩, rfl, _, _, inferInstance, rfl, by omega, by omega, by omega, by rw [← hinv]; exact (scanDown_go h2 (by simp only [ltInt_is]; simp [h4])).symm⟩
      · refine sf_exit ?_
        refine Wo ?_
        (show Code.sf _ _ _ _ _ _ _ _; refine sf_keep [0, 1, 10, 11, 134] ?_)
        exact tail.out x (by omega) (by omega) (by omega) (by rw [← hinv]; exact scanDown_stop (fun h => absurd h4 (by simpa [ltInt_is] using h.2)))
    · have h3 : ¬ ((i4 : Nat) : Int) ≤ (x : Int) := by omega
      refine Wo ?_
      refine Sd [[],[],[0,1],[0,1,2],[0,1,2,3],[0,1,2,3],[0,1,2,3,4,5],[0,1,2,3,4,5,6],[0,1,2,3],[0,1,2,3],[0,1,2,3,8,9],[0,1,2,3,8,9,10],[0,1,2,3,4,5,6,7,8,9,10,11],[0,1,2,3,4,5,6,7,8,9,10,11,12],[0,1,2,3,4,5,6,7,8,9,10,11,12,13]] 12 [Nn 0,Nn 1,Nn 2,Nn 3,Nn 4,Nn 5,Nn 6,Nn 7,Nn 8,Nn 9,Nn 10,Nn 11] ?_
      refine Di ?_
      refine Ae ?_
      refine Wo ?_
      refine sf_cond (by rfl) (fun e => by cases e) fun z1 => ?_
      clear z1
      refine sf_exit ?_
      refine Wo ?_
      (show Code.sf _ _ _ _ _ _ _ _; refine sf_keep [0, 1, 10, 11, 134] ?_)
      exact tail.out x (by omega) (by omega) (by omega) (by rw [← hinv]; exact scanDown_stop (fun h => h2 h.1))
  intro j4 hj4 hj5 hj6 hsd4
  obtain ⟨s1, s2⟩ := partLoop_step hsu4 hsd4 hi4 hj6
  refine sf_if (fun h5 => ?_) fun h5 => ?_
  · refine sf_exit ?_
    have hP := hB _ (finv.symm.trans (s1 (by omega)))
    rw [hP]
    refine Wo ?_
    refine sf_draw (by kernel_rfl) (regX_own (O3) (regX_split 7 11 (by rfl) ?_ ?_))
    case' refine_1 =>
      refine Sw [[],[],[],[],[],[],[4,5],[4,5,6],[],[],[8,9],[4,5,6,7,8,9,10],[0,1,4,5,6,7,8,9,10,11],[0,1,4,5,6,7,8,9,10,11,12],[0,1,2,3,4,5,6,7,8,9,10,11,12,13],[0,1,2,3,4,5,6,7,8,9,10,11,12,13,14]] 14 [Nn 0,Nn 1,Nn 2,Nn 3,Nn 4,Nn 5,Nn 6,Nn 8,Nn 9,Nn 10,Yy 7,Yy 11,Nn 12,Yy 13] ?_
      refine Di ?_
      refine Yw (by rfl) (z_loadG (by rfl) gf (by omega) (by rfl)) ?_
      refine Di ?_
      refine Yw (by rfl) (z_loadG (by rfl) gf (by omega) (by rfl)) ?_
      refine Di ?_
      refine Yg gf fun As ys hy hl fs gg => ?_
      refine Di ?_
      refine Ae ?_
    case' refine_2 =>
      refine Sw [[],[],[],[],[],[],[4,5],[4,5,6,8,9,10,11],[],[],[8,9],[8,9,10],[0,1,4,5,6,7,8,9,10,11],[0,1,4,5,6,7,8,9,10,11,12],[0,1,2,3,4,5,6,7,8,9,10,11,12,13],[0,1,2,3,4,5,6,7,8,9,10,11,12,13,14]] 14 [Nn 0,Nn 1,Nn 2,Nn 3,Nn 4,Nn 5,Nn 6,Nn 8,Nn 9,Nn 10,Yy 11,Yy 7,Nn 12,Yy 13] ?_
      refine Di ?_
      refine Yw (by rfl) (z_loadG (by rfl) gf (by omega) (by rfl)) ?_
      refine Di ?_
      refine Yw (by rfl) (z_loadG (by rfl) gf (by omega) (by rfl)) ?_
      refine Di ?_
      refine Yg gf fun As ys hy hl fs gg => ?_
      refine Di ?_
      refine Ae ?_
    all_goals
      refine Wi ?_
      refine Xg gg fun At zs hz hlz fz gz => ?_
      refine Wi ?_
      have hf : zs = (swp f j4 a).toList := swp_is hy hz (by omega) (by omega) (by omega) (by omega) (by omega) (by omega)
      rw [hf] at gz
      exact sf_ret (rO At ⟨rfl, gz⟩)
  obtain ⟨j4, rfl⟩ : ∃ k, j4 = k + 1 := ⟨j4 - 1, by omega⟩
  have s3 := s2 (by omega) (by omega)
  refine Wo ?_
  refine sf_draw (by kernel_rfl) (regX_own (O3) (regX_split 7 11 (by rfl) ?_ ?_))
  case' refine_1 =>
    refine Sw [[],[],[],[],[],[],[4,5],[4,5,6],[],[],[8,9],[4,5,6,7,8,9,10],[0,1,4,5,6,7,8,9,10,11],[0,1,4,5,6,7,8,9,10,11,12],[0,1,2,3,4,5,6,7,8,9,10,11,12,13],[0,1,2,3,4,5,6,7,8,9,10,11,12,13,14]] 14 [Nn 0,Nn 1,Nn 2,Nn 3,Nn 4,Nn 5,Nn 6,Nn 8,Nn 9,Nn 10,Yy 7,Yy 11,Nn 12,Yy 13] ?_
    refine Di ?_
    refine Yw (by rfl) (z_loadG (by rfl) gf (by omega) (by rfl)) ?_
    refine Di ?_
    refine Yw (by rfl) (z_loadG (by rfl) gf (by omega) (by rfl)) ?_
    refine Di ?_
    refine Yg gf fun As ys hy hl fs gg => ?_
    refine Di ?_
    refine Ae ?_
  case' refine_2 =>
    refine Sw [[],[],[],[],[],[],[4,5],[4,5,6,8,9,10,11],[],[],[8,9],[8,9,10],[0,1,4,5,6,7,8,9,10,11],[0,1,4,5,6,7,8,9,10,11,12],[0,1,2,3,4,5,6,7,8,9,10,11,12,13],[0,1,2,3,4,5,6,7,8,9,10,11,12,13,14]] 14 [Nn 0,Nn 1,Nn 2,Nn 3,Nn 4,Nn 5,Nn 6,Nn 8,Nn 9,Nn 10,Yy 11,Yy 7,Nn 12,Yy 13] ?_
    refine Di ?_
    refine Yw (by rfl) (z_loadG (by rfl) gf (by omega) (by rfl)) ?_
    refine Di ?_
    refine Yw (by rfl) (z_loadG (by rfl) gf (by omega) (by rfl)) ?_
    refine Di ?_
    refine Yg gf fun As ys hy hl fs gg => ?_
    refine Di ?_
    refine Ae ?_
  all_goals
    refine Wi ?_
    refine Xg gg fun At zs hz hlz fz gz => ?_
    refine Wi ?_
    rw [show (((j4 + 1 : Nat) : Int) - 1) = (j4 : Int) by omega]
    have hf : zs = (swp f i4 (j4 + 1)).toList := swp_is hy hz (by omega) (by omega) (by omega) (by omega) (by omega) (by omega)
    rw [hf] at gz
    exact ⟨(i4 + 1, j4, swp f i4 (j4 + 1)), by simp only; omega, ⟨rfl, rfl, trivial⟩, rfl, _, _, inferInstance, gz, by simp only [swp_size]; exact fsz, by simp only; omega, by simp only; omega, by simp only; omega, by simp only; omega, by simp only; rw [← finv, s3]; rfl⟩
end Go.Proofs.YtcpkcmgjfcbnpaaGreat

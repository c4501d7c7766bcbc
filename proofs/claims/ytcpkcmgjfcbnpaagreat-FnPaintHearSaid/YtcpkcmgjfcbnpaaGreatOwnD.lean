/- Walks of the seat: SJ TA TB SK TC SE TD TE TF Y2. -/
import Derived.Test.YtcpkcmgjfcbnpaaGreatOwnC
import Derived.Test.YtcpkcmgjfcbnpaaGreatLibG
import Derived.Test.YtcpkcmgjfcbnpaaGreatLibC
import Derived.Test.YtcpkcmgjfcbnpaaGreatLibI
set_option linter.unusedVariables false
set_option linter.unusedSimpArgs false
set_option linter.unusedSectionVars false
namespace Go.Proofs.YtcpkcmgjfcbnpaaGreat
open Go Go.Sl
set_option maxRecDepth 100000
set_option maxHeartbeats 4000000
attribute [local irreducible] Go.Code.sf sfOps Opq opo retF Do1 anyO
variable {M : Jdg → Prop} [IsCl Tryz.prog M]
instance elemF_ints_SJ : ElemF Tryz.prog 26 (rawF (intSR τ).sz) := ⟨trivial⟩
theorem l13Look_f (h : PHeap) (c : Value) (g : Grid) (s : Sl h c cellF g.cells) (e : gridOk g = true) (l f : Value) (A2 A3 : Own) (ls : List Int) (fs : List (List Int)) (gl : Gr A2 l 3 intF ls) (gf : GrR (intSR τ) A3 f 26 fs) (k : Nat) (hk : (k : Int) < manyOf g) (hl : k < ls.length) (hf : k < fs.length) :
    CallF Tryz.prog M 97 [.agg #[.int .i64 g.wide, c, l, f], .int .i64 (k : Int)] (A2 ++ A3) h fun u A => ∃ A2' A3', u = .agg #[.int .i64 g.wide, c, l, f] ∧ A = A2' ++ A3' ∧ Gr A2' l 3 intF (ls.set k (trailLight g k)) ∧ GrR (intSR τ) A3' f 26 (fs.set k (footOf g k)) := by
  have o1 := s.one
  have o2 := gl.one
  have o3 := gf.one
  have kg := gok e
  have hsm := kg.small
  obtain ⟨sz, vs, es, hc, hg, hsz, hok⟩ := goLight_is kg (j := (k : Int)) (by omega) hk
  have hle := hok.le
  have hlv := hok.lv
  have hes : ∀ e ∈ es, EndOk g 64 e := hok.es
  have hvs : ∀ v ∈ vs, 0 ≤ v.at' ∧ v.at' < g.cells.length := fun v hv => ⟨(hok.vs v hv).a0, (hok.vs v hv).a1⟩
  simp only at hle hlv
  obtain ⟨F0, F1, rfl, rs, gr, oa, hb⟩ := gf
  have hr := oa.len
  refine Cs Tryz.func97 Tryz.ntmps97 ?_
  repeat first | refine R1 ?_ | refine R2 fun _ => ?_
  rename_i b2 b4
  refine fp (y_call (l11Go_f (M := M) _ c g s kg (k : Int) ⟨by omega, hk⟩) (by rfl) ?_)
  rintro _ _ ⟨b5, rfl, vv, ev, AV, AE, rfl, gv, ge⟩
  rw [hg] at gv ge
  simp only at gv ge
  have o4 := gv.one
  have o5 := ge.one
  have htl : trailLight g (k : Int) = lightOf g es := by rw [trailLight, hg]
  have hft : footOf g (k : Int) = footIs g vs := by rw [footOf, hg]
  rw [htl, hft]
  clear hc hg
  repeat first | refine R1 ?_ | refine R2 fun _ => ?_
  refine sf_draw (by kernel_rfl) (regX_own (AE) (Sw [[],[0],[],[],[3],[],[5],[5,6],[5,6,7],[3,4,5,6,7,8],[0,1,2,3,4,5,6,7,8,9],[0,1,2,3,4,5,6,7,8,9,10]] 10 [Nn 0,Nn 1,Nn 2,Nn 3,Nn 4,Nn 5,Nn 6,Nn 7,Nn 8,Yy 9] ?_))
  refine Da ?_
  refine Yc (lendV AE fun h' l i => l11Light_v (M := M) h' c g (s.le l.le) kg ev es (ge.lent (by omega) i) hes (by omega)) ?_
  rintro _ _ ⟨rfl, rfl⟩
  refine Da ?_
  refine Ae ?_
  repeat first | refine R1 ?_ | refine R2 fun _ => ?_
  refine Xg gl fun A5 ys hy hly fv g5 => ?_
  repeat first | refine R1 ?_ | refine R2 fun _ => ?_
  refine sf_draw (by kernel_rfl) (regX_own (AV) (Sw [[],[0],[],[],[3],[],[5],[5,6],[5,6,7],[3,4,5,6,7,8],[0,1,2,3,4,5,6,7,8,9],[0,1,2,3,4,5,6,7,8,9,10]] 10 [Nn 0,Nn 1,Nn 2,Nn 3,Nn 4,Nn 5,Nn 6,Nn 7,Nn 8,Yy 9] ?_))
  refine Da ?_
  refine Yc (lendF AV fun h' l i => l11Foot_f (M := M) h' c g (s.le l.le) kg vv vs (gv.lent (by omega) i) hvs) ?_
  rintro w _ ⟨AW, rfl, gw⟩
  have o6 := gw.one
  refine Da ?_
  refine Ae ?_
  repeat first | refine R1 ?_ | refine R2 fun _ => ?_
  refine Xg gr fun A6 zs hz hlz fz g6 => ?_
  repeat first | refine R1 ?_ | refine R2 fun _ => ?_
  obtain ⟨B1, Bk, B2, rfl, q1, q2⟩ := oa.at hf
  have q3 := q2 AW ⟨[w], rfl⟩ (footIs g vs) ⟨w, rfl, gw, by have := footIs_len g vs; omega⟩
  rw [hy] at g5
  rw [hz] at g6
  exact sf_ret (rO (A5 ++ (A6 ++ (B1 ++ (AW ++ B2)))) ⟨A5, A6 ++ (B1 ++ (AW ++ B2)), rfl, rfl, g5, A6, _, rfl, _, g6, q3, by simp; omega⟩)
theorem l21None_v (h : PHeap) (ca : List Value) (s : Scene) (b : (sceneR τ).B h ca s) : CallV Tryz.prog M 40 [.agg ca.toArray] h (.bool (decide (s = noScene))) := by
  obtain ⟨c, l, f, rfl, s1, s2, s3⟩ := sceneB b
  have o1 := s1.one
  have o2 := s2.one
  have o3 := s3.one
  obtain ⟨rs, s3, bs⟩ := s3
  have lb := bs.len
  have key : decide (s = noScene) = (decide (s.grid.wide = 0) && decide ((s.grid.cells.length : Int) = 0) && decide ((s.lights.length : Int) = 0) && decide ((rs.length : Int) = 0)) := by
    obtain ⟨⟨w, cs⟩, ls, fs⟩ := s
    simp only at lb
    simp only [noScene, noGrid, Scene.mk.injEq, Grid.mk.injEq]
    rw [lb]
    by_cases h1 : w = 0 <;> by_cases h2 : cs = [] <;> by_cases h3 : ls = [] <;> by_cases h4 : fs = [] <;> simp [h1, h2, h3, h4]
  rw [key]
  refine Cs Tryz.func40 Tryz.ntmps40 ?_
  repeat first | refine R1 ?_ | refine R2 fun _ => ?_
  refine f_split (fun h1 => ?_) fun h1 => ?_
  · repeat first | refine R1 ?_ | refine R2 fun _ => ?_
    refine f_split (fun h2 => ?_) fun h2 => ?_
    · repeat first | refine R1 ?_ | refine R2 fun _ => ?_
      refine f_split (fun h3 => ?_) fun h3 => ?_
      · repeat first | refine R1 ?_ | refine R2 fun _ => ?_
        refine sf_ret (rV ?_)
        simp [h1, h2, h3]
      · have h3' : ¬ s.lights = [] := fun e => h3 (by rw [e]; rfl)
        repeat first | refine R1 ?_ | refine R2 fun _ => ?_
        refine sf_ret (rV ?_)
        simp [h3']
    · have h2' : ¬ s.grid.cells = [] := fun e => h2 (by rw [e]; rfl)
      repeat first | refine R1 ?_ | refine R2 fun _ => ?_
      refine sf_ret (rV ?_)
      simp [h2']
  · repeat first | refine R1 ?_ | refine R2 fun _ => ?_
    refine sf_ret (rV ?_)
    simp [h1]
theorem scene_step {xs : List (List Int)} {k : Nat} (h : k < xs.length) : (xs.take k ++ List.replicate (xs.length - k) []).set k (gt xs k) = xs.take (k + 1) ++ List.replicate (xs.length - (k + 1)) [] := set_step h
theorem nils_all (n : Nat) : OAll (intSR τ) [] (List.replicate n ⟨[.slice none 0 0], rfl⟩) (List.replicate n []) := by
  induction n with
  | zero => exact .nil
  | succ n ih => exact .cons (A := []) ⟨_, rfl, Gr.nil _ _, by simp⟩ ih
theorem sSceneNew_f (h : PHeap) (ca : List Value) (g : Grid) (b : (gridR τ).B h ca g) : CallF Tryz.prog M 64 [.agg ca.toArray] [] h fun u A => ∃ cs, u = .tuple #[.agg cs.toArray, .bool (sceneNew g).2] ∧ (sceneR τ).O A cs (sceneNew g).1 := by
  have b0 := b
  obtain ⟨c, rfl, s⟩ := gridB b
  have o1 := s.one
  have hN : (sceneR τ).O [] [.int .i64 0, .slice none 0 0, .slice none 0 0, .slice none 0 0] noScene := sceneO_mk (s := noScene) (Gr.nil _ _) (by decide) (Gr.nil _ _) (by decide) (GrR.nil)
  refine Cs Tryz.func64 Tryz.ntmps64 ?_
  repeat first | refine R1 ?_ | refine R2 fun _ => ?_
  refine Xv (sGridOk_v _ _ g ⟨c, rfl, s⟩) ?_
  repeat first | refine R1 ?_ | refine R2 fun _ => ?_
  refine sf_cond (by rfl) (fun e => ?_) fun e => ?_
  · simp only [Bool.not_eq_true'] at e
    repeat first | refine R1 ?_ | refine R2 fun _ => ?_
    rw [sceneNew, if_neg (by rw [e]; decide)]
    exact sf_ret (rO [] ⟨_, rfl, hN⟩)
  simp only [Bool.not_eq_false'] at e
  rw [sceneNew, if_pos e]
  clear hN
  have kg := gok e
  have hm := kg.many
  have hsm := kg.small
  obtain ⟨N, hN⟩ : ∃ N : Nat, manyOf g = N := ⟨(manyOf g).toNat, by omega⟩
  have lp : (picOf g).length = N := by rw [picOf_len, hN]; simp
  have lf : (feetOf g).length = N := by rw [feetOf_len, hN]; simp
  repeat first | refine R1 ?_ | refine R2 fun _ => ?_
  refine Xv (l3Many_v (M := M) _ c g s kg) ?_
  rw [hN]
  repeat first | refine R1 ?_ | refine R2 fun _ => ?_
  rename_i b1 b2
  apply viaT (G := ∀ (c2 l f : Value) (AC AL AF : Own) (b5 : Nat), Gr AC c2 35 cellF g.cells → Gr AL l 3 intF (List.replicate N 0) → Gr AF f 26 (rawF (intSR τ).sz) (List.replicate N ⟨[.slice none 0 0], rfl⟩) → _)
  · intro tail
    refine sf_draw (by kernel_rfl) (regX_split 1 3 (by rfl) (regX_split 1 5 (by rfl) (regX_split 1 7 (by rfl) (regX_split 3 5 (by rfl) (regX_split 3 7 (by rfl) (regX_split 5 7 (by rfl) ?_ ?_) ?_) (regX_split 3 7 (by rfl) ?_ (regX_split 5 7 (by rfl) ?_ ?_))) (regX_split 3 5 (by rfl) ?_ ?_)) (regX_split 1 7 (by rfl) (regX_split 3 7 (by rfl) ?_ ?_) (regX_split 5 7 (by rfl) ?_ ?_))) (regX_split 1 5 (by rfl) (regX_split 1 7 (by rfl) (regX_split 5 7 (by rfl) ?_ ?_) (regX_split 3 7 (by rfl) ?_ ?_)) (regX_split 1 7 (by rfl) (regX_split 3 5 (by rfl) ?_ ?_) (regX_split 3 5 (by rfl) (regX_split 3 7 (by rfl) (regX_split 5 7 (by rfl) ?_ ?_) ?_) (regX_split 3 7 (by rfl) ?_ (regX_split 5 7 (by rfl) ?_ ?_))))))
    case' refine_1 =>
      refine Sr [[],[0],[],[0,1,2],[],[0,1,2,3,4],[0,1,2,3,4,5],[0,1,2,3,4,5],[0,1,2,3,4,5,6,7]] 8 [Nn 0,Nn 2,Nn 4,Yy 1,Yy 3,Yy 5,Nn 6,Yy 7] ?_
      refine Da ?_
      refine Yc (l1Copy_f (M := M) _ _ g (gridB_mk s) (by omega)) ?_
      rintro _ AC ⟨_, rfl, q⟩
      obtain ⟨c2, rfl, g1, l1⟩ := gridO q
      have o5 := g1.one
      refine Da ?_
      refine Ym fun l AL g2 => ?_
      have o6 := g2.one
      refine Da ?_
      refine Ym fun f AF g3 => ?_
      have o7 := g3.one
      refine Da ?_
      refine Yl fun b5 => ?_
      refine Da ?_
      refine Ae ?_
      repeat first | refine R1 ?_ | refine R2 fun _ => ?_
      refine sf_keep [2, 4, 5, 6] ?_
      refine sf_own ((b5, .cells #[.int .i64 g.wide, c2, l, f] 29) :: (AC ++ (AL ++ (AF ++ [(b2, .cells #[.int .i64 0, .slice none 0 0, .slice none 0 0, .slice none 0 0] 29), (b1, .cells #[.int .i64 g.wide, c] 25)])))) ?_
      exact tail.out c2 l f AC AL AF b5 g1 g2 g3
    case' refine_2 =>
      refine Sr [[],[0],[],[0,1,2],[],[0,1,2,3,4,7],[0,1,2,3,4,5,7],[0,1,2,3],[0,1,2,3,4,5,6,7]] 8 [Nn 0,Nn 2,Nn 4,Yy 1,Yy 3,Yy 7,Yy 5,Nn 6] ?_
      refine Da ?_
      refine Yc (l1Copy_f (M := M) _ _ g (gridB_mk s) (by omega)) ?_
      rintro _ AC ⟨_, rfl, q⟩
      obtain ⟨c2, rfl, g1, l1⟩ := gridO q
      have o5 := g1.one
      refine Da ?_
      refine Ym fun l AL g2 => ?_
      have o6 := g2.one
      refine Da ?_
      refine Yl fun b5 => ?_
      refine Da ?_
      refine Ym fun f AF g3 => ?_
      have o7 := g3.one
      refine Da ?_
      refine Ae ?_
      repeat first | refine R1 ?_ | refine R2 fun _ => ?_
      refine sf_keep [2, 4, 5, 6] ?_
      refine sf_own ((b5, .cells #[.int .i64 g.wide, c2, l, f] 29) :: (AC ++ (AL ++ (AF ++ [(b2, .cells #[.int .i64 0, .slice none 0 0, .slice none 0 0, .slice none 0 0] 29), (b1, .cells #[.int .i64 g.wide, c] 25)])))) ?_
      exact tail.out c2 l f AC AL AF b5 g1 g2 g3
    case' refine_3 =>
      refine Sr [[],[0],[],[0,1,2,7],[],[0,1,2,3,4,7],[0,1,2,3,4,5,7],[0,1],[0,1,2,3,4,5,6,7]] 8 [Nn 0,Nn 2,Nn 4,Yy 1,Yy 7,Yy 3,Yy 5,Nn 6] ?_
      refine Da ?_
      refine Yc (l1Copy_f (M := M) _ _ g (gridB_mk s) (by omega)) ?_
      rintro _ AC ⟨_, rfl, q⟩
      obtain ⟨c2, rfl, g1, l1⟩ := gridO q
      have o5 := g1.one
      refine Da ?_
      refine Yl fun b5 => ?_
      refine Da ?_
      refine Ym fun l AL g2 => ?_
      have o6 := g2.one
      refine Da ?_
      refine Ym fun f AF g3 => ?_
      have o7 := g3.one
      refine Da ?_
      refine Ae ?_
      repeat first | refine R1 ?_ | refine R2 fun _ => ?_
      refine sf_keep [2, 4, 5, 6] ?_
      refine sf_own ((b5, .cells #[.int .i64 g.wide, c2, l, f] 29) :: (AC ++ (AL ++ (AF ++ [(b2, .cells #[.int .i64 0, .slice none 0 0, .slice none 0 0, .slice none 0 0] 29), (b1, .cells #[.int .i64 g.wide, c] 25)])))) ?_
      exact tail.out c2 l f AC AL AF b5 g1 g2 g3
    case' refine_4 =>
      refine Sr [[],[0],[],[0,1,2,4,5],[],[0,1,4],[0,1,2,3,4,5],[0,1,2,3,4,5],[0,1,2,3,4,5,6,7]] 8 [Nn 0,Nn 2,Nn 4,Yy 1,Yy 5,Yy 3,Nn 6,Yy 7] ?_
      refine Da ?_
      refine Yc (l1Copy_f (M := M) _ _ g (gridB_mk s) (by omega)) ?_
      rintro _ AC ⟨_, rfl, q⟩
      obtain ⟨c2, rfl, g1, l1⟩ := gridO q
      have o5 := g1.one
      refine Da ?_
      refine Ym fun f AF g3 => ?_
      have o7 := g3.one
      refine Da ?_
      refine Ym fun l AL g2 => ?_
      have o6 := g2.one
      refine Da ?_
      refine Yl fun b5 => ?_
      refine Da ?_
      refine Ae ?_
      repeat first | refine R1 ?_ | refine R2 fun _ => ?_
      refine sf_keep [2, 4, 5, 6] ?_
      refine sf_own ((b5, .cells #[.int .i64 g.wide, c2, l, f] 29) :: (AC ++ (AL ++ (AF ++ [(b2, .cells #[.int .i64 0, .slice none 0 0, .slice none 0 0, .slice none 0 0] 29), (b1, .cells #[.int .i64 g.wide, c] 25)])))) ?_
      exact tail.out c2 l f AC AL AF b5 g1 g2 g3
    case' refine_5 =>
      refine Sr [[],[0],[],[0,1,2,4,5,7],[],[0,1,4],[0,1,2,3,4,5,7],[0,1,4,5],[0,1,2,3,4,5,6,7]] 8 [Nn 0,Nn 2,Nn 4,Yy 1,Yy 5,Yy 7,Yy 3,Nn 6] ?_
      refine Da ?_
      refine Yc (l1Copy_f (M := M) _ _ g (gridB_mk s) (by omega)) ?_
      rintro _ AC ⟨_, rfl, q⟩
      obtain ⟨c2, rfl, g1, l1⟩ := gridO q
      have o5 := g1.one
      refine Da ?_
      refine Ym fun f AF g3 => ?_
      have o7 := g3.one
      refine Da ?_
      refine Yl fun b5 => ?_
      refine Da ?_
      refine Ym fun l AL g2 => ?_
      have o6 := g2.one
      refine Da ?_
      refine Ae ?_
      repeat first | refine R1 ?_ | refine R2 fun _ => ?_
      refine sf_keep [2, 4, 5, 6] ?_
      refine sf_own ((b5, .cells #[.int .i64 g.wide, c2, l, f] 29) :: (AC ++ (AL ++ (AF ++ [(b2, .cells #[.int .i64 0, .slice none 0 0, .slice none 0 0, .slice none 0 0] 29), (b1, .cells #[.int .i64 g.wide, c] 25)])))) ?_
      exact tail.out c2 l f AC AL AF b5 g1 g2 g3
    case' refine_6 =>
      refine Sr [[],[0],[],[0,1,2,4,5,7],[],[0,1,4,7],[0,1,2,3,4,5,7],[0,1],[0,1,2,3,4,5,6,7]] 8 [Nn 0,Nn 2,Nn 4,Yy 1,Yy 7,Yy 5,Yy 3,Nn 6] ?_
      refine Da ?_
      refine Yc (l1Copy_f (M := M) _ _ g (gridB_mk s) (by omega)) ?_
      rintro _ AC ⟨_, rfl, q⟩
      obtain ⟨c2, rfl, g1, l1⟩ := gridO q
      have o5 := g1.one
      refine Da ?_
      refine Yl fun b5 => ?_
      refine Da ?_
      refine Ym fun f AF g3 => ?_
      have o7 := g3.one
      refine Da ?_
      refine Ym fun l AL g2 => ?_
      have o6 := g2.one
      refine Da ?_
      refine Ae ?_
      repeat first | refine R1 ?_ | refine R2 fun _ => ?_
      refine sf_keep [2, 4, 5, 6] ?_
      refine sf_own ((b5, .cells #[.int .i64 g.wide, c2, l, f] 29) :: (AC ++ (AL ++ (AF ++ [(b2, .cells #[.int .i64 0, .slice none 0 0, .slice none 0 0, .slice none 0 0] 29), (b1, .cells #[.int .i64 g.wide, c] 25)])))) ?_
      exact tail.out c2 l f AC AL AF b5 g1 g2 g3
    case' refine_7 =>
      refine Sr [[],[0,7],[],[0,1,2,7],[],[0,1,2,3,4,7],[0,1,2,3,4,5,7],[],[0,1,2,3,4,5,6,7]] 8 [Nn 0,Nn 2,Nn 4,Yy 7,Yy 1,Yy 3,Yy 5,Nn 6] ?_
      refine Da ?_
      refine Yl fun b5 => ?_
      refine Da ?_
      refine Yc (l1Copy_f (M := M) _ _ g (gridB_mk s) (by omega)) ?_
      rintro _ AC ⟨_, rfl, q⟩
      obtain ⟨c2, rfl, g1, l1⟩ := gridO q
      have o5 := g1.one
      refine Da ?_
      refine Ym fun l AL g2 => ?_
      have o6 := g2.one
      refine Da ?_
      refine Ym fun f AF g3 => ?_
      have o7 := g3.one
      refine Da ?_
      refine Ae ?_
      repeat first | refine R1 ?_ | refine R2 fun _ => ?_
      refine sf_keep [2, 4, 5, 6] ?_
      refine sf_own ((b5, .cells #[.int .i64 g.wide, c2, l, f] 29) :: (AC ++ (AL ++ (AF ++ [(b2, .cells #[.int .i64 0, .slice none 0 0, .slice none 0 0, .slice none 0 0] 29), (b1, .cells #[.int .i64 g.wide, c] 25)])))) ?_
      exact tail.out c2 l f AC AL AF b5 g1 g2 g3
    case' refine_8 =>
      refine Sr [[],[0,7],[],[0,1,2,4,5,7],[],[0,1,4,7],[0,1,2,3,4,5,7],[],[0,1,2,3,4,5,6,7]] 8 [Nn 0,Nn 2,Nn 4,Yy 7,Yy 1,Yy 5,Yy 3,Nn 6] ?_
      refine Da ?_
      refine Yl fun b5 => ?_
      refine Da ?_
      refine Yc (l1Copy_f (M := M) _ _ g (gridB_mk s) (by omega)) ?_
      rintro _ AC ⟨_, rfl, q⟩
      obtain ⟨c2, rfl, g1, l1⟩ := gridO q
      have o5 := g1.one
      refine Da ?_
      refine Ym fun f AF g3 => ?_
      have o7 := g3.one
      refine Da ?_
      refine Ym fun l AL g2 => ?_
      have o6 := g2.one
      refine Da ?_
      refine Ae ?_
      repeat first | refine R1 ?_ | refine R2 fun _ => ?_
      refine sf_keep [2, 4, 5, 6] ?_
      refine sf_own ((b5, .cells #[.int .i64 g.wide, c2, l, f] 29) :: (AC ++ (AL ++ (AF ++ [(b2, .cells #[.int .i64 0, .slice none 0 0, .slice none 0 0, .slice none 0 0] 29), (b1, .cells #[.int .i64 g.wide, c] 25)])))) ?_
      exact tail.out c2 l f AC AL AF b5 g1 g2 g3
    case' refine_9 =>
      refine Sr [[],[0,4,5],[],[0,1,2,4,5],[],[4],[0,1,2,3,4,5],[0,1,2,3,4,5],[0,1,2,3,4,5,6,7]] 8 [Nn 0,Nn 2,Nn 4,Yy 5,Yy 1,Yy 3,Nn 6,Yy 7] ?_
      refine Da ?_
      refine Ym fun f AF g3 => ?_
      have o7 := g3.one
      refine Da ?_
      refine Yc (l1Copy_f (M := M) _ _ g (gridB_mk s) (by omega)) ?_
      rintro _ AC ⟨_, rfl, q⟩
      obtain ⟨c2, rfl, g1, l1⟩ := gridO q
      have o5 := g1.one
      refine Da ?_
      refine Ym fun l AL g2 => ?_
      have o6 := g2.one
      refine Da ?_
      refine Yl fun b5 => ?_
      refine Da ?_
      refine Ae ?_
      repeat first | refine R1 ?_ | refine R2 fun _ => ?_
      refine sf_keep [2, 4, 5, 6] ?_
      refine sf_own ((b5, .cells #[.int .i64 g.wide, c2, l, f] 29) :: (AC ++ (AL ++ (AF ++ [(b2, .cells #[.int .i64 0, .slice none 0 0, .slice none 0 0, .slice none 0 0] 29), (b1, .cells #[.int .i64 g.wide, c] 25)])))) ?_
      exact tail.out c2 l f AC AL AF b5 g1 g2 g3
    case' refine_10 =>
      refine Sr [[],[0,4,5],[],[0,1,2,4,5,7],[],[4],[0,1,2,3,4,5,7],[0,1,4,5],[0,1,2,3,4,5,6,7]] 8 [Nn 0,Nn 2,Nn 4,Yy 5,Yy 1,Yy 7,Yy 3,Nn 6] ?_
      refine Da ?_
      refine Ym fun f AF g3 => ?_
      have o7 := g3.one
      refine Da ?_
      refine Yc (l1Copy_f (M := M) _ _ g (gridB_mk s) (by omega)) ?_
      rintro _ AC ⟨_, rfl, q⟩
      obtain ⟨c2, rfl, g1, l1⟩ := gridO q
      have o5 := g1.one
      refine Da ?_
      refine Yl fun b5 => ?_
      refine Da ?_
      refine Ym fun l AL g2 => ?_
      have o6 := g2.one
      refine Da ?_
      refine Ae ?_
      repeat first | refine R1 ?_ | refine R2 fun _ => ?_
      refine sf_keep [2, 4, 5, 6] ?_
      refine sf_own ((b5, .cells #[.int .i64 g.wide, c2, l, f] 29) :: (AC ++ (AL ++ (AF ++ [(b2, .cells #[.int .i64 0, .slice none 0 0, .slice none 0 0, .slice none 0 0] 29), (b1, .cells #[.int .i64 g.wide, c] 25)])))) ?_
      exact tail.out c2 l f AC AL AF b5 g1 g2 g3
    case' refine_11 =>
      refine Sr [[],[0,4,5,7],[],[0,1,2,4,5,7],[],[4],[0,1,2,3,4,5,7],[4,5],[0,1,2,3,4,5,6,7]] 8 [Nn 0,Nn 2,Nn 4,Yy 5,Yy 7,Yy 1,Yy 3,Nn 6] ?_
      refine Da ?_
      refine Ym fun f AF g3 => ?_
      have o7 := g3.one
      refine Da ?_
      refine Yl fun b5 => ?_
      refine Da ?_
      refine Yc (l1Copy_f (M := M) _ _ g (gridB_mk s) (by omega)) ?_
      rintro _ AC ⟨_, rfl, q⟩
      obtain ⟨c2, rfl, g1, l1⟩ := gridO q
      have o5 := g1.one
      refine Da ?_
      refine Ym fun l AL g2 => ?_
      have o6 := g2.one
      refine Da ?_
      refine Ae ?_
      repeat first | refine R1 ?_ | refine R2 fun _ => ?_
      refine sf_keep [2, 4, 5, 6] ?_
      refine sf_own ((b5, .cells #[.int .i64 g.wide, c2, l, f] 29) :: (AC ++ (AL ++ (AF ++ [(b2, .cells #[.int .i64 0, .slice none 0 0, .slice none 0 0, .slice none 0 0] 29), (b1, .cells #[.int .i64 g.wide, c] 25)])))) ?_
      exact tail.out c2 l f AC AL AF b5 g1 g2 g3
    case' refine_12 =>
      refine Sr [[],[0,4,5,7],[],[0,1,2,4,5,7],[],[4,7],[0,1,2,3,4,5,7],[],[0,1,2,3,4,5,6,7]] 8 [Nn 0,Nn 2,Nn 4,Yy 7,Yy 5,Yy 1,Yy 3,Nn 6] ?_
      refine Da ?_
      refine Yl fun b5 => ?_
      refine Da ?_
      refine Ym fun f AF g3 => ?_
      have o7 := g3.one
      refine Da ?_
      refine Yc (l1Copy_f (M := M) _ _ g (gridB_mk s) (by omega)) ?_
      rintro _ AC ⟨_, rfl, q⟩
      obtain ⟨c2, rfl, g1, l1⟩ := gridO q
      have o5 := g1.one
      refine Da ?_
      refine Ym fun l AL g2 => ?_
      have o6 := g2.one
      refine Da ?_
      refine Ae ?_
      repeat first | refine R1 ?_ | refine R2 fun _ => ?_
      refine sf_keep [2, 4, 5, 6] ?_
      refine sf_own ((b5, .cells #[.int .i64 g.wide, c2, l, f] 29) :: (AC ++ (AL ++ (AF ++ [(b2, .cells #[.int .i64 0, .slice none 0 0, .slice none 0 0, .slice none 0 0] 29), (b1, .cells #[.int .i64 g.wide, c] 25)])))) ?_
      exact tail.out c2 l f AC AL AF b5 g1 g2 g3
    case' refine_13 =>
      refine Sr [[],[0,2,3],[],[2],[],[0,1,2,3,4],[0,1,2,3,4,5],[0,1,2,3,4,5],[0,1,2,3,4,5,6,7]] 8 [Nn 0,Nn 2,Nn 4,Yy 3,Yy 1,Yy 5,Nn 6,Yy 7] ?_
      refine Da ?_
      refine Ym fun l AL g2 => ?_
      have o6 := g2.one
      refine Da ?_
      refine Yc (l1Copy_f (M := M) _ _ g (gridB_mk s) (by omega)) ?_
      rintro _ AC ⟨_, rfl, q⟩
      obtain ⟨c2, rfl, g1, l1⟩ := gridO q
      have o5 := g1.one
      refine Da ?_
      refine Ym fun f AF g3 => ?_
      have o7 := g3.one
      refine Da ?_
      refine Yl fun b5 => ?_
      refine Da ?_
      refine Ae ?_
      repeat first | refine R1 ?_ | refine R2 fun _ => ?_
      refine sf_keep [2, 4, 5, 6] ?_
      refine sf_own ((b5, .cells #[.int .i64 g.wide, c2, l, f] 29) :: (AC ++ (AL ++ (AF ++ [(b2, .cells #[.int .i64 0, .slice none 0 0, .slice none 0 0, .slice none 0 0] 29), (b1, .cells #[.int .i64 g.wide, c] 25)])))) ?_
      exact tail.out c2 l f AC AL AF b5 g1 g2 g3
    case' refine_14 =>
      refine Sr [[],[0,2,3],[],[2],[],[0,1,2,3,4,7],[0,1,2,3,4,5,7],[0,1,2,3],[0,1,2,3,4,5,6,7]] 8 [Nn 0,Nn 2,Nn 4,Yy 3,Yy 1,Yy 7,Yy 5,Nn 6] ?_
      refine Da ?_
      refine Ym fun l AL g2 => ?_
      have o6 := g2.one
      refine Da ?_
      refine Yc (l1Copy_f (M := M) _ _ g (gridB_mk s) (by omega)) ?_
      rintro _ AC ⟨_, rfl, q⟩
      obtain ⟨c2, rfl, g1, l1⟩ := gridO q
      have o5 := g1.one
      refine Da ?_
      refine Yl fun b5 => ?_
      refine Da ?_
      refine Ym fun f AF g3 => ?_
      have o7 := g3.one
      refine Da ?_
      refine Ae ?_
      repeat first | refine R1 ?_ | refine R2 fun _ => ?_
      refine sf_keep [2, 4, 5, 6] ?_
      refine sf_own ((b5, .cells #[.int .i64 g.wide, c2, l, f] 29) :: (AC ++ (AL ++ (AF ++ [(b2, .cells #[.int .i64 0, .slice none 0 0, .slice none 0 0, .slice none 0 0] 29), (b1, .cells #[.int .i64 g.wide, c] 25)])))) ?_
      exact tail.out c2 l f AC AL AF b5 g1 g2 g3
    case' refine_15 =>
      refine Sr [[],[0,2,3,7],[],[2],[],[0,1,2,3,4,7],[0,1,2,3,4,5,7],[2,3],[0,1,2,3,4,5,6,7]] 8 [Nn 0,Nn 2,Nn 4,Yy 3,Yy 7,Yy 1,Yy 5,Nn 6] ?_
      refine Da ?_
      refine Ym fun l AL g2 => ?_
      have o6 := g2.one
      refine Da ?_
      refine Yl fun b5 => ?_
      refine Da ?_
      refine Yc (l1Copy_f (M := M) _ _ g (gridB_mk s) (by omega)) ?_
      rintro _ AC ⟨_, rfl, q⟩
      obtain ⟨c2, rfl, g1, l1⟩ := gridO q
      have o5 := g1.one
      refine Da ?_
      refine Ym fun f AF g3 => ?_
      have o7 := g3.one
      refine Da ?_
      refine Ae ?_
      repeat first | refine R1 ?_ | refine R2 fun _ => ?_
      refine sf_keep [2, 4, 5, 6] ?_
      refine sf_own ((b5, .cells #[.int .i64 g.wide, c2, l, f] 29) :: (AC ++ (AL ++ (AF ++ [(b2, .cells #[.int .i64 0, .slice none 0 0, .slice none 0 0, .slice none 0 0] 29), (b1, .cells #[.int .i64 g.wide, c] 25)])))) ?_
      exact tail.out c2 l f AC AL AF b5 g1 g2 g3
    case' refine_16 =>
      refine Sr [[],[0,2,3,7],[],[2,7],[],[0,1,2,3,4,7],[0,1,2,3,4,5,7],[],[0,1,2,3,4,5,6,7]] 8 [Nn 0,Nn 2,Nn 4,Yy 7,Yy 3,Yy 1,Yy 5,Nn 6] ?_
      refine Da ?_
      refine Yl fun b5 => ?_
      refine Da ?_
      refine Ym fun l AL g2 => ?_
      have o6 := g2.one
      refine Da ?_
      refine Yc (l1Copy_f (M := M) _ _ g (gridB_mk s) (by omega)) ?_
      rintro _ AC ⟨_, rfl, q⟩
      obtain ⟨c2, rfl, g1, l1⟩ := gridO q
      have o5 := g1.one
      refine Da ?_
      refine Ym fun f AF g3 => ?_
      have o7 := g3.one
      refine Da ?_
      refine Ae ?_
      repeat first | refine R1 ?_ | refine R2 fun _ => ?_
      refine sf_keep [2, 4, 5, 6] ?_
      refine sf_own ((b5, .cells #[.int .i64 g.wide, c2, l, f] 29) :: (AC ++ (AL ++ (AF ++ [(b2, .cells #[.int .i64 0, .slice none 0 0, .slice none 0 0, .slice none 0 0] 29), (b1, .cells #[.int .i64 g.wide, c] 25)])))) ?_
      exact tail.out c2 l f AC AL AF b5 g1 g2 g3
    case' refine_17 =>
      refine Sr [[],[0,2,3,4,5],[],[2],[],[2,3,4],[0,1,2,3,4,5],[0,1,2,3,4,5],[0,1,2,3,4,5,6,7]] 8 [Nn 0,Nn 2,Nn 4,Yy 3,Yy 5,Yy 1,Nn 6,Yy 7] ?_
      refine Da ?_
      refine Ym fun l AL g2 => ?_
      have o6 := g2.one
      refine Da ?_
      refine Ym fun f AF g3 => ?_
      have o7 := g3.one
      refine Da ?_
      refine Yc (l1Copy_f (M := M) _ _ g (gridB_mk s) (by omega)) ?_
      rintro _ AC ⟨_, rfl, q⟩
      obtain ⟨c2, rfl, g1, l1⟩ := gridO q
      have o5 := g1.one
      refine Da ?_
      refine Yl fun b5 => ?_
      refine Da ?_
      refine Ae ?_
      repeat first | refine R1 ?_ | refine R2 fun _ => ?_
      refine sf_keep [2, 4, 5, 6] ?_
      refine sf_own ((b5, .cells #[.int .i64 g.wide, c2, l, f] 29) :: (AC ++ (AL ++ (AF ++ [(b2, .cells #[.int .i64 0, .slice none 0 0, .slice none 0 0, .slice none 0 0] 29), (b1, .cells #[.int .i64 g.wide, c] 25)])))) ?_
      exact tail.out c2 l f AC AL AF b5 g1 g2 g3
    case' refine_18 =>
      refine Sr [[],[0,2,3,4,5],[],[2,4,5],[],[4],[0,1,2,3,4,5],[0,1,2,3,4,5],[0,1,2,3,4,5,6,7]] 8 [Nn 0,Nn 2,Nn 4,Yy 5,Yy 3,Yy 1,Nn 6,Yy 7] ?_
      refine Da ?_
      refine Ym fun f AF g3 => ?_
      have o7 := g3.one
      refine Da ?_
      refine Ym fun l AL g2 => ?_
      have o6 := g2.one
      refine Da ?_
      refine Yc (l1Copy_f (M := M) _ _ g (gridB_mk s) (by omega)) ?_
      rintro _ AC ⟨_, rfl, q⟩
      obtain ⟨c2, rfl, g1, l1⟩ := gridO q
      have o5 := g1.one
      refine Da ?_
      refine Yl fun b5 => ?_
      refine Da ?_
      refine Ae ?_
      repeat first | refine R1 ?_ | refine R2 fun _ => ?_
      refine sf_keep [2, 4, 5, 6] ?_
      refine sf_own ((b5, .cells #[.int .i64 g.wide, c2, l, f] 29) :: (AC ++ (AL ++ (AF ++ [(b2, .cells #[.int .i64 0, .slice none 0 0, .slice none 0 0, .slice none 0 0] 29), (b1, .cells #[.int .i64 g.wide, c] 25)])))) ?_
      exact tail.out c2 l f AC AL AF b5 g1 g2 g3
    case' refine_19 =>
      refine Sr [[],[0,2,3,4,5,7],[],[2],[],[2,3,4],[0,1,2,3,4,5,7],[2,3,4,5],[0,1,2,3,4,5,6,7]] 8 [Nn 0,Nn 2,Nn 4,Yy 3,Yy 5,Yy 7,Yy 1,Nn 6] ?_
      refine Da ?_
      refine Ym fun l AL g2 => ?_
      have o6 := g2.one
      refine Da ?_
      refine Ym fun f AF g3 => ?_
      have o7 := g3.one
      refine Da ?_
      refine Yl fun b5 => ?_
      refine Da ?_
      refine Yc (l1Copy_f (M := M) _ _ g (gridB_mk s) (by omega)) ?_
      rintro _ AC ⟨_, rfl, q⟩
      obtain ⟨c2, rfl, g1, l1⟩ := gridO q
      have o5 := g1.one
      refine Da ?_
      refine Ae ?_
      repeat first | refine R1 ?_ | refine R2 fun _ => ?_
      refine sf_keep [2, 4, 5, 6] ?_
      refine sf_own ((b5, .cells #[.int .i64 g.wide, c2, l, f] 29) :: (AC ++ (AL ++ (AF ++ [(b2, .cells #[.int .i64 0, .slice none 0 0, .slice none 0 0, .slice none 0 0] 29), (b1, .cells #[.int .i64 g.wide, c] 25)])))) ?_
      exact tail.out c2 l f AC AL AF b5 g1 g2 g3
    case' refine_20 =>
      refine Sr [[],[0,2,3,4,5,7],[],[2],[],[2,3,4,7],[0,1,2,3,4,5,7],[2,3],[0,1,2,3,4,5,6,7]] 8 [Nn 0,Nn 2,Nn 4,Yy 3,Yy 7,Yy 5,Yy 1,Nn 6] ?_
      refine Da ?_
      refine Ym fun l AL g2 => ?_
      have o6 := g2.one
      refine Da ?_
      refine Yl fun b5 => ?_
      refine Da ?_
      refine Ym fun f AF g3 => ?_
      have o7 := g3.one
      refine Da ?_
      refine Yc (l1Copy_f (M := M) _ _ g (gridB_mk s) (by omega)) ?_
      rintro _ AC ⟨_, rfl, q⟩
      obtain ⟨c2, rfl, g1, l1⟩ := gridO q
      have o5 := g1.one
      refine Da ?_
      refine Ae ?_
      repeat first | refine R1 ?_ | refine R2 fun _ => ?_
      refine sf_keep [2, 4, 5, 6] ?_
      refine sf_own ((b5, .cells #[.int .i64 g.wide, c2, l, f] 29) :: (AC ++ (AL ++ (AF ++ [(b2, .cells #[.int .i64 0, .slice none 0 0, .slice none 0 0, .slice none 0 0] 29), (b1, .cells #[.int .i64 g.wide, c] 25)])))) ?_
      exact tail.out c2 l f AC AL AF b5 g1 g2 g3
    case' refine_21 =>
      refine Sr [[],[0,2,3,4,5,7],[],[2,7],[],[2,3,4,7],[0,1,2,3,4,5,7],[],[0,1,2,3,4,5,6,7]] 8 [Nn 0,Nn 2,Nn 4,Yy 7,Yy 3,Yy 5,Yy 1,Nn 6] ?_
      refine Da ?_
      refine Yl fun b5 => ?_
      refine Da ?_
      refine Ym fun l AL g2 => ?_
      have o6 := g2.one
      refine Da ?_
      refine Ym fun f AF g3 => ?_
      have o7 := g3.one
      refine Da ?_
      refine Yc (l1Copy_f (M := M) _ _ g (gridB_mk s) (by omega)) ?_
      rintro _ AC ⟨_, rfl, q⟩
      obtain ⟨c2, rfl, g1, l1⟩ := gridO q
      have o5 := g1.one
      refine Da ?_
      refine Ae ?_
      repeat first | refine R1 ?_ | refine R2 fun _ => ?_
      refine sf_keep [2, 4, 5, 6] ?_
      refine sf_own ((b5, .cells #[.int .i64 g.wide, c2, l, f] 29) :: (AC ++ (AL ++ (AF ++ [(b2, .cells #[.int .i64 0, .slice none 0 0, .slice none 0 0, .slice none 0 0] 29), (b1, .cells #[.int .i64 g.wide, c] 25)])))) ?_
      exact tail.out c2 l f AC AL AF b5 g1 g2 g3
    case' refine_22 =>
      refine Sr [[],[0,2,3,4,5,7],[],[2,4,5],[],[4],[0,1,2,3,4,5,7],[2,3,4,5],[0,1,2,3,4,5,6,7]] 8 [Nn 0,Nn 2,Nn 4,Yy 5,Yy 3,Yy 7,Yy 1,Nn 6] ?_
      refine Da ?_
      refine Ym fun f AF g3 => ?_
      have o7 := g3.one
      refine Da ?_
      refine Ym fun l AL g2 => ?_
      have o6 := g2.one
      refine Da ?_
      refine Yl fun b5 => ?_
      refine Da ?_
      refine Yc (l1Copy_f (M := M) _ _ g (gridB_mk s) (by omega)) ?_
      rintro _ AC ⟨_, rfl, q⟩
      obtain ⟨c2, rfl, g1, l1⟩ := gridO q
      have o5 := g1.one
      refine Da ?_
      refine Ae ?_
      repeat first | refine R1 ?_ | refine R2 fun _ => ?_
      refine sf_keep [2, 4, 5, 6] ?_
      refine sf_own ((b5, .cells #[.int .i64 g.wide, c2, l, f] 29) :: (AC ++ (AL ++ (AF ++ [(b2, .cells #[.int .i64 0, .slice none 0 0, .slice none 0 0, .slice none 0 0] 29), (b1, .cells #[.int .i64 g.wide, c] 25)])))) ?_
      exact tail.out c2 l f AC AL AF b5 g1 g2 g3
    case' refine_23 =>
      refine Sr [[],[0,2,3,4,5,7],[],[2,4,5,7],[],[4],[0,1,2,3,4,5,7],[4,5],[0,1,2,3,4,5,6,7]] 8 [Nn 0,Nn 2,Nn 4,Yy 5,Yy 7,Yy 3,Yy 1,Nn 6] ?_
      refine Da ?_
      refine Ym fun f AF g3 => ?_
      have o7 := g3.one
      refine Da ?_
      refine Yl fun b5 => ?_
      refine Da ?_
      refine Ym fun l AL g2 => ?_
      have o6 := g2.one
      refine Da ?_
      refine Yc (l1Copy_f (M := M) _ _ g (gridB_mk s) (by omega)) ?_
      rintro _ AC ⟨_, rfl, q⟩
      obtain ⟨c2, rfl, g1, l1⟩ := gridO q
      have o5 := g1.one
      refine Da ?_
      refine Ae ?_
      repeat first | refine R1 ?_ | refine R2 fun _ => ?_
      refine sf_keep [2, 4, 5, 6] ?_
      refine sf_own ((b5, .cells #[.int .i64 g.wide, c2, l, f] 29) :: (AC ++ (AL ++ (AF ++ [(b2, .cells #[.int .i64 0, .slice none 0 0, .slice none 0 0, .slice none 0 0] 29), (b1, .cells #[.int .i64 g.wide, c] 25)])))) ?_
      exact tail.out c2 l f AC AL AF b5 g1 g2 g3
    case' refine_24 =>
      refine Sr [[],[0,2,3,4,5,7],[],[2,4,5,7],[],[4,7],[0,1,2,3,4,5,7],[],[0,1,2,3,4,5,6,7]] 8 [Nn 0,Nn 2,Nn 4,Yy 7,Yy 5,Yy 3,Yy 1,Nn 6] ?_
      refine Da ?_
      refine Yl fun b5 => ?_
      refine Da ?_
      refine Ym fun f AF g3 => ?_
      have o7 := g3.one
      refine Da ?_
      refine Ym fun l AL g2 => ?_
      have o6 := g2.one
      refine Da ?_
      refine Yc (l1Copy_f (M := M) _ _ g (gridB_mk s) (by omega)) ?_
      rintro _ AC ⟨_, rfl, q⟩
      obtain ⟨c2, rfl, g1, l1⟩ := gridO q
      have o5 := g1.one
      refine Da ?_
      refine Ae ?_
      repeat first | refine R1 ?_ | refine R2 fun _ => ?_
      refine sf_keep [2, 4, 5, 6] ?_
      refine sf_own ((b5, .cells #[.int .i64 g.wide, c2, l, f] 29) :: (AC ++ (AL ++ (AF ++ [(b2, .cells #[.int .i64 0, .slice none 0 0, .slice none 0 0, .slice none 0 0] 29), (b1, .cells #[.int .i64 g.wide, c] 25)])))) ?_
      exact tail.out c2 l f AC AL AF b5 g1 g2 g3
  intro c2 l f AC AL AF b5 g1 g2 g3
  have o5 := g1.one
  have o6 := g2.one
  have o7 := g3.one
  repeat first | refine R1 ?_ | refine R2 fun _ => ?_
  refine sf_lp (ι := Nat) [2, 4, 5] (fun k => [(6, .int .i64 (k : Int))]) (fun k O => k ≤ N ∧ ∃ A2 A3, O = (b5, .cells #[.int .i64 g.wide, c2, l, f] 29) :: (AC ++ (A2 ++ A3 ++ [(b2, .cells #[.int .i64 0, .slice none 0 0, .slice none 0 0, .slice none 0 0] 29), (b1, .cells #[.int .i64 g.wide, c] 25)])) ∧ Gr A2 l 3 intF ((picOf g).take k ++ List.replicate ((picOf g).length - k) 0) ∧ GrR (intSR τ) A3 f 26 ((feetOf g).take k ++ List.replicate ((feetOf g).length - k) [])) (fun k => N - k) 0 ((b5, .cells #[.int .i64 g.wide, c2, l, f] 29) :: (AC ++ (AL ++ AF ++ [(b2, .cells #[.int .i64 0, .slice none 0 0, .slice none 0 0, .slice none 0 0] 29), (b1, .cells #[.int .i64 g.wide, c] 25)]))) ⟨by omega, AL, AF, rfl, by rw [lp]; simpa using g2, AF, [], by simp, _, g3, by rw [lf]; simpa using nils_all N, by simp; omega⟩ ?_
  rintro k O ⟨hk, A2, A3, rfl, ga, gb⟩
  repeat first | refine R1 ?_ | refine R2 fun _ => ?_
  refine sf_if (fun h4 => ?_) fun h4 => ?_
  · have hk4 : k < N := by omega
    repeat first | refine R1 ?_ | refine R2 fun _ => ?_
    refine fp (y_lend AC (fun h' _ i => l13Look_f (M := M) h' c2 g (g1.lent (by omega) i) e l f A2 A3 _ _ ga gb k (by omega) (by simp; omega) (by simp; omega)) (by rfl) ?_)
    rintro _ _ ⟨A5, A6, rfl, rfl, ga2, gb2⟩
    rw [← picOf_at (g := g) (k := k) (by omega), set_step (by omega)] at ga2
    rw [← feetOf_at (g := g) (k := k) (by omega), scene_step (by omega)] at gb2
    repeat first | refine R1 ?_ | refine R2 fun _ => ?_
    exact ⟨k + 1, by omega, ⟨rfl, trivial⟩, rfl, (b5, .cells #[.int .i64 g.wide, c2, l, f] 29) :: (AC ++ (A5 ++ A6 ++ [(b2, .cells #[.int .i64 0, .slice none 0 0, .slice none 0 0, .slice none 0 0] 29), (b1, .cells #[.int .i64 g.wide, c] 25)])), _, inferInstance, by omega, A5, A6, rfl, ga2, gb2⟩
  · refine sf_exit ?_
    obtain rfl : k = N := by omega
    rw [lp, List.take_of_length_le (by omega), Nat.sub_self, List.replicate_zero, List.append_nil] at ga
    rw [lf, List.take_of_length_le (by omega), Nat.sub_self, List.replicate_zero, List.append_nil] at gb
    repeat first | refine R1 ?_ | refine R2 fun _ => ?_
    exact sf_ret (rO (AC ++ (A2 ++ A3)) ⟨_, rfl, sceneO_mk (s := sceneOf g) g1 (by simp only [sceneOf]; omega) ga (by simp only [sceneOf]; omega) gb⟩)
theorem sSceneOk_v (h : PHeap) (ca : List Value) (s : Scene) (b : (sceneR τ).B h ca s) : CallV Tryz.prog M 42 [.agg ca.toArray] h (.bool (sceneOk s)) := by
  obtain ⟨c, l, f, rfl, s1, s2, s3⟩ := sceneB b
  have o1 := s1.one
  have o2 := s2.one
  have o3 := s3.one
  refine Cs Tryz.func42 Tryz.ntmps42 ?_
  repeat first | refine R1 ?_ | refine R2 fun _ => ?_
  refine fp (y_call (sSceneNew_f (M := M) _ _ s.grid (gridB_mk s1)) (by rfl) ?_)
  rintro _ A1 ⟨cs, rfl, q⟩
  have q0 := q
  obtain ⟨c2, l2, f2, X1, X2, X3, rfl, rfl, ⟨g1, k1⟩, ⟨g2, k2⟩, g3⟩ := sceneO q
  have o4 := g1.one
  have o5 := g2.one
  have o6 := g3.one
  by_cases e : gridOk s.grid = true
  · have en : sceneNew s.grid = (sceneOf s.grid, true) := by rw [sceneNew, if_pos e]
    have ew : (sceneOf s.grid, true).1.grid.wide = s.grid.wide := rfl
    rw [en, ew]
    rw [en] at q0 g1 g2 g3 k2
    simp only at q0 g1 g2 g3 k2
    have hsc : sceneOk s = (decide (picOf s.grid = s.lights) && decide (feetOf s.grid = s.feet)) := by
      rw [sceneOk, e]
      obtain ⟨gg, ll, ff⟩ := s
      simp only [sceneOf, Scene.mk.injEq, true_and, Bool.true_and]
      by_cases h1 : picOf gg = ll <;> by_cases h2 : feetOf gg = ff
      · simp [h1, h2]
      · have : ¬ ff = feetOf gg := fun e => h2 e.symm
        simp [h2, this]
      · have : ¬ ll = picOf gg := fun e => h1 e.symm
        simp [h1, this]
      · have : ¬ ll = picOf gg := fun e => h1 e.symm
        simp [h1, this]
    rw [hsc]
    obtain ⟨F0, F1, rfl, rs, gr, oa, hb⟩ := g3
    obtain ⟨rx, s3, bx⟩ := s3
    have lr := oa.len
    have lx := bx.len
    have hrl := s3.small
    simp only [sceneOf] at k2 lr hb oa
    repeat first | refine R1 ?_ | refine R2 fun _ => ?_
    refine fp (y_lendV X2 (fun h' l i => l13Same_v (M := M) h' _ _ _ s.lights (g2.lent k2 i) (s2.le l.le)) (by rfl) ?_)
    by_cases h1' : picOf s.grid = s.lights
    rotate_left
    · have h1 : decide ((sceneOf s.grid).lights = s.lights) = false := decide_eq_false h1'
      rw [h1]
      repeat first | refine R1 ?_ | refine R2 fun _ => ?_
      refine sf_T rfl ?_
      repeat first | refine R1 ?_ | refine R2 fun _ => ?_
      refine sf_ret (rV ?_)
      simp [h1']
    have h1 : decide ((sceneOf s.grid).lights = s.lights) = true := decide_eq_true h1'
    rw [h1]
    repeat first | refine R1 ?_ | refine R2 fun _ => ?_
    refine sf_if (fun h2 => ?_) fun h2 => ?_
    · have h2' : ¬ feetOf s.grid = s.feet := fun e => h2 (by rw [lr, lx, e])
      repeat first | refine R1 ?_ | refine R2 fun _ => ?_
      refine sf_ret (rV ?_)
      simp [h2']
    have hl : (feetOf s.grid).length = s.feet.length := by omega
    repeat first | refine R1 ?_ | refine R2 fun _ => ?_
    rename_i b1 b3
    refine sf_lp (ι := Nat) [1, 3] (fun k => [(5, .int .i64 (k : Int))]) (fun k O => k ≤ s.feet.length ∧ O = (b3, .cells #[.int .i64 s.grid.wide, c2, l2, f2] 29) :: (X1 ++ (X2 ++ (F0 ++ F1)) ++ [(b1, .cells #[.int .i64 s.grid.wide, c, l, f] 29)]) ∧ (feetOf s.grid).take k = s.feet.take k) (fun k => s.feet.length - k) 0 ((b3, .cells #[.int .i64 s.grid.wide, c2, l2, f2] 29) :: (X1 ++ (X2 ++ (F0 ++ F1)) ++ [(b1, .cells #[.int .i64 s.grid.wide, c, l, f] 29)])) ⟨by omega, rfl, rfl⟩ ?_
    rintro k O ⟨hk, rfl, hi⟩
    repeat first | refine R1 ?_ | refine R2 fun _ => ?_
    refine sf_if (fun h4 => ?_) fun h4 => ?_
    · have hk4 : k < (feetOf s.grid).length := by omega
      have hk5 : k < s.feet.length := by omega
      have hk6 : k < rs.length := by omega
      have hk7 : k < rx.length := by omega
      obtain ⟨B1, Bk, B2, rfl, ⟨w, ew, gw, lw⟩, -⟩ := oa.at hk4
      obtain ⟨vx, ex, sx4⟩ := bx.at hk5
      haveI : FlatV (rawF (intSR τ).sz) (gt rs k) [w] := ⟨ew⟩
      haveI : FlatV (rawF (intSR τ).sz) (gt rx k) [vx] := ⟨ex⟩
      have o7 := gw.one
      have o8 := sx4.one
      repeat first | refine R1 ?_ | refine R2 fun _ => ?_
      refine Sd [[],[0],[],[0,1,2],[0,1,2,3],[],[5],[],[5,6,7],[5,6,7,8],[0,1,2,3,4,5,6,7,8,9],[0,1,2,3,4,5,6,7,8,9,10]] 10 [Nn 0,Nn 1,Nn 2,Nn 3,Nn 4,Nn 5,Nn 6,Nn 7,Nn 8,Nn 9] ?_
      refine Da ?_
      refine Ae ?_
      refine fp (y_lendV Bk (fun h' l i => l13Same_v (M := M) h' _ _ _ _ (gw.lent lw i) (sx4.le l.le)) (by rfl) ?_)
      repeat first | refine R1 ?_ | refine R2 fun _ => ?_
      refine sf_ifn (fun h5 => ?_) fun h5 => ?_
      · have h5' : ¬ feetOf s.grid = s.feet := fun e => h5 (by rw [e])
        repeat first | refine R1 ?_ | refine R2 fun _ => ?_
        refine sf_ret (rV ?_)
        simp [h5']
      · repeat first | refine R1 ?_ | refine R2 fun _ => ?_
        exact ⟨k + 1, by omega, ⟨rfl, trivial⟩, rfl, _, _, inferInstance, by omega, rfl, eq_step hk4 hk5 hi h5⟩
    · refine sf_exit ?_
      repeat first | refine R1 ?_ | refine R2 fun _ => ?_
      refine sf_ret (rV ?_)
      rw [eq_end hl (by omega) hi, h1']
      simp
  · have en : sceneNew s.grid = (noScene, false) := by rw [sceneNew, if_neg e]
    rw [en]
    repeat first | refine R1 ?_ | refine R2 fun _ => ?_
    refine sf_T (by rfl) ?_
    repeat first | refine R1 ?_ | refine R2 fun _ => ?_
    refine sf_ret (rV ?_)
    simp [sceneOk, e]
theorem sPaintOk_v (h : PHeap) (ca : List Value) (p : Painter) (b : (painterR τ).B h ca p) : CallV Tryz.prog M 20 [.agg ca.toArray] h (.bool (paintOk p)) := by
  obtain ⟨c, l, f, rfl, s1, s2, s3⟩ := painterB b
  have o1 := s1.one
  have o2 := s2.one
  have o3 := s3.one
  have bs : (sceneR τ).B h [.int .i64 p.scene.grid.wide, c, l, f] p.scene := sceneB_mk s1 s2 s3
  refine Cs Tryz.func20 Tryz.ntmps20 ?_
  repeat first | refine R1 ?_ | refine R2 fun _ => ?_
  refine sf_cond (by rfl) (fun e1 => ?_) fun e1 => ?_
  · simp only [Bool.not_eq_true'] at e1
    have ep : paintOk p = (decide (p.ver = 0) && decide (p.scene = noScene)) := by rw [paintOk, if_neg (by rw [e1]; decide)]
    rw [ep]
    repeat first | refine R1 ?_ | refine R2 fun _ => ?_
    refine f_split (fun e2 => ?_) fun e2 => ?_
    · repeat first | refine R1 ?_ | refine R2 fun _ => ?_
      refine Xv (l21None_v (M := M) _ _ p.scene bs) ?_
      repeat first | refine R1 ?_ | refine R2 fun _ => ?_
      refine sf_ret (rV ?_)
      simp [e2]
    · repeat first | refine R1 ?_ | refine R2 fun _ => ?_
      refine sf_ret (rV ?_)
      simp [e2]
  · simp only [Bool.not_eq_false'] at e1
    have ep : paintOk p = (p.up && (decide (0 ≤ p.ver) && decide (p.ver ≤ 60)) && sceneOk p.scene) := by rw [paintOk, if_pos e1]
    rw [ep]
    repeat first | refine R1 ?_ | refine R2 fun _ => ?_
    refine f_splitB (fun e2 => ?_) fun e2 => ?_
    · repeat first | refine R1 ?_ | refine R2 fun _ => ?_
      refine Xv (l6In_v _ _ _ _) ?_
      repeat first | refine R1 ?_ | refine R2 fun _ => ?_
      refine f_splitB (fun e3 => ?_) fun e3 => ?_
      · repeat first | refine R1 ?_ | refine R2 fun _ => ?_
        refine Xv (sSceneOk_v (M := M) _ _ p.scene bs) ?_
        repeat first | refine R1 ?_ | refine R2 fun _ => ?_
        refine sf_ret (rV ?_)
        rw [e2, e3]; rfl
      · repeat first | refine R1 ?_ | refine R2 fun _ => ?_
        refine sf_ret (rV ?_)
        rw [e2, e3]; rfl
    · repeat first | refine R1 ?_ | refine R2 fun _ => ?_
      refine sf_ret (rV ?_)
      rw [e2]; rfl
theorem l13Has_v (h : PHeap) (v : Value) (xs : List Int) (s : Sl h v intF xs) (a : Int) : CallV Tryz.prog M 123 [v, .int .i64 a] h (.bool (decide (a ∈ xs))) := by
  have o1 := s.one
  have hs := s.small
  refine Cs Tryz.func123 Tryz.ntmps123 ?_
  refine Wo ?_
  refine sf_lp (ι := Nat) [0, 1] (fun i => [(5, .int .i64 (i : Int))]) (fun i O => O = [] ∧ i ≤ xs.length ∧ a ∉ xs.take i) (fun i => xs.length - i) 0 [] ⟨rfl, by omega, by simp⟩ ?_
  rintro i O ⟨rfl, hi, hn⟩
  refine Wo ?_
  refine sf_if (fun h4 => ?_) fun h4 => ?_
  · have hi4 : i < xs.length := by omega
    refine Wo ?_
    refine sf_if (fun h5 => ?_) fun h5 => ?_
    · refine Wo ?_
      refine sf_ret (rV (bT ?_))
      rw [← h5, gt_eq hi4]; exact List.getElem_mem _
    · refine Wo ?_
      refine ⟨i + 1, by omega, ⟨rfl, trivial⟩, rfl, [], _, inferInstance, rfl, by omega, ?_⟩
      rw [take_succ_gt hi4]
      simp only [List.mem_append, List.mem_singleton]
      rintro (e | e)
      · exact hn e
      · exact h5 e.symm
  · refine sf_exit ?_
    refine Wo ?_
    refine sf_ret (rV (bF fun e => hn ?_))
    rw [List.take_of_length_le (by omega)]; exact e
theorem l13Touch_f (h : PHeap) (ca : List Value) (s : Scene) (b : (sceneR τ).B h ca s) (hs : s.feet.length ≤ 1000000) (a : Int) : CallF Tryz.prog M 99 [.agg ca.toArray, .int .i64 a] [] h fun u A => Gr A u 3 intF (natsI (touched s.feet a)) := by
  obtain ⟨c, l, f, rfl, s1, s2, s3⟩ := sceneB b
  have o1 := s1.one
  have o2 := s2.one
  have o3 := s3.one
  obtain ⟨rx, s3, bx⟩ := s3
  have lx := bx.len
  refine Cs Tryz.func99 Tryz.ntmps99 ?_
  repeat first | refine R1 ?_ | refine R2 fun _ => ?_
  rename_i b2
  refine Xb fun w AW gw => ?_
  repeat first | refine R1 ?_ | refine R2 fun _ => ?_
  refine sf_lp (ι := Nat × Value) [1, 2] (fun x => [(5, x.2), (6, .int .i64 (x.1 : Int))]) (fun x O => x.1 ≤ s.feet.length ∧ ∃ AW, O = AW ++ [(b2, .cells #[.int .i64 s.grid.wide, c, l, f] 29)] ∧ Gr AW x.2 3 intF (natsI (touchTo s.feet a x.1))) (fun x => s.feet.length - x.1) (0, w) (AW ++ [(b2, .cells #[.int .i64 s.grid.wide, c, l, f] 29)]) ⟨by simp only; omega, AW, rfl, gw⟩ ?_
  rintro ⟨k, w⟩ O ⟨hk, AW, rfl, gx⟩
  simp only at hk gx ⊢
  have ow := gx.one
  have hlen := touchTo_len s.feet a k
  have hlen2 := natsI_len (touchTo s.feet a k)
  repeat first | refine R1 ?_ | refine R2 fun _ => ?_
  refine sf_if (fun h4 => ?_) fun h4 => ?_
  · have hk4 : k < s.feet.length := by omega
    have hk5 : k < rx.length := by omega
    obtain ⟨vx, ex, sx4⟩ := bx.at hk4
    haveI : FlatV (rawF (intSR τ).sz) (gt rx k) [vx] := ⟨ex⟩
    have o4 := sx4.one
    repeat first | refine R1 ?_ | refine R2 fun _ => ?_
    refine Xv (l13Has_v _ _ _ sx4 a) ?_
    repeat first | refine R1 ?_ | refine R2 fun _ => ?_
    refine sf_if (fun h5 => ?_) fun h5 => ?_
    · repeat first | refine R1 ?_ | refine R2 fun _ => ?_
      refine Xb fun u Au gu => ?_
      repeat first | refine R1 ?_ | refine R2 fun _ => ?_
      refine Xa gx gu fun w2 A2 g2 => ?_
      repeat first | refine R1 ?_ | refine R2 fun _ => ?_
      exact ⟨(k + 1, w2), by simp only; omega, ⟨rfl, rfl, trivial⟩, rfl, A2 ++ [(b2, .cells #[.int .i64 s.grid.wide, c, l, f] 29)], _, inferInstance, by simp only; omega, A2, rfl, by simp only; rw [touchTo_step, if_pos h5, natsI_snoc]; exact g2⟩
    · repeat first | refine R1 ?_ | refine R2 fun _ => ?_
      exact ⟨(k + 1, w), by simp only; omega, ⟨rfl, rfl, trivial⟩, rfl, AW ++ [(b2, .cells #[.int .i64 s.grid.wide, c, l, f] 29)], _, inferInstance, by simp only; omega, AW, rfl, by simp only; rw [touchTo_step, if_neg h5]; exact gx⟩
  · refine sf_exit ?_
    obtain rfl : k = s.feet.length := by omega
    repeat first | refine R1 ?_ | refine R2 fun _ => ?_
    exact sf_ret (rO AW gx)
theorem l13Copy_f (h : PHeap) (ca : List Value) (s : Scene) (b : (sceneR τ).B h ca s) (hs : szSceneN s ≤ 1048576) : CallF Tryz.prog M 67 [.agg ca.toArray] [] h fun u A => ∃ cs, u = .agg cs.toArray ∧ (sceneR τ).O A cs s := by
  simp only [szSceneN, szIntSSN] at hs
  obtain ⟨c, l, f, rfl, s1, s2, s3⟩ := sceneB b
  have o1 := s1.one
  have o2 := s2.one
  have o3 := s3.one
  obtain ⟨rx, s3, bx⟩ := s3
  have lx := bx.len
  refine Cs Tryz.func67 Tryz.ntmps67 ?_
  repeat first | refine R1 ?_ | refine R2 fun _ => ?_
  rename_i b1 b2
  apply viaT (G := ∀ (c2 l2 : Value) (AC AL : Own) (b3 : Nat), Gr AC c2 35 cellF s.grid.cells → Gr AL l2 3 intF s.lights → _)
  · intro tail
    refine sf_draw (by kernel_rfl) (regX_split 2 3 (by rfl) (regX_split 2 8 (by rfl) (regX_split 3 8 (by rfl) (regX_split 6 8 (by rfl) ?_ ?_) ?_) ?_) (regX_split 2 8 (by rfl) (regX_split 6 8 (by rfl) ?_ ?_) (regX_split 3 8 (by rfl) ?_ ?_)))
    case' refine_1 =>
      refine Sr [[],[0],[0,1],[0,1,2],[],[4],[0,1,2,3,4,5],[0,1,2,3,4,5,6],[0,1,2,3,4,5,6],[0,1,2,3,4,5,6,7,8]] 9 [Nn 0,Nn 1,Nn 4,Nn 5,Yy 2,Yy 3,Yy 6,Nn 7,Yy 8] ?_
      refine Da ?_
      refine Yc (l1Copy_f (M := M) _ _ s.grid (gridB_mk s1) (by omega)) ?_
      rintro _ AC ⟨_, rfl, q⟩
      obtain ⟨c2, rfl, g1, l1⟩ := gridO q
      have o5 := g1.one
      refine Da ?_
      refine Yb fun e0 AE ge => ?_
      have o6 := ge.one
      refine Da ?_
      refine Ys ge s2 fun l2 AL g2 => ?_
      have o7 := g2.one
      refine Da ?_
      refine Yl fun b3 => ?_
      refine Da ?_
      refine Ae ?_
      repeat first | refine R1 ?_ | refine R2 fun _ => ?_
      refine sf_keep [1, 2, 3, 4] ?_
      refine sf_own ((b3, .cells #[.int .i64 s.grid.wide, c2, l2, .slice none 0 0] 29) :: (AC ++ (AL ++ [(b2, .cells #[.int .i64 0, .slice none 0 0, .slice none 0 0, .slice none 0 0] 29), (b1, .cells #[.int .i64 s.grid.wide, c, l, f] 29)]))) ?_
      exact tail.out c2 l2 AC AL b3 g1 g2
    case' refine_2 =>
      refine Sr [[],[0],[0,1],[0,1,2],[],[4],[0,1,2,3,4,5,8],[0,1,2,3,4,5,6,8],[0,1,2,3],[0,1,2,3,4,5,6,7,8]] 9 [Nn 0,Nn 1,Nn 4,Nn 5,Yy 2,Yy 3,Yy 8,Yy 6,Nn 7] ?_
      refine Da ?_
      refine Yc (l1Copy_f (M := M) _ _ s.grid (gridB_mk s1) (by omega)) ?_
      rintro _ AC ⟨_, rfl, q⟩
      obtain ⟨c2, rfl, g1, l1⟩ := gridO q
      have o5 := g1.one
      refine Da ?_
      refine Yb fun e0 AE ge => ?_
      have o6 := ge.one
      refine Da ?_
      refine Yl fun b3 => ?_
      refine Da ?_
      refine Ys ge s2 fun l2 AL g2 => ?_
      have o7 := g2.one
      refine Da ?_
      refine Ae ?_
      repeat first | refine R1 ?_ | refine R2 fun _ => ?_
      refine sf_keep [1, 2, 3, 4] ?_
      refine sf_own ((b3, .cells #[.int .i64 s.grid.wide, c2, l2, .slice none 0 0] 29) :: (AC ++ (AL ++ [(b2, .cells #[.int .i64 0, .slice none 0 0, .slice none 0 0, .slice none 0 0] 29), (b1, .cells #[.int .i64 s.grid.wide, c, l, f] 29)]))) ?_
      exact tail.out c2 l2 AC AL b3 g1 g2
    case' refine_3 =>
      refine Sr [[],[0],[0,1],[0,1,2,8],[],[4],[0,1,2,3,4,5,8],[0,1,2,3,4,5,6,8],[0,1,2],[0,1,2,3,4,5,6,7,8]] 9 [Nn 0,Nn 1,Nn 4,Nn 5,Yy 2,Yy 8,Yy 3,Yy 6,Nn 7] ?_
      refine Da ?_
      refine Yc (l1Copy_f (M := M) _ _ s.grid (gridB_mk s1) (by omega)) ?_
      rintro _ AC ⟨_, rfl, q⟩
      obtain ⟨c2, rfl, g1, l1⟩ := gridO q
      have o5 := g1.one
      refine Da ?_
      refine Yl fun b3 => ?_
      refine Da ?_
      refine Yb fun e0 AE ge => ?_
      have o6 := ge.one
      refine Da ?_
      refine Ys ge s2 fun l2 AL g2 => ?_
      have o7 := g2.one
      refine Da ?_
      refine Ae ?_
      repeat first | refine R1 ?_ | refine R2 fun _ => ?_
      refine sf_keep [1, 2, 3, 4] ?_
      refine sf_own ((b3, .cells #[.int .i64 s.grid.wide, c2, l2, .slice none 0 0] 29) :: (AC ++ (AL ++ [(b2, .cells #[.int .i64 0, .slice none 0 0, .slice none 0 0, .slice none 0 0] 29), (b1, .cells #[.int .i64 s.grid.wide, c, l, f] 29)]))) ?_
      exact tail.out c2 l2 AC AL b3 g1 g2
    case' refine_4 =>
      refine Sr [[],[0],[0,1,8],[0,1,2,8],[],[4],[0,1,2,3,4,5,8],[0,1,2,3,4,5,6,8],[],[0,1,2,3,4,5,6,7,8]] 9 [Nn 0,Nn 1,Nn 4,Nn 5,Yy 8,Yy 2,Yy 3,Yy 6,Nn 7] ?_
      refine Da ?_
      refine Yl fun b3 => ?_
      refine Da ?_
      refine Yc (l1Copy_f (M := M) _ _ s.grid (gridB_mk s1) (by omega)) ?_
      rintro _ AC ⟨_, rfl, q⟩
      obtain ⟨c2, rfl, g1, l1⟩ := gridO q
      have o5 := g1.one
      refine Da ?_
      refine Yb fun e0 AE ge => ?_
      have o6 := ge.one
      refine Da ?_
      refine Ys ge s2 fun l2 AL g2 => ?_
      have o7 := g2.one
      refine Da ?_
      refine Ae ?_
      repeat first | refine R1 ?_ | refine R2 fun _ => ?_
      refine sf_keep [1, 2, 3, 4] ?_
      refine sf_own ((b3, .cells #[.int .i64 s.grid.wide, c2, l2, .slice none 0 0] 29) :: (AC ++ (AL ++ [(b2, .cells #[.int .i64 0, .slice none 0 0, .slice none 0 0, .slice none 0 0] 29), (b1, .cells #[.int .i64 s.grid.wide, c, l, f] 29)]))) ?_
      exact tail.out c2 l2 AC AL b3 g1 g2
    case' refine_5 =>
      refine Sr [[],[0],[0,1,3],[],[],[4],[0,1,2,3,4,5],[0,1,2,3,4,5,6],[0,1,2,3,4,5,6],[0,1,2,3,4,5,6,7,8]] 9 [Nn 0,Nn 1,Nn 4,Nn 5,Yy 3,Yy 2,Yy 6,Nn 7,Yy 8] ?_
      refine Da ?_
      refine Yb fun e0 AE ge => ?_
      have o6 := ge.one
      refine Da ?_
      refine Yc (l1Copy_f (M := M) _ _ s.grid (gridB_mk s1) (by omega)) ?_
      rintro _ AC ⟨_, rfl, q⟩
      obtain ⟨c2, rfl, g1, l1⟩ := gridO q
      have o5 := g1.one
      refine Da ?_
      refine Ys ge s2 fun l2 AL g2 => ?_
      have o7 := g2.one
      refine Da ?_
      refine Yl fun b3 => ?_
      refine Da ?_
      refine Ae ?_
      repeat first | refine R1 ?_ | refine R2 fun _ => ?_
      refine sf_keep [1, 2, 3, 4] ?_
      refine sf_own ((b3, .cells #[.int .i64 s.grid.wide, c2, l2, .slice none 0 0] 29) :: (AC ++ (AL ++ [(b2, .cells #[.int .i64 0, .slice none 0 0, .slice none 0 0, .slice none 0 0] 29), (b1, .cells #[.int .i64 s.grid.wide, c, l, f] 29)]))) ?_
      exact tail.out c2 l2 AC AL b3 g1 g2
    case' refine_6 =>
      refine Sr [[],[0],[0,1,3],[],[],[4],[0,1,2,3,4,5,8],[0,1,2,3,4,5,6,8],[0,1,2,3],[0,1,2,3,4,5,6,7,8]] 9 [Nn 0,Nn 1,Nn 4,Nn 5,Yy 3,Yy 2,Yy 8,Yy 6,Nn 7] ?_
      refine Da ?_
      refine Yb fun e0 AE ge => ?_
      have o6 := ge.one
      refine Da ?_
      refine Yc (l1Copy_f (M := M) _ _ s.grid (gridB_mk s1) (by omega)) ?_
      rintro _ AC ⟨_, rfl, q⟩
      obtain ⟨c2, rfl, g1, l1⟩ := gridO q
      have o5 := g1.one
      refine Da ?_
      refine Yl fun b3 => ?_
      refine Da ?_
      refine Ys ge s2 fun l2 AL g2 => ?_
      have o7 := g2.one
      refine Da ?_
      refine Ae ?_
      repeat first | refine R1 ?_ | refine R2 fun _ => ?_
      refine sf_keep [1, 2, 3, 4] ?_
      refine sf_own ((b3, .cells #[.int .i64 s.grid.wide, c2, l2, .slice none 0 0] 29) :: (AC ++ (AL ++ [(b2, .cells #[.int .i64 0, .slice none 0 0, .slice none 0 0, .slice none 0 0] 29), (b1, .cells #[.int .i64 s.grid.wide, c, l, f] 29)]))) ?_
      exact tail.out c2 l2 AC AL b3 g1 g2
    case' refine_7 =>
      refine Sr [[],[0],[0,1,3,8],[],[],[4],[0,1,2,3,4,5,8],[0,1,2,3,4,5,6,8],[3],[0,1,2,3,4,5,6,7,8]] 9 [Nn 0,Nn 1,Nn 4,Nn 5,Yy 3,Yy 8,Yy 2,Yy 6,Nn 7] ?_
      refine Da ?_
      refine Yb fun e0 AE ge => ?_
      have o6 := ge.one
      refine Da ?_
      refine Yl fun b3 => ?_
      refine Da ?_
      refine Yc (l1Copy_f (M := M) _ _ s.grid (gridB_mk s1) (by omega)) ?_
      rintro _ AC ⟨_, rfl, q⟩
      obtain ⟨c2, rfl, g1, l1⟩ := gridO q
      have o5 := g1.one
      refine Da ?_
      refine Ys ge s2 fun l2 AL g2 => ?_
      have o7 := g2.one
      refine Da ?_
      refine Ae ?_
      repeat first | refine R1 ?_ | refine R2 fun _ => ?_
      refine sf_keep [1, 2, 3, 4] ?_
      refine sf_own ((b3, .cells #[.int .i64 s.grid.wide, c2, l2, .slice none 0 0] 29) :: (AC ++ (AL ++ [(b2, .cells #[.int .i64 0, .slice none 0 0, .slice none 0 0, .slice none 0 0] 29), (b1, .cells #[.int .i64 s.grid.wide, c, l, f] 29)]))) ?_
      exact tail.out c2 l2 AC AL b3 g1 g2
    case' refine_8 =>
      refine Sr [[],[0],[0,1,3,8],[8],[],[4],[0,1,2,3,4,5,8],[0,1,2,3,4,5,6,8],[],[0,1,2,3,4,5,6,7,8]] 9 [Nn 0,Nn 1,Nn 4,Nn 5,Yy 8,Yy 3,Yy 2,Yy 6,Nn 7] ?_
      refine Da ?_
      refine Yl fun b3 => ?_
      refine Da ?_
      refine Yb fun e0 AE ge => ?_
      have o6 := ge.one
      refine Da ?_
      refine Yc (l1Copy_f (M := M) _ _ s.grid (gridB_mk s1) (by omega)) ?_
      rintro _ AC ⟨_, rfl, q⟩
      obtain ⟨c2, rfl, g1, l1⟩ := gridO q
      have o5 := g1.one
      refine Da ?_
      refine Ys ge s2 fun l2 AL g2 => ?_
      have o7 := g2.one
      refine Da ?_
      refine Ae ?_
      repeat first | refine R1 ?_ | refine R2 fun _ => ?_
      refine sf_keep [1, 2, 3, 4] ?_
      refine sf_own ((b3, .cells #[.int .i64 s.grid.wide, c2, l2, .slice none 0 0] 29) :: (AC ++ (AL ++ [(b2, .cells #[.int .i64 0, .slice none 0 0, .slice none 0 0, .slice none 0 0] 29), (b1, .cells #[.int .i64 s.grid.wide, c, l, f] 29)]))) ?_
      exact tail.out c2 l2 AC AL b3 g1 g2
  intro c2 l2 AC AL b3 g1 g2
  have o5 := g1.one
  have o7 := g2.one
  repeat first | refine R1 ?_ | refine R2 fun _ => ?_
  refine sf_lp (ι := Nat) [1, 2, 3] (fun k => [(4, .int .i64 (k : Int))]) (fun k O => k ≤ s.feet.length ∧ ∃ fv A0 A1, O = (b3, .cells #[.int .i64 s.grid.wide, c2, l2, fv] 29) :: (A0 ++ A1 ++ (AC ++ (AL ++ [(b2, .cells #[.int .i64 0, .slice none 0 0, .slice none 0 0, .slice none 0 0] 29), (b1, .cells #[.int .i64 s.grid.wide, c, l, f] 29)]))) ∧ ∃ rs : List (Raw (intSR τ).sz), rs.length = k ∧ Gr A0 fv 26 (rawF (intSR τ).sz) rs ∧ OAll (intSR τ) A1 rs (s.feet.take k)) (fun k => s.feet.length - k) 0 ((b3, .cells #[.int .i64 s.grid.wide, c2, l2, .slice none 0 0] 29) :: ([] ++ [] ++ (AC ++ (AL ++ [(b2, .cells #[.int .i64 0, .slice none 0 0, .slice none 0 0, .slice none 0 0] 29), (b1, .cells #[.int .i64 s.grid.wide, c, l, f] 29)])))) ⟨by omega, _, [], [], rfl, [], rfl, Gr.nil _ _, .nil⟩ ?_
  rintro k O ⟨hk, fv, A0, A1, rfl, rs, hr, gr, oa⟩
  have o8 := gr.one
  repeat first | refine R1 ?_ | refine R2 fun _ => ?_
  refine sf_if (fun h4 => ?_) fun h4 => ?_
  · have hk4 : k < s.feet.length := by omega
    have hk5 : k < rx.length := by omega
    obtain ⟨vx, ex, sx4⟩ := bx.at hk4
    haveI : FlatV (rawF (intSR τ).sz) (gt rx k) [vx] := ⟨ex⟩
    have o9 := sx4.one
    have hsz := sizeL_at (f := List.length) hk4
    repeat first | refine R1 ?_ | refine R2 fun _ => ?_
    refine Sd [[],[0],[],[],[3],[],[3,4,5],[3,4,5,6],[2,3,4,5,6,7],[2,3,4,5,6,7,8],[0,1,2,3,4,5,6,7,8,9],[0,1,2,3,4,5,6,7,8,9,10],[0,1,2,3,4,5,6,7,8,9,10,11]] 10 [Nn 0,Nn 1,Nn 3,Nn 4,Nn 5,Nn 6,Nn 7,Yy 2,Yy 8,Yy 9] ?_
    refine Da ?_
    refine Yb fun e0 AE ge => ?_
    refine Da ?_
    refine Ys ge sx4 fun w AW gw => ?_
    have o10 := gw.one
    refine Da ?_
    refine Yb fun u Au gu => ?_
    refine Da ?_
    refine Ae ?_
    refine fp (y_append (by rfl) (by rfl) gr gu (by intro y hy; simp at hy; subst hy; exact (inferInstance : AllOne [w]).is) (by rfl) (by rfl) (by simp; omega) (by simp; omega) fun fv2 A5 g5 => ?_)
    have o11 := g5.one
    repeat first | refine R1 ?_ | refine R2 fun _ => ?_
    refine ⟨k + 1, by omega, ⟨rfl, trivial⟩, rfl, (b3, .cells #[.int .i64 s.grid.wide, c2, l2, fv2] 29) :: (A5 ++ (A1 ++ AW) ++ (AC ++ (AL ++ [(b2, .cells #[.int .i64 0, .slice none 0 0, .slice none 0 0, .slice none 0 0] 29), (b1, .cells #[.int .i64 s.grid.wide, c, l, f] 29)]))), _, inferInstance, by omega, fv2, A5, A1 ++ AW, rfl, _, by simp [hr], g5, ?_⟩
    rw [take_succ_gt hk4]
    exact oa.snoc ⟨w, rfl, gw, by omega⟩
  · refine sf_exit ?_
    obtain rfl : k = s.feet.length := by omega
    rw [List.take_of_length_le (Nat.le_refl _)] at oa
    repeat first | refine R1 ?_ | refine R2 fun _ => ?_
    refine sf_ret (rO (AC ++ (AL ++ (A0 ++ A1))) ⟨_, rfl, ?_⟩)
    exact sceneO_mk (s := s) g1 (by omega) g2 (by omega) ⟨A0, A1, rfl, rs, gr, oa, by omega⟩
theorem l21Copy_f (h : PHeap) (ca : List Value) (p : Painter) (b : (painterR τ).B h ca p) (hs : szPainterN p ≤ 1048576) : CallF Tryz.prog M 39 [.agg ca.toArray] [] h fun u A => ∃ cs, u = .agg cs.toArray ∧ (painterR τ).O A cs p := by
  obtain ⟨c, l, f, rfl, s1, s2, s3⟩ := painterB b
  have o1 := s1.one
  have o2 := s2.one
  have o3 := s3.one
  refine Cs Tryz.func39 Tryz.ntmps39 ?_
  repeat first | refine R1 ?_ | refine R2 fun _ => ?_
  refine fp (y_call (l13Copy_f (M := M) _ _ p.scene (sceneB_mk s1 s2 s3) hs) (by rfl) ?_)
  rintro _ A1 ⟨cs, rfl, q⟩
  obtain ⟨c2, l2, f2, X1, X2, X3, rfl, rfl, ⟨g1, k1⟩, ⟨g2, k2⟩, g3⟩ := sceneO q
  have o4 := g1.one
  have o5 := g2.one
  have o6 := g3.one
  repeat first | refine R1 ?_ | refine R2 fun _ => ?_
  exact sf_ret (rO (X1 ++ (X2 ++ X3)) ⟨_, rfl, painterO_mk g1 k1 g2 k2 g3⟩)
theorem l13Do_f (h : PHeap) (c l f v : Value) (X1 X2 X3 : Own) (s : Scene) (e : Edit) (g1 : Gr X1 c 35 cellF s.grid.cells) (g2 : Gr X2 l 3 intF s.lights) (g3 : GrR (intSR τ) X3 f 26 s.feet) (sv : Sl h v editF [e]) (hg : gridOk s.grid = true) (he : editOk s.grid e = true) (hl : (s.lights.length : Int) = manyOf s.grid) (hf : (s.feet.length : Int) = manyOf s.grid) :
    CallF Tryz.prog M 66 [.agg #[.int .i64 s.grid.wide, c, l, f], v] (X1 ++ (X2 ++ X3)) h fun u A => ∃ w, u = .tuple #[.agg #[.int .i64 s.grid.wide, c, l, f], w] ∧ (sceneR τ).O A [.int .i64 s.grid.wide, c, l, f] (editScene s e) ∧ Sl.One w := by
  have kg := gok hg
  have hm := kg.many
  have hsm := kg.small
  have hg' := gridOk_put hg he
  have hmp := manyOf_put s.grid e
  have q : (sceneR τ).O (X1 ++ (X2 ++ X3)) [.int .i64 s.grid.wide, c, l, f] s := sceneO_mk g1 (by omega) g2 (by omega) g3
  have o1 := g1.one
  have o2 := g2.one
  have o3 := g3.one
  have o4 := sv.one
  have hea : 0 ≤ e.at' ∧ e.at' < s.grid.cells.length := by simp only [editOk, Bool.and_eq_true, decide_eq_true_eq] at he; omega
  obtain ⟨N, hN⟩ : ∃ N, s.feet.length = N := ⟨_, rfl⟩
  obtain ⟨ks, hks⟩ : ∃ ks, touched s.feet e.at' = ks := ⟨_, rfl⟩
  have hkl : ∀ k ∈ ks, k < N := fun k hk => by rw [← hks] at hk; rw [← hN]; exact touchTo_lt hk
  have hkn : ks.length ≤ N := by rw [← hks, ← hN]; exact touchTo_len _ _ _
  have eg : ∀ i, i < [e].length → gt [e] i = e := fun i hi => by
    obtain rfl : i = 0 := by simpa using hi
    rfl
  obtain ⟨F0, F1, rfl, rs, gr, oa, hb⟩ := id g3
  have hr := oa.len
  refine Cs Tryz.func66 Tryz.ntmps66 ?_
  repeat first | refine R1 ?_ | refine R2 fun _ => ?_
  rename_i b2 b4
  refine Xm fun vb AB gb => ?_
  have o5 := gb.one
  rw [show rs.length = N by omega] at gb
  repeat first | refine R1 ?_ | refine R2 fun _ => ?_
  refine Xb fun w7 A7 g7 => ?_
  have o6 := g7.one
  repeat first | refine R1 ?_ | refine R2 fun _ => ?_
  refine sf_lp (ι := Nat × List Bool) [1, 2, 4, 6, 7] (fun x => [(8, .int .i64 (x.1 : Int))]) (fun x O => x.1 ≤ 1 ∧ ∃ AB, O = AB ++ (A7 ++ ((b2, .cells #[.int .i64 s.grid.wide, c, l, f] 29) :: ((b4, .cells #[.int .i64 0, .slice none 0 0, .slice none 0 0, .slice none 0 0] 29) :: (X1 ++ (X2 ++ (F0 ++ F1)))))) ∧ Gr AB vb 4 boolF x.2 ∧ x.2.length = N ∧ (x.1 = 0 → ∀ k, k < N → gt x.2 k = false) ∧ (x.1 = 1 → ∀ k, k < N → gt x.2 k = decide (k ∈ ks))) (fun x => 1 - x.1) (0, List.replicate N false) (AB ++ (A7 ++ ((b2, .cells #[.int .i64 s.grid.wide, c, l, f] 29) :: ((b4, .cells #[.int .i64 0, .slice none 0 0, .slice none 0 0, .slice none 0 0] 29) :: (X1 ++ (X2 ++ (F0 ++ F1))))))) ⟨by simp only; omega, AB, rfl, gb, by simp, fun _ k hk => by simp [gt, hk], fun h0 => by cases h0⟩ ?_
  clear gb
  rintro ⟨i, bs⟩ O ⟨hi, AB, rfl, gb, hbl, hb0, hb1⟩
  simp only at hi gb hbl hb0 hb1 ⊢
  repeat first | refine R1 ?_ | refine R2 fun _ => ?_
  refine sf_if (fun h4 => ?_) fun h4 => ?_
  · have hi4 : i < [e].length := by simp only [List.length_cons, List.length_nil]; simp at h4; omega
    have ee := eg i hi4
    obtain rfl : i = 0 := by simpa using hi4
    repeat first | refine R1 ?_ | refine R2 fun _ => ?_
    refine Sd [[],[],[],[1,2],[1,2,3],[1,2,3,4],[0,1,2,3,4,5],[0,1,2,3,4,5,6]] 6 [Nn 0,Nn 1,Nn 2,Nn 3,Nn 4,Nn 5] ?_
    refine Da ?_
    refine Ae ?_
    refine fp (y_lend (X1 ++ (X2 ++ (F0 ++ F1))) (fun h' _ i' => l13Touch_f (M := M) h' _ s ((sceneR τ).lent q i') (by omega) e.at') (by rfl) ?_)
    rintro w9 AT gw
    rw [hks] at gw
    have o7 := gw.one
    repeat first | refine R1 ?_ | refine R2 fun _ => ?_
    refine sf_lp (ι := Nat × List Bool) [1, 2, 4, 6, 7, 8, 9] (fun x => [(10, .int .i64 (x.1 : Int))]) (fun x O => x.1 ≤ ks.length ∧ ∃ AB, O = AB ++ (AT ++ (A7 ++ ((b2, .cells #[.int .i64 s.grid.wide, c, l, f] 29) :: ((b4, .cells #[.int .i64 0, .slice none 0 0, .slice none 0 0, .slice none 0 0] 29) :: (X1 ++ (X2 ++ (F0 ++ F1))))))) ∧ Gr AB vb 4 boolF x.2 ∧ x.2.length = N ∧ ∀ k, k < N → gt x.2 k = decide (k ∈ ks.take x.1)) (fun x => ks.length - x.1) (0, bs) (AB ++ (AT ++ (A7 ++ ((b2, .cells #[.int .i64 s.grid.wide, c, l, f] 29) :: ((b4, .cells #[.int .i64 0, .slice none 0 0, .slice none 0 0, .slice none 0 0] 29) :: (X1 ++ (X2 ++ (F0 ++ F1)))))))) ⟨by simp only; omega, AB, rfl, gb, hbl, fun k hk => by simp only [hb0 rfl k hk]; simp⟩ ?_
    clear gb hb0 hb1 hbl
    rintro ⟨j, bs⟩ O ⟨hj, AB, rfl, gb, hbl, hb⟩
    simp only at hj gb hbl hb ⊢
    have hnl := natsI_len ks
    repeat first | refine R1 ?_ | refine R2 fun _ => ?_
    refine sf_if (fun h5 => ?_) fun h5 => ?_
    · have hj4 : j < ks.length := by omega
      have hj5 : j < (natsI ks).length := by omega
      have hz := natsI_at hj4
      have hz1 := hkl (gt ks j) (by rw [gt_eq hj4]; exact List.getElem_mem _)
      have hz0 : 0 ≤ gt (natsI ks) j := by omega
      have hz2 : gt (natsI ks) j < (bs.length : Int) := by omega
      repeat first | refine R1 ?_ | refine R2 fun _ => ?_ | refine fp (Rq ?_ (z_indexGI (by rfl) (by rfl) (by assumption) (by omega) (by omega)))
      refine Xg gb fun A2 ys hy hly fv gy => ?_
      repeat first | refine R1 ?_ | refine R2 fun _ => ?_
      refine ⟨(j + 1, ys), by simp only; omega, ⟨rfl, trivial⟩, rfl, A2 ++ (AT ++ (A7 ++ ((b2, .cells #[.int .i64 s.grid.wide, c, l, f] 29) :: ((b4, .cells #[.int .i64 0, .slice none 0 0, .slice none 0 0, .slice none 0 0] 29) :: (X1 ++ (X2 ++ (F0 ++ F1))))))), _, inferInstance, by simp only; omega, A2, rfl, gy, by simp only; omega, fun k hk => ?_⟩
      simp only
      rw [hy, take_succ_gt hj4]
      by_cases ek : (gt (natsI ks) j).toNat = k
      · subst ek
        rw [gt_set (by omega)]
        have : (gt (natsI ks) j).toNat = gt ks j := by omega
        simp [this]
      · rw [gt_set_ne ek, hb k hk]
        have : ¬ k = gt ks j := by omega
        simp [this]
    · refine sf_exit ?_
      obtain rfl : j = ks.length := by omega
      rw [List.take_of_length_le (Nat.le_refl _)] at hb
      repeat first | refine R1 ?_ | refine R2 fun _ => ?_
      exact ⟨(1, bs), by simp, ⟨rfl, trivial⟩, rfl, AB ++ (A7 ++ ((b2, .cells #[.int .i64 s.grid.wide, c, l, f] 29) :: ((b4, .cells #[.int .i64 0, .slice none 0 0, .slice none 0 0, .slice none 0 0] 29) :: (X1 ++ (X2 ++ (F0 ++ F1)))))), _, inferInstance, by simp, AB, rfl, gb, hbl, fun h0 => (by cases h0), fun _ => hb⟩
  refine sf_exit ?_
  obtain rfl : i = 1 := by simp at h4; omega
  have hb := hb1 rfl
  clear hb0 hb1
  repeat first | refine R1 ?_ | refine R2 fun _ => ?_
  refine sf_lp (ι := Nat × List Cell) [1, 2, 4, 6, 7] (fun x => [(11, .int .i64 (x.1 : Int))]) (fun x O => x.1 ≤ 1 ∧ ∃ X1, O = AB ++ (A7 ++ ((b2, .cells #[.int .i64 s.grid.wide, c, l, f] 29) :: ((b4, .cells #[.int .i64 0, .slice none 0 0, .slice none 0 0, .slice none 0 0] 29) :: (X1 ++ (X2 ++ (F0 ++ F1)))))) ∧ Gr X1 c 35 cellF x.2 ∧ (x.1 = 0 → x.2 = s.grid.cells) ∧ (x.1 = 1 → x.2 = (putCell s.grid e).cells)) (fun x => 1 - x.1) (0, s.grid.cells) (AB ++ (A7 ++ ((b2, .cells #[.int .i64 s.grid.wide, c, l, f] 29) :: ((b4, .cells #[.int .i64 0, .slice none 0 0, .slice none 0 0, .slice none 0 0] 29) :: (X1 ++ (X2 ++ (F0 ++ F1))))))) ⟨by simp, X1, rfl, g1, fun _ => rfl, fun h0 => by cases h0⟩ ?_
  clear q g1
  rintro ⟨i, cl⟩ O ⟨hi, X1, rfl, g1, hc0, hc1⟩
  simp only at hi g1 hc0 hc1 ⊢
  repeat first | refine R1 ?_ | refine R2 fun _ => ?_
  refine sf_if (fun h4 => ?_) fun h4 => ?_
  · have hi4 : i < [e].length := by simp only [List.length_cons, List.length_nil]; simp at h4; omega
    have ee := eg i hi4
    obtain rfl : i = 0 := by simpa using hi4
    obtain rfl := hc0 rfl
    have ha0 : 0 ≤ (gt [e] 0).at' := hea.1
    have ha1 : (gt [e] 0).at' < (s.grid.cells.length : Int) := hea.2
    repeat first | refine R1 ?_ | refine R2 fun _ => ?_
    refine Sd [[],[0],[0,1],[],[],[3,4],[3,4,5],[3,4,5,6],[],[],[8,9],[8,9,10],[8,9,10,11],[0,1,2,3,4,5,6,7,8,9,10,11,12],[0,1,2,3,4,5,6,7,8,9,10,11,12,13]] 13 [Nn 0,Nn 1,Nn 2,Nn 3,Nn 4,Nn 5,Nn 6,Nn 7,Nn 8,Nn 9,Nn 10,Nn 11,Nn 12] ?_
    refine Da ?_
    refine Ae ?_
    repeat first | refine R1 ?_ | refine R2 fun _ => ?_ | refine fp (Rq ?_ (z_indexGI (by rfl) (by rfl) (by assumption) (by omega) (by omega)))
    refine Xg g1 fun A2 ys hy hly fv gy => ?_
    repeat first | refine R1 ?_ | refine R2 fun _ => ?_
    exact ⟨(1, ys), by simp, ⟨rfl, trivial⟩, rfl, AB ++ (A7 ++ ((b2, .cells #[.int .i64 s.grid.wide, c, l, f] 29) :: ((b4, .cells #[.int .i64 0, .slice none 0 0, .slice none 0 0, .slice none 0 0] 29) :: (A2 ++ (X2 ++ (F0 ++ F1)))))), _, inferInstance, by simp, A2, rfl, gy, fun h0 => (by cases h0), fun _ => hy⟩
  refine sf_exit ?_
  obtain rfl : i = 1 := by simp at h4; omega
  obtain rfl := hc1 rfl
  clear hc0 hc1
  repeat first | refine R1 ?_ | refine R2 fun _ => ?_
  refine sf_lp (ι := Nat × Value) [2, 4, 6] (fun x => [(7, x.2), (12, .int .i64 (x.1 : Int))]) (fun x O => x.1 ≤ N ∧ ∃ A2 A3 AW, O = AW ++ (AB ++ ((b2, .cells #[.int .i64 s.grid.wide, c, l, f] 29) :: ((b4, .cells #[.int .i64 0, .slice none 0 0, .slice none 0 0, .slice none 0 0] 29) :: (X1 ++ (A2 ++ A3))))) ∧ Gr A2 l 3 intF (lookL (putCell s.grid e) (touchTo s.feet e.at' x.1) s.lights) ∧ GrR (intSR τ) A3 f 26 (lookF (putCell s.grid e) (touchTo s.feet e.at' x.1) s.feet) ∧ Gr AW x.2 3 intF (natsI (touchTo s.feet e.at' x.1))) (fun x => N - x.1) (0, w7) (A7 ++ (AB ++ ((b2, .cells #[.int .i64 s.grid.wide, c, l, f] 29) :: ((b4, .cells #[.int .i64 0, .slice none 0 0, .slice none 0 0, .slice none 0 0] 29) :: (X1 ++ (X2 ++ (F0 ++ F1))))))) ⟨by simp, X2, F0 ++ F1, A7, rfl, g2, g3, g7⟩ ?_
  clear g2 g3 g7 gr oa
  rintro ⟨k, w7⟩ O ⟨hk, A2, A3, AW, rfl, ga, gf, gx⟩
  simp only at hk ga gf gx ⊢
  have o7 := gx.one
  have hll := lookL_len (putCell s.grid e) (touchTo s.feet e.at' k) s.lights
  have hfl := lookF_len (putCell s.grid e) (touchTo s.feet e.at' k) s.feet
  have htl := touchTo_len s.feet e.at' k
  have hnl := natsI_len (touchTo s.feet e.at' k)
  repeat first | refine R1 ?_ | refine R2 fun _ => ?_
  refine sf_if (fun h4 => ?_) fun h4 => ?_
  · have hk4 : k < N := by omega
    have hk5 : k < bs.length := by omega
    repeat first | refine R1 ?_ | refine R2 fun _ => ?_
    rw [hb k hk4, ← hks]
    refine sf_if (fun h5 => ?_) fun h5 => ?_
    · have h6 := (mem_touched (by omega)).1 h5
      repeat first | refine R1 ?_ | refine R2 fun _ => ?_
      refine fp (y_lend X1 (fun h' _ i => l13Look_f (M := M) h' c (putCell s.grid e) (g1.lent (by rw [show (putCell s.grid e).cells.length = s.grid.cells.length by simp [putCell]]; omega) i) hg' l f A2 A3 _ _ ga gf k (by omega) (by omega) (by omega)) (by rfl) ?_)
      rintro u0 _ ⟨A5, A6, e1, rfl, ga2, gf2⟩
      have e2 : u0 = .agg #[.int .i64 s.grid.wide, c, l, f] := e1
      subst e2
      repeat first | refine R1 ?_ | refine R2 fun _ => ?_
      refine Xb fun u Au gu => ?_
      repeat first | refine R1 ?_ | refine R2 fun _ => ?_
      refine Xa gx gu fun w2 A4 g4 => ?_
      repeat first | refine R1 ?_ | refine R2 fun _ => ?_
      refine ⟨(k + 1, w2), by simp only; omega, ⟨rfl, rfl, trivial⟩, rfl, A4 ++ (AB ++ ((b2, .cells #[.int .i64 s.grid.wide, c, l, f] 29) :: ((b4, .cells #[.int .i64 0, .slice none 0 0, .slice none 0 0, .slice none 0 0] 29) :: (X1 ++ (A5 ++ A6))))), _, inferInstance, by simp only; omega, A5, A6, A4, rfl, ?_, ?_, ?_⟩
      · simp only; rw [touchTo_step, if_pos h6, lookL_snoc]; exact ga2
      · simp only; rw [touchTo_step, if_pos h6, lookF_snoc]; exact gf2
      · simp only; rw [touchTo_step, if_pos h6, natsI_snoc]; exact g4
    · have h6 : ¬ e.at' ∈ gt s.feet k := fun z => h5 ((mem_touched (by omega)).2 z)
      repeat first | refine R1 ?_ | refine R2 fun _ => ?_
      refine ⟨(k + 1, w7), by simp only; omega, ⟨rfl, rfl, trivial⟩, rfl, AW ++ (AB ++ ((b2, .cells #[.int .i64 s.grid.wide, c, l, f] 29) :: ((b4, .cells #[.int .i64 0, .slice none 0 0, .slice none 0 0, .slice none 0 0] 29) :: (X1 ++ (A2 ++ A3))))), _, inferInstance, by simp only; omega, A2, A3, AW, rfl, ?_, ?_, ?_⟩
      · simp only; rw [touchTo_step, if_neg h6]; exact ga
      · simp only; rw [touchTo_step, if_neg h6]; exact gf
      · simp only; rw [touchTo_step, if_neg h6]; exact gx
  · refine sf_exit ?_
    obtain rfl : k = N := by omega
    subst hN
    repeat first | refine R1 ?_ | refine R2 fun _ => ?_
    refine sf_ret (rO (X1 ++ (A2 ++ A3)) ⟨_, rfl, ?_, o7⟩)
    exact sceneO_mk (s := editScene s e) g1 (by simp only [editScene, putCell, List.length_set]; omega) ga (by simp only [editScene]; rw [lookL_len]; omega) gf
theorem sNoWordO' : (wordR τ).O [] (wordCs noWord (.slice none 0 0) (.slice none 0 0)) noWord := wordO_mk (w := noWord) (Gr.nil _ _) (by decide) (Gr.nil _ _) (by decide)
theorem l21Tell_f (h : PHeap) (ca : List Value) (p : Painter) (b : (painterR τ).B h ca p) (ok : paintOk p = true) (id many : Int) (hid : idOk id many = true) : CallF Tryz.prog M 29 [.agg ca.toArray, .int .i64 id, .int .i64 many] [] h fun u A => ∃ cs, u = .tuple #[.agg cs.toArray, .bool (paintTold p id many).2] ∧ (wordR τ).O A cs (paintTold p id many).1 := by
  obtain ⟨c, l, f, rfl, s1, s2, s3⟩ := painterB b
  have o1 := s1.one
  have o2 := s2.one
  have o3 := s3.one
  simp only [idOk, Bool.and_eq_true, decide_eq_true_eq] at hid
  refine Cs Tryz.func29 Tryz.ntmps29 ?_
  repeat first | refine R1 ?_ | refine R2 fun _ => ?_
  refine sf_cond (by rfl) (fun e1 => ?_) fun e1 => ?_
  · simp only [Bool.not_eq_true'] at e1
    repeat first | refine R1 ?_ | refine R2 fun _ => ?_
    rw [paintTold, if_pos e1]
    exact sf_ret (rO [] ⟨_, rfl, sNoWordO'⟩)
  simp only [Bool.not_eq_false'] at e1
  repeat first | refine R1 ?_ | refine R2 fun _ => ?_
  refine sf_cond (by rfl) (fun e2 => ?_) fun e2 => ?_
  · simp only [Bool.not_eq_true'] at e2
    repeat first | refine R1 ?_ | refine R2 fun _ => ?_
    rw [paintTold, if_neg (by rw [e1]; decide), if_pos e2]
    exact sf_ret (rO [] ⟨wordCs ⟨4, 0, id, 0, noGrid, noEdit, []⟩ (.slice none 0 0) (.slice none 0 0), rfl, wordO_mk (w := ⟨4, 0, id, 0, noGrid, noEdit, []⟩) (Gr.nil _ _) (by simp [noGrid]) (Gr.nil _ _) (by simp)⟩)
  simp only [Bool.not_eq_false'] at e2
  obtain ⟨hup, hv0, hv1, hsc⟩ := paintOk_has ok e2
  obtain ⟨hg, hs⟩ := sceneOk_is hsc
  have kg := gok hg
  have hm := kg.many
  obtain ⟨N, hN⟩ : ∃ N : Nat, manyOf p.scene.grid = N := ⟨(manyOf p.scene.grid).toNat, by omega⟩
  have hll : p.scene.lights.length = N := by rw [hs]; simp only [sceneOf]; rw [picOf_len, hN]; simp
  obtain ⟨i, rfl⟩ : ∃ i : Nat, id = i := ⟨id.toNat, by omega⟩
  obtain ⟨m, rfl⟩ : ∃ m : Nat, many = m := ⟨many.toNat, by omega⟩
  have hres : paintTold p i m = (⟨3, 0, i, p.ver, noGrid, noEdit, ownLights p.scene.lights N m i⟩, true) := by
    rw [paintTold, if_neg (by rw [e1]; decide), if_neg (by rw [e2]; decide), hN]; simp
  rw [hres]
  repeat first | refine R1 ?_ | refine R2 fun _ => ?_
  rename_i b3 b6
  refine Xb fun lv0 AL0 gl0 => ?_
  have ol0 := gl0.one
  repeat first | refine R1 ?_ | refine R2 fun _ => ?_
  rename_i b8
  refine fp (y_call (l21Own_f (M := M) _ _ p.scene.grid s1 kg i m (by omega) (by omega) (by omega)) (by rfl) ?_)
  intro w AW gw
  have ow := gw.one
  rw [hN] at gw
  simp only [Int.toNat_natCast] at gw
  have lw := ownList_len N m i
  have hc : ∀ j, j < ownCnt N m i ↔ i - 1 + j * m < N := fun j => ownCnt_lt (by omega) (by omega) (by omega)
  have hln : ownCnt N m i ≤ 20 := by
    rcases Nat.lt_or_ge 20 (ownCnt N m i) with h | h
    · have := (hc 20).1 h
      have : 20 * 1 ≤ 20 * m := Nat.mul_le_mul_left _ (by omega)
      omega
    · exact h
  have hat : ∀ j, j < ownCnt N m i → gt (ownList N m i) j = ((i - 1 + j * m : Nat) : Int) := fun j hj => ownList_at hj
  unfold ownLights
  generalize hxs : ownList N m i = xs at *
  repeat first | refine R1 ?_ | refine R2 fun _ => ?_
  refine sf_lp (ι := Nat) [3, 6, 8, 9] (fun x => [(10, .int .i64 (x : Int))]) (fun x O => x ≤ xs.length ∧ ∃ lv A', O = (b8, .cells #[.int .i64 3, .int .i64 0, .int .i64 (i : Int), .int .i64 p.ver, .int .i64 0, .slice none 0 0, .int .i64 0, .int .i64 0, .int .i64 0, lv] 39) :: (A' ++ (AW ++ [(b6, .cells #[.int .i64 0, .int .i64 0, .int .i64 0, .int .i64 0, .int .i64 0, .slice none 0 0, .int .i64 0, .int .i64 0, .int .i64 0, .slice none 0 0] 39), (b3, .cells #[.bool p.up, .bool p.has, .int .i64 p.ver, .int .i64 p.scene.grid.wide, c, l, f] 31)])) ∧ Gr A' lv 3 intF ((xs.take x).map fun k => gt p.scene.lights k.toNat)) (fun x => xs.length - x) 0 ((b8, .cells #[.int .i64 3, .int .i64 0, .int .i64 (i : Int), .int .i64 p.ver, .int .i64 0, .slice none 0 0, .int .i64 0, .int .i64 0, .int .i64 0, lv0] 39) :: (AL0 ++ (AW ++ [(b6, .cells #[.int .i64 0, .int .i64 0, .int .i64 0, .int .i64 0, .int .i64 0, .slice none 0 0, .int .i64 0, .int .i64 0, .int .i64 0, .slice none 0 0] 39), (b3, .cells #[.bool p.up, .bool p.has, .int .i64 p.ver, .int .i64 p.scene.grid.wide, c, l, f] 31)]))) ⟨by omega, _, AL0, rfl, gl0⟩ ?_
  rintro j O ⟨hj, lv, A', rfl, gr⟩
  have o4 := gr.one
  have hlt : ((xs.take j).map fun k => gt p.scene.lights k.toNat).length = j := by rw [List.length_map, List.length_take]; omega
  repeat first | refine R1 ?_ | refine R2 fun _ => ?_
  refine sf_if (fun h4 => ?_) fun h4 => ?_
  · have hj4 : j < ownCnt N m i := by omega
    have ha := hat j hj4
    have hb := (hc j).1 hj4
    have hstep : ((xs.take (j + 1)).map fun k => gt p.scene.lights k.toNat) = ((xs.take j).map fun k => gt p.scene.lights k.toNat) ++ [gt p.scene.lights (gt xs j).toNat] := by
      rw [take_succ_gt (by omega), List.map_append]; rfl
    have hz0 : 0 ≤ gt xs j := by omega
    have hz1 : (gt xs j).toNat < p.scene.lights.length := by omega
    repeat first | refine R1 ?_ | refine R2 fun _ => ?_
    refine Sd [[],[0],[],[2],[2,3],[],[],[5,6],[5,6,7],[2,3,4,5,6,7,8],[2,3,4,5,6,7,8,9],[2,3,4,5,6,7,8,9,10],[0,1,2,3,4,5,6,7,8,9,10,11],[0,1,2,3,4,5,6,7,8,9,10,11,12],[0,1,2,3,4,5,6,7,8,9,10,11,12,13]] 12 [Nn 0,Nn 1,Nn 2,Nn 3,Nn 4,Nn 5,Nn 6,Nn 7,Nn 8,Nn 9,Nn 10,Yy 11] ?_
    refine Da ?_
    refine Yb fun u Au gu => ?_
    refine Da ?_
    refine Ae ?_
    refine Xa gr gu fun lv2 A2 g2 => ?_
    have o5 := g2.one
    repeat first | refine R1 ?_ | refine R2 fun _ => ?_
    exact ⟨j + 1, by omega, ⟨rfl, trivial⟩, rfl, (b8, .cells #[.int .i64 3, .int .i64 0, .int .i64 (i : Int), .int .i64 p.ver, .int .i64 0, .slice none 0 0, .int .i64 0, .int .i64 0, .int .i64 0, lv2] 39) :: (A2 ++ (AW ++ [(b6, .cells #[.int .i64 0, .int .i64 0, .int .i64 0, .int .i64 0, .int .i64 0, .slice none 0 0, .int .i64 0, .int .i64 0, .int .i64 0, .slice none 0 0] 39), (b3, .cells #[.bool p.up, .bool p.has, .int .i64 p.ver, .int .i64 p.scene.grid.wide, c, l, f] 31)])), _, inferInstance, by omega, lv2, A2, rfl, by rw [hstep]; exact g2⟩
  · refine sf_exit ?_
    repeat first | refine R1 ?_ | refine R2 fun _ => ?_
    rw [take_ge hj (by omega)] at gr
    refine sf_ret (rO ([] ++ A') ⟨wordCs ⟨3, 0, i, p.ver, noGrid, noEdit, xs.map fun k => gt p.scene.lights k.toNat⟩ (.slice none 0 0) lv, rfl, ?_⟩)
    exact wordO_mk (τ := τ) (w := ⟨3, 0, i, p.ver, noGrid, noEdit, xs.map fun k => gt p.scene.lights k.toNat⟩) (Gr.nil _ _) (by simp [noGrid]) gr (by simp; omega)
theorem painterO_sc {A : Own} {cs : List Value} {sc : Scene} (q : (sceneR τ).O A cs sc) (u hs : Bool) (v : Int) : (painterR τ).O A (.bool u :: .bool hs :: .int .i64 v :: cs) ⟨u, hs, v, sc⟩ := by
  obtain ⟨c, l, f, A1, A2, A3, rfl, rfl, ⟨g1, j1⟩, ⟨g2, j2⟩, g3⟩ := sceneO q
  exact painterO_mk (p := ⟨u, hs, v, sc⟩) g1 j1 g2 j2 g3
theorem l21Hear_f (h : PHeap) (cb : List Value) (p : Painter) (w : Word) (c l f : Value) (X1 X2 X3 : Own) (g1 : Gr X1 c 35 cellF p.scene.grid.cells) (g2 : Gr X2 l 3 intF p.scene.lights) (g3 : GrR (intSR τ) X3 f 26 p.scene.feet) (ok : paintOk p = true) (hs : szPainterN p ≤ 1048576) (bw : (wordR τ).B h cb w) :
    CallF Tryz.prog M 38 [.agg #[.bool p.up, .bool p.has, .int .i64 p.ver, .int .i64 p.scene.grid.wide, c, l, f], .agg cb.toArray] (X1 ++ (X2 ++ X3)) h fun u A => ∃ cs, u = .agg cs.toArray ∧ (painterR τ).O A cs (paintHeard p w) := by
  have hs' := hs
  simp only [szPainterN, szSceneN, szIntSSN] at hs'
  have qs : (sceneR τ).O (X1 ++ (X2 ++ X3)) _ p.scene := sceneO_mk g1 (by omega) g2 (by omega) g3
  have qp : (painterR τ).O (X1 ++ (X2 ++ X3)) _ p := painterO_mk g1 (by omega) g2 (by omega) g3
  have o1 := g1.one
  have o2 := g2.one
  have o3 := g3.one
  obtain ⟨wc, wl, ecb, sw1, sw2⟩ := wordB bw
  have ecb' : cb = [.int .i64 w.kind, .int .i64 w.to, .int .i64 w.frm, .int .i64 w.ver, .int .i64 w.grid.wide, wc, .int .i64 w.edit.at', .int .i64 w.edit.cell.kind, .int .i64 w.edit.cell.light, wl] := ecb
  subst ecb'
  clear ecb
  have o4 := sw1.one
  have o5 := sw2.one
  refine Cs Tryz.func38 Tryz.ntmps38 ?_
  repeat first | refine R1 ?_ | refine R2 fun _ => ?_
  refine sf_cond (by rfl) (fun e => ?_) fun e => ?_
  · simp only [Bool.not_eq_true'] at e
    repeat first | refine R1 ?_ | refine R2 fun _ => ?_
    rw [heard_up e]
    exact sf_ret (rO (X1 ++ (X2 ++ X3)) ⟨_, rfl, qp⟩)
  simp only [Bool.not_eq_false'] at e
  repeat first | refine R1 ?_ | refine R2 fun _ => ?_
  refine sf_if (fun e1 => ?_) fun e1 => ?_
  · rw [heard1 e e1]
    repeat first | refine R1 ?_ | refine R2 fun _ => ?_
    refine fp (y_call (sSceneNew_f (M := M) _ _ w.grid (gridB_mk sw1)) (by rfl) ?_)
    rintro _ A1 ⟨cs, rfl, q⟩
    by_cases eg : gridOk w.grid = true
    · have en : sceneNew w.grid = (sceneOf w.grid, true) := by rw [sceneNew, if_pos eg]
      rw [en] at q ⊢
      obtain ⟨c2, l2, f2, Y1, Y2, Y3, rfl, rfl, ⟨k1, j1⟩, ⟨k2, j2⟩, k3⟩ := sceneO q
      have o6 := k1.one
      have o7 := k2.one
      have o8 := k3.one
      simp only at k1 k2 k3 j1 j2 q ⊢
      repeat first | refine R1 ?_ | refine R2 fun _ => ?_
      refine Xv (l6In_v _ _ _ _) ?_
      repeat first | refine R1 ?_ | refine R2 fun _ => ?_
      refine f_splitB (fun e2 => ?_) fun e2 => ?_
      · repeat first | refine R1 ?_ | refine R2 fun _ => ?_
        refine f_splitB (fun e3 => ?_) fun e3 => ?_
        · have e3' : p.has = false := by simpa using e3
          repeat first | refine R1 ?_ | refine R2 fun _ => ?_
          refine sf_cond (by rfl) (fun e4 => ?_) fun e4 => ?_
          · repeat first | refine R1 ?_ | refine R2 fun _ => ?_
            rw [if_pos ⟨by simpa using e2, fun z => by (rw [e3'] at z; cases z), eg⟩]
            exact sf_ret (rO (Y1 ++ (Y2 ++ Y3)) ⟨_, rfl, painterO_mk (p := ⟨true, true, w.ver, sceneOf w.grid⟩) k1 j1 k2 j2 k3⟩)
          · simp [e2, e3] at e4
        · have e3' : p.has = true := by simpa using e3
          repeat first | refine R1 ?_ | refine R2 fun _ => ?_
          refine sf_cond (by rfl) (fun e4 => ?_) fun e4 => ?_
          · repeat first | refine R1 ?_ | refine R2 fun _ => ?_
            rw [if_pos ⟨by simpa using e2, fun _ => by simpa using e4, eg⟩]
            exact sf_ret (rO (Y1 ++ (Y2 ++ Y3)) ⟨_, rfl, painterO_mk (p := ⟨true, true, w.ver, sceneOf w.grid⟩) k1 j1 k2 j2 k3⟩)
          · repeat first | refine R1 ?_ | refine R2 fun _ => ?_
            rw [if_neg (fun z => by have := z.2.1 e3'; simp at e4; omega)]
            exact sf_ret (rO (X1 ++ (X2 ++ X3)) ⟨_, rfl, qp⟩)
      · repeat first | refine R1 ?_ | refine R2 fun _ => ?_
        refine sf_cond (by rfl) (fun e4 => ?_) fun e4 => ?_
        · simp [e2] at e4
        repeat first | refine R1 ?_ | refine R2 fun _ => ?_
        rw [if_neg (fun z => by have := z.1; simp at e2; omega)]
        exact sf_ret (rO (X1 ++ (X2 ++ X3)) ⟨_, rfl, qp⟩)
    · have en : sceneNew w.grid = (noScene, false) := by rw [sceneNew, if_neg eg]
      rw [en] at q ⊢
      obtain ⟨c2, l2, f2, Y1, Y2, Y3, rfl, rfl, ⟨k1, j1⟩, ⟨k2, j2⟩, k3⟩ := sceneO q
      have o6 := k1.one
      have o7 := k2.one
      have o8 := k3.one
      simp only at k1 k2 k3 j1 j2 q ⊢
      repeat first | refine R1 ?_ | refine R2 fun _ => ?_
      refine sf_cond (by rfl) (fun e4 => ?_) fun e4 => ?_
      · simp at e4
      repeat first | refine R1 ?_ | refine R2 fun _ => ?_
      rw [if_neg (fun z => eg z.2.2)]
      exact sf_ret (rO (X1 ++ (X2 ++ X3)) ⟨_, rfl, qp⟩)
  repeat first | refine R1 ?_ | refine R2 fun _ => ?_
  refine sf_if (fun e2 => ?_) fun e2 => ?_
  · rw [heard2 e e2]
    repeat first | refine R1 ?_ | refine R2 fun _ => ?_
    refine f_splitB (fun e3 => ?_) fun e3 => ?_
    · obtain ⟨-, hv0, hv1, hsc⟩ := paintOk_has ok e3
      obtain ⟨hgk, hse⟩ := sceneOk_is hsc
      repeat first | refine R1 ?_ | refine R2 fun _ => ?_
      refine f_split (fun e4 => ?_) fun e4 => ?_
      · repeat first | refine R1 ?_ | refine R2 fun _ => ?_
        refine f_split (fun e5 => ?_) fun e5 => ?_
        · repeat first | refine R1 ?_ | refine R2 fun _ => ?_
          refine Xb fun ev AE ge => ?_
          have o6 := ge.one
          repeat first | refine R1 ?_ | refine R2 fun _ => ?_
          refine fp (y_lendV (X1 ++ AE) (fun h' _ i => l13Edits_v (M := M) h' c p.scene.grid (g1.lent (by omega) (inb_l i)) ev [w.edit] (ge.lent (by simp) (inb_r i))) (by rfl) ?_)
          rw [editsOk_one]
          repeat first | refine R1 ?_ | refine R2 fun _ => ?_
          refine sf_cond (by rfl) (fun e6 => ?_) fun e6 => ?_
          · have e6' : editOk p.scene.grid w.edit = true := by simpa using e6
            have hfl : p.scene.feet = feetOf p.scene.grid := congrArg Scene.feet hse
            have hll : p.scene.lights = picOf p.scene.grid := congrArg Scene.lights hse
            have hm := (gok hgk).many
            rw [if_pos ⟨e3, e5, by omega, e6'⟩]
            repeat first | refine R1 ?_ | refine R2 fun _ => ?_
            refine sf_draw (by kernel_rfl) (regX_own (X1 ++ (X2 ++ X3)) (regX_split 2 5 (by rfl) (regX_split 2 10 (by rfl) (regX_split 5 10 (by rfl) (regX_split 6 10 (by rfl) ?_ ?_) ?_) ?_) (regX_split 2 10 (by rfl) (regX_split 6 10 (by rfl) ?_ ?_) (regX_split 5 10 (by rfl) ?_ ?_))))
            case' refine_1 =>
              refine Sw [[],[0],[0,1],[],[3],[0,1,2,3,4],[0,1,2,3,4,5],[0,1,2,3,4,5,6],[0,1,2,3,4,5,6,7],[0,1,2,3,4,5,6,7],[0,1,2,3,4,5,6],[0,1,2,3,4,5,6,7,8,10],[0,1,2,3,4,5,6,7,8,9,10,11]] 12 [Nn 0,Nn 1,Nn 3,Nn 4,Yy 2,Yy 5,Yy 6,Nn 7,Nn 8,Nn 9,Yy 10,Yy 11] ?_
              refine Da ?_
              refine Yc (lendF (X1 ++ (X2 ++ X3)) fun h' l' i => l13Copy_f (M := M) h' _ p.scene ((sceneR τ).lent qs i) hs) ?_
              rintro _ _ ⟨AX, rfl, cs, rfl, q⟩
              obtain ⟨c2, l2, f2, Y1, Y2, Y3, rfl, rfl, ⟨k1, j1⟩, ⟨k2, j2⟩, k3⟩ := sceneO q
              have o7 := k1.one
              have o8 := k2.one
              have o9 := k3.one
              refine Da ?_
              refine Yb fun ev AE ge => ?_
              have o10 := ge.one
              refine Da ?_
              refine Yc (lendF AE fun h' l' i => l13Do_f (M := M) h' c2 l2 f2 ev Y1 Y2 Y3 p.scene w.edit k1 k2 k3 (ge.lent (by simp) i) hgk e6' (by rw [hll, picOf_len]; omega) (by rw [hfl, feetOf_len]; omega)) ?_
              rintro _ _ ⟨A5, rfl, w2, rfl, q5, ow⟩
              refine Da ?_
              refine Yl fun b7 => ?_
              refine Da ?_
              refine a_store (by rfl) (by rfl) (by rfl) (.inl rfl) ?_
              refine Da ?_
              refine Ae ?_
              repeat first | refine R1 ?_ | refine R2 fun _ => ?_
              exact sf_ret (rO A5 ⟨_, rfl, painterO_sc q5 _ _ _⟩)
            case' refine_2 =>
              refine Sw [[],[0],[0,1],[],[3],[0,1,2,3,4],[0,1,2,3,4,5,10],[0,1,2,3,4,5,6,10],[0,1,2,3,4,5,6,7,10],[0,1,2,3,4,5,6,7,10],[0,1,2,3,4,5],[0,1,2,3,4,5,6,7,8,10],[0,1,2,3,4,5,6,7,8,9,10,11]] 12 [Nn 0,Nn 1,Nn 3,Nn 4,Yy 2,Yy 5,Yy 10,Yy 6,Nn 7,Nn 8,Nn 9,Yy 11] ?_
              refine Da ?_
              refine Yc (lendF (X1 ++ (X2 ++ X3)) fun h' l' i => l13Copy_f (M := M) h' _ p.scene ((sceneR τ).lent qs i) hs) ?_
              rintro _ _ ⟨AX, rfl, cs, rfl, q⟩
              obtain ⟨c2, l2, f2, Y1, Y2, Y3, rfl, rfl, ⟨k1, j1⟩, ⟨k2, j2⟩, k3⟩ := sceneO q
              have o7 := k1.one
              have o8 := k2.one
              have o9 := k3.one
              refine Da ?_
              refine Yb fun ev AE ge => ?_
              have o10 := ge.one
              refine Da ?_
              refine Yl fun b7 => ?_
              refine Da ?_
              refine Yc (lendF AE fun h' l' i => l13Do_f (M := M) h' c2 l2 f2 ev Y1 Y2 Y3 p.scene w.edit k1 k2 k3 (ge.lent (by simp) i) hgk e6' (by rw [hll, picOf_len]; omega) (by rw [hfl, feetOf_len]; omega)) ?_
              rintro _ _ ⟨A5, rfl, w2, rfl, q5, ow⟩
              refine Da ?_
              refine a_store (by rfl) (by rfl) (by rfl) (.inl rfl) ?_
              refine Da ?_
              refine Ae ?_
              repeat first | refine R1 ?_ | refine R2 fun _ => ?_
              exact sf_ret (rO A5 ⟨_, rfl, painterO_sc q5 _ _ _⟩)
            case' refine_3 =>
              refine Sw [[],[0],[0,1],[],[3],[0,1,2,3,4,10],[0,1,2,3,4,5,10],[0,1,2,3,4,5,6,10],[0,1,2,3,4,5,6,7,10],[0,1,2,3,4,5,6,7,10],[0,1,2],[0,1,2,3,4,5,6,7,8,10],[0,1,2,3,4,5,6,7,8,9,10,11]] 12 [Nn 0,Nn 1,Nn 3,Nn 4,Yy 2,Yy 10,Yy 5,Yy 6,Nn 7,Nn 8,Nn 9,Yy 11] ?_
              refine Da ?_
              refine Yc (lendF (X1 ++ (X2 ++ X3)) fun h' l' i => l13Copy_f (M := M) h' _ p.scene ((sceneR τ).lent qs i) hs) ?_
              rintro _ _ ⟨AX, rfl, cs, rfl, q⟩
              obtain ⟨c2, l2, f2, Y1, Y2, Y3, rfl, rfl, ⟨k1, j1⟩, ⟨k2, j2⟩, k3⟩ := sceneO q
              have o7 := k1.one
              have o8 := k2.one
              have o9 := k3.one
              refine Da ?_
              refine Yl fun b7 => ?_
              refine Da ?_
              refine Yb fun ev AE ge => ?_
              have o10 := ge.one
              refine Da ?_
              refine Yc (lendF AE fun h' l' i => l13Do_f (M := M) h' c2 l2 f2 ev Y1 Y2 Y3 p.scene w.edit k1 k2 k3 (ge.lent (by simp) i) hgk e6' (by rw [hll, picOf_len]; omega) (by rw [hfl, feetOf_len]; omega)) ?_
              rintro _ _ ⟨A5, rfl, w2, rfl, q5, ow⟩
              refine Da ?_
              refine a_store (by rfl) (by rfl) (by rfl) (.inl rfl) ?_
              refine Da ?_
              refine Ae ?_
              repeat first | refine R1 ?_ | refine R2 fun _ => ?_
              exact sf_ret (rO A5 ⟨_, rfl, painterO_sc q5 _ _ _⟩)
            case' refine_4 =>
              refine Sw [[],[0],[0,1,10],[],[3],[0,1,2,3,4,10],[0,1,2,3,4,5,10],[0,1,2,3,4,5,6,10],[0,1,2,3,4,5,6,7,10],[0,1,2,3,4,5,6,7,10],[],[0,1,2,3,4,5,6,7,8,10],[0,1,2,3,4,5,6,7,8,9,10,11]] 12 [Nn 0,Nn 1,Nn 3,Nn 4,Yy 10,Yy 2,Yy 5,Yy 6,Nn 7,Nn 8,Nn 9,Yy 11] ?_
              refine Da ?_
              refine Yl fun b7 => ?_
              refine Da ?_
              refine Yc (lendF (X1 ++ (X2 ++ X3)) fun h' l' i => l13Copy_f (M := M) h' _ p.scene ((sceneR τ).lent qs i) hs) ?_
              rintro _ _ ⟨AX, rfl, cs, rfl, q⟩
              obtain ⟨c2, l2, f2, Y1, Y2, Y3, rfl, rfl, ⟨k1, j1⟩, ⟨k2, j2⟩, k3⟩ := sceneO q
              have o7 := k1.one
              have o8 := k2.one
              have o9 := k3.one
              refine Da ?_
              refine Yb fun ev AE ge => ?_
              have o10 := ge.one
              refine Da ?_
              refine Yc (lendF AE fun h' l' i => l13Do_f (M := M) h' c2 l2 f2 ev Y1 Y2 Y3 p.scene w.edit k1 k2 k3 (ge.lent (by simp) i) hgk e6' (by rw [hll, picOf_len]; omega) (by rw [hfl, feetOf_len]; omega)) ?_
              rintro _ _ ⟨A5, rfl, w2, rfl, q5, ow⟩
              refine Da ?_
              refine a_store (by rfl) (by rfl) (by rfl) (.inl rfl) ?_
              refine Da ?_
              refine Ae ?_
              repeat first | refine R1 ?_ | refine R2 fun _ => ?_
              exact sf_ret (rO A5 ⟨_, rfl, painterO_sc q5 _ _ _⟩)
            case' refine_5 =>
              refine Sw [[],[0],[0,1,3,4,5],[],[3],[3,4],[0,1,2,3,4,5],[0,1,2,3,4,5,6],[0,1,2,3,4,5,6,7],[0,1,2,3,4,5,6,7],[0,1,2,3,4,5,6],[0,1,2,3,4,5,6,7,8,10],[0,1,2,3,4,5,6,7,8,9,10,11]] 12 [Nn 0,Nn 1,Nn 3,Nn 4,Yy 5,Yy 2,Yy 6,Nn 7,Nn 8,Nn 9,Yy 10,Yy 11] ?_
              refine Da ?_
              refine Yb fun ev AE ge => ?_
              have o10 := ge.one
              refine Da ?_
              refine Yc (lendF (X1 ++ (X2 ++ X3)) fun h' l' i => l13Copy_f (M := M) h' _ p.scene ((sceneR τ).lent qs i) hs) ?_
              rintro _ _ ⟨AX, rfl, cs, rfl, q⟩
              obtain ⟨c2, l2, f2, Y1, Y2, Y3, rfl, rfl, ⟨k1, j1⟩, ⟨k2, j2⟩, k3⟩ := sceneO q
              have o7 := k1.one
              have o8 := k2.one
              have o9 := k3.one
              refine Da ?_
              refine Yc (lendF AE fun h' l' i => l13Do_f (M := M) h' c2 l2 f2 ev Y1 Y2 Y3 p.scene w.edit k1 k2 k3 (ge.lent (by simp) i) hgk e6' (by rw [hll, picOf_len]; omega) (by rw [hfl, feetOf_len]; omega)) ?_
              rintro _ _ ⟨A5, rfl, w2, rfl, q5, ow⟩
              refine Da ?_
              refine Yl fun b7 => ?_
              refine Da ?_
              refine a_store (by rfl) (by rfl) (by rfl) (.inl rfl) ?_
              refine Da ?_
              refine Ae ?_
              repeat first | refine R1 ?_ | refine R2 fun _ => ?_
              exact sf_ret (rO A5 ⟨_, rfl, painterO_sc q5 _ _ _⟩)
            case' refine_6 =>
              refine Sw [[],[0],[0,1,3,4,5],[],[3],[3,4],[0,1,2,3,4,5,10],[0,1,2,3,4,5,6,10],[0,1,2,3,4,5,6,7,10],[0,1,2,3,4,5,6,7,10],[0,1,2,3,4,5],[0,1,2,3,4,5,6,7,8,10],[0,1,2,3,4,5,6,7,8,9,10,11]] 12 [Nn 0,Nn 1,Nn 3,Nn 4,Yy 5,Yy 2,Yy 10,Yy 6,Nn 7,Nn 8,Nn 9,Yy 11] ?_
              refine Da ?_
              refine Yb fun ev AE ge => ?_
              have o10 := ge.one
              refine Da ?_
              refine Yc (lendF (X1 ++ (X2 ++ X3)) fun h' l' i => l13Copy_f (M := M) h' _ p.scene ((sceneR τ).lent qs i) hs) ?_
              rintro _ _ ⟨AX, rfl, cs, rfl, q⟩
              obtain ⟨c2, l2, f2, Y1, Y2, Y3, rfl, rfl, ⟨k1, j1⟩, ⟨k2, j2⟩, k3⟩ := sceneO q
              have o7 := k1.one
              have o8 := k2.one
              have o9 := k3.one
              refine Da ?_
              refine Yl fun b7 => ?_
              refine Da ?_
              refine Yc (lendF AE fun h' l' i => l13Do_f (M := M) h' c2 l2 f2 ev Y1 Y2 Y3 p.scene w.edit k1 k2 k3 (ge.lent (by simp) i) hgk e6' (by rw [hll, picOf_len]; omega) (by rw [hfl, feetOf_len]; omega)) ?_
              rintro _ _ ⟨A5, rfl, w2, rfl, q5, ow⟩
              refine Da ?_
              refine a_store (by rfl) (by rfl) (by rfl) (.inl rfl) ?_
              refine Da ?_
              refine Ae ?_
              repeat first | refine R1 ?_ | refine R2 fun _ => ?_
              exact sf_ret (rO A5 ⟨_, rfl, painterO_sc q5 _ _ _⟩)
            case' refine_7 =>
              refine Sw [[],[0],[0,1,3,4,5,10],[],[3],[3,4],[0,1,2,3,4,5,10],[0,1,2,3,4,5,6,10],[0,1,2,3,4,5,6,7,10],[0,1,2,3,4,5,6,7,10],[3,4,5],[0,1,2,3,4,5,6,7,8,10],[0,1,2,3,4,5,6,7,8,9,10,11]] 12 [Nn 0,Nn 1,Nn 3,Nn 4,Yy 5,Yy 10,Yy 2,Yy 6,Nn 7,Nn 8,Nn 9,Yy 11] ?_
              refine Da ?_
              refine Yb fun ev AE ge => ?_
              have o10 := ge.one
              refine Da ?_
              refine Yl fun b7 => ?_
              refine Da ?_
              refine Yc (lendF (X1 ++ (X2 ++ X3)) fun h' l' i => l13Copy_f (M := M) h' _ p.scene ((sceneR τ).lent qs i) hs) ?_
              rintro _ _ ⟨AX, rfl, cs, rfl, q⟩
              obtain ⟨c2, l2, f2, Y1, Y2, Y3, rfl, rfl, ⟨k1, j1⟩, ⟨k2, j2⟩, k3⟩ := sceneO q
              have o7 := k1.one
              have o8 := k2.one
              have o9 := k3.one
              refine Da ?_
              refine Yc (lendF AE fun h' l' i => l13Do_f (M := M) h' c2 l2 f2 ev Y1 Y2 Y3 p.scene w.edit k1 k2 k3 (ge.lent (by simp) i) hgk e6' (by rw [hll, picOf_len]; omega) (by rw [hfl, feetOf_len]; omega)) ?_
              rintro _ _ ⟨A5, rfl, w2, rfl, q5, ow⟩
              refine Da ?_
              refine a_store (by rfl) (by rfl) (by rfl) (.inl rfl) ?_
              refine Da ?_
              refine Ae ?_
              repeat first | refine R1 ?_ | refine R2 fun _ => ?_
              exact sf_ret (rO A5 ⟨_, rfl, painterO_sc q5 _ _ _⟩)
            case' refine_8 =>
              refine Sw [[],[0],[0,1,3,4,5,10],[],[3],[3,4,10],[0,1,2,3,4,5,10],[0,1,2,3,4,5,6,10],[0,1,2,3,4,5,6,7,10],[0,1,2,3,4,5,6,7,10],[],[0,1,2,3,4,5,6,7,8,10],[0,1,2,3,4,5,6,7,8,9,10,11]] 12 [Nn 0,Nn 1,Nn 3,Nn 4,Yy 10,Yy 5,Yy 2,Yy 6,Nn 7,Nn 8,Nn 9,Yy 11] ?_
              refine Da ?_
              refine Yl fun b7 => ?_
              refine Da ?_
              refine Yb fun ev AE ge => ?_
              have o10 := ge.one
              refine Da ?_
              refine Yc (lendF (X1 ++ (X2 ++ X3)) fun h' l' i => l13Copy_f (M := M) h' _ p.scene ((sceneR τ).lent qs i) hs) ?_
              rintro _ _ ⟨AX, rfl, cs, rfl, q⟩
              obtain ⟨c2, l2, f2, Y1, Y2, Y3, rfl, rfl, ⟨k1, j1⟩, ⟨k2, j2⟩, k3⟩ := sceneO q
              have o7 := k1.one
              have o8 := k2.one
              have o9 := k3.one
              refine Da ?_
              refine Yc (lendF AE fun h' l' i => l13Do_f (M := M) h' c2 l2 f2 ev Y1 Y2 Y3 p.scene w.edit k1 k2 k3 (ge.lent (by simp) i) hgk e6' (by rw [hll, picOf_len]; omega) (by rw [hfl, feetOf_len]; omega)) ?_
              rintro _ _ ⟨A5, rfl, w2, rfl, q5, ow⟩
              refine Da ?_
              refine a_store (by rfl) (by rfl) (by rfl) (.inl rfl) ?_
              refine Da ?_
              refine Ae ?_
              repeat first | refine R1 ?_ | refine R2 fun _ => ?_
              exact sf_ret (rO A5 ⟨_, rfl, painterO_sc q5 _ _ _⟩)
          · have e6' : ¬ editOk p.scene.grid w.edit = true := by simpa using e6
            repeat first | refine R1 ?_ | refine R2 fun _ => ?_
            rw [if_neg (fun z => e6' z.2.2.2)]
            exact sf_ret (rO (X1 ++ (X2 ++ X3)) ⟨_, rfl, qp⟩)
        · repeat first | refine R1 ?_ | refine R2 fun _ => ?_
          refine sf_cond (by rfl) (fun e6 => ?_) fun e6 => ?_
          · simp [e5] at e6
          repeat first | refine R1 ?_ | refine R2 fun _ => ?_
          rw [if_neg (fun z => e5 z.2.1)]
          exact sf_ret (rO (X1 ++ (X2 ++ X3)) ⟨_, rfl, qp⟩)
      · repeat first | refine R1 ?_ | refine R2 fun _ => ?_
        refine sf_cond (by rfl) (fun e6 => ?_) fun e6 => ?_
        · simp [e4] at e6
        repeat first | refine R1 ?_ | refine R2 fun _ => ?_
        rw [if_neg (fun z => by omega)]
        exact sf_ret (rO (X1 ++ (X2 ++ X3)) ⟨_, rfl, qp⟩)
    · repeat first | refine R1 ?_ | refine R2 fun _ => ?_
      refine sf_cond (by rfl) (fun e6 => ?_) fun e6 => ?_
      · simp [e3] at e6
      repeat first | refine R1 ?_ | refine R2 fun _ => ?_
      rw [if_neg (fun z => by rw [e3] at z; exact Bool.noConfusion z.1)]
      exact sf_ret (rO (X1 ++ (X2 ++ X3)) ⟨_, rfl, qp⟩)
  · repeat first | refine R1 ?_ | refine R2 fun _ => ?_
    rw [heard0 e1 e2]
    exact sf_ret (rO (X1 ++ (X2 ++ X3)) ⟨_, rfl, qp⟩)
theorem sPaintHear_f (h : PHeap) (ca cb : List Value) (p : Painter) (w : Word) (b : (painterR τ).B h ca p) (hs : szPainterN p ≤ 1048576) (bw : (wordR τ).B h cb w) : CallF Tryz.prog M 19 [.agg ca.toArray, .agg cb.toArray] [] h fun u A => ∃ cs, u = .agg cs.toArray ∧ (painterR τ).O A cs (paintHear p w) := by
  have b0 := b
  obtain ⟨c, l, f, rfl, s1, s2, s3⟩ := painterB b
  have o1 := s1.one
  have o2 := s2.one
  have o3 := s3.one
  have bw0 := bw
  obtain ⟨wc, wl, ecb, sw1, sw2⟩ := wordB bw
  have ecb' : cb = [.int .i64 w.kind, .int .i64 w.to, .int .i64 w.frm, .int .i64 w.ver, .int .i64 w.grid.wide, wc, .int .i64 w.edit.at', .int .i64 w.edit.cell.kind, .int .i64 w.edit.cell.light, wl] := ecb
  subst ecb'
  clear ecb bw
  have o4 := sw1.one
  have o5 := sw2.one
  refine Cs Tryz.func19 Tryz.ntmps19 ?_
  repeat first | refine R1 ?_ | refine R2 fun _ => ?_
  refine Xv (sPaintOk_v (M := M) _ _ p b0) ?_
  repeat first | refine R1 ?_ | refine R2 fun _ => ?_
  refine sf_cond (by rfl) (fun e => ?_) fun e => ?_
  · have e' : ¬ paintOk p = true := by simpa using e
    repeat first | refine R1 ?_ | refine R2 fun _ => ?_
    rw [paintHear, if_neg e']
    exact sf_ret (rO [] ⟨_, rfl, painterO_mk (p := noPainter) (Gr.nil _ _) (by decide) (Gr.nil _ _) (by decide) GrR.nil⟩)
  have e' : paintOk p = true := by simpa using e
  rw [paintHear, if_pos e']
  repeat first | refine R1 ?_ | refine R2 fun _ => ?_
  refine Sd [[],[0],[],[0,1,2],[0,1,2,3]] 3 [Nn 0,Nn 2,Yy 1] ?_
  refine Da ?_
  refine Yc (l21Copy_f (M := M) _ _ p b0 hs) ?_
  rintro _ A1 ⟨cs, rfl, q⟩
  obtain ⟨c2, l2, f2, Y1, Y2, Y3, rfl, rfl, ⟨k1, j1⟩, ⟨k2, j2⟩, k3⟩ := painterO q
  have o6 := k1.one
  have o7 := k2.one
  have o8 := k3.one
  refine Da ?_
  refine Ae ?_
  refine fp (y_call (l21Hear_f (M := M) _ _ p w c2 l2 f2 Y1 Y2 Y3 k1 k2 k3 e' hs bw0) (by rfl) ?_)
  rintro _ A5 ⟨cs, rfl, q5⟩
  have q6 := q5
  obtain ⟨c3, l3, f3, Z1, Z2, Z3, rfl, rfl, ⟨i1, -⟩, ⟨i2, -⟩, i3⟩ := painterO q5
  have p1 := i1.one
  have p2 := i2.one
  have p3 := i3.one
  repeat first | refine R1 ?_ | refine R2 fun _ => ?_
  exact sf_ret (rO (Z1 ++ (Z2 ++ Z3)) ⟨_, rfl, q6⟩)
theorem l22Tell_f (h : PHeap) (ca : List Value) (k : Keeper) (b : (keeperR τ).B h ca k) (ok : keepOk k = true) (z : Int) (hz1 : 1 ≤ z) (hz2 : z ≤ k.parts.length) : CallF Tryz.prog M 144 [.agg ca.toArray, .int .i64 z] [] h fun u A => ∃ cs, u = .agg cs.toArray ∧ (wordR τ).O A cs (toldTo k z) := by
  have b0 := b
  have hk := keepOk_head ok
  obtain ⟨c, ed, p, s, rfl, s1, s2, s3, s4⟩ := keeperB b
  have o1 := s1.one
  have o2 := s2.one
  have o3 := s3.one
  have o4 := s4.one
  have hs2 := s2.small
  have h60 := hk.e60
  have n3 := hk.n3
  obtain ⟨rp, sp, bp⟩ := s3
  have lp := bp.len
  have hsm := sp.small
  obtain ⟨i, hi, hz⟩ : ∃ i : Nat, i < k.parts.length ∧ z = i + 1 := ⟨(z - 1).toNat, by omega, by omega⟩
  obtain ⟨l, ex, sl⟩ := partB (bp.at hi)
  have ol := sl.one
  have hsl := sl.small
  have hi' : i < rp.length := by omega
  have hpo := keepOk_part ok hi
  have ez : (z - 1).toNat = i := by omega
  have hT := toldTo.eq_1 k z
  rw [ez] at hT
  generalize hpt : gt k.parts i = pt at *
  have hver := partOk_ver hpo
  haveI : FlatV (rawF (partR τ).sz) (gt rp (z - 1).toNat) [.bool pt.has, .int .i64 pt.ver, l] := ⟨by rw [ez]; exact ex⟩
  have hgr : pt.has = false ∨ ¬ (1 ≤ (k.edits.length : Int) - pt.ver ∧ (k.edits.length : Int) - pt.ver ≤ 2) → toldTo k z = ⟨1, z, 0, k.edits.length, gridAt k k.edits.length, noEdit, []⟩ := fun x => by
    rw [hT]
    rcases x with x | x
    · rw [if_neg (fun y => by rw [x] at y; exact absurd y.1 (by decide))]
    · rw [if_neg (fun y => x y.2)]
  refine Cs Tryz.func144 Tryz.ntmps144 ?_
  repeat first | refine R1 ?_ | refine R2 fun _ => ?_
  refine f_splitB (fun e => ?_) fun e => ?_
  · have hv := hver e
    repeat first | refine R1 ?_ | refine R2 fun _ => ?_
    refine Xv (l6In_v _ _ _ _) ?_
    repeat first | refine R1 ?_ | refine R2 fun _ => ?_
    refine sf_cond (by rfl) (fun h4 => ?_) fun h4 => ?_
    · simp only [Bool.and_eq_true, decide_eq_true_eq] at h4
      rw [if_pos ⟨e, by omega, by omega⟩] at hT
      rw [hT]
      repeat first | refine R1 ?_ | refine R2 fun _ => ?_
      refine Sd [[],[],[1],[1,2],[],[4],[],[6],[4,5,6,7],[4,5,6,7,8],[0,1,2,3,4,5,6,7,8,9],[0,1,2,3,4,5,6,7,8,9,10]] 10 [Nn 0,Nn 1,Nn 2,Nn 3,Nn 4,Nn 5,Nn 6,Nn 7,Nn 8,Nn 9] ?_
      refine Da ?_
      refine Ae ?_
      repeat first | refine R1 ?_ | refine R2 fun _ => ?_
      exact sf_ret (rO [] ⟨wordCs ⟨2, z, 0, pt.ver + 1, noGrid, gt k.edits pt.ver.toNat, []⟩ _ _, rfl, wordO_mk (w := ⟨2, z, 0, pt.ver + 1, noGrid, gt k.edits pt.ver.toNat, []⟩) (A1 := []) (A2 := []) (Gr.nil _ _) (Nat.zero_le _) (Gr.nil _ _) (Nat.zero_le _)⟩)
    · simp only [Bool.and_eq_false_iff, decide_eq_false_iff_not] at h4
      rw [hgr (.inr (by omega))]
      repeat first | refine R1 ?_ | refine R2 fun _ => ?_
      refine fp (y_call (l22Grid_f _ _ k b0 hk _ (verOk_all k)) (by rfl) ?_)
      rintro _ A1 ⟨cs, rfl, q⟩
      obtain ⟨c2, rfl, g1, l1⟩ := gridO q
      have o5 := g1.one
      repeat first | refine R1 ?_ | refine R2 fun _ => ?_
      exact sf_ret (rO A1 ⟨wordCs ⟨1, z, 0, k.edits.length, gridAt k k.edits.length, noEdit, []⟩ _ _, rfl, by have := wordO_mk (τ := τ) (w := ⟨1, z, 0, k.edits.length, gridAt k k.edits.length, noEdit, []⟩) (A1 := A1) (A2 := []) g1 l1 (Gr.nil _ _) (Nat.zero_le _); rwa [List.append_nil] at this⟩)
  · rw [hgr (.inl (by simpa using e))]
    repeat first | refine R1 ?_ | refine R2 fun _ => ?_
    refine sf_N (by first | rfl | (simp; omega)) ?_
    repeat first | refine R1 ?_ | refine R2 fun _ => ?_
    refine fp (y_call (l22Grid_f _ _ k b0 hk _ (verOk_all k)) (by rfl) ?_)
    rintro _ A1 ⟨cs, rfl, q⟩
    obtain ⟨c2, rfl, g1, l1⟩ := gridO q
    have o5 := g1.one
    repeat first | refine R1 ?_ | refine R2 fun _ => ?_
    exact sf_ret (rO A1 ⟨wordCs ⟨1, z, 0, k.edits.length, gridAt k k.edits.length, noEdit, []⟩ _ _, rfl, by have := wordO_mk (τ := τ) (w := ⟨1, z, 0, k.edits.length, gridAt k k.edits.length, noEdit, []⟩) (A1 := A1) (A2 := []) g1 l1 (Gr.nil _ _) (Nat.zero_le _); rwa [List.append_nil] at this⟩)
theorem l31Put_f (h : PHeap) (A B : Own) (ca cb : List Value) (w : World') (x : Word) (bw : (worldR τ).O A ca w) (bx : (wordR τ).O B cb x) : CallF Tryz.prog M 142 [.agg ca.toArray, .agg cb.toArray] (A ++ B) h fun u A' => ∃ cs, u = .agg cs.toArray ∧ (worldR τ).O A' cs (wPut w x) := by
  have bw0 := bw
  have bx0 := bx
  obtain ⟨c, e, p, s, ps, ns, AK, AP, AN, rfl, rfl, k, gp, gn, o1, o2, o3, o4⟩ := worldX bw
  have o5 := gp.one
  have o6 := gn.one
  obtain ⟨wc, wl, rfl, o7, o8⟩ := wordX bx
  obtain ⟨N0, N1, rfl, rs, g, oa, hq⟩ := gn
  have lq := oa.len
  refine Cs Tryz.func142 Tryz.ntmps142 ?_
  repeat first | refine R1 ?_ | refine R2 fun _ => ?_
  refine sf_if (fun e1 => ?_) fun e1 => ?_
  · repeat first | refine R1 ?_ | refine R2 fun _ => ?_
    refine Xb fun w0 Aw gw => ?_
    repeat first | refine R1 ?_ | refine R2 fun _ => ?_
    refine fp (y_append (by rfl) (by rfl) g gw (by intro y hy; simp at hy; subst hy; exact ((wordR τ).oneO bx0).is) (by rfl) (by rfl) (by simp; omega) (by simp; omega) fun n2 A5 g5 => ?_)
    have o9 := g5.one
    repeat first | refine R1 ?_ | refine R2 fun _ => ?_
    rw [wPut, if_pos (by omega)]
    exact sf_ret (rO (AK ++ (AP ++ (A5 ++ (N1 ++ B)))) ⟨_, rfl, worldX_mk (w := { w with nets := w.nets ++ [x] }) k gp ⟨A5, N1 ++ B, rfl, _, g5, oa.snoc bx0, by simp; omega⟩⟩)
  · repeat first | refine R1 ?_ | refine R2 fun _ => ?_
    rw [wPut, if_neg (by omega)]
    exact sf_ret (rO (AK ++ (AP ++ (N0 ++ N1))) ⟨_, rfl, bw0⟩)
theorem l31Take_f (h : PHeap) (z : Int) (c e p s ps ns : Value) (rs : List (Raw (wordR τ).sz)) (o1 : Sl.One c) (o2 : Sl.One e) (o3 : Sl.One p) (o4 : Sl.One s) (o5 : Sl.One ps) (sl : Sl h ns (rawF (wordR τ).sz) rs) (i : Nat) (hi : i < rs.length) (hn : rs.length ≤ 1000) (one : ∀ r ∈ rs, allOne r.cs = true) : CallF Tryz.prog M 141 [.agg #[.int .i64 z, c, e, p, s, ps, ns], .int .i64 (i : Int)] [] h fun u A => ∃ ns', u = .agg #[.int .i64 z, c, e, p, s, ps, ns'] ∧ Gr A ns' 39 (rawF (wordR τ).sz) (rs.take i ++ rs.drop (i + 1)) := by
  obtain ⟨b, off, cap, rfl, hc, s1, s2⟩ := sl.cut hi
  refine Cs Tryz.func141 Tryz.ntmps141 ?_
  repeat first | refine R1 ?_ | refine R2 fun _ => ?_
  refine Sd [[],[],[1],[],[1,2,3],[0,1,2,3,4],[],[6],[],[8],[6,7,8,9],[0,1,2,3,4,5,6,7,8,9,10],[0,1,2,3,4,5,6,7,8,9,10,11],[0,1,2,3,4,5,6,7,8,9,10,11,12]] 11 [Nn 1,Nn 2,Nn 3,Nn 4,Nn 6,Nn 7,Nn 8,Nn 9,Nn 10,Yy 0,Yy 5] ?_
  refine Da ?_
  refine Yq (by rfl) (fun X h' [_] => q_sliceHi (l := i) (by infer_instance) (by infer_instance) (by rfl) (by rfl) (by omega)) ?_
  refine Da ?_
  refine Yq (by rfl) (fun X h' [_] => q_sliceLo (l := i + 1) (by infer_instance) (by infer_instance) (by rfl) (by rfl) (by omega)) ?_
  refine Da ?_
  refine Yb fun w0 Aw gw => ?_
  have ow := gw.one
  refine Da ?_
  refine a_appendS (by rfl) (by rfl) (by rfl) gw s1 (by infer_instance) (by infer_instance) (fun y hy => one y (List.mem_of_mem_take hy)) (by rfl) (by rfl) (by simp; omega) (by simp; omega) (.inl rfl) fun n1 A1 g1 => ?_
  have o6 := g1.one
  refine Da ?_
  refine Ae ?_
  refine fp (y_appendS (by rfl) (by rfl) g1 s2 (fun y hy => one y (List.mem_of_mem_drop hy)) (by rfl) (by rfl) (by simp; omega) (by simp; omega) fun n2 A2 g2 => ?_)
  have o7 := g2.one
  repeat first | refine R1 ?_ | refine R2 fun _ => ?_
  exact sf_ret (rO A2 ⟨_, rfl, by simpa using g2⟩)
theorem l31WordCopy_f (h : PHeap) (cb : List Value) (x : Word) (bx : (wordR τ).B h cb x) (h1 : x.grid.cells.length ≤ 1048576) (h2 : x.lights.length ≤ 1048576) : CallF Tryz.prog M 143 [.agg cb.toArray] [] h fun u A => ∃ cs, u = .agg cs.toArray ∧ (wordR τ).O A cs x := by
  obtain ⟨wc, wl, rfl, s1, s2⟩ := wordB bx
  have o1 := s1.one
  have o2 := s2.one
  refine Cs Tryz.func143 Tryz.ntmps143 ?_
  repeat first | refine R1 ?_ | refine R2 fun _ => ?_
  refine Sd [[],[0],[0,1],[],[],[4],[4,5],[3,4,5,6],[0,1,2,3,4,5,6,7],[0,1,2,3,4,5,6,7,8],[0,1,2,3,4,5,6,7,8,9]] 8 [Nn 0,Nn 1,Nn 2,Nn 4,Nn 5,Nn 6,Yy 3,Yy 7] ?_
  refine Da ?_
  refine Yb fun w0 Aw gw => ?_
  have ow := gw.one
  refine Da ?_
  refine Ys gw s1 fun c1 A1 g1 => ?_
  have o3 := g1.one
  refine Da ?_
  refine Ae ?_
  repeat first | refine R1 ?_ | refine R2 fun _ => ?_
  refine Xb fun w2 A2 g2 => ?_
  repeat first | refine R1 ?_ | refine R2 fun _ => ?_
  refine Xs g2 s2 fun l1 A3 g3 => ?_
  have o4 := g3.one
  repeat first | refine R1 ?_ | refine R2 fun _ => ?_
  exact sf_ret (rO (A1 ++ A3) ⟨_, rfl, wordO_mk (w := x) g1 (by omega) g3 (by omega)⟩)
theorem l31Bring_f (h : PHeap) (A : Own) (ca : List Value) (w : World') (bw : (worldR τ).O A ca w) (ok : WOk w) (i : Nat) (hi : i < w.nets.length) : CallF Tryz.prog M 140 [.agg ca.toArray, .int .i64 (i : Int)] A h fun u A' => ∃ cs, u = .agg cs.toArray ∧ (worldR τ).O A' cs (wBring w i) := by
  obtain ⟨c, e, p, s, ps, ns, AK, AP, AN, rfl, rfl, k, gp, gn, o1, o2, o3, o4⟩ := worldX bw
  have o5 := gp.one
  have o6 := gn.one
  obtain ⟨N0, N1, rfl, rs, g, oa, hq⟩ := gn
  have lq := oa.len
  have h10 := ok.nets
  have ones := oa.ones
  obtain ⟨B1, Bx, B2, rfl, qx, oT⟩ := oa.pull hi
  have hx := ok.ns _ (gt_mem hi)
  have szx := sz_word ok.head hx
  have hto := wordTrue_to hx
  rw [wBring]
  generalize gt w.nets i = x at *
  obtain ⟨wc, wl, ex, o7, o8⟩ := wordX qx
  have hi' : i < rs.length := by omega
  haveI : FlatV (rawF (wordR τ).sz) (gt rs i) [.int .i64 x.kind, .int .i64 x.to, .int .i64 x.frm, .int .i64 x.ver, .int .i64 x.grid.wide, wc, .int .i64 x.edit.at', .int .i64 x.edit.cell.kind, .int .i64 x.edit.cell.light, wl] := ⟨ex⟩
  rw [ex] at qx
  have lT : (rs.take i ++ rs.drop (i + 1)).length ≤ 10 := by simp; omega
  refine Cs Tryz.func140 Tryz.ntmps140 ?_
  repeat first | refine R1 ?_ | refine R2 fun _ => ?_
  refine fp (y_call (lendF N0 fun h' _ inb => l31Take_f h' w.keeper.first.wide c e p s ps ns rs o1 o2 o3 o4 o5 (g.lent (by omega) inb) i hi' (by omega) ones) (by rfl) ?_)
  rintro _ _ ⟨A2, rfl, ns', rfl, g2⟩
  have o9 := g2.one
  have gn2 : GrR (wordR τ) (A2 ++ (B1 ++ B2)) ns' τ.word (wTake w i).nets := ⟨A2, B1 ++ B2, rfl, _, g2, oT, by have := oT.len; simp only [wTake]; omega⟩
  repeat first | refine R1 ?_ | refine R2 fun _ => ?_
  refine sf_if (fun e1 => ?_) fun e1 => ?_
  · rw [wHear, if_pos e1]
    repeat first | refine R1 ?_ | refine R2 fun _ => ?_
    refine fp (y_call (lendF Bx fun h' _ inb => l22Hear_f h' AK _ w.keeper k ok.keep (by have := (sz_keeper ok.keep).1; omega) _ x ((wordR τ).lent qx inb) (by omega)) (by rfl) ?_)
    rintro _ _ ⟨A3, rfl, kc, rfl, q⟩
    obtain ⟨c2, e2, p2, s2, rfl, u1, u2, u3, u4⟩ := keeperX q
    repeat first | refine R1 ?_ | refine R2 fun _ => ?_
    exact sf_ret (rO (A3 ++ (AP ++ (A2 ++ (B1 ++ B2)))) ⟨_, rfl, worldX_mk (w := { wTake w i with keeper := heard w.keeper x }) q gp gn2⟩)
  · rw [wHear, if_neg e1, show gt (wTake w i).painters (x.to - 1).toNat = gt w.painters (x.to - 1).toNat from rfl]
    have hj : (x.to - 1).toNat < w.painters.length := by rw [ok.many]; omega
    obtain ⟨P0, P1, rfl, rp, gq, op, hp⟩ := gp
    have lp := op.len
    obtain ⟨C1, Ck, C2, rfl, qk, oset⟩ := op.at hj
    have hpt := (painterTrue_is (ok.ps _ (gt_mem hj))).2.1
    have szp := sz_painter hpt
    generalize gt w.painters (x.to - 1).toNat = pt at *
    obtain ⟨c5, l5, f5, X1, X2, X3, ex5, rfl, ⟨k1, j1⟩, ⟨k2, j2⟩, k3⟩ := painterO qk
    have q1 := k1.one
    have q2 := k2.one
    have q3 := k3.one
    haveI : FlatV (rawF (painterR τ).sz) (gt rp (x.to - 1).toNat) [.bool pt.up, .bool pt.has, .int .i64 pt.ver, .int .i64 pt.scene.grid.wide, c5, l5, f5] := ⟨ex5⟩
    repeat first | refine R1 ?_ | refine R2 fun _ => ?_
    refine sf_draw (by kernel_rfl) (regX_own (Bx ++ (X1 ++ (X2 ++ X3))) (Sw [[],[0],[],[2],[2,3],[],[5],[],[7],[7,8],[5,6,7,8,9],[5,6,7,8,9,10],[],[5,6,7,8,9,10,11,12],[0,1,2,3,4,5,6,7,8,9,10,11,12,13],[0,1,2,3,4,5,6,7,8,9,10,11,12,13,14]] 14 [Nn 0,Nn 1,Nn 2,Nn 3,Nn 4,Nn 5,Nn 6,Nn 7,Nn 8,Nn 9,Nn 10,Nn 11,Nn 12,Yy 13] ?_))
    refine Di ?_
    refine Yc (lendF Bx fun h' _ inb => l21Hear_f h' _ pt x c5 l5 f5 X1 X2 X3 k1 k2 k3 hpt (by omega) ((wordR τ).lent qx inb)) ?_
    rintro _ _ ⟨A3, rfl, pc, rfl, q⟩
    obtain ⟨c6, l6, f6, rfl, u1, u2, u3⟩ := painterX q
    refine Di ?_
    refine Ae ?_
    repeat first | refine R1 ?_ | refine R2 fun _ => ?_ | refine fp (Rq ?_ (z_indexGI (by rfl) (by rfl) (by assumption) (by omega) (by omega)))
    refine Xg gq fun D0 ys ey ly _ g5 => ?_
    have oall := oset A3 ⟨_, rfl⟩ _ q
    have gp2 : GrR (painterR τ) (D0 ++ (C1 ++ (A3 ++ C2))) ps τ.painter (w.painters.set (x.to - 1).toNat (paintHeard pt x)) := ⟨D0, _, rfl, ys, g5, by rw [ey]; exact oall, by simp; omega⟩
    repeat first | refine R1 ?_ | refine R2 fun _ => ?_
    exact sf_ret (rO (AK ++ ((D0 ++ (C1 ++ (A3 ++ C2))) ++ (A2 ++ (B1 ++ B2)))) ⟨_, rfl, worldX_mk (w := setP (wTake w i) (x.to - 1).toNat (paintHeard pt x)) k gp2 gn2⟩)
abbrev eventV (e : Event') : Value := .agg #[.int .i64 e.kind, .int .i64 e.a, .int .i64 e.edit.at', .int .i64 e.edit.cell.kind, .int .i64 e.edit.cell.light]
theorem l31Net_f (h : PHeap) (A : Own) (ca : List Value) (w : World') (bw : (worldR τ).O A ca w) (ok : WOk w) (e : Event') : CallF Tryz.prog M 110 [.agg ca.toArray, eventV e] A h fun u A' => ∃ cs, u = .agg cs.toArray ∧ (worldR τ).O A' cs (wNet w e) := by
  have bw0 := bw
  obtain ⟨c, ee, p, s, ps, ns, AK, AP, AN, rfl, rfl, k, gp, gn, o1, o2, o3, o4⟩ := worldX bw
  have o5 := gp.one
  have o6 := gn.one
  obtain ⟨N0, N1, rfl, rs, g, oa, hq⟩ := gn
  have lq := oa.len
  have h10 := ok.nets
  obtain ⟨kind, a, ed⟩ := e
  simp only [eventV]
  refine Cs Tryz.func110 Tryz.ntmps110 ?_
  repeat first | refine R1 ?_ | refine R2 fun _ => ?_
  refine Xv (l6In_v _ _ _ _) ?_
  repeat first | refine R1 ?_ | refine R2 fun _ => ?_
  refine sf_cond (by rfl) (fun e1 => ?_) fun e1 => ?_
  · repeat first | refine R1 ?_ | refine R2 fun _ => ?_
    rw [wNet, if_neg (by simp at e1; simp only; omega)]
    exact sf_ret (rO (AK ++ (AP ++ (N0 ++ N1))) ⟨_, rfl, bw0⟩)
  have hr : 0 ≤ a ∧ a < w.nets.length := by simp at e1; omega
  rw [wNet, if_pos hr]
  simp only
  obtain ⟨i, rfl⟩ : ∃ i : Nat, a = i := ⟨a.toNat, by omega⟩
  simp only [Int.toNat_natCast]
  have hi : i < w.nets.length := by omega
  have hi' : i < rs.length := by omega
  repeat first | refine R1 ?_ | refine R2 fun _ => ?_
  refine sf_if (fun e2 => ?_) fun e2 => ?_
  · rw [if_pos e2]
    repeat first | refine R1 ?_ | refine R2 fun _ => ?_
    refine fp (y_call (l31Bring_f h _ _ w bw0 ok i hi) (by rfl) ?_)
    rintro _ A2 ⟨cs, rfl, q⟩
    obtain ⟨c1, c2, c3, c4, c5, c6, rfl, v1, v2, v3, v4, v5, v6⟩ := worldC q
    repeat first | refine R1 ?_ | refine R2 fun _ => ?_
    exact sf_ret (rO A2 ⟨_, rfl, q⟩)
  rw [if_neg e2]
  repeat first | refine R1 ?_ | refine R2 fun _ => ?_
  refine sf_if (fun e3 => ?_) fun e3 => ?_
  · rw [if_pos e3]
    repeat first | refine R1 ?_ | refine R2 fun _ => ?_
    obtain ⟨B1, Bx, B2, rfl, qx, oT⟩ := oa.pull hi
    refine fp (y_call (lendF N0 fun h' _ inb => l31Take_f h' w.keeper.first.wide c ee p s ps ns rs o1 o2 o3 o4 o5 (g.lent (by omega) inb) i hi' (by omega) oa.ones) (by rfl) ?_)
    rintro _ _ ⟨A2, rfl, ns', rfl, g2⟩
    have o9 := g2.one
    repeat first | refine R1 ?_ | refine R2 fun _ => ?_
    exact sf_ret (rO (AK ++ (AP ++ (A2 ++ (B1 ++ B2)))) ⟨_, rfl, worldX_mk (w := wTake w i) k gp ⟨A2, B1 ++ B2, rfl, _, g2, oT, by have := oT.len; simp only [wTake]; simp at this ⊢; omega⟩⟩)
  rw [if_neg e3]
  obtain ⟨B1, Bx, B2, -, qx, -⟩ := oa.pull hi
  have szx := sz_word ok.head (ok.ns _ (gt_mem hi))
  obtain ⟨wc, wl, ex, o7, o8⟩ := wordX qx
  clear qx
  haveI : FlatV (rawF (wordR τ).sz) (gt rs i) [.int .i64 (gt w.nets i).kind, .int .i64 (gt w.nets i).to, .int .i64 (gt w.nets i).frm, .int .i64 (gt w.nets i).ver, .int .i64 (gt w.nets i).grid.wide, wc, .int .i64 (gt w.nets i).edit.at', .int .i64 (gt w.nets i).edit.cell.kind, .int .i64 (gt w.nets i).edit.cell.light, wl] := ⟨ex⟩
  repeat first | refine R1 ?_ | refine R2 fun _ => ?_
  refine sf_draw (by kernel_rfl) (regX_own (AK ++ (AP ++ (N0 ++ N1))) ?_)
  refine Sw [[],[],[1],[],[3],[1,2,3,4],[1,2,3,4,5],[1,2,3,4,5,6],[0,1,2,3,4,5,6,7],[0,1,2,3,4,5,6,7,8]] 8 [Nn 0,Nn 1,Nn 2,Nn 3,Nn 4,Nn 5,Yy 6,Yy 7] ?_
  refine Da ?_
  refine Yw (by rfl) (z_loadG (by rfl) g (by omega) (by rfl)) ?_
  refine Da ?_
  refine Yc (lendF (AK ++ (AP ++ (N0 ++ N1))) fun h' _ inb => l31WordCopy_f h' (wordCs (gt w.nets i) wc wl) (gt w.nets i) (by have := (oa.lent (inb_r (inb_r (inb_r inb)))).at hi; rw [ex] at this; exact this) (by omega) (by omega)) ?_
  rintro _ _ ⟨A2, rfl, cs, rfl, q⟩
  have q0 := q
  obtain ⟨w2, l2, rfl, v1, v2⟩ := wordX q
  refine Da ?_
  refine Ae ?_
  refine fp (y_call (l31Put_f h _ _ _ _ w (gt w.nets i) bw0 q0) (by rfl) ?_)
  rintro _ A3 ⟨cs, rfl, q⟩
  obtain ⟨c1, c2, c3, c4, c5, c6, rfl, v1, v2, v3, v4, v5, v6⟩ := worldC q
  repeat first | refine R1 ?_ | refine R2 fun _ => ?_
  exact sf_ret (rO A3 ⟨_, rfl, q⟩)
theorem paint_upR {A : Own} {c l f : Value} {p : Painter} (q : (painterR τ).O A [.bool p.up, .bool p.has, .int .i64 p.ver, .int .i64 p.scene.grid.wide, c, l, f] p) : (painterR τ).O A [.bool true, .bool p.has, .int .i64 p.ver, .int .i64 p.scene.grid.wide, c, l, f] (upP p) := by
  obtain ⟨c', l', f', A1, A2, A3, e, rfl, ⟨g1, j1⟩, ⟨g2, j2⟩, g3⟩ := painterO q
  simp only [List.cons.injEq, and_true, true_and] at e
  obtain ⟨rfl, rfl, rfl⟩ := e
  exact painterO_mk (p := upP p) g1 j1 g2 j2 g3
theorem l31Painter_f (h : PHeap) (A : Own) (ca : List Value) (w : World') (bw : (worldR τ).O A ca w) (ok : WOk w) (e : Event') : CallF Tryz.prog M 111 [.agg ca.toArray, eventV e] A h fun u A' => ∃ cs, u = .agg cs.toArray ∧ (worldR τ).O A' cs (wOne w e) := by
  have bw0 := bw
  obtain ⟨c, ee, p, s, ps, ns, AK, AP, AN, rfl, rfl, k, gp, gn, o1, o2, o3, o4⟩ := worldX bw
  have o5 := gp.one
  have o6 := gn.one
  obtain ⟨P0, P1, rfl, rp, gq, op, hp⟩ := gp
  have lp := op.len
  have hm := ok.many
  have n3 := ok.head.n3
  obtain ⟨kind, a, ed⟩ := e
  simp only [eventV]
  refine Cs Tryz.func111 Tryz.ntmps111 ?_
  repeat first | refine R1 ?_ | refine R2 fun _ => ?_
  refine Xv (l6In_v _ _ _ _) ?_
  repeat first | refine R1 ?_ | refine R2 fun _ => ?_
  refine sf_cond (by rfl) (fun e1 => ?_) fun e1 => ?_
  · repeat first | refine R1 ?_ | refine R2 fun _ => ?_
    rw [wOne, if_neg (by simp at e1; simp only; omega)]
    exact sf_ret (rO (AK ++ ((P0 ++ P1) ++ AN)) ⟨_, rfl, bw0⟩)
  have hr : 1 ≤ a ∧ a ≤ w.painters.length := by simp at e1; omega
  rw [wOne, if_pos hr]
  simp only
  obtain ⟨i, rfl⟩ : ∃ i : Nat, a = i + 1 := ⟨(a - 1).toNat, by omega⟩
  rw [show ((i : Int) + 1 - 1).toNat = i by omega, wWho]
  have ei : (i : Int) + 1 - 1 = i := by omega
  have ei' : ((i + 1 : Nat) : Int) = (i : Int) + 1 := by omega
  have hi : i < w.painters.length := by omega
  have hi' : i < rp.length := by omega
  repeat first | refine R1 ?_ | refine R2 fun _ => ?_
  refine sf_if (fun e2 => ?_) fun e2 => ?_
  · rw [if_pos e2, ei']
    repeat first | refine R1 ?_ | refine R2 fun _ => ?_
    refine sf_draw (by kernel_rfl) (regX_own (AK ++ ((P0 ++ P1) ++ AN)) (Sw [[],[],[1],[],[3],[1,2,3,4],[0,1,2,3,4,5],[0,1,2,3,4,5,6]] 6 [Nn 0,Nn 1,Nn 2,Nn 3,Nn 4,Yy 5] ?_))
    refine Da ?_
    refine Yc (lendF AK fun h' _ inb => l22Tell_f h' _ w.keeper ((keeperR τ).lent k inb) ok.keep ((i : Int) + 1) (by omega) (by omega)) ?_
    rintro _ _ ⟨A2, rfl, cs, rfl, q⟩
    have q0 := q
    obtain ⟨w2, l2, rfl, v1, v2⟩ := wordX q
    refine Da ?_
    refine Ae ?_
    refine fp (y_call (l31Put_f h _ _ _ _ w _ bw0 q0) (by rfl) ?_)
    rintro _ A3 ⟨cs, rfl, q⟩
    obtain ⟨c1, c2, c3, c4, c5, c6, rfl, v1, v2, v3, v4, v5, v6⟩ := worldC q
    repeat first | refine R1 ?_ | refine R2 fun _ => ?_
    exact sf_ret (rO A3 ⟨_, rfl, q⟩)
  rw [if_neg e2]
  obtain ⟨C1, Ck, C2, rfl, qk, oset⟩ := op.at hi
  have hpt := (painterTrue_is (ok.ps _ (gt_mem hi))).2.1
  obtain ⟨c5, l5, f5, ex5, q1, q2, q3⟩ := painterX qk
  rw [ex5] at qk
  haveI : FlatV (rawF (painterR τ).sz) (gt rp i) [.bool (gt w.painters i).up, .bool (gt w.painters i).has, .int .i64 (gt w.painters i).ver, .int .i64 (gt w.painters i).scene.grid.wide, c5, l5, f5] := ⟨ex5⟩
  repeat first | refine R1 ?_ | refine R2 fun _ => ?_
  refine sf_if (fun e3 => ?_) fun e3 => ?_
  · rw [if_pos e3, wPaint, ei']
    repeat first | refine R1 ?_ | refine R2 fun _ => ?_
    have tell : ∀ h', Le h h' → InB h' Ck → CallF Tryz.prog M 29 [.agg #[.bool (gt w.painters i).up, .bool (gt w.painters i).has, .int .i64 (gt w.painters i).ver, .int .i64 (gt w.painters i).scene.grid.wide, c5, l5, f5], .int .i64 ((i : Int) + 1), .int .i64 (rp.length : Int)] [] h' fun u A => ∃ cs, u = .tuple #[.agg cs.toArray, .bool (paintTold (gt w.painters i) ((i : Int) + 1) w.painters.length).2] ∧ (wordR τ).O A cs (paintTold (gt w.painters i) ((i : Int) + 1) w.painters.length).1 := fun h' _ inb => by
      rw [lp]
      exact l21Tell_f h' _ _ ((painterR τ).lent qk inb) hpt ((i : Int) + 1) w.painters.length (by simp only [idOk, Bool.and_eq_true, decide_eq_true_eq]; omega)
    refine sf_draw (by kernel_rfl) (regX_own (Ck) (regX_split 12 16 (by rfl) ?_ ?_))
    case' refine_1 =>
      refine Sw [[],[0],[],[2],[2,3],[0,1,2,3,4],[0,1,2,3,4,5],[],[7],[],[9],[9,10],[0,1,2,3,4,5,6,7,8,9,10,11],[0,1,2,3,4,5,6,7,8,9,10,11,12],[0,1,2,3,4,5,6,7,8,9,10,11,12,13],[0,1,2,3,4,5,6,7,8,9,10,11,12,13],[0,1,2,3,4,5,6,7,8,9,10,11,12],[0,1,2,3,4,5,6,7,8,9,10,11,12,13,14,16],[0,1,2,3,4,5,6,7,8,9,10,11,12,13,14,15,16,17]] 18 [Nn 0,Nn 1,Nn 2,Nn 3,Nn 4,Nn 5,Nn 6,Nn 7,Nn 8,Nn 9,Nn 10,Nn 11,Yy 12,Nn 13,Nn 14,Nn 15,Yy 16,Yy 17] ?_
      refine Da ?_
      try simp only [ei]
      refine Da ?_
      refine Yc (lendF Ck tell) ?_
      rintro _ _ ⟨A2, rfl, cs, rfl, q⟩
      have q0 := q
      obtain ⟨w2, l2, rfl, v1, v2⟩ := wordX q
      refine Da ?_
      try simp only [ei]
      refine Da ?_
      refine Yl fun b7 => ?_
      refine Da ?_
      refine a_store (by rfl) (by rfl) (by rfl) (.inl rfl) ?_
      refine Da ?_
      refine Ae ?_
      repeat first | refine R1 ?_ | refine R2 fun _ => ?_
      refine sf_cond (by rfl) (fun e4 => ?_) fun e4 => ?_
      · rw [if_pos e4]
        repeat first | refine R1 ?_ | refine R2 fun _ => ?_
        refine fp (y_call (l31Put_f h _ _ _ _ w _ bw0 q0) (by rfl) ?_)
        rintro _ A3 ⟨cs, rfl, q⟩
        obtain ⟨c1, c2, c3, c4, c5, c6, rfl, v1, v2, v3, v4, v5, v6⟩ := worldC q
        repeat first | refine R1 ?_ | refine R2 fun _ => ?_
        exact sf_ret (rO A3 ⟨_, rfl, q⟩)
      · rw [if_neg (by simp [e4])]
        repeat first | refine R1 ?_ | refine R2 fun _ => ?_
        exact sf_ret (rO (AK ++ ((P0 ++ (C1 ++ (Ck ++ C2))) ++ AN)) ⟨_, rfl, bw0⟩)
    case' refine_2 =>
      refine Sw [[],[0],[],[2],[2,3],[0,1,2,3,4],[0,1,2,3,4,5],[],[7],[],[9],[9,10],[0,1,2,3,4,5,6,7,8,9,10,11,16],[0,1,2,3,4,5,6,7,8,9,10,11,12,16],[0,1,2,3,4,5,6,7,8,9,10,11,12,13,16],[0,1,2,3,4,5,6,7,8,9,10,11,12,13,16],[],[0,1,2,3,4,5,6,7,8,9,10,11,12,13,14,16],[0,1,2,3,4,5,6,7,8,9,10,11,12,13,14,15,16,17]] 18 [Nn 0,Nn 1,Nn 2,Nn 3,Nn 4,Nn 5,Nn 6,Nn 7,Nn 8,Nn 9,Nn 10,Nn 11,Yy 16,Yy 12,Nn 13,Nn 14,Nn 15,Yy 17] ?_
      refine Da ?_
      try simp only [ei]
      refine Da ?_
      refine Yl fun b7 => ?_
      refine Da ?_
      try simp only [ei]
      refine Da ?_
      refine Yc (lendF Ck tell) ?_
      rintro _ _ ⟨A2, rfl, cs, rfl, q⟩
      have q0 := q
      obtain ⟨w2, l2, rfl, v1, v2⟩ := wordX q
      refine Da ?_
      refine a_store (by rfl) (by rfl) (by rfl) (.inl rfl) ?_
      refine Da ?_
      refine Ae ?_
      repeat first | refine R1 ?_ | refine R2 fun _ => ?_
      refine sf_cond (by rfl) (fun e4 => ?_) fun e4 => ?_
      · rw [if_pos e4]
        repeat first | refine R1 ?_ | refine R2 fun _ => ?_
        refine fp (y_call (l31Put_f h _ _ _ _ w _ bw0 q0) (by rfl) ?_)
        rintro _ A3 ⟨cs, rfl, q⟩
        obtain ⟨c1, c2, c3, c4, c5, c6, rfl, v1, v2, v3, v4, v5, v6⟩ := worldC q
        repeat first | refine R1 ?_ | refine R2 fun _ => ?_
        exact sf_ret (rO A3 ⟨_, rfl, q⟩)
      · rw [if_neg (by simp [e4])]
        repeat first | refine R1 ?_ | refine R2 fun _ => ?_
        exact sf_ret (rO (AK ++ ((P0 ++ (C1 ++ (Ck ++ C2))) ++ AN)) ⟨_, rfl, bw0⟩)
  rw [if_neg e3]
  repeat first | refine R1 ?_ | refine R2 fun _ => ?_
  refine sf_if (fun e4 => ?_) fun e4 => ?_
  · rw [if_pos e4]
    repeat first | refine R1 ?_ | refine R2 fun _ => ?_
    simp only [ei]
    repeat first | refine R1 ?_ | refine R2 fun _ => ?_
    refine Xg gq fun D0 ys ey ly _ g5 => ?_
    have oall := oset [] ⟨_, rfl⟩ noPainter noPainterO'
    repeat first | refine R1 ?_ | refine R2 fun _ => ?_
    exact sf_ret (rO (AK ++ ((D0 ++ (C1 ++ ([] ++ C2))) ++ AN)) ⟨_, rfl, worldX_mk (w := setP w i noPainter) k ⟨D0, _, rfl, ys, g5, by rw [ey]; exact oall, by simp [setP]; omega⟩ gn⟩)
  rw [if_neg e4]
  repeat first | refine R1 ?_ | refine R2 fun _ => ?_
  refine sf_if (fun e5 => ?_) fun e5 => ?_
  · rw [if_pos e5]
    repeat first | refine R1 ?_ | refine R2 fun _ => ?_
    simp only [ei]
    repeat first | refine R1 ?_ | refine R2 fun _ => ?_
    refine Xh gq fun D0 ys ey ly _ g5 => ?_
    have oall := oset Ck ⟨_, rfl⟩ (upP (gt w.painters i)) (paint_upR qk)
    repeat first | refine R1 ?_ | refine R2 fun _ => ?_
    exact sf_ret (rO (AK ++ ((D0 ++ (C1 ++ (Ck ++ C2))) ++ AN)) ⟨_, rfl, worldX_mk (w := setP w i (upP (gt w.painters i))) k ⟨D0, _, rfl, ys, g5, by rw [ey]; exact oall, by simp [setP]; omega⟩ gn⟩)
  rw [if_neg e5]
  repeat first | refine R1 ?_ | refine R2 fun _ => ?_
  exact sf_ret (rO (AK ++ ((P0 ++ (C1 ++ (Ck ++ C2))) ++ AN)) ⟨_, rfl, bw0⟩)
theorem l31Do_f (h : PHeap) (A : Own) (ca : List Value) (w : World') (bw : (worldR τ).O A ca w) (ok : WOk w) (e : Event') : CallF Tryz.prog M 83 [.agg ca.toArray, eventV e] A h fun u A' => ∃ cs, u = .agg cs.toArray ∧ (worldR τ).O A' cs (wDo w e) := by
  have bw0 := bw
  obtain ⟨c, ee, p, s, ps, ns, AK, AP, AN, rfl, rfl, k, gp, gn, o1, o2, o3, o4⟩ := worldX bw
  have o5 := gp.one
  have o6 := gn.one
  obtain ⟨kind, a, ed⟩ := e
  simp only [eventV]
  rw [wDo]
  simp only
  refine Cs Tryz.func83 Tryz.ntmps83 ?_
  repeat first | refine R1 ?_ | refine R2 fun _ => ?_
  refine sf_if (fun e1 => ?_) fun e1 => ?_
  · rw [if_pos e1]
    obtain ⟨c', e', p', s', K1, K2, K3, K4, ec, rfl, ⟨g1, l1⟩, ⟨g2, l2⟩, g3, g4⟩ := keeperO k
    simp only [List.cons.injEq, and_true, true_and] at ec
    obtain ⟨rfl, rfl, rfl, rfl⟩ := ec
    repeat first | refine R1 ?_ | refine R2 fun _ => ?_
    refine f_split (fun e2 => ?_) fun e2 => ?_
    · repeat first | refine R1 ?_ | refine R2 fun _ => ?_
      refine Xb fun ev AE ge => ?_
      have oe := ge.one
      repeat first | refine R1 ?_ | refine R2 fun _ => ?_
      refine fp (y_lendV (K1 ++ AE) (fun h' _ i => l13Edits_v h' c w.keeper.first (g1.lent l1 (inb_l i)) ev [ed] (ge.lent (by simp) (inb_r i))) (by rfl) ?_)
      rw [editsOk_one]
      repeat first | refine R1 ?_ | refine R2 fun _ => ?_
      refine sf_cond (by rfl) (fun e3 => ?_) fun e3 => ?_
      · rw [if_pos (by simp [canEdit] at e3 ⊢; exact ⟨by omega, e3⟩)]
        repeat first | refine R1 ?_ | refine R2 fun _ => ?_
        refine Xb fun u Au gu => ?_
        repeat first | refine R1 ?_ | refine R2 fun _ => ?_
        refine Xa g2 gu fun v2 A2 g5 => ?_
        have o7 := g5.one
        repeat first | refine R1 ?_ | refine R2 fun _ => ?_
        exact sf_ret (rO ((K1 ++ (A2 ++ (K3 ++ K4))) ++ (AP ++ AN)) ⟨_, rfl, worldX_mk (w := { w with keeper := withEdit w.keeper ed }) (keeperO_mk (k := withEdit w.keeper ed) g1 l1 g5 (by simp [withEdit]; omega) g3 g4) gp gn⟩)
      · rw [if_neg (by simp [canEdit] at e3 ⊢; intro _; exact e3)]
        repeat first | refine R1 ?_ | refine R2 fun _ => ?_
        exact sf_ret (rO ((K1 ++ (K2 ++ (K3 ++ K4))) ++ (AP ++ AN)) ⟨_, rfl, bw0⟩)
    · rw [if_neg (by simp [canEdit]; intro z; omega)]
      repeat first | refine R1 ?_ | refine R2 fun _ => ?_
      refine sf_cond (by rfl) (fun e => by cases e) fun _ => ?_
      repeat first | refine R1 ?_ | refine R2 fun _ => ?_
      exact sf_ret (rO ((K1 ++ (K2 ++ (K3 ++ K4))) ++ (AP ++ AN)) ⟨_, rfl, bw0⟩)
  rw [if_neg e1]
  by_cases e2 : 4 ≤ kind ∧ kind ≤ 6
  · rw [if_pos e2]
    have net := l31Net_f (M := M) h _ _ w bw0 ok ⟨kind, a, ed⟩
    have fin : ∀ {X : Prop} (_ : X), X := fun x => x
    repeat first | refine R1 ?_ | refine R2 fun _ => ?_
    refine sf_if (fun e3 => ?_) fun e3 => ?_
    · repeat first | refine R1 ?_ | refine R2 fun _ => ?_
      refine sf_if (fun _ => ?_) fun z => absurd (by assumption) z
      repeat first | refine R1 ?_ | refine R2 fun _ => ?_
      refine fp (y_call net (by rfl) ?_)
      rintro _ A2 ⟨cs, rfl, q⟩
      obtain ⟨c1, c2, c3, c4, c5, c6, rfl, v1, v2, v3, v4, v5, v6⟩ := worldC q
      repeat first | refine R1 ?_ | refine R2 fun _ => ?_
      exact sf_ret (rO A2 ⟨_, rfl, q⟩)
    repeat first | refine R1 ?_ | refine R2 fun _ => ?_
    refine sf_if (fun e4 => ?_) fun e4 => ?_
    · repeat first | refine R1 ?_ | refine R2 fun _ => ?_
      refine sf_if (fun _ => ?_) fun z => absurd (by assumption) z
      repeat first | refine R1 ?_ | refine R2 fun _ => ?_
      refine fp (y_call net (by rfl) ?_)
      rintro _ A2 ⟨cs, rfl, q⟩
      obtain ⟨c1, c2, c3, c4, c5, c6, rfl, v1, v2, v3, v4, v5, v6⟩ := worldC q
      repeat first | refine R1 ?_ | refine R2 fun _ => ?_
      exact sf_ret (rO A2 ⟨_, rfl, q⟩)
    have e5 : kind = 6 := by omega
    repeat first | refine R1 ?_ | refine R2 fun _ => ?_
    refine sf_if (fun _ => ?_) fun e6 => absurd e5 e6
    repeat first | refine R1 ?_ | refine R2 fun _ => ?_
    refine fp (y_call net (by rfl) ?_)
    rintro _ A2 ⟨cs, rfl, q⟩
    obtain ⟨c1, c2, c3, c4, c5, c6, rfl, v1, v2, v3, v4, v5, v6⟩ := worldC q
    repeat first | refine R1 ?_ | refine R2 fun _ => ?_
    exact sf_ret (rO A2 ⟨_, rfl, q⟩)
  · rw [if_neg e2]
    repeat first | refine R1 ?_ | refine R2 fun _ => ?_
    refine sf_if (fun e3 => ?_) fun e3 => ?_
    · omega
    repeat first | refine R1 ?_ | refine R2 fun _ => ?_
    refine sf_if (fun e4 => ?_) fun e4 => ?_
    · omega
    repeat first | refine R1 ?_ | refine R2 fun _ => ?_
    refine sf_if (fun e5 => ?_) fun e5 => ?_
    · omega
    repeat first | refine R1 ?_ | refine R2 fun _ => ?_
    refine fp (y_call (l31Painter_f (M := M) h _ _ w bw0 ok ⟨kind, a, ed⟩) (by rfl) ?_)
    rintro _ A2 ⟨cs, rfl, q⟩
    obtain ⟨c1, c2, c3, c4, c5, c6, rfl, v1, v2, v3, v4, v5, v6⟩ := worldC q
    repeat first | refine R1 ?_ | refine R2 fun _ => ?_
    exact sf_ret (rO A2 ⟨_, rfl, q⟩)
instance : ElemF Tryz.prog 132 eventF := ⟨trivial⟩
theorem l72Event_f (h : PHeap) (br : Nat) (v : Value) (xs : List (Fin 256)) (s : Sl h v u8F xs) (hs : xs.length ≤ 2000) (p : Nat) (hp1 : p ≤ 980000) (ca : List Value) (w : World') (b : (worldR τ).B h ca w) (hn : w.nets.length ≤ 900) (h1 : 1 ≤ w.painters.length) (h3 : w.painters.length ≤ 900) (hg : w.keeper.first.cells.length ≤ 1000) : CallF Tryz.prog M 82 [.pointer (some ⟨br, 0, none⟩), .agg ca.toArray] (rdA br v p) h fun u A => ∃ (e : Event') (q : Nat), u = eventV e ∧ q ≤ p + 20 ∧ A = rdA br v q := by
  have o0 := s.one
  obtain ⟨c, ed, pt, sh, ps, ns, rfl, s1, s2, s3, s4, s5, s6⟩ := worldB b
  have o1 := s1.one
  have o2 := s2.one
  have o3 := s3.one
  have o4 := s4.one
  have o5 := s5.one
  have o6 := s6.one
  obtain ⟨rp, sp, bp⟩ := s5
  obtain ⟨rn, sn, bn⟩ := s6
  have lp := bp.len
  have ln := bn.len
  have bg : (gridR τ).B h [.int .i64 w.keeper.first.wide, c] w.keeper.first := gridB_mk s1
  refine Cs Tryz.func82 Tryz.ntmps82 ?_
  repeat first | refine R1 ?_ | refine R2 fun _ => ?_
  refine fp (y_call (pick_f _ br v xs s hs p (rp.length : Int) (by omega) (by omega) (by omega)) (by rfl) ?_)
  rintro _ _ ⟨m, rfl, m0, m1, rfl⟩
  repeat first | refine R1 ?_ | refine R2 fun _ => ?_
  refine f_split (fun g1 => ?_) fun g1 => ?_
  · repeat first | refine R1 ?_ | refine R2 fun _ => ?_
    refine fp (y_call (pick_f _ br v xs s hs (p + 1) 3 (by omega) (by omega) (by omega)) (by rfl) ?_)
    rintro _ _ ⟨m2, rfl, -, -, rfl⟩
    repeat first | refine R1 ?_ | refine R2 fun _ => ?_
    refine sf_if (fun g2 => ?_) fun g2 => ?_
    · repeat first | refine R1 ?_ | refine R2 fun _ => ?_
      refine fp (y_call (pick_f _ br v xs s hs (p + 1 + 1) (rn.length : Int) (by omega) (by omega) (by omega)) (by rfl) ?_)
      rintro _ _ ⟨m3, rfl, -, -, rfl⟩
      repeat first | refine R1 ?_ | refine R2 fun _ => ?_
      exact sf_ret (rt (rdA br v (p + 1 + 1 + 1)) (resV_one rfl (yr_cell rfl)) ⟨⟨4, m3, noEdit⟩, _, rfl, by omega, rfl⟩)
    repeat first | refine R1 ?_ | refine R2 fun _ => ?_
    refine fp (y_call (pick_f _ br v xs s hs (p + 1 + 1) 14 (by omega) (by omega) (by omega)) (by rfl) ?_)
    rintro _ _ ⟨n, rfl, -, -, rfl⟩
    repeat first | refine R1 ?_ | refine R2 fun _ => ?_
    refine sf_if (fun z => ?_) fun z => ?_
    · repeat first | refine R1 ?_ | refine R2 fun _ => ?_
      refine sf_if (fun _ => ?_) fun y => absurd z y
      repeat first | refine R1 ?_ | refine R2 fun _ => ?_
      refine fp (y_call (l71Edit_f _ br v xs s hs (p + 1 + 1 + 1) (by omega) _ _ bg hg) (by rfl) ?_)
      rintro _ _ ⟨e, q, rfl, hq, rfl⟩
      repeat first | refine R1 ?_ | refine R2 fun _ => ?_
      exact sf_ret (rt (rdA br v q) (resV_one rfl (yr_cell rfl)) ⟨⟨1, 0, e⟩, _, rfl, by omega, rfl⟩)
    repeat first | refine R1 ?_ | refine R2 fun _ => ?_
    refine sf_if (fun z => ?_) fun z => ?_
    · repeat first | refine R1 ?_ | refine R2 fun _ => ?_
      refine sf_if (fun _ => ?_) fun y => absurd z y
      repeat first | refine R1 ?_ | refine R2 fun _ => ?_
      refine fp (y_call (l71Edit_f _ br v xs s hs (p + 1 + 1 + 1) (by omega) _ _ bg hg) (by rfl) ?_)
      rintro _ _ ⟨e, q, rfl, hq, rfl⟩
      repeat first | refine R1 ?_ | refine R2 fun _ => ?_
      exact sf_ret (rt (rdA br v q) (resV_one rfl (yr_cell rfl)) ⟨⟨1, 0, e⟩, _, rfl, by omega, rfl⟩)
    repeat first | refine R1 ?_ | refine R2 fun _ => ?_
    refine sf_if (fun z => ?_) fun z => ?_
    · repeat first | refine R1 ?_ | refine R2 fun _ => ?_
      refine fp (y_call (l71Edit_f _ br v xs s hs (p + 1 + 1 + 1) (by omega) _ _ bg hg) (by rfl) ?_)
      rintro _ _ ⟨e, q, rfl, hq, rfl⟩
      repeat first | refine R1 ?_ | refine R2 fun _ => ?_
      exact sf_ret (rt (rdA br v q) (resV_one rfl (yr_cell rfl)) ⟨⟨1, 0, e⟩, _, rfl, by omega, rfl⟩)
    repeat first | refine R1 ?_ | refine R2 fun _ => ?_
    refine sf_if (fun z => ?_) fun z => ?_
    · repeat first | refine R1 ?_ | refine R2 fun _ => ?_
      refine sf_if (fun _ => ?_) fun y => absurd z y
      repeat first | refine R1 ?_ | refine R2 fun _ => ?_
      exact sf_ret (rt (rdA br v (p + 1 + 1 + 1)) (resV_one rfl (yr_cell rfl)) ⟨⟨2, 1 + m, noEdit⟩, _, rfl, by omega, rfl⟩)
    repeat first | refine R1 ?_ | refine R2 fun _ => ?_
    refine sf_if (fun z => ?_) fun z => ?_
    · repeat first | refine R1 ?_ | refine R2 fun _ => ?_
      refine sf_if (fun _ => ?_) fun y => absurd z y
      repeat first | refine R1 ?_ | refine R2 fun _ => ?_
      exact sf_ret (rt (rdA br v (p + 1 + 1 + 1)) (resV_one rfl (yr_cell rfl)) ⟨⟨2, 1 + m, noEdit⟩, _, rfl, by omega, rfl⟩)
    repeat first | refine R1 ?_ | refine R2 fun _ => ?_
    refine sf_if (fun z => ?_) fun z => ?_
    · repeat first | refine R1 ?_ | refine R2 fun _ => ?_
      exact sf_ret (rt (rdA br v (p + 1 + 1 + 1)) (resV_one rfl (yr_cell rfl)) ⟨⟨2, 1 + m, noEdit⟩, _, rfl, by omega, rfl⟩)
    repeat first | refine R1 ?_ | refine R2 fun _ => ?_
    refine sf_if (fun z => ?_) fun z => ?_
    · repeat first | refine R1 ?_ | refine R2 fun _ => ?_
      refine sf_if (fun _ => ?_) fun y => absurd z y
      repeat first | refine R1 ?_ | refine R2 fun _ => ?_
      exact sf_ret (rt (rdA br v (p + 1 + 1 + 1)) (resV_one rfl (yr_cell rfl)) ⟨⟨3, 1 + m, noEdit⟩, _, rfl, by omega, rfl⟩)
    repeat first | refine R1 ?_ | refine R2 fun _ => ?_
    refine sf_if (fun z => ?_) fun z => ?_
    · repeat first | refine R1 ?_ | refine R2 fun _ => ?_
      refine sf_if (fun _ => ?_) fun y => absurd z y
      repeat first | refine R1 ?_ | refine R2 fun _ => ?_
      exact sf_ret (rt (rdA br v (p + 1 + 1 + 1)) (resV_one rfl (yr_cell rfl)) ⟨⟨3, 1 + m, noEdit⟩, _, rfl, by omega, rfl⟩)
    repeat first | refine R1 ?_ | refine R2 fun _ => ?_
    refine sf_if (fun z => ?_) fun z => ?_
    · repeat first | refine R1 ?_ | refine R2 fun _ => ?_
      exact sf_ret (rt (rdA br v (p + 1 + 1 + 1)) (resV_one rfl (yr_cell rfl)) ⟨⟨3, 1 + m, noEdit⟩, _, rfl, by omega, rfl⟩)
    repeat first | refine R1 ?_ | refine R2 fun _ => ?_
    refine sf_if (fun z => ?_) fun z => ?_
    · repeat first | refine R1 ?_ | refine R2 fun _ => ?_
      refine fp (y_call (pick_f _ br v xs s hs (p + 1 + 1 + 1) ((rn.length : Int) + 1) (by omega) (by omega) (by omega)) (by rfl) ?_)
      rintro _ _ ⟨m4, rfl, -, -, rfl⟩
      repeat first | refine R1 ?_ | refine R2 fun _ => ?_
      exact sf_ret (rt (rdA br v (p + 1 + 1 + 1 + 1)) (resV_one rfl (yr_cell rfl)) ⟨⟨4, m4, noEdit⟩, _, rfl, by omega, rfl⟩)
    repeat first | refine R1 ?_ | refine R2 fun _ => ?_
    refine sf_if (fun z => ?_) fun z => ?_
    · repeat first | refine R1 ?_ | refine R2 fun _ => ?_
      refine fp (y_call (pick_f _ br v xs s hs (p + 1 + 1 + 1) ((rn.length : Int) + 1) (by omega) (by omega) (by omega)) (by rfl) ?_)
      rintro _ _ ⟨m4, rfl, -, -, rfl⟩
      repeat first | refine R1 ?_ | refine R2 fun _ => ?_
      exact sf_ret (rt (rdA br v (p + 1 + 1 + 1 + 1)) (resV_one rfl (yr_cell rfl)) ⟨⟨5, m4, noEdit⟩, _, rfl, by omega, rfl⟩)
    repeat first | refine R1 ?_ | refine R2 fun _ => ?_
    refine sf_if (fun z => ?_) fun z => ?_
    · repeat first | refine R1 ?_ | refine R2 fun _ => ?_
      refine fp (y_call (pick_f _ br v xs s hs (p + 1 + 1 + 1) ((rn.length : Int) + 1) (by omega) (by omega) (by omega)) (by rfl) ?_)
      rintro _ _ ⟨m4, rfl, -, -, rfl⟩
      repeat first | refine R1 ?_ | refine R2 fun _ => ?_
      exact sf_ret (rt (rdA br v (p + 1 + 1 + 1 + 1)) (resV_one rfl (yr_cell rfl)) ⟨⟨6, m4, noEdit⟩, _, rfl, by omega, rfl⟩)
    repeat first | refine R1 ?_ | refine R2 fun _ => ?_
    refine sf_if (fun z => ?_) fun z => ?_
    · repeat first | refine R1 ?_ | refine R2 fun _ => ?_
      exact sf_ret (rt (rdA br v (p + 1 + 1 + 1)) (resV_one rfl (yr_cell rfl)) ⟨⟨7, 1 + m, noEdit⟩, _, rfl, by omega, rfl⟩)
    repeat first | refine R1 ?_ | refine R2 fun _ => ?_
    exact sf_ret (rt (rdA br v (p + 1 + 1 + 1)) (resV_one rfl (yr_cell rfl)) ⟨⟨8, 1 + m, noEdit⟩, _, rfl, by omega, rfl⟩)
  · repeat first | refine R1 ?_ | refine R2 fun _ => ?_
    refine sf_cond (by rfl) (fun z => by simp [g1] at z) fun _ => ?_
    repeat first | refine R1 ?_ | refine R2 fun _ => ?_
    refine fp (y_call (pick_f _ br v xs s hs (p + 1) 14 (by omega) (by omega) (by omega)) (by rfl) ?_)
    rintro _ _ ⟨n, rfl, -, -, rfl⟩
    repeat first | refine R1 ?_ | refine R2 fun _ => ?_
    refine sf_if (fun z => ?_) fun z => ?_
    · repeat first | refine R1 ?_ | refine R2 fun _ => ?_
      refine sf_if (fun _ => ?_) fun y => absurd z y
      repeat first | refine R1 ?_ | refine R2 fun _ => ?_
      refine fp (y_call (l71Edit_f _ br v xs s hs (p + 1 + 1) (by omega) _ _ bg hg) (by rfl) ?_)
      rintro _ _ ⟨e, q, rfl, hq, rfl⟩
      repeat first | refine R1 ?_ | refine R2 fun _ => ?_
      exact sf_ret (rt (rdA br v q) (resV_one rfl (yr_cell rfl)) ⟨⟨1, 0, e⟩, _, rfl, by omega, rfl⟩)
    repeat first | refine R1 ?_ | refine R2 fun _ => ?_
    refine sf_if (fun z => ?_) fun z => ?_
    · repeat first | refine R1 ?_ | refine R2 fun _ => ?_
      refine sf_if (fun _ => ?_) fun y => absurd z y
      repeat first | refine R1 ?_ | refine R2 fun _ => ?_
      refine fp (y_call (l71Edit_f _ br v xs s hs (p + 1 + 1) (by omega) _ _ bg hg) (by rfl) ?_)
      rintro _ _ ⟨e, q, rfl, hq, rfl⟩
      repeat first | refine R1 ?_ | refine R2 fun _ => ?_
      exact sf_ret (rt (rdA br v q) (resV_one rfl (yr_cell rfl)) ⟨⟨1, 0, e⟩, _, rfl, by omega, rfl⟩)
    repeat first | refine R1 ?_ | refine R2 fun _ => ?_
    refine sf_if (fun z => ?_) fun z => ?_
    · repeat first | refine R1 ?_ | refine R2 fun _ => ?_
      refine fp (y_call (l71Edit_f _ br v xs s hs (p + 1 + 1) (by omega) _ _ bg hg) (by rfl) ?_)
      rintro _ _ ⟨e, q, rfl, hq, rfl⟩
      repeat first | refine R1 ?_ | refine R2 fun _ => ?_
      exact sf_ret (rt (rdA br v q) (resV_one rfl (yr_cell rfl)) ⟨⟨1, 0, e⟩, _, rfl, by omega, rfl⟩)
    repeat first | refine R1 ?_ | refine R2 fun _ => ?_
    refine sf_if (fun z => ?_) fun z => ?_
    · repeat first | refine R1 ?_ | refine R2 fun _ => ?_
      refine sf_if (fun _ => ?_) fun y => absurd z y
      repeat first | refine R1 ?_ | refine R2 fun _ => ?_
      exact sf_ret (rt (rdA br v (p + 1 + 1)) (resV_one rfl (yr_cell rfl)) ⟨⟨2, 1 + m, noEdit⟩, _, rfl, by omega, rfl⟩)
    repeat first | refine R1 ?_ | refine R2 fun _ => ?_
    refine sf_if (fun z => ?_) fun z => ?_
    · repeat first | refine R1 ?_ | refine R2 fun _ => ?_
      refine sf_if (fun _ => ?_) fun y => absurd z y
      repeat first | refine R1 ?_ | refine R2 fun _ => ?_
      exact sf_ret (rt (rdA br v (p + 1 + 1)) (resV_one rfl (yr_cell rfl)) ⟨⟨2, 1 + m, noEdit⟩, _, rfl, by omega, rfl⟩)
    repeat first | refine R1 ?_ | refine R2 fun _ => ?_
    refine sf_if (fun z => ?_) fun z => ?_
    · repeat first | refine R1 ?_ | refine R2 fun _ => ?_
      exact sf_ret (rt (rdA br v (p + 1 + 1)) (resV_one rfl (yr_cell rfl)) ⟨⟨2, 1 + m, noEdit⟩, _, rfl, by omega, rfl⟩)
    repeat first | refine R1 ?_ | refine R2 fun _ => ?_
    refine sf_if (fun z => ?_) fun z => ?_
    · repeat first | refine R1 ?_ | refine R2 fun _ => ?_
      refine sf_if (fun _ => ?_) fun y => absurd z y
      repeat first | refine R1 ?_ | refine R2 fun _ => ?_
      exact sf_ret (rt (rdA br v (p + 1 + 1)) (resV_one rfl (yr_cell rfl)) ⟨⟨3, 1 + m, noEdit⟩, _, rfl, by omega, rfl⟩)
    repeat first | refine R1 ?_ | refine R2 fun _ => ?_
    refine sf_if (fun z => ?_) fun z => ?_
    · repeat first | refine R1 ?_ | refine R2 fun _ => ?_
      refine sf_if (fun _ => ?_) fun y => absurd z y
      repeat first | refine R1 ?_ | refine R2 fun _ => ?_
      exact sf_ret (rt (rdA br v (p + 1 + 1)) (resV_one rfl (yr_cell rfl)) ⟨⟨3, 1 + m, noEdit⟩, _, rfl, by omega, rfl⟩)
    repeat first | refine R1 ?_ | refine R2 fun _ => ?_
    refine sf_if (fun z => ?_) fun z => ?_
    · repeat first | refine R1 ?_ | refine R2 fun _ => ?_
      exact sf_ret (rt (rdA br v (p + 1 + 1)) (resV_one rfl (yr_cell rfl)) ⟨⟨3, 1 + m, noEdit⟩, _, rfl, by omega, rfl⟩)
    repeat first | refine R1 ?_ | refine R2 fun _ => ?_
    refine sf_if (fun z => ?_) fun z => ?_
    · repeat first | refine R1 ?_ | refine R2 fun _ => ?_
      refine fp (y_call (pick_f _ br v xs s hs (p + 1 + 1) ((rn.length : Int) + 1) (by omega) (by omega) (by omega)) (by rfl) ?_)
      rintro _ _ ⟨m4, rfl, -, -, rfl⟩
      repeat first | refine R1 ?_ | refine R2 fun _ => ?_
      exact sf_ret (rt (rdA br v (p + 1 + 1 + 1)) (resV_one rfl (yr_cell rfl)) ⟨⟨4, m4, noEdit⟩, _, rfl, by omega, rfl⟩)
    repeat first | refine R1 ?_ | refine R2 fun _ => ?_
    refine sf_if (fun z => ?_) fun z => ?_
    · repeat first | refine R1 ?_ | refine R2 fun _ => ?_
      refine fp (y_call (pick_f _ br v xs s hs (p + 1 + 1) ((rn.length : Int) + 1) (by omega) (by omega) (by omega)) (by rfl) ?_)
      rintro _ _ ⟨m4, rfl, -, -, rfl⟩
      repeat first | refine R1 ?_ | refine R2 fun _ => ?_
      exact sf_ret (rt (rdA br v (p + 1 + 1 + 1)) (resV_one rfl (yr_cell rfl)) ⟨⟨5, m4, noEdit⟩, _, rfl, by omega, rfl⟩)
    repeat first | refine R1 ?_ | refine R2 fun _ => ?_
    refine sf_if (fun z => ?_) fun z => ?_
    · repeat first | refine R1 ?_ | refine R2 fun _ => ?_
      refine fp (y_call (pick_f _ br v xs s hs (p + 1 + 1) ((rn.length : Int) + 1) (by omega) (by omega) (by omega)) (by rfl) ?_)
      rintro _ _ ⟨m4, rfl, -, -, rfl⟩
      repeat first | refine R1 ?_ | refine R2 fun _ => ?_
      exact sf_ret (rt (rdA br v (p + 1 + 1 + 1)) (resV_one rfl (yr_cell rfl)) ⟨⟨6, m4, noEdit⟩, _, rfl, by omega, rfl⟩)
    repeat first | refine R1 ?_ | refine R2 fun _ => ?_
    refine sf_if (fun z => ?_) fun z => ?_
    · repeat first | refine R1 ?_ | refine R2 fun _ => ?_
      exact sf_ret (rt (rdA br v (p + 1 + 1)) (resV_one rfl (yr_cell rfl)) ⟨⟨7, 1 + m, noEdit⟩, _, rfl, by omega, rfl⟩)
    repeat first | refine R1 ?_ | refine R2 fun _ => ?_
    exact sf_ret (rt (rdA br v (p + 1 + 1)) (resV_one rfl (yr_cell rfl)) ⟨⟨8, 1 + m, noEdit⟩, _, rfl, by omega, rfl⟩)
end Go.Proofs.YtcpkcmgjfcbnpaaGreat

/- Walks of the seat: SJ TA TB SK TC G1 G2 XeA XeB XsA XsB XsP XtA XtB XtP XhA XhB XhP XmA XmB XmP XhC XmC XsC XtC EK. -/
import Derived.Test.YtekjikbaefgncaaGreatOwnB
import Derived.Test.YtekjikbaefgncaaGreatSpQ
import Derived.Test.YtekjikbaefgncaaGreatSpR
import Derived.Test.YtekjikbaefgncaaGreatOwnA
import Derived.Test.YtekjikbaefgncaaGreatSmH
import Derived.Test.YtekjikbaefgncaaGreatLibC
import Derived.Test.YtekjikbaefgncaaGreatLibD
set_option linter.unusedVariables false
set_option linter.unusedSimpArgs false
set_option linter.unusedSectionVars false
/- Walks: looks and scenes: the reference's. -/
namespace Go.Proofs.YtekjikbaefgncaaGreat
open Go Go.Sl
set_option maxRecDepth 100000
set_option maxHeartbeats 4000000
attribute [local irreducible] Go.Code.sf sfOps Opq opo retF Do1 anyO
variable {M : Jdg → Prop} [IsCl Tryz.prog M]
instance elemF_ints_SJ : ElemF Tryz.prog 25 (rawF (intSR τ).sz) := ⟨trivial⟩
theorem l13Look_f (h : PHeap) (c : Value) (g : Grid) (s : Sl h c cellF g.cells) (e : gridOk g = true) (l f : Value) (A2 A3 : Own) (ls : List Int) (fs : List (List Int)) (gl : Gr A2 l 3 intF ls) (gf : GrR (intSR τ) A3 f 25 fs) (k : Nat) (hk : (k : Int) < manyOf g) (hl : k < ls.length) (hf : k < fs.length) :
    CallF Tryz.prog M 81 [.agg #[.int .i64 g.wide, c, l, f], .int .i64 (k : Int)] (A2 ++ A3) h fun u A => ∃ A2' A3', u = .agg #[.int .i64 g.wide, c, l, f] ∧ A = A2' ++ A3' ∧ Gr A2' l 3 intF (ls.set k (trailLight g k)) ∧ GrR (intSR τ) A3' f 25 (fs.set k (footOf g k)) := by
  have o1 := s.one
  have o2 := gl.one
  have o3 := gf.one
  have kg := gok e
  have hsm := kg.small
  obtain ⟨sz, vs, es, hc, hg, hsz, hok⟩ := goLight_is kg (j := (k : Int)) (by omega) hk
  have hle := hok.le
  have hlv := hok.lv
  have hes : ∀ e ∈ es, EndOk g 64 e := hok.es
  have hvs : ∀ v ∈ vs, 0 ≤ v.at' ∧ v.at' < g.cells.length := fun v hv => ⟨(hok.vs v hv).a0, (hok.vs v hv).a1⟩
  simp only at hle hlv
  obtain ⟨F0, F1, rfl, rs, gr, oa, hb⟩ := gf
  have hr := oa.len
  refine calls_of_sf Tryz.func81 rfl Tryz.ntmps81 ?_
  simp only [argsL, Nat.reduceAdd]
  repeat (first | refine R1 ?_ | (refine R2 ?_; intro _))
  rename_i b2 b4
  refine fp (y_call (l11Go_f (M := M) _ c g s kg (k : Int) ⟨by omega, hk⟩) (by rfl) ?_)
  rintro _ _ ⟨b5, rfl, vv, ev, AV, AE, rfl, gv, ge⟩
  rw [hg] at gv ge
  simp only at gv ge
  have o4 := gv.one
  have o5 := ge.one
  have htl : trailLight g (k : Int) = lightOf g es := by rw [trailLight, hg]
  have hft : footOf g (k : Int) = footIs g vs := by rw [footOf, hg]
  rw [htl, hft]
  clear hc hg
  repeat (first | refine R1 ?_ | (refine R2 ?_; intro _))
  refine sf_draw (by kernel_rfl) (regX_own (AE) (regX_runW _ [[], [0], [], [], [3], [], [5], [5, 6], [5, 6, 7], [3, 4, 5, 6, 7, 8], [0, 1, 2, 3, 4, 5, 6, 7, 8, 9], [0, 1, 2, 3, 4, 5, 6, 7, 8, 9, 10]] 10 [(0, false), (1, false), (2, false), (3, false), (4, false), (5, false), (6, false), (7, false), (8, false), (9, true)] (by kernel_rfl) (by kernel_rfl) (by kernel_rfl) ?_))
  repeat (refine Da1 ?_)
  refine a_call (lendV AE fun h' l i => l11Light_v (M := M) h' c g (s.le l.le) kg ev es (ge.lent (by omega) i) hes (by omega)) (by rfl) (by rfl) (.inl rfl) ?_
  rintro _ _ ⟨rfl, rfl⟩
  repeat (refine Da1 ?_)
  (refine a_end (by rfl) (by rfl) ?_; simp only [finA, setL, List.drop_succ_cons, List.drop_zero])
  repeat (first | refine R1 ?_ | (refine R2 ?_; intro _))
  refine fp (y_storeG0 (by rfl) (by rfl) gl (by omega) (by rfl) fun A5 ys hy hly fv g5 => ?_)
  repeat (first | refine R1 ?_ | (refine R2 ?_; intro _))
  refine sf_draw (by kernel_rfl) (regX_own (AV) (regX_runW _ [[], [0], [], [], [3], [], [5], [5, 6], [5, 6, 7], [3, 4, 5, 6, 7, 8], [0, 1, 2, 3, 4, 5, 6, 7, 8, 9], [0, 1, 2, 3, 4, 5, 6, 7, 8, 9, 10]] 10 [(0, false), (1, false), (2, false), (3, false), (4, false), (5, false), (6, false), (7, false), (8, false), (9, true)] (by kernel_rfl) (by kernel_rfl) (by kernel_rfl) ?_))
  repeat (refine Da1 ?_)
  refine a_call (lendF AV fun h' l i => l11Foot_f (M := M) h' c g (s.le l.le) kg vv vs (gv.lent (by omega) i) hvs) (by rfl) (by rfl) (.inl rfl) ?_
  rintro w _ ⟨AW, rfl, gw⟩
  have o6 := gw.one
  repeat (refine Da1 ?_)
  (refine a_end (by rfl) (by rfl) ?_; simp only [finA, setL, List.drop_succ_cons, List.drop_zero])
  repeat (first | refine R1 ?_ | (refine R2 ?_; intro _))
  refine fp (y_storeG0 (by rfl) (by rfl) gr (by omega) (by rfl) fun A6 zs hz hlz fz g6 => ?_)
  repeat (first | refine R1 ?_ | (refine R2 ?_; intro _))
  obtain ⟨B1, Bk, B2, rfl, q1, q2⟩ := oa.at hf
  have q3 := q2 AW ⟨[w], rfl⟩ (footIs g vs) ⟨w, rfl, gw, by have := footIs_len g vs; omega⟩
  rw [hy] at g5
  rw [hz] at g6
  exact sf_ret (rO (A5 ++ (A6 ++ (B1 ++ (AW ++ B2)))) ⟨A5, A6 ++ (B1 ++ (AW ++ B2)), rfl, rfl, g5, A6, _, rfl, _, g6, q3, by simp; omega⟩)
theorem l21None_v (h : PHeap) (ca : List Value) (s : Scene) (b : (sceneR τ).B h ca s) : CallV Tryz.prog M 23 [.agg ca.toArray] h (.bool (decide (s = noScene))) := by
  obtain ⟨c, l, f, rfl, s1, s2, s3⟩ := sceneB b
  have o1 := s1.one
  have o2 := s2.one
  have o3 := s3.one
  obtain ⟨rs, s3, bs⟩ := s3
  have lb := bs.len
  have key : decide (s = noScene) = (decide (s.grid.wide = 0) && decide ((s.grid.cells.length : Int) = 0) && decide ((s.lights.length : Int) = 0) && decide ((rs.length : Int) = 0)) := by
    obtain ⟨⟨w, cs⟩, ls, fs⟩ := s
    simp only at lb
    simp only [noScene, noGrid, Scene.mk.injEq, Grid.mk.injEq]
    rw [lb]
    by_cases h1 : w = 0 <;> by_cases h2 : cs = [] <;> by_cases h3 : ls = [] <;> by_cases h4 : fs = [] <;> simp [h1, h2, h3, h4]
  rw [key]
  refine calls_of_sf Tryz.func23 rfl Tryz.ntmps23 ?_
  simp only [argsL, Nat.reduceAdd]
  repeat (first | refine R1 ?_ | (refine R2 ?_; intro _))
  refine f_split (fun h1 => ?_) fun h1 => ?_
  · repeat (first | refine R1 ?_ | (refine R2 ?_; intro _))
    refine f_split (fun h2 => ?_) fun h2 => ?_
    · repeat (first | refine R1 ?_ | (refine R2 ?_; intro _))
      refine f_split (fun h3 => ?_) fun h3 => ?_
      · repeat (first | refine R1 ?_ | (refine R2 ?_; intro _))
        refine sf_ret (rV ?_)
        simp [h1, h2, h3]
      · have h3' : ¬ s.lights = [] := fun e => h3 (by rw [e]; rfl)
        repeat (first | refine R1 ?_ | (refine R2 ?_; intro _))
        refine sf_ret (rV ?_)
        simp [h3']
    · have h2' : ¬ s.grid.cells = [] := fun e => h2 (by rw [e]; rfl)
      repeat (first | refine R1 ?_ | (refine R2 ?_; intro _))
      refine sf_ret (rV ?_)
      simp [h2']
  · repeat (first | refine R1 ?_ | (refine R2 ?_; intro _))
    refine sf_ret (rV ?_)
    simp [h1]
theorem scene_step {xs : List (List Int)} {k : Nat} (h : k < xs.length) : (xs.take k ++ List.replicate (xs.length - k) []).set k (gt xs k) = xs.take (k + 1) ++ List.replicate (xs.length - (k + 1)) [] := set_step h
theorem nils_all (n : Nat) : OAll (intSR τ) [] (List.replicate n ⟨[.slice none 0 0], rfl⟩) (List.replicate n []) := by
  induction n with
  | zero => exact .nil
  | succ n ih => exact .cons (A := []) ⟨_, rfl, Gr.nil _ _, by simp⟩ ih
theorem sSceneNew_f (h : PHeap) (ca : List Value) (g : Grid) (b : (gridR τ).B h ca g) : CallF Tryz.prog M 52 [.agg ca.toArray] [] h fun u A => ∃ cs, u = .tuple #[.agg cs.toArray, .bool (sceneNew g).2] ∧ (sceneR τ).O A cs (sceneNew g).1 := by
  have b0 := b
  obtain ⟨c, rfl, s⟩ := gridB b
  have o1 := s.one
  have hN : (sceneR τ).O [] [.int .i64 0, .slice none 0 0, .slice none 0 0, .slice none 0 0] noScene := sceneO_mk (s := noScene) (Gr.nil _ _) (by decide) (Gr.nil _ _) (by decide) (GrR.nil)
  refine calls_of_sf Tryz.func52 rfl Tryz.ntmps52 ?_
  simp only [argsL, Nat.reduceAdd]
  repeat (first | refine R1 ?_ | (refine R2 ?_; intro _))
  refine fp (y_callV (sGridOk_v _ _ g ⟨c, rfl, s⟩) (by rfl) ?_)
  repeat (first | refine R1 ?_ | (refine R2 ?_; intro _))
  refine sf_cond (by rfl) (fun e => ?_) fun e => ?_
  · simp only [Bool.not_eq_true'] at e
    repeat (first | refine R1 ?_ | (refine R2 ?_; intro _))
    rw [sceneNew, if_neg (by rw [e]; decide)]
    exact sf_ret (rO [] ⟨_, rfl, hN⟩)
  simp only [Bool.not_eq_false'] at e
  rw [sceneNew, if_pos e]
  clear hN
  have kg := gok e
  have hm := kg.many
  have hsm := kg.small
  obtain ⟨N, hN⟩ : ∃ N : Nat, manyOf g = N := ⟨(manyOf g).toNat, by omega⟩
  have lp : (picOf g).length = N := by rw [picOf_len, hN]; simp
  have lf : (feetOf g).length = N := by rw [feetOf_len, hN]; simp
  repeat (first | refine R1 ?_ | (refine R2 ?_; intro _))
  refine fp (y_callV (l3Many_v (M := M) _ c g s kg) (by rfl) ?_)
  rw [hN]
  repeat (first | refine R1 ?_ | (refine R2 ?_; intro _))
  rename_i b1 b2
  apply viaT (G := ∀ (c2 l f : Value) (AC AL AF : Own) (b5 : Nat), Gr AC c2 44 cellF g.cells → Gr AL l 3 intF (List.replicate N 0) → Gr AF f 25 (rawF (intSR τ).sz) (List.replicate N ⟨[.slice none 0 0], rfl⟩) → _)
  · intro tail
    refine sf_draw (by kernel_rfl) (regX_split 1 3 (by rfl) (regX_split 1 5 (by rfl) (regX_split 1 7 (by rfl) (regX_split 3 5 (by rfl) (regX_split 3 7 (by rfl) (regX_split 5 7 (by rfl) ?_ ?_) ?_) (regX_split 3 7 (by rfl) ?_ (regX_split 5 7 (by rfl) ?_ ?_))) (regX_split 3 5 (by rfl) ?_ ?_)) (regX_split 1 7 (by rfl) (regX_split 3 7 (by rfl) ?_ ?_) (regX_split 5 7 (by rfl) ?_ ?_))) (regX_split 1 5 (by rfl) (regX_split 1 7 (by rfl) (regX_split 5 7 (by rfl) ?_ ?_) (regX_split 3 7 (by rfl) ?_ ?_)) (regX_split 1 7 (by rfl) (regX_split 3 5 (by rfl) ?_ ?_) (regX_split 3 5 (by rfl) (regX_split 3 7 (by rfl) (regX_split 5 7 (by rfl) ?_ ?_) ?_) (regX_split 3 7 (by rfl) ?_ (regX_split 5 7 (by rfl) ?_ ?_))))))
    case' refine_1 =>
      refine (regX_run [[], [0], [], [0, 1, 2], [], [0, 1, 2, 3, 4], [0, 1, 2, 3, 4, 5], [0, 1, 2, 3, 4, 5], [0, 1, 2, 3, 4, 5, 6, 7]] 8 [(0, false), (2, false), (4, false), (1, true), (3, true), (5, true), (6, false), (7, true)] (by kernel_rfl) (by kernel_rfl) (by kernel_rfl) ?_)
      repeat (refine Da1 ?_)
      refine a_call (l1Copy_f (M := M) _ _ g (gridB_mk s) (by omega)) (by rfl) (by rfl) (.inl rfl) ?_
      rintro _ AC ⟨_, rfl, q⟩
      obtain ⟨c2, rfl, g1, l1⟩ := gridO q
      have o5 := g1.one
      repeat (refine Da1 ?_)
      refine a_make (by rfl) (by rfl) (by rfl) (by infer_instance) (by infer_instance) (by infer_instance) (by infer_instance) (by infer_instance) (by rfl) (by decide) (by omega) (.inl rfl) fun l AL g2 => ?_
      have o6 := g2.one
      repeat (refine Da1 ?_)
      refine a_make (by rfl) (by rfl) (by rfl) (by infer_instance) (by infer_instance) (by infer_instance) (by infer_instance) (by infer_instance) (by rfl) (by decide) (by omega) (.inl rfl) fun f AF g3 => ?_
      have o7 := g3.one
      repeat (refine Da1 ?_)
      refine a_alloc (by rfl) (.inl rfl) fun b5 => ?_
      repeat (refine Da1 ?_)
      (refine a_end (by rfl) (by rfl) ?_; simp only [finA, setL, List.drop_succ_cons, List.drop_zero])
      repeat (first | refine R1 ?_ | (refine R2 ?_; intro _))
      refine sf_keep [2, 4, 5, 6] ?_
      refine sf_own ((b5, .cells #[.int .i64 g.wide, c2, l, f] 37) :: (AC ++ (AL ++ (AF ++ [(b2, .cells #[.int .i64 0, .slice none 0 0, .slice none 0 0, .slice none 0 0] 37), (b1, .cells #[.int .i64 g.wide, c] 35)])))) ?_
      exact tail.out c2 l f AC AL AF b5 g1 g2 g3
    case' refine_2 =>
      refine (regX_run [[], [0], [], [0, 1, 2], [], [0, 1, 2, 3, 4, 7], [0, 1, 2, 3, 4, 5, 7], [0, 1, 2, 3], [0, 1, 2, 3, 4, 5, 6, 7]] 8 [(0, false), (2, false), (4, false), (1, true), (3, true), (7, true), (5, true), (6, false)] (by kernel_rfl) (by kernel_rfl) (by kernel_rfl) ?_)
      repeat (refine Da1 ?_)
      refine a_call (l1Copy_f (M := M) _ _ g (gridB_mk s) (by omega)) (by rfl) (by rfl) (.inl rfl) ?_
      rintro _ AC ⟨_, rfl, q⟩
      obtain ⟨c2, rfl, g1, l1⟩ := gridO q
      have o5 := g1.one
      repeat (refine Da1 ?_)
      refine a_make (by rfl) (by rfl) (by rfl) (by infer_instance) (by infer_instance) (by infer_instance) (by infer_instance) (by infer_instance) (by rfl) (by decide) (by omega) (.inl rfl) fun l AL g2 => ?_
      have o6 := g2.one
      repeat (refine Da1 ?_)
      refine a_alloc (by rfl) (.inl rfl) fun b5 => ?_
      repeat (refine Da1 ?_)
      refine a_make (by rfl) (by rfl) (by rfl) (by infer_instance) (by infer_instance) (by infer_instance) (by infer_instance) (by infer_instance) (by rfl) (by decide) (by omega) (.inl rfl) fun f AF g3 => ?_
      have o7 := g3.one
      repeat (refine Da1 ?_)
      (refine a_end (by rfl) (by rfl) ?_; simp only [finA, setL, List.drop_succ_cons, List.drop_zero])
      repeat (first | refine R1 ?_ | (refine R2 ?_; intro _))
      refine sf_keep [2, 4, 5, 6] ?_
      refine sf_own ((b5, .cells #[.int .i64 g.wide, c2, l, f] 37) :: (AC ++ (AL ++ (AF ++ [(b2, .cells #[.int .i64 0, .slice none 0 0, .slice none 0 0, .slice none 0 0] 37), (b1, .cells #[.int .i64 g.wide, c] 35)])))) ?_
      exact tail.out c2 l f AC AL AF b5 g1 g2 g3
    case' refine_3 =>
      refine (regX_run [[], [0], [], [0, 1, 2, 7], [], [0, 1, 2, 3, 4, 7], [0, 1, 2, 3, 4, 5, 7], [0, 1], [0, 1, 2, 3, 4, 5, 6, 7]] 8 [(0, false), (2, false), (4, false), (1, true), (7, true), (3, true), (5, true), (6, false)] (by kernel_rfl) (by kernel_rfl) (by kernel_rfl) ?_)
      repeat (refine Da1 ?_)
      refine a_call (l1Copy_f (M := M) _ _ g (gridB_mk s) (by omega)) (by rfl) (by rfl) (.inl rfl) ?_
      rintro _ AC ⟨_, rfl, q⟩
      obtain ⟨c2, rfl, g1, l1⟩ := gridO q
      have o5 := g1.one
      repeat (refine Da1 ?_)
      refine a_alloc (by rfl) (.inl rfl) fun b5 => ?_
      repeat (refine Da1 ?_)
      refine a_make (by rfl) (by rfl) (by rfl) (by infer_instance) (by infer_instance) (by infer_instance) (by infer_instance) (by infer_instance) (by rfl) (by decide) (by omega) (.inl rfl) fun l AL g2 => ?_
      have o6 := g2.one
      repeat (refine Da1 ?_)
      refine a_make (by rfl) (by rfl) (by rfl) (by infer_instance) (by infer_instance) (by infer_instance) (by infer_instance) (by infer_instance) (by rfl) (by decide) (by omega) (.inl rfl) fun f AF g3 => ?_
      have o7 := g3.one
      repeat (refine Da1 ?_)
      (refine a_end (by rfl) (by rfl) ?_; simp only [finA, setL, List.drop_succ_cons, List.drop_zero])
      repeat (first | refine R1 ?_ | (refine R2 ?_; intro _))
      refine sf_keep [2, 4, 5, 6] ?_
      refine sf_own ((b5, .cells #[.int .i64 g.wide, c2, l, f] 37) :: (AC ++ (AL ++ (AF ++ [(b2, .cells #[.int .i64 0, .slice none 0 0, .slice none 0 0, .slice none 0 0] 37), (b1, .cells #[.int .i64 g.wide, c] 35)])))) ?_
      exact tail.out c2 l f AC AL AF b5 g1 g2 g3
    case' refine_4 =>
      refine (regX_run [[], [0], [], [0, 1, 2, 4, 5], [], [0, 1, 4], [0, 1, 2, 3, 4, 5], [0, 1, 2, 3, 4, 5], [0, 1, 2, 3, 4, 5, 6, 7]] 8 [(0, false), (2, false), (4, false), (1, true), (5, true), (3, true), (6, false), (7, true)] (by kernel_rfl) (by kernel_rfl) (by kernel_rfl) ?_)
      repeat (refine Da1 ?_)
      refine a_call (l1Copy_f (M := M) _ _ g (gridB_mk s) (by omega)) (by rfl) (by rfl) (.inl rfl) ?_
      rintro _ AC ⟨_, rfl, q⟩
      obtain ⟨c2, rfl, g1, l1⟩ := gridO q
      have o5 := g1.one
      repeat (refine Da1 ?_)
      refine a_make (by rfl) (by rfl) (by rfl) (by infer_instance) (by infer_instance) (by infer_instance) (by infer_instance) (by infer_instance) (by rfl) (by decide) (by omega) (.inl rfl) fun f AF g3 => ?_
      have o7 := g3.one
      repeat (refine Da1 ?_)
      refine a_make (by rfl) (by rfl) (by rfl) (by infer_instance) (by infer_instance) (by infer_instance) (by infer_instance) (by infer_instance) (by rfl) (by decide) (by omega) (.inl rfl) fun l AL g2 => ?_
      have o6 := g2.one
      repeat (refine Da1 ?_)
      refine a_alloc (by rfl) (.inl rfl) fun b5 => ?_
      repeat (refine Da1 ?_)
      (refine a_end (by rfl) (by rfl) ?_; simp only [finA, setL, List.drop_succ_cons, List.drop_zero])
      repeat (first | refine R1 ?_ | (refine R2 ?_; intro _))
      refine sf_keep [2, 4, 5, 6] ?_
      refine sf_own ((b5, .cells #[.int .i64 g.wide, c2, l, f] 37) :: (AC ++ (AL ++ (AF ++ [(b2, .cells #[.int .i64 0, .slice none 0 0, .slice none 0 0, .slice none 0 0] 37), (b1, .cells #[.int .i64 g.wide, c] 35)])))) ?_
      exact tail.out c2 l f AC AL AF b5 g1 g2 g3
    case' refine_5 =>
      refine (regX_run [[], [0], [], [0, 1, 2, 4, 5, 7], [], [0, 1, 4], [0, 1, 2, 3, 4, 5, 7], [0, 1, 4, 5], [0, 1, 2, 3, 4, 5, 6, 7]] 8 [(0, false), (2, false), (4, false), (1, true), (5, true), (7, true), (3, true), (6, false)] (by kernel_rfl) (by kernel_rfl) (by kernel_rfl) ?_)
      repeat (refine Da1 ?_)
      refine a_call (l1Copy_f (M := M) _ _ g (gridB_mk s) (by omega)) (by rfl) (by rfl) (.inl rfl) ?_
      rintro _ AC ⟨_, rfl, q⟩
      obtain ⟨c2, rfl, g1, l1⟩ := gridO q
      have o5 := g1.one
      repeat (refine Da1 ?_)
      refine a_make (by rfl) (by rfl) (by rfl) (by infer_instance) (by infer_instance) (by infer_instance) (by infer_instance) (by infer_instance) (by rfl) (by decide) (by omega) (.inl rfl) fun f AF g3 => ?_
      have o7 := g3.one
      repeat (refine Da1 ?_)
      refine a_alloc (by rfl) (.inl rfl) fun b5 => ?_
      repeat (refine Da1 ?_)
      refine a_make (by rfl) (by rfl) (by rfl) (by infer_instance) (by infer_instance) (by infer_instance) (by infer_instance) (by infer_instance) (by rfl) (by decide) (by omega) (.inl rfl) fun l AL g2 => ?_
      have o6 := g2.one
      repeat (refine Da1 ?_)
      (refine a_end (by rfl) (by rfl) ?_; simp only [finA, setL, List.drop_succ_cons, List.drop_zero])
      repeat (first | refine R1 ?_ | (refine R2 ?_; intro _))
      refine sf_keep [2, 4, 5, 6] ?_
      refine sf_own ((b5, .cells #[.int .i64 g.wide, c2, l, f] 37) :: (AC ++ (AL ++ (AF ++ [(b2, .cells #[.int .i64 0, .slice none 0 0, .slice none 0 0, .slice none 0 0] 37), (b1, .cells #[.int .i64 g.wide, c] 35)])))) ?_
      exact tail.out c2 l f AC AL AF b5 g1 g2 g3
    case' refine_6 =>
      refine (regX_run [[], [0], [], [0, 1, 2, 4, 5, 7], [], [0, 1, 4, 7], [0, 1, 2, 3, 4, 5, 7], [0, 1], [0, 1, 2, 3, 4, 5, 6, 7]] 8 [(0, false), (2, false), (4, false), (1, true), (7, true), (5, true), (3, true), (6, false)] (by kernel_rfl) (by kernel_rfl) (by kernel_rfl) ?_)
      repeat (refine Da1 ?_)
      refine a_call (l1Copy_f (M := M) _ _ g (gridB_mk s) (by omega)) (by rfl) (by rfl) (.inl rfl) ?_
      rintro _ AC ⟨_, rfl, q⟩
      obtain ⟨c2, rfl, g1, l1⟩ := gridO q
      have o5 := g1.one
      repeat (refine Da1 ?_)
      refine a_alloc (by rfl) (.inl rfl) fun b5 => ?_
      repeat (refine Da1 ?_)
      refine a_make (by rfl) (by rfl) (by rfl) (by infer_instance) (by infer_instance) (by infer_instance) (by infer_instance) (by infer_instance) (by rfl) (by decide) (by omega) (.inl rfl) fun f AF g3 => ?_
      have o7 := g3.one
      repeat (refine Da1 ?_)
      refine a_make (by rfl) (by rfl) (by rfl) (by infer_instance) (by infer_instance) (by infer_instance) (by infer_instance) (by infer_instance) (by rfl) (by decide) (by omega) (.inl rfl) fun l AL g2 => ?_
      have o6 := g2.one
      repeat (refine Da1 ?_)
      (refine a_end (by rfl) (by rfl) ?_; simp only [finA, setL, List.drop_succ_cons, List.drop_zero])
      repeat (first | refine R1 ?_ | (refine R2 ?_; intro _))
      refine sf_keep [2, 4, 5, 6] ?_
      refine sf_own ((b5, .cells #[.int .i64 g.wide, c2, l, f] 37) :: (AC ++ (AL ++ (AF ++ [(b2, .cells #[.int .i64 0, .slice none 0 0, .slice none 0 0, .slice none 0 0] 37), (b1, .cells #[.int .i64 g.wide, c] 35)])))) ?_
      exact tail.out c2 l f AC AL AF b5 g1 g2 g3
    case' refine_7 =>
      refine (regX_run [[], [0, 7], [], [0, 1, 2, 7], [], [0, 1, 2, 3, 4, 7], [0, 1, 2, 3, 4, 5, 7], [], [0, 1, 2, 3, 4, 5, 6, 7]] 8 [(0, false), (2, false), (4, false), (7, true), (1, true), (3, true), (5, true), (6, false)] (by kernel_rfl) (by kernel_rfl) (by kernel_rfl) ?_)
      repeat (refine Da1 ?_)
      refine a_alloc (by rfl) (.inl rfl) fun b5 => ?_
      repeat (refine Da1 ?_)
      refine a_call (l1Copy_f (M := M) _ _ g (gridB_mk s) (by omega)) (by rfl) (by rfl) (.inl rfl) ?_
      rintro _ AC ⟨_, rfl, q⟩
      obtain ⟨c2, rfl, g1, l1⟩ := gridO q
      have o5 := g1.one
      repeat (refine Da1 ?_)
      refine a_make (by rfl) (by rfl) (by rfl) (by infer_instance) (by infer_instance) (by infer_instance) (by infer_instance) (by infer_instance) (by rfl) (by decide) (by omega) (.inl rfl) fun l AL g2 => ?_
      have o6 := g2.one
      repeat (refine Da1 ?_)
      refine a_make (by rfl) (by rfl) (by rfl) (by infer_instance) (by infer_instance) (by infer_instance) (by infer_instance) (by infer_instance) (by rfl) (by decide) (by omega) (.inl rfl) fun f AF g3 => ?_
      have o7 := g3.one
      repeat (refine Da1 ?_)
      (refine a_end (by rfl) (by rfl) ?_; simp only [finA, setL, List.drop_succ_cons, List.drop_zero])
      repeat (first | refine R1 ?_ | (refine R2 ?_; intro _))
      refine sf_keep [2, 4, 5, 6] ?_
      refine sf_own ((b5, .cells #[.int .i64 g.wide, c2, l, f] 37) :: (AC ++ (AL ++ (AF ++ [(b2, .cells #[.int .i64 0, .slice none 0 0, .slice none 0 0, .slice none 0 0] 37), (b1, .cells #[.int .i64 g.wide, c] 35)])))) ?_
      exact tail.out c2 l f AC AL AF b5 g1 g2 g3
    case' refine_8 =>
      refine (regX_run [[], [0, 7], [], [0, 1, 2, 4, 5, 7], [], [0, 1, 4, 7], [0, 1, 2, 3, 4, 5, 7], [], [0, 1, 2, 3, 4, 5, 6, 7]] 8 [(0, false), (2, false), (4, false), (7, true), (1, true), (5, true), (3, true), (6, false)] (by kernel_rfl) (by kernel_rfl) (by kernel_rfl) ?_)
      repeat (refine Da1 ?_)
      refine a_alloc (by rfl) (.inl rfl) fun b5 => ?_
      repeat (refine Da1 ?_)
      refine a_call (l1Copy_f (M := M) _ _ g (gridB_mk s) (by omega)) (by rfl) (by rfl) (.inl rfl) ?_
      rintro _ AC ⟨_, rfl, q⟩
      obtain ⟨c2, rfl, g1, l1⟩ := gridO q
      have o5 := g1.one
      repeat (refine Da1 ?_)
      refine a_make (by rfl) (by rfl) (by rfl) (by infer_instance) (by infer_instance) (by infer_instance) (by infer_instance) (by infer_instance) (by rfl) (by decide) (by omega) (.inl rfl) fun f AF g3 => ?_
      have o7 := g3.one
      repeat (refine Da1 ?_)
      refine a_make (by rfl) (by rfl) (by rfl) (by infer_instance) (by infer_instance) (by infer_instance) (by infer_instance) (by infer_instance) (by rfl) (by decide) (by omega) (.inl rfl) fun l AL g2 => ?_
      have o6 := g2.one
      repeat (refine Da1 ?_)
      (refine a_end (by rfl) (by rfl) ?_; simp only [finA, setL, List.drop_succ_cons, List.drop_zero])
      repeat (first | refine R1 ?_ | (refine R2 ?_; intro _))
      refine sf_keep [2, 4, 5, 6] ?_
      refine sf_own ((b5, .cells #[.int .i64 g.wide, c2, l, f] 37) :: (AC ++ (AL ++ (AF ++ [(b2, .cells #[.int .i64 0, .slice none 0 0, .slice none 0 0, .slice none 0 0] 37), (b1, .cells #[.int .i64 g.wide, c] 35)])))) ?_
      exact tail.out c2 l f AC AL AF b5 g1 g2 g3
    case' refine_9 =>
      refine (regX_run [[], [0, 4, 5], [], [0, 1, 2, 4, 5], [], [4], [0, 1, 2, 3, 4, 5], [0, 1, 2, 3, 4, 5], [0, 1, 2, 3, 4, 5, 6, 7]] 8 [(0, false), (2, false), (4, false), (5, true), (1, true), (3, true), (6, false), (7, true)] (by kernel_rfl) (by kernel_rfl) (by kernel_rfl) ?_)
      repeat (refine Da1 ?_)
      refine a_make (by rfl) (by rfl) (by rfl) (by infer_instance) (by infer_instance) (by infer_instance) (by infer_instance) (by infer_instance) (by rfl) (by decide) (by omega) (.inl rfl) fun f AF g3 => ?_
      have o7 := g3.one
      repeat (refine Da1 ?_)
      refine a_call (l1Copy_f (M := M) _ _ g (gridB_mk s) (by omega)) (by rfl) (by rfl) (.inl rfl) ?_
      rintro _ AC ⟨_, rfl, q⟩
      obtain ⟨c2, rfl, g1, l1⟩ := gridO q
      have o5 := g1.one
      repeat (refine Da1 ?_)
      refine a_make (by rfl) (by rfl) (by rfl) (by infer_instance) (by infer_instance) (by infer_instance) (by infer_instance) (by infer_instance) (by rfl) (by decide) (by omega) (.inl rfl) fun l AL g2 => ?_
      have o6 := g2.one
      repeat (refine Da1 ?_)
      refine a_alloc (by rfl) (.inl rfl) fun b5 => ?_
      repeat (refine Da1 ?_)
      (refine a_end (by rfl) (by rfl) ?_; simp only [finA, setL, List.drop_succ_cons, List.drop_zero])
      repeat (first | refine R1 ?_ | (refine R2 ?_; intro _))
      refine sf_keep [2, 4, 5, 6] ?_
      refine sf_own ((b5, .cells #[.int .i64 g.wide, c2, l, f] 37) :: (AC ++ (AL ++ (AF ++ [(b2, .cells #[.int .i64 0, .slice none 0 0, .slice none 0 0, .slice none 0 0] 37), (b1, .cells #[.int .i64 g.wide, c] 35)])))) ?_
      exact tail.out c2 l f AC AL AF b5 g1 g2 g3
    case' refine_10 =>
      refine (regX_run [[], [0, 4, 5], [], [0, 1, 2, 4, 5, 7], [], [4], [0, 1, 2, 3, 4, 5, 7], [0, 1, 4, 5], [0, 1, 2, 3, 4, 5, 6, 7]] 8 [(0, false), (2, false), (4, false), (5, true), (1, true), (7, true), (3, true), (6, false)] (by kernel_rfl) (by kernel_rfl) (by kernel_rfl) ?_)
      repeat (refine Da1 ?_)
      refine a_make (by rfl) (by rfl) (by rfl) (by infer_instance) (by infer_instance) (by infer_instance) (by infer_instance) (by infer_instance) (by rfl) (by decide) (by omega) (.inl rfl) fun f AF g3 => ?_
      have o7 := g3.one
      repeat (refine Da1 ?_)
      refine a_call (l1Copy_f (M := M) _ _ g (gridB_mk s) (by omega)) (by rfl) (by rfl) (.inl rfl) ?_
      rintro _ AC ⟨_, rfl, q⟩
      obtain ⟨c2, rfl, g1, l1⟩ := gridO q
      have o5 := g1.one
      repeat (refine Da1 ?_)
      refine a_alloc (by rfl) (.inl rfl) fun b5 => ?_
      repeat (refine Da1 ?_)
      refine a_make (by rfl) (by rfl) (by rfl) (by infer_instance) (by infer_instance) (by infer_instance) (by infer_instance) (by infer_instance) (by rfl) (by decide) (by omega) (.inl rfl) fun l AL g2 => ?_
      have o6 := g2.one
      repeat (refine Da1 ?_)
      (refine a_end (by rfl) (by rfl) ?_; simp only [finA, setL, List.drop_succ_cons, List.drop_zero])
      repeat (first | refine R1 ?_ | (refine R2 ?_; intro _))
      refine sf_keep [2, 4, 5, 6] ?_
      refine sf_own ((b5, .cells #[.int .i64 g.wide, c2, l, f] 37) :: (AC ++ (AL ++ (AF ++ [(b2, .cells #[.int .i64 0, .slice none 0 0, .slice none 0 0, .slice none 0 0] 37), (b1, .cells #[.int .i64 g.wide, c] 35)])))) ?_
      exact tail.out c2 l f AC AL AF b5 g1 g2 g3
    case' refine_11 =>
      refine (regX_run [[], [0, 4, 5, 7], [], [0, 1, 2, 4, 5, 7], [], [4], [0, 1, 2, 3, 4, 5, 7], [4, 5], [0, 1, 2, 3, 4, 5, 6, 7]] 8 [(0, false), (2, false), (4, false), (5, true), (7, true), (1, true), (3, true), (6, false)] (by kernel_rfl) (by kernel_rfl) (by kernel_rfl) ?_)
      repeat (refine Da1 ?_)
      refine a_make (by rfl) (by rfl) (by rfl) (by infer_instance) (by infer_instance) (by infer_instance) (by infer_instance) (by infer_instance) (by rfl) (by decide) (by omega) (.inl rfl) fun f AF g3 => ?_
      have o7 := g3.one
      repeat (refine Da1 ?_)
      refine a_alloc (by rfl) (.inl rfl) fun b5 => ?_
      repeat (refine Da1 ?_)
      refine a_call (l1Copy_f (M := M) _ _ g (gridB_mk s) (by omega)) (by rfl) (by rfl) (.inl rfl) ?_
      rintro _ AC ⟨_, rfl, q⟩
      obtain ⟨c2, rfl, g1, l1⟩ := gridO q
      have o5 := g1.one
      repeat (refine Da1 ?_)
      refine a_make (by rfl) (by rfl) (by rfl) (by infer_instance) (by infer_instance) (by infer_instance) (by infer_instance) (by infer_instance) (by rfl) (by decide) (by omega) (.inl rfl) fun l AL g2 => ?_
      have o6 := g2.one
      repeat (refine Da1 ?_)
      (refine a_end (by rfl) (by rfl) ?_; simp only [finA, setL, List.drop_succ_cons, List.drop_zero])
      repeat (first | refine R1 ?_ | (refine R2 ?_; intro _))
      refine sf_keep [2, 4, 5, 6] ?_
      refine sf_own ((b5, .cells #[.int .i64 g.wide, c2, l, f] 37) :: (AC ++ (AL ++ (AF ++ [(b2, .cells #[.int .i64 0, .slice none 0 0, .slice none 0 0, .slice none 0 0] 37), (b1, .cells #[.int .i64 g.wide, c] 35)])))) ?_
      exact tail.out c2 l f AC AL AF b5 g1 g2 g3
    case' refine_12 =>
      refine (regX_run [[], [0, 4, 5, 7], [], [0, 1, 2, 4, 5, 7], [], [4, 7], [0, 1, 2, 3, 4, 5, 7], [], [0, 1, 2, 3, 4, 5, 6, 7]] 8 [(0, false), (2, false), (4, false), (7, true), (5, true), (1, true), (3, true), (6, false)] (by kernel_rfl) (by kernel_rfl) (by kernel_rfl) ?_)
      repeat (refine Da1 ?_)
      refine a_alloc (by rfl) (.inl rfl) fun b5 => ?_
      repeat (refine Da1 ?_)
      refine a_make (by rfl) (by rfl) (by rfl) (by infer_instance) (by infer_instance) (by infer_instance) (by infer_instance) (by infer_instance) (by rfl) (by decide) (by omega) (.inl rfl) fun f AF g3 => ?_
      have o7 := g3.one
      repeat (refine Da1 ?_)
      refine a_call (l1Copy_f (M := M) _ _ g (gridB_mk s) (by omega)) (by rfl) (by rfl) (.inl rfl) ?_
      rintro _ AC ⟨_, rfl, q⟩
      obtain ⟨c2, rfl, g1, l1⟩ := gridO q
      have o5 := g1.one
      repeat (refine Da1 ?_)
      refine a_make (by rfl) (by rfl) (by rfl) (by infer_instance) (by infer_instance) (by infer_instance) (by infer_instance) (by infer_instance) (by rfl) (by decide) (by omega) (.inl rfl) fun l AL g2 => ?_
      have o6 := g2.one
      repeat (refine Da1 ?_)
      (refine a_end (by rfl) (by rfl) ?_; simp only [finA, setL, List.drop_succ_cons, List.drop_zero])
      repeat (first | refine R1 ?_ | (refine R2 ?_; intro _))
      refine sf_keep [2, 4, 5, 6] ?_
      refine sf_own ((b5, .cells #[.int .i64 g.wide, c2, l, f] 37) :: (AC ++ (AL ++ (AF ++ [(b2, .cells #[.int .i64 0, .slice none 0 0, .slice none 0 0, .slice none 0 0] 37), (b1, .cells #[.int .i64 g.wide, c] 35)])))) ?_
      exact tail.out c2 l f AC AL AF b5 g1 g2 g3
    case' refine_13 =>
      refine (regX_run [[], [0, 2, 3], [], [2], [], [0, 1, 2, 3, 4], [0, 1, 2, 3, 4, 5], [0, 1, 2, 3, 4, 5], [0, 1, 2, 3, 4, 5, 6, 7]] 8 [(0, false), (2, false), (4, false), (3, true), (1, true), (5, true), (6, false), (7, true)] (by kernel_rfl) (by kernel_rfl) (by kernel_rfl) ?_)
      repeat (refine Da1 ?_)
      refine a_make (by rfl) (by rfl) (by rfl) (by infer_instance) (by infer_instance) (by infer_instance) (by infer_instance) (by infer_instance) (by rfl) (by decide) (by omega) (.inl rfl) fun l AL g2 => ?_
      have o6 := g2.one
      repeat (refine Da1 ?_)
      refine a_call (l1Copy_f (M := M) _ _ g (gridB_mk s) (by omega)) (by rfl) (by rfl) (.inl rfl) ?_
      rintro _ AC ⟨_, rfl, q⟩
      obtain ⟨c2, rfl, g1, l1⟩ := gridO q
      have o5 := g1.one
      repeat (refine Da1 ?_)
      refine a_make (by rfl) (by rfl) (by rfl) (by infer_instance) (by infer_instance) (by infer_instance) (by infer_instance) (by infer_instance) (by rfl) (by decide) (by omega) (.inl rfl) fun f AF g3 => ?_
      have o7 := g3.one
      repeat (refine Da1 ?_)
      refine a_alloc (by rfl) (.inl rfl) fun b5 => ?_
      repeat (refine Da1 ?_)
      (refine a_end (by rfl) (by rfl) ?_; simp only [finA, setL, List.drop_succ_cons, List.drop_zero])
      repeat (first | refine R1 ?_ | (refine R2 ?_; intro _))
      refine sf_keep [2, 4, 5, 6] ?_
      refine sf_own ((b5, .cells #[.int .i64 g.wide, c2, l, f] 37) :: (AC ++ (AL ++ (AF ++ [(b2, .cells #[.int .i64 0, .slice none 0 0, .slice none 0 0, .slice none 0 0] 37), (b1, .cells #[.int .i64 g.wide, c] 35)])))) ?_
      exact tail.out c2 l f AC AL AF b5 g1 g2 g3
    case' refine_14 =>
      refine (regX_run [[], [0, 2, 3], [], [2], [], [0, 1, 2, 3, 4, 7], [0, 1, 2, 3, 4, 5, 7], [0, 1, 2, 3], [0, 1, 2, 3, 4, 5, 6, 7]] 8 [(0, false), (2, false), (4, false), (3, true), (1, true), (7, true), (5, true), (6, false)] (by kernel_rfl) (by kernel_rfl) (by kernel_rfl) ?_)
      repeat (refine Da1 ?_)
      refine a_make (by rfl) (by rfl) (by rfl) (by infer_instance) (by infer_instance) (by infer_instance) (by infer_instance) (by infer_instance) (by rfl) (by decide) (by omega) (.inl rfl) fun l AL g2 => ?_
      have o6 := g2.one
      repeat (refine Da1 ?_)
      refine a_call (l1Copy_f (M := M) _ _ g (gridB_mk s) (by omega)) (by rfl) (by rfl) (.inl rfl) ?_
      rintro _ AC ⟨_, rfl, q⟩
      obtain ⟨c2, rfl, g1, l1⟩ := gridO q
      have o5 := g1.one
      repeat (refine Da1 ?_)
      refine a_alloc (by rfl) (.inl rfl) fun b5 => ?_
      repeat (refine Da1 ?_)
      refine a_make (by rfl) (by rfl) (by rfl) (by infer_instance) (by infer_instance) (by infer_instance) (by infer_instance) (by infer_instance) (by rfl) (by decide) (by omega) (.inl rfl) fun f AF g3 => ?_
      have o7 := g3.one
      repeat (refine Da1 ?_)
      (refine a_end (by rfl) (by rfl) ?_; simp only [finA, setL, List.drop_succ_cons, List.drop_zero])
      repeat (first | refine R1 ?_ | (refine R2 ?_; intro _))
      refine sf_keep [2, 4, 5, 6] ?_
      refine sf_own ((b5, .cells #[.int .i64 g.wide, c2, l, f] 37) :: (AC ++ (AL ++ (AF ++ [(b2, .cells #[.int .i64 0, .slice none 0 0, .slice none 0 0, .slice none 0 0] 37), (b1, .cells #[.int .i64 g.wide, c] 35)])))) ?_
      exact tail.out c2 l f AC AL AF b5 g1 g2 g3
    case' refine_15 =>
      refine (regX_run [[], [0, 2, 3, 7], [], [2], [], [0, 1, 2, 3, 4, 7], [0, 1, 2, 3, 4, 5, 7], [2, 3], [0, 1, 2, 3, 4, 5, 6, 7]] 8 [(0, false), (2, false), (4, false), (3, true), (7, true), (1, true), (5, true), (6, false)] (by kernel_rfl) (by kernel_rfl) (by kernel_rfl) ?_)
      repeat (refine Da1 ?_)
      refine a_make (by rfl) (by rfl) (by rfl) (by infer_instance) (by infer_instance) (by infer_instance) (by infer_instance) (by infer_instance) (by rfl) (by decide) (by omega) (.inl rfl) fun l AL g2 => ?_
      have o6 := g2.one
      repeat (refine Da1 ?_)
      refine a_alloc (by rfl) (.inl rfl) fun b5 => ?_
      repeat (refine Da1 ?_)
      refine a_call (l1Copy_f (M := M) _ _ g (gridB_mk s) (by omega)) (by rfl) (by rfl) (.inl rfl) ?_
      rintro _ AC ⟨_, rfl, q⟩
      obtain ⟨c2, rfl, g1, l1⟩ := gridO q
      have o5 := g1.one
      repeat (refine Da1 ?_)
      refine a_make (by rfl) (by rfl) (by rfl) (by infer_instance) (by infer_instance) (by infer_instance) (by infer_instance) (by infer_instance) (by rfl) (by decide) (by omega) (.inl rfl) fun f AF g3 => ?_
      have o7 := g3.one
      repeat (refine Da1 ?_)
      (refine a_end (by rfl) (by rfl) ?_; simp only [finA, setL, List.drop_succ_cons, List.drop_zero])
      repeat (first | refine R1 ?_ | (refine R2 ?_; intro _))
      refine sf_keep [2, 4, 5, 6] ?_
      refine sf_own ((b5, .cells #[.int .i64 g.wide, c2, l, f] 37) :: (AC ++ (AL ++ (AF ++ [(b2, .cells #[.int .i64 0, .slice none 0 0, .slice none 0 0, .slice none 0 0] 37), (b1, .cells #[.int .i64 g.wide, c] 35)])))) ?_
      exact tail.out c2 l f AC AL AF b5 g1 g2 g3
    case' refine_16 =>
      refine (regX_run [[], [0, 2, 3, 7], [], [2, 7], [], [0, 1, 2, 3, 4, 7], [0, 1, 2, 3, 4, 5, 7], [], [0, 1, 2, 3, 4, 5, 6, 7]] 8 [(0, false), (2, false), (4, false), (7, true), (3, true), (1, true), (5, true), (6, false)] (by kernel_rfl) (by kernel_rfl) (by kernel_rfl) ?_)
      repeat (refine Da1 ?_)
      refine a_alloc (by rfl) (.inl rfl) fun b5 => ?_
      repeat (refine Da1 ?_)
      refine a_make (by rfl) (by rfl) (by rfl) (by infer_instance) (by infer_instance) (by infer_instance) (by infer_instance) (by infer_instance) (by rfl) (by decide) (by omega) (.inl rfl) fun l AL g2 => ?_
      have o6 := g2.one
      repeat (refine Da1 ?_)
      refine a_call (l1Copy_f (M := M) _ _ g (gridB_mk s) (by omega)) (by rfl) (by rfl) (.inl rfl) ?_
      rintro _ AC ⟨_, rfl, q⟩
      obtain ⟨c2, rfl, g1, l1⟩ := gridO q
      have o5 := g1.one
      repeat (refine Da1 ?_)
      refine a_make (by rfl) (by rfl) (by rfl) (by infer_instance) (by infer_instance) (by infer_instance) (by infer_instance) (by infer_instance) (by rfl) (by decide) (by omega) (.inl rfl) fun f AF g3 => ?_
      have o7 := g3.one
      repeat (refine Da1 ?_)
      (refine a_end (by rfl) (by rfl) ?_; simp only [finA, setL, List.drop_succ_cons, List.drop_zero])
      repeat (first | refine R1 ?_ | (refine R2 ?_; intro _))
      refine sf_keep [2, 4, 5, 6] ?_
      refine sf_own ((b5, .cells #[.int .i64 g.wide, c2, l, f] 37) :: (AC ++ (AL ++ (AF ++ [(b2, .cells #[.int .i64 0, .slice none 0 0, .slice none 0 0, .slice none 0 0] 37), (b1, .cells #[.int .i64 g.wide, c] 35)])))) ?_
      exact tail.out c2 l f AC AL AF b5 g1 g2 g3
    case' refine_17 =>
      refine (regX_run [[], [0, 2, 3, 4, 5], [], [2], [], [2, 3, 4], [0, 1, 2, 3, 4, 5], [0, 1, 2, 3, 4, 5], [0, 1, 2, 3, 4, 5, 6, 7]] 8 [(0, false), (2, false), (4, false), (3, true), (5, true), (1, true), (6, false), (7, true)] (by kernel_rfl) (by kernel_rfl) (by kernel_rfl) ?_)
      repeat (refine Da1 ?_)
      refine a_make (by rfl) (by rfl) (by rfl) (by infer_instance) (by infer_instance) (by infer_instance) (by infer_instance) (by infer_instance) (by rfl) (by decide) (by omega) (.inl rfl) fun l AL g2 => ?_
      have o6 := g2.one
      repeat (refine Da1 ?_)
      refine a_make (by rfl) (by rfl) (by rfl) (by infer_instance) (by infer_instance) (by infer_instance) (by infer_instance) (by infer_instance) (by rfl) (by decide) (by omega) (.inl rfl) fun f AF g3 => ?_
      have o7 := g3.one
      repeat (refine Da1 ?_)
      refine a_call (l1Copy_f (M := M) _ _ g (gridB_mk s) (by omega)) (by rfl) (by rfl) (.inl rfl) ?_
      rintro _ AC ⟨_, rfl, q⟩
      obtain ⟨c2, rfl, g1, l1⟩ := gridO q
      have o5 := g1.one
      repeat (refine Da1 ?_)
      refine a_alloc (by rfl) (.inl rfl) fun b5 => ?_
      repeat (refine Da1 ?_)
      (refine a_end (by rfl) (by rfl) ?_; simp only [finA, setL, List.drop_succ_cons, List.drop_zero])
      repeat (first | refine R1 ?_ | (refine R2 ?_; intro _))
      refine sf_keep [2, 4, 5, 6] ?_
      refine sf_own ((b5, .cells #[.int .i64 g.wide, c2, l, f] 37) :: (AC ++ (AL ++ (AF ++ [(b2, .cells #[.int .i64 0, .slice none 0 0, .slice none 0 0, .slice none 0 0] 37), (b1, .cells #[.int .i64 g.wide, c] 35)])))) ?_
      exact tail.out c2 l f AC AL AF b5 g1 g2 g3
    case' refine_18 =>
      refine (regX_run [[], [0, 2, 3, 4, 5], [], [2, 4, 5], [], [4], [0, 1, 2, 3, 4, 5], [0, 1, 2, 3, 4, 5], [0, 1, 2, 3, 4, 5, 6, 7]] 8 [(0, false), (2, false), (4, false), (5, true), (3, true), (1, true), (6, false), (7, true)] (by kernel_rfl) (by kernel_rfl) (by kernel_rfl) ?_)
      repeat (refine Da1 ?_)
      refine a_make (by rfl) (by rfl) (by rfl) (by infer_instance) (by infer_instance) (by infer_instance) (by infer_instance) (by infer_instance) (by rfl) (by decide) (by omega) (.inl rfl) fun f AF g3 => ?_
      have o7 := g3.one
      repeat (refine Da1 ?_)
      refine a_make (by rfl) (by rfl) (by rfl) (by infer_instance) (by infer_instance) (by infer_instance) (by infer_instance) (by infer_instance) (by rfl) (by decide) (by omega) (.inl rfl) fun l AL g2 => ?_
      have o6 := g2.one
      repeat (refine Da1 ?_)
      refine a_call (l1Copy_f (M := M) _ _ g (gridB_mk s) (by omega)) (by rfl) (by rfl) (.inl rfl) ?_
      rintro _ AC ⟨_, rfl, q⟩
      obtain ⟨c2, rfl, g1, l1⟩ := gridO q
      have o5 := g1.one
      repeat (refine Da1 ?_)
      refine a_alloc (by rfl) (.inl rfl) fun b5 => ?_
      repeat (refine Da1 ?_)
      (refine a_end (by rfl) (by rfl) ?_; simp only [finA, setL, List.drop_succ_cons, List.drop_zero])
      repeat (first | refine R1 ?_ | (refine R2 ?_; intro _))
      refine sf_keep [2, 4, 5, 6] ?_
      refine sf_own ((b5, .cells #[.int .i64 g.wide, c2, l, f] 37) :: (AC ++ (AL ++ (AF ++ [(b2, .cells #[.int .i64 0, .slice none 0 0, .slice none 0 0, .slice none 0 0] 37), (b1, .cells #[.int .i64 g.wide, c] 35)])))) ?_
      exact tail.out c2 l f AC AL AF b5 g1 g2 g3
    case' refine_19 =>
      refine (regX_run [[], [0, 2, 3, 4, 5, 7], [], [2], [], [2, 3, 4], [0, 1, 2, 3, 4, 5, 7], [2, 3, 4, 5], [0, 1, 2, 3, 4, 5, 6, 7]] 8 [(0, false), (2, false), (4, false), (3, true), (5, true), (7, true), (1, true), (6, false)] (by kernel_rfl) (by kernel_rfl) (by kernel_rfl) ?_)
      repeat (refine Da1 ?_)
      refine a_make (by rfl) (by rfl) (by rfl) (by infer_instance) (by infer_instance) (by infer_instance) (by infer_instance) (by infer_instance) (by rfl) (by decide) (by omega) (.inl rfl) fun l AL g2 => ?_
      have o6 := g2.one
      repeat (refine Da1 ?_)
      refine a_make (by rfl) (by rfl) (by rfl) (by infer_instance) (by infer_instance) (by infer_instance) (by infer_instance) (by infer_instance) (by rfl) (by decide) (by omega) (.inl rfl) fun f AF g3 => ?_
      have o7 := g3.one
      repeat (refine Da1 ?_)
      refine a_alloc (by rfl) (.inl rfl) fun b5 => ?_
      repeat (refine Da1 ?_)
      refine a_call (l1Copy_f (M := M) _ _ g (gridB_mk s) (by omega)) (by rfl) (by rfl) (.inl rfl) ?_
      rintro _ AC ⟨_, rfl, q⟩
      obtain ⟨c2, rfl, g1, l1⟩ := gridO q
      have o5 := g1.one
      repeat (refine Da1 ?_)
      (refine a_end (by rfl) (by rfl) ?_; simp only [finA, setL, List.drop_succ_cons, List.drop_zero])
      repeat (first | refine R1 ?_ | (refine R2 ?_; intro _))
      refine sf_keep [2, 4, 5, 6] ?_
      refine sf_own ((b5, .cells #[.int .i64 g.wide, c2, l, f] 37) :: (AC ++ (AL ++ (AF ++ [(b2, .cells #[.int .i64 0, .slice none 0 0, .slice none 0 0, .slice none 0 0] 37), (b1, .cells #[.int .i64 g.wide, c] 35)])))) ?_
      exact tail.out c2 l f AC AL AF b5 g1 g2 g3
    case' refine_20 =>
      refine (regX_run [[], [0, 2, 3, 4, 5, 7], [], [2], [], [2, 3, 4, 7], [0, 1, 2, 3, 4, 5, 7], [2, 3], [0, 1, 2, 3, 4, 5, 6, 7]] 8 [(0, false), (2, false), (4, false), (3, true), (7, true), (5, true), (1, true), (6, false)] (by kernel_rfl) (by kernel_rfl) (by kernel_rfl) ?_)
      repeat (refine Da1 ?_)
      refine a_make (by rfl) (by rfl) (by rfl) (by infer_instance) (by infer_instance) (by infer_instance) (by infer_instance) (by infer_instance) (by rfl) (by decide) (by omega) (.inl rfl) fun l AL g2 => ?_
      have o6 := g2.one
      repeat (refine Da1 ?_)
      refine a_alloc (by rfl) (.inl rfl) fun b5 => ?_
      repeat (refine Da1 ?_)
      refine a_make (by rfl) (by rfl) (by rfl) (by infer_instance) (by infer_instance) (by infer_instance) (by infer_instance) (by infer_instance) (by rfl) (by decide) (by omega) (.inl rfl) fun f AF g3 => ?_
      have o7 := g3.one
      repeat (refine Da1 ?_)
      refine a_call (l1Copy_f (M := M) _ _ g (gridB_mk s) (by omega)) (by rfl) (by rfl) (.inl rfl) ?_
      rintro _ AC ⟨_, rfl, q⟩
      obtain ⟨c2, rfl, g1, l1⟩ := gridO q
      have o5 := g1.one
      repeat (refine Da1 ?_)
      (refine a_end (by rfl) (by rfl) ?_; simp only [finA, setL, List.drop_succ_cons, List.drop_zero])
      repeat (first | refine R1 ?_ | (refine R2 ?_; intro _))
      refine sf_keep [2, 4, 5, 6] ?_
      refine sf_own ((b5, .cells #[.int .i64 g.wide, c2, l, f] 37) :: (AC ++ (AL ++ (AF ++ [(b2, .cells #[.int .i64 0, .slice none 0 0, .slice none 0 0, .slice none 0 0] 37), (b1, .cells #[.int .i64 g.wide, c] 35)])))) ?_
      exact tail.out c2 l f AC AL AF b5 g1 g2 g3
    case' refine_21 =>
      refine (regX_run [[], [0, 2, 3, 4, 5, 7], [], [2, 7], [], [2, 3, 4, 7], [0, 1, 2, 3, 4, 5, 7], [], [0, 1, 2, 3, 4, 5, 6, 7]] 8 [(0, false), (2, false), (4, false), (7, true), (3, true), (5, true), (1, true), (6, false)] (by kernel_rfl) (by kernel_rfl) (by kernel_rfl) ?_)
      repeat (refine Da1 ?_)
      refine a_alloc (by rfl) (.inl rfl) fun b5 => ?_
      repeat (refine Da1 ?_)
      refine a_make (by rfl) (by rfl) (by rfl) (by infer_instance) (by infer_instance) (by infer_instance) (by infer_instance) (by infer_instance) (by rfl) (by decide) (by omega) (.inl rfl) fun l AL g2 => ?_
      have o6 := g2.one
      repeat (refine Da1 ?_)
      refine a_make (by rfl) (by rfl) (by rfl) (by infer_instance) (by infer_instance) (by infer_instance) (by infer_instance) (by infer_instance) (by rfl) (by decide) (by omega) (.inl rfl) fun f AF g3 => ?_
      have o7 := g3.one
      repeat (refine Da1 ?_)
      refine a_call (l1Copy_f (M := M) _ _ g (gridB_mk s) (by omega)) (by rfl) (by rfl) (.inl rfl) ?_
      rintro _ AC ⟨_, rfl, q⟩
      obtain ⟨c2, rfl, g1, l1⟩ := gridO q
      have o5 := g1.one
      repeat (refine Da1 ?_)
      (refine a_end (by rfl) (by rfl) ?_; simp only [finA, setL, List.drop_succ_cons, List.drop_zero])
      repeat (first | refine R1 ?_ | (refine R2 ?_; intro _))
      refine sf_keep [2, 4, 5, 6] ?_
      refine sf_own ((b5, .cells #[.int .i64 g.wide, c2, l, f] 37) :: (AC ++ (AL ++ (AF ++ [(b2, .cells #[.int .i64 0, .slice none 0 0, .slice none 0 0, .slice none 0 0] 37), (b1, .cells #[.int .i64 g.wide, c] 35)])))) ?_
      exact tail.out c2 l f AC AL AF b5 g1 g2 g3
    case' refine_22 =>
      refine (regX_run [[], [0, 2, 3, 4, 5, 7], [], [2, 4, 5], [], [4], [0, 1, 2, 3, 4, 5, 7], [2, 3, 4, 5], [0, 1, 2, 3, 4, 5, 6, 7]] 8 [(0, false), (2, false), (4, false), (5, true), (3, true), (7, true), (1, true), (6, false)] (by kernel_rfl) (by kernel_rfl) (by kernel_rfl) ?_)
      repeat (refine Da1 ?_)
      refine a_make (by rfl) (by rfl) (by rfl) (by infer_instance) (by infer_instance) (by infer_instance) (by infer_instance) (by infer_instance) (by rfl) (by decide) (by omega) (.inl rfl) fun f AF g3 => ?_
      have o7 := g3.one
      repeat (refine Da1 ?_)
      refine a_make (by rfl) (by rfl) (by rfl) (by infer_instance) (by infer_instance) (by infer_instance) (by infer_instance) (by infer_instance) (by rfl) (by decide) (by omega) (.inl rfl) fun l AL g2 => ?_
      have o6 := g2.one
      repeat (refine Da1 ?_)
      refine a_alloc (by rfl) (.inl rfl) fun b5 => ?_
      repeat (refine Da1 ?_)
      refine a_call (l1Copy_f (M := M) _ _ g (gridB_mk s) (by omega)) (by rfl) (by rfl) (.inl rfl) ?_
      rintro _ AC ⟨_, rfl, q⟩
      obtain ⟨c2, rfl, g1, l1⟩ := gridO q
      have o5 := g1.one
      repeat (refine Da1 ?_)
      (refine a_end (by rfl) (by rfl) ?_; simp only [finA, setL, List.drop_succ_cons, List.drop_zero])
      repeat (first | refine R1 ?_ | (refine R2 ?_; intro _))
      refine sf_keep [2, 4, 5, 6] ?_
      refine sf_own ((b5, .cells #[.int .i64 g.wide, c2, l, f] 37) :: (AC ++ (AL ++ (AF ++ [(b2, .cells #[.int .i64 0, .slice none 0 0, .slice none 0 0, .slice none 0 0] 37), (b1, .cells #[.int .i64 g.wide, c] 35)])))) ?_
      exact tail.out c2 l f AC AL AF b5 g1 g2 g3
    case' refine_23 =>
      refine (regX_run [[], [0, 2, 3, 4, 5, 7], [], [2, 4, 5, 7], [], [4], [0, 1, 2, 3, 4, 5, 7], [4, 5], [0, 1, 2, 3, 4, 5, 6, 7]] 8 [(0, false), (2, false), (4, false), (5, true), (7, true), (3, true), (1, true), (6, false)] (by kernel_rfl) (by kernel_rfl) (by kernel_rfl) ?_)
      repeat (refine Da1 ?_)
      refine a_make (by rfl) (by rfl) (by rfl) (by infer_instance) (by infer_instance) (by infer_instance) (by infer_instance) (by infer_instance) (by rfl) (by decide) (by omega) (.inl rfl) fun f AF g3 => ?_
      have o7 := g3.one
      repeat (refine Da1 ?_)
      refine a_alloc (by rfl) (.inl rfl) fun b5 => ?_
      repeat (refine Da1 ?_)
      refine a_make (by rfl) (by rfl) (by rfl) (by infer_instance) (by infer_instance) (by infer_instance) (by infer_instance) (by infer_instance) (by rfl) (by decide) (by omega) (.inl rfl) fun l AL g2 => ?_
      have o6 := g2.one
      repeat (refine Da1 ?_)
      refine a_call (l1Copy_f (M := M) _ _ g (gridB_mk s) (by omega)) (by rfl) (by rfl) (.inl rfl) ?_
      rintro _ AC ⟨_, rfl, q⟩
      obtain ⟨c2, rfl, g1, l1⟩ := gridO q
      have o5 := g1.one
      repeat (refine Da1 ?_)
      (refine a_end (by rfl) (by rfl) ?_; simp only [finA, setL, List.drop_succ_cons, List.drop_zero])
      repeat (first | refine R1 ?_ | (refine R2 ?_; intro _))
      refine sf_keep [2, 4, 5, 6] ?_
      refine sf_own ((b5, .cells #[.int .i64 g.wide, c2, l, f] 37) :: (AC ++ (AL ++ (AF ++ [(b2, .cells #[.int .i64 0, .slice none 0 0, .slice none 0 0, .slice none 0 0] 37), (b1, .cells #[.int .i64 g.wide, c] 35)])))) ?_
      exact tail.out c2 l f AC AL AF b5 g1 g2 g3
    case' refine_24 =>
      refine (regX_run [[], [0, 2, 3, 4, 5, 7], [], [2, 4, 5, 7], [], [4, 7], [0, 1, 2, 3, 4, 5, 7], [], [0, 1, 2, 3, 4, 5, 6, 7]] 8 [(0, false), (2, false), (4, false), (7, true), (5, true), (3, true), (1, true), (6, false)] (by kernel_rfl) (by kernel_rfl) (by kernel_rfl) ?_)
      repeat (refine Da1 ?_)
      refine a_alloc (by rfl) (.inl rfl) fun b5 => ?_
      repeat (refine Da1 ?_)
      refine a_make (by rfl) (by rfl) (by rfl) (by infer_instance) (by infer_instance) (by infer_instance) (by infer_instance) (by infer_instance) (by rfl) (by decide) (by omega) (.inl rfl) fun f AF g3 => ?_
      have o7 := g3.one
      repeat (refine Da1 ?_)
      refine a_make (by rfl) (by rfl) (by rfl) (by infer_instance) (by infer_instance) (by infer_instance) (by infer_instance) (by infer_instance) (by rfl) (by decide) (by omega) (.inl rfl) fun l AL g2 => ?_
      have o6 := g2.one
      repeat (refine Da1 ?_)
      refine a_call (l1Copy_f (M := M) _ _ g (gridB_mk s) (by omega)) (by rfl) (by rfl) (.inl rfl) ?_
      rintro _ AC ⟨_, rfl, q⟩
      obtain ⟨c2, rfl, g1, l1⟩ := gridO q
      have o5 := g1.one
      repeat (refine Da1 ?_)
      (refine a_end (by rfl) (by rfl) ?_; simp only [finA, setL, List.drop_succ_cons, List.drop_zero])
      repeat (first | refine R1 ?_ | (refine R2 ?_; intro _))
      refine sf_keep [2, 4, 5, 6] ?_
      refine sf_own ((b5, .cells #[.int .i64 g.wide, c2, l, f] 37) :: (AC ++ (AL ++ (AF ++ [(b2, .cells #[.int .i64 0, .slice none 0 0, .slice none 0 0, .slice none 0 0] 37), (b1, .cells #[.int .i64 g.wide, c] 35)])))) ?_
      exact tail.out c2 l f AC AL AF b5 g1 g2 g3
  intro c2 l f AC AL AF b5 g1 g2 g3
  have o5 := g1.one
  have o6 := g2.one
  have o7 := g3.one
  repeat (first | refine R1 ?_ | (refine R2 ?_; intro _))
  refine sf_lp (ι := Nat) [2, 4, 5] (fun k => [(6, .int .i64 (k : Int))]) (fun k O => k ≤ N ∧ ∃ A2 A3, O = (b5, .cells #[.int .i64 g.wide, c2, l, f] 37) :: (AC ++ (A2 ++ A3 ++ [(b2, .cells #[.int .i64 0, .slice none 0 0, .slice none 0 0, .slice none 0 0] 37), (b1, .cells #[.int .i64 g.wide, c] 35)])) ∧ Gr A2 l 3 intF ((picOf g).take k ++ List.replicate ((picOf g).length - k) 0) ∧ GrR (intSR τ) A3 f 25 ((feetOf g).take k ++ List.replicate ((feetOf g).length - k) [])) (fun k => N - k) 0 ((b5, .cells #[.int .i64 g.wide, c2, l, f] 37) :: (AC ++ (AL ++ AF ++ [(b2, .cells #[.int .i64 0, .slice none 0 0, .slice none 0 0, .slice none 0 0] 37), (b1, .cells #[.int .i64 g.wide, c] 35)]))) ⟨by omega, AL, AF, rfl, by rw [lp]; simpa using g2, AF, [], by simp, _, g3, by rw [lf]; simpa using nils_all N, by simp; omega⟩ ?_
  rintro k O ⟨hk, A2, A3, rfl, ga, gb⟩
  repeat (first | refine R1 ?_ | (refine R2 ?_; intro _))
  refine sf_if (fun h4 => ?_) fun h4 => ?_
  · have hk4 : k < N := by omega
    repeat (first | refine R1 ?_ | (refine R2 ?_; intro _))
    refine fp (y_lend AC (fun h' _ i => l13Look_f (M := M) h' c2 g (g1.lent (by omega) i) e l f A2 A3 _ _ ga gb k (by omega) (by simp; omega) (by simp; omega)) (by rfl) ?_)
    rintro _ _ ⟨A5, A6, rfl, rfl, ga2, gb2⟩
    rw [← picOf_at (g := g) (k := k) (by omega), set_step (by omega)] at ga2
    rw [← feetOf_at (g := g) (k := k) (by omega), scene_step (by omega)] at gb2
    repeat (first | refine R1 ?_ | (refine R2 ?_; intro _))
    exact ⟨k + 1, by omega, ⟨rfl, trivial⟩, rfl, (b5, .cells #[.int .i64 g.wide, c2, l, f] 37) :: (AC ++ (A5 ++ A6 ++ [(b2, .cells #[.int .i64 0, .slice none 0 0, .slice none 0 0, .slice none 0 0] 37), (b1, .cells #[.int .i64 g.wide, c] 35)])), _, inferInstance, by omega, A5, A6, rfl, ga2, gb2⟩
  · refine sf_exit ?_
    obtain rfl : k = N := by omega
    rw [lp, List.take_of_length_le (by omega), Nat.sub_self, List.replicate_zero, List.append_nil] at ga
    rw [lf, List.take_of_length_le (by omega), Nat.sub_self, List.replicate_zero, List.append_nil] at gb
    repeat (first | refine R1 ?_ | (refine R2 ?_; intro _))
    exact sf_ret (rO (AC ++ (A2 ++ A3)) ⟨_, rfl, sceneO_mk (s := sceneOf g) g1 (by simp only [sceneOf]; omega) ga (by simp only [sceneOf]; omega) gb⟩)
theorem sSceneOk_v (h : PHeap) (ca : List Value) (s : Scene) (b : (sceneR τ).B h ca s) : CallV Tryz.prog M 25 [.agg ca.toArray] h (.bool (sceneOk s)) := by
  obtain ⟨c, l, f, rfl, s1, s2, s3⟩ := sceneB b
  have o1 := s1.one
  have o2 := s2.one
  have o3 := s3.one
  refine calls_of_sf Tryz.func25 rfl Tryz.ntmps25 ?_
  simp only [argsL, Nat.reduceAdd]
  repeat (first | refine R1 ?_ | (refine R2 ?_; intro _))
  refine fp (y_call (sSceneNew_f (M := M) _ _ s.grid (gridB_mk s1)) (by rfl) ?_)
  rintro _ A1 ⟨cs, rfl, q⟩
  have q0 := q
  obtain ⟨c2, l2, f2, X1, X2, X3, rfl, rfl, ⟨g1, k1⟩, ⟨g2, k2⟩, g3⟩ := sceneO q
  have o4 := g1.one
  have o5 := g2.one
  have o6 := g3.one
  by_cases e : gridOk s.grid = true
  · have en : sceneNew s.grid = (sceneOf s.grid, true) := by rw [sceneNew, if_pos e]
    have ew : (sceneOf s.grid, true).1.grid.wide = s.grid.wide := rfl
    rw [en, ew]
    rw [en] at q0 g1 g2 g3 k2
    simp only at q0 g1 g2 g3 k2
    have hsc : sceneOk s = (decide (picOf s.grid = s.lights) && decide (feetOf s.grid = s.feet)) := by
      rw [sceneOk, e]
      obtain ⟨gg, ll, ff⟩ := s
      simp only [sceneOf, Scene.mk.injEq, true_and, Bool.true_and]
      by_cases h1 : picOf gg = ll <;> by_cases h2 : feetOf gg = ff
      · simp [h1, h2]
      · have : ¬ ff = feetOf gg := fun e => h2 e.symm
        simp [h2, this]
      · have : ¬ ll = picOf gg := fun e => h1 e.symm
        simp [h1, this]
      · have : ¬ ll = picOf gg := fun e => h1 e.symm
        simp [h1, this]
    rw [hsc]
    obtain ⟨F0, F1, rfl, rs, gr, oa, hb⟩ := g3
    obtain ⟨rx, s3, bx⟩ := s3
    have lr := oa.len
    have lx := bx.len
    have hrl := s3.small
    simp only [sceneOf] at k2 lr hb oa
    repeat (first | refine R1 ?_ | (refine R2 ?_; intro _))
    refine fp (y_lendV X2 (fun h' l i => l13Same_v (M := M) h' _ _ _ s.lights (g2.lent k2 i) (s2.le l.le)) (by rfl) ?_)
    by_cases h1' : picOf s.grid = s.lights
    rotate_left
    · have h1 : decide ((sceneOf s.grid).lights = s.lights) = false := decide_eq_false h1'
      rw [h1]
      repeat (first | refine R1 ?_ | (refine R2 ?_; intro _))
      refine sf_T rfl ?_
      repeat (first | refine R1 ?_ | (refine R2 ?_; intro _))
      refine sf_ret (rV ?_)
      simp [h1']
    have h1 : decide ((sceneOf s.grid).lights = s.lights) = true := decide_eq_true h1'
    rw [h1]
    repeat (first | refine R1 ?_ | (refine R2 ?_; intro _))
    refine sf_if (fun h2 => ?_) fun h2 => ?_
    · have h2' : ¬ feetOf s.grid = s.feet := fun e => h2 (by rw [lr, lx, e])
      repeat (first | refine R1 ?_ | (refine R2 ?_; intro _))
      refine sf_ret (rV ?_)
      simp [h2']
    have hl : (feetOf s.grid).length = s.feet.length := by omega
    repeat (first | refine R1 ?_ | (refine R2 ?_; intro _))
    rename_i b1 b3
    refine sf_lp (ι := Nat) [1, 3] (fun k => [(5, .int .i64 (k : Int))]) (fun k O => k ≤ s.feet.length ∧ O = (b3, .cells #[.int .i64 s.grid.wide, c2, l2, f2] 37) :: (X1 ++ (X2 ++ (F0 ++ F1)) ++ [(b1, .cells #[.int .i64 s.grid.wide, c, l, f] 37)]) ∧ (feetOf s.grid).take k = s.feet.take k) (fun k => s.feet.length - k) 0 ((b3, .cells #[.int .i64 s.grid.wide, c2, l2, f2] 37) :: (X1 ++ (X2 ++ (F0 ++ F1)) ++ [(b1, .cells #[.int .i64 s.grid.wide, c, l, f] 37)])) ⟨by omega, rfl, rfl⟩ ?_
    rintro k O ⟨hk, rfl, hi⟩
    repeat (first | refine R1 ?_ | (refine R2 ?_; intro _))
    refine sf_if (fun h4 => ?_) fun h4 => ?_
    · have hk4 : k < (feetOf s.grid).length := by omega
      have hk5 : k < s.feet.length := by omega
      have hk6 : k < rs.length := by omega
      have hk7 : k < rx.length := by omega
      obtain ⟨B1, Bk, B2, rfl, ⟨w, ew, gw, lw⟩, -⟩ := oa.at hk4
      obtain ⟨vx, ex, sx4⟩ := bx.at hk5
      haveI : FlatV (rawF (intSR τ).sz) (gt rs k) [w] := ⟨ew⟩
      haveI : FlatV (rawF (intSR τ).sz) (gt rx k) [vx] := ⟨ex⟩
      have o7 := gw.one
      have o8 := sx4.one
      repeat (first | refine R1 ?_ | (refine R2 ?_; intro _))
      refine sf_draw (by kernel_rfl) (regX_run [[], [0], [], [0, 1, 2], [0, 1, 2, 3], [], [5], [], [5, 6, 7], [5, 6, 7, 8], [0, 1, 2, 3, 4, 5, 6, 7, 8, 9], [0, 1, 2, 3, 4, 5, 6, 7, 8, 9, 10]] 10 [(0, false), (1, false), (2, false), (3, false), (4, false), (5, false), (6, false), (7, false), (8, false), (9, false)] (by kernel_rfl) (by kernel_rfl) (by kernel_rfl) ?_)
      repeat (refine Da1 ?_)
      (refine a_end (by rfl) (by rfl) ?_; simp only [finA, setL, List.drop_succ_cons, List.drop_zero])
      refine fp (y_lendV Bk (fun h' l i => l13Same_v (M := M) h' _ _ _ _ (gw.lent lw i) (sx4.le l.le)) (by rfl) ?_)
      repeat (first | refine R1 ?_ | (refine R2 ?_; intro _))
      refine sf_ifn (fun h5 => ?_) fun h5 => ?_
      · have h5' : ¬ feetOf s.grid = s.feet := fun e => h5 (by rw [e])
        repeat (first | refine R1 ?_ | (refine R2 ?_; intro _))
        refine sf_ret (rV ?_)
        simp [h5']
      · repeat (first | refine R1 ?_ | (refine R2 ?_; intro _))
        exact ⟨k + 1, by omega, ⟨rfl, trivial⟩, rfl, _, _, inferInstance, by omega, rfl, eq_step hk4 hk5 hi h5⟩
    · refine sf_exit ?_
      repeat (first | refine R1 ?_ | (refine R2 ?_; intro _))
      refine sf_ret (rV ?_)
      rw [eq_end hl (by omega) hi, h1']
      simp
  · have en : sceneNew s.grid = (noScene, false) := by rw [sceneNew, if_neg e]
    rw [en]
    repeat (first | refine R1 ?_ | (refine R2 ?_; intro _))
    refine sf_T (by rfl) ?_
    repeat (first | refine R1 ?_ | (refine R2 ?_; intro _))
    refine sf_ret (rV ?_)
    simp [sceneOk, e]
theorem sPaintOk_v (h : PHeap) (ca : List Value) (p : Painter) (b : (painterR τ).B h ca p) : CallV Tryz.prog M 7 [.agg ca.toArray] h (.bool (paintOk p)) := by
  obtain ⟨c, l, f, rfl, s1, s2, s3⟩ := painterB b
  have o1 := s1.one
  have o2 := s2.one
  have o3 := s3.one
  have bs : (sceneR τ).B h [.int .i64 p.scene.grid.wide, c, l, f] p.scene := sceneB_mk s1 s2 s3
  refine calls_of_sf Tryz.func7 rfl Tryz.ntmps7 ?_
  simp only [argsL, Nat.reduceAdd]
  repeat (first | refine R1 ?_ | (refine R2 ?_; intro _))
  refine sf_cond (by rfl) (fun e1 => ?_) fun e1 => ?_
  · simp only [Bool.not_eq_true'] at e1
    have ep : paintOk p = (decide (p.ver = 0) && decide (p.scene = noScene)) := by rw [paintOk, if_neg (by rw [e1]; decide)]
    rw [ep]
    repeat (first | refine R1 ?_ | (refine R2 ?_; intro _))
    refine f_split (fun e2 => ?_) fun e2 => ?_
    · repeat (first | refine R1 ?_ | (refine R2 ?_; intro _))
      refine fp (y_callV (l21None_v (M := M) _ _ p.scene bs) (by rfl) ?_)
      repeat (first | refine R1 ?_ | (refine R2 ?_; intro _))
      refine sf_ret (rV ?_)
      simp [e2]
    · repeat (first | refine R1 ?_ | (refine R2 ?_; intro _))
      refine sf_ret (rV ?_)
      simp [e2]
  · simp only [Bool.not_eq_false'] at e1
    have ep : paintOk p = (p.up && (decide (0 ≤ p.ver) && decide (p.ver ≤ 60)) && sceneOk p.scene) := by rw [paintOk, if_pos e1]
    rw [ep]
    repeat (first | refine R1 ?_ | (refine R2 ?_; intro _))
    refine f_splitB (fun e2 => ?_) fun e2 => ?_
    · repeat (first | refine R1 ?_ | (refine R2 ?_; intro _))
      refine fp (y_callV (l6In_v _ _ _ _) (by rfl) ?_)
      repeat (first | refine R1 ?_ | (refine R2 ?_; intro _))
      refine f_splitB (fun e3 => ?_) fun e3 => ?_
      · repeat (first | refine R1 ?_ | (refine R2 ?_; intro _))
        refine fp (y_callV (sSceneOk_v (M := M) _ _ p.scene bs) (by rfl) ?_)
        repeat (first | refine R1 ?_ | (refine R2 ?_; intro _))
        refine sf_ret (rV ?_)
        rw [e2, e3]; rfl
      · repeat (first | refine R1 ?_ | (refine R2 ?_; intro _))
        refine sf_ret (rV ?_)
        rw [e2, e3]; rfl
    · repeat (first | refine R1 ?_ | (refine R2 ?_; intro _))
      refine sf_ret (rV ?_)
      rw [e2]; rfl
end Go.Proofs.YtekjikbaefgncaaGreat

/- Walks: copies of scenes, sights that see a place: the reference's. -/
namespace Go.Proofs.YtekjikbaefgncaaGreat
open Go Go.Sl
set_option maxRecDepth 100000
set_option maxHeartbeats 4000000
attribute [local irreducible] Go.Code.sf sfOps Opq opo retF Do1 anyO
variable {M : Jdg → Prop} [IsCl Tryz.prog M]
theorem l13Has_v (h : PHeap) (v : Value) (xs : List Int) (s : Sl h v intF xs) (a : Int) : CallV Tryz.prog M 106 [v, .int .i64 a] h (.bool (decide (a ∈ xs))) := by
  have o1 := s.one
  have hs := s.small
  refine calls_of_sf Tryz.func106 rfl Tryz.ntmps106 ?_
  simp only [argsL, Nat.reduceAdd]
  repeat (first | refine R1 ?_ | (refine R2 ?_; intro _))
  refine sf_lp (ι := Nat) [0, 1] (fun i => [(5, .int .i64 (i : Int))]) (fun i O => O = [] ∧ i ≤ xs.length ∧ a ∉ xs.take i) (fun i => xs.length - i) 0 [] ⟨rfl, by omega, by simp⟩ ?_
  rintro i O ⟨rfl, hi, hn⟩
  repeat (first | refine R1 ?_ | (refine R2 ?_; intro _))
  refine sf_if (fun h4 => ?_) fun h4 => ?_
  · have hi4 : i < xs.length := by omega
    repeat (first | refine R1 ?_ | (refine R2 ?_; intro _))
    refine sf_if (fun h5 => ?_) fun h5 => ?_
    · repeat (first | refine R1 ?_ | (refine R2 ?_; intro _))
      refine sf_ret (rV (bT ?_))
      rw [← h5, gt_eq hi4]; exact List.getElem_mem _
    · repeat (first | refine R1 ?_ | (refine R2 ?_; intro _))
      refine ⟨i + 1, by omega, ⟨rfl, trivial⟩, rfl, [], _, inferInstance, rfl, by omega, ?_⟩
      rw [take_succ_gt hi4]
      simp only [List.mem_append, List.mem_singleton]
      rintro (e | e)
      · exact hn e
      · exact h5 e.symm
  · refine sf_exit ?_
    repeat (first | refine R1 ?_ | (refine R2 ?_; intro _))
    refine sf_ret (rV (bF fun e => hn ?_))
    rw [List.take_of_length_le (by omega)]; exact e
theorem l13Touch_f (h : PHeap) (ca : List Value) (s : Scene) (b : (sceneR τ).B h ca s) (hs : s.feet.length ≤ 1000000) (a : Int) : CallF Tryz.prog M 89 [.agg ca.toArray, .int .i64 a] [] h fun u A => Gr A u 3 intF (natsI (touched s.feet a)) := by
  obtain ⟨c, l, f, rfl, s1, s2, s3⟩ := sceneB b
  have o1 := s1.one
  have o2 := s2.one
  have o3 := s3.one
  obtain ⟨rx, s3, bx⟩ := s3
  have lx := bx.len
  refine calls_of_sf Tryz.func89 rfl Tryz.ntmps89 ?_
  simp only [argsL, Nat.reduceAdd]
  repeat (first | refine R1 ?_ | (refine R2 ?_; intro _))
  rename_i b2
  refine fp (y_bs (by rfl) (by rfl) (by rfl) (by rfl) (by decide) fun w AW gw => ?_)
  repeat (first | refine R1 ?_ | (refine R2 ?_; intro _))
  refine sf_lp (ι := Nat × Value) [1, 2] (fun x => [(5, x.2), (6, .int .i64 (x.1 : Int))]) (fun x O => x.1 ≤ s.feet.length ∧ ∃ AW, O = AW ++ [(b2, .cells #[.int .i64 s.grid.wide, c, l, f] 37)] ∧ Gr AW x.2 3 intF (natsI (touchTo s.feet a x.1))) (fun x => s.feet.length - x.1) (0, w) (AW ++ [(b2, .cells #[.int .i64 s.grid.wide, c, l, f] 37)]) ⟨by simp only; omega, AW, rfl, gw⟩ ?_
  rintro ⟨k, w⟩ O ⟨hk, AW, rfl, gx⟩
  simp only at hk gx ⊢
  have ow := gx.one
  have hlen := touchTo_len s.feet a k
  have hlen2 := natsI_len (touchTo s.feet a k)
  repeat (first | refine R1 ?_ | (refine R2 ?_; intro _))
  refine sf_if (fun h4 => ?_) fun h4 => ?_
  · have hk4 : k < s.feet.length := by omega
    have hk5 : k < rx.length := by omega
    obtain ⟨vx, ex, sx4⟩ := bx.at hk4
    haveI : FlatV (rawF (intSR τ).sz) (gt rx k) [vx] := ⟨ex⟩
    have o4 := sx4.one
    repeat (first | refine R1 ?_ | (refine R2 ?_; intro _))
    refine fp (y_callV (l13Has_v _ _ _ sx4 a) (by rfl) ?_)
    repeat (first | refine R1 ?_ | (refine R2 ?_; intro _))
    refine sf_if (fun h5 => ?_) fun h5 => ?_
    · repeat (first | refine R1 ?_ | (refine R2 ?_; intro _))
      refine fp (y_bs (by rfl) (by rfl) (by rfl) (by rfl) (by decide) fun u Au gu => ?_)
      repeat (first | refine R1 ?_ | (refine R2 ?_; intro _))
      refine fp (y_append (by rfl) (by rfl) gx gu (fun y _ => FlatOne.one y) (by rfl) (by rfl) (by simp; omega) (by simp; omega) fun w2 A2 g2 => ?_)
      repeat (first | refine R1 ?_ | (refine R2 ?_; intro _))
      exact ⟨(k + 1, w2), by simp only; omega, ⟨rfl, rfl, trivial⟩, rfl, A2 ++ [(b2, .cells #[.int .i64 s.grid.wide, c, l, f] 37)], _, inferInstance, by simp only; omega, A2, rfl, by simp only; rw [touchTo_step, if_pos h5, natsI_snoc]; exact g2⟩
    · repeat (first | refine R1 ?_ | (refine R2 ?_; intro _))
      exact ⟨(k + 1, w), by simp only; omega, ⟨rfl, rfl, trivial⟩, rfl, AW ++ [(b2, .cells #[.int .i64 s.grid.wide, c, l, f] 37)], _, inferInstance, by simp only; omega, AW, rfl, by simp only; rw [touchTo_step, if_neg h5]; exact gx⟩
  · refine sf_exit ?_
    obtain rfl : k = s.feet.length := by omega
    repeat (first | refine R1 ?_ | (refine R2 ?_; intro _))
    exact sf_ret (rO AW gx)
theorem l13Copy_f (h : PHeap) (ca : List Value) (s : Scene) (b : (sceneR τ).B h ca s) (hs : szSceneN s ≤ 1048576) : CallF Tryz.prog M 71 [.agg ca.toArray] [] h fun u A => ∃ cs, u = .agg cs.toArray ∧ (sceneR τ).O A cs s := by
  simp only [szSceneN, szIntSSN] at hs
  obtain ⟨c, l, f, rfl, s1, s2, s3⟩ := sceneB b
  have o1 := s1.one
  have o2 := s2.one
  have o3 := s3.one
  obtain ⟨rx, s3, bx⟩ := s3
  have lx := bx.len
  refine calls_of_sf Tryz.func71 rfl Tryz.ntmps71 ?_
  simp only [argsL, Nat.reduceAdd]
  repeat (first | refine R1 ?_ | (refine R2 ?_; intro _))
  rename_i b1 b2
  apply viaT (G := ∀ (c2 l2 : Value) (AC AL : Own) (b3 : Nat), Gr AC c2 44 cellF s.grid.cells → Gr AL l2 3 intF s.lights → _)
  · intro tail
    refine sf_draw (by kernel_rfl) (regX_split 2 3 (by rfl) (regX_split 2 8 (by rfl) (regX_split 3 8 (by rfl) (regX_split 6 8 (by rfl) ?_ ?_) ?_) ?_) (regX_split 2 8 (by rfl) (regX_split 6 8 (by rfl) ?_ ?_) (regX_split 3 8 (by rfl) ?_ ?_)))
    case' refine_1 =>
      refine (regX_run [[], [0], [0, 1], [0, 1, 2], [], [4], [0, 1, 2, 3, 4, 5], [0, 1, 2, 3, 4, 5, 6], [0, 1, 2, 3, 4, 5, 6], [0, 1, 2, 3, 4, 5, 6, 7, 8]] 9 [(0, false), (1, false), (4, false), (5, false), (2, true), (3, true), (6, true), (7, false), (8, true)] (by kernel_rfl) (by kernel_rfl) (by kernel_rfl) ?_)
      repeat (refine Da1 ?_)
      refine a_call (l1Copy_f (M := M) _ _ s.grid (gridB_mk s1) (by omega)) (by rfl) (by rfl) (.inl rfl) ?_
      rintro _ AC ⟨_, rfl, q⟩
      obtain ⟨c2, rfl, g1, l1⟩ := gridO q
      have o5 := g1.one
      repeat (refine Da1 ?_)
      refine a_bs (by rfl) (by rfl) (by infer_instance) (by infer_instance) (by infer_instance) (by infer_instance) (by rfl) (by rfl) (by rfl) (by decide) (.inl rfl) fun e0 AE ge => ?_
      have o6 := ge.one
      repeat (refine Da1 ?_)
      refine a_appendS (by rfl) (by rfl) (by rfl) ge s2 (by infer_instance) (by infer_instance) (fun y _ => FlatOne.one y) (by rfl) (by rfl) (by simp; omega) (by simp; omega) (.inl rfl) fun l2 AL g2 => ?_
      have o7 := g2.one
      repeat (refine Da1 ?_)
      refine a_alloc (by rfl) (.inl rfl) fun b3 => ?_
      repeat (refine Da1 ?_)
      (refine a_end (by rfl) (by rfl) ?_; simp only [finA, setL, List.drop_succ_cons, List.drop_zero])
      repeat (first | refine R1 ?_ | (refine R2 ?_; intro _))
      refine sf_keep [1, 2, 3, 4] ?_
      refine sf_own ((b3, .cells #[.int .i64 s.grid.wide, c2, l2, .slice none 0 0] 37) :: (AC ++ (AL ++ [(b2, .cells #[.int .i64 0, .slice none 0 0, .slice none 0 0, .slice none 0 0] 37), (b1, .cells #[.int .i64 s.grid.wide, c, l, f] 37)]))) ?_
      exact tail.out c2 l2 AC AL b3 g1 g2
    case' refine_2 =>
      refine (regX_run [[], [0], [0, 1], [0, 1, 2], [], [4], [0, 1, 2, 3, 4, 5, 8], [0, 1, 2, 3, 4, 5, 6, 8], [0, 1, 2, 3], [0, 1, 2, 3, 4, 5, 6, 7, 8]] 9 [(0, false), (1, false), (4, false), (5, false), (2, true), (3, true), (8, true), (6, true), (7, false)] (by kernel_rfl) (by kernel_rfl) (by kernel_rfl) ?_)
      repeat (refine Da1 ?_)
      refine a_call (l1Copy_f (M := M) _ _ s.grid (gridB_mk s1) (by omega)) (by rfl) (by rfl) (.inl rfl) ?_
      rintro _ AC ⟨_, rfl, q⟩
      obtain ⟨c2, rfl, g1, l1⟩ := gridO q
      have o5 := g1.one
      repeat (refine Da1 ?_)
      refine a_bs (by rfl) (by rfl) (by infer_instance) (by infer_instance) (by infer_instance) (by infer_instance) (by rfl) (by rfl) (by rfl) (by decide) (.inl rfl) fun e0 AE ge => ?_
      have o6 := ge.one
      repeat (refine Da1 ?_)
      refine a_alloc (by rfl) (.inl rfl) fun b3 => ?_
      repeat (refine Da1 ?_)
      refine a_appendS (by rfl) (by rfl) (by rfl) ge s2 (by infer_instance) (by infer_instance) (fun y _ => FlatOne.one y) (by rfl) (by rfl) (by simp; omega) (by simp; omega) (.inl rfl) fun l2 AL g2 => ?_
      have o7 := g2.one
      repeat (refine Da1 ?_)
      (refine a_end (by rfl) (by rfl) ?_; simp only [finA, setL, List.drop_succ_cons, List.drop_zero])
      repeat (first | refine R1 ?_ | (refine R2 ?_; intro _))
      refine sf_keep [1, 2, 3, 4] ?_
      refine sf_own ((b3, .cells #[.int .i64 s.grid.wide, c2, l2, .slice none 0 0] 37) :: (AC ++ (AL ++ [(b2, .cells #[.int .i64 0, .slice none 0 0, .slice none 0 0, .slice none 0 0] 37), (b1, .cells #[.int .i64 s.grid.wide, c, l, f] 37)]))) ?_
      exact tail.out c2 l2 AC AL b3 g1 g2
    case' refine_3 =>
      refine (regX_run [[], [0], [0, 1], [0, 1, 2, 8], [], [4], [0, 1, 2, 3, 4, 5, 8], [0, 1, 2, 3, 4, 5, 6, 8], [0, 1, 2], [0, 1, 2, 3, 4, 5, 6, 7, 8]] 9 [(0, false), (1, false), (4, false), (5, false), (2, true), (8, true), (3, true), (6, true), (7, false)] (by kernel_rfl) (by kernel_rfl) (by kernel_rfl) ?_)
      repeat (refine Da1 ?_)
      refine a_call (l1Copy_f (M := M) _ _ s.grid (gridB_mk s1) (by omega)) (by rfl) (by rfl) (.inl rfl) ?_
      rintro _ AC ⟨_, rfl, q⟩
      obtain ⟨c2, rfl, g1, l1⟩ := gridO q
      have o5 := g1.one
      repeat (refine Da1 ?_)
      refine a_alloc (by rfl) (.inl rfl) fun b3 => ?_
      repeat (refine Da1 ?_)
      refine a_bs (by rfl) (by rfl) (by infer_instance) (by infer_instance) (by infer_instance) (by infer_instance) (by rfl) (by rfl) (by rfl) (by decide) (.inl rfl) fun e0 AE ge => ?_
      have o6 := ge.one
      repeat (refine Da1 ?_)
      refine a_appendS (by rfl) (by rfl) (by rfl) ge s2 (by infer_instance) (by infer_instance) (fun y _ => FlatOne.one y) (by rfl) (by rfl) (by simp; omega) (by simp; omega) (.inl rfl) fun l2 AL g2 => ?_
      have o7 := g2.one
      repeat (refine Da1 ?_)
      (refine a_end (by rfl) (by rfl) ?_; simp only [finA, setL, List.drop_succ_cons, List.drop_zero])
      repeat (first | refine R1 ?_ | (refine R2 ?_; intro _))
      refine sf_keep [1, 2, 3, 4] ?_
      refine sf_own ((b3, .cells #[.int .i64 s.grid.wide, c2, l2, .slice none 0 0] 37) :: (AC ++ (AL ++ [(b2, .cells #[.int .i64 0, .slice none 0 0, .slice none 0 0, .slice none 0 0] 37), (b1, .cells #[.int .i64 s.grid.wide, c, l, f] 37)]))) ?_
      exact tail.out c2 l2 AC AL b3 g1 g2
    case' refine_4 =>
      refine (regX_run [[], [0], [0, 1, 8], [0, 1, 2, 8], [], [4], [0, 1, 2, 3, 4, 5, 8], [0, 1, 2, 3, 4, 5, 6, 8], [], [0, 1, 2, 3, 4, 5, 6, 7, 8]] 9 [(0, false), (1, false), (4, false), (5, false), (8, true), (2, true), (3, true), (6, true), (7, false)] (by kernel_rfl) (by kernel_rfl) (by kernel_rfl) ?_)
      repeat (refine Da1 ?_)
      refine a_alloc (by rfl) (.inl rfl) fun b3 => ?_
      repeat (refine Da1 ?_)
      refine a_call (l1Copy_f (M := M) _ _ s.grid (gridB_mk s1) (by omega)) (by rfl) (by rfl) (.inl rfl) ?_
      rintro _ AC ⟨_, rfl, q⟩
      obtain ⟨c2, rfl, g1, l1⟩ := gridO q
      have o5 := g1.one
      repeat (refine Da1 ?_)
      refine a_bs (by rfl) (by rfl) (by infer_instance) (by infer_instance) (by infer_instance) (by infer_instance) (by rfl) (by rfl) (by rfl) (by decide) (.inl rfl) fun e0 AE ge => ?_
      have o6 := ge.one
      repeat (refine Da1 ?_)
      refine a_appendS (by rfl) (by rfl) (by rfl) ge s2 (by infer_instance) (by infer_instance) (fun y _ => FlatOne.one y) (by rfl) (by rfl) (by simp; omega) (by simp; omega) (.inl rfl) fun l2 AL g2 => ?_
      have o7 := g2.one
      repeat (refine Da1 ?_)
      (refine a_end (by rfl) (by rfl) ?_; simp only [finA, setL, List.drop_succ_cons, List.drop_zero])
      repeat (first | refine R1 ?_ | (refine R2 ?_; intro _))
      refine sf_keep [1, 2, 3, 4] ?_
      refine sf_own ((b3, .cells #[.int .i64 s.grid.wide, c2, l2, .slice none 0 0] 37) :: (AC ++ (AL ++ [(b2, .cells #[.int .i64 0, .slice none 0 0, .slice none 0 0, .slice none 0 0] 37), (b1, .cells #[.int .i64 s.grid.wide, c, l, f] 37)]))) ?_
      exact tail.out c2 l2 AC AL b3 g1 g2
    case' refine_5 =>
      refine (regX_run [[], [0], [0, 1, 3], [], [], [4], [0, 1, 2, 3, 4, 5], [0, 1, 2, 3, 4, 5, 6], [0, 1, 2, 3, 4, 5, 6], [0, 1, 2, 3, 4, 5, 6, 7, 8]] 9 [(0, false), (1, false), (4, false), (5, false), (3, true), (2, true), (6, true), (7, false), (8, true)] (by kernel_rfl) (by kernel_rfl) (by kernel_rfl) ?_)
      repeat (refine Da1 ?_)
      refine a_bs (by rfl) (by rfl) (by infer_instance) (by infer_instance) (by infer_instance) (by infer_instance) (by rfl) (by rfl) (by rfl) (by decide) (.inl rfl) fun e0 AE ge => ?_
      have o6 := ge.one
      repeat (refine Da1 ?_)
      refine a_call (l1Copy_f (M := M) _ _ s.grid (gridB_mk s1) (by omega)) (by rfl) (by rfl) (.inl rfl) ?_
      rintro _ AC ⟨_, rfl, q⟩
      obtain ⟨c2, rfl, g1, l1⟩ := gridO q
      have o5 := g1.one
      repeat (refine Da1 ?_)
      refine a_appendS (by rfl) (by rfl) (by rfl) ge s2 (by infer_instance) (by infer_instance) (fun y _ => FlatOne.one y) (by rfl) (by rfl) (by simp; omega) (by simp; omega) (.inl rfl) fun l2 AL g2 => ?_
      have o7 := g2.one
      repeat (refine Da1 ?_)
      refine a_alloc (by rfl) (.inl rfl) fun b3 => ?_
      repeat (refine Da1 ?_)
      (refine a_end (by rfl) (by rfl) ?_; simp only [finA, setL, List.drop_succ_cons, List.drop_zero])
      repeat (first | refine R1 ?_ | (refine R2 ?_; intro _))
      refine sf_keep [1, 2, 3, 4] ?_
      refine sf_own ((b3, .cells #[.int .i64 s.grid.wide, c2, l2, .slice none 0 0] 37) :: (AC ++ (AL ++ [(b2, .cells #[.int .i64 0, .slice none 0 0, .slice none 0 0, .slice none 0 0] 37), (b1, .cells #[.int .i64 s.grid.wide, c, l, f] 37)]))) ?_
      exact tail.out c2 l2 AC AL b3 g1 g2
    case' refine_6 =>
      refine (regX_run [[], [0], [0, 1, 3], [], [], [4], [0, 1, 2, 3, 4, 5, 8], [0, 1, 2, 3, 4, 5, 6, 8], [0, 1, 2, 3], [0, 1, 2, 3, 4, 5, 6, 7, 8]] 9 [(0, false), (1, false), (4, false), (5, false), (3, true), (2, true), (8, true), (6, true), (7, false)] (by kernel_rfl) (by kernel_rfl) (by kernel_rfl) ?_)
      repeat (refine Da1 ?_)
      refine a_bs (by rfl) (by rfl) (by infer_instance) (by infer_instance) (by infer_instance) (by infer_instance) (by rfl) (by rfl) (by rfl) (by decide) (.inl rfl) fun e0 AE ge => ?_
      have o6 := ge.one
      repeat (refine Da1 ?_)
      refine a_call (l1Copy_f (M := M) _ _ s.grid (gridB_mk s1) (by omega)) (by rfl) (by rfl) (.inl rfl) ?_
      rintro _ AC ⟨_, rfl, q⟩
      obtain ⟨c2, rfl, g1, l1⟩ := gridO q
      have o5 := g1.one
      repeat (refine Da1 ?_)
      refine a_alloc (by rfl) (.inl rfl) fun b3 => ?_
      repeat (refine Da1 ?_)
      refine a_appendS (by rfl) (by rfl) (by rfl) ge s2 (by infer_instance) (by infer_instance) (fun y _ => FlatOne.one y) (by rfl) (by rfl) (by simp; omega) (by simp; omega) (.inl rfl) fun l2 AL g2 => ?_
      have o7 := g2.one
      repeat (refine Da1 ?_)
      (refine a_end (by rfl) (by rfl) ?_; simp only [finA, setL, List.drop_succ_cons, List.drop_zero])
      repeat (first | refine R1 ?_ | (refine R2 ?_; intro _))
      refine sf_keep [1, 2, 3, 4] ?_
      refine sf_own ((b3, .cells #[.int .i64 s.grid.wide, c2, l2, .slice none 0 0] 37) :: (AC ++ (AL ++ [(b2, .cells #[.int .i64 0, .slice none 0 0, .slice none 0 0, .slice none 0 0] 37), (b1, .cells #[.int .i64 s.grid.wide, c, l, f] 37)]))) ?_
      exact tail.out c2 l2 AC AL b3 g1 g2
    case' refine_7 =>
      refine (regX_run [[], [0], [0, 1, 3, 8], [], [], [4], [0, 1, 2, 3, 4, 5, 8], [0, 1, 2, 3, 4, 5, 6, 8], [3], [0, 1, 2, 3, 4, 5, 6, 7, 8]] 9 [(0, false), (1, false), (4, false), (5, false), (3, true), (8, true), (2, true), (6, true), (7, false)] (by kernel_rfl) (by kernel_rfl) (by kernel_rfl) ?_)
      repeat (refine Da1 ?_)
      refine a_bs (by rfl) (by rfl) (by infer_instance) (by infer_instance) (by infer_instance) (by infer_instance) (by rfl) (by rfl) (by rfl) (by decide) (.inl rfl) fun e0 AE ge => ?_
      have o6 := ge.one
      repeat (refine Da1 ?_)
      refine a_alloc (by rfl) (.inl rfl) fun b3 => ?_
      repeat (refine Da1 ?_)
      refine a_call (l1Copy_f (M := M) _ _ s.grid (gridB_mk s1) (by omega)) (by rfl) (by rfl) (.inl rfl) ?_
      rintro _ AC ⟨_, rfl, q⟩
      obtain ⟨c2, rfl, g1, l1⟩ := gridO q
      have o5 := g1.one
      repeat (refine Da1 ?_)
      refine a_appendS (by rfl) (by rfl) (by rfl) ge s2 (by infer_instance) (by infer_instance) (fun y _ => FlatOne.one y) (by rfl) (by rfl) (by simp; omega) (by simp; omega) (.inl rfl) fun l2 AL g2 => ?_
      have o7 := g2.one
      repeat (refine Da1 ?_)
      (refine a_end (by rfl) (by rfl) ?_; simp only [finA, setL, List.drop_succ_cons, List.drop_zero])
      repeat (first | refine R1 ?_ | (refine R2 ?_; intro _))
      refine sf_keep [1, 2, 3, 4] ?_
      refine sf_own ((b3, .cells #[.int .i64 s.grid.wide, c2, l2, .slice none 0 0] 37) :: (AC ++ (AL ++ [(b2, .cells #[.int .i64 0, .slice none 0 0, .slice none 0 0, .slice none 0 0] 37), (b1, .cells #[.int .i64 s.grid.wide, c, l, f] 37)]))) ?_
      exact tail.out c2 l2 AC AL b3 g1 g2
    case' refine_8 =>
      refine (regX_run [[], [0], [0, 1, 3, 8], [8], [], [4], [0, 1, 2, 3, 4, 5, 8], [0, 1, 2, 3, 4, 5, 6, 8], [], [0, 1, 2, 3, 4, 5, 6, 7, 8]] 9 [(0, false), (1, false), (4, false), (5, false), (8, true), (3, true), (2, true), (6, true), (7, false)] (by kernel_rfl) (by kernel_rfl) (by kernel_rfl) ?_)
      repeat (refine Da1 ?_)
      refine a_alloc (by rfl) (.inl rfl) fun b3 => ?_
      repeat (refine Da1 ?_)
      refine a_bs (by rfl) (by rfl) (by infer_instance) (by infer_instance) (by infer_instance) (by infer_instance) (by rfl) (by rfl) (by rfl) (by decide) (.inl rfl) fun e0 AE ge => ?_
      have o6 := ge.one
      repeat (refine Da1 ?_)
      refine a_call (l1Copy_f (M := M) _ _ s.grid (gridB_mk s1) (by omega)) (by rfl) (by rfl) (.inl rfl) ?_
      rintro _ AC ⟨_, rfl, q⟩
      obtain ⟨c2, rfl, g1, l1⟩ := gridO q
      have o5 := g1.one
      repeat (refine Da1 ?_)
      refine a_appendS (by rfl) (by rfl) (by rfl) ge s2 (by infer_instance) (by infer_instance) (fun y _ => FlatOne.one y) (by rfl) (by rfl) (by simp; omega) (by simp; omega) (.inl rfl) fun l2 AL g2 => ?_
      have o7 := g2.one
      repeat (refine Da1 ?_)
      (refine a_end (by rfl) (by rfl) ?_; simp only [finA, setL, List.drop_succ_cons, List.drop_zero])
      repeat (first | refine R1 ?_ | (refine R2 ?_; intro _))
      refine sf_keep [1, 2, 3, 4] ?_
      refine sf_own ((b3, .cells #[.int .i64 s.grid.wide, c2, l2, .slice none 0 0] 37) :: (AC ++ (AL ++ [(b2, .cells #[.int .i64 0, .slice none 0 0, .slice none 0 0, .slice none 0 0] 37), (b1, .cells #[.int .i64 s.grid.wide, c, l, f] 37)]))) ?_
      exact tail.out c2 l2 AC AL b3 g1 g2
  intro c2 l2 AC AL b3 g1 g2
  have o5 := g1.one
  have o7 := g2.one
  repeat (first | refine R1 ?_ | (refine R2 ?_; intro _))
  refine sf_lp (ι := Nat) [1, 2, 3] (fun k => [(4, .int .i64 (k : Int))]) (fun k O => k ≤ s.feet.length ∧ ∃ fv A0 A1, O = (b3, .cells #[.int .i64 s.grid.wide, c2, l2, fv] 37) :: (A0 ++ A1 ++ (AC ++ (AL ++ [(b2, .cells #[.int .i64 0, .slice none 0 0, .slice none 0 0, .slice none 0 0] 37), (b1, .cells #[.int .i64 s.grid.wide, c, l, f] 37)]))) ∧ ∃ rs : List (Raw (intSR τ).sz), rs.length = k ∧ Gr A0 fv 25 (rawF (intSR τ).sz) rs ∧ OAll (intSR τ) A1 rs (s.feet.take k)) (fun k => s.feet.length - k) 0 ((b3, .cells #[.int .i64 s.grid.wide, c2, l2, .slice none 0 0] 37) :: ([] ++ [] ++ (AC ++ (AL ++ [(b2, .cells #[.int .i64 0, .slice none 0 0, .slice none 0 0, .slice none 0 0] 37), (b1, .cells #[.int .i64 s.grid.wide, c, l, f] 37)])))) ⟨by omega, _, [], [], rfl, [], rfl, Gr.nil _ _, .nil⟩ ?_
  rintro k O ⟨hk, fv, A0, A1, rfl, rs, hr, gr, oa⟩
  have o8 := gr.one
  repeat (first | refine R1 ?_ | (refine R2 ?_; intro _))
  refine sf_if (fun h4 => ?_) fun h4 => ?_
  · have hk4 : k < s.feet.length := by omega
    have hk5 : k < rx.length := by omega
    obtain ⟨vx, ex, sx4⟩ := bx.at hk4
    haveI : FlatV (rawF (intSR τ).sz) (gt rx k) [vx] := ⟨ex⟩
    have o9 := sx4.one
    have hsz := sizeL_at (f := List.length) hk4
    repeat (first | refine R1 ?_ | (refine R2 ?_; intro _))
    refine sf_draw (by kernel_rfl) (regX_run [[], [0], [], [], [3], [], [3, 4, 5], [3, 4, 5, 6], [2, 3, 4, 5, 6, 7], [2, 3, 4, 5, 6, 7, 8], [0, 1, 2, 3, 4, 5, 6, 7, 8, 9], [0, 1, 2, 3, 4, 5, 6, 7, 8, 9, 10], [0, 1, 2, 3, 4, 5, 6, 7, 8, 9, 10, 11]] 10 [(0, false), (1, false), (3, false), (4, false), (5, false), (6, false), (7, false), (2, true), (8, true), (9, true)] (by kernel_rfl) (by kernel_rfl) (by kernel_rfl) ?_)
    repeat (refine Da1 ?_)
    refine a_bs (by rfl) (by rfl) (by infer_instance) (by infer_instance) (by infer_instance) (by infer_instance) (by rfl) (by rfl) (by rfl) (by decide) (.inl rfl) fun e0 AE ge => ?_
    repeat (refine Da1 ?_)
    refine a_appendS (by rfl) (by rfl) (by rfl) ge sx4 (by infer_instance) (by infer_instance) (fun y _ => FlatOne.one y) (by rfl) (by rfl) (by simp; omega) (by simp; omega) (.inl rfl) fun w AW gw => ?_
    have o10 := gw.one
    repeat (refine Da1 ?_)
    refine a_bs (by rfl) (by rfl) (by infer_instance) (by infer_instance) (by infer_instance) (by infer_instance) (by rfl) (by rfl) (by rfl) (by decide) (.inl rfl) fun u Au gu => ?_
    repeat (refine Da1 ?_)
    (refine a_end (by rfl) (by rfl) ?_; simp only [finA, setL, List.drop_succ_cons, List.drop_zero])
    refine fp (y_append (by rfl) (by rfl) gr gu (by intro y hy; simp at hy; subst hy; exact (inferInstance : AllOne [w]).is) (by rfl) (by rfl) (by simp; omega) (by simp; omega) fun fv2 A5 g5 => ?_)
    have o11 := g5.one
    repeat (first | refine R1 ?_ | (refine R2 ?_; intro _))
    refine ⟨k + 1, by omega, ⟨rfl, trivial⟩, rfl, (b3, .cells #[.int .i64 s.grid.wide, c2, l2, fv2] 37) :: (A5 ++ (A1 ++ AW) ++ (AC ++ (AL ++ [(b2, .cells #[.int .i64 0, .slice none 0 0, .slice none 0 0, .slice none 0 0] 37), (b1, .cells #[.int .i64 s.grid.wide, c, l, f] 37)]))), _, inferInstance, by omega, fv2, A5, A1 ++ AW, rfl, _, by simp [hr], g5, ?_⟩
    rw [take_succ_gt hk4]
    exact oa.snoc ⟨w, rfl, gw, by omega⟩
  · refine sf_exit ?_
    obtain rfl : k = s.feet.length := by omega
    rw [List.take_of_length_le (Nat.le_refl _)] at oa
    repeat (first | refine R1 ?_ | (refine R2 ?_; intro _))
    refine sf_ret (rO (AC ++ (AL ++ (A0 ++ A1))) ⟨_, rfl, ?_⟩)
    exact sceneO_mk (s := s) g1 (by omega) g2 (by omega) ⟨A0, A1, rfl, rs, gr, oa, by omega⟩
theorem l21Copy_f (h : PHeap) (ca : List Value) (p : Painter) (b : (painterR τ).B h ca p) (hs : szPainterN p ≤ 1048576) : CallF Tryz.prog M 45 [.agg ca.toArray] [] h fun u A => ∃ cs, u = .agg cs.toArray ∧ (painterR τ).O A cs p := by
  obtain ⟨c, l, f, rfl, s1, s2, s3⟩ := painterB b
  have o1 := s1.one
  have o2 := s2.one
  have o3 := s3.one
  refine calls_of_sf Tryz.func45 rfl Tryz.ntmps45 ?_
  simp only [argsL, Nat.reduceAdd]
  repeat (first | refine R1 ?_ | (refine R2 ?_; intro _))
  refine fp (y_call (l13Copy_f (M := M) _ _ p.scene (sceneB_mk s1 s2 s3) hs) (by rfl) ?_)
  rintro _ A1 ⟨cs, rfl, q⟩
  obtain ⟨c2, l2, f2, X1, X2, X3, rfl, rfl, ⟨g1, k1⟩, ⟨g2, k2⟩, g3⟩ := sceneO q
  have o4 := g1.one
  have o5 := g2.one
  have o6 := g3.one
  repeat (first | refine R1 ?_ | (refine R2 ?_; intro _))
  exact sf_ret (rO (X1 ++ (X2 ++ X3)) ⟨_, rfl, painterO_mk g1 k1 g2 k2 g3⟩)
end Go.Proofs.YtekjikbaefgncaaGreat

/- Walks: a scene, one place put anew: the reference's. -/
namespace Go.Proofs.YtekjikbaefgncaaGreat
open Go Go.Sl
set_option maxRecDepth 100000
set_option maxHeartbeats 4000000
attribute [local irreducible] Go.Code.sf sfOps Opq opo retF Do1 anyO
variable {M : Jdg → Prop} [IsCl Tryz.prog M]
theorem l13Do_f (h : PHeap) (c l f v : Value) (X1 X2 X3 : Own) (s : Scene) (e : Edit) (g1 : Gr X1 c 44 cellF s.grid.cells) (g2 : Gr X2 l 3 intF s.lights) (g3 : GrR (intSR τ) X3 f 25 s.feet) (sv : Sl h v editF [e]) (hg : gridOk s.grid = true) (he : editOk s.grid e = true) (hl : (s.lights.length : Int) = manyOf s.grid) (hf : (s.feet.length : Int) = manyOf s.grid) :
    CallF Tryz.prog M 70 [.agg #[.int .i64 s.grid.wide, c, l, f], v] (X1 ++ (X2 ++ X3)) h fun u A => ∃ w, u = .tuple #[.agg #[.int .i64 s.grid.wide, c, l, f], w] ∧ (sceneR τ).O A [.int .i64 s.grid.wide, c, l, f] (editScene s e) ∧ Sl.One w := by
  have kg := gok hg
  have hm := kg.many
  have hsm := kg.small
  have hg' := gridOk_put hg he
  have hmp := manyOf_put s.grid e
  have q : (sceneR τ).O (X1 ++ (X2 ++ X3)) [.int .i64 s.grid.wide, c, l, f] s := sceneO_mk g1 (by omega) g2 (by omega) g3
  have o1 := g1.one
  have o2 := g2.one
  have o3 := g3.one
  have o4 := sv.one
  have hea : 0 ≤ e.at' ∧ e.at' < s.grid.cells.length := by simp only [editOk, Bool.and_eq_true, decide_eq_true_eq] at he; omega
  obtain ⟨N, hN⟩ : ∃ N, s.feet.length = N := ⟨_, rfl⟩
  obtain ⟨ks, hks⟩ : ∃ ks, touched s.feet e.at' = ks := ⟨_, rfl⟩
  have hkl : ∀ k ∈ ks, k < N := fun k hk => by rw [← hks] at hk; rw [← hN]; exact touchTo_lt hk
  have hkn : ks.length ≤ N := by rw [← hks, ← hN]; exact touchTo_len _ _ _
  have eg : ∀ i, i < [e].length → gt [e] i = e := fun i hi => by
    obtain rfl : i = 0 := by simpa using hi
    rfl
  obtain ⟨F0, F1, rfl, rs, gr, oa, hb⟩ := id g3
  have hr := oa.len
  refine calls_of_sf Tryz.func70 rfl Tryz.ntmps70 ?_
  simp only [argsL, Nat.reduceAdd]
  repeat (first | refine R1 ?_ | (refine R2 ?_; intro _))
  rename_i b2 b4
  refine fp (y_make (by rfl) (by rfl) (by rfl) (by decide) (by omega) fun vb AB gb => ?_)
  have o5 := gb.one
  rw [show rs.length = N by omega] at gb
  repeat (first | refine R1 ?_ | (refine R2 ?_; intro _))
  refine fp (y_bs (by rfl) (by rfl) (by rfl) (by rfl) (by decide) fun w7 A7 g7 => ?_)
  have o6 := g7.one
  repeat (first | refine R1 ?_ | (refine R2 ?_; intro _))
  refine sf_lp (ι := Nat × List Bool) [1, 2, 4, 6, 7] (fun x => [(8, .int .i64 (x.1 : Int))]) (fun x O => x.1 ≤ 1 ∧ ∃ AB, O = AB ++ (A7 ++ ((b2, .cells #[.int .i64 s.grid.wide, c, l, f] 37) :: ((b4, .cells #[.int .i64 0, .slice none 0 0, .slice none 0 0, .slice none 0 0] 37) :: (X1 ++ (X2 ++ (F0 ++ F1)))))) ∧ Gr AB vb 4 boolF x.2 ∧ x.2.length = N ∧ (x.1 = 0 → ∀ k, k < N → gt x.2 k = false) ∧ (x.1 = 1 → ∀ k, k < N → gt x.2 k = decide (k ∈ ks))) (fun x => 1 - x.1) (0, List.replicate N false) (AB ++ (A7 ++ ((b2, .cells #[.int .i64 s.grid.wide, c, l, f] 37) :: ((b4, .cells #[.int .i64 0, .slice none 0 0, .slice none 0 0, .slice none 0 0] 37) :: (X1 ++ (X2 ++ (F0 ++ F1))))))) ⟨by simp only; omega, AB, rfl, gb, by simp, fun _ k hk => by simp [gt, hk], fun h0 => by cases h0⟩ ?_
  clear gb
  rintro ⟨i, bs⟩ O ⟨hi, AB, rfl, gb, hbl, hb0, hb1⟩
  simp only at hi gb hbl hb0 hb1 ⊢
  repeat (first | refine R1 ?_ | (refine R2 ?_; intro _))
  refine sf_if (fun h4 => ?_) fun h4 => ?_
  · have hi4 : i < [e].length := by simp only [List.length_cons, List.length_nil]; simp at h4; omega
    have ee := eg i hi4
    obtain rfl : i = 0 := by simpa using hi4
    repeat (first | refine R1 ?_ | (refine R2 ?_; intro _))
    refine sf_draw (by kernel_rfl) (regX_run [[], [], [], [1, 2], [1, 2, 3], [1, 2, 3, 4], [0, 1, 2, 3, 4, 5], [0, 1, 2, 3, 4, 5, 6]] 6 [(0, false), (1, false), (2, false), (3, false), (4, false), (5, false)] (by kernel_rfl) (by kernel_rfl) (by kernel_rfl) ?_)
    repeat (refine Da1 ?_)
    (refine a_end (by rfl) (by rfl) ?_; simp only [finA, setL, List.drop_succ_cons, List.drop_zero])
    refine fp (y_lend (X1 ++ (X2 ++ (F0 ++ F1))) (fun h' _ i' => l13Touch_f (M := M) h' _ s ((sceneR τ).lent q i') (by omega) e.at') (by rfl) ?_)
    rintro w9 AT gw
    rw [hks] at gw
    have o7 := gw.one
    repeat (first | refine R1 ?_ | (refine R2 ?_; intro _))
    refine sf_lp (ι := Nat × List Bool) [1, 2, 4, 6, 7, 8, 9] (fun x => [(10, .int .i64 (x.1 : Int))]) (fun x O => x.1 ≤ ks.length ∧ ∃ AB, O = AB ++ (AT ++ (A7 ++ ((b2, .cells #[.int .i64 s.grid.wide, c, l, f] 37) :: ((b4, .cells #[.int .i64 0, .slice none 0 0, .slice none 0 0, .slice none 0 0] 37) :: (X1 ++ (X2 ++ (F0 ++ F1))))))) ∧ Gr AB vb 4 boolF x.2 ∧ x.2.length = N ∧ ∀ k, k < N → gt x.2 k = decide (k ∈ ks.take x.1)) (fun x => ks.length - x.1) (0, bs) (AB ++ (AT ++ (A7 ++ ((b2, .cells #[.int .i64 s.grid.wide, c, l, f] 37) :: ((b4, .cells #[.int .i64 0, .slice none 0 0, .slice none 0 0, .slice none 0 0] 37) :: (X1 ++ (X2 ++ (F0 ++ F1)))))))) ⟨by simp only; omega, AB, rfl, gb, hbl, fun k hk => by simp only [hb0 rfl k hk]; simp⟩ ?_
    clear gb hb0 hb1 hbl
    rintro ⟨j, bs⟩ O ⟨hj, AB, rfl, gb, hbl, hb⟩
    simp only at hj gb hbl hb ⊢
    have hnl := natsI_len ks
    repeat (first | refine R1 ?_ | (refine R2 ?_; intro _))
    refine sf_if (fun h5 => ?_) fun h5 => ?_
    · have hj4 : j < ks.length := by omega
      have hj5 : j < (natsI ks).length := by omega
      have hz := natsI_at hj4
      have hz1 := hkl (gt ks j) (by rw [gt_eq hj4]; exact List.getElem_mem _)
      have hz0 : 0 ≤ gt (natsI ks) j := by omega
      have hz2 : gt (natsI ks) j < (bs.length : Int) := by omega
      repeat (first | refine R1 ?_ | (refine R2 ?_; intro _) | refine fp (Rq ?_ (z_indexGI (by rfl) (by rfl) (by assumption) (by omega) (by omega))))
      refine fp (y_storeG0 (by rfl) (by rfl) gb (by omega) (by rfl) fun A2 ys hy hly fv gy => ?_)
      repeat (first | refine R1 ?_ | (refine R2 ?_; intro _))
      refine ⟨(j + 1, ys), by simp only; omega, ⟨rfl, trivial⟩, rfl, A2 ++ (AT ++ (A7 ++ ((b2, .cells #[.int .i64 s.grid.wide, c, l, f] 37) :: ((b4, .cells #[.int .i64 0, .slice none 0 0, .slice none 0 0, .slice none 0 0] 37) :: (X1 ++ (X2 ++ (F0 ++ F1))))))), _, inferInstance, by simp only; omega, A2, rfl, gy, by simp only; omega, fun k hk => ?_⟩
      simp only
      rw [hy, take_succ_gt hj4]
      by_cases ek : (gt (natsI ks) j).toNat = k
      · subst ek
        rw [gt_set (by omega)]
        have : (gt (natsI ks) j).toNat = gt ks j := by omega
        simp [this]
      · rw [gt_set_ne ek, hb k hk]
        have : ¬ k = gt ks j := by omega
        simp [this]
    · refine sf_exit ?_
      obtain rfl : j = ks.length := by omega
      rw [List.take_of_length_le (Nat.le_refl _)] at hb
      repeat (first | refine R1 ?_ | (refine R2 ?_; intro _))
      exact ⟨(1, bs), by simp, ⟨rfl, trivial⟩, rfl, AB ++ (A7 ++ ((b2, .cells #[.int .i64 s.grid.wide, c, l, f] 37) :: ((b4, .cells #[.int .i64 0, .slice none 0 0, .slice none 0 0, .slice none 0 0] 37) :: (X1 ++ (X2 ++ (F0 ++ F1)))))), _, inferInstance, by simp, AB, rfl, gb, hbl, fun h0 => (by cases h0), fun _ => hb⟩
  refine sf_exit ?_
  obtain rfl : i = 1 := by simp at h4; omega
  have hb := hb1 rfl
  clear hb0 hb1
  repeat (first | refine R1 ?_ | (refine R2 ?_; intro _))
  refine sf_lp (ι := Nat × List Cell) [1, 2, 4, 6, 7] (fun x => [(11, .int .i64 (x.1 : Int))]) (fun x O => x.1 ≤ 1 ∧ ∃ X1, O = AB ++ (A7 ++ ((b2, .cells #[.int .i64 s.grid.wide, c, l, f] 37) :: ((b4, .cells #[.int .i64 0, .slice none 0 0, .slice none 0 0, .slice none 0 0] 37) :: (X1 ++ (X2 ++ (F0 ++ F1)))))) ∧ Gr X1 c 44 cellF x.2 ∧ (x.1 = 0 → x.2 = s.grid.cells) ∧ (x.1 = 1 → x.2 = (putCell s.grid e).cells)) (fun x => 1 - x.1) (0, s.grid.cells) (AB ++ (A7 ++ ((b2, .cells #[.int .i64 s.grid.wide, c, l, f] 37) :: ((b4, .cells #[.int .i64 0, .slice none 0 0, .slice none 0 0, .slice none 0 0] 37) :: (X1 ++ (X2 ++ (F0 ++ F1))))))) ⟨by simp, X1, rfl, g1, fun _ => rfl, fun h0 => by cases h0⟩ ?_
  clear q g1
  rintro ⟨i, cl⟩ O ⟨hi, X1, rfl, g1, hc0, hc1⟩
  simp only at hi g1 hc0 hc1 ⊢
  repeat (first | refine R1 ?_ | (refine R2 ?_; intro _))
  refine sf_if (fun h4 => ?_) fun h4 => ?_
  · have hi4 : i < [e].length := by simp only [List.length_cons, List.length_nil]; simp at h4; omega
    have ee := eg i hi4
    obtain rfl : i = 0 := by simpa using hi4
    obtain rfl := hc0 rfl
    have ha0 : 0 ≤ (gt [e] 0).at' := hea.1
    have ha1 : (gt [e] 0).at' < (s.grid.cells.length : Int) := hea.2
    repeat (first | refine R1 ?_ | (refine R2 ?_; intro _))
    refine sf_draw (by kernel_rfl) (regX_run [[], [0], [0, 1], [], [], [3, 4], [3, 4, 5], [3, 4, 5, 6], [], [], [8, 9], [8, 9, 10], [8, 9, 10, 11], [0, 1, 2, 3, 4, 5, 6, 7, 8, 9, 10, 11, 12], [0, 1, 2, 3, 4, 5, 6, 7, 8, 9, 10, 11, 12, 13]] 13 [(0, false), (1, false), (2, false), (3, false), (4, false), (5, false), (6, false), (7, false), (8, false), (9, false), (10, false), (11, false), (12, false)] (by kernel_rfl) (by kernel_rfl) (by kernel_rfl) ?_)
    repeat (refine Da1 ?_)
    (refine a_end (by rfl) (by rfl) ?_; simp only [finA, setL, List.drop_succ_cons, List.drop_zero])
    repeat (first | refine R1 ?_ | (refine R2 ?_; intro _) | refine fp (Rq ?_ (z_indexGI (by rfl) (by rfl) (by assumption) (by omega) (by omega))))
    refine fp (y_storeG0 (by rfl) (by rfl) g1 (by omega) (by rfl) fun A2 ys hy hly fv gy => ?_)
    repeat (first | refine R1 ?_ | (refine R2 ?_; intro _))
    exact ⟨(1, ys), by simp, ⟨rfl, trivial⟩, rfl, AB ++ (A7 ++ ((b2, .cells #[.int .i64 s.grid.wide, c, l, f] 37) :: ((b4, .cells #[.int .i64 0, .slice none 0 0, .slice none 0 0, .slice none 0 0] 37) :: (A2 ++ (X2 ++ (F0 ++ F1)))))), _, inferInstance, by simp, A2, rfl, gy, fun h0 => (by cases h0), fun _ => hy⟩
  refine sf_exit ?_
  obtain rfl : i = 1 := by simp at h4; omega
  obtain rfl := hc1 rfl
  clear hc0 hc1
  repeat (first | refine R1 ?_ | (refine R2 ?_; intro _))
  refine sf_lp (ι := Nat × Value) [2, 4, 6] (fun x => [(7, x.2), (12, .int .i64 (x.1 : Int))]) (fun x O => x.1 ≤ N ∧ ∃ A2 A3 AW, O = AW ++ (AB ++ ((b2, .cells #[.int .i64 s.grid.wide, c, l, f] 37) :: ((b4, .cells #[.int .i64 0, .slice none 0 0, .slice none 0 0, .slice none 0 0] 37) :: (X1 ++ (A2 ++ A3))))) ∧ Gr A2 l 3 intF (lookL (putCell s.grid e) (touchTo s.feet e.at' x.1) s.lights) ∧ GrR (intSR τ) A3 f 25 (lookF (putCell s.grid e) (touchTo s.feet e.at' x.1) s.feet) ∧ Gr AW x.2 3 intF (natsI (touchTo s.feet e.at' x.1))) (fun x => N - x.1) (0, w7) (A7 ++ (AB ++ ((b2, .cells #[.int .i64 s.grid.wide, c, l, f] 37) :: ((b4, .cells #[.int .i64 0, .slice none 0 0, .slice none 0 0, .slice none 0 0] 37) :: (X1 ++ (X2 ++ (F0 ++ F1))))))) ⟨by simp, X2, F0 ++ F1, A7, rfl, g2, g3, g7⟩ ?_
  clear g2 g3 g7 gr oa
  rintro ⟨k, w7⟩ O ⟨hk, A2, A3, AW, rfl, ga, gf, gx⟩
  simp only at hk ga gf gx ⊢
  have o7 := gx.one
  have hll := lookL_len (putCell s.grid e) (touchTo s.feet e.at' k) s.lights
  have hfl := lookF_len (putCell s.grid e) (touchTo s.feet e.at' k) s.feet
  have htl := touchTo_len s.feet e.at' k
  have hnl := natsI_len (touchTo s.feet e.at' k)
  repeat (first | refine R1 ?_ | (refine R2 ?_; intro _))
  refine sf_if (fun h4 => ?_) fun h4 => ?_
  · have hk4 : k < N := by omega
    have hk5 : k < bs.length := by omega
    repeat (first | refine R1 ?_ | (refine R2 ?_; intro _))
    rw [hb k hk4, ← hks]
    refine sf_if (fun h5 => ?_) fun h5 => ?_
    · have h6 := (mem_touched (by omega)).1 h5
      repeat (first | refine R1 ?_ | (refine R2 ?_; intro _))
      refine fp (y_lend X1 (fun h' _ i => l13Look_f (M := M) h' c (putCell s.grid e) (g1.lent (by rw [show (putCell s.grid e).cells.length = s.grid.cells.length by simp [putCell]]; omega) i) hg' l f A2 A3 _ _ ga gf k (by omega) (by omega) (by omega)) (by rfl) ?_)
      rintro u0 _ ⟨A5, A6, e1, rfl, ga2, gf2⟩
      have e2 : u0 = .agg #[.int .i64 s.grid.wide, c, l, f] := e1
      subst e2
      repeat (first | refine R1 ?_ | (refine R2 ?_; intro _))
      refine fp (y_bs (by rfl) (by rfl) (by rfl) (by rfl) (by decide) fun u Au gu => ?_)
      repeat (first | refine R1 ?_ | (refine R2 ?_; intro _))
      refine fp (y_append (by rfl) (by rfl) gx gu (fun y _ => FlatOne.one y) (by rfl) (by rfl) (by simp; omega) (by simp; omega) fun w2 A4 g4 => ?_)
      repeat (first | refine R1 ?_ | (refine R2 ?_; intro _))
      refine ⟨(k + 1, w2), by simp only; omega, ⟨rfl, rfl, trivial⟩, rfl, A4 ++ (AB ++ ((b2, .cells #[.int .i64 s.grid.wide, c, l, f] 37) :: ((b4, .cells #[.int .i64 0, .slice none 0 0, .slice none 0 0, .slice none 0 0] 37) :: (X1 ++ (A5 ++ A6))))), _, inferInstance, by simp only; omega, A5, A6, A4, rfl, ?_, ?_, ?_⟩
      · simp only; rw [touchTo_step, if_pos h6, lookL_snoc]; exact ga2
      · simp only; rw [touchTo_step, if_pos h6, lookF_snoc]; exact gf2
      · simp only; rw [touchTo_step, if_pos h6, natsI_snoc]; exact g4
    · have h6 : ¬ e.at' ∈ gt s.feet k := fun z => h5 ((mem_touched (by omega)).2 z)
      repeat (first | refine R1 ?_ | (refine R2 ?_; intro _))
      refine ⟨(k + 1, w7), by simp only; omega, ⟨rfl, rfl, trivial⟩, rfl, AW ++ (AB ++ ((b2, .cells #[.int .i64 s.grid.wide, c, l, f] 37) :: ((b4, .cells #[.int .i64 0, .slice none 0 0, .slice none 0 0, .slice none 0 0] 37) :: (X1 ++ (A2 ++ A3))))), _, inferInstance, by simp only; omega, A2, A3, AW, rfl, ?_, ?_, ?_⟩
      · simp only; rw [touchTo_step, if_neg h6]; exact ga
      · simp only; rw [touchTo_step, if_neg h6]; exact gf
      · simp only; rw [touchTo_step, if_neg h6]; exact gx
  · refine sf_exit ?_
    obtain rfl : k = N := by omega
    subst hN
    repeat (first | refine R1 ?_ | (refine R2 ?_; intro _))
    refine sf_ret (rO (X1 ++ (A2 ++ A3)) ⟨_, rfl, ?_, o7⟩)
    exact sceneO_mk (s := editScene s e) g1 (by simp only [editScene, putCell, List.length_set]; omega) ga (by simp only [editScene]; rw [lookL_len]; omega) gf
end Go.Proofs.YtekjikbaefgncaaGreat

/- Walks: what painters tell: the reference's. -/
namespace Go.Proofs.YtekjikbaefgncaaGreat
open Go Go.Sl
set_option maxRecDepth 100000
set_option maxHeartbeats 4000000
attribute [local irreducible] Go.Code.sf sfOps Opq opo retF Do1 anyO
variable {M : Jdg → Prop} [IsCl Tryz.prog M]
end Go.Proofs.YtekjikbaefgncaaGreat

/- Walks: what painters hear: the reference's. -/
namespace Go.Proofs.YtekjikbaefgncaaGreat
open Go Go.Sl
set_option maxRecDepth 100000
set_option maxHeartbeats 4000000
attribute [local irreducible] Go.Code.sf sfOps Opq opo retF Do1 anyO
variable {M : Jdg → Prop} [IsCl Tryz.prog M]
theorem painterO_sc {A : Own} {cs : List Value} {sc : Scene} (q : (sceneR τ).O A cs sc) (u hs : Bool) (v : Int) : (painterR τ).O A (.bool u :: .bool hs :: .int .i64 v :: cs) ⟨u, hs, v, sc⟩ := by
  obtain ⟨c, l, f, A1, A2, A3, rfl, rfl, ⟨g1, j1⟩, ⟨g2, j2⟩, g3⟩ := sceneO q
  exact painterO_mk (p := ⟨u, hs, v, sc⟩) g1 j1 g2 j2 g3
theorem l21Hear_f (h : PHeap) (cb : List Value) (p : Painter) (w : Word) (c l f : Value) (X1 X2 X3 : Own) (g1 : Gr X1 c 44 cellF p.scene.grid.cells) (g2 : Gr X2 l 3 intF p.scene.lights) (g3 : GrR (intSR τ) X3 f 25 p.scene.feet) (ok : paintOk p = true) (hs : szPainterN p ≤ 1048576) (bw : (wordR τ).B h cb w) :
    CallF Tryz.prog M 44 [.agg #[.bool p.up, .bool p.has, .int .i64 p.ver, .int .i64 p.scene.grid.wide, c, l, f], .agg cb.toArray] (X1 ++ (X2 ++ X3)) h fun u A => ∃ cs, u = .agg cs.toArray ∧ (painterR τ).O A cs (paintHeard p w) := by
  have hs' := hs
  simp only [szPainterN, szSceneN, szIntSSN] at hs'
  have qs : (sceneR τ).O (X1 ++ (X2 ++ X3)) _ p.scene := sceneO_mk g1 (by omega) g2 (by omega) g3
  have qp : (painterR τ).O (X1 ++ (X2 ++ X3)) _ p := painterO_mk g1 (by omega) g2 (by omega) g3
  have o1 := g1.one
  have o2 := g2.one
  have o3 := g3.one
  obtain ⟨wc, wl, ecb, sw1, sw2⟩ := wordB bw
  have ecb' : cb = [.int .i64 w.kind, .int .i64 w.to, .int .i64 w.frm, .int .i64 w.ver, .int .i64 w.grid.wide, wc, .int .i64 w.edit.at', .int .i64 w.edit.cell.kind, .int .i64 w.edit.cell.light, wl] := ecb
  subst ecb'
  clear ecb
  have o4 := sw1.one
  have o5 := sw2.one
  refine calls_of_sf Tryz.func44 rfl Tryz.ntmps44 ?_
  simp only [argsL, Nat.reduceAdd]
  repeat (first | refine R1 ?_ | (refine R2 ?_; intro _))
  refine sf_cond (by rfl) (fun e => ?_) fun e => ?_
  · simp only [Bool.not_eq_true'] at e
    repeat (first | refine R1 ?_ | (refine R2 ?_; intro _))
    rw [heard_up e]
    exact sf_ret (rO (X1 ++ (X2 ++ X3)) ⟨_, rfl, qp⟩)
  simp only [Bool.not_eq_false'] at e
  repeat (first | refine R1 ?_ | (refine R2 ?_; intro _))
  refine sf_if (fun e1 => ?_) fun e1 => ?_
  · rw [heard1 e e1]
    repeat (first | refine R1 ?_ | (refine R2 ?_; intro _))
    refine fp (y_call (sSceneNew_f (M := M) _ _ w.grid (gridB_mk sw1)) (by rfl) ?_)
    rintro _ A1 ⟨cs, rfl, q⟩
    by_cases eg : gridOk w.grid = true
    · have en : sceneNew w.grid = (sceneOf w.grid, true) := by rw [sceneNew, if_pos eg]
      rw [en] at q ⊢
      obtain ⟨c2, l2, f2, Y1, Y2, Y3, rfl, rfl, ⟨k1, j1⟩, ⟨k2, j2⟩, k3⟩ := sceneO q
      have o6 := k1.one
      have o7 := k2.one
      have o8 := k3.one
      simp only at k1 k2 k3 j1 j2 q ⊢
      repeat (first | refine R1 ?_ | (refine R2 ?_; intro _))
      refine fp (y_callV (l6In_v _ _ _ _) (by rfl) ?_)
      repeat (first | refine R1 ?_ | (refine R2 ?_; intro _))
      refine f_splitB (fun e2 => ?_) fun e2 => ?_
      · repeat (first | refine R1 ?_ | (refine R2 ?_; intro _))
        refine f_splitB (fun e3 => ?_) fun e3 => ?_
        · have e3' : p.has = false := by simpa using e3
          repeat (first | refine R1 ?_ | (refine R2 ?_; intro _))
          refine sf_cond (by rfl) (fun e4 => ?_) fun e4 => ?_
          · repeat (first | refine R1 ?_ | (refine R2 ?_; intro _))
            rw [if_pos ⟨by simpa using e2, fun z => by (rw [e3'] at z; cases z), eg⟩]
            exact sf_ret (rO (Y1 ++ (Y2 ++ Y3)) ⟨_, rfl, painterO_mk (p := ⟨true, true, w.ver, sceneOf w.grid⟩) k1 j1 k2 j2 k3⟩)
          · simp [e2, e3] at e4
        · have e3' : p.has = true := by simpa using e3
          repeat (first | refine R1 ?_ | (refine R2 ?_; intro _))
          refine sf_cond (by rfl) (fun e4 => ?_) fun e4 => ?_
          · repeat (first | refine R1 ?_ | (refine R2 ?_; intro _))
            rw [if_pos ⟨by simpa using e2, fun _ => by simpa using e4, eg⟩]
            exact sf_ret (rO (Y1 ++ (Y2 ++ Y3)) ⟨_, rfl, painterO_mk (p := ⟨true, true, w.ver, sceneOf w.grid⟩) k1 j1 k2 j2 k3⟩)
          · repeat (first | refine R1 ?_ | (refine R2 ?_; intro _))
            rw [if_neg (fun z => by have := z.2.1 e3'; simp at e4; omega)]
            exact sf_ret (rO (X1 ++ (X2 ++ X3)) ⟨_, rfl, qp⟩)
      · repeat (first | refine R1 ?_ | (refine R2 ?_; intro _))
        refine sf_cond (by rfl) (fun e4 => ?_) fun e4 => ?_
        · simp [e2] at e4
        repeat (first | refine R1 ?_ | (refine R2 ?_; intro _))
        rw [if_neg (fun z => by have := z.1; simp at e2; omega)]
        exact sf_ret (rO (X1 ++ (X2 ++ X3)) ⟨_, rfl, qp⟩)
    · have en : sceneNew w.grid = (noScene, false) := by rw [sceneNew, if_neg eg]
      rw [en] at q ⊢
      obtain ⟨c2, l2, f2, Y1, Y2, Y3, rfl, rfl, ⟨k1, j1⟩, ⟨k2, j2⟩, k3⟩ := sceneO q
      have o6 := k1.one
      have o7 := k2.one
      have o8 := k3.one
      simp only at k1 k2 k3 j1 j2 q ⊢
      repeat (first | refine R1 ?_ | (refine R2 ?_; intro _))
      refine sf_cond (by rfl) (fun e4 => ?_) fun e4 => ?_
      · simp at e4
      repeat (first | refine R1 ?_ | (refine R2 ?_; intro _))
      rw [if_neg (fun z => eg z.2.2)]
      exact sf_ret (rO (X1 ++ (X2 ++ X3)) ⟨_, rfl, qp⟩)
  repeat (first | refine R1 ?_ | (refine R2 ?_; intro _))
  refine sf_if (fun e2 => ?_) fun e2 => ?_
  · rw [heard2 e e2]
    repeat (first | refine R1 ?_ | (refine R2 ?_; intro _))
    refine f_splitB (fun e3 => ?_) fun e3 => ?_
    · obtain ⟨-, hv0, hv1, hsc⟩ := paintOk_has ok e3
      obtain ⟨hgk, hse⟩ := sceneOk_is hsc
      repeat (first | refine R1 ?_ | (refine R2 ?_; intro _))
      refine f_split (fun e4 => ?_) fun e4 => ?_
      · repeat (first | refine R1 ?_ | (refine R2 ?_; intro _))
        refine f_split (fun e5 => ?_) fun e5 => ?_
        · repeat (first | refine R1 ?_ | (refine R2 ?_; intro _))
          refine fp (y_bs (by rfl) (by rfl) (by rfl) (by rfl) (by decide) fun ev AE ge => ?_)
          have o6 := ge.one
          repeat (first | refine R1 ?_ | (refine R2 ?_; intro _))
          refine fp (y_lendV (X1 ++ AE) (fun h' _ i => l13Edits_v (M := M) h' c p.scene.grid (g1.lent (by omega) (inb_l i)) ev [w.edit] (ge.lent (by simp) (inb_r i))) (by rfl) ?_)
          rw [editsOk_one]
          repeat (first | refine R1 ?_ | (refine R2 ?_; intro _))
          refine sf_cond (by rfl) (fun e6 => ?_) fun e6 => ?_
          · have e6' : editOk p.scene.grid w.edit = true := by simpa using e6
            have hfl : p.scene.feet = feetOf p.scene.grid := congrArg Scene.feet hse
            have hll : p.scene.lights = picOf p.scene.grid := congrArg Scene.lights hse
            have hm := (gok hgk).many
            rw [if_pos ⟨e3, e5, by omega, e6'⟩]
            repeat (first | refine R1 ?_ | (refine R2 ?_; intro _))
            refine sf_draw (by kernel_rfl) (regX_own (X1 ++ (X2 ++ X3)) (regX_split 2 5 (by rfl) (regX_split 2 10 (by rfl) (regX_split 5 10 (by rfl) (regX_split 6 10 (by rfl) ?_ ?_) ?_) ?_) (regX_split 2 10 (by rfl) (regX_split 6 10 (by rfl) ?_ ?_) (regX_split 5 10 (by rfl) ?_ ?_))))
            case' refine_1 =>
              refine (regX_runW _ [[], [0], [0, 1], [], [3], [0, 1, 2, 3, 4], [0, 1, 2, 3, 4, 5], [0, 1, 2, 3, 4, 5, 6], [0, 1, 2, 3, 4, 5, 6, 7], [0, 1, 2, 3, 4, 5, 6, 7], [0, 1, 2, 3, 4, 5, 6], [0, 1, 2, 3, 4, 5, 6, 7, 8, 10], [0, 1, 2, 3, 4, 5, 6, 7, 8, 9, 10, 11]] 12 [(0, false), (1, false), (3, false), (4, false), (2, true), (5, true), (6, true), (7, false), (8, false), (9, false), (10, true), (11, true)] (by kernel_rfl) (by kernel_rfl) (by kernel_rfl) ?_)
              repeat (refine Da1 ?_)
              refine a_call (lendF (X1 ++ (X2 ++ X3)) fun h' l' i => l13Copy_f (M := M) h' _ p.scene ((sceneR τ).lent qs i) hs) (by rfl) (by rfl) (.inl rfl) ?_
              rintro _ _ ⟨AX, rfl, cs, rfl, q⟩
              obtain ⟨c2, l2, f2, Y1, Y2, Y3, rfl, rfl, ⟨k1, j1⟩, ⟨k2, j2⟩, k3⟩ := sceneO q
              have o7 := k1.one
              have o8 := k2.one
              have o9 := k3.one
              repeat (refine Da1 ?_)
              refine a_bs (by rfl) (by rfl) (by infer_instance) (by infer_instance) (by infer_instance) (by infer_instance) (by rfl) (by rfl) (by rfl) (by decide) (.inl rfl) fun ev AE ge => ?_
              have o10 := ge.one
              repeat (refine Da1 ?_)
              refine a_call (lendF AE fun h' l' i => l13Do_f (M := M) h' c2 l2 f2 ev Y1 Y2 Y3 p.scene w.edit k1 k2 k3 (ge.lent (by simp) i) hgk e6' (by rw [hll, picOf_len]; omega) (by rw [hfl, feetOf_len]; omega)) (by rfl) (by rfl) (.inl rfl) ?_
              rintro _ _ ⟨A5, rfl, w2, rfl, q5, ow⟩
              repeat (refine Da1 ?_)
              refine a_alloc (by rfl) (.inl rfl) fun b7 => ?_
              repeat (refine Da1 ?_)
              refine a_store (by rfl) (by rfl) (by rfl) (.inl rfl) ?_
              repeat (refine Da1 ?_)
              (refine a_end (by rfl) (by rfl) ?_; simp only [finA, setL, List.drop_succ_cons, List.drop_zero])
              repeat (first | refine R1 ?_ | (refine R2 ?_; intro _))
              exact sf_ret (rO A5 ⟨_, rfl, painterO_sc q5 _ _ _⟩)
            case' refine_2 =>
              refine (regX_runW _ [[], [0], [0, 1], [], [3], [0, 1, 2, 3, 4], [0, 1, 2, 3, 4, 5, 10], [0, 1, 2, 3, 4, 5, 6, 10], [0, 1, 2, 3, 4, 5, 6, 7, 10], [0, 1, 2, 3, 4, 5, 6, 7, 10], [0, 1, 2, 3, 4, 5], [0, 1, 2, 3, 4, 5, 6, 7, 8, 10], [0, 1, 2, 3, 4, 5, 6, 7, 8, 9, 10, 11]] 12 [(0, false), (1, false), (3, false), (4, false), (2, true), (5, true), (10, true), (6, true), (7, false), (8, false), (9, false), (11, true)] (by kernel_rfl) (by kernel_rfl) (by kernel_rfl) ?_)
              repeat (refine Da1 ?_)
              refine a_call (lendF (X1 ++ (X2 ++ X3)) fun h' l' i => l13Copy_f (M := M) h' _ p.scene ((sceneR τ).lent qs i) hs) (by rfl) (by rfl) (.inl rfl) ?_
              rintro _ _ ⟨AX, rfl, cs, rfl, q⟩
              obtain ⟨c2, l2, f2, Y1, Y2, Y3, rfl, rfl, ⟨k1, j1⟩, ⟨k2, j2⟩, k3⟩ := sceneO q
              have o7 := k1.one
              have o8 := k2.one
              have o9 := k3.one
              repeat (refine Da1 ?_)
              refine a_bs (by rfl) (by rfl) (by infer_instance) (by infer_instance) (by infer_instance) (by infer_instance) (by rfl) (by rfl) (by rfl) (by decide) (.inl rfl) fun ev AE ge => ?_
              have o10 := ge.one
              repeat (refine Da1 ?_)
              refine a_alloc (by rfl) (.inl rfl) fun b7 => ?_
              repeat (refine Da1 ?_)
              refine a_call (lendF AE fun h' l' i => l13Do_f (M := M) h' c2 l2 f2 ev Y1 Y2 Y3 p.scene w.edit k1 k2 k3 (ge.lent (by simp) i) hgk e6' (by rw [hll, picOf_len]; omega) (by rw [hfl, feetOf_len]; omega)) (by rfl) (by rfl) (.inl rfl) ?_
              rintro _ _ ⟨A5, rfl, w2, rfl, q5, ow⟩
              repeat (refine Da1 ?_)
              refine a_store (by rfl) (by rfl) (by rfl) (.inl rfl) ?_
              repeat (refine Da1 ?_)
              (refine a_end (by rfl) (by rfl) ?_; simp only [finA, setL, List.drop_succ_cons, List.drop_zero])
              repeat (first | refine R1 ?_ | (refine R2 ?_; intro _))
              exact sf_ret (rO A5 ⟨_, rfl, painterO_sc q5 _ _ _⟩)
            case' refine_3 =>
              refine (regX_runW _ [[], [0], [0, 1], [], [3], [0, 1, 2, 3, 4, 10], [0, 1, 2, 3, 4, 5, 10], [0, 1, 2, 3, 4, 5, 6, 10], [0, 1, 2, 3, 4, 5, 6, 7, 10], [0, 1, 2, 3, 4, 5, 6, 7, 10], [0, 1, 2], [0, 1, 2, 3, 4, 5, 6, 7, 8, 10], [0, 1, 2, 3, 4, 5, 6, 7, 8, 9, 10, 11]] 12 [(0, false), (1, false), (3, false), (4, false), (2, true), (10, true), (5, true), (6, true), (7, false), (8, false), (9, false), (11, true)] (by kernel_rfl) (by kernel_rfl) (by kernel_rfl) ?_)
              repeat (refine Da1 ?_)
              refine a_call (lendF (X1 ++ (X2 ++ X3)) fun h' l' i => l13Copy_f (M := M) h' _ p.scene ((sceneR τ).lent qs i) hs) (by rfl) (by rfl) (.inl rfl) ?_
              rintro _ _ ⟨AX, rfl, cs, rfl, q⟩
              obtain ⟨c2, l2, f2, Y1, Y2, Y3, rfl, rfl, ⟨k1, j1⟩, ⟨k2, j2⟩, k3⟩ := sceneO q
              have o7 := k1.one
              have o8 := k2.one
              have o9 := k3.one
              repeat (refine Da1 ?_)
              refine a_alloc (by rfl) (.inl rfl) fun b7 => ?_
              repeat (refine Da1 ?_)
              refine a_bs (by rfl) (by rfl) (by infer_instance) (by infer_instance) (by infer_instance) (by infer_instance) (by rfl) (by rfl) (by rfl) (by decide) (.inl rfl) fun ev AE ge => ?_
              have o10 := ge.one
              repeat (refine Da1 ?_)
              refine a_call (lendF AE fun h' l' i => l13Do_f (M := M) h' c2 l2 f2 ev Y1 Y2 Y3 p.scene w.edit k1 k2 k3 (ge.lent (by simp) i) hgk e6' (by rw [hll, picOf_len]; omega) (by rw [hfl, feetOf_len]; omega)) (by rfl) (by rfl) (.inl rfl) ?_
              rintro _ _ ⟨A5, rfl, w2, rfl, q5, ow⟩
              repeat (refine Da1 ?_)
              refine a_store (by rfl) (by rfl) (by rfl) (.inl rfl) ?_
              repeat (refine Da1 ?_)
              (refine a_end (by rfl) (by rfl) ?_; simp only [finA, setL, List.drop_succ_cons, List.drop_zero])
              repeat (first | refine R1 ?_ | (refine R2 ?_; intro _))
              exact sf_ret (rO A5 ⟨_, rfl, painterO_sc q5 _ _ _⟩)
            case' refine_4 =>
              refine (regX_runW _ [[], [0], [0, 1, 10], [], [3], [0, 1, 2, 3, 4, 10], [0, 1, 2, 3, 4, 5, 10], [0, 1, 2, 3, 4, 5, 6, 10], [0, 1, 2, 3, 4, 5, 6, 7, 10], [0, 1, 2, 3, 4, 5, 6, 7, 10], [], [0, 1, 2, 3, 4, 5, 6, 7, 8, 10], [0, 1, 2, 3, 4, 5, 6, 7, 8, 9, 10, 11]] 12 [(0, false), (1, false), (3, false), (4, false), (10, true), (2, true), (5, true), (6, true), (7, false), (8, false), (9, false), (11, true)] (by kernel_rfl) (by kernel_rfl) (by kernel_rfl) ?_)
              repeat (refine Da1 ?_)
              refine a_alloc (by rfl) (.inl rfl) fun b7 => ?_
              repeat (refine Da1 ?_)
              refine a_call (lendF (X1 ++ (X2 ++ X3)) fun h' l' i => l13Copy_f (M := M) h' _ p.scene ((sceneR τ).lent qs i) hs) (by rfl) (by rfl) (.inl rfl) ?_
              rintro _ _ ⟨AX, rfl, cs, rfl, q⟩
              obtain ⟨c2, l2, f2, Y1, Y2, Y3, rfl, rfl, ⟨k1, j1⟩, ⟨k2, j2⟩, k3⟩ := sceneO q
              have o7 := k1.one
              have o8 := k2.one
              have o9 := k3.one
              repeat (refine Da1 ?_)
              refine a_bs (by rfl) (by rfl) (by infer_instance) (by infer_instance) (by infer_instance) (by infer_instance) (by rfl) (by rfl) (by rfl) (by decide) (.inl rfl) fun ev AE ge => ?_
              have o10 := ge.one
              repeat (refine Da1 ?_)
              refine a_call (lendF AE fun h' l' i => l13Do_f (M := M) h' c2 l2 f2 ev Y1 Y2 Y3 p.scene w.edit k1 k2 k3 (ge.lent (by simp) i) hgk e6' (by rw [hll, picOf_len]; omega) (by rw [hfl, feetOf_len]; omega)) (by rfl) (by rfl) (.inl rfl) ?_
              rintro _ _ ⟨A5, rfl, w2, rfl, q5, ow⟩
              repeat (refine Da1 ?_)
              refine a_store (by rfl) (by rfl) (by rfl) (.inl rfl) ?_
              repeat (refine Da1 ?_)
              (refine a_end (by rfl) (by rfl) ?_; simp only [finA, setL, List.drop_succ_cons, List.drop_zero])
              repeat (first | refine R1 ?_ | (refine R2 ?_; intro _))
              exact sf_ret (rO A5 ⟨_, rfl, painterO_sc q5 _ _ _⟩)
            case' refine_5 =>
              refine (regX_runW _ [[], [0], [0, 1, 3, 4, 5], [], [3], [3, 4], [0, 1, 2, 3, 4, 5], [0, 1, 2, 3, 4, 5, 6], [0, 1, 2, 3, 4, 5, 6, 7], [0, 1, 2, 3, 4, 5, 6, 7], [0, 1, 2, 3, 4, 5, 6], [0, 1, 2, 3, 4, 5, 6, 7, 8, 10], [0, 1, 2, 3, 4, 5, 6, 7, 8, 9, 10, 11]] 12 [(0, false), (1, false), (3, false), (4, false), (5, true), (2, true), (6, true), (7, false), (8, false), (9, false), (10, true), (11, true)] (by kernel_rfl) (by kernel_rfl) (by kernel_rfl) ?_)
              repeat (refine Da1 ?_)
              refine a_bs (by rfl) (by rfl) (by infer_instance) (by infer_instance) (by infer_instance) (by infer_instance) (by rfl) (by rfl) (by rfl) (by decide) (.inl rfl) fun ev AE ge => ?_
              have o10 := ge.one
              repeat (refine Da1 ?_)
              refine a_call (lendF (X1 ++ (X2 ++ X3)) fun h' l' i => l13Copy_f (M := M) h' _ p.scene ((sceneR τ).lent qs i) hs) (by rfl) (by rfl) (.inl rfl) ?_
              rintro _ _ ⟨AX, rfl, cs, rfl, q⟩
              obtain ⟨c2, l2, f2, Y1, Y2, Y3, rfl, rfl, ⟨k1, j1⟩, ⟨k2, j2⟩, k3⟩ := sceneO q
              have o7 := k1.one
              have o8 := k2.one
              have o9 := k3.one
              repeat (refine Da1 ?_)
              refine a_call (lendF AE fun h' l' i => l13Do_f (M := M) h' c2 l2 f2 ev Y1 Y2 Y3 p.scene w.edit k1 k2 k3 (ge.lent (by simp) i) hgk e6' (by rw [hll, picOf_len]; omega) (by rw [hfl, feetOf_len]; omega)) (by rfl) (by rfl) (.inl rfl) ?_
              rintro _ _ ⟨A5, rfl, w2, rfl, q5, ow⟩
              repeat (refine Da1 ?_)
              refine a_alloc (by rfl) (.inl rfl) fun b7 => ?_
              repeat (refine Da1 ?_)
              refine a_store (by rfl) (by rfl) (by rfl) (.inl rfl) ?_
              repeat (refine Da1 ?_)
              (refine a_end (by rfl) (by rfl) ?_; simp only [finA, setL, List.drop_succ_cons, List.drop_zero])
              repeat (first | refine R1 ?_ | (refine R2 ?_; intro _))
              exact sf_ret (rO A5 ⟨_, rfl, painterO_sc q5 _ _ _⟩)
            case' refine_6 =>
              refine (regX_runW _ [[], [0], [0, 1, 3, 4, 5], [], [3], [3, 4], [0, 1, 2, 3, 4, 5, 10], [0, 1, 2, 3, 4, 5, 6, 10], [0, 1, 2, 3, 4, 5, 6, 7, 10], [0, 1, 2, 3, 4, 5, 6, 7, 10], [0, 1, 2, 3, 4, 5], [0, 1, 2, 3, 4, 5, 6, 7, 8, 10], [0, 1, 2, 3, 4, 5, 6, 7, 8, 9, 10, 11]] 12 [(0, false), (1, false), (3, false), (4, false), (5, true), (2, true), (10, true), (6, true), (7, false), (8, false), (9, false), (11, true)] (by kernel_rfl) (by kernel_rfl) (by kernel_rfl) ?_)
              repeat (refine Da1 ?_)
              refine a_bs (by rfl) (by rfl) (by infer_instance) (by infer_instance) (by infer_instance) (by infer_instance) (by rfl) (by rfl) (by rfl) (by decide) (.inl rfl) fun ev AE ge => ?_
              have o10 := ge.one
              repeat (refine Da1 ?_)
              refine a_call (lendF (X1 ++ (X2 ++ X3)) fun h' l' i => l13Copy_f (M := M) h' _ p.scene ((sceneR τ).lent qs i) hs) (by rfl) (by rfl) (.inl rfl) ?_
              rintro _ _ ⟨AX, rfl, cs, rfl, q⟩
              obtain ⟨c2, l2, f2, Y1, Y2, Y3, rfl, rfl, ⟨k1, j1⟩, ⟨k2, j2⟩, k3⟩ := sceneO q
              have o7 := k1.one
              have o8 := k2.one
              have o9 := k3.one
              repeat (refine Da1 ?_)
              refine a_alloc (by rfl) (.inl rfl) fun b7 => ?_
              repeat (refine Da1 ?_)
              refine a_call (lendF AE fun h' l' i => l13Do_f (M := M) h' c2 l2 f2 ev Y1 Y2 Y3 p.scene w.edit k1 k2 k3 (ge.lent (by simp) i) hgk e6' (by rw [hll, picOf_len]; omega) (by rw [hfl, feetOf_len]; omega)) (by rfl) (by rfl) (.inl rfl) ?_
              rintro _ _ ⟨A5, rfl, w2, rfl, q5, ow⟩
              repeat (refine Da1 ?_)
              refine a_store (by rfl) (by rfl) (by rfl) (.inl rfl) ?_
              repeat (refine Da1 ?_)
              (refine a_end (by rfl) (by rfl) ?_; simp only [finA, setL, List.drop_succ_cons, List.drop_zero])
              repeat (first | refine R1 ?_ | (refine R2 ?_; intro _))
              exact sf_ret (rO A5 ⟨_, rfl, painterO_sc q5 _ _ _⟩)
            case' refine_7 =>
              refine (regX_runW _ [[], [0], [0, 1, 3, 4, 5, 10], [], [3], [3, 4], [0, 1, 2, 3, 4, 5, 10], [0, 1, 2, 3, 4, 5, 6, 10], [0, 1, 2, 3, 4, 5, 6, 7, 10], [0, 1, 2, 3, 4, 5, 6, 7, 10], [3, 4, 5], [0, 1, 2, 3, 4, 5, 6, 7, 8, 10], [0, 1, 2, 3, 4, 5, 6, 7, 8, 9, 10, 11]] 12 [(0, false), (1, false), (3, false), (4, false), (5, true), (10, true), (2, true), (6, true), (7, false), (8, false), (9, false), (11, true)] (by kernel_rfl) (by kernel_rfl) (by kernel_rfl) ?_)
              repeat (refine Da1 ?_)
              refine a_bs (by rfl) (by rfl) (by infer_instance) (by infer_instance) (by infer_instance) (by infer_instance) (by rfl) (by rfl) (by rfl) (by decide) (.inl rfl) fun ev AE ge => ?_
              have o10 := ge.one
              repeat (refine Da1 ?_)
              refine a_alloc (by rfl) (.inl rfl) fun b7 => ?_
              repeat (refine Da1 ?_)
              refine a_call (lendF (X1 ++ (X2 ++ X3)) fun h' l' i => l13Copy_f (M := M) h' _ p.scene ((sceneR τ).lent qs i) hs) (by rfl) (by rfl) (.inl rfl) ?_
              rintro _ _ ⟨AX, rfl, cs, rfl, q⟩
              obtain ⟨c2, l2, f2, Y1, Y2, Y3, rfl, rfl, ⟨k1, j1⟩, ⟨k2, j2⟩, k3⟩ := sceneO q
              have o7 := k1.one
              have o8 := k2.one
              have o9 := k3.one
              repeat (refine Da1 ?_)
              refine a_call (lendF AE fun h' l' i => l13Do_f (M := M) h' c2 l2 f2 ev Y1 Y2 Y3 p.scene w.edit k1 k2 k3 (ge.lent (by simp) i) hgk e6' (by rw [hll, picOf_len]; omega) (by rw [hfl, feetOf_len]; omega)) (by rfl) (by rfl) (.inl rfl) ?_
              rintro _ _ ⟨A5, rfl, w2, rfl, q5, ow⟩
              repeat (refine Da1 ?_)
              refine a_store (by rfl) (by rfl) (by rfl) (.inl rfl) ?_
              repeat (refine Da1 ?_)
              (refine a_end (by rfl) (by rfl) ?_; simp only [finA, setL, List.drop_succ_cons, List.drop_zero])
              repeat (first | refine R1 ?_ | (refine R2 ?_; intro _))
              exact sf_ret (rO A5 ⟨_, rfl, painterO_sc q5 _ _ _⟩)
            case' refine_8 =>
              refine (regX_runW _ [[], [0], [0, 1, 3, 4, 5, 10], [], [3], [3, 4, 10], [0, 1, 2, 3, 4, 5, 10], [0, 1, 2, 3, 4, 5, 6, 10], [0, 1, 2, 3, 4, 5, 6, 7, 10], [0, 1, 2, 3, 4, 5, 6, 7, 10], [], [0, 1, 2, 3, 4, 5, 6, 7, 8, 10], [0, 1, 2, 3, 4, 5, 6, 7, 8, 9, 10, 11]] 12 [(0, false), (1, false), (3, false), (4, false), (10, true), (5, true), (2, true), (6, true), (7, false), (8, false), (9, false), (11, true)] (by kernel_rfl) (by kernel_rfl) (by kernel_rfl) ?_)
              repeat (refine Da1 ?_)
              refine a_alloc (by rfl) (.inl rfl) fun b7 => ?_
              repeat (refine Da1 ?_)
              refine a_bs (by rfl) (by rfl) (by infer_instance) (by infer_instance) (by infer_instance) (by infer_instance) (by rfl) (by rfl) (by rfl) (by decide) (.inl rfl) fun ev AE ge => ?_
              have o10 := ge.one
              repeat (refine Da1 ?_)
              refine a_call (lendF (X1 ++ (X2 ++ X3)) fun h' l' i => l13Copy_f (M := M) h' _ p.scene ((sceneR τ).lent qs i) hs) (by rfl) (by rfl) (.inl rfl) ?_
              rintro _ _ ⟨AX, rfl, cs, rfl, q⟩
              obtain ⟨c2, l2, f2, Y1, Y2, Y3, rfl, rfl, ⟨k1, j1⟩, ⟨k2, j2⟩, k3⟩ := sceneO q
              have o7 := k1.one
              have o8 := k2.one
              have o9 := k3.one
              repeat (refine Da1 ?_)
              refine a_call (lendF AE fun h' l' i => l13Do_f (M := M) h' c2 l2 f2 ev Y1 Y2 Y3 p.scene w.edit k1 k2 k3 (ge.lent (by simp) i) hgk e6' (by rw [hll, picOf_len]; omega) (by rw [hfl, feetOf_len]; omega)) (by rfl) (by rfl) (.inl rfl) ?_
              rintro _ _ ⟨A5, rfl, w2, rfl, q5, ow⟩
              repeat (refine Da1 ?_)
              refine a_store (by rfl) (by rfl) (by rfl) (.inl rfl) ?_
              repeat (refine Da1 ?_)
              (refine a_end (by rfl) (by rfl) ?_; simp only [finA, setL, List.drop_succ_cons, List.drop_zero])
              repeat (first | refine R1 ?_ | (refine R2 ?_; intro _))
              exact sf_ret (rO A5 ⟨_, rfl, painterO_sc q5 _ _ _⟩)
          · have e6' : ¬ editOk p.scene.grid w.edit = true := by simpa using e6
            repeat (first | refine R1 ?_ | (refine R2 ?_; intro _))
            rw [if_neg (fun z => e6' z.2.2.2)]
            exact sf_ret (rO (X1 ++ (X2 ++ X3)) ⟨_, rfl, qp⟩)
        · repeat (first | refine R1 ?_ | (refine R2 ?_; intro _))
          refine sf_cond (by rfl) (fun e6 => ?_) fun e6 => ?_
          · simp [e5] at e6
          repeat (first | refine R1 ?_ | (refine R2 ?_; intro _))
          rw [if_neg (fun z => e5 z.2.1)]
          exact sf_ret (rO (X1 ++ (X2 ++ X3)) ⟨_, rfl, qp⟩)
      · repeat (first | refine R1 ?_ | (refine R2 ?_; intro _))
        refine sf_cond (by rfl) (fun e6 => ?_) fun e6 => ?_
        · simp [e4] at e6
        repeat (first | refine R1 ?_ | (refine R2 ?_; intro _))
        rw [if_neg (fun z => by omega)]
        exact sf_ret (rO (X1 ++ (X2 ++ X3)) ⟨_, rfl, qp⟩)
    · repeat (first | refine R1 ?_ | (refine R2 ?_; intro _))
      refine sf_cond (by rfl) (fun e6 => ?_) fun e6 => ?_
      · simp [e3] at e6
      repeat (first | refine R1 ?_ | (refine R2 ?_; intro _))
      rw [if_neg (fun z => by rw [e3] at z; exact Bool.noConfusion z.1)]
      exact sf_ret (rO (X1 ++ (X2 ++ X3)) ⟨_, rfl, qp⟩)
  · repeat (first | refine R1 ?_ | (refine R2 ?_; intro _))
    rw [heard0 e1 e2]
    exact sf_ret (rO (X1 ++ (X2 ++ X3)) ⟨_, rfl, qp⟩)
theorem sPaintHear_f (h : PHeap) (ca cb : List Value) (p : Painter) (w : Word) (b : (painterR τ).B h ca p) (hs : szPainterN p ≤ 1048576) (bw : (wordR τ).B h cb w) : CallF Tryz.prog M 18 [.agg ca.toArray, .agg cb.toArray] [] h fun u A => ∃ cs, u = .agg cs.toArray ∧ (painterR τ).O A cs (paintHear p w) := by
  have b0 := b
  obtain ⟨c, l, f, rfl, s1, s2, s3⟩ := painterB b
  have o1 := s1.one
  have o2 := s2.one
  have o3 := s3.one
  have bw0 := bw
  obtain ⟨wc, wl, ecb, sw1, sw2⟩ := wordB bw
  have ecb' : cb = [.int .i64 w.kind, .int .i64 w.to, .int .i64 w.frm, .int .i64 w.ver, .int .i64 w.grid.wide, wc, .int .i64 w.edit.at', .int .i64 w.edit.cell.kind, .int .i64 w.edit.cell.light, wl] := ecb
  subst ecb'
  clear ecb bw
  have o4 := sw1.one
  have o5 := sw2.one
  refine calls_of_sf Tryz.func18 rfl Tryz.ntmps18 ?_
  simp only [argsL, Nat.reduceAdd]
  repeat (first | refine R1 ?_ | (refine R2 ?_; intro _))
  refine fp (y_callV (sPaintOk_v (M := M) _ _ p b0) (by rfl) ?_)
  repeat (first | refine R1 ?_ | (refine R2 ?_; intro _))
  refine sf_cond (by rfl) (fun e => ?_) fun e => ?_
  · have e' : ¬ paintOk p = true := by simpa using e
    repeat (first | refine R1 ?_ | (refine R2 ?_; intro _))
    rw [paintHear, if_neg e']
    exact sf_ret (rO [] ⟨_, rfl, painterO_mk (p := noPainter) (Gr.nil _ _) (by decide) (Gr.nil _ _) (by decide) GrR.nil⟩)
  have e' : paintOk p = true := by simpa using e
  rw [paintHear, if_pos e']
  repeat (first | refine R1 ?_ | (refine R2 ?_; intro _))
  refine sf_draw (by kernel_rfl) (regX_run [[], [0], [], [0, 1, 2], [0, 1, 2, 3]] 3 [(0, false), (2, false), (1, true)] (by kernel_rfl) (by kernel_rfl) (by kernel_rfl) ?_)
  repeat (refine Da1 ?_)
  refine a_call (l21Copy_f (M := M) _ _ p b0 hs) (by rfl) (by rfl) (.inl rfl) ?_
  rintro _ A1 ⟨cs, rfl, q⟩
  obtain ⟨c2, l2, f2, Y1, Y2, Y3, rfl, rfl, ⟨k1, j1⟩, ⟨k2, j2⟩, k3⟩ := painterO q
  have o6 := k1.one
  have o7 := k2.one
  have o8 := k3.one
  repeat (refine Da1 ?_)
  (refine a_end (by rfl) (by rfl) ?_; simp only [finA, setL, List.drop_succ_cons, List.drop_zero])
  refine fp (y_call (l21Hear_f (M := M) _ _ p w c2 l2 f2 Y1 Y2 Y3 k1 k2 k3 e' hs bw0) (by rfl) ?_)
  rintro _ A5 ⟨cs, rfl, q5⟩
  have q6 := q5
  obtain ⟨c3, l3, f3, Z1, Z2, Z3, rfl, rfl, ⟨i1, -⟩, ⟨i2, -⟩, i3⟩ := painterO q5
  have p1 := i1.one
  have p2 := i2.one
  have p3 := i3.one
  repeat (first | refine R1 ?_ | (refine R2 ?_; intro _))
  exact sf_ret (rO (Z1 ++ (Z2 ++ Z3)) ⟨_, rfl, q6⟩)
end Go.Proofs.YtekjikbaefgncaaGreat

/- Walks: a cell's copy. -/
namespace Go.Proofs.YtekjikbaefgncaaGreat
open Go Go.Sl
set_option maxRecDepth 100000
set_option maxHeartbeats 4000000
attribute [local irreducible] Go.Code.sf sfOps Opq opo retF Do1 anyO
variable {M : Jdg → Prop} [IsCl Tryz.prog M]
theorem toCell_v (h : PHeap) (a b : Int) : CallV Tryz.prog M 73 [.agg #[.int .i64 a, .int .i64 b]] h (.agg #[.int .i64 a, .int .i64 b]) := by
  refine calls_of_sf Tryz.func73 rfl Tryz.ntmps73 ?_
  simp only [argsL, Nat.reduceAdd]
  repeat (first | refine R1 ?_ | (refine R2 ?_; intro _))
  exact sf_ret (rV rfl)
end Go.Proofs.YtekjikbaefgncaaGreat

/- Walks of the laws' copies: toX. -/
namespace Go.Proofs.YtekjikbaefgncaaGreat
open Go Go.Sl
set_option maxRecDepth 100000
set_option maxHeartbeats 4000000
attribute [local irreducible] Go.Code.sf sfOps Opq opo retF Do1 anyO
variable {M : Jdg → Prop} [IsCl Tryz.prog M]
theorem toCellS_f (h : PHeap) (v : Value) (xs : List Cell) (s : Sl h v cellF xs) (hs : xs.length ≤ 1048576) : CallF Tryz.prog M 72 [v] [] h fun v' A => Gr A v' 44 cellF xs := by
  have o1 := s.one
  refine calls_of_sf Tryz.func72 rfl Tryz.ntmps72 ?_
  simp only [argsL, Nat.reduceAdd]
  repeat (first | refine R1 ?_ | (refine R2 ?_; intro _))
  refine fp (y_make (by rfl) (by rfl) (by rfl) (by decide) (by omega) fun w A g => ?_)
  repeat (first | refine R1 ?_ | (refine R2 ?_; intro _))
  refine sf_lp [0, 3] (fun k : Nat => [(4, .int .i64 (k : Int))]) (fun k O => k ≤ xs.length ∧ Gr O w 44 cellF (xs.take k ++ List.replicate (xs.length - k) ⟨0, 0⟩)) (fun k => xs.length - k) 0 A ⟨by omega, by simpa using g⟩ ?_
  rintro k O ⟨hk, g⟩
  repeat (first | refine R1 ?_ | (refine R2 ?_; intro _))
  refine sf_if (fun h4 => ?_) fun h4 => ?_
  · have hk4 : k < xs.length := by omega
    have hl : k < (xs.take k ++ List.replicate (xs.length - k) (⟨0, 0⟩ : Cell)).length := by simp; omega
    repeat (first | refine R1 ?_ | (refine R2 ?_; intro _))
    refine fp (y_callV (toCell_v _ _ _) (by rfl) ?_)
    repeat (first | refine R1 ?_ | (refine R2 ?_; intro _))
    refine fp (y_storeG0 (by rfl) (by rfl) g (by omega) (by rfl) fun A ys ey ly _ g => ?_)
    repeat (first | refine R1 ?_ | (refine R2 ?_; intro _))
    refine ⟨k + 1, by omega, ⟨rfl, trivial⟩, rfl, A, _, inferInstance, by omega, ?_⟩
    rw [← set_step hk4, ← ey]; exact g
  · refine sf_exit ?_
    repeat (first | refine R1 ?_ | (refine R2 ?_; intro _))
    refine sf_ret (rO O ?_)
    have : k = xs.length := by omega
    subst this
    simpa using g
end Go.Proofs.YtekjikbaefgncaaGreat

/- Walks of the exact laws' own helpers: equality. Printed by program. -/
namespace Go.Proofs.YtekjikbaefgncaaGreat
open Go Go.Sl
set_option maxRecDepth 100000
set_option maxHeartbeats 4000000
attribute [local irreducible] Go.Code.sf sfOps Opq opo retF Do1 anyO
variable {M : Jdg → Prop} [IsCl Tryz.prog M]
theorem eqCell_v (h : PHeap) (x y : Cell) : CallV Tryz.prog M 64 [.agg #[.int .i64 x.kind, .int .i64 x.light], .agg #[.int .i64 y.kind, .int .i64 y.light]] h (.bool (decide (x = y))) := by
  refine calls_of_sf Tryz.func64 rfl Tryz.ntmps64 ?_
  simp only [argsL, Nat.reduceAdd]
  repeat (first | refine R1 ?_ | (refine R2 ?_; intro _))
  refine sf_if (fun e1 => ?_) fun e1 => ?_
  · repeat (first | refine R1 ?_ | (refine R2 ?_; intro _))
    exact sf_ret (rV (bF fun e => e1 (by rw [e])))
  repeat (first | refine R1 ?_ | (refine R2 ?_; intro _))
  refine sf_if (fun e2 => ?_) fun e2 => ?_
  · repeat (first | refine R1 ?_ | (refine R2 ?_; intro _))
    exact sf_ret (rV (bF fun e => e2 (by rw [e])))
  repeat (first | refine R1 ?_ | (refine R2 ?_; intro _))
  refine sf_ret (rV (bT ?_))
  cases x; cases y; simp_all
theorem eqEdit_v (h : PHeap) (x y : Edit) : CallV Tryz.prog M 35 [.agg #[.int .i64 x.at', .int .i64 x.cell.kind, .int .i64 x.cell.light], .agg #[.int .i64 y.at', .int .i64 y.cell.kind, .int .i64 y.cell.light]] h (.bool (decide (x = y))) := by
  refine calls_of_sf Tryz.func35 rfl Tryz.ntmps35 ?_
  simp only [argsL, Nat.reduceAdd]
  repeat (first | refine R1 ?_ | (refine R2 ?_; intro _))
  refine sf_if (fun e1 => ?_) fun e1 => ?_
  · repeat (first | refine R1 ?_ | (refine R2 ?_; intro _))
    exact sf_ret (rV (bF fun e => e1 (by rw [e])))
  repeat (first | refine R1 ?_ | (refine R2 ?_; intro _))
  refine fp (y_callV (eqCell_v _ x.cell y.cell) (by rfl) ?_)
  repeat (first | refine R1 ?_ | (refine R2 ?_; intro _))
  refine sf_ifn (fun e2 => ?_) fun e2 => ?_
  · repeat (first | refine R1 ?_ | (refine R2 ?_; intro _))
    exact sf_ret (rV (bF fun e => e2 (by rw [e])))
  repeat (first | refine R1 ?_ | (refine R2 ?_; intro _))
  refine sf_ret (rV (bT ?_))
  cases x; cases y; simp_all
theorem eqIntS_v (h : PHeap) (a b : Value) (xs ys : List Int) (sx : Sl h a intF xs) (sy : Sl h b intF ys) : CallV Tryz.prog M 36 [a, b] h (.bool (decide (xs = ys))) := by
  have o1 := sx.one
  have o2 := sy.one
  have hx := sx.small
  have hy := sy.small
  refine calls_of_sf Tryz.func36 rfl Tryz.ntmps36 ?_
  simp only [argsL, Nat.reduceAdd]
  repeat (first | refine R1 ?_ | (refine R2 ?_; intro _))
  refine sf_if (fun e0 => ?_) fun e0 => ?_
  · repeat (first | refine R1 ?_ | (refine R2 ?_; intro _))
    exact sf_ret (rV (bF fun e => e0 (by rw [e])))
  have hl : xs.length = ys.length := by omega
  repeat (first | refine R1 ?_ | (refine R2 ?_; intro _))
  refine sf_rd [0, 1] 5 xs.length 0 (fun k => xs.take k = ys.take k) (by omega) rfl (fun k hk hi => ?_)
  repeat (first | refine R1 ?_ | (refine R2 ?_; intro _))
  refine sf_if (fun h4 => ?_) fun h4 => ?_
  · have hk4 : k < xs.length := by omega
    have hk5 : k < ys.length := by omega
    repeat (first | refine R1 ?_ | (refine R2 ?_; intro _))
    refine sf_draw (by kernel_rfl) (regX_run [[], [], [0, 1], [0, 1, 2], [], [], [4, 5], [4, 5, 6], [0, 1, 2, 3, 4, 5, 6, 7]] 8 [(0, false), (1, false), (2, false), (3, false), (4, false), (5, false), (6, false), (7, false)] (by kernel_rfl) (by kernel_rfl) (by kernel_rfl) ?_)
    repeat (refine Da1 ?_)
    (refine a_end (by rfl) (by rfl) ?_; simp only [finA, setL, List.drop_succ_cons, List.drop_zero])
    repeat (first | refine R1 ?_ | (refine R2 ?_; intro _))
    refine sf_if (fun e1 => ?_) fun e1 => ?_
    · repeat (first | refine R1 ?_ | (refine R2 ?_; intro _))
      exact sf_ret (rV (bF (eq_at e1)))
    · repeat (first | refine R1 ?_ | (refine R2 ?_; intro _))
      exact ⟨⟨hk4, eq_step hk4 hk5 hi (by simpa using e1)⟩, rfl, rfl, _, inferInstance⟩
  · refine sf_exit ?_
    repeat (first | refine R1 ?_ | (refine R2 ?_; intro _))
    exact sf_ret (rV (bT (eq_end hl (by omega) hi)))
theorem eqCellS_v (h : PHeap) (a b : Value) (xs ys : List Cell) (sx : Sl h a cellF xs) (sy : Sl h b cellF ys) : CallV Tryz.prog M 63 [a, b] h (.bool (decide (xs = ys))) := by
  have o1 := sx.one
  have o2 := sy.one
  have hx := sx.small
  have hy := sy.small
  refine calls_of_sf Tryz.func63 rfl Tryz.ntmps63 ?_
  simp only [argsL, Nat.reduceAdd]
  repeat (first | refine R1 ?_ | (refine R2 ?_; intro _))
  refine sf_if (fun e0 => ?_) fun e0 => ?_
  · repeat (first | refine R1 ?_ | (refine R2 ?_; intro _))
    exact sf_ret (rV (bF fun e => e0 (by rw [e])))
  have hl : xs.length = ys.length := by omega
  repeat (first | refine R1 ?_ | (refine R2 ?_; intro _))
  refine sf_rd [0, 1] 5 xs.length 0 (fun k => xs.take k = ys.take k) (by omega) rfl (fun k hk hi => ?_)
  repeat (first | refine R1 ?_ | (refine R2 ?_; intro _))
  refine sf_if (fun h4 => ?_) fun h4 => ?_
  · have hk4 : k < xs.length := by omega
    have hk5 : k < ys.length := by omega
    repeat (first | refine R1 ?_ | (refine R2 ?_; intro _))
    refine sf_draw (by kernel_rfl) (regX_run [[], [], [0, 1], [0, 1, 2], [], [], [4, 5], [4, 5, 6], [0, 1, 2, 3, 4, 5, 6, 7], [0, 1, 2, 3, 4, 5, 6, 7, 8]] 8 [(0, false), (1, false), (2, false), (3, false), (4, false), (5, false), (6, false), (7, false)] (by kernel_rfl) (by kernel_rfl) (by kernel_rfl) ?_)
    repeat (refine Da1 ?_)
    (refine a_end (by rfl) (by rfl) ?_; simp only [finA, setL, List.drop_succ_cons, List.drop_zero])
    refine fp (y_callV (eqCell_v _ (gt xs k) (gt ys k)) (by rfl) ?_)
    repeat (first | refine R1 ?_ | (refine R2 ?_; intro _))
    refine sf_ifn (fun e1 => ?_) fun e1 => ?_
    · repeat (first | refine R1 ?_ | (refine R2 ?_; intro _))
      exact sf_ret (rV (bF (eq_at e1)))
    · repeat (first | refine R1 ?_ | (refine R2 ?_; intro _))
      exact ⟨⟨hk4, eq_step hk4 hk5 hi (by exact e1)⟩, rfl, rfl, _, inferInstance⟩
  · refine sf_exit ?_
    repeat (first | refine R1 ?_ | (refine R2 ?_; intro _))
    exact sf_ret (rV (bT (eq_end hl (by omega) hi)))
theorem eqGrid_v (h : PHeap) (ca cb : List Value) (x y : Grid) (bx : (gridR τ).B h ca x) (by' : (gridR τ).B h cb y) : CallV Tryz.prog M 34 [.agg ca.toArray, .agg cb.toArray] h (.bool (decide (x = y))) := by
  obtain ⟨v_cells1, rfl, s_cells1⟩ := gridB bx
  have o_v_cells1 := s_cells1.one
  obtain ⟨v_cells2, rfl, s_cells2⟩ := gridB by'
  have o_v_cells2 := s_cells2.one
  refine calls_of_sf Tryz.func34 rfl Tryz.ntmps34 ?_
  simp only [argsL, Nat.reduceAdd]
  repeat (first | refine R1 ?_ | (refine R2 ?_; intro _))
  refine sf_if (fun e1 => ?_) fun e1 => ?_
  · repeat (first | refine R1 ?_ | (refine R2 ?_; intro _))
    exact sf_ret (rV (bF fun e => e1 (by rw [e])))
  repeat (first | refine R1 ?_ | (refine R2 ?_; intro _))
  refine fp (y_callV (eqCellS_v _ _ _ _ _ s_cells1 s_cells2) (by rfl) ?_)
  repeat (first | refine R1 ?_ | (refine R2 ?_; intro _))
  refine sf_ifn (fun e2 => ?_) fun e2 => ?_
  · repeat (first | refine R1 ?_ | (refine R2 ?_; intro _))
    exact sf_ret (rV (bF fun e => e2 (by rw [e])))
  repeat (first | refine R1 ?_ | (refine R2 ?_; intro _))
  refine sf_ret (rV (bT ?_))
  cases x; cases y; simp_all
end Go.Proofs.YtekjikbaefgncaaGreat

/- Walks of the exact laws' own helpers: equality, worlds. Printed by program. -/
namespace Go.Proofs.YtekjikbaefgncaaGreat
open Go Go.Sl
set_option maxRecDepth 100000
set_option maxHeartbeats 4000000
attribute [local irreducible] Go.Code.sf sfOps Opq opo retF Do1 anyO
variable {M : Jdg → Prop} [IsCl Tryz.prog M]
theorem eqIntSS_v (h : PHeap) (a b : Value) (xs ys : List (List Int)) (sx : SlR (intSR τ) h a xs) (sy : SlR (intSR τ) h b ys) : CallV Tryz.prog M 60 [a, b] h (.bool (decide (xs = ys))) := by
  have o1 := sx.one
  have o2 := sy.one
  obtain ⟨rx, sx, bx⟩ := sx
  obtain ⟨ry, sy, by'⟩ := sy
  have lx := bx.len
  have ly := by'.len
  have hx := sx.small
  have hy := sy.small
  refine calls_of_sf Tryz.func60 rfl Tryz.ntmps60 ?_
  simp only [argsL, Nat.reduceAdd]
  repeat (first | refine R1 ?_ | (refine R2 ?_; intro _))
  refine sf_if (fun e0 => ?_) fun e0 => ?_
  · repeat (first | refine R1 ?_ | (refine R2 ?_; intro _))
    exact sf_ret (rV (bF fun e => e0 (by rw [lx, ly, e])))
  have hl : xs.length = ys.length := by omega
  repeat (first | refine R1 ?_ | (refine R2 ?_; intro _))
  refine sf_rd [0, 1] 5 xs.length 0 (fun k => xs.take k = ys.take k) (by omega) rfl (fun k hk hi => ?_)
  repeat (first | refine R1 ?_ | (refine R2 ?_; intro _))
  refine sf_if (fun h4 => ?_) fun h4 => ?_
  · have hk4 : k < xs.length := by omega
    have hk5 : k < ys.length := by omega
    have bx4 := bx.at hk4
    have by4 := by'.at hk5
    have hk6 : k < rx.length := by omega
    have hk7 : k < ry.length := by omega
    obtain ⟨vx, ex, sx4⟩ := bx4
    obtain ⟨vy, ey, sy4⟩ := by4
    haveI : FlatV (rawF (intSR τ).sz) (gt rx k) [vx] := ⟨ex⟩
    haveI : FlatV (rawF (intSR τ).sz) (gt ry k) [vy] := ⟨ey⟩
    repeat (first | refine R1 ?_ | (refine R2 ?_; intro _))
    refine sf_draw (by kernel_rfl) (regX_run [[], [], [0, 1], [0, 1, 2], [], [], [4, 5], [4, 5, 6], [0, 1, 2, 3, 4, 5, 6, 7], [0, 1, 2, 3, 4, 5, 6, 7, 8]] 8 [(0, false), (1, false), (2, false), (3, false), (4, false), (5, false), (6, false), (7, false)] (by kernel_rfl) (by kernel_rfl) (by kernel_rfl) ?_)
    repeat (refine Da1 ?_)
    (refine a_end (by rfl) (by rfl) ?_; simp only [finA, setL, List.drop_succ_cons, List.drop_zero])
    refine fp (y_callV (eqIntS_v _ _ _ _ _ sx4 sy4) (by rfl) ?_)
    repeat (first | refine R1 ?_ | (refine R2 ?_; intro _))
    refine sf_ifn (fun e1 => ?_) fun e1 => ?_
    · repeat (first | refine R1 ?_ | (refine R2 ?_; intro _))
      exact sf_ret (rV (bF (eq_at e1)))
    · repeat (first | refine R1 ?_ | (refine R2 ?_; intro _))
      exact ⟨⟨hk4, eq_step hk4 hk5 hi (by exact e1)⟩, rfl, rfl, _, inferInstance⟩
  · refine sf_exit ?_
    repeat (first | refine R1 ?_ | (refine R2 ?_; intro _))
    exact sf_ret (rV (bT (eq_end hl (by omega) hi)))
theorem eqScene_v (h : PHeap) (ca cb : List Value) (x y : Scene) (bx : (sceneR τ).B h ca x) (by' : (sceneR τ).B h cb y) : CallV Tryz.prog M 29 [.agg ca.toArray, .agg cb.toArray] h (.bool (decide (x = y))) := by
  obtain ⟨v_grid_cells1, v_lights1, v_feet1, rfl, s_grid_cells1, s_lights1, s_feet1⟩ := sceneB bx
  have o_v_grid_cells1 := s_grid_cells1.one
  have o_v_lights1 := s_lights1.one
  have o_v_feet1 := s_feet1.one
  obtain ⟨v_grid_cells2, v_lights2, v_feet2, rfl, s_grid_cells2, s_lights2, s_feet2⟩ := sceneB by'
  have o_v_grid_cells2 := s_grid_cells2.one
  have o_v_lights2 := s_lights2.one
  have o_v_feet2 := s_feet2.one
  refine calls_of_sf Tryz.func29 rfl Tryz.ntmps29 ?_
  simp only [argsL, Nat.reduceAdd]
  repeat (first | refine R1 ?_ | (refine R2 ?_; intro _))
  refine fp (y_callV (eqGrid_v _ _ _ x.grid y.grid (gridB_mk s_grid_cells1) (gridB_mk s_grid_cells2)) (by rfl) ?_)
  repeat (first | refine R1 ?_ | (refine R2 ?_; intro _))
  refine sf_ifn (fun e1 => ?_) fun e1 => ?_
  · repeat (first | refine R1 ?_ | (refine R2 ?_; intro _))
    exact sf_ret (rV (bF fun e => e1 (by rw [e])))
  repeat (first | refine R1 ?_ | (refine R2 ?_; intro _))
  refine fp (y_callV (eqIntS_v _ _ _ _ _ s_lights1 s_lights2) (by rfl) ?_)
  repeat (first | refine R1 ?_ | (refine R2 ?_; intro _))
  refine sf_ifn (fun e2 => ?_) fun e2 => ?_
  · repeat (first | refine R1 ?_ | (refine R2 ?_; intro _))
    exact sf_ret (rV (bF fun e => e2 (by rw [e])))
  repeat (first | refine R1 ?_ | (refine R2 ?_; intro _))
  refine fp (y_callV (eqIntSS_v _ _ _ _ _ s_feet1 s_feet2) (by rfl) ?_)
  repeat (first | refine R1 ?_ | (refine R2 ?_; intro _))
  refine sf_ifn (fun e3 => ?_) fun e3 => ?_
  · repeat (first | refine R1 ?_ | (refine R2 ?_; intro _))
    exact sf_ret (rV (bF fun e => e3 (by rw [e])))
  repeat (first | refine R1 ?_ | (refine R2 ?_; intro _))
  refine sf_ret (rV (bT ?_))
  cases x; cases y; simp_all
theorem eqPainter_v (h : PHeap) (ca cb : List Value) (x y : Painter) (bx : (painterR τ).B h ca x) (by' : (painterR τ).B h cb y) : CallV Tryz.prog M 10 [.agg ca.toArray, .agg cb.toArray] h (.bool (decide (x = y))) := by
  obtain ⟨v_scene_grid_cells1, v_scene_lights1, v_scene_feet1, rfl, s_scene_grid_cells1, s_scene_lights1, s_scene_feet1⟩ := painterB bx
  have o_v_scene_grid_cells1 := s_scene_grid_cells1.one
  have o_v_scene_lights1 := s_scene_lights1.one
  have o_v_scene_feet1 := s_scene_feet1.one
  obtain ⟨v_scene_grid_cells2, v_scene_lights2, v_scene_feet2, rfl, s_scene_grid_cells2, s_scene_lights2, s_scene_feet2⟩ := painterB by'
  have o_v_scene_grid_cells2 := s_scene_grid_cells2.one
  have o_v_scene_lights2 := s_scene_lights2.one
  have o_v_scene_feet2 := s_scene_feet2.one
  refine calls_of_sf Tryz.func10 rfl Tryz.ntmps10 ?_
  simp only [argsL, Nat.reduceAdd]
  repeat (first | refine R1 ?_ | (refine R2 ?_; intro _))
  refine sf_ifn (fun e1 => ?_) fun e1 => ?_
  · repeat (first | refine R1 ?_ | (refine R2 ?_; intro _))
    exact sf_ret (rV (bF fun e => e1 (by rw [e])))
  repeat (first | refine R1 ?_ | (refine R2 ?_; intro _))
  refine sf_ifn (fun e2 => ?_) fun e2 => ?_
  · repeat (first | refine R1 ?_ | (refine R2 ?_; intro _))
    exact sf_ret (rV (bF fun e => e2 (by rw [e])))
  repeat (first | refine R1 ?_ | (refine R2 ?_; intro _))
  refine sf_if (fun e3 => ?_) fun e3 => ?_
  · repeat (first | refine R1 ?_ | (refine R2 ?_; intro _))
    exact sf_ret (rV (bF fun e => e3 (by rw [e])))
  repeat (first | refine R1 ?_ | (refine R2 ?_; intro _))
  refine fp (y_callV (eqScene_v _ _ _ x.scene y.scene (sceneB_mk s_scene_grid_cells1 s_scene_lights1 s_scene_feet1) (sceneB_mk s_scene_grid_cells2 s_scene_lights2 s_scene_feet2)) (by rfl) ?_)
  repeat (first | refine R1 ?_ | (refine R2 ?_; intro _))
  refine sf_ifn (fun e4 => ?_) fun e4 => ?_
  · repeat (first | refine R1 ?_ | (refine R2 ?_; intro _))
    exact sf_ret (rV (bF fun e => e4 (by rw [e])))
  repeat (first | refine R1 ?_ | (refine R2 ?_; intro _))
  refine sf_ret (rV (bT ?_))
  cases x; cases y; simp_all
theorem eqWord_v (h : PHeap) (ca cb : List Value) (x y : Word) (bx : (wordR τ).B h ca x) (by' : (wordR τ).B h cb y) : CallV Tryz.prog M 13 [.agg ca.toArray, .agg cb.toArray] h (.bool (decide (x = y))) := by
  obtain ⟨v_grid_cells1, v_lights1, rfl, s_grid_cells1, s_lights1⟩ := wordB bx
  have o_v_grid_cells1 := s_grid_cells1.one
  have o_v_lights1 := s_lights1.one
  obtain ⟨v_grid_cells2, v_lights2, rfl, s_grid_cells2, s_lights2⟩ := wordB by'
  have o_v_grid_cells2 := s_grid_cells2.one
  have o_v_lights2 := s_lights2.one
  refine calls_of_sf Tryz.func13 rfl Tryz.ntmps13 ?_
  simp only [argsL, Nat.reduceAdd]
  repeat (first | refine R1 ?_ | (refine R2 ?_; intro _))
  refine sf_if (fun e1 => ?_) fun e1 => ?_
  · repeat (first | refine R1 ?_ | (refine R2 ?_; intro _))
    exact sf_ret (rV (bF fun e => e1 (by rw [e])))
  repeat (first | refine R1 ?_ | (refine R2 ?_; intro _))
  refine sf_if (fun e2 => ?_) fun e2 => ?_
  · repeat (first | refine R1 ?_ | (refine R2 ?_; intro _))
    exact sf_ret (rV (bF fun e => e2 (by rw [e])))
  repeat (first | refine R1 ?_ | (refine R2 ?_; intro _))
  refine sf_if (fun e3 => ?_) fun e3 => ?_
  · repeat (first | refine R1 ?_ | (refine R2 ?_; intro _))
    exact sf_ret (rV (bF fun e => e3 (by rw [e])))
  repeat (first | refine R1 ?_ | (refine R2 ?_; intro _))
  refine sf_if (fun e4 => ?_) fun e4 => ?_
  · repeat (first | refine R1 ?_ | (refine R2 ?_; intro _))
    exact sf_ret (rV (bF fun e => e4 (by rw [e])))
  repeat (first | refine R1 ?_ | (refine R2 ?_; intro _))
  refine fp (y_callV (eqGrid_v _ _ _ x.grid y.grid (gridB_mk s_grid_cells1) (gridB_mk s_grid_cells2)) (by rfl) ?_)
  repeat (first | refine R1 ?_ | (refine R2 ?_; intro _))
  refine sf_ifn (fun e5 => ?_) fun e5 => ?_
  · repeat (first | refine R1 ?_ | (refine R2 ?_; intro _))
    exact sf_ret (rV (bF fun e => e5 (by rw [e])))
  repeat (first | refine R1 ?_ | (refine R2 ?_; intro _))
  refine fp (y_callV (eqEdit_v _ x.edit y.edit) (by rfl) ?_)
  repeat (first | refine R1 ?_ | (refine R2 ?_; intro _))
  refine sf_ifn (fun e6 => ?_) fun e6 => ?_
  · repeat (first | refine R1 ?_ | (refine R2 ?_; intro _))
    exact sf_ret (rV (bF fun e => e6 (by rw [e])))
  repeat (first | refine R1 ?_ | (refine R2 ?_; intro _))
  refine fp (y_callV (eqIntS_v _ _ _ _ _ s_lights1 s_lights2) (by rfl) ?_)
  repeat (first | refine R1 ?_ | (refine R2 ?_; intro _))
  refine sf_ifn (fun e7 => ?_) fun e7 => ?_
  · repeat (first | refine R1 ?_ | (refine R2 ?_; intro _))
    exact sf_ret (rV (bF fun e => e7 (by rw [e])))
  repeat (first | refine R1 ?_ | (refine R2 ?_; intro _))
  refine sf_ret (rV (bT ?_))
  cases x; cases y; simp_all
end Go.Proofs.YtekjikbaefgncaaGreat

/- Walks of the exact laws' own helpers: sizes. Printed by program. -/
namespace Go.Proofs.YtekjikbaefgncaaGreat
open Go Go.Sl
set_option maxRecDepth 100000
set_option maxHeartbeats 4000000
attribute [local irreducible] Go.Code.sf sfOps Opq opo retF Do1 anyO
variable {M : Jdg → Prop} [IsCl Tryz.prog M]
attribute [local irreducible] szF
theorem szCellS_v (h : PHeap) (a : Value) (xs : List Cell) (s : Sl h a cellF xs) (left : Int) (h0 : 0 ≤ left) (h1 : left ≤ 1048576) : CallV Tryz.prog M 68 [a, .int .i64 left] h (.int .i64 (szF xs.length left)) := by
  have o1 := s.one
  have hs := s.small
  refine calls_of_sf Tryz.func68 rfl Tryz.ntmps68 ?_
  simp only [argsL, Nat.reduceAdd]
  repeat (first | refine R1 ?_ | (refine R2 ?_; intro _))
  refine sf_if (fun e => ?_) fun e => ?_
  · repeat (first | refine R1 ?_ | (refine R2 ?_; intro _))
    exact sf_ret (rV (by rw [szF_neg e]))
  · repeat (first | refine R1 ?_ | (refine R2 ?_; intro _))
    exact sf_ret (rV (by rw [szF_pos e]))
theorem szGrid_v (h : PHeap) (ca : List Value) (x : Grid) (b : (gridR τ).B h ca x) (left : Int) (h0 : 0 ≤ left) (h1 : left ≤ 1048576) : CallV Tryz.prog M 42 [.agg ca.toArray, .int .i64 left] h (.int .i64 (szF (szGridN x) left)) := by
  obtain ⟨v_cells1, rfl, s_cells1⟩ := gridB b
  have o_v_cells1 := s_cells1.one
  refine calls_of_sf Tryz.func42 rfl Tryz.ntmps42 ?_
  simp only [argsL, Nat.reduceAdd]
  repeat (first | refine R1 ?_ | (refine R2 ?_; intro _))
  refine fp (y_callV (szCellS_v _ _ _ s_cells1 _ h0 h1) (by rfl) ?_)
  repeat (first | refine R1 ?_ | (refine R2 ?_; intro _))
  refine sf_if (fun e1 => ?_) fun e1 => ?_
  · repeat (first | refine R1 ?_ | (refine R2 ?_; intro _))
    refine sf_ret (rV ?_)
    have q := szF_stop (b := 0) e1
    simp only [szGridN, szGridN, szSceneN, Nat.add_assoc, Nat.add_zero] at q ⊢
    rw [q]
  have g1 := szF_ge e1
  have f1 := szF_le (a := x.cells.length) h0
  have b1a : 0 ≤ szF (x.cells.length) (left) := by omega
  have b1b : szF (x.cells.length) (left) ≤ 1048576 := by omega
  repeat (first | refine R1 ?_ | (refine R2 ?_; intro _))
  refine sf_ret (rV ?_)
  first | rfl | simp only [szGridN, szGridN, szSceneN, Nat.add_assoc]
end Go.Proofs.YtekjikbaefgncaaGreat

/- Walks of the exact laws' own helpers: sizes, keepers. Printed by program. -/
namespace Go.Proofs.YtekjikbaefgncaaGreat
open Go Go.Sl
set_option maxRecDepth 100000
set_option maxHeartbeats 4000000
attribute [local irreducible] Go.Code.sf sfOps Opq opo retF Do1 anyO
variable {M : Jdg → Prop} [IsCl Tryz.prog M]
attribute [local irreducible] szF
theorem szIntS_v (h : PHeap) (a : Value) (xs : List Int) (s : Sl h a intF xs) (left : Int) (h0 : 0 ≤ left) (h1 : left ≤ 1048576) : CallV Tryz.prog M 43 [a, .int .i64 left] h (.int .i64 (szF xs.length left)) := by
  have o1 := s.one
  have hs := s.small
  refine calls_of_sf Tryz.func43 rfl Tryz.ntmps43 ?_
  simp only [argsL, Nat.reduceAdd]
  repeat (first | refine R1 ?_ | (refine R2 ?_; intro _))
  refine sf_if (fun e => ?_) fun e => ?_
  · repeat (first | refine R1 ?_ | (refine R2 ?_; intro _))
    exact sf_ret (rV (by rw [szF_neg e]))
  · repeat (first | refine R1 ?_ | (refine R2 ?_; intro _))
    exact sf_ret (rV (by rw [szF_pos e]))
end Go.Proofs.YtekjikbaefgncaaGreat

/- Walks of the exact laws' own helpers: sizes, painters. Printed by program. -/
namespace Go.Proofs.YtekjikbaefgncaaGreat
open Go Go.Sl
set_option maxRecDepth 100000
set_option maxHeartbeats 4000000
attribute [local irreducible] Go.Code.sf sfOps Opq opo retF Do1 anyO
variable {M : Jdg → Prop} [IsCl Tryz.prog M]
attribute [local irreducible] szF
theorem szIntSS_v (h : PHeap) (a : Value) (xs : List (List Int)) (s : SlR (intSR τ) h a xs) (left : Int) (h0 : 0 ≤ left) (h1 : left ≤ 1048576) : CallV Tryz.prog M 51 [a, .int .i64 left] h (.int .i64 (szF (szIntSSN xs) left)) := by
  have o1 := s.one
  obtain ⟨rx, s, b⟩ := s
  have lx := b.len
  have hs := s.small
  refine calls_of_sf Tryz.func51 rfl Tryz.ntmps51 ?_
  simp only [argsL, Nat.reduceAdd]
  repeat (first | refine R1 ?_ | (refine R2 ?_; intro _))
  refine sf_if (fun e => ?_) fun e => ?_
  · repeat (first | refine R1 ?_ | (refine R2 ?_; intro _))
    exact sf_ret (rV (by rw [szIntSSN, szF_stop (a := xs.length) (by rw [← lx, szF_neg e]; decide)]))
  repeat (first | refine R1 ?_ | (refine R2 ?_; intro _))
  refine sf_lp (ι := Nat × Int) [0] (fun x => [(5, .int .i64 (x.1 : Int)), (1, .int .i64 x.2)]) (fun x O => O = [] ∧ x.1 ≤ xs.length ∧ 0 ≤ x.2 ∧ x.2 ≤ 1048576 ∧ szF (szIntSSN xs) left = szF (sizeL List.length (xs.drop x.1)) x.2) (fun x => xs.length - x.1) (0, left - rx.length) [] ⟨rfl, by simp, by simp only; omega, by simp only; omega, ?_⟩ ?_
  · simp only [szIntSSN, List.drop_zero]
    rw [← szF_add (by rw [← lx, szF_pos e]; omega), ← lx, szF_pos e]
  rintro ⟨i, l⟩ O ⟨rfl, hi, hl0, hl1, hinv⟩
  repeat (first | refine R1 ?_ | (refine R2 ?_; intro _))
  refine sf_if (fun h4 => ?_) fun h4 => ?_
  · have hi4 : i < xs.length := by simp only at h4 hi; omega
    have hi5 : i < rx.length := by omega
    have b4 := b.at hi4
    simp only at hinv hl0 hl1
    rw [sizeL_drop hi4] at hinv
    obtain ⟨vx, ex, sx4⟩ := b4
    haveI : FlatV (rawF (intSR τ).sz) (gt rx i) [vx] := ⟨ex⟩
    repeat (first | refine R1 ?_ | (refine R2 ?_; intro _))
    refine fp (y_callV (szIntS_v _ _ _ sx4 _ hl0 hl1) (by rfl) ?_)
    repeat (first | refine R1 ?_ | (refine R2 ?_; intro _))
    have hle := szF_le (a := List.length (gt xs i)) hl0
    refine sf_if (fun e1 => ?_) fun e1 => ?_
    · repeat (first | refine R1 ?_ | (refine R2 ?_; intro _))
      exact sf_ret (rV (by rw [hinv, szF_stop e1]))
    · repeat (first | refine R1 ?_ | (refine R2 ?_; intro _))
      refine ⟨(i + 1, _), by simp only; omega, ⟨rfl, rfl, trivial⟩, rfl, [], _, inferInstance, rfl, by simp only; omega, by simp only; omega, by simp only; omega, ?_⟩
      simp only
      rw [hinv, szF_add e1]
  · refine sf_exit ?_
    repeat (first | refine R1 ?_ | (refine R2 ?_; intro _))
    refine sf_ret (rV ?_)
    have : i = xs.length := by simp only at h4 hi; omega
    simp only at hinv hl0
    rw [hinv, this, List.drop_length]
    simp only [sizeL]
    rw [szF_pos (by simp; omega)]; simp
theorem szScene_v (h : PHeap) (ca : List Value) (x : Scene) (b : (sceneR τ).B h ca x) (left : Int) (h0 : 0 ≤ left) (h1 : left ≤ 1048576) : CallV Tryz.prog M 22 [.agg ca.toArray, .int .i64 left] h (.int .i64 (szF (szSceneN x) left)) := by
  obtain ⟨v_grid_cells1, v_lights1, v_feet1, rfl, s_grid_cells1, s_lights1, s_feet1⟩ := sceneB b
  have o_v_grid_cells1 := s_grid_cells1.one
  have o_v_lights1 := s_lights1.one
  have o_v_feet1 := s_feet1.one
  refine calls_of_sf Tryz.func22 rfl Tryz.ntmps22 ?_
  simp only [argsL, Nat.reduceAdd]
  repeat (first | refine R1 ?_ | (refine R2 ?_; intro _))
  refine fp (y_callV (szGrid_v _ _ x.grid (gridB_mk s_grid_cells1) _ h0 h1) (by rfl) ?_)
  repeat (first | refine R1 ?_ | (refine R2 ?_; intro _))
  refine sf_if (fun e1 => ?_) fun e1 => ?_
  · repeat (first | refine R1 ?_ | (refine R2 ?_; intro _))
    refine sf_ret (rV ?_)
    have q := szF_stop (b := x.lights.length + (szIntSSN x.feet)) e1
    simp only [szSceneN, szGridN, szSceneN, Nat.add_assoc, Nat.add_zero] at q ⊢
    rw [q]
  have g1 := szF_ge e1
  have f1 := szF_le (a := szGridN x.grid) h0
  have b1a : 0 ≤ szF (szGridN x.grid) (left) := by omega
  have b1b : szF (szGridN x.grid) (left) ≤ 1048576 := by omega
  repeat (first | refine R1 ?_ | (refine R2 ?_; intro _))
  refine fp (y_callV (szIntS_v _ _ _ s_lights1 _ b1a b1b) (by rfl) ?_)
  repeat (first | refine R1 ?_ | (refine R2 ?_; intro _))
  refine sf_if (fun e2 => ?_) fun e2 => ?_
  · repeat (first | refine R1 ?_ | (refine R2 ?_; intro _))
    refine sf_ret (rV ?_)
    have q := szF_stop (b := szIntSSN x.feet) e2
    rw [szF_add e1] at q
    simp only [szSceneN, szGridN, szSceneN, Nat.add_assoc, Nat.add_zero] at q ⊢
    rw [q]
  have g2 := szF_ge e2
  have f2 := szF_le (a := x.lights.length) b1a
  have b2a : 0 ≤ szF (x.lights.length) (szF (szGridN x.grid) (left)) := by omega
  have b2b : szF (x.lights.length) (szF (szGridN x.grid) (left)) ≤ 1048576 := by omega
  repeat (first | refine R1 ?_ | (refine R2 ?_; intro _))
  refine fp (y_callV (szIntSS_v _ _ _ s_feet1 _ b2a b2b) (by rfl) ?_)
  repeat (first | refine R1 ?_ | (refine R2 ?_; intro _))
  refine sf_if (fun e3 => ?_) fun e3 => ?_
  · repeat (first | refine R1 ?_ | (refine R2 ?_; intro _))
    refine sf_ret (rV ?_)
    have q := szF_stop (b := 0) e3
    rw [szF_add e2] at q
    rw [szF_add e1] at q
    simp only [szSceneN, szGridN, szSceneN, Nat.add_assoc, Nat.add_zero] at q ⊢
    rw [q]
  have g3 := szF_ge e3
  have f3 := szF_le (a := szIntSSN x.feet) b2a
  have b3a : 0 ≤ szF (szIntSSN x.feet) (szF (x.lights.length) (szF (szGridN x.grid) (left))) := by omega
  have b3b : szF (szIntSSN x.feet) (szF (x.lights.length) (szF (szGridN x.grid) (left))) ≤ 1048576 := by omega
  repeat (first | refine R1 ?_ | (refine R2 ?_; intro _))
  refine sf_ret (rV ?_)
  rw [szF_add e2, szF_add e1]
  first | rfl | simp only [szSceneN, szGridN, szSceneN, Nat.add_assoc]
theorem szPainter_v (h : PHeap) (ca : List Value) (x : Painter) (b : (painterR τ).B h ca x) (left : Int) (h0 : 0 ≤ left) (h1 : left ≤ 1048576) : CallV Tryz.prog M 6 [.agg ca.toArray, .int .i64 left] h (.int .i64 (szF (szPainterN x) left)) := by
  obtain ⟨v_scene_grid_cells1, v_scene_lights1, v_scene_feet1, rfl, s_scene_grid_cells1, s_scene_lights1, s_scene_feet1⟩ := painterB b
  have o_v_scene_grid_cells1 := s_scene_grid_cells1.one
  have o_v_scene_lights1 := s_scene_lights1.one
  have o_v_scene_feet1 := s_scene_feet1.one
  refine calls_of_sf Tryz.func6 rfl Tryz.ntmps6 ?_
  simp only [argsL, Nat.reduceAdd]
  repeat (first | refine R1 ?_ | (refine R2 ?_; intro _))
  refine fp (y_callV (szScene_v _ _ x.scene (sceneB_mk s_scene_grid_cells1 s_scene_lights1 s_scene_feet1) _ h0 h1) (by rfl) ?_)
  repeat (first | refine R1 ?_ | (refine R2 ?_; intro _))
  refine sf_if (fun e1 => ?_) fun e1 => ?_
  · repeat (first | refine R1 ?_ | (refine R2 ?_; intro _))
    refine sf_ret (rV ?_)
    have q := szF_stop (b := 0) e1
    simp only [szPainterN, szGridN, szSceneN, Nat.add_assoc, Nat.add_zero] at q ⊢
    rw [q]
  have g1 := szF_ge e1
  have f1 := szF_le (a := szSceneN x.scene) h0
  have b1a : 0 ≤ szF (szSceneN x.scene) (left) := by omega
  have b1b : szF (szSceneN x.scene) (left) ≤ 1048576 := by omega
  repeat (first | refine R1 ?_ | (refine R2 ?_; intro _))
  refine sf_ret (rV ?_)
  first | rfl | simp only [szPainterN, szGridN, szSceneN, Nat.add_assoc]
end Go.Proofs.YtekjikbaefgncaaGreat

/- Walks of the exact laws' own helpers: copies. Printed by program. -/
namespace Go.Proofs.YtekjikbaefgncaaGreat
open Go Go.Sl
set_option maxRecDepth 100000
set_option maxHeartbeats 4000000
attribute [local irreducible] Go.Code.sf sfOps Opq opo retF Do1 anyO
variable {M : Jdg → Prop} [IsCl Tryz.prog M]
theorem toGrid_f (h : PHeap) (ca : List Value) (x : Grid) (b : (gridR τ).B h ca x) (hs : szGridN x ≤ 1048576) : CallF Tryz.prog M 46 [.agg ca.toArray] [] h fun v A => ∃ cs, v = .agg cs.toArray ∧ (gridR τ).O A cs x := by
  obtain ⟨v_cells1, rfl, s_cells1⟩ := gridB b
  have o_v_cells1 := s_cells1.one
  have hz : szGridN x = x.cells.length := rfl
  refine calls_of_sf Tryz.func46 rfl Tryz.ntmps46 ?_
  simp only [argsL, Nat.reduceAdd]
  repeat (first | refine R1 ?_ | (refine R2 ?_; intro _))
  refine fp (y_call (toCellS_f _ _ _ s_cells1 (by omega)) (by rfl) fun w1 K1 g1 => ?_)
  have o1 := g1.one
  repeat (first | refine R1 ?_ | (refine R2 ?_; intro _))
  exact sf_ret (rO K1 ⟨_, rfl, gridO_mk g1 (by omega)⟩)
end Go.Proofs.YtekjikbaefgncaaGreat

/- Walks of the exact laws' own helpers: copies, keepers. Printed by program. -/
namespace Go.Proofs.YtekjikbaefgncaaGreat
open Go Go.Sl
set_option maxRecDepth 100000
set_option maxHeartbeats 4000000
attribute [local irreducible] Go.Code.sf sfOps Opq opo retF Do1 anyO
variable {M : Jdg → Prop} [IsCl Tryz.prog M]
theorem toIntS_f (h : PHeap) (v : Value) (xs : List Int) (s : Sl h v intF xs) (hs : xs.length ≤ 1048576) : CallF Tryz.prog M 48 [v] [] h fun v' A => Gr A v' 3 intF xs := by
  have o1 := s.one
  refine calls_of_sf Tryz.func48 rfl Tryz.ntmps48 ?_
  simp only [argsL, Nat.reduceAdd]
  repeat (first | refine R1 ?_ | (refine R2 ?_; intro _))
  refine fp (y_make (by rfl) (by rfl) (by rfl) (by decide) (by omega) fun w A g => ?_)
  repeat (first | refine R1 ?_ | (refine R2 ?_; intro _))
  refine sf_lp [0, 3] (fun k : Nat => [(4, .int .i64 (k : Int))]) (fun k O => k ≤ xs.length ∧ Gr O w 3 intF (xs.take k ++ List.replicate (xs.length - k) 0)) (fun k => xs.length - k) 0 A ⟨by omega, by simpa using g⟩ ?_
  rintro k O ⟨hk, g⟩
  repeat (first | refine R1 ?_ | (refine R2 ?_; intro _))
  refine sf_if (fun h4 => ?_) fun h4 => ?_
  · have hk4 : k < xs.length := by omega
    have hl : k < (xs.take k ++ List.replicate (xs.length - k) (0 : Int)).length := by simp; omega
    repeat (first | refine R1 ?_ | (refine R2 ?_; intro _))
    refine fp (y_storeG0 (by rfl) (by rfl) g (by omega) (by rfl) fun A ys ey ly _ g => ?_)
    repeat (first | refine R1 ?_ | (refine R2 ?_; intro _))
    refine ⟨k + 1, by omega, ⟨rfl, trivial⟩, rfl, A, _, inferInstance, by omega, ?_⟩
    rw [← set_step hk4]; first | exact ey ▸ g | (rw [ey] at g; exact g)
  · refine sf_exit ?_
    repeat (first | refine R1 ?_ | (refine R2 ?_; intro _))
    refine sf_ret (rO O ?_)
    have : k = xs.length := by omega
    subst this
    simpa using g
theorem toEdit_v (h : PHeap) (x : Edit) : CallV Tryz.prog M 47 [.agg #[.int .i64 x.at', .int .i64 x.cell.kind, .int .i64 x.cell.light]] h (.agg #[.int .i64 x.at', .int .i64 x.cell.kind, .int .i64 x.cell.light]) := by
  refine calls_of_sf Tryz.func47 rfl Tryz.ntmps47 ?_
  simp only [argsL, Nat.reduceAdd]
  repeat (first | refine R1 ?_ | (refine R2 ?_; intro _))
  refine fp (y_callV (toCell_v _ _ _) (by rfl) ?_)
  repeat (first | refine R1 ?_ | (refine R2 ?_; intro _))
  exact sf_ret (rV rfl)
end Go.Proofs.YtekjikbaefgncaaGreat

/- Walks of the exact laws' own helpers: copies, painters. Printed by program. -/
namespace Go.Proofs.YtekjikbaefgncaaGreat
open Go Go.Sl
set_option maxRecDepth 100000
set_option maxHeartbeats 4000000
attribute [local irreducible] Go.Code.sf sfOps Opq opo retF Do1 anyO
variable {M : Jdg → Prop} [IsCl Tryz.prog M]
instance elemF_ints_XtP : ElemF Tryz.prog 25 (rawF (intSR τ).sz) := ⟨trivial⟩
theorem toIntSS_f (h : PHeap) (v : Value) (xs : List (List Int)) (s : SlR (intSR τ) h v xs) (hs : szIntSSN xs ≤ 1048576) : CallF Tryz.prog M 54 [v] [] h fun v' A => GrR (intSR τ) A v' 25 xs := by
  have o1 := s.one
  obtain ⟨rx, s, b⟩ := s
  have lx := b.len
  have hz : szIntSSN xs = xs.length + sizeL List.length xs := rfl
  refine calls_of_sf Tryz.func54 rfl Tryz.ntmps54 ?_
  simp only [argsL, Nat.reduceAdd]
  repeat (first | refine R1 ?_ | (refine R2 ?_; intro _))
  refine fp (y_make (by rfl) (by rfl) (by rfl) (by decide) (by omega) fun w A g => ?_)
  repeat (first | refine R1 ?_ | (refine R2 ?_; intro _))
  refine sf_lp [0, 3] (fun k : Nat => [(4, .int .i64 (k : Int))]) (fun k O => k ≤ xs.length ∧ ∃ A0 A1 rs, O = A0 ++ A1 ∧ rs.length = k ∧ Gr A0 w 25 (rawF (intSR τ).sz) (rs ++ List.replicate (xs.length - k) ⟨[.slice none 0 0], rfl⟩) ∧ OAll (intSR τ) A1 rs (xs.take k)) (fun k => xs.length - k) 0 A ⟨by omega, A, [], [], by simp, rfl, by simpa [lx] using g, by simpa using OAll.nil⟩ ?_
  clear g A
  rintro k O ⟨hk, A0, A1, rs, rfl, hr, g, oa⟩
  repeat (first | refine R1 ?_ | (refine R2 ?_; intro _))
  refine sf_if (fun h4 => ?_) fun h4 => ?_
  · have hk4 : k < xs.length := by omega
    have hk5 : k < rx.length := by omega
    have b4 := b.at hk4
    have hsz := sizeL_at (f := List.length) hk4
    have hl : k < (rs ++ List.replicate (xs.length - k) (⟨[.slice none 0 0], rfl⟩ : Raw (intSR τ).sz)).length := by simp; omega
    obtain ⟨vx, ex, sx4⟩ := b4
    haveI : FlatV (rawF (intSR τ).sz) (gt rx k) [vx] := ⟨ex⟩
    repeat (first | refine R1 ?_ | (refine R2 ?_; intro _))
    refine fp (y_call (toIntS_f _ _ _ sx4 (by omega)) (by rfl) fun u K gu => ?_)
    have ou := gu.one
    repeat (first | refine R1 ?_ | (refine R2 ?_; intro _))
    refine fp (y_storeG0 (by rfl) (by rfl) g (by omega) (by rfl) fun A2 ys ey ly _ g2 => ?_)
    repeat (first | refine R1 ?_ | (refine R2 ?_; intro _))
    refine ⟨k + 1, by omega, ⟨rfl, trivial⟩, rfl, A2 ++ (A1 ++ K), _, inferInstance, by omega, A2, A1 ++ K, rs ++ [⟨[u], rfl⟩], rfl, by simp [hr], ?_, ?_⟩
    · rw [← raw_step hr hk4]; first | exact ey ▸ g2 | (rw [ey] at g2; exact g2)
    · rw [take_succ_gt hk4]; exact oa.snoc ⟨u, rfl, gu, by omega⟩
  · refine sf_exit ?_
    repeat (first | refine R1 ?_ | (refine R2 ?_; intro _))
    have : k = xs.length := by omega
    subst this
    refine sf_ret (rO (A0 ++ A1) ⟨A0, A1, rfl, rs, by simpa using g, by simpa using oa, by omega⟩)
theorem toScene_f (h : PHeap) (ca : List Value) (x : Scene) (b : (sceneR τ).B h ca x) (hs : szSceneN x ≤ 1048576) : CallF Tryz.prog M 26 [.agg ca.toArray] [] h fun v A => ∃ cs, v = .agg cs.toArray ∧ (sceneR τ).O A cs x := by
  obtain ⟨v_grid_cells1, v_lights1, v_feet1, rfl, s_grid_cells1, s_lights1, s_feet1⟩ := sceneB b
  have o_v_grid_cells1 := s_grid_cells1.one
  have o_v_lights1 := s_lights1.one
  have o_v_feet1 := s_feet1.one
  have hz : szSceneN x = szGridN x.grid + x.lights.length + szIntSSN x.feet := rfl
  refine calls_of_sf Tryz.func26 rfl Tryz.ntmps26 ?_
  simp only [argsL, Nat.reduceAdd]
  repeat (first | refine R1 ?_ | (refine R2 ?_; intro _))
  refine fp (y_call (toGrid_f _ _ x.grid (gridB_mk s_grid_cells1) (by simp only [szGridN] at hz ⊢; omega)) (by rfl) ?_)
  rintro _ K1 ⟨_, rfl, q1⟩
  obtain ⟨u1_v_cells, rfl, h1_v_cells, l1_v_cells⟩ := gridO q1
  have oo1_v_cells := h1_v_cells.one
  repeat (first | refine R1 ?_ | (refine R2 ?_; intro _))
  refine fp (y_call (toIntS_f _ _ _ s_lights1 (by omega)) (by rfl) fun w2 K2 g2 => ?_)
  have o2 := g2.one
  repeat (first | refine R1 ?_ | (refine R2 ?_; intro _))
  refine fp (y_call (toIntSS_f _ _ _ s_feet1 (by omega)) (by rfl) fun w3 K3 g3 => ?_)
  have o3 := g3.one
  repeat (first | refine R1 ?_ | (refine R2 ?_; intro _))
  exact sf_ret (rO (K1 ++ (K2 ++ (K3))) ⟨_, rfl, sceneO_mk h1_v_cells l1_v_cells g2 (by omega) g3⟩)
theorem toPainter_f (h : PHeap) (ca : List Value) (x : Painter) (b : (painterR τ).B h ca x) (hs : szPainterN x ≤ 1048576) : CallF Tryz.prog M 8 [.agg ca.toArray] [] h fun v A => ∃ cs, v = .agg cs.toArray ∧ (painterR τ).O A cs x := by
  obtain ⟨v_scene_grid_cells1, v_scene_lights1, v_scene_feet1, rfl, s_scene_grid_cells1, s_scene_lights1, s_scene_feet1⟩ := painterB b
  have o_v_scene_grid_cells1 := s_scene_grid_cells1.one
  have o_v_scene_lights1 := s_scene_lights1.one
  have o_v_scene_feet1 := s_scene_feet1.one
  have hz : szPainterN x = szSceneN x.scene := rfl
  refine calls_of_sf Tryz.func8 rfl Tryz.ntmps8 ?_
  simp only [argsL, Nat.reduceAdd]
  repeat (first | refine R1 ?_ | (refine R2 ?_; intro _))
  refine fp (y_call (toScene_f _ _ x.scene (sceneB_mk s_scene_grid_cells1 s_scene_lights1 s_scene_feet1) (by omega)) (by rfl) ?_)
  rintro _ K1 ⟨_, rfl, q1⟩
  obtain ⟨u1_v_grid_cells, u1_v_lights, u1_v_feet, J1_v_grid_cells, J1_v_lights, J1_v_feet, rfl, rfl, ⟨h1_v_grid_cells, l1_v_grid_cells⟩, ⟨h1_v_lights, l1_v_lights⟩, h1_v_feet⟩ := sceneO q1
  have oo1_v_grid_cells := h1_v_grid_cells.one
  have oo1_v_lights := h1_v_lights.one
  have oo1_v_feet := h1_v_feet.one
  repeat (first | refine R1 ?_ | (refine R2 ?_; intro _))
  exact sf_ret (rO (J1_v_grid_cells ++ (J1_v_lights ++ (J1_v_feet))) ⟨_, rfl, painterO_mk h1_v_grid_cells l1_v_grid_cells h1_v_lights l1_v_lights h1_v_feet⟩)
end Go.Proofs.YtekjikbaefgncaaGreat

/- Walks of the exact laws' own helpers: marks that are found again. Printed by program. -/
namespace Go.Proofs.YtekjikbaefgncaaGreat
open Go Go.Sl
set_option maxRecDepth 100000
set_option maxHeartbeats 4000000
attribute [local irreducible] Go.Code.sf sfOps Opq opo retF Do1 anyO
variable {M : Jdg → Prop} [IsCl Tryz.prog M]
theorem heldIntS_v (h : PHeap) (a : Value) (xs : List Int) (s : Sl h a intF xs) (k : Int) (h0 : 0 ≤ k) (h1 : k + cIntS xs ≤ 4611686018427387904) : CallV Tryz.prog M 41 [a, .int .i64 k] h (.int .i64 (heldIntS xs k)) := by
  have o1 := s.one
  have hs := s.small
  refine calls_of_sf Tryz.func41 rfl Tryz.ntmps41 ?_
  simp only [argsL, Nat.reduceAdd]
  repeat (first | refine R1 ?_ | (refine R2 ?_; intro _))
  refine sf_lp (ι := Nat × Int) [0] (fun x => [(5, .int .i64 (x.1 : Int)), (1, .int .i64 x.2)]) (fun x O => O = [] ∧ x.1 ≤ xs.length ∧ 0 ≤ x.2 ∧ x.2 + sizeL (fun _ => 1) (xs.drop x.1) ≤ 4611686018427387904 ∧ heldIntS xs k = hL heldInt (xs.drop x.1) x.2) (fun x => xs.length - x.1) (0, k) [] ⟨rfl, by simp, h0, h1, rfl⟩ ?_
  rintro ⟨i, kk⟩ O ⟨rfl, hi, hk0, hk1, hinv⟩
  simp only at hi hk0 hk1 hinv ⊢
  repeat (first | refine R1 ?_ | (refine R2 ?_; intro _))
  refine sf_if (fun h4 => ?_) fun h4 => ?_
  · have hi4 : i < xs.length := by omega
    rw [hL_drop hi4] at hinv
    rw [sizeL_drop hi4] at hk1
    repeat (first | refine R1 ?_ | (refine R2 ?_; intro _))
    refine sf_if (fun e1 => ?_) fun e1 => ?_
    · repeat (first | refine R1 ?_ | (refine R2 ?_; intro _))
      refine sf_ret (rV ?_)
      rw [hinv]
      simp only [heldInt, hI, id]
      simp_all
    repeat (first | refine R1 ?_ | (refine R2 ?_; intro _))
    have key : heldInt (gt xs i) kk = kk + 1 := by
      simp only [ne_eq, Decidable.not_not] at e1
      simp only [heldInt, hI, id, e1, if_true]
    rw [key, if_neg (by omega)] at hinv
    exact ⟨(i + 1, _), by simp only; omega, ⟨rfl, rfl, trivial⟩, rfl, [], _, inferInstance, rfl, by simp only; omega, by simp only; omega, by simp only; omega, hinv⟩
  · refine sf_exit ?_
    repeat (first | refine R1 ?_ | (refine R2 ?_; intro _))
    refine sf_ret (rV ?_)
    have : i = xs.length := by omega
    rw [hinv, this, List.drop_length]
    rfl
theorem heldCellS_v (h : PHeap) (a : Value) (xs : List Cell) (s : Sl h a cellF xs) (k : Int) (h0 : 0 ≤ k) (h1 : k + cCellS xs ≤ 4611686018427387904) : CallV Tryz.prog M 67 [a, .int .i64 k] h (.int .i64 (heldCellS xs k)) := by
  have o1 := s.one
  have hs := s.small
  refine calls_of_sf Tryz.func67 rfl Tryz.ntmps67 ?_
  simp only [argsL, Nat.reduceAdd]
  repeat (first | refine R1 ?_ | (refine R2 ?_; intro _))
  refine sf_lp (ι := Nat × Int) [0] (fun x => [(5, .int .i64 (x.1 : Int)), (1, .int .i64 x.2)]) (fun x O => O = [] ∧ x.1 ≤ xs.length ∧ 0 ≤ x.2 ∧ x.2 + sizeL (fun _ => 2) (xs.drop x.1) ≤ 4611686018427387904 ∧ heldCellS xs k = hL heldCell (xs.drop x.1) x.2) (fun x => xs.length - x.1) (0, k) [] ⟨rfl, by simp, h0, h1, rfl⟩ ?_
  rintro ⟨i, kk⟩ O ⟨rfl, hi, hk0, hk1, hinv⟩
  simp only at hi hk0 hk1 hinv ⊢
  repeat (first | refine R1 ?_ | (refine R2 ?_; intro _))
  refine sf_if (fun h4 => ?_) fun h4 => ?_
  · have hi4 : i < xs.length := by omega
    rw [hL_drop hi4] at hinv
    rw [sizeL_drop hi4] at hk1
    repeat (first | refine R1 ?_ | (refine R2 ?_; intro _))
    refine sf_if (fun e1 => ?_) fun e1 => ?_
    · repeat (first | refine R1 ?_ | (refine R2 ?_; intro _))
      refine sf_ret (rV ?_)
      rw [hinv]
      simp only [heldCell, hI, id]
      simp_all
    repeat (first | refine R1 ?_ | (refine R2 ?_; intro _))
    refine sf_if (fun e2 => ?_) fun e2 => ?_
    · repeat (first | refine R1 ?_ | (refine R2 ?_; intro _))
      refine sf_ret (rV ?_)
      rw [hinv]
      simp only [heldCell, hI, id]
      simp_all
    repeat (first | refine R1 ?_ | (refine R2 ?_; intro _))
    have key : heldCell (gt xs i) kk = kk + 1 + 1 := by
      simp only [ne_eq, Decidable.not_not] at e1 e2
      simp only [heldCell, hI, id, e1, e2, if_true]
    rw [key, if_neg (by omega)] at hinv
    exact ⟨(i + 1, _), by simp only; omega, ⟨rfl, rfl, trivial⟩, rfl, [], _, inferInstance, rfl, by simp only; omega, by simp only; omega, by simp only; omega, hinv⟩
  · refine sf_exit ?_
    repeat (first | refine R1 ?_ | (refine R2 ?_; intro _))
    refine sf_ret (rV ?_)
    have : i = xs.length := by omega
    rw [hinv, this, List.drop_length]
    rfl
theorem heldGrid_v (h : PHeap) (ca : List Value) (x : Grid) (b : (gridR τ).B h ca x) (k : Int) (h0 : 0 ≤ k) (h1 : k + cGrid x ≤ 4611686018427387904) : CallV Tryz.prog M 40 [.agg ca.toArray, .int .i64 k] h (.int .i64 (heldGrid x k)) := by
  obtain ⟨v_cells1, rfl, s_cells1⟩ := gridB b
  have o_v_cells1 := s_cells1.one
  have hc : cGrid x = cCellS x.cells := rfl
  refine calls_of_sf Tryz.func40 rfl Tryz.ntmps40 ?_
  simp only [argsL, Nat.reduceAdd]
  repeat (first | refine R1 ?_ | (refine R2 ?_; intro _))
  refine fp (y_callV (heldCellS_v _ _ _ s_cells1 (k) (by omega) (by omega)) (by rfl) ?_)
  repeat (first | refine R1 ?_ | (refine R2 ?_; intro _))
  refine sf_if (fun q1 => ?_) fun q1 => ?_
  · repeat (first | refine R1 ?_ | (refine R2 ?_; intro _))
    refine sf_ret (rV ?_)
    simp only [heldGrid, hS, hN, q1, if_true, if_false]
  have b1 : k ≤ heldCellS x.cells (k) ∧ heldCellS x.cells (k) ≤ k + cCellS x.cells := by rcases bdCellS x.cells (k) (by omega) with z | z <;> omega
  repeat (first | refine R1 ?_ | (refine R2 ?_; intro _))
  refine sf_ret (rV ?_)
  simp only [heldGrid, hS, hN, q1, if_true, if_false]
end Go.Proofs.YtekjikbaefgncaaGreat

/- Walks of the exact laws' own helpers: marks that are found again, worlds. Printed by program. -/
namespace Go.Proofs.YtekjikbaefgncaaGreat
open Go Go.Sl
set_option maxRecDepth 100000
set_option maxHeartbeats 4000000
attribute [local irreducible] Go.Code.sf sfOps Opq opo retF Do1 anyO
variable {M : Jdg → Prop} [IsCl Tryz.prog M]
theorem heldIntSS_v (h : PHeap) (a : Value) (xs : List (List Int)) (s : SlR (intSR τ) h a xs) (k : Int) (h0 : 0 ≤ k) (h1 : k + cIntSS xs ≤ 4611686018427387904) : CallV Tryz.prog M 77 [a, .int .i64 k] h (.int .i64 (heldIntSS xs k)) := by
  have o1 := s.one
  obtain ⟨rx, s, b⟩ := s
  have lx := b.len
  have hs := s.small
  refine calls_of_sf Tryz.func77 rfl Tryz.ntmps77 ?_
  simp only [argsL, Nat.reduceAdd]
  repeat (first | refine R1 ?_ | (refine R2 ?_; intro _))
  refine sf_lp (ι := Nat × Int) [0] (fun x => [(5, .int .i64 (x.1 : Int)), (1, .int .i64 x.2)]) (fun x O => O = [] ∧ x.1 ≤ xs.length ∧ 0 ≤ x.2 ∧ x.2 + sizeL cIntS (xs.drop x.1) ≤ 4611686018427387904 ∧ heldIntSS xs k = hL (fun x => hN (heldIntS x)) (xs.drop x.1) x.2) (fun x => xs.length - x.1) (0, k) [] ⟨rfl, by simp, h0, h1, rfl⟩ ?_
  rintro ⟨i, kk⟩ O ⟨rfl, hi, hk0, hk1, hinv⟩
  simp only at hi hk0 hk1 hinv ⊢
  repeat (first | refine R1 ?_ | (refine R2 ?_; intro _))
  refine sf_if (fun h4 => ?_) fun h4 => ?_
  · have hi4 : i < xs.length := by omega
    have hi5 : i < rx.length := by omega
    rw [hL_drop hi4] at hinv
    rw [sizeL_drop hi4] at hk1
    have b4 := b.at hi4
    obtain ⟨v_1, ex, s_1⟩ := b4
    haveI : FlatV (rawF (intSR τ).sz) (gt rx i) [v_1] := ⟨ex⟩
    have cb : sizeL cIntS (xs.drop (i + 1)) ≥ 0 := Nat.zero_le _
    repeat (first | refine R1 ?_ | (refine R2 ?_; intro _))
    refine fp (y_callV (heldIntS_v _ _ _ s_1 (kk) (by omega) (by omega)) (by rfl) ?_)
    repeat (first | refine R1 ?_ | (refine R2 ?_; intro _))
    refine sf_if (fun q1 => ?_) fun q1 => ?_
    · repeat (first | refine R1 ?_ | (refine R2 ?_; intro _))
      refine sf_ret (rV ?_)
      have key : hN (heldIntS (gt xs i)) kk = -1 := by simp only [hB, hI, hN, hS, q1, if_true, if_false]
      rw [hinv, key]; rfl
    have b1 : kk ≤ heldIntS (gt xs i) (kk) ∧ heldIntS (gt xs i) (kk) ≤ kk + cIntS (gt xs i) := by rcases bdIntS (gt xs i) (kk) (by omega) with z | z <;> omega
    repeat (first | refine R1 ?_ | (refine R2 ?_; intro _))
    have key : hN (heldIntS (gt xs i)) kk = heldIntS (gt xs i) (kk) := by simp only [hB, hI, hN, hS, q1, if_true, if_false]
    rw [key, if_neg (by omega)] at hinv
    exact ⟨(i + 1, heldIntS (gt xs i) (kk)), by simp only; omega, ⟨rfl, rfl, trivial⟩, rfl, [], _, inferInstance, rfl, by simp only; omega, by simp only; omega, by simp only; omega, hinv⟩
  · refine sf_exit ?_
    repeat (first | refine R1 ?_ | (refine R2 ?_; intro _))
    refine sf_ret (rV ?_)
    have : i = xs.length := by omega
    rw [hinv, this, List.drop_length]
    rfl
end Go.Proofs.YtekjikbaefgncaaGreat

/- Walks of the exact laws' own helpers: marks that are found again, painters. Printed by program. -/
namespace Go.Proofs.YtekjikbaefgncaaGreat
open Go Go.Sl
set_option maxRecDepth 100000
set_option maxHeartbeats 4000000
attribute [local irreducible] Go.Code.sf sfOps Opq opo retF Do1 anyO
variable {M : Jdg → Prop} [IsCl Tryz.prog M]
theorem heldScene_v (h : PHeap) (ca : List Value) (x : Scene) (b : (sceneR τ).B h ca x) (k : Int) (h0 : 0 ≤ k) (h1 : k + cScene x ≤ 4611686018427387904) : CallV Tryz.prog M 50 [.agg ca.toArray, .int .i64 k] h (.int .i64 (heldScene x k)) := by
  obtain ⟨v_grid_cells1, v_lights1, v_feet1, rfl, s_grid_cells1, s_lights1, s_feet1⟩ := sceneB b
  have o_v_grid_cells1 := s_grid_cells1.one
  have o_v_lights1 := s_lights1.one
  have o_v_feet1 := s_feet1.one
  have hc : cScene x = cGrid x.grid + (cIntS x.lights + cIntSS x.feet) := rfl
  refine calls_of_sf Tryz.func50 rfl Tryz.ntmps50 ?_
  simp only [argsL, Nat.reduceAdd]
  repeat (first | refine R1 ?_ | (refine R2 ?_; intro _))
  refine fp (y_callV (heldGrid_v _ _ x.grid (gridB_mk s_grid_cells1) (k) (by omega) (by omega)) (by rfl) ?_)
  repeat (first | refine R1 ?_ | (refine R2 ?_; intro _))
  refine sf_if (fun q1 => ?_) fun q1 => ?_
  · repeat (first | refine R1 ?_ | (refine R2 ?_; intro _))
    refine sf_ret (rV ?_)
    simp only [heldScene, hS, hN, q1, if_true, if_false]
  have b1 : k ≤ heldGrid x.grid (k) ∧ heldGrid x.grid (k) ≤ k + cGrid x.grid := by rcases bdGrid x.grid (k) (by omega) with z | z <;> omega
  repeat (first | refine R1 ?_ | (refine R2 ?_; intro _))
  refine fp (y_callV (heldIntS_v _ _ _ s_lights1 (heldGrid x.grid (k)) (by omega) (by omega)) (by rfl) ?_)
  repeat (first | refine R1 ?_ | (refine R2 ?_; intro _))
  refine sf_if (fun q2 => ?_) fun q2 => ?_
  · repeat (first | refine R1 ?_ | (refine R2 ?_; intro _))
    refine sf_ret (rV ?_)
    simp only [heldScene, hS, hN, q1, q2, if_true, if_false]
  have b2 : heldGrid x.grid (k) ≤ heldIntS x.lights (heldGrid x.grid (k)) ∧ heldIntS x.lights (heldGrid x.grid (k)) ≤ heldGrid x.grid (k) + cIntS x.lights := by rcases bdIntS x.lights (heldGrid x.grid (k)) (by omega) with z | z <;> omega
  repeat (first | refine R1 ?_ | (refine R2 ?_; intro _))
  refine fp (y_callV (heldIntSS_v _ _ _ s_feet1 (heldIntS x.lights (heldGrid x.grid (k))) (by omega) (by omega)) (by rfl) ?_)
  repeat (first | refine R1 ?_ | (refine R2 ?_; intro _))
  refine sf_if (fun q3 => ?_) fun q3 => ?_
  · repeat (first | refine R1 ?_ | (refine R2 ?_; intro _))
    refine sf_ret (rV ?_)
    simp only [heldScene, hS, hN, q1, q2, q3, if_true, if_false]
  have b3 : heldIntS x.lights (heldGrid x.grid (k)) ≤ heldIntSS x.feet (heldIntS x.lights (heldGrid x.grid (k))) ∧ heldIntSS x.feet (heldIntS x.lights (heldGrid x.grid (k))) ≤ heldIntS x.lights (heldGrid x.grid (k)) + cIntSS x.feet := by rcases bdIntSS x.feet (heldIntS x.lights (heldGrid x.grid (k))) (by omega) with z | z <;> omega
  repeat (first | refine R1 ?_ | (refine R2 ?_; intro _))
  refine sf_ret (rV ?_)
  simp only [heldScene, hS, hN, q1, q2, q3, if_true, if_false]
theorem heldPainter_v (h : PHeap) (ca : List Value) (x : Painter) (b : (painterR τ).B h ca x) (k : Int) (h0 : 0 ≤ k) (h1 : k + cPainter x ≤ 4611686018427387904) : CallV Tryz.prog M 21 [.agg ca.toArray, .int .i64 k] h (.int .i64 (heldPainter x k)) := by
  obtain ⟨v_scene_grid_cells1, v_scene_lights1, v_scene_feet1, rfl, s_scene_grid_cells1, s_scene_lights1, s_scene_feet1⟩ := painterB b
  have o_v_scene_grid_cells1 := s_scene_grid_cells1.one
  have o_v_scene_lights1 := s_scene_lights1.one
  have o_v_scene_feet1 := s_scene_feet1.one
  have hc : cPainter x = cScene x.scene := rfl
  refine calls_of_sf Tryz.func21 rfl Tryz.ntmps21 ?_
  simp only [argsL, Nat.reduceAdd]
  repeat (first | refine R1 ?_ | (refine R2 ?_; intro _))
  refine fp (y_callV (heldScene_v _ _ x.scene (sceneB_mk s_scene_grid_cells1 s_scene_lights1 s_scene_feet1) (k) (by omega) (by omega)) (by rfl) ?_)
  repeat (first | refine R1 ?_ | (refine R2 ?_; intro _))
  refine sf_if (fun q1 => ?_) fun q1 => ?_
  · repeat (first | refine R1 ?_ | (refine R2 ?_; intro _))
    refine sf_ret (rV ?_)
    simp only [heldPainter, hS, hN, q1, if_true, if_false]
  have b1 : k ≤ heldScene x.scene (k) ∧ heldScene x.scene (k) ≤ k + cScene x.scene := by rcases bdScene x.scene (k) (by omega) with z | z <;> omega
  repeat (first | refine R1 ?_ | (refine R2 ?_; intro _))
  refine sf_ret (rV ?_)
  simp only [heldPainter, hS, hN, q1, if_true, if_false]
end Go.Proofs.YtekjikbaefgncaaGreat

/- Walks of the exact laws' own helpers: marks. Printed by program. -/
namespace Go.Proofs.YtekjikbaefgncaaGreat
open Go Go.Sl
set_option maxRecDepth 100000
set_option maxHeartbeats 4000000
attribute [local irreducible] Go.Code.sf sfOps Opq opo retF Do1 anyO
variable {M : Jdg → Prop} [IsCl Tryz.prog M]
theorem markIntS_f (h : PHeap) (a : Value) (A : Own) (xs : List Int) (gr : Gr A a 3 intF xs) (hs : xs.length ≤ 281474976710656) (k : Int) (h0 : 0 ≤ k) (h1 : k + cIntS xs ≤ 4611686018427387904) : CallF Tryz.prog M 39 [a, .int .i64 k] A h fun v' A' => ∃ ys, v' = .int .i64 (k + cIntS xs) ∧ Gr A' a 3 intF ys ∧ ys.length = xs.length ∧ heldIntS ys k = k + cIntS xs := by
  have o1 := gr.one
  have hcs : cIntS xs = 1 * xs.length := sizeL_const xs
  refine calls_of_sf Tryz.func39 rfl Tryz.ntmps39 ?_
  simp only [argsL, Nat.reduceAdd]
  repeat (first | refine R1 ?_ | (refine R2 ?_; intro _))
  refine sf_lp (ι := Nat × Int) [0] (fun x => [(5, .int .i64 (x.1 : Int)), (1, .int .i64 x.2)]) (fun x O => ∃ ys, x.1 ≤ xs.length ∧ ys.length = xs.length ∧ Gr O a 3 intF ys ∧ x.2 = k + 1 * (x.1 : Int) ∧ hL heldInt (ys.take x.1) k = x.2) (fun x => xs.length - x.1) (0, k) A ⟨xs, by simp, rfl, gr, by simp, rfl⟩ ?_
  rintro ⟨i, kk⟩ O ⟨ys, hi, hl, g, hkk, hinv⟩
  simp only at hi hkk hinv ⊢
  repeat (first | refine R1 ?_ | (refine R2 ?_; intro _))
  refine sf_if (fun h4 => ?_) fun h4 => ?_
  · have hi4 : i < ys.length := by omega
    repeat (first | refine R1 ?_ | (refine R2 ?_; intro _))
    refine fp (y_storeG0 (by rfl) (by rfl) g (by omega) (by rfl) fun A1 y1 e1 l1 _ g1 => ?_)
    have hi5 : i < y1.length := by omega
    clear g
    repeat (first | refine R1 ?_ | (refine R2 ?_; intro _))
    have ez : y1 = ys.set i kk := by simp only [e1, List.set_set]
    have key : heldInt kk kk = kk + 1 := by simp [heldInt, hI]
    have hp := hL_put (f := heldInt) hi4 hinv (by omega) key (by omega)
    exact ⟨(i + 1, _), by simp only; omega, ⟨rfl, rfl, trivial⟩, rfl, _, _, inferInstance, y1, by simp only; omega, by omega, g1, by simp only; omega, by rw [ez]; exact hp⟩
  · refine sf_exit ?_
    repeat (first | refine R1 ?_ | (refine R2 ?_; intro _))
    refine sf_ret (rO O ⟨ys, ?_, g, hl, ?_⟩)
    · have : (i : Int) = xs.length := by omega
      rw [hkk, this, hcs]; simp
    · rw [take_ge (by omega) (by omega)] at hinv
      show hL heldInt ys k = _
      rw [hinv, hkk, hcs, show i = xs.length by omega]; simp
theorem markCellS_f (h : PHeap) (a : Value) (A : Own) (xs : List Cell) (gr : Gr A a 44 cellF xs) (hs : xs.length ≤ 281474976710656) (k : Int) (h0 : 0 ≤ k) (h1 : k + cCellS xs ≤ 4611686018427387904) : CallF Tryz.prog M 66 [a, .int .i64 k] A h fun v' A' => ∃ ys, v' = .int .i64 (k + cCellS xs) ∧ Gr A' a 44 cellF ys ∧ ys.length = xs.length ∧ heldCellS ys k = k + cCellS xs := by
  have o1 := gr.one
  have hcs : cCellS xs = 2 * xs.length := sizeL_const xs
  refine calls_of_sf Tryz.func66 rfl Tryz.ntmps66 ?_
  simp only [argsL, Nat.reduceAdd]
  repeat (first | refine R1 ?_ | (refine R2 ?_; intro _))
  refine sf_lp (ι := Nat × Int) [0] (fun x => [(5, .int .i64 (x.1 : Int)), (1, .int .i64 x.2)]) (fun x O => ∃ ys, x.1 ≤ xs.length ∧ ys.length = xs.length ∧ Gr O a 44 cellF ys ∧ x.2 = k + 2 * (x.1 : Int) ∧ hL heldCell (ys.take x.1) k = x.2) (fun x => xs.length - x.1) (0, k) A ⟨xs, by simp, rfl, gr, by simp, rfl⟩ ?_
  rintro ⟨i, kk⟩ O ⟨ys, hi, hl, g, hkk, hinv⟩
  simp only at hi hkk hinv ⊢
  repeat (first | refine R1 ?_ | (refine R2 ?_; intro _))
  refine sf_if (fun h4 => ?_) fun h4 => ?_
  · have hi4 : i < ys.length := by omega
    repeat (first | refine R1 ?_ | (refine R2 ?_; intro _))
    refine fp (y_storeG (by rfl) (by rfl) g (by omega) (by rfl) fun A1 y1 e1 l1 _ g1 => ?_)
    have hi5 : i < y1.length := by omega
    clear g
    repeat (first | refine R1 ?_ | (refine R2 ?_; intro _))
    refine fp (y_storeG (by rfl) (by rfl) g1 (by omega) (by rfl) fun A2 y2 e2 l2 _ g2 => ?_)
    have hi6 : i < y2.length := by omega
    clear g1
    repeat (first | refine R1 ?_ | (refine R2 ?_; intro _))
    have ez : y2 = ys.set i ⟨kk, kk + 1⟩ := by simp only [e2, e1, List.set_set]
    have key : heldCell ⟨kk, kk + 1⟩ kk = kk + 1 + 1 := by simp [heldCell, hI]
    have hp := hL_put (f := heldCell) hi4 hinv (by omega) key (by omega)
    exact ⟨(i + 1, _), by simp only; omega, ⟨rfl, rfl, trivial⟩, rfl, _, _, inferInstance, y2, by simp only; omega, by omega, g2, by simp only; omega, by rw [ez]; exact hp⟩
  · refine sf_exit ?_
    repeat (first | refine R1 ?_ | (refine R2 ?_; intro _))
    refine sf_ret (rO O ⟨ys, ?_, g, hl, ?_⟩)
    · have : (i : Int) = xs.length := by omega
      rw [hkk, this, hcs]; simp
    · rw [take_ge (by omega) (by omega)] at hinv
      show hL heldCell ys k = _
      rw [hinv, hkk, hcs, show i = xs.length by omega]; simp
theorem markGrid_f (h : PHeap) (A : Own) (ca : List Value) (x : Grid) (b : (gridR τ).O A ca x) (k : Int) (h0 : 0 ≤ k) (h1 : k + cGrid x ≤ 4611686018427387904) : CallF Tryz.prog M 38 [.agg ca.toArray, .int .i64 k] A h fun v' A' => ∃ y, v' = .int .i64 (k + cGrid x) ∧ (gridR τ).O A' ca y ∧ cGrid y = cGrid x ∧ heldGrid y k = k + cGrid x := by
  obtain ⟨v_cells1, rfl, g_v_cells1, l_v_cells1⟩ := gridO b
  have o_v_cells1 := g_v_cells1.one
  have hc : cGrid x = cCellS x.cells := rfl
  refine calls_of_sf Tryz.func38 rfl Tryz.ntmps38 ?_
  simp only [argsL, Nat.reduceAdd]
  repeat (first | refine R1 ?_ | (refine R2 ?_; intro _))
  refine fp (y_call (markCellS_f _ _ _ _ g_v_cells1 l_v_cells1 (k) (by omega) (by omega)) (by rfl) ?_)
  rintro _ K1 ⟨w1, rfl, r1, t1, u1⟩
  repeat (first | refine R1 ?_ | (refine R2 ?_; intro _))
  have d1 : cCellS w1 = cCellS x.cells := by simp only [cCellS, sizeL_const, t1]
  let y : Grid := ⟨x.wide, w1⟩
  have oy : (gridR τ).O K1 _ y := gridO_mk (g := y) r1 (show w1.length ≤ 281474976710656 by omega)
  refine sf_ret (rO K1 ⟨y, ?_, ?_, ?_, ?_⟩)
  · exact congrArg (Value.int .i64) (by omega)
  · exact oy
  · simp only [y, cGrid, d1]
  · simp only [y, heldGrid, hS, hN, u1]
    rw [if_neg (by omega)]
    omega
end Go.Proofs.YtekjikbaefgncaaGreat

/- Walks of the exact laws' own helpers: marks, worlds. Printed by program. -/
namespace Go.Proofs.YtekjikbaefgncaaGreat
open Go Go.Sl
set_option maxRecDepth 100000
set_option maxHeartbeats 4000000
attribute [local irreducible] Go.Code.sf sfOps Opq opo retF Do1 anyO
variable {M : Jdg → Prop} [IsCl Tryz.prog M]
theorem markIntSS_f (h : PHeap) (a : Value) (A : Own) (xs : List (List Int)) (gr : GrR (intSR τ) A a 25 xs) (k : Int) (h0 : 0 ≤ k) (h1 : k + cIntSS xs ≤ 4611686018427387904) : CallF Tryz.prog M 65 [a, .int .i64 k] A h fun v' A' => ∃ ys, v' = .int .i64 (k + cIntSS xs) ∧ GrR (intSR τ) A' a 25 ys ∧ cIntSS ys = cIntSS xs ∧ heldIntSS ys k = k + cIntSS xs := by
  have o1 := gr.one
  obtain ⟨A0, A1, rfl, rx, g, oa, hs⟩ := gr
  have lx := oa.len
  refine calls_of_sf Tryz.func65 rfl Tryz.ntmps65 ?_
  simp only [argsL, Nat.reduceAdd]
  repeat (first | refine R1 ?_ | (refine R2 ?_; intro _))
  refine sf_lp (ι := Nat × Int) [0] (fun x => [(5, .int .i64 (x.1 : Int)), (1, .int .i64 x.2)]) (fun x O => ∃ A0 A1 ry ys, O = A0 ++ A1 ∧ x.1 ≤ xs.length ∧ ys.length = xs.length ∧ Gr A0 a 25 (rawF (intSR τ).sz) ry ∧ OAll (intSR τ) A1 ry ys ∧ ys.drop x.1 = xs.drop x.1 ∧ x.2 = k + sizeL cIntS (xs.take x.1) ∧ sizeL cIntS (ys.take x.1) = sizeL cIntS (xs.take x.1) ∧ hL (fun x => hN (heldIntS x)) (ys.take x.1) k = x.2) (fun x => xs.length - x.1) (0, k) (A0 ++ A1) ⟨A0, A1, rx, xs, rfl, by simp, rfl, g, oa, rfl, by simp [sizeL], rfl, rfl⟩ ?_
  clear g oa lx rx A0 A1
  rintro ⟨i, kk⟩ O ⟨A0, A1, ry, ys, rfl, hi, hl, g, oa, hd, hkk, hsz, hinv⟩
  simp only at hi hd hkk hsz hinv ⊢
  have ly := oa.len
  repeat (first | refine R1 ?_ | (refine R2 ?_; intro _))
  refine sf_if (fun h4 => ?_) fun h4 => ?_
  · have hi4 : i < ys.length := by omega
    have hi5 : i < ry.length := by omega
    have hg := gt_drop (xs := xs) (by omega) hd
    have hst := sizeL_take (f := cIntS) (xs := xs) (k := i) (by omega)
    have hsp := sizeL_split (f := cIntS) xs (i + 1)
    have hcx : cIntSS xs = sizeL cIntS xs := rfl
    rw [← hg] at hst
    obtain ⟨B1, Bk, B2, rfl, ok, put⟩ := oa.at hi4
    obtain ⟨v_1, ex, g_1, l_1⟩ := ok
    haveI : FlatV (rawF (intSR τ).sz) (gt ry i) [v_1] := ⟨ex⟩
    have o_1 := g_1.one
    repeat (first | refine R1 ?_ | (refine R2 ?_; intro _))
    refine fp (y_call (markIntS_f _ _ _ _ g_1 l_1 (kk) (by omega) (by omega)) (by rfl) ?_)
    rintro _ K1 ⟨w1, rfl, r1, t1, u1⟩
    repeat (first | refine R1 ?_ | (refine R2 ?_; intro _))
    have cz : cIntS w1 = cIntS (gt ys i) := by simp only [cIntS, sizeL_const, t1]
    have key : (fun x => hN (heldIntS x)) w1 kk = kk + cIntS (gt ys i) := by simp only [hN, u1]; rw [if_neg (by omega)]
    have oa2 := put K1 (gt ry i) w1 ⟨_, ex, r1, by omega⟩
    have hp := hL_put (f := fun x => hN (heldIntS x)) hi4 hinv (by omega) key (by omega)
    have hsz2 := sizeL_put (c := cIntS) (z := w1) hi4
    have er : ry.set i (gt ry i) = ry := by rw [gt_eq hi5]; exact List.set_getElem_self hi5
    rw [er] at oa2
    exact ⟨(i + 1, kk + cIntS (gt ys i)), by simp only; omega, ⟨rfl, rfl, trivial⟩, rfl, A0 ++ (B1 ++ (K1 ++ B2)), _, inferInstance, A0, _, ry, ys.set i w1, rfl, by simp only; omega, by simpa using hl, g, oa2, drop_set_succ hd, by simp only; omega, by simp only; omega, hp⟩
  · refine sf_exit ?_
    repeat (first | refine R1 ?_ | (refine R2 ?_; intro _))
    rw [take_ge (by omega) (by omega)] at hinv hsz
    rw [take_ge (by omega) (by omega)] at hsz hkk
    refine sf_ret (rO (A0 ++ A1) ⟨ys, ?_, ⟨A0, A1, rfl, ry, g, oa, by omega⟩, hsz, ?_⟩)
    · rw [hkk]; rfl
    · have e : k + (cIntSS xs : Int) = kk := hkk.symm
      rw [e]; exact hinv
end Go.Proofs.YtekjikbaefgncaaGreat

/- Walks of the exact laws' own helpers: marks, painters. Printed by program. -/
namespace Go.Proofs.YtekjikbaefgncaaGreat
open Go Go.Sl
set_option maxRecDepth 100000
set_option maxHeartbeats 4000000
attribute [local irreducible] Go.Code.sf sfOps Opq opo retF Do1 anyO
variable {M : Jdg → Prop} [IsCl Tryz.prog M]
theorem markScene_f (h : PHeap) (A : Own) (ca : List Value) (x : Scene) (b : (sceneR τ).O A ca x) (k : Int) (h0 : 0 ≤ k) (h1 : k + cScene x ≤ 4611686018427387904) : CallF Tryz.prog M 37 [.agg ca.toArray, .int .i64 k] A h fun v' A' => ∃ y, v' = .int .i64 (k + cScene x) ∧ (sceneR τ).O A' ca y ∧ cScene y = cScene x ∧ heldScene y k = k + cScene x := by
  obtain ⟨v_grid_cells1, v_lights1, v_feet1, K_v_grid_cells1, K_v_lights1, K_v_feet1, rfl, rfl, ⟨g_v_grid_cells1, l_v_grid_cells1⟩, ⟨g_v_lights1, l_v_lights1⟩, g_v_feet1⟩ := sceneO b
  have o_v_grid_cells1 := g_v_grid_cells1.one
  have o_v_lights1 := g_v_lights1.one
  have o_v_feet1 := g_v_feet1.one
  have hc : cScene x = cGrid x.grid + (cIntS x.lights + cIntSS x.feet) := rfl
  refine calls_of_sf Tryz.func37 rfl Tryz.ntmps37 ?_
  simp only [argsL, Nat.reduceAdd]
  repeat (first | refine R1 ?_ | (refine R2 ?_; intro _))
  refine fp (y_call (markGrid_f _ _ _ x.grid (gridO_mk g_v_grid_cells1 l_v_grid_cells1) (k) (by omega) (by omega)) (by rfl) ?_)
  rintro _ K1 ⟨w1, rfl, r1, t1, u1⟩
  repeat (first | refine R1 ?_ | (refine R2 ?_; intro _))
  refine fp (y_call (markIntS_f _ _ _ _ g_v_lights1 l_v_lights1 (k + cGrid x.grid) (by omega) (by omega)) (by rfl) ?_)
  rintro _ K2 ⟨w2, rfl, r2, t2, u2⟩
  repeat (first | refine R1 ?_ | (refine R2 ?_; intro _))
  refine fp (y_call (markIntSS_f _ _ _ _ g_v_feet1 (k + cGrid x.grid + cIntS x.lights) (by omega) (by omega)) (by rfl) ?_)
  rintro _ K3 ⟨w3, rfl, r3, t3, u3⟩
  repeat (first | refine R1 ?_ | (refine R2 ?_; intro _))
  obtain ⟨vv1_v_cells2, ee1, gg1_v_cells2, ll1_v_cells2⟩ := gridO r1
  simp only [List.cons.injEq, and_true] at ee1
  obtain ⟨ef1_0, ef1_1⟩ := ee1
  subst ef1_1
  have d1 := t1
  have d2 : cIntS w2 = cIntS x.lights := by simp only [cIntS, sizeL_const, t2]
  have d3 := t3
  let y : Scene := ⟨w1, w2, w3⟩
  have oy : (sceneR τ).O (K1 ++ (K2 ++ (K3))) _ y := sceneO_mk (s := y) gg1_v_cells2 ll1_v_cells2 r2 (show w2.length ≤ 281474976710656 by omega) r3
  refine sf_ret (rO (K1 ++ (K2 ++ (K3))) ⟨y, ?_, ?_, ?_, ?_⟩)
  · exact congrArg (Value.int .i64) (by omega)
  · rw [ef1_0]; exact oy
  · simp only [y, cScene, d1, d2, d3]
  · simp only [y, heldScene, hS, hN, u1, u2, u3]
    rw [if_neg (by omega)]
    rw [if_neg (by omega)]
    rw [if_neg (by omega)]
    omega
theorem markPainter_f (h : PHeap) (A : Own) (ca : List Value) (x : Painter) (b : (painterR τ).O A ca x) (k : Int) (h0 : 0 ≤ k) (h1 : k + cPainter x ≤ 4611686018427387904) : CallF Tryz.prog M 14 [.agg ca.toArray, .int .i64 k] A h fun v' A' => ∃ y, v' = .int .i64 (k + cPainter x) ∧ (painterR τ).O A' ca y ∧ cPainter y = cPainter x ∧ heldPainter y k = k + cPainter x := by
  obtain ⟨v_scene_grid_cells1, v_scene_lights1, v_scene_feet1, K_v_scene_grid_cells1, K_v_scene_lights1, K_v_scene_feet1, rfl, rfl, ⟨g_v_scene_grid_cells1, l_v_scene_grid_cells1⟩, ⟨g_v_scene_lights1, l_v_scene_lights1⟩, g_v_scene_feet1⟩ := painterO b
  have o_v_scene_grid_cells1 := g_v_scene_grid_cells1.one
  have o_v_scene_lights1 := g_v_scene_lights1.one
  have o_v_scene_feet1 := g_v_scene_feet1.one
  have hc : cPainter x = cScene x.scene := rfl
  refine calls_of_sf Tryz.func14 rfl Tryz.ntmps14 ?_
  simp only [argsL, Nat.reduceAdd]
  repeat (first | refine R1 ?_ | (refine R2 ?_; intro _))
  refine fp (y_call (markScene_f _ _ _ x.scene (sceneO_mk g_v_scene_grid_cells1 l_v_scene_grid_cells1 g_v_scene_lights1 l_v_scene_lights1 g_v_scene_feet1) (k) (by omega) (by omega)) (by rfl) ?_)
  rintro _ K1 ⟨w1, rfl, r1, t1, u1⟩
  repeat (first | refine R1 ?_ | (refine R2 ?_; intro _))
  obtain ⟨vv1_v_grid_cells2, vv1_v_lights2, vv1_v_feet2, KK1_v_grid_cells2, KK1_v_lights2, KK1_v_feet2, ee1, rfl, ⟨gg1_v_grid_cells2, ll1_v_grid_cells2⟩, ⟨gg1_v_lights2, ll1_v_lights2⟩, gg1_v_feet2⟩ := sceneO r1
  simp only [List.cons.injEq, and_true] at ee1
  obtain ⟨ef1_0, ef1_1, ef1_2, ef1_3⟩ := ee1
  subst ef1_1
  subst ef1_2
  subst ef1_3
  have d1 := t1
  let y : Painter := ⟨x.up, x.has, x.ver, w1⟩
  have oy : (painterR τ).O (KK1_v_grid_cells2 ++ (KK1_v_lights2 ++ (KK1_v_feet2))) _ y := painterO_mk (p := y) gg1_v_grid_cells2 ll1_v_grid_cells2 gg1_v_lights2 ll1_v_lights2 gg1_v_feet2
  refine sf_ret (rO (KK1_v_grid_cells2 ++ (KK1_v_lights2 ++ (KK1_v_feet2))) ⟨y, ?_, ?_, ?_, ?_⟩)
  · exact congrArg (Value.int .i64) (by omega)
  · rw [ef1_0]; exact oy
  · simp only [y, cPainter, d1]
  · simp only [y, heldPainter, hS, hN, u1]
    rw [if_neg (by omega)]
    omega
end Go.Proofs.YtekjikbaefgncaaGreat

/- Walks of the exact laws' own helpers: marks that are found again, words. Printed by program. -/
namespace Go.Proofs.YtekjikbaefgncaaGreat
open Go Go.Sl
set_option maxRecDepth 100000
set_option maxHeartbeats 4000000
attribute [local irreducible] Go.Code.sf sfOps Opq opo retF Do1 anyO
variable {M : Jdg → Prop} [IsCl Tryz.prog M]
end Go.Proofs.YtekjikbaefgncaaGreat

/- Walks of the exact laws' own helpers: marks, words. Printed by program. -/
namespace Go.Proofs.YtekjikbaefgncaaGreat
open Go Go.Sl
set_option maxRecDepth 100000
set_option maxHeartbeats 4000000
attribute [local irreducible] Go.Code.sf sfOps Opq opo retF Do1 anyO
variable {M : Jdg → Prop} [IsCl Tryz.prog M]
theorem markWord_f (h : PHeap) (A : Own) (ca : List Value) (x : Word) (b : (wordR τ).O A ca x) (k : Int) (h0 : 0 ≤ k) (h1 : k + cWord x ≤ 4611686018427387904) : CallF Tryz.prog M 15 [.agg ca.toArray, .int .i64 k] A h fun v' A' => ∃ y, v' = .int .i64 (k + cWord x) ∧ (wordR τ).O A' ca y ∧ cWord y = cWord x ∧ heldWord y k = k + cWord x := by
  obtain ⟨v_grid_cells1, v_lights1, K_v_grid_cells1, K_v_lights1, rfl, rfl, ⟨g_v_grid_cells1, l_v_grid_cells1⟩, ⟨g_v_lights1, l_v_lights1⟩⟩ := wordO b
  have o_v_grid_cells1 := g_v_grid_cells1.one
  have o_v_lights1 := g_v_lights1.one
  have hc : cWord x = cGrid x.grid + cIntS x.lights := rfl
  refine calls_of_sf Tryz.func15 rfl Tryz.ntmps15 ?_
  simp only [argsL, Nat.reduceAdd]
  repeat (first | refine R1 ?_ | (refine R2 ?_; intro _))
  refine fp (y_call (markGrid_f _ _ _ x.grid (gridO_mk g_v_grid_cells1 l_v_grid_cells1) (k) (by omega) (by omega)) (by rfl) ?_)
  rintro _ K1 ⟨w1, rfl, r1, t1, u1⟩
  repeat (first | refine R1 ?_ | (refine R2 ?_; intro _))
  refine fp (y_call (markIntS_f _ _ _ _ g_v_lights1 l_v_lights1 (k + cGrid x.grid) (by omega) (by omega)) (by rfl) ?_)
  rintro _ K2 ⟨w2, rfl, r2, t2, u2⟩
  repeat (first | refine R1 ?_ | (refine R2 ?_; intro _))
  obtain ⟨vv1_v_cells2, ee1, gg1_v_cells2, ll1_v_cells2⟩ := gridO r1
  simp only [List.cons.injEq, and_true] at ee1
  obtain ⟨ef1_0, ef1_1⟩ := ee1
  subst ef1_1
  have d1 := t1
  have d2 : cIntS w2 = cIntS x.lights := by simp only [cIntS, sizeL_const, t2]
  let y : Word := ⟨x.kind, x.to, x.frm, x.ver, w1, x.edit, w2⟩
  have oy : (wordR τ).O (K1 ++ (K2)) _ y := wordO_mk (w := y) gg1_v_cells2 ll1_v_cells2 r2 (show w2.length ≤ 281474976710656 by omega)
  refine sf_ret (rO (K1 ++ (K2)) ⟨y, ?_, ?_, ?_, ?_⟩)
  · exact congrArg (Value.int .i64) (by omega)
  · dsimp only [wordCs] at oy ⊢; rw [ef1_0]; exact oy
  · simp only [y, cWord, d1, d2]
  · simp only [y, heldWord, hS, hN, u1, u2]
    rw [if_neg (by omega)]
    rw [if_neg (by omega)]
    omega
end Go.Proofs.YtekjikbaefgncaaGreat

/- Walks of the exact laws' own helpers: sizes, words. Printed by program. -/
namespace Go.Proofs.YtekjikbaefgncaaGreat
open Go Go.Sl
set_option maxRecDepth 100000
set_option maxHeartbeats 4000000
attribute [local irreducible] Go.Code.sf sfOps Opq opo retF Do1 anyO
variable {M : Jdg → Prop} [IsCl Tryz.prog M]
attribute [local irreducible] szF
theorem szWord_v (h : PHeap) (ca : List Value) (x : Word) (b : (wordR τ).B h ca x) (left : Int) (h0 : 0 ≤ left) (h1 : left ≤ 1048576) : CallV Tryz.prog M 17 [.agg ca.toArray, .int .i64 left] h (.int .i64 (szF (szWordN x) left)) := by
  obtain ⟨v_grid_cells1, v_lights1, rfl, s_grid_cells1, s_lights1⟩ := wordB b
  have o_v_grid_cells1 := s_grid_cells1.one
  have o_v_lights1 := s_lights1.one
  refine calls_of_sf Tryz.func17 rfl Tryz.ntmps17 ?_
  simp only [argsL, Nat.reduceAdd]
  repeat (first | refine R1 ?_ | (refine R2 ?_; intro _))
  refine fp (y_callV (szGrid_v _ _ x.grid (gridB_mk s_grid_cells1) _ h0 h1) (by rfl) ?_)
  repeat (first | refine R1 ?_ | (refine R2 ?_; intro _))
  refine sf_if (fun e1 => ?_) fun e1 => ?_
  · repeat (first | refine R1 ?_ | (refine R2 ?_; intro _))
    refine sf_ret (rV ?_)
    have q := szF_stop (b := x.lights.length) e1
    simp only [szWordN, szGridN, szSceneN, Nat.add_assoc, Nat.add_zero] at q ⊢
    rw [q]
  have g1 := szF_ge e1
  have f1 := szF_le (a := szGridN x.grid) h0
  have b1a : 0 ≤ szF (szGridN x.grid) (left) := by omega
  have b1b : szF (szGridN x.grid) (left) ≤ 1048576 := by omega
  repeat (first | refine R1 ?_ | (refine R2 ?_; intro _))
  refine fp (y_callV (szIntS_v _ _ _ s_lights1 _ b1a b1b) (by rfl) ?_)
  repeat (first | refine R1 ?_ | (refine R2 ?_; intro _))
  refine sf_if (fun e2 => ?_) fun e2 => ?_
  · repeat (first | refine R1 ?_ | (refine R2 ?_; intro _))
    refine sf_ret (rV ?_)
    have q := szF_stop (b := 0) e2
    rw [szF_add e1] at q
    simp only [szWordN, szGridN, szSceneN, Nat.add_assoc, Nat.add_zero] at q ⊢
    rw [q]
  have g2 := szF_ge e2
  have f2 := szF_le (a := x.lights.length) b1a
  have b2a : 0 ≤ szF (x.lights.length) (szF (szGridN x.grid) (left)) := by omega
  have b2b : szF (x.lights.length) (szF (szGridN x.grid) (left)) ≤ 1048576 := by omega
  repeat (first | refine R1 ?_ | (refine R2 ?_; intro _))
  refine sf_ret (rV ?_)
  rw [szF_add e1]
  first | rfl | simp only [szWordN, szGridN, szSceneN, Nat.add_assoc]
end Go.Proofs.YtekjikbaefgncaaGreat

/- Walks of the exact laws' own helpers: copies, words. Printed by program. -/
namespace Go.Proofs.YtekjikbaefgncaaGreat
open Go Go.Sl
set_option maxRecDepth 100000
set_option maxHeartbeats 4000000
attribute [local irreducible] Go.Code.sf sfOps Opq opo retF Do1 anyO
variable {M : Jdg → Prop} [IsCl Tryz.prog M]
theorem toWord_f (h : PHeap) (ca : List Value) (x : Word) (b : (wordR τ).B h ca x) (hs : szWordN x ≤ 1048576) : CallF Tryz.prog M 19 [.agg ca.toArray] [] h fun v A => ∃ cs, v = .agg cs.toArray ∧ (wordR τ).O A cs x := by
  obtain ⟨v_grid_cells1, v_lights1, rfl, s_grid_cells1, s_lights1⟩ := wordB b
  have o_v_grid_cells1 := s_grid_cells1.one
  have o_v_lights1 := s_lights1.one
  have hz : szWordN x = szGridN x.grid + x.lights.length := rfl
  refine calls_of_sf Tryz.func19 rfl Tryz.ntmps19 ?_
  simp only [argsL, Nat.reduceAdd]
  repeat (first | refine R1 ?_ | (refine R2 ?_; intro _))
  refine fp (y_call (toGrid_f _ _ x.grid (gridB_mk s_grid_cells1) (by simp only [szGridN] at hz ⊢; omega)) (by rfl) ?_)
  rintro _ K1 ⟨_, rfl, q1⟩
  obtain ⟨u1_v_cells, rfl, h1_v_cells, l1_v_cells⟩ := gridO q1
  have oo1_v_cells := h1_v_cells.one
  repeat (first | refine R1 ?_ | (refine R2 ?_; intro _))
  refine fp (y_callV (toEdit_v _ x.edit) (by rfl) ?_)
  repeat (first | refine R1 ?_ | (refine R2 ?_; intro _))
  refine fp (y_call (toIntS_f _ _ _ s_lights1 (by omega)) (by rfl) fun w3 K3 g3 => ?_)
  have o3 := g3.one
  repeat (first | refine R1 ?_ | (refine R2 ?_; intro _))
  exact sf_ret (rO (K1 ++ (K3)) ⟨_, rfl, wordO_mk h1_v_cells l1_v_cells g3 (by omega)⟩)
end Go.Proofs.YtekjikbaefgncaaGreat

/- The law FnExactPaintHear: it answers true. -/
namespace Go.Proofs.YtekjikbaefgncaaGreat
open Go Go.Sl
set_option maxRecDepth 100000
set_option maxHeartbeats 4000000
attribute [local irreducible] Go.Code.sf sfOps Opq opo retF Do1 anyO
variable {M : Jdg → Prop} [IsCl Tryz.prog M]
theorem wordO_one2 {A : Own} {cs : List Value} {w : Word} (b : (wordR τ).O A cs w) : ∃ c l, cs = wordCs w c l ∧ Sl.One c ∧ Sl.One l := by
  obtain ⟨c, l, _, _, e, -, ⟨g1, -⟩, ⟨g2, -⟩⟩ := wordO b
  exact ⟨c, l, e, g1.one, g2.one⟩
theorem painterO_one {A : Own} {cs : List Value} {p : Painter} (b : (painterR τ).O A cs p) : ∃ c l f, cs = [.bool p.up, .bool p.has, .int .i64 p.ver, .int .i64 p.scene.grid.wide, c, l, f] ∧ Sl.One c ∧ Sl.One l ∧ Sl.One f := by
  obtain ⟨c, l, f, _, _, _, e, -, ⟨g1, -⟩, ⟨g2, -⟩, g3⟩ := painterO b
  exact ⟨c, l, f, e, g1.one, g2.one, g3.one⟩
theorem cPainter_le2 (p : Painter) : cPainter p ≤ 3 * szPainterN p := by
  have := sizeL_le (f := cIntS) (g := fun x => 1 * List.length x + 0) p.scene.feet fun x _ => by simp [cIntS_eq]
  rw [sizeL_add] at this
  simp only [cPainter, cScene, cGrid, cCellS, cIntS_eq, cIntSS, sizeL_const, szPainterN, szSceneN, szIntSSN]
  omega
theorem sizeL_all {m : Nat} : ∀ xs : List (List Int), (∀ x ∈ xs, x.length ≤ m) → sizeL List.length xs ≤ m * xs.length
  | [], _ => by simp [sizeL]
  | x :: xs, h => by
    have h1 := h x (by simp)
    have h2 := sizeL_all xs fun y hy => h y (by simp [hy])
    simp only [sizeL, List.length_cons, Nat.mul_add]; omega
theorem footOf_small {g : Grid} (h : gridOk g = true) (k : Int) : (footOf g k).length ≤ 25 := by
  have h1 := (gok h).small
  have h2 := footIs_len g (goLight g k).1
  unfold footOf; omega
theorem feetOf_small {g : Grid} (h : gridOk g = true) : ∀ x ∈ feetOf g, x.length ≤ 25 := fun x hx => by
  simp only [feetOf, List.mem_map] at hx
  obtain ⟨k, _, rfl⟩ := hx
  exact footOf_small h _
theorem lookF_small {g : Grid} (h : gridOk g = true) : ∀ (ks : List Nat) (l : List (List Int)), (∀ x ∈ l, x.length ≤ 25) → ∀ x ∈ lookF g ks l, x.length ≤ 25
  | [], l, hl => hl
  | k :: ks, l, hl => lookF_small h ks (l.set k (footOf g k)) fun x hx => by
    rcases List.mem_or_eq_of_mem_set hx with hx | rfl
    · exact hl x hx
    · exact footOf_small h _
theorem sz_sceneOf {g : Grid} (h : gridOk g = true) : szSceneN (sceneOf g) ≤ 1000 := by
  have h1 := (gok h).small
  have h2 := (gok h).many
  have h3 := sizeL_all _ (feetOf_small h)
  simp only [szSceneN, szIntSSN, sceneOf, picOf_len] at h3 ⊢
  rw [feetOf_len] at h3 ⊢
  omega
theorem sz_editScene {s : Scene} {e : Edit} (h : sceneOk s = true) (he : editOk s.grid e = true) : szSceneN (editScene s e) ≤ 1000 := by
  obtain ⟨hg, hs⟩ := sceneOk_is h
  have h1 := (gok hg).small
  have h2 := (gok hg).many
  have hf : s.feet = feetOf s.grid := congrArg Scene.feet hs
  have hl : s.lights.length = (picOf s.grid).length := congrArg (fun x => x.lights.length) hs
  have h3 := sizeL_all _ (lookF_small (gridOk_put hg he) (touched s.feet e.at') s.feet (by rw [hf]; exact feetOf_small hg))
  have h4 : s.feet.length = (manyOf s.grid).toNat := by rw [hf, feetOf_len]
  rw [picOf_len] at hl
  rw [lookF_len] at h3
  simp only [szSceneN, szIntSSN, editScene, lookL_len, lookF_len, putCell, List.length_set] at h3 ⊢
  omega
theorem paintHear_sz (p : Painter) (w : Word) : szPainterN (paintHear p w) ≤ szPainterN p + 1000 := by
  unfold paintHear
  split
  · rename_i ok
    unfold paintHeard
    split
    · omega
    · split
      · split
        · rename_i h
          have := sz_sceneOf h.2.2
          simp only [szPainterN]; omega
        · omega
      · split
        · split
          · rename_i h
            have := sz_editScene (paintOk_has ok h.1).2.2.2 h.2.2.2
            simp only [szPainterN]; omega
          · omega
        · omega
  · simp [noPainter, noScene, noGrid, szPainterN, szSceneN, szIntSSN, sizeL]
theorem paintHear_body [al : Alone Tryz.prog M] (h : PHeap) (ca : List Value) (cb : List Value) (p : Painter) (w : Word) (b : (painterR τ).B h ca p) (be : (wordR τ).B h cb w) : ∃ c, Tryz.f5.body = some c ∧ c.sf Tryz.prog M Tryz.f5.ntmps (retF Tryz.prog Tryz.f5 Tryz.f5.ntmps (fun v _ => v = .bool true) fun _ _ => False) (argsL 0 [.agg ca.toArray, .agg cb.toArray]) [] h := by
  have b0 := b
  have bw0 := be
  obtain ⟨c, l, f, rfl, s1, s2, s3⟩ := painterB b
  obtain ⟨wc, wl, ecb, sw1, sw2⟩ := wordB be
  have ecb' : cb = [.int .i64 w.kind, .int .i64 w.to, .int .i64 w.frm, .int .i64 w.ver, .int .i64 w.grid.wide, wc, .int .i64 w.edit.at', .int .i64 w.edit.cell.kind, .int .i64 w.edit.cell.light, wl] := ecb
  subst ecb'
  clear ecb be
  have o1 := s1.one
  have o2 := s2.one
  have o3 := s3.one
  have o5 := sw1.one
  have o6 := sw2.one
  refine ⟨_, rfl, ?_⟩
  rw [Tryz.ntmps5]
  simp only [argsL, Nat.reduceAdd]
  repeat (first | refine R1 ?_ | (refine R2 ?_; intro _))
  refine fp (y_callV (szPainter_v _ _ p b0 1048576 (by decide) (by decide)) (by rfl) ?_)
  repeat (first | refine R1 ?_ | (refine R2 ?_; intro _))
  refine sf_if (fun h1 => ?_) fun h1 => ?_
  · repeat (first | refine R1 ?_ | (refine R2 ?_; intro _))
    exact sf_ret (rO [] rfl)
  have hs0 := szF_ge h1
  have hs : szPainterN p ≤ 1048576 := by have := hs0.1; omega
  repeat (first | refine R1 ?_ | (refine R2 ?_; intro _))
  refine fp (y_callV (szWord_v _ _ w bw0 (szF (szPainterN p) 1048576) (by omega) (by omega)) (by rfl) ?_)
  repeat (first | refine R1 ?_ | (refine R2 ?_; intro _))
  refine sf_if (fun h2 => ?_) fun h2 => ?_
  · repeat (first | refine R1 ?_ | (refine R2 ?_; intro _))
    exact sf_ret (rO [] rfl)
  have hsw : szWordN w ≤ 1048576 := by have := (szF_ge h2).1; omega
  have hck := cPainter_le2 p
  have hcg := cPainter_le2 (paintHear p w)
  have hsz := paintHear_sz p w
  have hcw : cWord w ≤ 3 * szWordN w := by simp only [cWord, cGrid, cCellS, cIntS_eq, sizeL_const, szWordN]; omega
  clear h1 h2 hs0
  refine sf_keep [2, 3] ?_
  repeat (first | refine R1 ?_ | (refine R2 ?_; intro _))
  rename_i b2 b3
  apply via
  · intro tail
    refine sf_draw (by kernel_rfl) (regX_split 1 5 (by rfl) (regX_split 3 5 (by rfl) (regX_split 4 5 (by rfl) ?_ ?_) ?_) ?_)
    case' refine_1 =>
      refine (regX_run [[], [0], [], [0, 1, 2], [0, 1, 2, 3], [0, 1, 2, 3, 4], [0, 1, 2, 3, 4, 5]] 3 [(0, false), (2, false), (1, true)] (by kernel_rfl) (by kernel_rfl) (by kernel_rfl) ?_)
      repeat (refine Da1 ?_)
      refine a_call (toPainter_f _ _ p b0 hs) (by rfl) (by rfl) (.inl rfl) ?_
      rintro _ A1 ⟨c1, rfl, q1⟩
      repeat (refine Da1 ?_)
      (refine a_end (by rfl) (by rfl) ?_; simp only [finA, setL, List.drop_succ_cons, List.drop_zero])
      refine fp (y_call (toWord_f _ _ w bw0 hsw) (by rfl) ?_)
      rintro _ AW ⟨c2, rfl, qw⟩
      refine fp (y_call (lendF (A1 ++ AW) fun h' _ i => sPaintHear_f h' _ _ p w ((painterR τ).lent q1 (inb_l i)) hs ((wordR τ).lent qw (inb_r i))) (by rfl) ?_)
      rintro _ _ ⟨A0, rfl, c0, rfl, q0⟩
      obtain ⟨x1, x2, x3, rfl, p1, p2, p3⟩ := painterO_one q0
      refine R2 ?_
      intro b6
    case' refine_2 =>
      refine (regX_run [[], [0], [], [0, 1, 2], [0, 1, 2, 3, 5], [0, 1, 2, 3], [0, 1, 2, 3, 4, 5]] 6 [(0, false), (2, false), (1, true), (3, true), (5, true), (4, true)] (by kernel_rfl) (by kernel_rfl) (by kernel_rfl) ?_)
      repeat (refine Da1 ?_)
      refine a_call (toPainter_f _ _ p b0 hs) (by rfl) (by rfl) (.inl rfl) ?_
      rintro _ A1 ⟨c1, rfl, q1⟩
      repeat (refine Da1 ?_)
      refine a_call (toWord_f _ _ w bw0 hsw) (by rfl) (by rfl) (.inl rfl) ?_
      rintro _ AW ⟨c2, rfl, qw⟩
      repeat (refine Da1 ?_)
      refine a_alloc (by rfl) (.inl rfl) fun b6 => ?_
      repeat (refine Da1 ?_)
      refine a_call (lendF (A1 ++ AW) fun h' _ i => sPaintHear_f h' _ _ p w ((painterR τ).lent q1 (inb_l i)) hs ((wordR τ).lent qw (inb_r i))) (by rfl) (by rfl) (.inl rfl) ?_
      rintro _ _ ⟨A0, rfl, c0, rfl, q0⟩
      obtain ⟨x1, x2, x3, rfl, p1, p2, p3⟩ := painterO_one q0
      repeat (refine Da1 ?_)
      (refine a_end (by rfl) (by rfl) ?_; simp only [finA, setL, List.drop_succ_cons, List.drop_zero])
    case' refine_3 =>
      refine (regX_run [[], [0], [], [0, 1, 2, 5], [0, 1, 2, 3, 5], [0, 1], [0, 1, 2, 3, 4, 5]] 6 [(0, false), (2, false), (1, true), (5, true), (3, true), (4, true)] (by kernel_rfl) (by kernel_rfl) (by kernel_rfl) ?_)
      repeat (refine Da1 ?_)
      refine a_call (toPainter_f _ _ p b0 hs) (by rfl) (by rfl) (.inl rfl) ?_
      rintro _ A1 ⟨c1, rfl, q1⟩
      repeat (refine Da1 ?_)
      refine a_alloc (by rfl) (.inl rfl) fun b6 => ?_
      repeat (refine Da1 ?_)
      refine a_call (toWord_f _ _ w bw0 hsw) (by rfl) (by rfl) (.inl rfl) ?_
      rintro _ AW ⟨c2, rfl, qw⟩
      repeat (refine Da1 ?_)
      refine a_call (lendF (A1 ++ AW) fun h' _ i => sPaintHear_f h' _ _ p w ((painterR τ).lent q1 (inb_l i)) hs ((wordR τ).lent qw (inb_r i))) (by rfl) (by rfl) (.inl rfl) ?_
      rintro _ _ ⟨A0, rfl, c0, rfl, q0⟩
      obtain ⟨x1, x2, x3, rfl, p1, p2, p3⟩ := painterO_one q0
      repeat (refine Da1 ?_)
      (refine a_end (by rfl) (by rfl) ?_; simp only [finA, setL, List.drop_succ_cons, List.drop_zero])
    case' refine_4 =>
      refine (regX_run [[], [0, 5], [], [0, 1, 2, 5], [0, 1, 2, 3, 5], [], [0, 1, 2, 3, 4, 5]] 6 [(0, false), (2, false), (5, true), (1, true), (3, true), (4, true)] (by kernel_rfl) (by kernel_rfl) (by kernel_rfl) ?_)
      repeat (refine Da1 ?_)
      refine a_alloc (by rfl) (.inl rfl) fun b6 => ?_
      repeat (refine Da1 ?_)
      refine a_call (toPainter_f _ _ p b0 hs) (by rfl) (by rfl) (.inl rfl) ?_
      rintro _ A1 ⟨c1, rfl, q1⟩
      repeat (refine Da1 ?_)
      refine a_call (toWord_f _ _ w bw0 hsw) (by rfl) (by rfl) (.inl rfl) ?_
      rintro _ AW ⟨c2, rfl, qw⟩
      repeat (refine Da1 ?_)
      refine a_call (lendF (A1 ++ AW) fun h' _ i => sPaintHear_f h' _ _ p w ((painterR τ).lent q1 (inb_l i)) hs ((wordR τ).lent qw (inb_r i))) (by rfl) (by rfl) (.inl rfl) ?_
      rintro _ _ ⟨A0, rfl, c0, rfl, q0⟩
      obtain ⟨x1, x2, x3, rfl, p1, p2, p3⟩ := painterO_one q0
      repeat (refine Da1 ?_)
      (refine a_end (by rfl) (by rfl) ?_; simp only [finA, setL, List.drop_succ_cons, List.drop_zero])
    all_goals
      refine R1 ?_
      refine R1 ?_
      refine sf_keep [2, 3, 6] ?_
      refine sf_own ((b6, .cells #[.bool (paintHear p w).up, .bool (paintHear p w).has, .int .i64 (paintHear p w).ver, .int .i64 (paintHear p w).scene.grid.wide, x1, x2, x3] 39) :: (A0 ++ [(b3, .cells #[.int .i64 w.kind, .int .i64 w.to, .int .i64 w.frm, .int .i64 w.ver, .int .i64 w.grid.wide, wc, .int .i64 w.edit.at', .int .i64 w.edit.cell.kind, .int .i64 w.edit.cell.light, wl] 59), (b2, .cells #[.bool p.up, .bool p.has, .int .i64 p.ver, .int .i64 p.scene.grid.wide, c, l, f] 30)])) ?_
      clear q1 qw
      revert p3; revert p2; revert p1; revert q0; revert x3; revert x2; revert x1; revert A0; revert b6
      exact tail
  intro b6 A0 x1 x2 x3 q0 p1 p2 p3
  have q0' := q0
  clear q0
  repeat (first | refine R1 ?_ | (refine R2 ?_; intro _))
  refine fp (y_call (toPainter_f _ _ p b0 hs) (by rfl) ?_)
  rintro _ A2 ⟨_, rfl, q2⟩
  have q2' := q2
  obtain ⟨y1, y2, y3, rfl, p5, p6, p7⟩ := painterO_one q2
  clear q2
  repeat (first | refine R1 ?_ | (refine R2 ?_; intro _))
  refine fp (y_call (toWord_f _ _ w bw0 hsw) (by rfl) ?_)
  rintro _ AW ⟨_, rfl, qw⟩
  have qw' := qw
  obtain ⟨u1, u2, rfl, pw1, pw2⟩ := wordO_one2 qw
  clear qw
  repeat (first | refine R1 ?_ | (refine R2 ?_; intro _))
  refine fp (y_call (lendF (A2 ++ AW) fun h' _ i => paintHear_f h' _ _ p w ((painterR τ).lent q2' (inb_l i)) hs ((wordR τ).lent qw' (inb_r i))) (by rfl) ?_)
  rintro _ _ ⟨A3, rfl, c3, rfl, q3⟩
  have q3' := q3
  obtain ⟨z1, z2, z3, rfl, r1, r2, r3⟩ := painterO_one q3
  clear q3
  repeat (first | refine R1 ?_ | (refine R2 ?_; intro _))
  rename_i b7 b8 b9
  refine fp (y_lendV (A3 ++ A0) (fun h' _ i => eqPainter_v h' _ _ _ _ ((painterR τ).lent q3' (inb_l i)) ((painterR τ).lent q0' (inb_r i))) (by rfl) ?_)
  simp only [decide_true]
  repeat (first | refine R1 ?_ | (refine R2 ?_; intro _))
  refine sf_cond (by rfl) (fun eh => by simp at eh) fun eh => ?_
  clear eh
  refine sf_keep [2, 3, 6, 7, 8, 9] ?_
  repeat (first | refine R1 ?_ | (refine R2 ?_; intro _))
  refine sf_draw (by kernel_rfl) (regX_run [[], [], [1], [0, 1, 2], [0, 1, 2, 3]] 3 [(0, false), (1, false), (2, true)] (by kernel_rfl) (by kernel_rfl) (by kernel_rfl) ?_)
  repeat (refine Da1 ?_)
  refine a_call (toPainter_f _ _ p b0 hs) (by rfl) (by rfl) (.inl rfl) ?_
  rintro _ A5 ⟨_, rfl, q5⟩
  (refine a_end (by rfl) (by rfl) ?_; simp only [finA, setL, List.drop_succ_cons, List.drop_zero])
  refine fp (y_lendV (A2 ++ A5) (fun h' _ i => eqPainter_v h' _ _ _ _ ((painterR τ).lent q2' (inb_l i)) ((painterR τ).lent q5 (inb_r i))) (by rfl) ?_)
  simp only [decide_true]
  repeat (first | refine R1 ?_ | (refine R2 ?_; intro _))
  refine sf_cond (by rfl) (fun eh => by simp at eh) fun eh => ?_
  clear eh
  refine sf_keep [2, 3, 6, 7, 8, 9] ?_
  repeat (first | refine R1 ?_ | (refine R2 ?_; intro _))
  refine sf_draw (by kernel_rfl) (regX_run [[], [], [1], [0, 1, 2], [0, 1, 2, 3]] 3 [(0, false), (1, false), (2, true)] (by kernel_rfl) (by kernel_rfl) (by kernel_rfl) ?_)
  repeat (refine Da1 ?_)
  refine a_call (toWord_f _ _ w bw0 hsw) (by rfl) (by rfl) (.inl rfl) ?_
  rintro _ A15 ⟨_, rfl, q15⟩
  (refine a_end (by rfl) (by rfl) ?_; simp only [finA, setL, List.drop_succ_cons, List.drop_zero])
  refine fp (y_lendV (AW ++ A15) (fun h' _ i => eqWord_v h' _ _ _ _ ((wordR τ).lent qw' (inb_l i)) ((wordR τ).lent q15 (inb_r i))) (by rfl) ?_)
  simp only [decide_true]
  repeat (first | refine R1 ?_ | (refine R2 ?_; intro _))
  refine sf_cond (by rfl) (fun eh => by simp at eh) fun eh => ?_
  clear eh
  repeat (first | refine R1 ?_ | (refine R2 ?_; intro _))
  refine fp (y_call (markPainter_f _ _ _ _ q2' 1 (by decide) (by omega)) (by rfl) ?_)
  rintro _ A6 ⟨w6, rfl, q6, -, -⟩
  repeat (first | refine R1 ?_ | (refine R2 ?_; intro _))
  refine fp (y_call (markWord_f _ _ _ _ qw' (1 + cPainter p) (by omega) (by omega)) (by rfl) ?_)
  rintro _ A16 ⟨w16, rfl, q16, -, -⟩
  repeat (first | refine R1 ?_ | (refine R2 ?_; intro _))
  refine f_split (fun eh => ?_) fun eh => ?_
  · omega
  repeat (first | refine R1 ?_ | (refine R2 ?_; intro _))
  refine fp (y_lendV (A3 ++ A0) (fun h' _ i => eqPainter_v h' _ _ _ _ ((painterR τ).lent q3' (inb_l i)) ((painterR τ).lent q0' (inb_r i))) (by rfl) ?_)
  simp only [decide_true]
  repeat (first | refine R1 ?_ | (refine R2 ?_; intro _))
  refine sf_cond (by rfl) (fun eh => by simp at eh) fun eh => ?_
  clear eh
  refine sf_keep [2, 3, 6, 9] ?_
  repeat (first | refine R1 ?_ | (refine R2 ?_; intro _))
  refine fp (y_call (markPainter_f _ _ _ _ q3' 1 (by decide) (by omega)) (by rfl) ?_)
  rintro _ A7 ⟨w7, rfl, q7, z7, u7⟩
  repeat (first | refine R1 ?_ | (refine R2 ?_; intro _))
  refine fp (y_lendV A7 (fun h' _ i => heldPainter_v h' _ _ ((painterR τ).lent q7 i) 1 (by decide) (by omega)) (by rfl) ?_)
  rw [u7]
  repeat (first | refine R1 ?_ | (refine R2 ?_; intro _))
  refine sf_if (fun eh => ?_) fun eh => ?_
  · omega
  repeat (first | refine R1 ?_ | (refine R2 ?_; intro _))
  refine sf_if (fun eh => ?_) fun eh => ?_
  · exact absurd rfl eh
  clear eh
  refine sf_keep [2, 3, 6, 9, 11] ?_
  repeat (first | refine R1 ?_ | (refine R2 ?_; intro _))
  apply via
  · intro tail
    refine sf_draw (by kernel_rfl) (regX_split 1 5 (by rfl) (regX_split 3 5 (by rfl) (regX_split 4 5 (by rfl) ?_ ?_) ?_) ?_)
    case' refine_1 =>
      refine (regX_run [[], [0], [], [0, 1, 2], [0, 1, 2, 3], [0, 1, 2, 3, 4], [0, 1, 2, 3, 4, 5]] 3 [(0, false), (2, false), (1, true)] (by kernel_rfl) (by kernel_rfl) (by kernel_rfl) ?_)
      repeat (refine Da1 ?_)
      refine a_call (toPainter_f _ _ p b0 hs) (by rfl) (by rfl) (.inl rfl) ?_
      rintro _ A8 ⟨c1, rfl, q8⟩
      repeat (refine Da1 ?_)
      (refine a_end (by rfl) (by rfl) ?_; simp only [finA, setL, List.drop_succ_cons, List.drop_zero])
      refine fp (y_call (toWord_f _ _ w bw0 hsw) (by rfl) ?_)
      rintro _ A18 ⟨c2, rfl, q18⟩
      refine fp (y_call (lendF (A8 ++ A18) fun h' _ i => paintHear_f h' _ _ p w ((painterR τ).lent q8 (inb_l i)) hs ((wordR τ).lent q18 (inb_r i))) (by rfl) ?_)
      rintro _ _ ⟨A9, rfl, c9, rfl, q9⟩
      obtain ⟨v1, v2, v3, rfl, t1, t2, t3⟩ := painterO_one q9
      refine R2 ?_
      intro b14
    case' refine_2 =>
      refine (regX_run [[], [0], [], [0, 1, 2], [0, 1, 2, 3, 5], [0, 1, 2, 3], [0, 1, 2, 3, 4, 5]] 6 [(0, false), (2, false), (1, true), (3, true), (5, true), (4, true)] (by kernel_rfl) (by kernel_rfl) (by kernel_rfl) ?_)
      repeat (refine Da1 ?_)
      refine a_call (toPainter_f _ _ p b0 hs) (by rfl) (by rfl) (.inl rfl) ?_
      rintro _ A8 ⟨c1, rfl, q8⟩
      repeat (refine Da1 ?_)
      refine a_call (toWord_f _ _ w bw0 hsw) (by rfl) (by rfl) (.inl rfl) ?_
      rintro _ A18 ⟨c2, rfl, q18⟩
      repeat (refine Da1 ?_)
      refine a_alloc (by rfl) (.inl rfl) fun b14 => ?_
      repeat (refine Da1 ?_)
      refine a_call (lendF (A8 ++ A18) fun h' _ i => paintHear_f h' _ _ p w ((painterR τ).lent q8 (inb_l i)) hs ((wordR τ).lent q18 (inb_r i))) (by rfl) (by rfl) (.inl rfl) ?_
      rintro _ _ ⟨A9, rfl, c9, rfl, q9⟩
      obtain ⟨v1, v2, v3, rfl, t1, t2, t3⟩ := painterO_one q9
      repeat (refine Da1 ?_)
      (refine a_end (by rfl) (by rfl) ?_; simp only [finA, setL, List.drop_succ_cons, List.drop_zero])
    case' refine_3 =>
      refine (regX_run [[], [0], [], [0, 1, 2, 5], [0, 1, 2, 3, 5], [0, 1], [0, 1, 2, 3, 4, 5]] 6 [(0, false), (2, false), (1, true), (5, true), (3, true), (4, true)] (by kernel_rfl) (by kernel_rfl) (by kernel_rfl) ?_)
      repeat (refine Da1 ?_)
      refine a_call (toPainter_f _ _ p b0 hs) (by rfl) (by rfl) (.inl rfl) ?_
      rintro _ A8 ⟨c1, rfl, q8⟩
      repeat (refine Da1 ?_)
      refine a_alloc (by rfl) (.inl rfl) fun b14 => ?_
      repeat (refine Da1 ?_)
      refine a_call (toWord_f _ _ w bw0 hsw) (by rfl) (by rfl) (.inl rfl) ?_
      rintro _ A18 ⟨c2, rfl, q18⟩
      repeat (refine Da1 ?_)
      refine a_call (lendF (A8 ++ A18) fun h' _ i => paintHear_f h' _ _ p w ((painterR τ).lent q8 (inb_l i)) hs ((wordR τ).lent q18 (inb_r i))) (by rfl) (by rfl) (.inl rfl) ?_
      rintro _ _ ⟨A9, rfl, c9, rfl, q9⟩
      obtain ⟨v1, v2, v3, rfl, t1, t2, t3⟩ := painterO_one q9
      repeat (refine Da1 ?_)
      (refine a_end (by rfl) (by rfl) ?_; simp only [finA, setL, List.drop_succ_cons, List.drop_zero])
    case' refine_4 =>
      refine (regX_run [[], [0, 5], [], [0, 1, 2, 5], [0, 1, 2, 3, 5], [], [0, 1, 2, 3, 4, 5]] 6 [(0, false), (2, false), (5, true), (1, true), (3, true), (4, true)] (by kernel_rfl) (by kernel_rfl) (by kernel_rfl) ?_)
      repeat (refine Da1 ?_)
      refine a_alloc (by rfl) (.inl rfl) fun b14 => ?_
      repeat (refine Da1 ?_)
      refine a_call (toPainter_f _ _ p b0 hs) (by rfl) (by rfl) (.inl rfl) ?_
      rintro _ A8 ⟨c1, rfl, q8⟩
      repeat (refine Da1 ?_)
      refine a_call (toWord_f _ _ w bw0 hsw) (by rfl) (by rfl) (.inl rfl) ?_
      rintro _ A18 ⟨c2, rfl, q18⟩
      repeat (refine Da1 ?_)
      refine a_call (lendF (A8 ++ A18) fun h' _ i => paintHear_f h' _ _ p w ((painterR τ).lent q8 (inb_l i)) hs ((wordR τ).lent q18 (inb_r i))) (by rfl) (by rfl) (.inl rfl) ?_
      rintro _ _ ⟨A9, rfl, c9, rfl, q9⟩
      obtain ⟨v1, v2, v3, rfl, t1, t2, t3⟩ := painterO_one q9
      repeat (refine Da1 ?_)
      (refine a_end (by rfl) (by rfl) ?_; simp only [finA, setL, List.drop_succ_cons, List.drop_zero])
    all_goals
      refine R1 ?_
      refine R1 ?_
      refine sf_keep [6, 9, 11, 13] ?_
      refine sf_own ((b14, .cells #[.bool (paintHear p w).up, .bool (paintHear p w).has, .int .i64 (paintHear p w).ver, .int .i64 (paintHear p w).scene.grid.wide, v1, v2, v3] 39) :: (A9 ++ ((b9, .cells #[.bool (paintHear p w).up, .bool (paintHear p w).has, .int .i64 (paintHear p w).ver, .int .i64 (paintHear p w).scene.grid.wide, z1, z2, z3] 39) :: (A7 ++ ((b6, .cells #[.bool (paintHear p w).up, .bool (paintHear p w).has, .int .i64 (paintHear p w).ver, .int .i64 (paintHear p w).scene.grid.wide, x1, x2, x3] 39) :: A0))))) ?_
      clear q8 q18
      revert t3; revert t2; revert t1; revert q9; revert v3; revert v2; revert v1; revert A9; revert b14
      exact tail
  intro b14 A9 v1 v2 v3 q9 t1 t2 t3
  repeat (first | refine R1 ?_ | (refine R2 ?_; intro _))
  refine fp (y_lendV (A9 ++ A0) (fun h' _ i => eqPainter_v h' _ _ _ _ ((painterR τ).lent q9 (inb_l i)) ((painterR τ).lent q0' (inb_r i))) (by rfl) ?_)
  simp only [decide_true]
  repeat (first | refine R1 ?_ | (refine R2 ?_; intro _))
  refine sf_cond (by rfl) (fun eh => by simp at eh) fun eh => ?_
  clear eh
  refine sf_keep [9, 11] ?_
  repeat (first | refine R1 ?_ | (refine R2 ?_; intro _))
  refine fp (y_lendV A7 (fun h' _ i => heldPainter_v h' _ _ ((painterR τ).lent q7 i) 1 (by decide) (by omega)) (by rfl) ?_)
  rw [u7]
  repeat (first | refine R1 ?_ | (refine R2 ?_; intro _))
  refine sf_if (fun eh => ?_) fun eh => ?_
  · omega
  refine sf_keep [9, 11, 12] ?_
  repeat (first | refine R1 ?_ | (refine R2 ?_; intro _))
  refine sf_if (fun eh => ?_) fun eh => ?_
  · exact absurd rfl eh
  refine sf_keep [9] ?_
  repeat (first | refine R1 ?_ | (refine R2 ?_; intro _))
  exact sf_ret (rO [] rfl)
end Go.Proofs.YtekjikbaefgncaaGreat

/- Walks of the seat: SJ G1 G2 XeA XeB XsA XsB XsP XtA XtB XtP EI. -/
import Derived.Test.YtekjikbaefgncaaGreatOwnB
import Derived.Test.YtekjikbaefgncaaGreatOwnA
import Derived.Test.YtekjikbaefgncaaGreatSmH
import Derived.Test.YtekjikbaefgncaaGreatLibC
set_option linter.unusedVariables false
set_option linter.unusedSimpArgs false
set_option linter.unusedSectionVars false
/- Walks: looks and scenes: the reference's. -/
namespace Go.Proofs.YtekjikbaefgncaaGreat
open Go Go.Sl
set_option maxRecDepth 100000
set_option maxHeartbeats 4000000
attribute [local irreducible] Go.Code.sf sfOps Opq opo retF Do1 anyO
variable {M : Jdg → Prop} [IsCl Tryz.prog M]
instance elemF_ints_SJ : ElemF Tryz.prog 25 (rawF (intSR τ).sz) := ⟨trivial⟩

/-- One of one's own slices of slices put anew. -/
theorem l13Look_f (h : PHeap) (c : Value) (g : Grid) (s : Sl h c cellF g.cells) (e : gridOk g = true) (l f : Value) (A2 A3 : Own) (ls : List Int) (fs : List (List Int)) (gl : Gr A2 l 3 intF ls) (gf : GrR (intSR τ) A3 f 25 fs) (k : Nat) (hk : (k : Int) < manyOf g) (hl : k < ls.length) (hf : k < fs.length) :
    CallF Tryz.prog M 81 [.agg #[.int .i64 g.wide, c, l, f], .int .i64 (k : Int)] (A2 ++ A3) h fun u A => ∃ A2' A3', u = .agg #[.int .i64 g.wide, c, l, f] ∧ A = A2' ++ A3' ∧ Gr A2' l 3 intF (ls.set k (trailLight g k)) ∧ GrR (intSR τ) A3' f 25 (fs.set k (footOf g k)) := by
  have o1 := s.one
  have o2 := gl.one
  have o3 := gf.one
  have kg := gok e
  have hsm := kg.small
  obtain ⟨sz, vs, es, hc, hg, hsz, hok⟩ := goLight_is kg (j := (k : Int)) (by omega) hk
  have hle := hok.le
  have hlv := hok.lv
  have hes : ∀ e ∈ es, EndOk g 64 e := hok.es
  have hvs : ∀ v ∈ vs, 0 ≤ v.at' ∧ v.at' < g.cells.length := fun v hv => ⟨(hok.vs v hv).a0, (hok.vs v hv).a1⟩
  simp only at hle hlv
  obtain ⟨F0, F1, rfl, rs, gr, oa, hb⟩ := gf
  have hr := oa.len
  refine calls_of_sf Tryz.func81 rfl Tryz.ntmps81 ?_
  simp only [argsL, Nat.reduceAdd]
  repeat (first | refine R1 ?_ | (refine R2 ?_; intro _))
  rename_i b2 b4
  refine fp (y_call (l11Go_f (M := M) _ c g s kg (k : Int) ⟨by omega, hk⟩) (by rfl) ?_)
  rintro _ _ ⟨b5, rfl, vv, ev, AV, AE, rfl, gv, ge⟩
  rw [hg] at gv ge
  simp only at gv ge
  have o4 := gv.one
  have o5 := ge.one
  have htl : trailLight g (k : Int) = lightOf g es := by rw [trailLight, hg]
  have hft : footOf g (k : Int) = footIs g vs := by rw [footOf, hg]
  rw [htl, hft]
  clear hc hg
  repeat (first | refine R1 ?_ | (refine R2 ?_; intro _))
  refine sf_draw (by kernel_rfl) (regX_own (AE) (regX_runW _ [[], [0], [], [], [3], [], [5], [5, 6], [5, 6, 7], [3, 4, 5, 6, 7, 8], [0, 1, 2, 3, 4, 5, 6, 7, 8, 9], [0, 1, 2, 3, 4, 5, 6, 7, 8, 9, 10]] 10 [(0, false), (1, false), (2, false), (3, false), (4, false), (5, false), (6, false), (7, false), (8, false), (9, true)] (by kernel_rfl) (by kernel_rfl) (by kernel_rfl) ?_))
  repeat (refine Da1 ?_)
  refine a_call (lendV AE fun h' l i => l11Light_v (M := M) h' c g (s.le l.le) kg ev es (ge.lent (by omega) i) hes (by omega)) (by rfl) (by rfl) (.inl rfl) ?_
  rintro _ _ ⟨rfl, rfl⟩
  repeat (refine Da1 ?_)
  (refine a_end (by rfl) (by rfl) ?_; simp only [finA, setL, List.drop_succ_cons, List.drop_zero])
  repeat (first | refine R1 ?_ | (refine R2 ?_; intro _))
  refine fp (y_storeG0 (by rfl) (by rfl) gl (by omega) (by rfl) fun A5 ys hy hly fv g5 => ?_)
  repeat (first | refine R1 ?_ | (refine R2 ?_; intro _))
  refine sf_draw (by kernel_rfl) (regX_own (AV) (regX_runW _ [[], [0], [], [], [3], [], [5], [5, 6], [5, 6, 7], [3, 4, 5, 6, 7, 8], [0, 1, 2, 3, 4, 5, 6, 7, 8, 9], [0, 1, 2, 3, 4, 5, 6, 7, 8, 9, 10]] 10 [(0, false), (1, false), (2, false), (3, false), (4, false), (5, false), (6, false), (7, false), (8, false), (9, true)] (by kernel_rfl) (by kernel_rfl) (by kernel_rfl) ?_))
  repeat (refine Da1 ?_)
  refine a_call (lendF AV fun h' l i => l11Foot_f (M := M) h' c g (s.le l.le) kg vv vs (gv.lent (by omega) i) hvs) (by rfl) (by rfl) (.inl rfl) ?_
  rintro w _ ⟨AW, rfl, gw⟩
  have o6 := gw.one
  repeat (refine Da1 ?_)
  (refine a_end (by rfl) (by rfl) ?_; simp only [finA, setL, List.drop_succ_cons, List.drop_zero])
  repeat (first | refine R1 ?_ | (refine R2 ?_; intro _))
  refine fp (y_storeG0 (by rfl) (by rfl) gr (by omega) (by rfl) fun A6 zs hz hlz fz g6 => ?_)
  repeat (first | refine R1 ?_ | (refine R2 ?_; intro _))
  obtain ⟨B1, Bk, B2, rfl, q1, q2⟩ := oa.at hf
  have q3 := q2 AW ⟨[w], rfl⟩ (footIs g vs) ⟨w, rfl, gw, by have := footIs_len g vs; omega⟩
  rw [hy] at g5
  rw [hz] at g6
  exact sf_ret (rO (A5 ++ (A6 ++ (B1 ++ (AW ++ B2)))) ⟨A5, A6 ++ (B1 ++ (AW ++ B2)), rfl, rfl, g5, A6, _, rfl, _, g6, q3, by simp; omega⟩)
theorem l21None_v (h : PHeap) (ca : List Value) (s : Scene) (b : (sceneR τ).B h ca s) : CallV Tryz.prog M 23 [.agg ca.toArray] h (.bool (decide (s = noScene))) := by
  obtain ⟨c, l, f, rfl, s1, s2, s3⟩ := sceneB b
  have o1 := s1.one
  have o2 := s2.one
  have o3 := s3.one
  obtain ⟨rs, s3, bs⟩ := s3
  have lb := bs.len
  have key : decide (s = noScene) = (decide (s.grid.wide = 0) && decide ((s.grid.cells.length : Int) = 0) && decide ((s.lights.length : Int) = 0) && decide ((rs.length : Int) = 0)) := by
    obtain ⟨⟨w, cs⟩, ls, fs⟩ := s
    simp only at lb
    simp only [noScene, noGrid, Scene.mk.injEq, Grid.mk.injEq]
    rw [lb]
    by_cases h1 : w = 0 <;> by_cases h2 : cs = [] <;> by_cases h3 : ls = [] <;> by_cases h4 : fs = [] <;> simp [h1, h2, h3, h4]
  rw [key]
  refine calls_of_sf Tryz.func23 rfl Tryz.ntmps23 ?_
  simp only [argsL, Nat.reduceAdd]
  repeat (first | refine R1 ?_ | (refine R2 ?_; intro _))
  refine f_split (fun h1 => ?_) fun h1 => ?_
  · repeat (first | refine R1 ?_ | (refine R2 ?_; intro _))
    refine f_split (fun h2 => ?_) fun h2 => ?_
    · repeat (first | refine R1 ?_ | (refine R2 ?_; intro _))
      refine f_split (fun h3 => ?_) fun h3 => ?_
      · repeat (first | refine R1 ?_ | (refine R2 ?_; intro _))
        refine sf_ret (rV ?_)
        simp [h1, h2, h3]
      · have h3' : ¬ s.lights = [] := fun e => h3 (by rw [e]; rfl)
        repeat (first | refine R1 ?_ | (refine R2 ?_; intro _))
        refine sf_ret (rV ?_)
        simp [h3']
    · have h2' : ¬ s.grid.cells = [] := fun e => h2 (by rw [e]; rfl)
      repeat (first | refine R1 ?_ | (refine R2 ?_; intro _))
      refine sf_ret (rV ?_)
      simp [h2']
  · repeat (first | refine R1 ?_ | (refine R2 ?_; intro _))
    refine sf_ret (rV ?_)
    simp [h1]
theorem l21Id_v (h : PHeap) (id many : Int) : CallV Tryz.prog M 30 [.int .i64 id, .int .i64 many] h (.bool (idOk id many)) := by
  refine calls_of_sf Tryz.func30 rfl Tryz.ntmps30 ?_
  simp only [argsL, Nat.reduceAdd]
  repeat (first | refine R1 ?_ | (refine R2 ?_; intro _))
  refine fp (y_callV (l6In_v _ _ _ _) (by rfl) ?_)
  repeat (first | refine R1 ?_ | (refine R2 ?_; intro _))
  refine f_splitB (fun h1 => ?_) fun h1 => ?_
  · repeat (first | refine R1 ?_ | (refine R2 ?_; intro _))
    refine fp (y_callV (l6In_v _ _ _ _) (by rfl) ?_)
    repeat (first | refine R1 ?_ | (refine R2 ?_; intro _))
    refine sf_ret (rV ?_)
    simp only [idOk, h1, Bool.true_and, Bool.and_assoc]
  · repeat (first | refine R1 ?_ | (refine R2 ?_; intro _))
    refine sf_ret (rV ?_)
    simp only [idOk, h1, Bool.false_and]

theorem scene_step {xs : List (List Int)} {k : Nat} (h : k < xs.length) : (xs.take k ++ List.replicate (xs.length - k) []).set k (gt xs k) = xs.take (k + 1) ++ List.replicate (xs.length - (k + 1)) [] := set_step h
theorem nils_all (n : Nat) : OAll (intSR τ) [] (List.replicate n ⟨[.slice none 0 0], rfl⟩) (List.replicate n []) := by
  induction n with
  | zero => exact .nil
  | succ n ih => exact .cons (A := []) ⟨_, rfl, Gr.nil _ _, by simp⟩ ih
theorem sSceneNew_f (h : PHeap) (ca : List Value) (g : Grid) (b : (gridR τ).B h ca g) : CallF Tryz.prog M 52 [.agg ca.toArray] [] h fun u A => ∃ cs, u = .tuple #[.agg cs.toArray, .bool (sceneNew g).2] ∧ (sceneR τ).O A cs (sceneNew g).1 := by
  have b0 := b
  obtain ⟨c, rfl, s⟩ := gridB b
  have o1 := s.one
  have hN : (sceneR τ).O [] [.int .i64 0, .slice none 0 0, .slice none 0 0, .slice none 0 0] noScene := sceneO_mk (s := noScene) (Gr.nil _ _) (by decide) (Gr.nil _ _) (by decide) (GrR.nil)
  refine calls_of_sf Tryz.func52 rfl Tryz.ntmps52 ?_
  simp only [argsL, Nat.reduceAdd]
  repeat (first | refine R1 ?_ | (refine R2 ?_; intro _))
  refine fp (y_callV (sGridOk_v _ _ g ⟨c, rfl, s⟩) (by rfl) ?_)
  repeat (first | refine R1 ?_ | (refine R2 ?_; intro _))
  refine sf_cond (by rfl) (fun e => ?_) fun e => ?_
  · simp only [Bool.not_eq_true'] at e
    repeat (first | refine R1 ?_ | (refine R2 ?_; intro _))
    rw [sceneNew, if_neg (by rw [e]; decide)]
    exact sf_ret (rO [] ⟨_, rfl, hN⟩)
  simp only [Bool.not_eq_false'] at e
  rw [sceneNew, if_pos e]
  clear hN
  have kg := gok e
  have hm := kg.many
  have hsm := kg.small
  obtain ⟨N, hN⟩ : ∃ N : Nat, manyOf g = N := ⟨(manyOf g).toNat, by omega⟩
  have lp : (picOf g).length = N := by rw [picOf_len, hN]; simp
  have lf : (feetOf g).length = N := by rw [feetOf_len, hN]; simp
  repeat (first | refine R1 ?_ | (refine R2 ?_; intro _))
  refine fp (y_callV (l3Many_v (M := M) _ c g s kg) (by rfl) ?_)
  rw [hN]
  repeat (first | refine R1 ?_ | (refine R2 ?_; intro _))
  rename_i b1 b2
  apply viaT (G := ∀ (c2 l f : Value) (AC AL AF : Own) (b5 : Nat), Gr AC c2 44 cellF g.cells → Gr AL l 3 intF (List.replicate N 0) → Gr AF f 25 (rawF (intSR τ).sz) (List.replicate N ⟨[.slice none 0 0], rfl⟩) → _)
  · intro tail
    refine sf_draw (by kernel_rfl) (regX_split 1 3 (by rfl) (regX_split 1 5 (by rfl) (regX_split 1 7 (by rfl) (regX_split 3 5 (by rfl) (regX_split 3 7 (by rfl) (regX_split 5 7 (by rfl) ?_ ?_) ?_) (regX_split 3 7 (by rfl) ?_ (regX_split 5 7 (by rfl) ?_ ?_))) (regX_split 3 5 (by rfl) ?_ ?_)) (regX_split 1 7 (by rfl) (regX_split 3 7 (by rfl) ?_ ?_) (regX_split 5 7 (by rfl) ?_ ?_))) (regX_split 1 5 (by rfl) (regX_split 1 7 (by rfl) (regX_split 5 7 (by rfl) ?_ ?_) (regX_split 3 7 (by rfl) ?_ ?_)) (regX_split 1 7 (by rfl) (regX_split 3 5 (by rfl) ?_ ?_) (regX_split 3 5 (by rfl) (regX_split 3 7 (by rfl) (regX_split 5 7 (by rfl) ?_ ?_) ?_) (regX_split 3 7 (by rfl) ?_ (regX_split 5 7 (by rfl) ?_ ?_))))))
    case' refine_1 =>
      refine (regX_run [[], [0], [], [0, 1, 2], [], [0, 1, 2, 3, 4], [0, 1, 2, 3, 4, 5], [0, 1, 2, 3, 4, 5], [0, 1, 2, 3, 4, 5, 6, 7]] 8 [(0, false), (2, false), (4, false), (1, true), (3, true), (5, true), (6, false), (7, true)] (by kernel_rfl) (by kernel_rfl) (by kernel_rfl) ?_)
      repeat (refine Da1 ?_)
      refine a_call (l1Copy_f (M := M) _ _ g (gridB_mk s) (by omega)) (by rfl) (by rfl) (.inl rfl) ?_
      rintro _ AC ⟨_, rfl, q⟩
      obtain ⟨c2, rfl, g1, l1⟩ := gridO q
      have o5 := g1.one
      repeat (refine Da1 ?_)
      refine a_make (by rfl) (by rfl) (by rfl) (by infer_instance) (by infer_instance) (by infer_instance) (by infer_instance) (by infer_instance) (by rfl) (by decide) (by omega) (.inl rfl) fun l AL g2 => ?_
      have o6 := g2.one
      repeat (refine Da1 ?_)
      refine a_make (by rfl) (by rfl) (by rfl) (by infer_instance) (by infer_instance) (by infer_instance) (by infer_instance) (by infer_instance) (by rfl) (by decide) (by omega) (.inl rfl) fun f AF g3 => ?_
      have o7 := g3.one
      repeat (refine Da1 ?_)
      refine a_alloc (by rfl) (.inl rfl) fun b5 => ?_
      repeat (refine Da1 ?_)
      (refine a_end (by rfl) (by rfl) ?_; simp only [finA, setL, List.drop_succ_cons, List.drop_zero])
      repeat (first | refine R1 ?_ | (refine R2 ?_; intro _))
      refine sf_keep [2, 4, 5, 6] ?_
      refine sf_own ((b5, .cells #[.int .i64 g.wide, c2, l, f] 37) :: (AC ++ (AL ++ (AF ++ [(b2, .cells #[.int .i64 0, .slice none 0 0, .slice none 0 0, .slice none 0 0] 37), (b1, .cells #[.int .i64 g.wide, c] 35)])))) ?_
      exact tail.out c2 l f AC AL AF b5 g1 g2 g3
    case' refine_2 =>
      refine (regX_run [[], [0], [], [0, 1, 2], [], [0, 1, 2, 3, 4, 7], [0, 1, 2, 3, 4, 5, 7], [0, 1, 2, 3], [0, 1, 2, 3, 4, 5, 6, 7]] 8 [(0, false), (2, false), (4, false), (1, true), (3, true), (7, true), (5, true), (6, false)] (by kernel_rfl) (by kernel_rfl) (by kernel_rfl) ?_)
      repeat (refine Da1 ?_)
      refine a_call (l1Copy_f (M := M) _ _ g (gridB_mk s) (by omega)) (by rfl) (by rfl) (.inl rfl) ?_
      rintro _ AC ⟨_, rfl, q⟩
      obtain ⟨c2, rfl, g1, l1⟩ := gridO q
      have o5 := g1.one
      repeat (refine Da1 ?_)
      refine a_make (by rfl) (by rfl) (by rfl) (by infer_instance) (by infer_instance) (by infer_instance) (by infer_instance) (by infer_instance) (by rfl) (by decide) (by omega) (.inl rfl) fun l AL g2 => ?_
      have o6 := g2.one
      repeat (refine Da1 ?_)
      refine a_alloc (by rfl) (.inl rfl) fun b5 => ?_
      repeat (refine Da1 ?_)
      refine a_make (by rfl) (by rfl) (by rfl) (by infer_instance) (by infer_instance) (by infer_instance) (by infer_instance) (by infer_instance) (by rfl) (by decide) (by omega) (.inl rfl) fun f AF g3 => ?_
      have o7 := g3.one
      repeat (refine Da1 ?_)
      (refine a_end (by rfl) (by rfl) ?_; simp only [finA, setL, List.drop_succ_cons, List.drop_zero])
      repeat (first | refine R1 ?_ | (refine R2 ?_; intro _))
      refine sf_keep [2, 4, 5, 6] ?_
      refine sf_own ((b5, .cells #[.int .i64 g.wide, c2, l, f] 37) :: (AC ++ (AL ++ (AF ++ [(b2, .cells #[.int .i64 0, .slice none 0 0, .slice none 0 0, .slice none 0 0] 37), (b1, .cells #[.int .i64 g.wide, c] 35)])))) ?_
      exact tail.out c2 l f AC AL AF b5 g1 g2 g3
    case' refine_3 =>
      refine (regX_run [[], [0], [], [0, 1, 2, 7], [], [0, 1, 2, 3, 4, 7], [0, 1, 2, 3, 4, 5, 7], [0, 1], [0, 1, 2, 3, 4, 5, 6, 7]] 8 [(0, false), (2, false), (4, false), (1, true), (7, true), (3, true), (5, true), (6, false)] (by kernel_rfl) (by kernel_rfl) (by kernel_rfl) ?_)
      repeat (refine Da1 ?_)
      refine a_call (l1Copy_f (M := M) _ _ g (gridB_mk s) (by omega)) (by rfl) (by rfl) (.inl rfl) ?_
      rintro _ AC ⟨_, rfl, q⟩
      obtain ⟨c2, rfl, g1, l1⟩ := gridO q
      have o5 := g1.one
      repeat (refine Da1 ?_)
      refine a_alloc (by rfl) (.inl rfl) fun b5 => ?_
      repeat (refine Da1 ?_)
      refine a_make (by rfl) (by rfl) (by rfl) (by infer_instance) (by infer_instance) (by infer_instance) (by infer_instance) (by infer_instance) (by rfl) (by decide) (by omega) (.inl rfl) fun l AL g2 => ?_
      have o6 := g2.one
      repeat (refine Da1 ?_)
      refine a_make (by rfl) (by rfl) (by rfl) (by infer_instance) (by infer_instance) (by infer_instance) (by infer_instance) (by infer_instance) (by rfl) (by decide) (by omega) (.inl rfl) fun f AF g3 => ?_
      have o7 := g3.one
      repeat (refine Da1 ?_)
      (refine a_end (by rfl) (by rfl) ?_; simp only [finA, setL, List.drop_succ_cons, List.drop_zero])
      repeat (first | refine R1 ?_ | (refine R2 ?_; intro _))
      refine sf_keep [2, 4, 5, 6] ?_
      refine sf_own ((b5, .cells #[.int .i64 g.wide, c2, l, f] 37) :: (AC ++ (AL ++ (AF ++ [(b2, .cells #[.int .i64 0, .slice none 0 0, .slice none 0 0, .slice none 0 0] 37), (b1, .cells #[.int .i64 g.wide, c] 35)])))) ?_
      exact tail.out c2 l f AC AL AF b5 g1 g2 g3
    case' refine_4 =>
      refine (regX_run [[], [0], [], [0, 1, 2, 4, 5], [], [0, 1, 4], [0, 1, 2, 3, 4, 5], [0, 1, 2, 3, 4, 5], [0, 1, 2, 3, 4, 5, 6, 7]] 8 [(0, false), (2, false), (4, false), (1, true), (5, true), (3, true), (6, false), (7, true)] (by kernel_rfl) (by kernel_rfl) (by kernel_rfl) ?_)
      repeat (refine Da1 ?_)
      refine a_call (l1Copy_f (M := M) _ _ g (gridB_mk s) (by omega)) (by rfl) (by rfl) (.inl rfl) ?_
      rintro _ AC ⟨_, rfl, q⟩
      obtain ⟨c2, rfl, g1, l1⟩ := gridO q
      have o5 := g1.one
      repeat (refine Da1 ?_)
      refine a_make (by rfl) (by rfl) (by rfl) (by infer_instance) (by infer_instance) (by infer_instance) (by infer_instance) (by infer_instance) (by rfl) (by decide) (by omega) (.inl rfl) fun f AF g3 => ?_
      have o7 := g3.one
      repeat (refine Da1 ?_)
      refine a_make (by rfl) (by rfl) (by rfl) (by infer_instance) (by infer_instance) (by infer_instance) (by infer_instance) (by infer_instance) (by rfl) (by decide) (by omega) (.inl rfl) fun l AL g2 => ?_
      have o6 := g2.one
      repeat (refine Da1 ?_)
      refine a_alloc (by rfl) (.inl rfl) fun b5 => ?_
      repeat (refine Da1 ?_)
      (refine a_end (by rfl) (by rfl) ?_; simp only [finA, setL, List.drop_succ_cons, List.drop_zero])
      repeat (first | refine R1 ?_ | (refine R2 ?_; intro _))
      refine sf_keep [2, 4, 5, 6] ?_
      refine sf_own ((b5, .cells #[.int .i64 g.wide, c2, l, f] 37) :: (AC ++ (AL ++ (AF ++ [(b2, .cells #[.int .i64 0, .slice none 0 0, .slice none 0 0, .slice none 0 0] 37), (b1, .cells #[.int .i64 g.wide, c] 35)])))) ?_
      exact tail.out c2 l f AC AL AF b5 g1 g2 g3
    case' refine_5 =>
      refine (regX_run [[], [0], [], [0, 1, 2, 4, 5, 7], [], [0, 1, 4], [0, 1, 2, 3, 4, 5, 7], [0, 1, 4, 5], [0, 1, 2, 3, 4, 5, 6, 7]] 8 [(0, false), (2, false), (4, false), (1, true), (5, true), (7, true), (3, true), (6, false)] (by kernel_rfl) (by kernel_rfl) (by kernel_rfl) ?_)
      repeat (refine Da1 ?_)
      refine a_call (l1Copy_f (M := M) _ _ g (gridB_mk s) (by omega)) (by rfl) (by rfl) (.inl rfl) ?_
      rintro _ AC ⟨_, rfl, q⟩
      obtain ⟨c2, rfl, g1, l1⟩ := gridO q
      have o5 := g1.one
      repeat (refine Da1 ?_)
      refine a_make (by rfl) (by rfl) (by rfl) (by infer_instance) (by infer_instance) (by infer_instance) (by infer_instance) (by infer_instance) (by rfl) (by decide) (by omega) (.inl rfl) fun f AF g3 => ?_
      have o7 := g3.one
      repeat (refine Da1 ?_)
      refine a_alloc (by rfl) (.inl rfl) fun b5 => ?_
      repeat (refine Da1 ?_)
      refine a_make (by rfl) (by rfl) (by rfl) (by infer_instance) (by infer_instance) (by infer_instance) (by infer_instance) (by infer_instance) (by rfl) (by decide) (by omega) (.inl rfl) fun l AL g2 => ?_
      have o6 := g2.one
      repeat (refine Da1 ?_)
      (refine a_end (by rfl) (by rfl) ?_; simp only [finA, setL, List.drop_succ_cons, List.drop_zero])
      repeat (first | refine R1 ?_ | (refine R2 ?_; intro _))
      refine sf_keep [2, 4, 5, 6] ?_
      refine sf_own ((b5, .cells #[.int .i64 g.wide, c2, l, f] 37) :: (AC ++ (AL ++ (AF ++ [(b2, .cells #[.int .i64 0, .slice none 0 0, .slice none 0 0, .slice none 0 0] 37), (b1, .cells #[.int .i64 g.wide, c] 35)])))) ?_
      exact tail.out c2 l f AC AL AF b5 g1 g2 g3
    case' refine_6 =>
      refine (regX_run [[], [0], [], [0, 1, 2, 4, 5, 7], [], [0, 1, 4, 7], [0, 1, 2, 3, 4, 5, 7], [0, 1], [0, 1, 2, 3, 4, 5, 6, 7]] 8 [(0, false), (2, false), (4, false), (1, true), (7, true), (5, true), (3, true), (6, false)] (by kernel_rfl) (by kernel_rfl) (by kernel_rfl) ?_)
      repeat (refine Da1 ?_)
      refine a_call (l1Copy_f (M := M) _ _ g (gridB_mk s) (by omega)) (by rfl) (by rfl) (.inl rfl) ?_
      rintro _ AC ⟨_, rfl, q⟩
      obtain ⟨c2, rfl, g1, l1⟩ := gridO q
      have o5 := g1.one
      repeat (refine Da1 ?_)
      refine a_alloc (by rfl) (.inl rfl) fun b5 => ?_
      repeat (refine Da1 ?_)
      refine a_make (by rfl) (by rfl) (by rfl) (by infer_instance) (by infer_instance) (by infer_instance) (by infer_instance) (by infer_instance) (by rfl) (by decide) (by omega) (.inl rfl) fun f AF g3 => ?_
      have o7 := g3.one
      repeat (refine Da1 ?_)
      refine a_make (by rfl) (by rfl) (by rfl) (by infer_instance) (by infer_instance) (by infer_instance) (by infer_instance) (by infer_instance) (by rfl) (by decide) (by omega) (.inl rfl) fun l AL g2 => ?_
      have o6 := g2.one
      repeat (refine Da1 ?_)
      (refine a_end (by rfl) (by rfl) ?_; simp only [finA, setL, List.drop_succ_cons, List.drop_zero])
      repeat (first | refine R1 ?_ | (refine R2 ?_; intro _))
      refine sf_keep [2, 4, 5, 6] ?_
      refine sf_own ((b5, .cells #[.int .i64 g.wide, c2, l, f] 37) :: (AC ++ (AL ++ (AF ++ [(b2, .cells #[.int .i64 0, .slice none 0 0, .slice none 0 0, .slice none 0 0] 37), (b1, .cells #[.int .i64 g.wide, c] 35)])))) ?_
      exact tail.out c2 l f AC AL AF b5 g1 g2 g3
    case' refine_7 =>
      refine (regX_run [[], [0, 7], [], [0, 1, 2, 7], [], [0, 1, 2, 3, 4, 7], [0, 1, 2, 3, 4, 5, 7], [], [0, 1, 2, 3, 4, 5, 6, 7]] 8 [(0, false), (2, false), (4, false), (7, true), (1, true), (3, true), (5, true), (6, false)] (by kernel_rfl) (by kernel_rfl) (by kernel_rfl) ?_)
      repeat (refine Da1 ?_)
      refine a_alloc (by rfl) (.inl rfl) fun b5 => ?_
      repeat (refine Da1 ?_)
      refine a_call (l1Copy_f (M := M) _ _ g (gridB_mk s) (by omega)) (by rfl) (by rfl) (.inl rfl) ?_
      rintro _ AC ⟨_, rfl, q⟩
      obtain ⟨c2, rfl, g1, l1⟩ := gridO q
      have o5 := g1.one
      repeat (refine Da1 ?_)
      refine a_make (by rfl) (by rfl) (by rfl) (by infer_instance) (by infer_instance) (by infer_instance) (by infer_instance) (by infer_instance) (by rfl) (by decide) (by omega) (.inl rfl) fun l AL g2 => ?_
      have o6 := g2.one
      repeat (refine Da1 ?_)
      refine a_make (by rfl) (by rfl) (by rfl) (by infer_instance) (by infer_instance) (by infer_instance) (by infer_instance) (by infer_instance) (by rfl) (by decide) (by omega) (.inl rfl) fun f AF g3 => ?_
      have o7 := g3.one
      repeat (refine Da1 ?_)
      (refine a_end (by rfl) (by rfl) ?_; simp only [finA, setL, List.drop_succ_cons, List.drop_zero])
      repeat (first | refine R1 ?_ | (refine R2 ?_; intro _))
      refine sf_keep [2, 4, 5, 6] ?_
      refine sf_own ((b5, .cells #[.int .i64 g.wide, c2, l, f] 37) :: (AC ++ (AL ++ (AF ++ [(b2, .cells #[.int .i64 0, .slice none 0 0, .slice none 0 0, .slice none 0 0] 37), (b1, .cells #[.int .i64 g.wide, c] 35)])))) ?_
      exact tail.out c2 l f AC AL AF b5 g1 g2 g3
    case' refine_8 =>
      refine (regX_run [[], [0, 7], [], [0, 1, 2, 4, 5, 7], [], [0, 1, 4, 7], [0, 1, 2, 3, 4, 5, 7], [], [0, 1, 2, 3, 4, 5, 6, 7]] 8 [(0, false), (2, false), (4, false), (7, true), (1, true), (5, true), (3, true), (6, false)] (by kernel_rfl) (by kernel_rfl) (by kernel_rfl) ?_)
      repeat (refine Da1 ?_)
      refine a_alloc (by rfl) (.inl rfl) fun b5 => ?_
      repeat (refine Da1 ?_)
      refine a_call (l1Copy_f (M := M) _ _ g (gridB_mk s) (by omega)) (by rfl) (by rfl) (.inl rfl) ?_
      rintro _ AC ⟨_, rfl, q⟩
      obtain ⟨c2, rfl, g1, l1⟩ := gridO q
      have o5 := g1.one
      repeat (refine Da1 ?_)
      refine a_make (by rfl) (by rfl) (by rfl) (by infer_instance) (by infer_instance) (by infer_instance) (by infer_instance) (by infer_instance) (by rfl) (by decide) (by omega) (.inl rfl) fun f AF g3 => ?_
      have o7 := g3.one
      repeat (refine Da1 ?_)
      refine a_make (by rfl) (by rfl) (by rfl) (by infer_instance) (by infer_instance) (by infer_instance) (by infer_instance) (by infer_instance) (by rfl) (by decide) (by omega) (.inl rfl) fun l AL g2 => ?_
      have o6 := g2.one
      repeat (refine Da1 ?_)
      (refine a_end (by rfl) (by rfl) ?_; simp only [finA, setL, List.drop_succ_cons, List.drop_zero])
      repeat (first | refine R1 ?_ | (refine R2 ?_; intro _))
      refine sf_keep [2, 4, 5, 6] ?_
      refine sf_own ((b5, .cells #[.int .i64 g.wide, c2, l, f] 37) :: (AC ++ (AL ++ (AF ++ [(b2, .cells #[.int .i64 0, .slice none 0 0, .slice none 0 0, .slice none 0 0] 37), (b1, .cells #[.int .i64 g.wide, c] 35)])))) ?_
      exact tail.out c2 l f AC AL AF b5 g1 g2 g3
    case' refine_9 =>
      refine (regX_run [[], [0, 4, 5], [], [0, 1, 2, 4, 5], [], [4], [0, 1, 2, 3, 4, 5], [0, 1, 2, 3, 4, 5], [0, 1, 2, 3, 4, 5, 6, 7]] 8 [(0, false), (2, false), (4, false), (5, true), (1, true), (3, true), (6, false), (7, true)] (by kernel_rfl) (by kernel_rfl) (by kernel_rfl) ?_)
      repeat (refine Da1 ?_)
      refine a_make (by rfl) (by rfl) (by rfl) (by infer_instance) (by infer_instance) (by infer_instance) (by infer_instance) (by infer_instance) (by rfl) (by decide) (by omega) (.inl rfl) fun f AF g3 => ?_
      have o7 := g3.one
      repeat (refine Da1 ?_)
      refine a_call (l1Copy_f (M := M) _ _ g (gridB_mk s) (by omega)) (by rfl) (by rfl) (.inl rfl) ?_
      rintro _ AC ⟨_, rfl, q⟩
      obtain ⟨c2, rfl, g1, l1⟩ := gridO q
      have o5 := g1.one
      repeat (refine Da1 ?_)
      refine a_make (by rfl) (by rfl) (by rfl) (by infer_instance) (by infer_instance) (by infer_instance) (by infer_instance) (by infer_instance) (by rfl) (by decide) (by omega) (.inl rfl) fun l AL g2 => ?_
      have o6 := g2.one
      repeat (refine Da1 ?_)
      refine a_alloc (by rfl) (.inl rfl) fun b5 => ?_
      repeat (refine Da1 ?_)
      (refine a_end (by rfl) (by rfl) ?_; simp only [finA, setL, List.drop_succ_cons, List.drop_zero])
      repeat (first | refine R1 ?_ | (refine R2 ?_; intro _))
      refine sf_keep [2, 4, 5, 6] ?_
      refine sf_own ((b5, .cells #[.int .i64 g.wide, c2, l, f] 37) :: (AC ++ (AL ++ (AF ++ [(b2, .cells #[.int .i64 0, .slice none 0 0, .slice none 0 0, .slice none 0 0] 37), (b1, .cells #[.int .i64 g.wide, c] 35)])))) ?_
      exact tail.out c2 l f AC AL AF b5 g1 g2 g3
    case' refine_10 =>
      refine (regX_run [[], [0, 4, 5], [], [0, 1, 2, 4, 5, 7], [], [4], [0, 1, 2, 3, 4, 5, 7], [0, 1, 4, 5], [0, 1, 2, 3, 4, 5, 6, 7]] 8 [(0, false), (2, false), (4, false), (5, true), (1, true), (7, true), (3, true), (6, false)] (by kernel_rfl) (by kernel_rfl) (by kernel_rfl) ?_)
      repeat (refine Da1 ?_)
      refine a_make (by rfl) (by rfl) (by rfl) (by infer_instance) (by infer_instance) (by infer_instance) (by infer_instance) (by infer_instance) (by rfl) (by decide) (by omega) (.inl rfl) fun f AF g3 => ?_
      have o7 := g3.one
      repeat (refine Da1 ?_)
      refine a_call (l1Copy_f (M := M) _ _ g (gridB_mk s) (by omega)) (by rfl) (by rfl) (.inl rfl) ?_
      rintro _ AC ⟨_, rfl, q⟩
      obtain ⟨c2, rfl, g1, l1⟩ := gridO q
      have o5 := g1.one
      repeat (refine Da1 ?_)
      refine a_alloc (by rfl) (.inl rfl) fun b5 => ?_
      repeat (refine Da1 ?_)
      refine a_make (by rfl) (by rfl) (by rfl) (by infer_instance) (by infer_instance) (by infer_instance) (by infer_instance) (by infer_instance) (by rfl) (by decide) (by omega) (.inl rfl) fun l AL g2 => ?_
      have o6 := g2.one
      repeat (refine Da1 ?_)
      (refine a_end (by rfl) (by rfl) ?_; simp only [finA, setL, List.drop_succ_cons, List.drop_zero])
      repeat (first | refine R1 ?_ | (refine R2 ?_; intro _))
      refine sf_keep [2, 4, 5, 6] ?_
      refine sf_own ((b5, .cells #[.int .i64 g.wide, c2, l, f] 37) :: (AC ++ (AL ++ (AF ++ [(b2, .cells #[.int .i64 0, .slice none 0 0, .slice none 0 0, .slice none 0 0] 37), (b1, .cells #[.int .i64 g.wide, c] 35)])))) ?_
      exact tail.out c2 l f AC AL AF b5 g1 g2 g3
    case' refine_11 =>
      refine (regX_run [[], [0, 4, 5, 7], [], [0, 1, 2, 4, 5, 7], [], [4], [0, 1, 2, 3, 4, 5, 7], [4, 5], [0, 1, 2, 3, 4, 5, 6, 7]] 8 [(0, false), (2, false), (4, false), (5, true), (7, true), (1, true), (3, true), (6, false)] (by kernel_rfl) (by kernel_rfl) (by kernel_rfl) ?_)
      repeat (refine Da1 ?_)
      refine a_make (by rfl) (by rfl) (by rfl) (by infer_instance) (by infer_instance) (by infer_instance) (by infer_instance) (by infer_instance) (by rfl) (by decide) (by omega) (.inl rfl) fun f AF g3 => ?_
      have o7 := g3.one
      repeat (refine Da1 ?_)
      refine a_alloc (by rfl) (.inl rfl) fun b5 => ?_
      repeat (refine Da1 ?_)
      refine a_call (l1Copy_f (M := M) _ _ g (gridB_mk s) (by omega)) (by rfl) (by rfl) (.inl rfl) ?_
      rintro _ AC ⟨_, rfl, q⟩
      obtain ⟨c2, rfl, g1, l1⟩ := gridO q
      have o5 := g1.one
      repeat (refine Da1 ?_)
      refine a_make (by rfl) (by rfl) (by rfl) (by infer_instance) (by infer_instance) (by infer_instance) (by infer_instance) (by infer_instance) (by rfl) (by decide) (by omega) (.inl rfl) fun l AL g2 => ?_
      have o6 := g2.one
      repeat (refine Da1 ?_)
      (refine a_end (by rfl) (by rfl) ?_; simp only [finA, setL, List.drop_succ_cons, List.drop_zero])
      repeat (first | refine R1 ?_ | (refine R2 ?_; intro _))
      refine sf_keep [2, 4, 5, 6] ?_
      refine sf_own ((b5, .cells #[.int .i64 g.wide, c2, l, f] 37) :: (AC ++ (AL ++ (AF ++ [(b2, .cells #[.int .i64 0, .slice none 0 0, .slice none 0 0, .slice none 0 0] 37), (b1, .cells #[.int .i64 g.wide, c] 35)])))) ?_
      exact tail.out c2 l f AC AL AF b5 g1 g2 g3
    case' refine_12 =>
      refine (regX_run [[], [0, 4, 5, 7], [], [0, 1, 2, 4, 5, 7], [], [4, 7], [0, 1, 2, 3, 4, 5, 7], [], [0, 1, 2, 3, 4, 5, 6, 7]] 8 [(0, false), (2, false), (4, false), (7, true), (5, true), (1, true), (3, true), (6, false)] (by kernel_rfl) (by kernel_rfl) (by kernel_rfl) ?_)
      repeat (refine Da1 ?_)
      refine a_alloc (by rfl) (.inl rfl) fun b5 => ?_
      repeat (refine Da1 ?_)
      refine a_make (by rfl) (by rfl) (by rfl) (by infer_instance) (by infer_instance) (by infer_instance) (by infer_instance) (by infer_instance) (by rfl) (by decide) (by omega) (.inl rfl) fun f AF g3 => ?_
      have o7 := g3.one
      repeat (refine Da1 ?_)
      refine a_call (l1Copy_f (M := M) _ _ g (gridB_mk s) (by omega)) (by rfl) (by rfl) (.inl rfl) ?_
      rintro _ AC ⟨_, rfl, q⟩
      obtain ⟨c2, rfl, g1, l1⟩ := gridO q
      have o5 := g1.one
      repeat (refine Da1 ?_)
      refine a_make (by rfl) (by rfl) (by rfl) (by infer_instance) (by infer_instance) (by infer_instance) (by infer_instance) (by infer_instance) (by rfl) (by decide) (by omega) (.inl rfl) fun l AL g2 => ?_
      have o6 := g2.one
      repeat (refine Da1 ?_)
      (refine a_end (by rfl) (by rfl) ?_; simp only [finA, setL, List.drop_succ_cons, List.drop_zero])
      repeat (first | refine R1 ?_ | (refine R2 ?_; intro _))
      refine sf_keep [2, 4, 5, 6] ?_
      refine sf_own ((b5, .cells #[.int .i64 g.wide, c2, l, f] 37) :: (AC ++ (AL ++ (AF ++ [(b2, .cells #[.int .i64 0, .slice none 0 0, .slice none 0 0, .slice none 0 0] 37), (b1, .cells #[.int .i64 g.wide, c] 35)])))) ?_
      exact tail.out c2 l f AC AL AF b5 g1 g2 g3
    case' refine_13 =>
      refine (regX_run [[], [0, 2, 3], [], [2], [], [0, 1, 2, 3, 4], [0, 1, 2, 3, 4, 5], [0, 1, 2, 3, 4, 5], [0, 1, 2, 3, 4, 5, 6, 7]] 8 [(0, false), (2, false), (4, false), (3, true), (1, true), (5, true), (6, false), (7, true)] (by kernel_rfl) (by kernel_rfl) (by kernel_rfl) ?_)
      repeat (refine Da1 ?_)
      refine a_make (by rfl) (by rfl) (by rfl) (by infer_instance) (by infer_instance) (by infer_instance) (by infer_instance) (by infer_instance) (by rfl) (by decide) (by omega) (.inl rfl) fun l AL g2 => ?_
      have o6 := g2.one
      repeat (refine Da1 ?_)
      refine a_call (l1Copy_f (M := M) _ _ g (gridB_mk s) (by omega)) (by rfl) (by rfl) (.inl rfl) ?_
      rintro _ AC ⟨_, rfl, q⟩
      obtain ⟨c2, rfl, g1, l1⟩ := gridO q
      have o5 := g1.one
      repeat (refine Da1 ?_)
      refine a_make (by rfl) (by rfl) (by rfl) (by infer_instance) (by infer_instance) (by infer_instance) (by infer_instance) (by infer_instance) (by rfl) (by decide) (by omega) (.inl rfl) fun f AF g3 => ?_
      have o7 := g3.one
      repeat (refine Da1 ?_)
      refine a_alloc (by rfl) (.inl rfl) fun b5 => ?_
      repeat (refine Da1 ?_)
      (refine a_end (by rfl) (by rfl) ?_; simp only [finA, setL, List.drop_succ_cons, List.drop_zero])
      repeat (first | refine R1 ?_ | (refine R2 ?_; intro _))
      refine sf_keep [2, 4, 5, 6] ?_
      refine sf_own ((b5, .cells #[.int .i64 g.wide, c2, l, f] 37) :: (AC ++ (AL ++ (AF ++ [(b2, .cells #[.int .i64 0, .slice none 0 0, .slice none 0 0, .slice none 0 0] 37), (b1, .cells #[.int .i64 g.wide, c] 35)])))) ?_
      exact tail.out c2 l f AC AL AF b5 g1 g2 g3
    case' refine_14 =>
      refine (regX_run [[], [0, 2, 3], [], [2], [], [0, 1, 2, 3, 4, 7], [0, 1, 2, 3, 4, 5, 7], [0, 1, 2, 3], [0, 1, 2, 3, 4, 5, 6, 7]] 8 [(0, false), (2, false), (4, false), (3, true), (1, true), (7, true), (5, true), (6, false)] (by kernel_rfl) (by kernel_rfl) (by kernel_rfl) ?_)
      repeat (refine Da1 ?_)
      refine a_make (by rfl) (by rfl) (by rfl) (by infer_instance) (by infer_instance) (by infer_instance) (by infer_instance) (by infer_instance) (by rfl) (by decide) (by omega) (.inl rfl) fun l AL g2 => ?_
      have o6 := g2.one
      repeat (refine Da1 ?_)
      refine a_call (l1Copy_f (M := M) _ _ g (gridB_mk s) (by omega)) (by rfl) (by rfl) (.inl rfl) ?_
      rintro _ AC ⟨_, rfl, q⟩
      obtain ⟨c2, rfl, g1, l1⟩ := gridO q
      have o5 := g1.one
      repeat (refine Da1 ?_)
      refine a_alloc (by rfl) (.inl rfl) fun b5 => ?_
      repeat (refine Da1 ?_)
      refine a_make (by rfl) (by rfl) (by rfl) (by infer_instance) (by infer_instance) (by infer_instance) (by infer_instance) (by infer_instance) (by rfl) (by decide) (by omega) (.inl rfl) fun f AF g3 => ?_
      have o7 := g3.one
      repeat (refine Da1 ?_)
      (refine a_end (by rfl) (by rfl) ?_; simp only [finA, setL, List.drop_succ_cons, List.drop_zero])
      repeat (first | refine R1 ?_ | (refine R2 ?_; intro _))
      refine sf_keep [2, 4, 5, 6] ?_
      refine sf_own ((b5, .cells #[.int .i64 g.wide, c2, l, f] 37) :: (AC ++ (AL ++ (AF ++ [(b2, .cells #[.int .i64 0, .slice none 0 0, .slice none 0 0, .slice none 0 0] 37), (b1, .cells #[.int .i64 g.wide, c] 35)])))) ?_
      exact tail.out c2 l f AC AL AF b5 g1 g2 g3
    case' refine_15 =>
      refine (regX_run [[], [0, 2, 3, 7], [], [2], [], [0, 1, 2, 3, 4, 7], [0, 1, 2, 3, 4, 5, 7], [2, 3], [0, 1, 2, 3, 4, 5, 6, 7]] 8 [(0, false), (2, false), (4, false), (3, true), (7, true), (1, true), (5, true), (6, false)] (by kernel_rfl) (by kernel_rfl) (by kernel_rfl) ?_)
      repeat (refine Da1 ?_)
      refine a_make (by rfl) (by rfl) (by rfl) (by infer_instance) (by infer_instance) (by infer_instance) (by infer_instance) (by infer_instance) (by rfl) (by decide) (by omega) (.inl rfl) fun l AL g2 => ?_
      have o6 := g2.one
      repeat (refine Da1 ?_)
      refine a_alloc (by rfl) (.inl rfl) fun b5 => ?_
      repeat (refine Da1 ?_)
      refine a_call (l1Copy_f (M := M) _ _ g (gridB_mk s) (by omega)) (by rfl) (by rfl) (.inl rfl) ?_
      rintro _ AC ⟨_, rfl, q⟩
      obtain ⟨c2, rfl, g1, l1⟩ := gridO q
      have o5 := g1.one
      repeat (refine Da1 ?_)
      refine a_make (by rfl) (by rfl) (by rfl) (by infer_instance) (by infer_instance) (by infer_instance) (by infer_instance) (by infer_instance) (by rfl) (by decide) (by omega) (.inl rfl) fun f AF g3 => ?_
      have o7 := g3.one
      repeat (refine Da1 ?_)
      (refine a_end (by rfl) (by rfl) ?_; simp only [finA, setL, List.drop_succ_cons, List.drop_zero])
      repeat (first | refine R1 ?_ | (refine R2 ?_; intro _))
      refine sf_keep [2, 4, 5, 6] ?_
      refine sf_own ((b5, .cells #[.int .i64 g.wide, c2, l, f] 37) :: (AC ++ (AL ++ (AF ++ [(b2, .cells #[.int .i64 0, .slice none 0 0, .slice none 0 0, .slice none 0 0] 37), (b1, .cells #[.int .i64 g.wide, c] 35)])))) ?_
      exact tail.out c2 l f AC AL AF b5 g1 g2 g3
    case' refine_16 =>
      refine (regX_run [[], [0, 2, 3, 7], [], [2, 7], [], [0, 1, 2, 3, 4, 7], [0, 1, 2, 3, 4, 5, 7], [], [0, 1, 2, 3, 4, 5, 6, 7]] 8 [(0, false), (2, false), (4, false), (7, true), (3, true), (1, true), (5, true), (6, false)] (by kernel_rfl) (by kernel_rfl) (by kernel_rfl) ?_)
      repeat (refine Da1 ?_)
      refine a_alloc (by rfl) (.inl rfl) fun b5 => ?_
      repeat (refine Da1 ?_)
      refine a_make (by rfl) (by rfl) (by rfl) (by infer_instance) (by infer_instance) (by infer_instance) (by infer_instance) (by infer_instance) (by rfl) (by decide) (by omega) (.inl rfl) fun l AL g2 => ?_
      have o6 := g2.one
      repeat (refine Da1 ?_)
      refine a_call (l1Copy_f (M := M) _ _ g (gridB_mk s) (by omega)) (by rfl) (by rfl) (.inl rfl) ?_
      rintro _ AC ⟨_, rfl, q⟩
      obtain ⟨c2, rfl, g1, l1⟩ := gridO q
      have o5 := g1.one
      repeat (refine Da1 ?_)
      refine a_make (by rfl) (by rfl) (by rfl) (by infer_instance) (by infer_instance) (by infer_instance) (by infer_instance) (by infer_instance) (by rfl) (by decide) (by omega) (.inl rfl) fun f AF g3 => ?_
      have o7 := g3.one
      repeat (refine Da1 ?_)
      (refine a_end (by rfl) (by rfl) ?_; simp only [finA, setL, List.drop_succ_cons, List.drop_zero])
      repeat (first | refine R1 ?_ | (refine R2 ?_; intro _))
      refine sf_keep [2, 4, 5, 6] ?_
      refine sf_own ((b5, .cells #[.int .i64 g.wide, c2, l, f] 37) :: (AC ++ (AL ++ (AF ++ [(b2, .cells #[.int .i64 0, .slice none 0 0, .slice none 0 0, .slice none 0 0] 37), (b1, .cells #[.int .i64 g.wide, c] 35)])))) ?_
      exact tail.out c2 l f AC AL AF b5 g1 g2 g3
    case' refine_17 =>
      refine (regX_run [[], [0, 2, 3, 4, 5], [], [2], [], [2, 3, 4], [0, 1, 2, 3, 4, 5], [0, 1, 2, 3, 4, 5], [0, 1, 2, 3, 4, 5, 6, 7]] 8 [(0, false), (2, false), (4, false), (3, true), (5, true), (1, true), (6, false), (7, true)] (by kernel_rfl) (by kernel_rfl) (by kernel_rfl) ?_)
      repeat (refine Da1 ?_)
      refine a_make (by rfl) (by rfl) (by rfl) (by infer_instance) (by infer_instance) (by infer_instance) (by infer_instance) (by infer_instance) (by rfl) (by decide) (by omega) (.inl rfl) fun l AL g2 => ?_
      have o6 := g2.one
      repeat (refine Da1 ?_)
      refine a_make (by rfl) (by rfl) (by rfl) (by infer_instance) (by infer_instance) (by infer_instance) (by infer_instance) (by infer_instance) (by rfl) (by decide) (by omega) (.inl rfl) fun f AF g3 => ?_
      have o7 := g3.one
      repeat (refine Da1 ?_)
      refine a_call (l1Copy_f (M := M) _ _ g (gridB_mk s) (by omega)) (by rfl) (by rfl) (.inl rfl) ?_
      rintro _ AC ⟨_, rfl, q⟩
      obtain ⟨c2, rfl, g1, l1⟩ := gridO q
      have o5 := g1.one
      repeat (refine Da1 ?_)
      refine a_alloc (by rfl) (.inl rfl) fun b5 => ?_
      repeat (refine Da1 ?_)
      (refine a_end (by rfl) (by rfl) ?_; simp only [finA, setL, List.drop_succ_cons, List.drop_zero])
      repeat (first | refine R1 ?_ | (refine R2 ?_; intro _))
      refine sf_keep [2, 4, 5, 6] ?_
      refine sf_own ((b5, .cells #[.int .i64 g.wide, c2, l, f] 37) :: (AC ++ (AL ++ (AF ++ [(b2, .cells #[.int .i64 0, .slice none 0 0, .slice none 0 0, .slice none 0 0] 37), (b1, .cells #[.int .i64 g.wide, c] 35)])))) ?_
      exact tail.out c2 l f AC AL AF b5 g1 g2 g3
    case' refine_18 =>
      refine (regX_run [[], [0, 2, 3, 4, 5], [], [2, 4, 5], [], [4], [0, 1, 2, 3, 4, 5], [0, 1, 2, 3, 4, 5], [0, 1, 2, 3, 4, 5, 6, 7]] 8 [(0, false), (2, false), (4, false), (5, true), (3, true), (1, true), (6, false), (7, true)] (by kernel_rfl) (by kernel_rfl) (by kernel_rfl) ?_)
      repeat (refine Da1 ?_)
      refine a_make (by rfl) (by rfl) (by rfl) (by infer_instance) (by infer_instance) (by infer_instance) (by infer_instance) (by infer_instance) (by rfl) (by decide) (by omega) (.inl rfl) fun f AF g3 => ?_
      have o7 := g3.one
      repeat (refine Da1 ?_)
      refine a_make (by rfl) (by rfl) (by rfl) (by infer_instance) (by infer_instance) (by infer_instance) (by infer_instance) (by infer_instance) (by rfl) (by decide) (by omega) (.inl rfl) fun l AL g2 => ?_
      have o6 := g2.one
      repeat (refine Da1 ?_)
      refine a_call (l1Copy_f (M := M) _ _ g (gridB_mk s) (by omega)) (by rfl) (by rfl) (.inl rfl) ?_
      rintro _ AC ⟨_, rfl, q⟩
      obtain ⟨c2, rfl, g1, l1⟩ := gridO q
      have o5 := g1.one
      repeat (refine Da1 ?_)
      refine a_alloc (by rfl) (.inl rfl) fun b5 => ?_
      repeat (refine Da1 ?_)
      (refine a_end (by rfl) (by rfl) ?_; simp only [finA, setL, List.drop_succ_cons, List.drop_zero])
      repeat (first | refine R1 ?_ | (refine R2 ?_; intro _))
      refine sf_keep [2, 4, 5, 6] ?_
      refine sf_own ((b5, .cells #[.int .i64 g.wide, c2, l, f] 37) :: (AC ++ (AL ++ (AF ++ [(b2, .cells #[.int .i64 0, .slice none 0 0, .slice none 0 0, .slice none 0 0] 37), (b1, .cells #[.int .i64 g.wide, c] 35)])))) ?_
      exact tail.out c2 l f AC AL AF b5 g1 g2 g3
    case' refine_19 =>
      refine (regX_run [[], [0, 2, 3, 4, 5, 7], [], [2], [], [2, 3, 4], [0, 1, 2, 3, 4, 5, 7], [2, 3, 4, 5], [0, 1, 2, 3, 4, 5, 6, 7]] 8 [(0, false), (2, false), (4, false), (3, true), (5, true), (7, true), (1, true), (6, false)] (by kernel_rfl) (by kernel_rfl) (by kernel_rfl) ?_)
      repeat (refine Da1 ?_)
      refine a_make (by rfl) (by rfl) (by rfl) (by infer_instance) (by infer_instance) (by infer_instance) (by infer_instance) (by infer_instance) (by rfl) (by decide) (by omega) (.inl rfl) fun l AL g2 => ?_
      have o6 := g2.one
      repeat (refine Da1 ?_)
      refine a_make (by rfl) (by rfl) (by rfl) (by infer_instance) (by infer_instance) (by infer_instance) (by infer_instance) (by infer_instance) (by rfl) (by decide) (by omega) (.inl rfl) fun f AF g3 => ?_
      have o7 := g3.one
      repeat (refine Da1 ?_)
      refine a_alloc (by rfl) (.inl rfl) fun b5 => ?_
      repeat (refine Da1 ?_)
      refine a_call (l1Copy_f (M := M) _ _ g (gridB_mk s) (by omega)) (by rfl) (by rfl) (.inl rfl) ?_
      rintro _ AC ⟨_, rfl, q⟩
      obtain ⟨c2, rfl, g1, l1⟩ := gridO q
      have o5 := g1.one
      repeat (refine Da1 ?_)
      (refine a_end (by rfl) (by rfl) ?_; simp only [finA, setL, List.drop_succ_cons, List.drop_zero])
      repeat (first | refine R1 ?_ | (refine R2 ?_; intro _))
      refine sf_keep [2, 4, 5, 6] ?_
      refine sf_own ((b5, .cells #[.int .i64 g.wide, c2, l, f] 37) :: (AC ++ (AL ++ (AF ++ [(b2, .cells #[.int .i64 0, .slice none 0 0, .slice none 0 0, .slice none 0 0] 37), (b1, .cells #[.int .i64 g.wide, c] 35)])))) ?_
      exact tail.out c2 l f AC AL AF b5 g1 g2 g3
    case' refine_20 =>
      refine (regX_run [[], [0, 2, 3, 4, 5, 7], [], [2], [], [2, 3, 4, 7], [0, 1, 2, 3, 4, 5, 7], [2, 3], [0, 1, 2, 3, 4, 5, 6, 7]] 8 [(0, false), (2, false), (4, false), (3, true), (7, true), (5, true), (1, true), (6, false)] (by kernel_rfl) (by kernel_rfl) (by kernel_rfl) ?_)
      repeat (refine Da1 ?_)
      refine a_make (by rfl) (by rfl) (by rfl) (by infer_instance) (by infer_instance) (by infer_instance) (by infer_instance) (by infer_instance) (by rfl) (by decide) (by omega) (.inl rfl) fun l AL g2 => ?_
      have o6 := g2.one
      repeat (refine Da1 ?_)
      refine a_alloc (by rfl) (.inl rfl) fun b5 => ?_
      repeat (refine Da1 ?_)
      refine a_make (by rfl) (by rfl) (by rfl) (by infer_instance) (by infer_instance) (by infer_instance) (by infer_instance) (by infer_instance) (by rfl) (by decide) (by omega) (.inl rfl) fun f AF g3 => ?_
      have o7 := g3.one
      repeat (refine Da1 ?_)
      refine a_call (l1Copy_f (M := M) _ _ g (gridB_mk s) (by omega)) (by rfl) (by rfl) (.inl rfl) ?_
      rintro _ AC ⟨_, rfl, q⟩
      obtain ⟨c2, rfl, g1, l1⟩ := gridO q
      have o5 := g1.one
      repeat (refine Da1 ?_)
      (refine a_end (by rfl) (by rfl) ?_; simp only [finA, setL, List.drop_succ_cons, List.drop_zero])
      repeat (first | refine R1 ?_ | (refine R2 ?_; intro _))
      refine sf_keep [2, 4, 5, 6] ?_
      refine sf_own ((b5, .cells #[.int .i64 g.wide, c2, l, f] 37) :: (AC ++ (AL ++ (AF ++ [(b2, .cells #[.int .i64 0, .slice none 0 0, .slice none 0 0, .slice none 0 0] 37), (b1, .cells #[.int .i64 g.wide, c] 35)])))) ?_
      exact tail.out c2 l f AC AL AF b5 g1 g2 g3
    case' refine_21 =>
      refine (regX_run [[], [0, 2, 3, 4, 5, 7], [], [2, 7], [], [2, 3, 4, 7], [0, 1, 2, 3, 4, 5, 7], [], [0, 1, 2, 3, 4, 5, 6, 7]] 8 [(0, false), (2, false), (4, false), (7, true), (3, true), (5, true), (1, true), (6, false)] (by kernel_rfl) (by kernel_rfl) (by kernel_rfl) ?_)
      repeat (refine Da1 ?_)
      refine a_alloc (by rfl) (.inl rfl) fun b5 => ?_
      repeat (refine Da1 ?_)
      refine a_make (by rfl) (by rfl) (by rfl) (by infer_instance) (by infer_instance) (by infer_instance) (by infer_instance) (by infer_instance) (by rfl) (by decide) (by omega) (.inl rfl) fun l AL g2 => ?_
      have o6 := g2.one
      repeat (refine Da1 ?_)
      refine a_make (by rfl) (by rfl) (by rfl) (by infer_instance) (by infer_instance) (by infer_instance) (by infer_instance) (by infer_instance) (by rfl) (by decide) (by omega) (.inl rfl) fun f AF g3 => ?_
      have o7 := g3.one
      repeat (refine Da1 ?_)
      refine a_call (l1Copy_f (M := M) _ _ g (gridB_mk s) (by omega)) (by rfl) (by rfl) (.inl rfl) ?_
      rintro _ AC ⟨_, rfl, q⟩
      obtain ⟨c2, rfl, g1, l1⟩ := gridO q
      have o5 := g1.one
      repeat (refine Da1 ?_)
      (refine a_end (by rfl) (by rfl) ?_; simp only [finA, setL, List.drop_succ_cons, List.drop_zero])
      repeat (first | refine R1 ?_ | (refine R2 ?_; intro _))
      refine sf_keep [2, 4, 5, 6] ?_
      refine sf_own ((b5, .cells #[.int .i64 g.wide, c2, l, f] 37) :: (AC ++ (AL ++ (AF ++ [(b2, .cells #[.int .i64 0, .slice none 0 0, .slice none 0 0, .slice none 0 0] 37), (b1, .cells #[.int .i64 g.wide, c] 35)])))) ?_
      exact tail.out c2 l f AC AL AF b5 g1 g2 g3
    case' refine_22 =>
      refine (regX_run [[], [0, 2, 3, 4, 5, 7], [], [2, 4, 5], [], [4], [0, 1, 2, 3, 4, 5, 7], [2, 3, 4, 5], [0, 1, 2, 3, 4, 5, 6, 7]] 8 [(0, false), (2, false), (4, false), (5, true), (3, true), (7, true), (1, true), (6, false)] (by kernel_rfl) (by kernel_rfl) (by kernel_rfl) ?_)
      repeat (refine Da1 ?_)
      refine a_make (by rfl) (by rfl) (by rfl) (by infer_instance) (by infer_instance) (by infer_instance) (by infer_instance) (by infer_instance) (by rfl) (by decide) (by omega) (.inl rfl) fun f AF g3 => ?_
      have o7 := g3.one
      repeat (refine Da1 ?_)
      refine a_make (by rfl) (by rfl) (by rfl) (by infer_instance) (by infer_instance) (by infer_instance) (by infer_instance) (by infer_instance) (by rfl) (by decide) (by omega) (.inl rfl) fun l AL g2 => ?_
      have o6 := g2.one
      repeat (refine Da1 ?_)
      refine a_alloc (by rfl) (.inl rfl) fun b5 => ?_
      repeat (refine Da1 ?_)
      refine a_call (l1Copy_f (M := M) _ _ g (gridB_mk s) (by omega)) (by rfl) (by rfl) (.inl rfl) ?_
      rintro _ AC ⟨_, rfl, q⟩
      obtain ⟨c2, rfl, g1, l1⟩ := gridO q
      have o5 := g1.one
      repeat (refine Da1 ?_)
      (refine a_end (by rfl) (by rfl) ?_; simp only [finA, setL, List.drop_succ_cons, List.drop_zero])
      repeat (first | refine R1 ?_ | (refine R2 ?_; intro _))
      refine sf_keep [2, 4, 5, 6] ?_
      refine sf_own ((b5, .cells #[.int .i64 g.wide, c2, l, f] 37) :: (AC ++ (AL ++ (AF ++ [(b2, .cells #[.int .i64 0, .slice none 0 0, .slice none 0 0, .slice none 0 0] 37), (b1, .cells #[.int .i64 g.wide, c] 35)])))) ?_
      exact tail.out c2 l f AC AL AF b5 g1 g2 g3
    case' refine_23 =>
      refine (regX_run [[], [0, 2, 3, 4, 5, 7], [], [2, 4, 5, 7], [], [4], [0, 1, 2, 3, 4, 5, 7], [4, 5], [0, 1, 2, 3, 4, 5, 6, 7]] 8 [(0, false), (2, false), (4, false), (5, true), (7, true), (3, true), (1, true), (6, false)] (by kernel_rfl) (by kernel_rfl) (by kernel_rfl) ?_)
      repeat (refine Da1 ?_)
      refine a_make (by rfl) (by rfl) (by rfl) (by infer_instance) (by infer_instance) (by infer_instance) (by infer_instance) (by infer_instance) (by rfl) (by decide) (by omega) (.inl rfl) fun f AF g3 => ?_
      have o7 := g3.one
      repeat (refine Da1 ?_)
      refine a_alloc (by rfl) (.inl rfl) fun b5 => ?_
      repeat (refine Da1 ?_)
      refine a_make (by rfl) (by rfl) (by rfl) (by infer_instance) (by infer_instance) (by infer_instance) (by infer_instance) (by infer_instance) (by rfl) (by decide) (by omega) (.inl rfl) fun l AL g2 => ?_
      have o6 := g2.one
      repeat (refine Da1 ?_)
      refine a_call (l1Copy_f (M := M) _ _ g (gridB_mk s) (by omega)) (by rfl) (by rfl) (.inl rfl) ?_
      rintro _ AC ⟨_, rfl, q⟩
      obtain ⟨c2, rfl, g1, l1⟩ := gridO q
      have o5 := g1.one
      repeat (refine Da1 ?_)
      (refine a_end (by rfl) (by rfl) ?_; simp only [finA, setL, List.drop_succ_cons, List.drop_zero])
      repeat (first | refine R1 ?_ | (refine R2 ?_; intro _))
      refine sf_keep [2, 4, 5, 6] ?_
      refine sf_own ((b5, .cells #[.int .i64 g.wide, c2, l, f] 37) :: (AC ++ (AL ++ (AF ++ [(b2, .cells #[.int .i64 0, .slice none 0 0, .slice none 0 0, .slice none 0 0] 37), (b1, .cells #[.int .i64 g.wide, c] 35)])))) ?_
      exact tail.out c2 l f AC AL AF b5 g1 g2 g3
    case' refine_24 =>
      refine (regX_run [[], [0, 2, 3, 4, 5, 7], [], [2, 4, 5, 7], [], [4, 7], [0, 1, 2, 3, 4, 5, 7], [], [0, 1, 2, 3, 4, 5, 6, 7]] 8 [(0, false), (2, false), (4, false), (7, true), (5, true), (3, true), (1, true), (6, false)] (by kernel_rfl) (by kernel_rfl) (by kernel_rfl) ?_)
      repeat (refine Da1 ?_)
      refine a_alloc (by rfl) (.inl rfl) fun b5 => ?_
      repeat (refine Da1 ?_)
      refine a_make (by rfl) (by rfl) (by rfl) (by infer_instance) (by infer_instance) (by infer_instance) (by infer_instance) (by infer_instance) (by rfl) (by decide) (by omega) (.inl rfl) fun f AF g3 => ?_
      have o7 := g3.one
      repeat (refine Da1 ?_)
      refine a_make (by rfl) (by rfl) (by rfl) (by infer_instance) (by infer_instance) (by infer_instance) (by infer_instance) (by infer_instance) (by rfl) (by decide) (by omega) (.inl rfl) fun l AL g2 => ?_
      have o6 := g2.one
      repeat (refine Da1 ?_)
      refine a_call (l1Copy_f (M := M) _ _ g (gridB_mk s) (by omega)) (by rfl) (by rfl) (.inl rfl) ?_
      rintro _ AC ⟨_, rfl, q⟩
      obtain ⟨c2, rfl, g1, l1⟩ := gridO q
      have o5 := g1.one
      repeat (refine Da1 ?_)
      (refine a_end (by rfl) (by rfl) ?_; simp only [finA, setL, List.drop_succ_cons, List.drop_zero])
      repeat (first | refine R1 ?_ | (refine R2 ?_; intro _))
      refine sf_keep [2, 4, 5, 6] ?_
      refine sf_own ((b5, .cells #[.int .i64 g.wide, c2, l, f] 37) :: (AC ++ (AL ++ (AF ++ [(b2, .cells #[.int .i64 0, .slice none 0 0, .slice none 0 0, .slice none 0 0] 37), (b1, .cells #[.int .i64 g.wide, c] 35)])))) ?_
      exact tail.out c2 l f AC AL AF b5 g1 g2 g3
  intro c2 l f AC AL AF b5 g1 g2 g3
  have o5 := g1.one
  have o6 := g2.one
  have o7 := g3.one
  repeat (first | refine R1 ?_ | (refine R2 ?_; intro _))
  refine sf_lp (ι := Nat) [2, 4, 5] (fun k => [(6, .int .i64 (k : Int))]) (fun k O => k ≤ N ∧ ∃ A2 A3, O = (b5, .cells #[.int .i64 g.wide, c2, l, f] 37) :: (AC ++ (A2 ++ A3 ++ [(b2, .cells #[.int .i64 0, .slice none 0 0, .slice none 0 0, .slice none 0 0] 37), (b1, .cells #[.int .i64 g.wide, c] 35)])) ∧ Gr A2 l 3 intF ((picOf g).take k ++ List.replicate ((picOf g).length - k) 0) ∧ GrR (intSR τ) A3 f 25 ((feetOf g).take k ++ List.replicate ((feetOf g).length - k) [])) (fun k => N - k) 0 ((b5, .cells #[.int .i64 g.wide, c2, l, f] 37) :: (AC ++ (AL ++ AF ++ [(b2, .cells #[.int .i64 0, .slice none 0 0, .slice none 0 0, .slice none 0 0] 37), (b1, .cells #[.int .i64 g.wide, c] 35)]))) ⟨by omega, AL, AF, rfl, by rw [lp]; simpa using g2, AF, [], by simp, _, g3, by rw [lf]; simpa using nils_all N, by simp; omega⟩ ?_
  rintro k O ⟨hk, A2, A3, rfl, ga, gb⟩
  repeat (first | refine R1 ?_ | (refine R2 ?_; intro _))
  refine sf_if (fun h4 => ?_) fun h4 => ?_
  · have hk4 : k < N := by omega
    repeat (first | refine R1 ?_ | (refine R2 ?_; intro _))
    refine fp (y_lend AC (fun h' _ i => l13Look_f (M := M) h' c2 g (g1.lent (by omega) i) e l f A2 A3 _ _ ga gb k (by omega) (by simp; omega) (by simp; omega)) (by rfl) ?_)
    rintro _ _ ⟨A5, A6, rfl, rfl, ga2, gb2⟩
    rw [← picOf_at (g := g) (k := k) (by omega), set_step (by omega)] at ga2
    rw [← feetOf_at (g := g) (k := k) (by omega), scene_step (by omega)] at gb2
    repeat (first | refine R1 ?_ | (refine R2 ?_; intro _))
    exact ⟨k + 1, by omega, ⟨rfl, trivial⟩, rfl, (b5, .cells #[.int .i64 g.wide, c2, l, f] 37) :: (AC ++ (A5 ++ A6 ++ [(b2, .cells #[.int .i64 0, .slice none 0 0, .slice none 0 0, .slice none 0 0] 37), (b1, .cells #[.int .i64 g.wide, c] 35)])), _, inferInstance, by omega, A5, A6, rfl, ga2, gb2⟩
  · refine sf_exit ?_
    obtain rfl : k = N := by omega
    rw [lp, List.take_of_length_le (by omega), Nat.sub_self, List.replicate_zero, List.append_nil] at ga
    rw [lf, List.take_of_length_le (by omega), Nat.sub_self, List.replicate_zero, List.append_nil] at gb
    repeat (first | refine R1 ?_ | (refine R2 ?_; intro _))
    exact sf_ret (rO (AC ++ (A2 ++ A3)) ⟨_, rfl, sceneO_mk (s := sceneOf g) g1 (by simp only [sceneOf]; omega) ga (by simp only [sceneOf]; omega) gb⟩)
theorem sSceneOk_v (h : PHeap) (ca : List Value) (s : Scene) (b : (sceneR τ).B h ca s) : CallV Tryz.prog M 25 [.agg ca.toArray] h (.bool (sceneOk s)) := by
  obtain ⟨c, l, f, rfl, s1, s2, s3⟩ := sceneB b
  have o1 := s1.one
  have o2 := s2.one
  have o3 := s3.one
  refine calls_of_sf Tryz.func25 rfl Tryz.ntmps25 ?_
  simp only [argsL, Nat.reduceAdd]
  repeat (first | refine R1 ?_ | (refine R2 ?_; intro _))
  refine fp (y_call (sSceneNew_f (M := M) _ _ s.grid (gridB_mk s1)) (by rfl) ?_)
  rintro _ A1 ⟨cs, rfl, q⟩
  have q0 := q
  obtain ⟨c2, l2, f2, X1, X2, X3, rfl, rfl, ⟨g1, k1⟩, ⟨g2, k2⟩, g3⟩ := sceneO q
  have o4 := g1.one
  have o5 := g2.one
  have o6 := g3.one
  by_cases e : gridOk s.grid = true
  · have en : sceneNew s.grid = (sceneOf s.grid, true) := by rw [sceneNew, if_pos e]
    have ew : (sceneOf s.grid, true).1.grid.wide = s.grid.wide := rfl
    rw [en, ew]
    rw [en] at q0 g1 g2 g3 k2
    simp only at q0 g1 g2 g3 k2
    have hsc : sceneOk s = (decide (picOf s.grid = s.lights) && decide (feetOf s.grid = s.feet)) := by
      rw [sceneOk, e]
      obtain ⟨gg, ll, ff⟩ := s
      simp only [sceneOf, Scene.mk.injEq, true_and, Bool.true_and]
      by_cases h1 : picOf gg = ll <;> by_cases h2 : feetOf gg = ff
      · simp [h1, h2]
      · have : ¬ ff = feetOf gg := fun e => h2 e.symm
        simp [h2, this]
      · have : ¬ ll = picOf gg := fun e => h1 e.symm
        simp [h1, this]
      · have : ¬ ll = picOf gg := fun e => h1 e.symm
        simp [h1, this]
    rw [hsc]
    obtain ⟨F0, F1, rfl, rs, gr, oa, hb⟩ := g3
    obtain ⟨rx, s3, bx⟩ := s3
    have lr := oa.len
    have lx := bx.len
    have hrl := s3.small
    simp only [sceneOf] at k2 lr hb oa
    repeat (first | refine R1 ?_ | (refine R2 ?_; intro _))
    refine fp (y_lendV X2 (fun h' l i => l13Same_v (M := M) h' _ _ _ s.lights (g2.lent k2 i) (s2.le l.le)) (by rfl) ?_)
    by_cases h1' : picOf s.grid = s.lights
    rotate_left
    · have h1 : decide ((sceneOf s.grid).lights = s.lights) = false := decide_eq_false h1'
      rw [h1]
      repeat (first | refine R1 ?_ | (refine R2 ?_; intro _))
      refine sf_T rfl ?_
      repeat (first | refine R1 ?_ | (refine R2 ?_; intro _))
      refine sf_ret (rV ?_)
      simp [h1']
    have h1 : decide ((sceneOf s.grid).lights = s.lights) = true := decide_eq_true h1'
    rw [h1]
    repeat (first | refine R1 ?_ | (refine R2 ?_; intro _))
    refine sf_if (fun h2 => ?_) fun h2 => ?_
    · have h2' : ¬ feetOf s.grid = s.feet := fun e => h2 (by rw [lr, lx, e])
      repeat (first | refine R1 ?_ | (refine R2 ?_; intro _))
      refine sf_ret (rV ?_)
      simp [h2']
    have hl : (feetOf s.grid).length = s.feet.length := by omega
    repeat (first | refine R1 ?_ | (refine R2 ?_; intro _))
    rename_i b1 b3
    refine sf_lp (ι := Nat) [1, 3] (fun k => [(5, .int .i64 (k : Int))]) (fun k O => k ≤ s.feet.length ∧ O = (b3, .cells #[.int .i64 s.grid.wide, c2, l2, f2] 37) :: (X1 ++ (X2 ++ (F0 ++ F1)) ++ [(b1, .cells #[.int .i64 s.grid.wide, c, l, f] 37)]) ∧ (feetOf s.grid).take k = s.feet.take k) (fun k => s.feet.length - k) 0 ((b3, .cells #[.int .i64 s.grid.wide, c2, l2, f2] 37) :: (X1 ++ (X2 ++ (F0 ++ F1)) ++ [(b1, .cells #[.int .i64 s.grid.wide, c, l, f] 37)])) ⟨by omega, rfl, rfl⟩ ?_
    rintro k O ⟨hk, rfl, hi⟩
    repeat (first | refine R1 ?_ | (refine R2 ?_; intro _))
    refine sf_if (fun h4 => ?_) fun h4 => ?_
    · have hk4 : k < (feetOf s.grid).length := by omega
      have hk5 : k < s.feet.length := by omega
      have hk6 : k < rs.length := by omega
      have hk7 : k < rx.length := by omega
      obtain ⟨B1, Bk, B2, rfl, ⟨w, ew, gw, lw⟩, -⟩ := oa.at hk4
      obtain ⟨vx, ex, sx4⟩ := bx.at hk5
      haveI : FlatV (rawF (intSR τ).sz) (gt rs k) [w] := ⟨ew⟩
      haveI : FlatV (rawF (intSR τ).sz) (gt rx k) [vx] := ⟨ex⟩
      have o7 := gw.one
      have o8 := sx4.one
      repeat (first | refine R1 ?_ | (refine R2 ?_; intro _))
      refine sf_draw (by kernel_rfl) (regX_run [[], [0], [], [0, 1, 2], [0, 1, 2, 3], [], [5], [], [5, 6, 7], [5, 6, 7, 8], [0, 1, 2, 3, 4, 5, 6, 7, 8, 9], [0, 1, 2, 3, 4, 5, 6, 7, 8, 9, 10]] 10 [(0, false), (1, false), (2, false), (3, false), (4, false), (5, false), (6, false), (7, false), (8, false), (9, false)] (by kernel_rfl) (by kernel_rfl) (by kernel_rfl) ?_)
      repeat (refine Da1 ?_)
      (refine a_end (by rfl) (by rfl) ?_; simp only [finA, setL, List.drop_succ_cons, List.drop_zero])
      refine fp (y_lendV Bk (fun h' l i => l13Same_v (M := M) h' _ _ _ _ (gw.lent lw i) (sx4.le l.le)) (by rfl) ?_)
      repeat (first | refine R1 ?_ | (refine R2 ?_; intro _))
      refine sf_ifn (fun h5 => ?_) fun h5 => ?_
      · have h5' : ¬ feetOf s.grid = s.feet := fun e => h5 (by rw [e])
        repeat (first | refine R1 ?_ | (refine R2 ?_; intro _))
        refine sf_ret (rV ?_)
        simp [h5']
      · repeat (first | refine R1 ?_ | (refine R2 ?_; intro _))
        exact ⟨k + 1, by omega, ⟨rfl, trivial⟩, rfl, _, _, inferInstance, by omega, rfl, eq_step hk4 hk5 hi h5⟩
    · refine sf_exit ?_
      repeat (first | refine R1 ?_ | (refine R2 ?_; intro _))
      refine sf_ret (rV ?_)
      rw [eq_end hl (by omega) hi, h1']
      simp
  · have en : sceneNew s.grid = (noScene, false) := by rw [sceneNew, if_neg e]
    rw [en]
    repeat (first | refine R1 ?_ | (refine R2 ?_; intro _))
    refine sf_T (by rfl) ?_
    repeat (first | refine R1 ?_ | (refine R2 ?_; intro _))
    refine sf_ret (rV ?_)
    simp [sceneOk, e]
theorem sPaintOk_v (h : PHeap) (ca : List Value) (p : Painter) (b : (painterR τ).B h ca p) : CallV Tryz.prog M 7 [.agg ca.toArray] h (.bool (paintOk p)) := by
  obtain ⟨c, l, f, rfl, s1, s2, s3⟩ := painterB b
  have o1 := s1.one
  have o2 := s2.one
  have o3 := s3.one
  have bs : (sceneR τ).B h [.int .i64 p.scene.grid.wide, c, l, f] p.scene := sceneB_mk s1 s2 s3
  refine calls_of_sf Tryz.func7 rfl Tryz.ntmps7 ?_
  simp only [argsL, Nat.reduceAdd]
  repeat (first | refine R1 ?_ | (refine R2 ?_; intro _))
  refine sf_cond (by rfl) (fun e1 => ?_) fun e1 => ?_
  · simp only [Bool.not_eq_true'] at e1
    have ep : paintOk p = (decide (p.ver = 0) && decide (p.scene = noScene)) := by rw [paintOk, if_neg (by rw [e1]; decide)]
    rw [ep]
    repeat (first | refine R1 ?_ | (refine R2 ?_; intro _))
    refine f_split (fun e2 => ?_) fun e2 => ?_
    · repeat (first | refine R1 ?_ | (refine R2 ?_; intro _))
      refine fp (y_callV (l21None_v (M := M) _ _ p.scene bs) (by rfl) ?_)
      repeat (first | refine R1 ?_ | (refine R2 ?_; intro _))
      refine sf_ret (rV ?_)
      simp [e2]
    · repeat (first | refine R1 ?_ | (refine R2 ?_; intro _))
      refine sf_ret (rV ?_)
      simp [e2]
  · simp only [Bool.not_eq_false'] at e1
    have ep : paintOk p = (p.up && (decide (0 ≤ p.ver) && decide (p.ver ≤ 60)) && sceneOk p.scene) := by rw [paintOk, if_pos e1]
    rw [ep]
    repeat (first | refine R1 ?_ | (refine R2 ?_; intro _))
    refine f_splitB (fun e2 => ?_) fun e2 => ?_
    · repeat (first | refine R1 ?_ | (refine R2 ?_; intro _))
      refine fp (y_callV (l6In_v _ _ _ _) (by rfl) ?_)
      repeat (first | refine R1 ?_ | (refine R2 ?_; intro _))
      refine f_splitB (fun e3 => ?_) fun e3 => ?_
      · repeat (first | refine R1 ?_ | (refine R2 ?_; intro _))
        refine fp (y_callV (sSceneOk_v (M := M) _ _ p.scene bs) (by rfl) ?_)
        repeat (first | refine R1 ?_ | (refine R2 ?_; intro _))
        refine sf_ret (rV ?_)
        rw [e2, e3]; rfl
      · repeat (first | refine R1 ?_ | (refine R2 ?_; intro _))
        refine sf_ret (rV ?_)
        rw [e2, e3]; rfl
    · repeat (first | refine R1 ?_ | (refine R2 ?_; intro _))
      refine sf_ret (rV ?_)
      rw [e2]; rfl
end Go.Proofs.YtekjikbaefgncaaGreat

/- Walks: a cell's copy. -/
namespace Go.Proofs.YtekjikbaefgncaaGreat
open Go Go.Sl
set_option maxRecDepth 100000
set_option maxHeartbeats 4000000
attribute [local irreducible] Go.Code.sf sfOps Opq opo retF Do1 anyO
variable {M : Jdg → Prop} [IsCl Tryz.prog M]
theorem toCell_v (h : PHeap) (a b : Int) : CallV Tryz.prog M 73 [.agg #[.int .i64 a, .int .i64 b]] h (.agg #[.int .i64 a, .int .i64 b]) := by
  refine calls_of_sf Tryz.func73 rfl Tryz.ntmps73 ?_
  simp only [argsL, Nat.reduceAdd]
  repeat (first | refine R1 ?_ | (refine R2 ?_; intro _))
  exact sf_ret (rV rfl)
end Go.Proofs.YtekjikbaefgncaaGreat

/- Walks of the laws' copies: toX. -/
namespace Go.Proofs.YtekjikbaefgncaaGreat
open Go Go.Sl
set_option maxRecDepth 100000
set_option maxHeartbeats 4000000
attribute [local irreducible] Go.Code.sf sfOps Opq opo retF Do1 anyO
variable {M : Jdg → Prop} [IsCl Tryz.prog M]

theorem toCellS_f (h : PHeap) (v : Value) (xs : List Cell) (s : Sl h v cellF xs) (hs : xs.length ≤ 1048576) : CallF Tryz.prog M 72 [v] [] h fun v' A => Gr A v' 44 cellF xs := by
  have o1 := s.one
  refine calls_of_sf Tryz.func72 rfl Tryz.ntmps72 ?_
  simp only [argsL, Nat.reduceAdd]
  repeat (first | refine R1 ?_ | (refine R2 ?_; intro _))
  refine fp (y_make (by rfl) (by rfl) (by rfl) (by decide) (by omega) fun w A g => ?_)
  repeat (first | refine R1 ?_ | (refine R2 ?_; intro _))
  refine sf_lp [0, 3] (fun k : Nat => [(4, .int .i64 (k : Int))]) (fun k O => k ≤ xs.length ∧ Gr O w 44 cellF (xs.take k ++ List.replicate (xs.length - k) ⟨0, 0⟩)) (fun k => xs.length - k) 0 A ⟨by omega, by simpa using g⟩ ?_
  rintro k O ⟨hk, g⟩
  repeat (first | refine R1 ?_ | (refine R2 ?_; intro _))
  refine sf_if (fun h4 => ?_) fun h4 => ?_
  · have hk4 : k < xs.length := by omega
    have hl : k < (xs.take k ++ List.replicate (xs.length - k) (⟨0, 0⟩ : Cell)).length := by simp; omega
    repeat (first | refine R1 ?_ | (refine R2 ?_; intro _))
    refine fp (y_callV (toCell_v _ _ _) (by rfl) ?_)
    repeat (first | refine R1 ?_ | (refine R2 ?_; intro _))
    refine fp (y_storeG0 (by rfl) (by rfl) g (by omega) (by rfl) fun A ys ey ly _ g => ?_)
    repeat (first | refine R1 ?_ | (refine R2 ?_; intro _))
    refine ⟨k + 1, by omega, ⟨rfl, trivial⟩, rfl, A, _, inferInstance, by omega, ?_⟩
    rw [← set_step hk4, ← ey]; exact g
  · refine sf_exit ?_
    repeat (first | refine R1 ?_ | (refine R2 ?_; intro _))
    refine sf_ret (rO O ?_)
    have : k = xs.length := by omega
    subst this
    simpa using g
end Go.Proofs.YtekjikbaefgncaaGreat

/- Walks of the exact laws' own helpers: equality. Printed by program. -/
namespace Go.Proofs.YtekjikbaefgncaaGreat
open Go Go.Sl
set_option maxRecDepth 100000
set_option maxHeartbeats 4000000
attribute [local irreducible] Go.Code.sf sfOps Opq opo retF Do1 anyO
variable {M : Jdg → Prop} [IsCl Tryz.prog M]
theorem eqCell_v (h : PHeap) (x y : Cell) : CallV Tryz.prog M 64 [.agg #[.int .i64 x.kind, .int .i64 x.light], .agg #[.int .i64 y.kind, .int .i64 y.light]] h (.bool (decide (x = y))) := by
  refine calls_of_sf Tryz.func64 rfl Tryz.ntmps64 ?_
  simp only [argsL, Nat.reduceAdd]
  repeat (first | refine R1 ?_ | (refine R2 ?_; intro _))
  refine sf_if (fun e1 => ?_) fun e1 => ?_
  · repeat (first | refine R1 ?_ | (refine R2 ?_; intro _))
    exact sf_ret (rV (bF fun e => e1 (by rw [e])))
  repeat (first | refine R1 ?_ | (refine R2 ?_; intro _))
  refine sf_if (fun e2 => ?_) fun e2 => ?_
  · repeat (first | refine R1 ?_ | (refine R2 ?_; intro _))
    exact sf_ret (rV (bF fun e => e2 (by rw [e])))
  repeat (first | refine R1 ?_ | (refine R2 ?_; intro _))
  refine sf_ret (rV (bT ?_))
  cases x; cases y; simp_all
theorem eqEdit_v (h : PHeap) (x y : Edit) : CallV Tryz.prog M 35 [.agg #[.int .i64 x.at', .int .i64 x.cell.kind, .int .i64 x.cell.light], .agg #[.int .i64 y.at', .int .i64 y.cell.kind, .int .i64 y.cell.light]] h (.bool (decide (x = y))) := by
  refine calls_of_sf Tryz.func35 rfl Tryz.ntmps35 ?_
  simp only [argsL, Nat.reduceAdd]
  repeat (first | refine R1 ?_ | (refine R2 ?_; intro _))
  refine sf_if (fun e1 => ?_) fun e1 => ?_
  · repeat (first | refine R1 ?_ | (refine R2 ?_; intro _))
    exact sf_ret (rV (bF fun e => e1 (by rw [e])))
  repeat (first | refine R1 ?_ | (refine R2 ?_; intro _))
  refine fp (y_callV (eqCell_v _ x.cell y.cell) (by rfl) ?_)
  repeat (first | refine R1 ?_ | (refine R2 ?_; intro _))
  refine sf_ifn (fun e2 => ?_) fun e2 => ?_
  · repeat (first | refine R1 ?_ | (refine R2 ?_; intro _))
    exact sf_ret (rV (bF fun e => e2 (by rw [e])))
  repeat (first | refine R1 ?_ | (refine R2 ?_; intro _))
  refine sf_ret (rV (bT ?_))
  cases x; cases y; simp_all
theorem eqIntS_v (h : PHeap) (a b : Value) (xs ys : List Int) (sx : Sl h a intF xs) (sy : Sl h b intF ys) : CallV Tryz.prog M 36 [a, b] h (.bool (decide (xs = ys))) := by
  have o1 := sx.one
  have o2 := sy.one
  have hx := sx.small
  have hy := sy.small
  refine calls_of_sf Tryz.func36 rfl Tryz.ntmps36 ?_
  simp only [argsL, Nat.reduceAdd]
  repeat (first | refine R1 ?_ | (refine R2 ?_; intro _))
  refine sf_if (fun e0 => ?_) fun e0 => ?_
  · repeat (first | refine R1 ?_ | (refine R2 ?_; intro _))
    exact sf_ret (rV (bF fun e => e0 (by rw [e])))
  have hl : xs.length = ys.length := by omega
  repeat (first | refine R1 ?_ | (refine R2 ?_; intro _))
  refine sf_rd [0, 1] 5 xs.length 0 (fun k => xs.take k = ys.take k) (by omega) rfl (fun k hk hi => ?_)
  repeat (first | refine R1 ?_ | (refine R2 ?_; intro _))
  refine sf_if (fun h4 => ?_) fun h4 => ?_
  · have hk4 : k < xs.length := by omega
    have hk5 : k < ys.length := by omega
    repeat (first | refine R1 ?_ | (refine R2 ?_; intro _))
    refine sf_draw (by kernel_rfl) (regX_run [[], [], [0, 1], [0, 1, 2], [], [], [4, 5], [4, 5, 6], [0, 1, 2, 3, 4, 5, 6, 7]] 8 [(0, false), (1, false), (2, false), (3, false), (4, false), (5, false), (6, false), (7, false)] (by kernel_rfl) (by kernel_rfl) (by kernel_rfl) ?_)
    repeat (refine Da1 ?_)
    (refine a_end (by rfl) (by rfl) ?_; simp only [finA, setL, List.drop_succ_cons, List.drop_zero])
    repeat (first | refine R1 ?_ | (refine R2 ?_; intro _))
    refine sf_if (fun e1 => ?_) fun e1 => ?_
    · repeat (first | refine R1 ?_ | (refine R2 ?_; intro _))
      exact sf_ret (rV (bF (eq_at e1)))
    · repeat (first | refine R1 ?_ | (refine R2 ?_; intro _))
      exact ⟨⟨hk4, eq_step hk4 hk5 hi (by simpa using e1)⟩, rfl, rfl, _, inferInstance⟩
  · refine sf_exit ?_
    repeat (first | refine R1 ?_ | (refine R2 ?_; intro _))
    exact sf_ret (rV (bT (eq_end hl (by omega) hi)))
theorem eqCellS_v (h : PHeap) (a b : Value) (xs ys : List Cell) (sx : Sl h a cellF xs) (sy : Sl h b cellF ys) : CallV Tryz.prog M 63 [a, b] h (.bool (decide (xs = ys))) := by
  have o1 := sx.one
  have o2 := sy.one
  have hx := sx.small
  have hy := sy.small
  refine calls_of_sf Tryz.func63 rfl Tryz.ntmps63 ?_
  simp only [argsL, Nat.reduceAdd]
  repeat (first | refine R1 ?_ | (refine R2 ?_; intro _))
  refine sf_if (fun e0 => ?_) fun e0 => ?_
  · repeat (first | refine R1 ?_ | (refine R2 ?_; intro _))
    exact sf_ret (rV (bF fun e => e0 (by rw [e])))
  have hl : xs.length = ys.length := by omega
  repeat (first | refine R1 ?_ | (refine R2 ?_; intro _))
  refine sf_rd [0, 1] 5 xs.length 0 (fun k => xs.take k = ys.take k) (by omega) rfl (fun k hk hi => ?_)
  repeat (first | refine R1 ?_ | (refine R2 ?_; intro _))
  refine sf_if (fun h4 => ?_) fun h4 => ?_
  · have hk4 : k < xs.length := by omega
    have hk5 : k < ys.length := by omega
    repeat (first | refine R1 ?_ | (refine R2 ?_; intro _))
    refine sf_draw (by kernel_rfl) (regX_run [[], [], [0, 1], [0, 1, 2], [], [], [4, 5], [4, 5, 6], [0, 1, 2, 3, 4, 5, 6, 7], [0, 1, 2, 3, 4, 5, 6, 7, 8]] 8 [(0, false), (1, false), (2, false), (3, false), (4, false), (5, false), (6, false), (7, false)] (by kernel_rfl) (by kernel_rfl) (by kernel_rfl) ?_)
    repeat (refine Da1 ?_)
    (refine a_end (by rfl) (by rfl) ?_; simp only [finA, setL, List.drop_succ_cons, List.drop_zero])
    refine fp (y_callV (eqCell_v _ (gt xs k) (gt ys k)) (by rfl) ?_)
    repeat (first | refine R1 ?_ | (refine R2 ?_; intro _))
    refine sf_ifn (fun e1 => ?_) fun e1 => ?_
    · repeat (first | refine R1 ?_ | (refine R2 ?_; intro _))
      exact sf_ret (rV (bF (eq_at e1)))
    · repeat (first | refine R1 ?_ | (refine R2 ?_; intro _))
      exact ⟨⟨hk4, eq_step hk4 hk5 hi (by exact e1)⟩, rfl, rfl, _, inferInstance⟩
  · refine sf_exit ?_
    repeat (first | refine R1 ?_ | (refine R2 ?_; intro _))
    exact sf_ret (rV (bT (eq_end hl (by omega) hi)))
theorem eqGrid_v (h : PHeap) (ca cb : List Value) (x y : Grid) (bx : (gridR τ).B h ca x) (by' : (gridR τ).B h cb y) : CallV Tryz.prog M 34 [.agg ca.toArray, .agg cb.toArray] h (.bool (decide (x = y))) := by
  obtain ⟨v_cells1, rfl, s_cells1⟩ := gridB bx
  have o_v_cells1 := s_cells1.one
  obtain ⟨v_cells2, rfl, s_cells2⟩ := gridB by'
  have o_v_cells2 := s_cells2.one
  refine calls_of_sf Tryz.func34 rfl Tryz.ntmps34 ?_
  simp only [argsL, Nat.reduceAdd]
  repeat (first | refine R1 ?_ | (refine R2 ?_; intro _))
  refine sf_if (fun e1 => ?_) fun e1 => ?_
  · repeat (first | refine R1 ?_ | (refine R2 ?_; intro _))
    exact sf_ret (rV (bF fun e => e1 (by rw [e])))
  repeat (first | refine R1 ?_ | (refine R2 ?_; intro _))
  refine fp (y_callV (eqCellS_v _ _ _ _ _ s_cells1 s_cells2) (by rfl) ?_)
  repeat (first | refine R1 ?_ | (refine R2 ?_; intro _))
  refine sf_ifn (fun e2 => ?_) fun e2 => ?_
  · repeat (first | refine R1 ?_ | (refine R2 ?_; intro _))
    exact sf_ret (rV (bF fun e => e2 (by rw [e])))
  repeat (first | refine R1 ?_ | (refine R2 ?_; intro _))
  refine sf_ret (rV (bT ?_))
  cases x; cases y; simp_all
end Go.Proofs.YtekjikbaefgncaaGreat

/- Walks of the exact laws' own helpers: equality, worlds. Printed by program. -/
namespace Go.Proofs.YtekjikbaefgncaaGreat
open Go Go.Sl
set_option maxRecDepth 100000
set_option maxHeartbeats 4000000
attribute [local irreducible] Go.Code.sf sfOps Opq opo retF Do1 anyO
variable {M : Jdg → Prop} [IsCl Tryz.prog M]
theorem eqIntSS_v (h : PHeap) (a b : Value) (xs ys : List (List Int)) (sx : SlR (intSR τ) h a xs) (sy : SlR (intSR τ) h b ys) : CallV Tryz.prog M 60 [a, b] h (.bool (decide (xs = ys))) := by
  have o1 := sx.one
  have o2 := sy.one
  obtain ⟨rx, sx, bx⟩ := sx
  obtain ⟨ry, sy, by'⟩ := sy
  have lx := bx.len
  have ly := by'.len
  have hx := sx.small
  have hy := sy.small
  refine calls_of_sf Tryz.func60 rfl Tryz.ntmps60 ?_
  simp only [argsL, Nat.reduceAdd]
  repeat (first | refine R1 ?_ | (refine R2 ?_; intro _))
  refine sf_if (fun e0 => ?_) fun e0 => ?_
  · repeat (first | refine R1 ?_ | (refine R2 ?_; intro _))
    exact sf_ret (rV (bF fun e => e0 (by rw [lx, ly, e])))
  have hl : xs.length = ys.length := by omega
  repeat (first | refine R1 ?_ | (refine R2 ?_; intro _))
  refine sf_rd [0, 1] 5 xs.length 0 (fun k => xs.take k = ys.take k) (by omega) rfl (fun k hk hi => ?_)
  repeat (first | refine R1 ?_ | (refine R2 ?_; intro _))
  refine sf_if (fun h4 => ?_) fun h4 => ?_
  · have hk4 : k < xs.length := by omega
    have hk5 : k < ys.length := by omega
    have bx4 := bx.at hk4
    have by4 := by'.at hk5
    have hk6 : k < rx.length := by omega
    have hk7 : k < ry.length := by omega
    obtain ⟨vx, ex, sx4⟩ := bx4
    obtain ⟨vy, ey, sy4⟩ := by4
    haveI : FlatV (rawF (intSR τ).sz) (gt rx k) [vx] := ⟨ex⟩
    haveI : FlatV (rawF (intSR τ).sz) (gt ry k) [vy] := ⟨ey⟩
    repeat (first | refine R1 ?_ | (refine R2 ?_; intro _))
    refine sf_draw (by kernel_rfl) (regX_run [[], [], [0, 1], [0, 1, 2], [], [], [4, 5], [4, 5, 6], [0, 1, 2, 3, 4, 5, 6, 7], [0, 1, 2, 3, 4, 5, 6, 7, 8]] 8 [(0, false), (1, false), (2, false), (3, false), (4, false), (5, false), (6, false), (7, false)] (by kernel_rfl) (by kernel_rfl) (by kernel_rfl) ?_)
    repeat (refine Da1 ?_)
    (refine a_end (by rfl) (by rfl) ?_; simp only [finA, setL, List.drop_succ_cons, List.drop_zero])
    refine fp (y_callV (eqIntS_v _ _ _ _ _ sx4 sy4) (by rfl) ?_)
    repeat (first | refine R1 ?_ | (refine R2 ?_; intro _))
    refine sf_ifn (fun e1 => ?_) fun e1 => ?_
    · repeat (first | refine R1 ?_ | (refine R2 ?_; intro _))
      exact sf_ret (rV (bF (eq_at e1)))
    · repeat (first | refine R1 ?_ | (refine R2 ?_; intro _))
      exact ⟨⟨hk4, eq_step hk4 hk5 hi (by exact e1)⟩, rfl, rfl, _, inferInstance⟩
  · refine sf_exit ?_
    repeat (first | refine R1 ?_ | (refine R2 ?_; intro _))
    exact sf_ret (rV (bT (eq_end hl (by omega) hi)))
theorem eqScene_v (h : PHeap) (ca cb : List Value) (x y : Scene) (bx : (sceneR τ).B h ca x) (by' : (sceneR τ).B h cb y) : CallV Tryz.prog M 29 [.agg ca.toArray, .agg cb.toArray] h (.bool (decide (x = y))) := by
  obtain ⟨v_grid_cells1, v_lights1, v_feet1, rfl, s_grid_cells1, s_lights1, s_feet1⟩ := sceneB bx
  have o_v_grid_cells1 := s_grid_cells1.one
  have o_v_lights1 := s_lights1.one
  have o_v_feet1 := s_feet1.one
  obtain ⟨v_grid_cells2, v_lights2, v_feet2, rfl, s_grid_cells2, s_lights2, s_feet2⟩ := sceneB by'
  have o_v_grid_cells2 := s_grid_cells2.one
  have o_v_lights2 := s_lights2.one
  have o_v_feet2 := s_feet2.one
  refine calls_of_sf Tryz.func29 rfl Tryz.ntmps29 ?_
  simp only [argsL, Nat.reduceAdd]
  repeat (first | refine R1 ?_ | (refine R2 ?_; intro _))
  refine fp (y_callV (eqGrid_v _ _ _ x.grid y.grid (gridB_mk s_grid_cells1) (gridB_mk s_grid_cells2)) (by rfl) ?_)
  repeat (first | refine R1 ?_ | (refine R2 ?_; intro _))
  refine sf_ifn (fun e1 => ?_) fun e1 => ?_
  · repeat (first | refine R1 ?_ | (refine R2 ?_; intro _))
    exact sf_ret (rV (bF fun e => e1 (by rw [e])))
  repeat (first | refine R1 ?_ | (refine R2 ?_; intro _))
  refine fp (y_callV (eqIntS_v _ _ _ _ _ s_lights1 s_lights2) (by rfl) ?_)
  repeat (first | refine R1 ?_ | (refine R2 ?_; intro _))
  refine sf_ifn (fun e2 => ?_) fun e2 => ?_
  · repeat (first | refine R1 ?_ | (refine R2 ?_; intro _))
    exact sf_ret (rV (bF fun e => e2 (by rw [e])))
  repeat (first | refine R1 ?_ | (refine R2 ?_; intro _))
  refine fp (y_callV (eqIntSS_v _ _ _ _ _ s_feet1 s_feet2) (by rfl) ?_)
  repeat (first | refine R1 ?_ | (refine R2 ?_; intro _))
  refine sf_ifn (fun e3 => ?_) fun e3 => ?_
  · repeat (first | refine R1 ?_ | (refine R2 ?_; intro _))
    exact sf_ret (rV (bF fun e => e3 (by rw [e])))
  repeat (first | refine R1 ?_ | (refine R2 ?_; intro _))
  refine sf_ret (rV (bT ?_))
  cases x; cases y; simp_all
theorem eqPainter_v (h : PHeap) (ca cb : List Value) (x y : Painter) (bx : (painterR τ).B h ca x) (by' : (painterR τ).B h cb y) : CallV Tryz.prog M 10 [.agg ca.toArray, .agg cb.toArray] h (.bool (decide (x = y))) := by
  obtain ⟨v_scene_grid_cells1, v_scene_lights1, v_scene_feet1, rfl, s_scene_grid_cells1, s_scene_lights1, s_scene_feet1⟩ := painterB bx
  have o_v_scene_grid_cells1 := s_scene_grid_cells1.one
  have o_v_scene_lights1 := s_scene_lights1.one
  have o_v_scene_feet1 := s_scene_feet1.one
  obtain ⟨v_scene_grid_cells2, v_scene_lights2, v_scene_feet2, rfl, s_scene_grid_cells2, s_scene_lights2, s_scene_feet2⟩ := painterB by'
  have o_v_scene_grid_cells2 := s_scene_grid_cells2.one
  have o_v_scene_lights2 := s_scene_lights2.one
  have o_v_scene_feet2 := s_scene_feet2.one
  refine calls_of_sf Tryz.func10 rfl Tryz.ntmps10 ?_
  simp only [argsL, Nat.reduceAdd]
  repeat (first | refine R1 ?_ | (refine R2 ?_; intro _))
  refine sf_ifn (fun e1 => ?_) fun e1 => ?_
  · repeat (first | refine R1 ?_ | (refine R2 ?_; intro _))
    exact sf_ret (rV (bF fun e => e1 (by rw [e])))
  repeat (first | refine R1 ?_ | (refine R2 ?_; intro _))
  refine sf_ifn (fun e2 => ?_) fun e2 => ?_
  · repeat (first | refine R1 ?_ | (refine R2 ?_; intro _))
    exact sf_ret (rV (bF fun e => e2 (by rw [e])))
  repeat (first | refine R1 ?_ | (refine R2 ?_; intro _))
  refine sf_if (fun e3 => ?_) fun e3 => ?_
  · repeat (first | refine R1 ?_ | (refine R2 ?_; intro _))
    exact sf_ret (rV (bF fun e => e3 (by rw [e])))
  repeat (first | refine R1 ?_ | (refine R2 ?_; intro _))
  refine fp (y_callV (eqScene_v _ _ _ x.scene y.scene (sceneB_mk s_scene_grid_cells1 s_scene_lights1 s_scene_feet1) (sceneB_mk s_scene_grid_cells2 s_scene_lights2 s_scene_feet2)) (by rfl) ?_)
  repeat (first | refine R1 ?_ | (refine R2 ?_; intro _))
  refine sf_ifn (fun e4 => ?_) fun e4 => ?_
  · repeat (first | refine R1 ?_ | (refine R2 ?_; intro _))
    exact sf_ret (rV (bF fun e => e4 (by rw [e])))
  repeat (first | refine R1 ?_ | (refine R2 ?_; intro _))
  refine sf_ret (rV (bT ?_))
  cases x; cases y; simp_all
theorem eqWord_v (h : PHeap) (ca cb : List Value) (x y : Word) (bx : (wordR τ).B h ca x) (by' : (wordR τ).B h cb y) : CallV Tryz.prog M 13 [.agg ca.toArray, .agg cb.toArray] h (.bool (decide (x = y))) := by
  obtain ⟨v_grid_cells1, v_lights1, rfl, s_grid_cells1, s_lights1⟩ := wordB bx
  have o_v_grid_cells1 := s_grid_cells1.one
  have o_v_lights1 := s_lights1.one
  obtain ⟨v_grid_cells2, v_lights2, rfl, s_grid_cells2, s_lights2⟩ := wordB by'
  have o_v_grid_cells2 := s_grid_cells2.one
  have o_v_lights2 := s_lights2.one
  refine calls_of_sf Tryz.func13 rfl Tryz.ntmps13 ?_
  simp only [argsL, Nat.reduceAdd]
  repeat (first | refine R1 ?_ | (refine R2 ?_; intro _))
  refine sf_if (fun e1 => ?_) fun e1 => ?_
  · repeat (first | refine R1 ?_ | (refine R2 ?_; intro _))
    exact sf_ret (rV (bF fun e => e1 (by rw [e])))
  repeat (first | refine R1 ?_ | (refine R2 ?_; intro _))
  refine sf_if (fun e2 => ?_) fun e2 => ?_
  · repeat (first | refine R1 ?_ | (refine R2 ?_; intro _))
    exact sf_ret (rV (bF fun e => e2 (by rw [e])))
  repeat (first | refine R1 ?_ | (refine R2 ?_; intro _))
  refine sf_if (fun e3 => ?_) fun e3 => ?_
  · repeat (first | refine R1 ?_ | (refine R2 ?_; intro _))
    exact sf_ret (rV (bF fun e => e3 (by rw [e])))
  repeat (first | refine R1 ?_ | (refine R2 ?_; intro _))
  refine sf_if (fun e4 => ?_) fun e4 => ?_
  · repeat (first | refine R1 ?_ | (refine R2 ?_; intro _))
    exact sf_ret (rV (bF fun e => e4 (by rw [e])))
  repeat (first | refine R1 ?_ | (refine R2 ?_; intro _))
  refine fp (y_callV (eqGrid_v _ _ _ x.grid y.grid (gridB_mk s_grid_cells1) (gridB_mk s_grid_cells2)) (by rfl) ?_)
  repeat (first | refine R1 ?_ | (refine R2 ?_; intro _))
  refine sf_ifn (fun e5 => ?_) fun e5 => ?_
  · repeat (first | refine R1 ?_ | (refine R2 ?_; intro _))
    exact sf_ret (rV (bF fun e => e5 (by rw [e])))
  repeat (first | refine R1 ?_ | (refine R2 ?_; intro _))
  refine fp (y_callV (eqEdit_v _ x.edit y.edit) (by rfl) ?_)
  repeat (first | refine R1 ?_ | (refine R2 ?_; intro _))
  refine sf_ifn (fun e6 => ?_) fun e6 => ?_
  · repeat (first | refine R1 ?_ | (refine R2 ?_; intro _))
    exact sf_ret (rV (bF fun e => e6 (by rw [e])))
  repeat (first | refine R1 ?_ | (refine R2 ?_; intro _))
  refine fp (y_callV (eqIntS_v _ _ _ _ _ s_lights1 s_lights2) (by rfl) ?_)
  repeat (first | refine R1 ?_ | (refine R2 ?_; intro _))
  refine sf_ifn (fun e7 => ?_) fun e7 => ?_
  · repeat (first | refine R1 ?_ | (refine R2 ?_; intro _))
    exact sf_ret (rV (bF fun e => e7 (by rw [e])))
  repeat (first | refine R1 ?_ | (refine R2 ?_; intro _))
  refine sf_ret (rV (bT ?_))
  cases x; cases y; simp_all
end Go.Proofs.YtekjikbaefgncaaGreat

/- Walks of the exact laws' own helpers: sizes. Printed by program. -/
namespace Go.Proofs.YtekjikbaefgncaaGreat
open Go Go.Sl
set_option maxRecDepth 100000
set_option maxHeartbeats 4000000
attribute [local irreducible] Go.Code.sf sfOps Opq opo retF Do1 anyO
variable {M : Jdg → Prop} [IsCl Tryz.prog M]
attribute [local irreducible] szF
theorem szCellS_v (h : PHeap) (a : Value) (xs : List Cell) (s : Sl h a cellF xs) (left : Int) (h0 : 0 ≤ left) (h1 : left ≤ 1048576) : CallV Tryz.prog M 68 [a, .int .i64 left] h (.int .i64 (szF xs.length left)) := by
  have o1 := s.one
  have hs := s.small
  refine calls_of_sf Tryz.func68 rfl Tryz.ntmps68 ?_
  simp only [argsL, Nat.reduceAdd]
  repeat (first | refine R1 ?_ | (refine R2 ?_; intro _))
  refine sf_if (fun e => ?_) fun e => ?_
  · repeat (first | refine R1 ?_ | (refine R2 ?_; intro _))
    exact sf_ret (rV (by rw [szF_neg e]))
  · repeat (first | refine R1 ?_ | (refine R2 ?_; intro _))
    exact sf_ret (rV (by rw [szF_pos e]))
theorem szGrid_v (h : PHeap) (ca : List Value) (x : Grid) (b : (gridR τ).B h ca x) (left : Int) (h0 : 0 ≤ left) (h1 : left ≤ 1048576) : CallV Tryz.prog M 42 [.agg ca.toArray, .int .i64 left] h (.int .i64 (szF (szGridN x) left)) := by
  obtain ⟨v_cells1, rfl, s_cells1⟩ := gridB b
  have o_v_cells1 := s_cells1.one
  refine calls_of_sf Tryz.func42 rfl Tryz.ntmps42 ?_
  simp only [argsL, Nat.reduceAdd]
  repeat (first | refine R1 ?_ | (refine R2 ?_; intro _))
  refine fp (y_callV (szCellS_v _ _ _ s_cells1 _ h0 h1) (by rfl) ?_)
  repeat (first | refine R1 ?_ | (refine R2 ?_; intro _))
  refine sf_if (fun e1 => ?_) fun e1 => ?_
  · repeat (first | refine R1 ?_ | (refine R2 ?_; intro _))
    refine sf_ret (rV ?_)
    have q := szF_stop (b := 0) e1
    simp only [szGridN, szGridN, szSceneN, Nat.add_assoc, Nat.add_zero] at q ⊢
    rw [q]
  have g1 := szF_ge e1
  have f1 := szF_le (a := x.cells.length) h0
  have b1a : 0 ≤ szF (x.cells.length) (left) := by omega
  have b1b : szF (x.cells.length) (left) ≤ 1048576 := by omega
  repeat (first | refine R1 ?_ | (refine R2 ?_; intro _))
  refine sf_ret (rV ?_)
  first | rfl | simp only [szGridN, szGridN, szSceneN, Nat.add_assoc]
end Go.Proofs.YtekjikbaefgncaaGreat

/- Walks of the exact laws' own helpers: sizes, keepers. Printed by program. -/
namespace Go.Proofs.YtekjikbaefgncaaGreat
open Go Go.Sl
set_option maxRecDepth 100000
set_option maxHeartbeats 4000000
attribute [local irreducible] Go.Code.sf sfOps Opq opo retF Do1 anyO
variable {M : Jdg → Prop} [IsCl Tryz.prog M]
attribute [local irreducible] szF
theorem szIntS_v (h : PHeap) (a : Value) (xs : List Int) (s : Sl h a intF xs) (left : Int) (h0 : 0 ≤ left) (h1 : left ≤ 1048576) : CallV Tryz.prog M 43 [a, .int .i64 left] h (.int .i64 (szF xs.length left)) := by
  have o1 := s.one
  have hs := s.small
  refine calls_of_sf Tryz.func43 rfl Tryz.ntmps43 ?_
  simp only [argsL, Nat.reduceAdd]
  repeat (first | refine R1 ?_ | (refine R2 ?_; intro _))
  refine sf_if (fun e => ?_) fun e => ?_
  · repeat (first | refine R1 ?_ | (refine R2 ?_; intro _))
    exact sf_ret (rV (by rw [szF_neg e]))
  · repeat (first | refine R1 ?_ | (refine R2 ?_; intro _))
    exact sf_ret (rV (by rw [szF_pos e]))
end Go.Proofs.YtekjikbaefgncaaGreat

/- Walks of the exact laws' own helpers: sizes, painters. Printed by program. -/
namespace Go.Proofs.YtekjikbaefgncaaGreat
open Go Go.Sl
set_option maxRecDepth 100000
set_option maxHeartbeats 4000000
attribute [local irreducible] Go.Code.sf sfOps Opq opo retF Do1 anyO
variable {M : Jdg → Prop} [IsCl Tryz.prog M]
attribute [local irreducible] szF
theorem szIntSS_v (h : PHeap) (a : Value) (xs : List (List Int)) (s : SlR (intSR τ) h a xs) (left : Int) (h0 : 0 ≤ left) (h1 : left ≤ 1048576) : CallV Tryz.prog M 51 [a, .int .i64 left] h (.int .i64 (szF (szIntSSN xs) left)) := by
  have o1 := s.one
  obtain ⟨rx, s, b⟩ := s
  have lx := b.len
  have hs := s.small
  refine calls_of_sf Tryz.func51 rfl Tryz.ntmps51 ?_
  simp only [argsL, Nat.reduceAdd]
  repeat (first | refine R1 ?_ | (refine R2 ?_; intro _))
  refine sf_if (fun e => ?_) fun e => ?_
  · repeat (first | refine R1 ?_ | (refine R2 ?_; intro _))
    exact sf_ret (rV (by rw [szIntSSN, szF_stop (a := xs.length) (by rw [← lx, szF_neg e]; decide)]))
  repeat (first | refine R1 ?_ | (refine R2 ?_; intro _))
  refine sf_lp (ι := Nat × Int) [0] (fun x => [(5, .int .i64 (x.1 : Int)), (1, .int .i64 x.2)]) (fun x O => O = [] ∧ x.1 ≤ xs.length ∧ 0 ≤ x.2 ∧ x.2 ≤ 1048576 ∧ szF (szIntSSN xs) left = szF (sizeL List.length (xs.drop x.1)) x.2) (fun x => xs.length - x.1) (0, left - rx.length) [] ⟨rfl, by simp, by simp only; omega, by simp only; omega, ?_⟩ ?_
  · simp only [szIntSSN, List.drop_zero]
    rw [← szF_add (by rw [← lx, szF_pos e]; omega), ← lx, szF_pos e]
  rintro ⟨i, l⟩ O ⟨rfl, hi, hl0, hl1, hinv⟩
  repeat (first | refine R1 ?_ | (refine R2 ?_; intro _))
  refine sf_if (fun h4 => ?_) fun h4 => ?_
  · have hi4 : i < xs.length := by simp only at h4 hi; omega
    have hi5 : i < rx.length := by omega
    have b4 := b.at hi4
    simp only at hinv hl0 hl1
    rw [sizeL_drop hi4] at hinv
    obtain ⟨vx, ex, sx4⟩ := b4
    haveI : FlatV (rawF (intSR τ).sz) (gt rx i) [vx] := ⟨ex⟩
    repeat (first | refine R1 ?_ | (refine R2 ?_; intro _))
    refine fp (y_callV (szIntS_v _ _ _ sx4 _ hl0 hl1) (by rfl) ?_)
    repeat (first | refine R1 ?_ | (refine R2 ?_; intro _))
    have hle := szF_le (a := List.length (gt xs i)) hl0
    refine sf_if (fun e1 => ?_) fun e1 => ?_
    · repeat (first | refine R1 ?_ | (refine R2 ?_; intro _))
      exact sf_ret (rV (by rw [hinv, szF_stop e1]))
    · repeat (first | refine R1 ?_ | (refine R2 ?_; intro _))
      refine ⟨(i + 1, _), by simp only; omega, ⟨rfl, rfl, trivial⟩, rfl, [], _, inferInstance, rfl, by simp only; omega, by simp only; omega, by simp only; omega, ?_⟩
      simp only
      rw [hinv, szF_add e1]
  · refine sf_exit ?_
    repeat (first | refine R1 ?_ | (refine R2 ?_; intro _))
    refine sf_ret (rV ?_)
    have : i = xs.length := by simp only at h4 hi; omega
    simp only at hinv hl0
    rw [hinv, this, List.drop_length]
    simp only [sizeL]
    rw [szF_pos (by simp; omega)]; simp
theorem szScene_v (h : PHeap) (ca : List Value) (x : Scene) (b : (sceneR τ).B h ca x) (left : Int) (h0 : 0 ≤ left) (h1 : left ≤ 1048576) : CallV Tryz.prog M 22 [.agg ca.toArray, .int .i64 left] h (.int .i64 (szF (szSceneN x) left)) := by
  obtain ⟨v_grid_cells1, v_lights1, v_feet1, rfl, s_grid_cells1, s_lights1, s_feet1⟩ := sceneB b
  have o_v_grid_cells1 := s_grid_cells1.one
  have o_v_lights1 := s_lights1.one
  have o_v_feet1 := s_feet1.one
  refine calls_of_sf Tryz.func22 rfl Tryz.ntmps22 ?_
  simp only [argsL, Nat.reduceAdd]
  repeat (first | refine R1 ?_ | (refine R2 ?_; intro _))
  refine fp (y_callV (szGrid_v _ _ x.grid (gridB_mk s_grid_cells1) _ h0 h1) (by rfl) ?_)
  repeat (first | refine R1 ?_ | (refine R2 ?_; intro _))
  refine sf_if (fun e1 => ?_) fun e1 => ?_
  · repeat (first | refine R1 ?_ | (refine R2 ?_; intro _))
    refine sf_ret (rV ?_)
    have q := szF_stop (b := x.lights.length + (szIntSSN x.feet)) e1
    simp only [szSceneN, szGridN, szSceneN, Nat.add_assoc, Nat.add_zero] at q ⊢
    rw [q]
  have g1 := szF_ge e1
  have f1 := szF_le (a := szGridN x.grid) h0
  have b1a : 0 ≤ szF (szGridN x.grid) (left) := by omega
  have b1b : szF (szGridN x.grid) (left) ≤ 1048576 := by omega
  repeat (first | refine R1 ?_ | (refine R2 ?_; intro _))
  refine fp (y_callV (szIntS_v _ _ _ s_lights1 _ b1a b1b) (by rfl) ?_)
  repeat (first | refine R1 ?_ | (refine R2 ?_; intro _))
  refine sf_if (fun e2 => ?_) fun e2 => ?_
  · repeat (first | refine R1 ?_ | (refine R2 ?_; intro _))
    refine sf_ret (rV ?_)
    have q := szF_stop (b := szIntSSN x.feet) e2
    rw [szF_add e1] at q
    simp only [szSceneN, szGridN, szSceneN, Nat.add_assoc, Nat.add_zero] at q ⊢
    rw [q]
  have g2 := szF_ge e2
  have f2 := szF_le (a := x.lights.length) b1a
  have b2a : 0 ≤ szF (x.lights.length) (szF (szGridN x.grid) (left)) := by omega
  have b2b : szF (x.lights.length) (szF (szGridN x.grid) (left)) ≤ 1048576 := by omega
  repeat (first | refine R1 ?_ | (refine R2 ?_; intro _))
  refine fp (y_callV (szIntSS_v _ _ _ s_feet1 _ b2a b2b) (by rfl) ?_)
  repeat (first | refine R1 ?_ | (refine R2 ?_; intro _))
  refine sf_if (fun e3 => ?_) fun e3 => ?_
  · repeat (first | refine R1 ?_ | (refine R2 ?_; intro _))
    refine sf_ret (rV ?_)
    have q := szF_stop (b := 0) e3
    rw [szF_add e2] at q
    rw [szF_add e1] at q
    simp only [szSceneN, szGridN, szSceneN, Nat.add_assoc, Nat.add_zero] at q ⊢
    rw [q]
  have g3 := szF_ge e3
  have f3 := szF_le (a := szIntSSN x.feet) b2a
  have b3a : 0 ≤ szF (szIntSSN x.feet) (szF (x.lights.length) (szF (szGridN x.grid) (left))) := by omega
  have b3b : szF (szIntSSN x.feet) (szF (x.lights.length) (szF (szGridN x.grid) (left))) ≤ 1048576 := by omega
  repeat (first | refine R1 ?_ | (refine R2 ?_; intro _))
  refine sf_ret (rV ?_)
  rw [szF_add e2, szF_add e1]
  first | rfl | simp only [szSceneN, szGridN, szSceneN, Nat.add_assoc]
theorem szPainter_v (h : PHeap) (ca : List Value) (x : Painter) (b : (painterR τ).B h ca x) (left : Int) (h0 : 0 ≤ left) (h1 : left ≤ 1048576) : CallV Tryz.prog M 6 [.agg ca.toArray, .int .i64 left] h (.int .i64 (szF (szPainterN x) left)) := by
  obtain ⟨v_scene_grid_cells1, v_scene_lights1, v_scene_feet1, rfl, s_scene_grid_cells1, s_scene_lights1, s_scene_feet1⟩ := painterB b
  have o_v_scene_grid_cells1 := s_scene_grid_cells1.one
  have o_v_scene_lights1 := s_scene_lights1.one
  have o_v_scene_feet1 := s_scene_feet1.one
  refine calls_of_sf Tryz.func6 rfl Tryz.ntmps6 ?_
  simp only [argsL, Nat.reduceAdd]
  repeat (first | refine R1 ?_ | (refine R2 ?_; intro _))
  refine fp (y_callV (szScene_v _ _ x.scene (sceneB_mk s_scene_grid_cells1 s_scene_lights1 s_scene_feet1) _ h0 h1) (by rfl) ?_)
  repeat (first | refine R1 ?_ | (refine R2 ?_; intro _))
  refine sf_if (fun e1 => ?_) fun e1 => ?_
  · repeat (first | refine R1 ?_ | (refine R2 ?_; intro _))
    refine sf_ret (rV ?_)
    have q := szF_stop (b := 0) e1
    simp only [szPainterN, szGridN, szSceneN, Nat.add_assoc, Nat.add_zero] at q ⊢
    rw [q]
  have g1 := szF_ge e1
  have f1 := szF_le (a := szSceneN x.scene) h0
  have b1a : 0 ≤ szF (szSceneN x.scene) (left) := by omega
  have b1b : szF (szSceneN x.scene) (left) ≤ 1048576 := by omega
  repeat (first | refine R1 ?_ | (refine R2 ?_; intro _))
  refine sf_ret (rV ?_)
  first | rfl | simp only [szPainterN, szGridN, szSceneN, Nat.add_assoc]
end Go.Proofs.YtekjikbaefgncaaGreat

/- Walks of the exact laws' own helpers: copies. Printed by program. -/
namespace Go.Proofs.YtekjikbaefgncaaGreat
open Go Go.Sl
set_option maxRecDepth 100000
set_option maxHeartbeats 4000000
attribute [local irreducible] Go.Code.sf sfOps Opq opo retF Do1 anyO
variable {M : Jdg → Prop} [IsCl Tryz.prog M]
theorem toGrid_f (h : PHeap) (ca : List Value) (x : Grid) (b : (gridR τ).B h ca x) (hs : szGridN x ≤ 1048576) : CallF Tryz.prog M 46 [.agg ca.toArray] [] h fun v A => ∃ cs, v = .agg cs.toArray ∧ (gridR τ).O A cs x := by
  obtain ⟨v_cells1, rfl, s_cells1⟩ := gridB b
  have o_v_cells1 := s_cells1.one
  have hz : szGridN x = x.cells.length := rfl
  refine calls_of_sf Tryz.func46 rfl Tryz.ntmps46 ?_
  simp only [argsL, Nat.reduceAdd]
  repeat (first | refine R1 ?_ | (refine R2 ?_; intro _))
  refine fp (y_call (toCellS_f _ _ _ s_cells1 (by omega)) (by rfl) fun w1 K1 g1 => ?_)
  have o1 := g1.one
  repeat (first | refine R1 ?_ | (refine R2 ?_; intro _))
  exact sf_ret (rO K1 ⟨_, rfl, gridO_mk g1 (by omega)⟩)
end Go.Proofs.YtekjikbaefgncaaGreat

/- Walks of the exact laws' own helpers: copies, keepers. Printed by program. -/
namespace Go.Proofs.YtekjikbaefgncaaGreat
open Go Go.Sl
set_option maxRecDepth 100000
set_option maxHeartbeats 4000000
attribute [local irreducible] Go.Code.sf sfOps Opq opo retF Do1 anyO
variable {M : Jdg → Prop} [IsCl Tryz.prog M]
theorem toIntS_f (h : PHeap) (v : Value) (xs : List Int) (s : Sl h v intF xs) (hs : xs.length ≤ 1048576) : CallF Tryz.prog M 48 [v] [] h fun v' A => Gr A v' 3 intF xs := by
  have o1 := s.one
  refine calls_of_sf Tryz.func48 rfl Tryz.ntmps48 ?_
  simp only [argsL, Nat.reduceAdd]
  repeat (first | refine R1 ?_ | (refine R2 ?_; intro _))
  refine fp (y_make (by rfl) (by rfl) (by rfl) (by decide) (by omega) fun w A g => ?_)
  repeat (first | refine R1 ?_ | (refine R2 ?_; intro _))
  refine sf_lp [0, 3] (fun k : Nat => [(4, .int .i64 (k : Int))]) (fun k O => k ≤ xs.length ∧ Gr O w 3 intF (xs.take k ++ List.replicate (xs.length - k) 0)) (fun k => xs.length - k) 0 A ⟨by omega, by simpa using g⟩ ?_
  rintro k O ⟨hk, g⟩
  repeat (first | refine R1 ?_ | (refine R2 ?_; intro _))
  refine sf_if (fun h4 => ?_) fun h4 => ?_
  · have hk4 : k < xs.length := by omega
    have hl : k < (xs.take k ++ List.replicate (xs.length - k) (0 : Int)).length := by simp; omega
    repeat (first | refine R1 ?_ | (refine R2 ?_; intro _))
    refine fp (y_storeG0 (by rfl) (by rfl) g (by omega) (by rfl) fun A ys ey ly _ g => ?_)
    repeat (first | refine R1 ?_ | (refine R2 ?_; intro _))
    refine ⟨k + 1, by omega, ⟨rfl, trivial⟩, rfl, A, _, inferInstance, by omega, ?_⟩
    rw [← set_step hk4]; first | exact ey ▸ g | (rw [ey] at g; exact g)
  · refine sf_exit ?_
    repeat (first | refine R1 ?_ | (refine R2 ?_; intro _))
    refine sf_ret (rO O ?_)
    have : k = xs.length := by omega
    subst this
    simpa using g
theorem toEdit_v (h : PHeap) (x : Edit) : CallV Tryz.prog M 47 [.agg #[.int .i64 x.at', .int .i64 x.cell.kind, .int .i64 x.cell.light]] h (.agg #[.int .i64 x.at', .int .i64 x.cell.kind, .int .i64 x.cell.light]) := by
  refine calls_of_sf Tryz.func47 rfl Tryz.ntmps47 ?_
  simp only [argsL, Nat.reduceAdd]
  repeat (first | refine R1 ?_ | (refine R2 ?_; intro _))
  refine fp (y_callV (toCell_v _ _ _) (by rfl) ?_)
  repeat (first | refine R1 ?_ | (refine R2 ?_; intro _))
  exact sf_ret (rV rfl)
end Go.Proofs.YtekjikbaefgncaaGreat

/- Walks of the exact laws' own helpers: copies, painters. Printed by program. -/
namespace Go.Proofs.YtekjikbaefgncaaGreat
open Go Go.Sl
set_option maxRecDepth 100000
set_option maxHeartbeats 4000000
attribute [local irreducible] Go.Code.sf sfOps Opq opo retF Do1 anyO
variable {M : Jdg → Prop} [IsCl Tryz.prog M]
instance elemF_ints_XtP : ElemF Tryz.prog 25 (rawF (intSR τ).sz) := ⟨trivial⟩
theorem toIntSS_f (h : PHeap) (v : Value) (xs : List (List Int)) (s : SlR (intSR τ) h v xs) (hs : szIntSSN xs ≤ 1048576) : CallF Tryz.prog M 54 [v] [] h fun v' A => GrR (intSR τ) A v' 25 xs := by
  have o1 := s.one
  obtain ⟨rx, s, b⟩ := s
  have lx := b.len
  have hz : szIntSSN xs = xs.length + sizeL List.length xs := rfl
  refine calls_of_sf Tryz.func54 rfl Tryz.ntmps54 ?_
  simp only [argsL, Nat.reduceAdd]
  repeat (first | refine R1 ?_ | (refine R2 ?_; intro _))
  refine fp (y_make (by rfl) (by rfl) (by rfl) (by decide) (by omega) fun w A g => ?_)
  repeat (first | refine R1 ?_ | (refine R2 ?_; intro _))
  refine sf_lp [0, 3] (fun k : Nat => [(4, .int .i64 (k : Int))]) (fun k O => k ≤ xs.length ∧ ∃ A0 A1 rs, O = A0 ++ A1 ∧ rs.length = k ∧ Gr A0 w 25 (rawF (intSR τ).sz) (rs ++ List.replicate (xs.length - k) ⟨[.slice none 0 0], rfl⟩) ∧ OAll (intSR τ) A1 rs (xs.take k)) (fun k => xs.length - k) 0 A ⟨by omega, A, [], [], by simp, rfl, by simpa [lx] using g, by simpa using OAll.nil⟩ ?_
  clear g A
  rintro k O ⟨hk, A0, A1, rs, rfl, hr, g, oa⟩
  repeat (first | refine R1 ?_ | (refine R2 ?_; intro _))
  refine sf_if (fun h4 => ?_) fun h4 => ?_
  · have hk4 : k < xs.length := by omega
    have hk5 : k < rx.length := by omega
    have b4 := b.at hk4
    have hsz := sizeL_at (f := List.length) hk4
    have hl : k < (rs ++ List.replicate (xs.length - k) (⟨[.slice none 0 0], rfl⟩ : Raw (intSR τ).sz)).length := by simp; omega
    obtain ⟨vx, ex, sx4⟩ := b4
    haveI : FlatV (rawF (intSR τ).sz) (gt rx k) [vx] := ⟨ex⟩
    repeat (first | refine R1 ?_ | (refine R2 ?_; intro _))
    refine fp (y_call (toIntS_f _ _ _ sx4 (by omega)) (by rfl) fun u K gu => ?_)
    have ou := gu.one
    repeat (first | refine R1 ?_ | (refine R2 ?_; intro _))
    refine fp (y_storeG0 (by rfl) (by rfl) g (by omega) (by rfl) fun A2 ys ey ly _ g2 => ?_)
    repeat (first | refine R1 ?_ | (refine R2 ?_; intro _))
    refine ⟨k + 1, by omega, ⟨rfl, trivial⟩, rfl, A2 ++ (A1 ++ K), _, inferInstance, by omega, A2, A1 ++ K, rs ++ [⟨[u], rfl⟩], rfl, by simp [hr], ?_, ?_⟩
    · rw [← raw_step hr hk4]; first | exact ey ▸ g2 | (rw [ey] at g2; exact g2)
    · rw [take_succ_gt hk4]; exact oa.snoc ⟨u, rfl, gu, by omega⟩
  · refine sf_exit ?_
    repeat (first | refine R1 ?_ | (refine R2 ?_; intro _))
    have : k = xs.length := by omega
    subst this
    refine sf_ret (rO (A0 ++ A1) ⟨A0, A1, rfl, rs, by simpa using g, by simpa using oa, by omega⟩)
theorem toScene_f (h : PHeap) (ca : List Value) (x : Scene) (b : (sceneR τ).B h ca x) (hs : szSceneN x ≤ 1048576) : CallF Tryz.prog M 26 [.agg ca.toArray] [] h fun v A => ∃ cs, v = .agg cs.toArray ∧ (sceneR τ).O A cs x := by
  obtain ⟨v_grid_cells1, v_lights1, v_feet1, rfl, s_grid_cells1, s_lights1, s_feet1⟩ := sceneB b
  have o_v_grid_cells1 := s_grid_cells1.one
  have o_v_lights1 := s_lights1.one
  have o_v_feet1 := s_feet1.one
  have hz : szSceneN x = szGridN x.grid + x.lights.length + szIntSSN x.feet := rfl
  refine calls_of_sf Tryz.func26 rfl Tryz.ntmps26 ?_
  simp only [argsL, Nat.reduceAdd]
  repeat (first | refine R1 ?_ | (refine R2 ?_; intro _))
  refine fp (y_call (toGrid_f _ _ x.grid (gridB_mk s_grid_cells1) (by simp only [szGridN] at hz ⊢; omega)) (by rfl) ?_)
  rintro _ K1 ⟨_, rfl, q1⟩
  obtain ⟨u1_v_cells, rfl, h1_v_cells, l1_v_cells⟩ := gridO q1
  have oo1_v_cells := h1_v_cells.one
  repeat (first | refine R1 ?_ | (refine R2 ?_; intro _))
  refine fp (y_call (toIntS_f _ _ _ s_lights1 (by omega)) (by rfl) fun w2 K2 g2 => ?_)
  have o2 := g2.one
  repeat (first | refine R1 ?_ | (refine R2 ?_; intro _))
  refine fp (y_call (toIntSS_f _ _ _ s_feet1 (by omega)) (by rfl) fun w3 K3 g3 => ?_)
  have o3 := g3.one
  repeat (first | refine R1 ?_ | (refine R2 ?_; intro _))
  exact sf_ret (rO (K1 ++ (K2 ++ (K3))) ⟨_, rfl, sceneO_mk h1_v_cells l1_v_cells g2 (by omega) g3⟩)
theorem toPainter_f (h : PHeap) (ca : List Value) (x : Painter) (b : (painterR τ).B h ca x) (hs : szPainterN x ≤ 1048576) : CallF Tryz.prog M 8 [.agg ca.toArray] [] h fun v A => ∃ cs, v = .agg cs.toArray ∧ (painterR τ).O A cs x := by
  obtain ⟨v_scene_grid_cells1, v_scene_lights1, v_scene_feet1, rfl, s_scene_grid_cells1, s_scene_lights1, s_scene_feet1⟩ := painterB b
  have o_v_scene_grid_cells1 := s_scene_grid_cells1.one
  have o_v_scene_lights1 := s_scene_lights1.one
  have o_v_scene_feet1 := s_scene_feet1.one
  have hz : szPainterN x = szSceneN x.scene := rfl
  refine calls_of_sf Tryz.func8 rfl Tryz.ntmps8 ?_
  simp only [argsL, Nat.reduceAdd]
  repeat (first | refine R1 ?_ | (refine R2 ?_; intro _))
  refine fp (y_call (toScene_f _ _ x.scene (sceneB_mk s_scene_grid_cells1 s_scene_lights1 s_scene_feet1) (by omega)) (by rfl) ?_)
  rintro _ K1 ⟨_, rfl, q1⟩
  obtain ⟨u1_v_grid_cells, u1_v_lights, u1_v_feet, J1_v_grid_cells, J1_v_lights, J1_v_feet, rfl, rfl, ⟨h1_v_grid_cells, l1_v_grid_cells⟩, ⟨h1_v_lights, l1_v_lights⟩, h1_v_feet⟩ := sceneO q1
  have oo1_v_grid_cells := h1_v_grid_cells.one
  have oo1_v_lights := h1_v_lights.one
  have oo1_v_feet := h1_v_feet.one
  repeat (first | refine R1 ?_ | (refine R2 ?_; intro _))
  exact sf_ret (rO (J1_v_grid_cells ++ (J1_v_lights ++ (J1_v_feet))) ⟨_, rfl, painterO_mk h1_v_grid_cells l1_v_grid_cells h1_v_lights l1_v_lights h1_v_feet⟩)
end Go.Proofs.YtekjikbaefgncaaGreat

/- The law FnExactPaintOk: it answers true. -/
namespace Go.Proofs.YtekjikbaefgncaaGreat
open Go Go.Sl
set_option maxRecDepth 100000
set_option maxHeartbeats 4000000
attribute [local irreducible] Go.Code.sf sfOps Opq opo retF Do1 anyO
variable {M : Jdg → Prop} [IsCl Tryz.prog M]

theorem paintOk_body [al : Alone Tryz.prog M] (h : PHeap) (ca : List Value) (p : Painter) (b : (painterR τ).B h ca p) : ∃ c, Tryz.f3.body = some c ∧ c.sf Tryz.prog M Tryz.f3.ntmps (retF Tryz.prog Tryz.f3 Tryz.f3.ntmps (fun v _ => v = .bool true) fun _ _ => False) (argsL 0 [.agg ca.toArray]) [] h := by
  have b0 := b
  obtain ⟨c, l, f, rfl, s1, s2, s3⟩ := painterB b
  have o1 := s1.one
  have o2 := s2.one
  have o3 := s3.one
  refine ⟨_, rfl, ?_⟩
  rw [Tryz.ntmps3]
  simp only [argsL, Nat.reduceAdd]
  repeat (first | refine R1 ?_ | (refine R2 ?_; intro _))
  refine fp (y_callV (szPainter_v _ _ p b0 1048576 (by decide) (by decide)) (by rfl) ?_)
  repeat (first | refine R1 ?_ | (refine R2 ?_; intro _))
  refine sf_if (fun h1 => ?_) fun h1 => ?_
  · repeat (first | refine R1 ?_ | (refine R2 ?_; intro _))
    exact sf_ret (rO [] rfl)
  have hs : szPainterN p ≤ 1048576 := by have := (szF_ge h1).1; omega
  clear h1
  repeat (first | refine R1 ?_ | (refine R2 ?_; intro _))
  refine fp (y_call (toPainter_f _ _ p b0 hs) (by rfl) ?_)
  rintro _ A1 ⟨_, rfl, q1⟩
  have q1' := q1
  obtain ⟨x1, x2, x3, _, _, _, rfl, -, ⟨r1, -⟩, ⟨r2, -⟩, r3⟩ := painterO q1
  have p1 := r1.one
  have p2 := r2.one
  have p3 := r3.one
  clear r1 r2 r3
  repeat (first | refine R1 ?_ | (refine R2 ?_; intro _))
  refine fp (y_lendV A1 (fun h' _ i => sPaintOk_v h' _ p ((painterR τ).lent q1' i)) (by rfl) ?_)
  repeat (first | refine R1 ?_ | (refine R2 ?_; intro _))
  refine fp (y_call (toPainter_f _ _ p b0 hs) (by rfl) ?_)
  rintro _ A2 ⟨_, rfl, q2⟩
  have q2' := q2
  obtain ⟨y1, y2, y3, _, _, _, rfl, -, ⟨r1, -⟩, ⟨r2, -⟩, r3⟩ := painterO q2
  have p5 := r1.one
  have p6 := r2.one
  have p7 := r3.one
  clear r1 r2 r3
  repeat (first | refine R1 ?_ | (refine R2 ?_; intro _))
  refine fp (y_lendV A2 (fun h' _ i => paintOk_v h' _ p ((painterR τ).lent q2' i)) (by rfl) ?_)
  repeat (first | refine R1 ?_ | (refine R2 ?_; intro _))
  simp only [decide_true]
  refine sf_cond (by rfl) (fun e => by simp at e) fun e => ?_
  clear e
  repeat (first | refine R1 ?_ | (refine R2 ?_; intro _))
  refine sf_draw (by kernel_rfl) (regX_run [[], [], [1], [0, 1, 2], [0, 1, 2, 3]] 3 [(0, false), (1, false), (2, true)] (by kernel_rfl) (by kernel_rfl) (by kernel_rfl) ?_)
  repeat (refine Da1 ?_)
  refine a_call (toPainter_f _ _ p b0 hs) (by rfl) (by rfl) (.inl rfl) ?_
  rintro _ A5 ⟨_, rfl, q5⟩
  (refine a_end (by rfl) (by rfl) ?_; simp only [finA, setL, List.drop_succ_cons, List.drop_zero])
  refine fp (y_lendV (A2 ++ A5) (fun h' _ i => eqPainter_v h' _ _ _ _ ((painterR τ).lent q2' (inb_l i)) ((painterR τ).lent q5 (inb_r i))) (by rfl) ?_)
  simp only [decide_true]
  repeat (first | refine R1 ?_ | (refine R2 ?_; intro _))
  refine sf_cond (by rfl) (fun e => by simp at e) fun e => ?_
  clear e
  repeat (first | refine R1 ?_ | (refine R2 ?_; intro _))
  exact sf_ret (rO [] rfl)
end Go.Proofs.YtekjikbaefgncaaGreat

/- Walks of the seat: SJ SK G1 G2 XeA XeB XsA XsB XsP XtA XtB XtP XhA XhB XhP XmA XmB XmP XhC XmC EJ. -/
import Derived.Test.YtekjikbaefgncaaGreatOwnB
import Derived.Test.YtekjikbaefgncaaGreatOwnA
import Derived.Test.YtekjikbaefgncaaGreatSmH
import Derived.Test.YtekjikbaefgncaaGreatLibC
set_option linter.unusedVariables false
set_option linter.unusedSimpArgs false
set_option linter.unusedSectionVars false
/- Walks: looks and scenes: the reference's. -/
namespace Go.Proofs.YtekjikbaefgncaaGreat
open Go Go.Sl
set_option maxRecDepth 100000
set_option maxHeartbeats 4000000
attribute [local irreducible] Go.Code.sf sfOps Opq opo retF Do1 anyO
variable {M : Jdg → Prop} [IsCl Tryz.prog M]
instance elemF_ints_SJ : ElemF Tryz.prog 25 (rawF (intSR τ).sz) := ⟨trivial⟩

/-- One of one's own slices of slices put anew. -/
theorem l13Look_f (h : PHeap) (c : Value) (g : Grid) (s : Sl h c cellF g.cells) (e : gridOk g = true) (l f : Value) (A2 A3 : Own) (ls : List Int) (fs : List (List Int)) (gl : Gr A2 l 3 intF ls) (gf : GrR (intSR τ) A3 f 25 fs) (k : Nat) (hk : (k : Int) < manyOf g) (hl : k < ls.length) (hf : k < fs.length) :
    CallF Tryz.prog M 81 [.agg #[.int .i64 g.wide, c, l, f], .int .i64 (k : Int)] (A2 ++ A3) h fun u A => ∃ A2' A3', u = .agg #[.int .i64 g.wide, c, l, f] ∧ A = A2' ++ A3' ∧ Gr A2' l 3 intF (ls.set k (trailLight g k)) ∧ GrR (intSR τ) A3' f 25 (fs.set k (footOf g k)) := by
  have o1 := s.one
  have o2 := gl.one
  have o3 := gf.one
  have kg := gok e
  have hsm := kg.small
  obtain ⟨sz, vs, es, hc, hg, hsz, hok⟩ := goLight_is kg (j := (k : Int)) (by omega) hk
  have hle := hok.le
  have hlv := hok.lv
  have hes : ∀ e ∈ es, EndOk g 64 e := hok.es
  have hvs : ∀ v ∈ vs, 0 ≤ v.at' ∧ v.at' < g.cells.length := fun v hv => ⟨(hok.vs v hv).a0, (hok.vs v hv).a1⟩
  simp only at hle hlv
  obtain ⟨F0, F1, rfl, rs, gr, oa, hb⟩ := gf
  have hr := oa.len
  refine calls_of_sf Tryz.func81 rfl Tryz.ntmps81 ?_
  simp only [argsL, Nat.reduceAdd]
  repeat (first | refine R1 ?_ | (refine R2 ?_; intro _))
  rename_i b2 b4
  refine fp (y_call (l11Go_f (M := M) _ c g s kg (k : Int) ⟨by omega, hk⟩) (by rfl) ?_)
  rintro _ _ ⟨b5, rfl, vv, ev, AV, AE, rfl, gv, ge⟩
  rw [hg] at gv ge
  simp only at gv ge
  have o4 := gv.one
  have o5 := ge.one
  have htl : trailLight g (k : Int) = lightOf g es := by rw [trailLight, hg]
  have hft : footOf g (k : Int) = footIs g vs := by rw [footOf, hg]
  rw [htl, hft]
  clear hc hg
  repeat (first | refine R1 ?_ | (refine R2 ?_; intro _))
  refine sf_draw (by kernel_rfl) (regX_own (AE) (regX_runW _ [[], [0], [], [], [3], [], [5], [5, 6], [5, 6, 7], [3, 4, 5, 6, 7, 8], [0, 1, 2, 3, 4, 5, 6, 7, 8, 9], [0, 1, 2, 3, 4, 5, 6, 7, 8, 9, 10]] 10 [(0, false), (1, false), (2, false), (3, false), (4, false), (5, false), (6, false), (7, false), (8, false), (9, true)] (by kernel_rfl) (by kernel_rfl) (by kernel_rfl) ?_))
  repeat (refine Da1 ?_)
  refine a_call (lendV AE fun h' l i => l11Light_v (M := M) h' c g (s.le l.le) kg ev es (ge.lent (by omega) i) hes (by omega)) (by rfl) (by rfl) (.inl rfl) ?_
  rintro _ _ ⟨rfl, rfl⟩
  repeat (refine Da1 ?_)
  (refine a_end (by rfl) (by rfl) ?_; simp only [finA, setL, List.drop_succ_cons, List.drop_zero])
  repeat (first | refine R1 ?_ | (refine R2 ?_; intro _))
  refine fp (y_storeG0 (by rfl) (by rfl) gl (by omega) (by rfl) fun A5 ys hy hly fv g5 => ?_)
  repeat (first | refine R1 ?_ | (refine R2 ?_; intro _))
  refine sf_draw (by kernel_rfl) (regX_own (AV) (regX_runW _ [[], [0], [], [], [3], [], [5], [5, 6], [5, 6, 7], [3, 4, 5, 6, 7, 8], [0, 1, 2, 3, 4, 5, 6, 7, 8, 9], [0, 1, 2, 3, 4, 5, 6, 7, 8, 9, 10]] 10 [(0, false), (1, false), (2, false), (3, false), (4, false), (5, false), (6, false), (7, false), (8, false), (9, true)] (by kernel_rfl) (by kernel_rfl) (by kernel_rfl) ?_))
  repeat (refine Da1 ?_)
  refine a_call (lendF AV fun h' l i => l11Foot_f (M := M) h' c g (s.le l.le) kg vv vs (gv.lent (by omega) i) hvs) (by rfl) (by rfl) (.inl rfl) ?_
  rintro w _ ⟨AW, rfl, gw⟩
  have o6 := gw.one
  repeat (refine Da1 ?_)
  (refine a_end (by rfl) (by rfl) ?_; simp only [finA, setL, List.drop_succ_cons, List.drop_zero])
  repeat (first | refine R1 ?_ | (refine R2 ?_; intro _))
  refine fp (y_storeG0 (by rfl) (by rfl) gr (by omega) (by rfl) fun A6 zs hz hlz fz g6 => ?_)
  repeat (first | refine R1 ?_ | (refine R2 ?_; intro _))
  obtain ⟨B1, Bk, B2, rfl, q1, q2⟩ := oa.at hf
  have q3 := q2 AW ⟨[w], rfl⟩ (footIs g vs) ⟨w, rfl, gw, by have := footIs_len g vs; omega⟩
  rw [hy] at g5
  rw [hz] at g6
  exact sf_ret (rO (A5 ++ (A6 ++ (B1 ++ (AW ++ B2)))) ⟨A5, A6 ++ (B1 ++ (AW ++ B2)), rfl, rfl, g5, A6, _, rfl, _, g6, q3, by simp; omega⟩)
theorem l21None_v (h : PHeap) (ca : List Value) (s : Scene) (b : (sceneR τ).B h ca s) : CallV Tryz.prog M 23 [.agg ca.toArray] h (.bool (decide (s = noScene))) := by
  obtain ⟨c, l, f, rfl, s1, s2, s3⟩ := sceneB b
  have o1 := s1.one
  have o2 := s2.one
  have o3 := s3.one
  obtain ⟨rs, s3, bs⟩ := s3
  have lb := bs.len
  have key : decide (s = noScene) = (decide (s.grid.wide = 0) && decide ((s.grid.cells.length : Int) = 0) && decide ((s.lights.length : Int) = 0) && decide ((rs.length : Int) = 0)) := by
    obtain ⟨⟨w, cs⟩, ls, fs⟩ := s
    simp only at lb
    simp only [noScene, noGrid, Scene.mk.injEq, Grid.mk.injEq]
    rw [lb]
    by_cases h1 : w = 0 <;> by_cases h2 : cs = [] <;> by_cases h3 : ls = [] <;> by_cases h4 : fs = [] <;> simp [h1, h2, h3, h4]
  rw [key]
  refine calls_of_sf Tryz.func23 rfl Tryz.ntmps23 ?_
  simp only [argsL, Nat.reduceAdd]
  repeat (first | refine R1 ?_ | (refine R2 ?_; intro _))
  refine f_split (fun h1 => ?_) fun h1 => ?_
  · repeat (first | refine R1 ?_ | (refine R2 ?_; intro _))
    refine f_split (fun h2 => ?_) fun h2 => ?_
    · repeat (first | refine R1 ?_ | (refine R2 ?_; intro _))
      refine f_split (fun h3 => ?_) fun h3 => ?_
      · repeat (first | refine R1 ?_ | (refine R2 ?_; intro _))
        refine sf_ret (rV ?_)
        simp [h1, h2, h3]
      · have h3' : ¬ s.lights = [] := fun e => h3 (by rw [e]; rfl)
        repeat (first | refine R1 ?_ | (refine R2 ?_; intro _))
        refine sf_ret (rV ?_)
        simp [h3']
    · have h2' : ¬ s.grid.cells = [] := fun e => h2 (by rw [e]; rfl)
      repeat (first | refine R1 ?_ | (refine R2 ?_; intro _))
      refine sf_ret (rV ?_)
      simp [h2']
  · repeat (first | refine R1 ?_ | (refine R2 ?_; intro _))
    refine sf_ret (rV ?_)
    simp [h1]
theorem l21Id_v (h : PHeap) (id many : Int) : CallV Tryz.prog M 30 [.int .i64 id, .int .i64 many] h (.bool (idOk id many)) := by
  refine calls_of_sf Tryz.func30 rfl Tryz.ntmps30 ?_
  simp only [argsL, Nat.reduceAdd]
  repeat (first | refine R1 ?_ | (refine R2 ?_; intro _))
  refine fp (y_callV (l6In_v _ _ _ _) (by rfl) ?_)
  repeat (first | refine R1 ?_ | (refine R2 ?_; intro _))
  refine f_splitB (fun h1 => ?_) fun h1 => ?_
  · repeat (first | refine R1 ?_ | (refine R2 ?_; intro _))
    refine fp (y_callV (l6In_v _ _ _ _) (by rfl) ?_)
    repeat (first | refine R1 ?_ | (refine R2 ?_; intro _))
    refine sf_ret (rV ?_)
    simp only [idOk, h1, Bool.true_and, Bool.and_assoc]
  · repeat (first | refine R1 ?_ | (refine R2 ?_; intro _))
    refine sf_ret (rV ?_)
    simp only [idOk, h1, Bool.false_and]

theorem scene_step {xs : List (List Int)} {k : Nat} (h : k < xs.length) : (xs.take k ++ List.replicate (xs.length - k) []).set k (gt xs k) = xs.take (k + 1) ++ List.replicate (xs.length - (k + 1)) [] := set_step h
theorem nils_all (n : Nat) : OAll (intSR τ) [] (List.replicate n ⟨[.slice none 0 0], rfl⟩) (List.replicate n []) := by
  induction n with
  | zero => exact .nil
  | succ n ih => exact .cons (A := []) ⟨_, rfl, Gr.nil _ _, by simp⟩ ih
theorem sSceneNew_f (h : PHeap) (ca : List Value) (g : Grid) (b : (gridR τ).B h ca g) : CallF Tryz.prog M 52 [.agg ca.toArray] [] h fun u A => ∃ cs, u = .tuple #[.agg cs.toArray, .bool (sceneNew g).2] ∧ (sceneR τ).O A cs (sceneNew g).1 := by
  have b0 := b
  obtain ⟨c, rfl, s⟩ := gridB b
  have o1 := s.one
  have hN : (sceneR τ).O [] [.int .i64 0, .slice none 0 0, .slice none 0 0, .slice none 0 0] noScene := sceneO_mk (s := noScene) (Gr.nil _ _) (by decide) (Gr.nil _ _) (by decide) (GrR.nil)
  refine calls_of_sf Tryz.func52 rfl Tryz.ntmps52 ?_
  simp only [argsL, Nat.reduceAdd]
  repeat (first | refine R1 ?_ | (refine R2 ?_; intro _))
  refine fp (y_callV (sGridOk_v _ _ g ⟨c, rfl, s⟩) (by rfl) ?_)
  repeat (first | refine R1 ?_ | (refine R2 ?_; intro _))
  refine sf_cond (by rfl) (fun e => ?_) fun e => ?_
  · simp only [Bool.not_eq_true'] at e
    repeat (first | refine R1 ?_ | (refine R2 ?_; intro _))
    rw [sceneNew, if_neg (by rw [e]; decide)]
    exact sf_ret (rO [] ⟨_, rfl, hN⟩)
  simp only [Bool.not_eq_false'] at e
  rw [sceneNew, if_pos e]
  clear hN
  have kg := gok e
  have hm := kg.many
  have hsm := kg.small
  obtain ⟨N, hN⟩ : ∃ N : Nat, manyOf g = N := ⟨(manyOf g).toNat, by omega⟩
  have lp : (picOf g).length = N := by rw [picOf_len, hN]; simp
  have lf : (feetOf g).length = N := by rw [feetOf_len, hN]; simp
  repeat (first | refine R1 ?_ | (refine R2 ?_; intro _))
  refine fp (y_callV (l3Many_v (M := M) _ c g s kg) (by rfl) ?_)
  rw [hN]
  repeat (first | refine R1 ?_ | (refine R2 ?_; intro _))
  rename_i b1 b2
  apply viaT (G := ∀ (c2 l f : Value) (AC AL AF : Own) (b5 : Nat), Gr AC c2 44 cellF g.cells → Gr AL l 3 intF (List.replicate N 0) → Gr AF f 25 (rawF (intSR τ).sz) (List.replicate N ⟨[.slice none 0 0], rfl⟩) → _)
  · intro tail
    refine sf_draw (by kernel_rfl) (regX_split 1 3 (by rfl) (regX_split 1 5 (by rfl) (regX_split 1 7 (by rfl) (regX_split 3 5 (by rfl) (regX_split 3 7 (by rfl) (regX_split 5 7 (by rfl) ?_ ?_) ?_) (regX_split 3 7 (by rfl) ?_ (regX_split 5 7 (by rfl) ?_ ?_))) (regX_split 3 5 (by rfl) ?_ ?_)) (regX_split 1 7 (by rfl) (regX_split 3 7 (by rfl) ?_ ?_) (regX_split 5 7 (by rfl) ?_ ?_))) (regX_split 1 5 (by rfl) (regX_split 1 7 (by rfl) (regX_split 5 7 (by rfl) ?_ ?_) (regX_split 3 7 (by rfl) ?_ ?_)) (regX_split 1 7 (by rfl) (regX_split 3 5 (by rfl) ?_ ?_) (regX_split 3 5 (by rfl) (regX_split 3 7 (by rfl) (regX_split 5 7 (by rfl) ?_ ?_) ?_) (regX_split 3 7 (by rfl) ?_ (regX_split 5 7 (by rfl) ?_ ?_))))))
    case' refine_1 =>
      refine (regX_run [[], [0], [], [0, 1, 2], [], [0, 1, 2, 3, 4], [0, 1, 2, 3, 4, 5], [0, 1, 2, 3, 4, 5], [0, 1, 2, 3, 4, 5, 6, 7]] 8 [(0, false), (2, false), (4, false), (1, true), (3, true), (5, true), (6, false), (7, true)] (by kernel_rfl) (by kernel_rfl) (by kernel_rfl) ?_)
      repeat (refine Da1 ?_)
      refine a_call (l1Copy_f (M := M) _ _ g (gridB_mk s) (by omega)) (by rfl) (by rfl) (.inl rfl) ?_
      rintro _ AC ⟨_, rfl, q⟩
      obtain ⟨c2, rfl, g1, l1⟩ := gridO q
      have o5 := g1.one
      repeat (refine Da1 ?_)
      refine a_make (by rfl) (by rfl) (by rfl) (by infer_instance) (by infer_instance) (by infer_instance) (by infer_instance) (by infer_instance) (by rfl) (by decide) (by omega) (.inl rfl) fun l AL g2 => ?_
      have o6 := g2.one
      repeat (refine Da1 ?_)
      refine a_make (by rfl) (by rfl) (by rfl) (by infer_instance) (by infer_instance) (by infer_instance) (by infer_instance) (by infer_instance) (by rfl) (by decide) (by omega) (.inl rfl) fun f AF g3 => ?_
      have o7 := g3.one
      repeat (refine Da1 ?_)
      refine a_alloc (by rfl) (.inl rfl) fun b5 => ?_
      repeat (refine Da1 ?_)
      (refine a_end (by rfl) (by rfl) ?_; simp only [finA, setL, List.drop_succ_cons, List.drop_zero])
      repeat (first | refine R1 ?_ | (refine R2 ?_; intro _))
      refine sf_keep [2, 4, 5, 6] ?_
      refine sf_own ((b5, .cells #[.int .i64 g.wide, c2, l, f] 37) :: (AC ++ (AL ++ (AF ++ [(b2, .cells #[.int .i64 0, .slice none 0 0, .slice none 0 0, .slice none 0 0] 37), (b1, .cells #[.int .i64 g.wide, c] 35)])))) ?_
      exact tail.out c2 l f AC AL AF b5 g1 g2 g3
    case' refine_2 =>
      refine (regX_run [[], [0], [], [0, 1, 2], [], [0, 1, 2, 3, 4, 7], [0, 1, 2, 3, 4, 5, 7], [0, 1, 2, 3], [0, 1, 2, 3, 4, 5, 6, 7]] 8 [(0, false), (2, false), (4, false), (1, true), (3, true), (7, true), (5, true), (6, false)] (by kernel_rfl) (by kernel_rfl) (by kernel_rfl) ?_)
      repeat (refine Da1 ?_)
      refine a_call (l1Copy_f (M := M) _ _ g (gridB_mk s) (by omega)) (by rfl) (by rfl) (.inl rfl) ?_
      rintro _ AC ⟨_, rfl, q⟩
      obtain ⟨c2, rfl, g1, l1⟩ := gridO q
      have o5 := g1.one
      repeat (refine Da1 ?_)
      refine a_make (by rfl) (by rfl) (by rfl) (by infer_instance) (by infer_instance) (by infer_instance) (by infer_instance) (by infer_instance) (by rfl) (by decide) (by omega) (.inl rfl) fun l AL g2 => ?_
      have o6 := g2.one
      repeat (refine Da1 ?_)
      refine a_alloc (by rfl) (.inl rfl) fun b5 => ?_
      repeat (refine Da1 ?_)
      refine a_make (by rfl) (by rfl) (by rfl) (by infer_instance) (by infer_instance) (by infer_instance) (by infer_instance) (by infer_instance) (by rfl) (by decide) (by omega) (.inl rfl) fun f AF g3 => ?_
      have o7 := g3.one
      repeat (refine Da1 ?_)
      (refine a_end (by rfl) (by rfl) ?_; simp only [finA, setL, List.drop_succ_cons, List.drop_zero])
      repeat (first | refine R1 ?_ | (refine R2 ?_; intro _))
      refine sf_keep [2, 4, 5, 6] ?_
      refine sf_own ((b5, .cells #[.int .i64 g.wide, c2, l, f] 37) :: (AC ++ (AL ++ (AF ++ [(b2, .cells #[.int .i64 0, .slice none 0 0, .slice none 0 0, .slice none 0 0] 37), (b1, .cells #[.int .i64 g.wide, c] 35)])))) ?_
      exact tail.out c2 l f AC AL AF b5 g1 g2 g3
    case' refine_3 =>
      refine (regX_run [[], [0], [], [0, 1, 2, 7], [], [0, 1, 2, 3, 4, 7], [0, 1, 2, 3, 4, 5, 7], [0, 1], [0, 1, 2, 3, 4, 5, 6, 7]] 8 [(0, false), (2, false), (4, false), (1, true), (7, true), (3, true), (5, true), (6, false)] (by kernel_rfl) (by kernel_rfl) (by kernel_rfl) ?_)
      repeat (refine Da1 ?_)
      refine a_call (l1Copy_f (M := M) _ _ g (gridB_mk s) (by omega)) (by rfl) (by rfl) (.inl rfl) ?_
      rintro _ AC ⟨_, rfl, q⟩
      obtain ⟨c2, rfl, g1, l1⟩ := gridO q
      have o5 := g1.one
      repeat (refine Da1 ?_)
      refine a_alloc (by rfl) (.inl rfl) fun b5 => ?_
      repeat (refine Da1 ?_)
      refine a_make (by rfl) (by rfl) (by rfl) (by infer_instance) (by infer_instance) (by infer_instance) (by infer_instance) (by infer_instance) (by rfl) (by decide) (by omega) (.inl rfl) fun l AL g2 => ?_
      have o6 := g2.one
      repeat (refine Da1 ?_)
      refine a_make (by rfl) (by rfl) (by rfl) (by infer_instance) (by infer_instance) (by infer_instance) (by infer_instance) (by infer_instance) (by rfl) (by decide) (by omega) (.inl rfl) fun f AF g3 => ?_
      have o7 := g3.one
      repeat (refine Da1 ?_)
      (refine a_end (by rfl) (by rfl) ?_; simp only [finA, setL, List.drop_succ_cons, List.drop_zero])
      repeat (first | refine R1 ?_ | (refine R2 ?_; intro _))
      refine sf_keep [2, 4, 5, 6] ?_
      refine sf_own ((b5, .cells #[.int .i64 g.wide, c2, l, f] 37) :: (AC ++ (AL ++ (AF ++ [(b2, .cells #[.int .i64 0, .slice none 0 0, .slice none 0 0, .slice none 0 0] 37), (b1, .cells #[.int .i64 g.wide, c] 35)])))) ?_
      exact tail.out c2 l f AC AL AF b5 g1 g2 g3
    case' refine_4 =>
      refine (regX_run [[], [0], [], [0, 1, 2, 4, 5], [], [0, 1, 4], [0, 1, 2, 3, 4, 5], [0, 1, 2, 3, 4, 5], [0, 1, 2, 3, 4, 5, 6, 7]] 8 [(0, false), (2, false), (4, false), (1, true), (5, true), (3, true), (6, false), (7, true)] (by kernel_rfl) (by kernel_rfl) (by kernel_rfl) ?_)
      repeat (refine Da1 ?_)
      refine a_call (l1Copy_f (M := M) _ _ g (gridB_mk s) (by omega)) (by rfl) (by rfl) (.inl rfl) ?_
      rintro _ AC ⟨_, rfl, q⟩
      obtain ⟨c2, rfl, g1, l1⟩ := gridO q
      have o5 := g1.one
      repeat (refine Da1 ?_)
      refine a_make (by rfl) (by rfl) (by rfl) (by infer_instance) (by infer_instance) (by infer_instance) (by infer_instance) (by infer_instance) (by rfl) (by decide) (by omega) (.inl rfl) fun f AF g3 => ?_
      have o7 := g3.one
      repeat (refine Da1 ?_)
      refine a_make (by rfl) (by rfl) (by rfl) (by infer_instance) (by infer_instance) (by infer_instance) (by infer_instance) (by infer_instance) (by rfl) (by decide) (by omega) (.inl rfl) fun l AL g2 => ?_
      have o6 := g2.one
      repeat (refine Da1 ?_)
      refine a_alloc (by rfl) (.inl rfl) fun b5 => ?_
      repeat (refine Da1 ?_)
      (refine a_end (by rfl) (by rfl) ?_; simp only [finA, setL, List.drop_succ_cons, List.drop_zero])
      repeat (first | refine R1 ?_ | (refine R2 ?_; intro _))
      refine sf_keep [2, 4, 5, 6] ?_
      refine sf_own ((b5, .cells #[.int .i64 g.wide, c2, l, f] 37) :: (AC ++ (AL ++ (AF ++ [(b2, .cells #[.int .i64 0, .slice none 0 0, .slice none 0 0, .slice none 0 0] 37), (b1, .cells #[.int .i64 g.wide, c] 35)])))) ?_
      exact tail.out c2 l f AC AL AF b5 g1 g2 g3
    case' refine_5 =>
      refine (regX_run [[], [0], [], [0, 1, 2, 4, 5, 7], [], [0, 1, 4], [0, 1, 2, 3, 4, 5, 7], [0, 1, 4, 5], [0, 1, 2, 3, 4, 5, 6, 7]] 8 [(0, false), (2, false), (4, false), (1, true), (5, true), (7, true), (3, true), (6, false)] (by kernel_rfl) (by kernel_rfl) (by kernel_rfl) ?_)
      repeat (refine Da1 ?_)
      refine a_call (l1Copy_f (M := M) _ _ g (gridB_mk s) (by omega)) (by rfl) (by rfl) (.inl rfl) ?_
      rintro _ AC ⟨_, rfl, q⟩
      obtain ⟨c2, rfl, g1, l1⟩ := gridO q
      have o5 := g1.one
      repeat (refine Da1 ?_)
      refine a_make (by rfl) (by rfl) (by rfl) (by infer_instance) (by infer_instance) (by infer_instance) (by infer_instance) (by infer_instance) (by rfl) (by decide) (by omega) (.inl rfl) fun f AF g3 => ?_
      have o7 := g3.one
      repeat (refine Da1 ?_)
      refine a_alloc (by rfl) (.inl rfl) fun b5 => ?_
      repeat (refine Da1 ?_)
      refine a_make (by rfl) (by rfl) (by rfl) (by infer_instance) (by infer_instance) (by infer_instance) (by infer_instance) (by infer_instance) (by rfl) (by decide) (by omega) (.inl rfl) fun l AL g2 => ?_
      have o6 := g2.one
      repeat (refine Da1 ?_)
      (refine a_end (by rfl) (by rfl) ?_; simp only [finA, setL, List.drop_succ_cons, List.drop_zero])
      repeat (first | refine R1 ?_ | (refine R2 ?_; intro _))
      refine sf_keep [2, 4, 5, 6] ?_
      refine sf_own ((b5, .cells #[.int .i64 g.wide, c2, l, f] 37) :: (AC ++ (AL ++ (AF ++ [(b2, .cells #[.int .i64 0, .slice none 0 0, .slice none 0 0, .slice none 0 0] 37), (b1, .cells #[.int .i64 g.wide, c] 35)])))) ?_
      exact tail.out c2 l f AC AL AF b5 g1 g2 g3
    case' refine_6 =>
      refine (regX_run [[], [0], [], [0, 1, 2, 4, 5, 7], [], [0, 1, 4, 7], [0, 1, 2, 3, 4, 5, 7], [0, 1], [0, 1, 2, 3, 4, 5, 6, 7]] 8 [(0, false), (2, false), (4, false), (1, true), (7, true), (5, true), (3, true), (6, false)] (by kernel_rfl) (by kernel_rfl) (by kernel_rfl) ?_)
      repeat (refine Da1 ?_)
      refine a_call (l1Copy_f (M := M) _ _ g (gridB_mk s) (by omega)) (by rfl) (by rfl) (.inl rfl) ?_
      rintro _ AC ⟨_, rfl, q⟩
      obtain ⟨c2, rfl, g1, l1⟩ := gridO q
      have o5 := g1.one
      repeat (refine Da1 ?_)
      refine a_alloc (by rfl) (.inl rfl) fun b5 => ?_
      repeat (refine Da1 ?_)
      refine a_make (by rfl) (by rfl) (by rfl) (by infer_instance) (by infer_instance) (by infer_instance) (by infer_instance) (by infer_instance) (by rfl) (by decide) (by omega) (.inl rfl) fun f AF g3 => ?_
      have o7 := g3.one
      repeat (refine Da1 ?_)
      refine a_make (by rfl) (by rfl) (by rfl) (by infer_instance) (by infer_instance) (by infer_instance) (by infer_instance) (by infer_instance) (by rfl) (by decide) (by omega) (.inl rfl) fun l AL g2 => ?_
      have o6 := g2.one
      repeat (refine Da1 ?_)
      (refine a_end (by rfl) (by rfl) ?_; simp only [finA, setL, List.drop_succ_cons, List.drop_zero])
      repeat (first | refine R1 ?_ | (refine R2 ?_; intro _))
      refine sf_keep [2, 4, 5, 6] ?_
      refine sf_own ((b5, .cells #[.int .i64 g.wide, c2, l, f] 37) :: (AC ++ (AL ++ (AF ++ [(b2, .cells #[.int .i64 0, .slice none 0 0, .slice none 0 0, .slice none 0 0] 37), (b1, .cells #[.int .i64 g.wide, c] 35)])))) ?_
      exact tail.out c2 l f AC AL AF b5 g1 g2 g3
    case' refine_7 =>
      refine (regX_run [[], [0, 7], [], [0, 1, 2, 7], [], [0, 1, 2, 3, 4, 7], [0, 1, 2, 3, 4, 5, 7], [], [0, 1, 2, 3, 4, 5, 6, 7]] 8 [(0, false), (2, false), (4, false), (7, true), (1, true), (3, true), (5, true), (6, false)] (by kernel_rfl) (by kernel_rfl) (by kernel_rfl) ?_)
      repeat (refine Da1 ?_)
      refine a_alloc (by rfl) (.inl rfl) fun b5 => ?_
      repeat (refine Da1 ?_)
      refine a_call (l1Copy_f (M := M) _ _ g (gridB_mk s) (by omega)) (by rfl) (by rfl) (.inl rfl) ?_
      rintro _ AC ⟨_, rfl, q⟩
      obtain ⟨c2, rfl, g1, l1⟩ := gridO q
      have o5 := g1.one
      repeat (refine Da1 ?_)
      refine a_make (by rfl) (by rfl) (by rfl) (by infer_instance) (by infer_instance) (by infer_instance) (by infer_instance) (by infer_instance) (by rfl) (by decide) (by omega) (.inl rfl) fun l AL g2 => ?_
      have o6 := g2.one
      repeat (refine Da1 ?_)
      refine a_make (by rfl) (by rfl) (by rfl) (by infer_instance) (by infer_instance) (by infer_instance) (by infer_instance) (by infer_instance) (by rfl) (by decide) (by omega) (.inl rfl) fun f AF g3 => ?_
      have o7 := g3.one
      repeat (refine Da1 ?_)
      (refine a_end (by rfl) (by rfl) ?_; simp only [finA, setL, List.drop_succ_cons, List.drop_zero])
      repeat (first | refine R1 ?_ | (refine R2 ?_; intro _))
      refine sf_keep [2, 4, 5, 6] ?_
      refine sf_own ((b5, .cells #[.int .i64 g.wide, c2, l, f] 37) :: (AC ++ (AL ++ (AF ++ [(b2, .cells #[.int .i64 0, .slice none 0 0, .slice none 0 0, .slice none 0 0] 37), (b1, .cells #[.int .i64 g.wide, c] 35)])))) ?_
      exact tail.out c2 l f AC AL AF b5 g1 g2 g3
    case' refine_8 =>
      refine (regX_run [[], [0, 7], [], [0, 1, 2, 4, 5, 7], [], [0, 1, 4, 7], [0, 1, 2, 3, 4, 5, 7], [], [0, 1, 2, 3, 4, 5, 6, 7]] 8 [(0, false), (2, false), (4, false), (7, true), (1, true), (5, true), (3, true), (6, false)] (by kernel_rfl) (by kernel_rfl) (by kernel_rfl) ?_)
      repeat (refine Da1 ?_)
      refine a_alloc (by rfl) (.inl rfl) fun b5 => ?_
      repeat (refine Da1 ?_)
      refine a_call (l1Copy_f (M := M) _ _ g (gridB_mk s) (by omega)) (by rfl) (by rfl) (.inl rfl) ?_
      rintro _ AC ⟨_, rfl, q⟩
      obtain ⟨c2, rfl, g1, l1⟩ := gridO q
      have o5 := g1.one
      repeat (refine Da1 ?_)
      refine a_make (by rfl) (by rfl) (by rfl) (by infer_instance) (by infer_instance) (by infer_instance) (by infer_instance) (by infer_instance) (by rfl) (by decide) (by omega) (.inl rfl) fun f AF g3 => ?_
      have o7 := g3.one
      repeat (refine Da1 ?_)
      refine a_make (by rfl) (by rfl) (by rfl) (by infer_instance) (by infer_instance) (by infer_instance) (by infer_instance) (by infer_instance) (by rfl) (by decide) (by omega) (.inl rfl) fun l AL g2 => ?_
      have o6 := g2.one
      repeat (refine Da1 ?_)
      (refine a_end (by rfl) (by rfl) ?_; simp only [finA, setL, List.drop_succ_cons, List.drop_zero])
      repeat (first | refine R1 ?_ | (refine R2 ?_; intro _))
      refine sf_keep [2, 4, 5, 6] ?_
      refine sf_own ((b5, .cells #[.int .i64 g.wide, c2, l, f] 37) :: (AC ++ (AL ++ (AF ++ [(b2, .cells #[.int .i64 0, .slice none 0 0, .slice none 0 0, .slice none 0 0] 37), (b1, .cells #[.int .i64 g.wide, c] 35)])))) ?_
      exact tail.out c2 l f AC AL AF b5 g1 g2 g3
    case' refine_9 =>
      refine (regX_run [[], [0, 4, 5], [], [0, 1, 2, 4, 5], [], [4], [0, 1, 2, 3, 4, 5], [0, 1, 2, 3, 4, 5], [0, 1, 2, 3, 4, 5, 6, 7]] 8 [(0, false), (2, false), (4, false), (5, true), (1, true), (3, true), (6, false), (7, true)] (by kernel_rfl) (by kernel_rfl) (by kernel_rfl) ?_)
      repeat (refine Da1 ?_)
      refine a_make (by rfl) (by rfl) (by rfl) (by infer_instance) (by infer_instance) (by infer_instance) (by infer_instance) (by infer_instance) (by rfl) (by decide) (by omega) (.inl rfl) fun f AF g3 => ?_
      have o7 := g3.one
      repeat (refine Da1 ?_)
      refine a_call (l1Copy_f (M := M) _ _ g (gridB_mk s) (by omega)) (by rfl) (by rfl) (.inl rfl) ?_
      rintro _ AC ⟨_, rfl, q⟩
      obtain ⟨c2, rfl, g1, l1⟩ := gridO q
      have o5 := g1.one
      repeat (refine Da1 ?_)
      refine a_make (by rfl) (by rfl) (by rfl) (by infer_instance) (by infer_instance) (by infer_instance) (by infer_instance) (by infer_instance) (by rfl) (by decide) (by omega) (.inl rfl) fun l AL g2 => ?_
      have o6 := g2.one
      repeat (refine Da1 ?_)
      refine a_alloc (by rfl) (.inl rfl) fun b5 => ?_
      repeat (refine Da1 ?_)
      (refine a_end (by rfl) (by rfl) ?_; simp only [finA, setL, List.drop_succ_cons, List.drop_zero])
      repeat (first | refine R1 ?_ | (refine R2 ?_; intro _))
      refine sf_keep [2, 4, 5, 6] ?_
      refine sf_own ((b5, .cells #[.int .i64 g.wide, c2, l, f] 37) :: (AC ++ (AL ++ (AF ++ [(b2, .cells #[.int .i64 0, .slice none 0 0, .slice none 0 0, .slice none 0 0] 37), (b1, .cells #[.int .i64 g.wide, c] 35)])))) ?_
      exact tail.out c2 l f AC AL AF b5 g1 g2 g3
    case' refine_10 =>
      refine (regX_run [[], [0, 4, 5], [], [0, 1, 2, 4, 5, 7], [], [4], [0, 1, 2, 3, 4, 5, 7], [0, 1, 4, 5], [0, 1, 2, 3, 4, 5, 6, 7]] 8 [(0, false), (2, false), (4, false), (5, true), (1, true), (7, true), (3, true), (6, false)] (by kernel_rfl) (by kernel_rfl) (by kernel_rfl) ?_)
      repeat (refine Da1 ?_)
      refine a_make (by rfl) (by rfl) (by rfl) (by infer_instance) (by infer_instance) (by infer_instance) (by infer_instance) (by infer_instance) (by rfl) (by decide) (by omega) (.inl rfl) fun f AF g3 => ?_
      have o7 := g3.one
      repeat (refine Da1 ?_)
      refine a_call (l1Copy_f (M := M) _ _ g (gridB_mk s) (by omega)) (by rfl) (by rfl) (.inl rfl) ?_
      rintro _ AC ⟨_, rfl, q⟩
      obtain ⟨c2, rfl, g1, l1⟩ := gridO q
      have o5 := g1.one
      repeat (refine Da1 ?_)
      refine a_alloc (by rfl) (.inl rfl) fun b5 => ?_
      repeat (refine Da1 ?_)
      refine a_make (by rfl) (by rfl) (by rfl) (by infer_instance) (by infer_instance) (by infer_instance) (by infer_instance) (by infer_instance) (by rfl) (by decide) (by omega) (.inl rfl) fun l AL g2 => ?_
      have o6 := g2.one
      repeat (refine Da1 ?_)
      (refine a_end (by rfl) (by rfl) ?_; simp only [finA, setL, List.drop_succ_cons, List.drop_zero])
      repeat (first | refine R1 ?_ | (refine R2 ?_; intro _))
      refine sf_keep [2, 4, 5, 6] ?_
      refine sf_own ((b5, .cells #[.int .i64 g.wide, c2, l, f] 37) :: (AC ++ (AL ++ (AF ++ [(b2, .cells #[.int .i64 0, .slice none 0 0, .slice none 0 0, .slice none 0 0] 37), (b1, .cells #[.int .i64 g.wide, c] 35)])))) ?_
      exact tail.out c2 l f AC AL AF b5 g1 g2 g3
    case' refine_11 =>
      refine (regX_run [[], [0, 4, 5, 7], [], [0, 1, 2, 4, 5, 7], [], [4], [0, 1, 2, 3, 4, 5, 7], [4, 5], [0, 1, 2, 3, 4, 5, 6, 7]] 8 [(0, false), (2, false), (4, false), (5, true), (7, true), (1, true), (3, true), (6, false)] (by kernel_rfl) (by kernel_rfl) (by kernel_rfl) ?_)
      repeat (refine Da1 ?_)
      refine a_make (by rfl) (by rfl) (by rfl) (by infer_instance) (by infer_instance) (by infer_instance) (by infer_instance) (by infer_instance) (by rfl) (by decide) (by omega) (.inl rfl) fun f AF g3 => ?_
      have o7 := g3.one
      repeat (refine Da1 ?_)
      refine a_alloc (by rfl) (.inl rfl) fun b5 => ?_
      repeat (refine Da1 ?_)
      refine a_call (l1Copy_f (M := M) _ _ g (gridB_mk s) (by omega)) (by rfl) (by rfl) (.inl rfl) ?_
      rintro _ AC ⟨_, rfl, q⟩
      obtain ⟨c2, rfl, g1, l1⟩ := gridO q
      have o5 := g1.one
      repeat (refine Da1 ?_)
      refine a_make (by rfl) (by rfl) (by rfl) (by infer_instance) (by infer_instance) (by infer_instance) (by infer_instance) (by infer_instance) (by rfl) (by decide) (by omega) (.inl rfl) fun l AL g2 => ?_
      have o6 := g2.one
      repeat (refine Da1 ?_)
      (refine a_end (by rfl) (by rfl) ?_; simp only [finA, setL, List.drop_succ_cons, List.drop_zero])
      repeat (first | refine R1 ?_ | (refine R2 ?_; intro _))
      refine sf_keep [2, 4, 5, 6] ?_
      refine sf_own ((b5, .cells #[.int .i64 g.wide, c2, l, f] 37) :: (AC ++ (AL ++ (AF ++ [(b2, .cells #[.int .i64 0, .slice none 0 0, .slice none 0 0, .slice none 0 0] 37), (b1, .cells #[.int .i64 g.wide, c] 35)])))) ?_
      exact tail.out c2 l f AC AL AF b5 g1 g2 g3
    case' refine_12 =>
      refine (regX_run [[], [0, 4, 5, 7], [], [0, 1, 2, 4, 5, 7], [], [4, 7], [0, 1, 2, 3, 4, 5, 7], [], [0, 1, 2, 3, 4, 5, 6, 7]] 8 [(0, false), (2, false), (4, false), (7, true), (5, true), (1, true), (3, true), (6, false)] (by kernel_rfl) (by kernel_rfl) (by kernel_rfl) ?_)
      repeat (refine Da1 ?_)
      refine a_alloc (by rfl) (.inl rfl) fun b5 => ?_
      repeat (refine Da1 ?_)
      refine a_make (by rfl) (by rfl) (by rfl) (by infer_instance) (by infer_instance) (by infer_instance) (by infer_instance) (by infer_instance) (by rfl) (by decide) (by omega) (.inl rfl) fun f AF g3 => ?_
      have o7 := g3.one
      repeat (refine Da1 ?_)
      refine a_call (l1Copy_f (M := M) _ _ g (gridB_mk s) (by omega)) (by rfl) (by rfl) (.inl rfl) ?_
      rintro _ AC ⟨_, rfl, q⟩
      obtain ⟨c2, rfl, g1, l1⟩ := gridO q
      have o5 := g1.one
      repeat (refine Da1 ?_)
      refine a_make (by rfl) (by rfl) (by rfl) (by infer_instance) (by infer_instance) (by infer_instance) (by infer_instance) (by infer_instance) (by rfl) (by decide) (by omega) (.inl rfl) fun l AL g2 => ?_
      have o6 := g2.one
      repeat (refine Da1 ?_)
      (refine a_end (by rfl) (by rfl) ?_; simp only [finA, setL, List.drop_succ_cons, List.drop_zero])
      repeat (first | refine R1 ?_ | (refine R2 ?_; intro _))
      refine sf_keep [2, 4, 5, 6] ?_
      refine sf_own ((b5, .cells #[.int .i64 g.wide, c2, l, f] 37) :: (AC ++ (AL ++ (AF ++ [(b2, .cells #[.int .i64 0, .slice none 0 0, .slice none 0 0, .slice none 0 0] 37), (b1, .cells #[.int .i64 g.wide, c] 35)])))) ?_
      exact tail.out c2 l f AC AL AF b5 g1 g2 g3
    case' refine_13 =>
      refine (regX_run [[], [0, 2, 3], [], [2], [], [0, 1, 2, 3, 4], [0, 1, 2, 3, 4, 5], [0, 1, 2, 3, 4, 5], [0, 1, 2, 3, 4, 5, 6, 7]] 8 [(0, false), (2, false), (4, false), (3, true), (1, true), (5, true), (6, false), (7, true)] (by kernel_rfl) (by kernel_rfl) (by kernel_rfl) ?_)
      repeat (refine Da1 ?_)
      refine a_make (by rfl) (by rfl) (by rfl) (by infer_instance) (by infer_instance) (by infer_instance) (by infer_instance) (by infer_instance) (by rfl) (by decide) (by omega) (.inl rfl) fun l AL g2 => ?_
      have o6 := g2.one
      repeat (refine Da1 ?_)
      refine a_call (l1Copy_f (M := M) _ _ g (gridB_mk s) (by omega)) (by rfl) (by rfl) (.inl rfl) ?_
      rintro _ AC ⟨_, rfl, q⟩
      obtain ⟨c2, rfl, g1, l1⟩ := gridO q
      have o5 := g1.one
      repeat (refine Da1 ?_)
      refine a_make (by rfl) (by rfl) (by rfl) (by infer_instance) (by infer_instance) (by infer_instance) (by infer_instance) (by infer_instance) (by rfl) (by decide) (by omega) (.inl rfl) fun f AF g3 => ?_
      have o7 := g3.one
      repeat (refine Da1 ?_)
      refine a_alloc (by rfl) (.inl rfl) fun b5 => ?_
      repeat (refine Da1 ?_)
      (refine a_end (by rfl) (by rfl) ?_; simp only [finA, setL, List.drop_succ_cons, List.drop_zero])
      repeat (first | refine R1 ?_ | (refine R2 ?_; intro _))
      refine sf_keep [2, 4, 5, 6] ?_
      refine sf_own ((b5, .cells #[.int .i64 g.wide, c2, l, f] 37) :: (AC ++ (AL ++ (AF ++ [(b2, .cells #[.int .i64 0, .slice none 0 0, .slice none 0 0, .slice none 0 0] 37), (b1, .cells #[.int .i64 g.wide, c] 35)])))) ?_
      exact tail.out c2 l f AC AL AF b5 g1 g2 g3
    case' refine_14 =>
      refine (regX_run [[], [0, 2, 3], [], [2], [], [0, 1, 2, 3, 4, 7], [0, 1, 2, 3, 4, 5, 7], [0, 1, 2, 3], [0, 1, 2, 3, 4, 5, 6, 7]] 8 [(0, false), (2, false), (4, false), (3, true), (1, true), (7, true), (5, true), (6, false)] (by kernel_rfl) (by kernel_rfl) (by kernel_rfl) ?_)
      repeat (refine Da1 ?_)
      refine a_make (by rfl) (by rfl) (by rfl) (by infer_instance) (by infer_instance) (by infer_instance) (by infer_instance) (by infer_instance) (by rfl) (by decide) (by omega) (.inl rfl) fun l AL g2 => ?_
      have o6 := g2.one
      repeat (refine Da1 ?_)
      refine a_call (l1Copy_f (M := M) _ _ g (gridB_mk s) (by omega)) (by rfl) (by rfl) (.inl rfl) ?_
      rintro _ AC ⟨_, rfl, q⟩
      obtain ⟨c2, rfl, g1, l1⟩ := gridO q
      have o5 := g1.one
      repeat (refine Da1 ?_)
      refine a_alloc (by rfl) (.inl rfl) fun b5 => ?_
      repeat (refine Da1 ?_)
      refine a_make (by rfl) (by rfl) (by rfl) (by infer_instance) (by infer_instance) (by infer_instance) (by infer_instance) (by infer_instance) (by rfl) (by decide) (by omega) (.inl rfl) fun f AF g3 => ?_
      have o7 := g3.one
      repeat (refine Da1 ?_)
      (refine a_end (by rfl) (by rfl) ?_; simp only [finA, setL, List.drop_succ_cons, List.drop_zero])
      repeat (first | refine R1 ?_ | (refine R2 ?_; intro _))
      refine sf_keep [2, 4, 5, 6] ?_
      refine sf_own ((b5, .cells #[.int .i64 g.wide, c2, l, f] 37) :: (AC ++ (AL ++ (AF ++ [(b2, .cells #[.int .i64 0, .slice none 0 0, .slice none 0 0, .slice none 0 0] 37), (b1, .cells #[.int .i64 g.wide, c] 35)])))) ?_
      exact tail.out c2 l f AC AL AF b5 g1 g2 g3
    case' refine_15 =>
      refine (regX_run [[], [0, 2, 3, 7], [], [2], [], [0, 1, 2, 3, 4, 7], [0, 1, 2, 3, 4, 5, 7], [2, 3], [0, 1, 2, 3, 4, 5, 6, 7]] 8 [(0, false), (2, false), (4, false), (3, true), (7, true), (1, true), (5, true), (6, false)] (by kernel_rfl) (by kernel_rfl) (by kernel_rfl) ?_)
      repeat (refine Da1 ?_)
      refine a_make (by rfl) (by rfl) (by rfl) (by infer_instance) (by infer_instance) (by infer_instance) (by infer_instance) (by infer_instance) (by rfl) (by decide) (by omega) (.inl rfl) fun l AL g2 => ?_
      have o6 := g2.one
      repeat (refine Da1 ?_)
      refine a_alloc (by rfl) (.inl rfl) fun b5 => ?_
      repeat (refine Da1 ?_)
      refine a_call (l1Copy_f (M := M) _ _ g (gridB_mk s) (by omega)) (by rfl) (by rfl) (.inl rfl) ?_
      rintro _ AC ⟨_, rfl, q⟩
      obtain ⟨c2, rfl, g1, l1⟩ := gridO q
      have o5 := g1.one
      repeat (refine Da1 ?_)
      refine a_make (by rfl) (by rfl) (by rfl) (by infer_instance) (by infer_instance) (by infer_instance) (by infer_instance) (by infer_instance) (by rfl) (by decide) (by omega) (.inl rfl) fun f AF g3 => ?_
      have o7 := g3.one
      repeat (refine Da1 ?_)
      (refine a_end (by rfl) (by rfl) ?_; simp only [finA, setL, List.drop_succ_cons, List.drop_zero])
      repeat (first | refine R1 ?_ | (refine R2 ?_; intro _))
      refine sf_keep [2, 4, 5, 6] ?_
      refine sf_own ((b5, .cells #[.int .i64 g.wide, c2, l, f] 37) :: (AC ++ (AL ++ (AF ++ [(b2, .cells #[.int .i64 0, .slice none 0 0, .slice none 0 0, .slice none 0 0] 37), (b1, .cells #[.int .i64 g.wide, c] 35)])))) ?_
      exact tail.out c2 l f AC AL AF b5 g1 g2 g3
    case' refine_16 =>
      refine (regX_run [[], [0, 2, 3, 7], [], [2, 7], [], [0, 1, 2, 3, 4, 7], [0, 1, 2, 3, 4, 5, 7], [], [0, 1, 2, 3, 4, 5, 6, 7]] 8 [(0, false), (2, false), (4, false), (7, true), (3, true), (1, true), (5, true), (6, false)] (by kernel_rfl) (by kernel_rfl) (by kernel_rfl) ?_)
      repeat (refine Da1 ?_)
      refine a_alloc (by rfl) (.inl rfl) fun b5 => ?_
      repeat (refine Da1 ?_)
      refine a_make (by rfl) (by rfl) (by rfl) (by infer_instance) (by infer_instance) (by infer_instance) (by infer_instance) (by infer_instance) (by rfl) (by decide) (by omega) (.inl rfl) fun l AL g2 => ?_
      have o6 := g2.one
      repeat (refine Da1 ?_)
      refine a_call (l1Copy_f (M := M) _ _ g (gridB_mk s) (by omega)) (by rfl) (by rfl) (.inl rfl) ?_
      rintro _ AC ⟨_, rfl, q⟩
      obtain ⟨c2, rfl, g1, l1⟩ := gridO q
      have o5 := g1.one
      repeat (refine Da1 ?_)
      refine a_make (by rfl) (by rfl) (by rfl) (by infer_instance) (by infer_instance) (by infer_instance) (by infer_instance) (by infer_instance) (by rfl) (by decide) (by omega) (.inl rfl) fun f AF g3 => ?_
      have o7 := g3.one
      repeat (refine Da1 ?_)
      (refine a_end (by rfl) (by rfl) ?_; simp only [finA, setL, List.drop_succ_cons, List.drop_zero])
      repeat (first | refine R1 ?_ | (refine R2 ?_; intro _))
      refine sf_keep [2, 4, 5, 6] ?_
      refine sf_own ((b5, .cells #[.int .i64 g.wide, c2, l, f] 37) :: (AC ++ (AL ++ (AF ++ [(b2, .cells #[.int .i64 0, .slice none 0 0, .slice none 0 0, .slice none 0 0] 37), (b1, .cells #[.int .i64 g.wide, c] 35)])))) ?_
      exact tail.out c2 l f AC AL AF b5 g1 g2 g3
    case' refine_17 =>
      refine (regX_run [[], [0, 2, 3, 4, 5], [], [2], [], [2, 3, 4], [0, 1, 2, 3, 4, 5], [0, 1, 2, 3, 4, 5], [0, 1, 2, 3, 4, 5, 6, 7]] 8 [(0, false), (2, false), (4, false), (3, true), (5, true), (1, true), (6, false), (7, true)] (by kernel_rfl) (by kernel_rfl) (by kernel_rfl) ?_)
      repeat (refine Da1 ?_)
      refine a_make (by rfl) (by rfl) (by rfl) (by infer_instance) (by infer_instance) (by infer_instance) (by infer_instance) (by infer_instance) (by rfl) (by decide) (by omega) (.inl rfl) fun l AL g2 => ?_
      have o6 := g2.one
      repeat (refine Da1 ?_)
      refine a_make (by rfl) (by rfl) (by rfl) (by infer_instance) (by infer_instance) (by infer_instance) (by infer_instance) (by infer_instance) (by rfl) (by decide) (by omega) (.inl rfl) fun f AF g3 => ?_
      have o7 := g3.one
      repeat (refine Da1 ?_)
      refine a_call (l1Copy_f (M := M) _ _ g (gridB_mk s) (by omega)) (by rfl) (by rfl) (.inl rfl) ?_
      rintro _ AC ⟨_, rfl, q⟩
      obtain ⟨c2, rfl, g1, l1⟩ := gridO q
      have o5 := g1.one
      repeat (refine Da1 ?_)
      refine a_alloc (by rfl) (.inl rfl) fun b5 => ?_
      repeat (refine Da1 ?_)
      (refine a_end (by rfl) (by rfl) ?_; simp only [finA, setL, List.drop_succ_cons, List.drop_zero])
      repeat (first | refine R1 ?_ | (refine R2 ?_; intro _))
      refine sf_keep [2, 4, 5, 6] ?_
      refine sf_own ((b5, .cells #[.int .i64 g.wide, c2, l, f] 37) :: (AC ++ (AL ++ (AF ++ [(b2, .cells #[.int .i64 0, .slice none 0 0, .slice none 0 0, .slice none 0 0] 37), (b1, .cells #[.int .i64 g.wide, c] 35)])))) ?_
      exact tail.out c2 l f AC AL AF b5 g1 g2 g3
    case' refine_18 =>
      refine (regX_run [[], [0, 2, 3, 4, 5], [], [2, 4, 5], [], [4], [0, 1, 2, 3, 4, 5], [0, 1, 2, 3, 4, 5], [0, 1, 2, 3, 4, 5, 6, 7]] 8 [(0, false), (2, false), (4, false), (5, true), (3, true), (1, true), (6, false), (7, true)] (by kernel_rfl) (by kernel_rfl) (by kernel_rfl) ?_)
      repeat (refine Da1 ?_)
      refine a_make (by rfl) (by rfl) (by rfl) (by infer_instance) (by infer_instance) (by infer_instance) (by infer_instance) (by infer_instance) (by rfl) (by decide) (by omega) (.inl rfl) fun f AF g3 => ?_
      have o7 := g3.one
      repeat (refine Da1 ?_)
      refine a_make (by rfl) (by rfl) (by rfl) (by infer_instance) (by infer_instance) (by infer_instance) (by infer_instance) (by infer_instance) (by rfl) (by decide) (by omega) (.inl rfl) fun l AL g2 => ?_
      have o6 := g2.one
      repeat (refine Da1 ?_)
      refine a_call (l1Copy_f (M := M) _ _ g (gridB_mk s) (by omega)) (by rfl) (by rfl) (.inl rfl) ?_
      rintro _ AC ⟨_, rfl, q⟩
      obtain ⟨c2, rfl, g1, l1⟩ := gridO q
      have o5 := g1.one
      repeat (refine Da1 ?_)
      refine a_alloc (by rfl) (.inl rfl) fun b5 => ?_
      repeat (refine Da1 ?_)
      (refine a_end (by rfl) (by rfl) ?_; simp only [finA, setL, List.drop_succ_cons, List.drop_zero])
      repeat (first | refine R1 ?_ | (refine R2 ?_; intro _))
      refine sf_keep [2, 4, 5, 6] ?_
      refine sf_own ((b5, .cells #[.int .i64 g.wide, c2, l, f] 37) :: (AC ++ (AL ++ (AF ++ [(b2, .cells #[.int .i64 0, .slice none 0 0, .slice none 0 0, .slice none 0 0] 37), (b1, .cells #[.int .i64 g.wide, c] 35)])))) ?_
      exact tail.out c2 l f AC AL AF b5 g1 g2 g3
    case' refine_19 =>
      refine (regX_run [[], [0, 2, 3, 4, 5, 7], [], [2], [], [2, 3, 4], [0, 1, 2, 3, 4, 5, 7], [2, 3, 4, 5], [0, 1, 2, 3, 4, 5, 6, 7]] 8 [(0, false), (2, false), (4, false), (3, true), (5, true), (7, true), (1, true), (6, false)] (by kernel_rfl) (by kernel_rfl) (by kernel_rfl) ?_)
      repeat (refine Da1 ?_)
      refine a_make (by rfl) (by rfl) (by rfl) (by infer_instance) (by infer_instance) (by infer_instance) (by infer_instance) (by infer_instance) (by rfl) (by decide) (by omega) (.inl rfl) fun l AL g2 => ?_
      have o6 := g2.one
      repeat (refine Da1 ?_)
      refine a_make (by rfl) (by rfl) (by rfl) (by infer_instance) (by infer_instance) (by infer_instance) (by infer_instance) (by infer_instance) (by rfl) (by decide) (by omega) (.inl rfl) fun f AF g3 => ?_
      have o7 := g3.one
      repeat (refine Da1 ?_)
      refine a_alloc (by rfl) (.inl rfl) fun b5 => ?_
      repeat (refine Da1 ?_)
      refine a_call (l1Copy_f (M := M) _ _ g (gridB_mk s) (by omega)) (by rfl) (by rfl) (.inl rfl) ?_
      rintro _ AC ⟨_, rfl, q⟩
      obtain ⟨c2, rfl, g1, l1⟩ := gridO q
      have o5 := g1.one
      repeat (refine Da1 ?_)
      (refine a_end (by rfl) (by rfl) ?_; simp only [finA, setL, List.drop_succ_cons, List.drop_zero])
      repeat (first | refine R1 ?_ | (refine R2 ?_; intro _))
      refine sf_keep [2, 4, 5, 6] ?_
      refine sf_own ((b5, .cells #[.int .i64 g.wide, c2, l, f] 37) :: (AC ++ (AL ++ (AF ++ [(b2, .cells #[.int .i64 0, .slice none 0 0, .slice none 0 0, .slice none 0 0] 37), (b1, .cells #[.int .i64 g.wide, c] 35)])))) ?_
      exact tail.out c2 l f AC AL AF b5 g1 g2 g3
    case' refine_20 =>
      refine (regX_run [[], [0, 2, 3, 4, 5, 7], [], [2], [], [2, 3, 4, 7], [0, 1, 2, 3, 4, 5, 7], [2, 3], [0, 1, 2, 3, 4, 5, 6, 7]] 8 [(0, false), (2, false), (4, false), (3, true), (7, true), (5, true), (1, true), (6, false)] (by kernel_rfl) (by kernel_rfl) (by kernel_rfl) ?_)
      repeat (refine Da1 ?_)
      refine a_make (by rfl) (by rfl) (by rfl) (by infer_instance) (by infer_instance) (by infer_instance) (by infer_instance) (by infer_instance) (by rfl) (by decide) (by omega) (.inl rfl) fun l AL g2 => ?_
      have o6 := g2.one
      repeat (refine Da1 ?_)
      refine a_alloc (by rfl) (.inl rfl) fun b5 => ?_
      repeat (refine Da1 ?_)
      refine a_make (by rfl) (by rfl) (by rfl) (by infer_instance) (by infer_instance) (by infer_instance) (by infer_instance) (by infer_instance) (by rfl) (by decide) (by omega) (.inl rfl) fun f AF g3 => ?_
      have o7 := g3.one
      repeat (refine Da1 ?_)
      refine a_call (l1Copy_f (M := M) _ _ g (gridB_mk s) (by omega)) (by rfl) (by rfl) (.inl rfl) ?_
      rintro _ AC ⟨_, rfl, q⟩
      obtain ⟨c2, rfl, g1, l1⟩ := gridO q
      have o5 := g1.one
      repeat (refine Da1 ?_)
      (refine a_end (by rfl) (by rfl) ?_; simp only [finA, setL, List.drop_succ_cons, List.drop_zero])
      repeat (first | refine R1 ?_ | (refine R2 ?_; intro _))
      refine sf_keep [2, 4, 5, 6] ?_
      refine sf_own ((b5, .cells #[.int .i64 g.wide, c2, l, f] 37) :: (AC ++ (AL ++ (AF ++ [(b2, .cells #[.int .i64 0, .slice none 0 0, .slice none 0 0, .slice none 0 0] 37), (b1, .cells #[.int .i64 g.wide, c] 35)])))) ?_
      exact tail.out c2 l f AC AL AF b5 g1 g2 g3
    case' refine_21 =>
      refine (regX_run [[], [0, 2, 3, 4, 5, 7], [], [2, 7], [], [2, 3, 4, 7], [0, 1, 2, 3, 4, 5, 7], [], [0, 1, 2, 3, 4, 5, 6, 7]] 8 [(0, false), (2, false), (4, false), (7, true), (3, true), (5, true), (1, true), (6, false)] (by kernel_rfl) (by kernel_rfl) (by kernel_rfl) ?_)
      repeat (refine Da1 ?_)
      refine a_alloc (by rfl) (.inl rfl) fun b5 => ?_
      repeat (refine Da1 ?_)
      refine a_make (by rfl) (by rfl) (by rfl) (by infer_instance) (by infer_instance) (by infer_instance) (by infer_instance) (by infer_instance) (by rfl) (by decide) (by omega) (.inl rfl) fun l AL g2 => ?_
      have o6 := g2.one
      repeat (refine Da1 ?_)
      refine a_make (by rfl) (by rfl) (by rfl) (by infer_instance) (by infer_instance) (by infer_instance) (by infer_instance) (by infer_instance) (by rfl) (by decide) (by omega) (.inl rfl) fun f AF g3 => ?_
      have o7 := g3.one
      repeat (refine Da1 ?_)
      refine a_call (l1Copy_f (M := M) _ _ g (gridB_mk s) (by omega)) (by rfl) (by rfl) (.inl rfl) ?_
      rintro _ AC ⟨_, rfl, q⟩
      obtain ⟨c2, rfl, g1, l1⟩ := gridO q
      have o5 := g1.one
      repeat (refine Da1 ?_)
      (refine a_end (by rfl) (by rfl) ?_; simp only [finA, setL, List.drop_succ_cons, List.drop_zero])
      repeat (first | refine R1 ?_ | (refine R2 ?_; intro _))
      refine sf_keep [2, 4, 5, 6] ?_
      refine sf_own ((b5, .cells #[.int .i64 g.wide, c2, l, f] 37) :: (AC ++ (AL ++ (AF ++ [(b2, .cells #[.int .i64 0, .slice none 0 0, .slice none 0 0, .slice none 0 0] 37), (b1, .cells #[.int .i64 g.wide, c] 35)])))) ?_
      exact tail.out c2 l f AC AL AF b5 g1 g2 g3
    case' refine_22 =>
      refine (regX_run [[], [0, 2, 3, 4, 5, 7], [], [2, 4, 5], [], [4], [0, 1, 2, 3, 4, 5, 7], [2, 3, 4, 5], [0, 1, 2, 3, 4, 5, 6, 7]] 8 [(0, false), (2, false), (4, false), (5, true), (3, true), (7, true), (1, true), (6, false)] (by kernel_rfl) (by kernel_rfl) (by kernel_rfl) ?_)
      repeat (refine Da1 ?_)
      refine a_make (by rfl) (by rfl) (by rfl) (by infer_instance) (by infer_instance) (by infer_instance) (by infer_instance) (by infer_instance) (by rfl) (by decide) (by omega) (.inl rfl) fun f AF g3 => ?_
      have o7 := g3.one
      repeat (refine Da1 ?_)
      refine a_make (by rfl) (by rfl) (by rfl) (by infer_instance) (by infer_instance) (by infer_instance) (by infer_instance) (by infer_instance) (by rfl) (by decide) (by omega) (.inl rfl) fun l AL g2 => ?_
      have o6 := g2.one
      repeat (refine Da1 ?_)
      refine a_alloc (by rfl) (.inl rfl) fun b5 => ?_
      repeat (refine Da1 ?_)
      refine a_call (l1Copy_f (M := M) _ _ g (gridB_mk s) (by omega)) (by rfl) (by rfl) (.inl rfl) ?_
      rintro _ AC ⟨_, rfl, q⟩
      obtain ⟨c2, rfl, g1, l1⟩ := gridO q
      have o5 := g1.one
      repeat (refine Da1 ?_)
      (refine a_end (by rfl) (by rfl) ?_; simp only [finA, setL, List.drop_succ_cons, List.drop_zero])
      repeat (first | refine R1 ?_ | (refine R2 ?_; intro _))
      refine sf_keep [2, 4, 5, 6] ?_
      refine sf_own ((b5, .cells #[.int .i64 g.wide, c2, l, f] 37) :: (AC ++ (AL ++ (AF ++ [(b2, .cells #[.int .i64 0, .slice none 0 0, .slice none 0 0, .slice none 0 0] 37), (b1, .cells #[.int .i64 g.wide, c] 35)])))) ?_
      exact tail.out c2 l f AC AL AF b5 g1 g2 g3
    case' refine_23 =>
      refine (regX_run [[], [0, 2, 3, 4, 5, 7], [], [2, 4, 5, 7], [], [4], [0, 1, 2, 3, 4, 5, 7], [4, 5], [0, 1, 2, 3, 4, 5, 6, 7]] 8 [(0, false), (2, false), (4, false), (5, true), (7, true), (3, true), (1, true), (6, false)] (by kernel_rfl) (by kernel_rfl) (by kernel_rfl) ?_)
      repeat (refine Da1 ?_)
      refine a_make (by rfl) (by rfl) (by rfl) (by infer_instance) (by infer_instance) (by infer_instance) (by infer_instance) (by infer_instance) (by rfl) (by decide) (by omega) (.inl rfl) fun f AF g3 => ?_
      have o7 := g3.one
      repeat (refine Da1 ?_)
      refine a_alloc (by rfl) (.inl rfl) fun b5 => ?_
      repeat (refine Da1 ?_)
      refine a_make (by rfl) (by rfl) (by rfl) (by infer_instance) (by infer_instance) (by infer_instance) (by infer_instance) (by infer_instance) (by rfl) (by decide) (by omega) (.inl rfl) fun l AL g2 => ?_
      have o6 := g2.one
      repeat (refine Da1 ?_)
      refine a_call (l1Copy_f (M := M) _ _ g (gridB_mk s) (by omega)) (by rfl) (by rfl) (.inl rfl) ?_
      rintro _ AC ⟨_, rfl, q⟩
      obtain ⟨c2, rfl, g1, l1⟩ := gridO q
      have o5 := g1.one
      repeat (refine Da1 ?_)
      (refine a_end (by rfl) (by rfl) ?_; simp only [finA, setL, List.drop_succ_cons, List.drop_zero])
      repeat (first | refine R1 ?_ | (refine R2 ?_; intro _))
      refine sf_keep [2, 4, 5, 6] ?_
      refine sf_own ((b5, .cells #[.int .i64 g.wide, c2, l, f] 37) :: (AC ++ (AL ++ (AF ++ [(b2, .cells #[.int .i64 0, .slice none 0 0, .slice none 0 0, .slice none 0 0] 37), (b1, .cells #[.int .i64 g.wide, c] 35)])))) ?_
      exact tail.out c2 l f AC AL AF b5 g1 g2 g3
    case' refine_24 =>
      refine (regX_run [[], [0, 2, 3, 4, 5, 7], [], [2, 4, 5, 7], [], [4, 7], [0, 1, 2, 3, 4, 5, 7], [], [0, 1, 2, 3, 4, 5, 6, 7]] 8 [(0, false), (2, false), (4, false), (7, true), (5, true), (3, true), (1, true), (6, false)] (by kernel_rfl) (by kernel_rfl) (by kernel_rfl) ?_)
      repeat (refine Da1 ?_)
      refine a_alloc (by rfl) (.inl rfl) fun b5 => ?_
      repeat (refine Da1 ?_)
      refine a_make (by rfl) (by rfl) (by rfl) (by infer_instance) (by infer_instance) (by infer_instance) (by infer_instance) (by infer_instance) (by rfl) (by decide) (by omega) (.inl rfl) fun f AF g3 => ?_
      have o7 := g3.one
      repeat (refine Da1 ?_)
      refine a_make (by rfl) (by rfl) (by rfl) (by infer_instance) (by infer_instance) (by infer_instance) (by infer_instance) (by infer_instance) (by rfl) (by decide) (by omega) (.inl rfl) fun l AL g2 => ?_
      have o6 := g2.one
      repeat (refine Da1 ?_)
      refine a_call (l1Copy_f (M := M) _ _ g (gridB_mk s) (by omega)) (by rfl) (by rfl) (.inl rfl) ?_
      rintro _ AC ⟨_, rfl, q⟩
      obtain ⟨c2, rfl, g1, l1⟩ := gridO q
      have o5 := g1.one
      repeat (refine Da1 ?_)
      (refine a_end (by rfl) (by rfl) ?_; simp only [finA, setL, List.drop_succ_cons, List.drop_zero])
      repeat (first | refine R1 ?_ | (refine R2 ?_; intro _))
      refine sf_keep [2, 4, 5, 6] ?_
      refine sf_own ((b5, .cells #[.int .i64 g.wide, c2, l, f] 37) :: (AC ++ (AL ++ (AF ++ [(b2, .cells #[.int .i64 0, .slice none 0 0, .slice none 0 0, .slice none 0 0] 37), (b1, .cells #[.int .i64 g.wide, c] 35)])))) ?_
      exact tail.out c2 l f AC AL AF b5 g1 g2 g3
  intro c2 l f AC AL AF b5 g1 g2 g3
  have o5 := g1.one
  have o6 := g2.one
  have o7 := g3.one
  repeat (first | refine R1 ?_ | (refine R2 ?_; intro _))
  refine sf_lp (ι := Nat) [2, 4, 5] (fun k => [(6, .int .i64 (k : Int))]) (fun k O => k ≤ N ∧ ∃ A2 A3, O = (b5, .cells #[.int .i64 g.wide, c2, l, f] 37) :: (AC ++ (A2 ++ A3 ++ [(b2, .cells #[.int .i64 0, .slice none 0 0, .slice none 0 0, .slice none 0 0] 37), (b1, .cells #[.int .i64 g.wide, c] 35)])) ∧ Gr A2 l 3 intF ((picOf g).take k ++ List.replicate ((picOf g).length - k) 0) ∧ GrR (intSR τ) A3 f 25 ((feetOf g).take k ++ List.replicate ((feetOf g).length - k) [])) (fun k => N - k) 0 ((b5, .cells #[.int .i64 g.wide, c2, l, f] 37) :: (AC ++ (AL ++ AF ++ [(b2, .cells #[.int .i64 0, .slice none 0 0, .slice none 0 0, .slice none 0 0] 37), (b1, .cells #[.int .i64 g.wide, c] 35)]))) ⟨by omega, AL, AF, rfl, by rw [lp]; simpa using g2, AF, [], by simp, _, g3, by rw [lf]; simpa using nils_all N, by simp; omega⟩ ?_
  rintro k O ⟨hk, A2, A3, rfl, ga, gb⟩
  repeat (first | refine R1 ?_ | (refine R2 ?_; intro _))
  refine sf_if (fun h4 => ?_) fun h4 => ?_
  · have hk4 : k < N := by omega
    repeat (first | refine R1 ?_ | (refine R2 ?_; intro _))
    refine fp (y_lend AC (fun h' _ i => l13Look_f (M := M) h' c2 g (g1.lent (by omega) i) e l f A2 A3 _ _ ga gb k (by omega) (by simp; omega) (by simp; omega)) (by rfl) ?_)
    rintro _ _ ⟨A5, A6, rfl, rfl, ga2, gb2⟩
    rw [← picOf_at (g := g) (k := k) (by omega), set_step (by omega)] at ga2
    rw [← feetOf_at (g := g) (k := k) (by omega), scene_step (by omega)] at gb2
    repeat (first | refine R1 ?_ | (refine R2 ?_; intro _))
    exact ⟨k + 1, by omega, ⟨rfl, trivial⟩, rfl, (b5, .cells #[.int .i64 g.wide, c2, l, f] 37) :: (AC ++ (A5 ++ A6 ++ [(b2, .cells #[.int .i64 0, .slice none 0 0, .slice none 0 0, .slice none 0 0] 37), (b1, .cells #[.int .i64 g.wide, c] 35)])), _, inferInstance, by omega, A5, A6, rfl, ga2, gb2⟩
  · refine sf_exit ?_
    obtain rfl : k = N := by omega
    rw [lp, List.take_of_length_le (by omega), Nat.sub_self, List.replicate_zero, List.append_nil] at ga
    rw [lf, List.take_of_length_le (by omega), Nat.sub_self, List.replicate_zero, List.append_nil] at gb
    repeat (first | refine R1 ?_ | (refine R2 ?_; intro _))
    exact sf_ret (rO (AC ++ (A2 ++ A3)) ⟨_, rfl, sceneO_mk (s := sceneOf g) g1 (by simp only [sceneOf]; omega) ga (by simp only [sceneOf]; omega) gb⟩)
theorem sSceneOk_v (h : PHeap) (ca : List Value) (s : Scene) (b : (sceneR τ).B h ca s) : CallV Tryz.prog M 25 [.agg ca.toArray] h (.bool (sceneOk s)) := by
  obtain ⟨c, l, f, rfl, s1, s2, s3⟩ := sceneB b
  have o1 := s1.one
  have o2 := s2.one
  have o3 := s3.one
  refine calls_of_sf Tryz.func25 rfl Tryz.ntmps25 ?_
  simp only [argsL, Nat.reduceAdd]
  repeat (first | refine R1 ?_ | (refine R2 ?_; intro _))
  refine fp (y_call (sSceneNew_f (M := M) _ _ s.grid (gridB_mk s1)) (by rfl) ?_)
  rintro _ A1 ⟨cs, rfl, q⟩
  have q0 := q
  obtain ⟨c2, l2, f2, X1, X2, X3, rfl, rfl, ⟨g1, k1⟩, ⟨g2, k2⟩, g3⟩ := sceneO q
  have o4 := g1.one
  have o5 := g2.one
  have o6 := g3.one
  by_cases e : gridOk s.grid = true
  · have en : sceneNew s.grid = (sceneOf s.grid, true) := by rw [sceneNew, if_pos e]
    have ew : (sceneOf s.grid, true).1.grid.wide = s.grid.wide := rfl
    rw [en, ew]
    rw [en] at q0 g1 g2 g3 k2
    simp only at q0 g1 g2 g3 k2
    have hsc : sceneOk s = (decide (picOf s.grid = s.lights) && decide (feetOf s.grid = s.feet)) := by
      rw [sceneOk, e]
      obtain ⟨gg, ll, ff⟩ := s
      simp only [sceneOf, Scene.mk.injEq, true_and, Bool.true_and]
      by_cases h1 : picOf gg = ll <;> by_cases h2 : feetOf gg = ff
      · simp [h1, h2]
      · have : ¬ ff = feetOf gg := fun e => h2 e.symm
        simp [h2, this]
      · have : ¬ ll = picOf gg := fun e => h1 e.symm
        simp [h1, this]
      · have : ¬ ll = picOf gg := fun e => h1 e.symm
        simp [h1, this]
    rw [hsc]
    obtain ⟨F0, F1, rfl, rs, gr, oa, hb⟩ := g3
    obtain ⟨rx, s3, bx⟩ := s3
    have lr := oa.len
    have lx := bx.len
    have hrl := s3.small
    simp only [sceneOf] at k2 lr hb oa
    repeat (first | refine R1 ?_ | (refine R2 ?_; intro _))
    refine fp (y_lendV X2 (fun h' l i => l13Same_v (M := M) h' _ _ _ s.lights (g2.lent k2 i) (s2.le l.le)) (by rfl) ?_)
    by_cases h1' : picOf s.grid = s.lights
    rotate_left
    · have h1 : decide ((sceneOf s.grid).lights = s.lights) = false := decide_eq_false h1'
      rw [h1]
      repeat (first | refine R1 ?_ | (refine R2 ?_; intro _))
      refine sf_T rfl ?_
      repeat (first | refine R1 ?_ | (refine R2 ?_; intro _))
      refine sf_ret (rV ?_)
      simp [h1']
    have h1 : decide ((sceneOf s.grid).lights = s.lights) = true := decide_eq_true h1'
    rw [h1]
    repeat (first | refine R1 ?_ | (refine R2 ?_; intro _))
    refine sf_if (fun h2 => ?_) fun h2 => ?_
    · have h2' : ¬ feetOf s.grid = s.feet := fun e => h2 (by rw [lr, lx, e])
      repeat (first | refine R1 ?_ | (refine R2 ?_; intro _))
      refine sf_ret (rV ?_)
      simp [h2']
    have hl : (feetOf s.grid).length = s.feet.length := by omega
    repeat (first | refine R1 ?_ | (refine R2 ?_; intro _))
    rename_i b1 b3
    refine sf_lp (ι := Nat) [1, 3] (fun k => [(5, .int .i64 (k : Int))]) (fun k O => k ≤ s.feet.length ∧ O = (b3, .cells #[.int .i64 s.grid.wide, c2, l2, f2] 37) :: (X1 ++ (X2 ++ (F0 ++ F1)) ++ [(b1, .cells #[.int .i64 s.grid.wide, c, l, f] 37)]) ∧ (feetOf s.grid).take k = s.feet.take k) (fun k => s.feet.length - k) 0 ((b3, .cells #[.int .i64 s.grid.wide, c2, l2, f2] 37) :: (X1 ++ (X2 ++ (F0 ++ F1)) ++ [(b1, .cells #[.int .i64 s.grid.wide, c, l, f] 37)])) ⟨by omega, rfl, rfl⟩ ?_
    rintro k O ⟨hk, rfl, hi⟩
    repeat (first | refine R1 ?_ | (refine R2 ?_; intro _))
    refine sf_if (fun h4 => ?_) fun h4 => ?_
    · have hk4 : k < (feetOf s.grid).length := by omega
      have hk5 : k < s.feet.length := by omega
      have hk6 : k < rs.length := by omega
      have hk7 : k < rx.length := by omega
      obtain ⟨B1, Bk, B2, rfl, ⟨w, ew, gw, lw⟩, -⟩ := oa.at hk4
      obtain ⟨vx, ex, sx4⟩ := bx.at hk5
      haveI : FlatV (rawF (intSR τ).sz) (gt rs k) [w] := ⟨ew⟩
      haveI : FlatV (rawF (intSR τ).sz) (gt rx k) [vx] := ⟨ex⟩
      have o7 := gw.one
      have o8 := sx4.one
      repeat (first | refine R1 ?_ | (refine R2 ?_; intro _))
      refine sf_draw (by kernel_rfl) (regX_run [[], [0], [], [0, 1, 2], [0, 1, 2, 3], [], [5], [], [5, 6, 7], [5, 6, 7, 8], [0, 1, 2, 3, 4, 5, 6, 7, 8, 9], [0, 1, 2, 3, 4, 5, 6, 7, 8, 9, 10]] 10 [(0, false), (1, false), (2, false), (3, false), (4, false), (5, false), (6, false), (7, false), (8, false), (9, false)] (by kernel_rfl) (by kernel_rfl) (by kernel_rfl) ?_)
      repeat (refine Da1 ?_)
      (refine a_end (by rfl) (by rfl) ?_; simp only [finA, setL, List.drop_succ_cons, List.drop_zero])
      refine fp (y_lendV Bk (fun h' l i => l13Same_v (M := M) h' _ _ _ _ (gw.lent lw i) (sx4.le l.le)) (by rfl) ?_)
      repeat (first | refine R1 ?_ | (refine R2 ?_; intro _))
      refine sf_ifn (fun h5 => ?_) fun h5 => ?_
      · have h5' : ¬ feetOf s.grid = s.feet := fun e => h5 (by rw [e])
        repeat (first | refine R1 ?_ | (refine R2 ?_; intro _))
        refine sf_ret (rV ?_)
        simp [h5']
      · repeat (first | refine R1 ?_ | (refine R2 ?_; intro _))
        exact ⟨k + 1, by omega, ⟨rfl, trivial⟩, rfl, _, _, inferInstance, by omega, rfl, eq_step hk4 hk5 hi h5⟩
    · refine sf_exit ?_
      repeat (first | refine R1 ?_ | (refine R2 ?_; intro _))
      refine sf_ret (rV ?_)
      rw [eq_end hl (by omega) hi, h1']
      simp
  · have en : sceneNew s.grid = (noScene, false) := by rw [sceneNew, if_neg e]
    rw [en]
    repeat (first | refine R1 ?_ | (refine R2 ?_; intro _))
    refine sf_T (by rfl) ?_
    repeat (first | refine R1 ?_ | (refine R2 ?_; intro _))
    refine sf_ret (rV ?_)
    simp [sceneOk, e]
theorem sPaintOk_v (h : PHeap) (ca : List Value) (p : Painter) (b : (painterR τ).B h ca p) : CallV Tryz.prog M 7 [.agg ca.toArray] h (.bool (paintOk p)) := by
  obtain ⟨c, l, f, rfl, s1, s2, s3⟩ := painterB b
  have o1 := s1.one
  have o2 := s2.one
  have o3 := s3.one
  have bs : (sceneR τ).B h [.int .i64 p.scene.grid.wide, c, l, f] p.scene := sceneB_mk s1 s2 s3
  refine calls_of_sf Tryz.func7 rfl Tryz.ntmps7 ?_
  simp only [argsL, Nat.reduceAdd]
  repeat (first | refine R1 ?_ | (refine R2 ?_; intro _))
  refine sf_cond (by rfl) (fun e1 => ?_) fun e1 => ?_
  · simp only [Bool.not_eq_true'] at e1
    have ep : paintOk p = (decide (p.ver = 0) && decide (p.scene = noScene)) := by rw [paintOk, if_neg (by rw [e1]; decide)]
    rw [ep]
    repeat (first | refine R1 ?_ | (refine R2 ?_; intro _))
    refine f_split (fun e2 => ?_) fun e2 => ?_
    · repeat (first | refine R1 ?_ | (refine R2 ?_; intro _))
      refine fp (y_callV (l21None_v (M := M) _ _ p.scene bs) (by rfl) ?_)
      repeat (first | refine R1 ?_ | (refine R2 ?_; intro _))
      refine sf_ret (rV ?_)
      simp [e2]
    · repeat (first | refine R1 ?_ | (refine R2 ?_; intro _))
      refine sf_ret (rV ?_)
      simp [e2]
  · simp only [Bool.not_eq_false'] at e1
    have ep : paintOk p = (p.up && (decide (0 ≤ p.ver) && decide (p.ver ≤ 60)) && sceneOk p.scene) := by rw [paintOk, if_pos e1]
    rw [ep]
    repeat (first | refine R1 ?_ | (refine R2 ?_; intro _))
    refine f_splitB (fun e2 => ?_) fun e2 => ?_
    · repeat (first | refine R1 ?_ | (refine R2 ?_; intro _))
      refine fp (y_callV (l6In_v _ _ _ _) (by rfl) ?_)
      repeat (first | refine R1 ?_ | (refine R2 ?_; intro _))
      refine f_splitB (fun e3 => ?_) fun e3 => ?_
      · repeat (first | refine R1 ?_ | (refine R2 ?_; intro _))
        refine fp (y_callV (sSceneOk_v (M := M) _ _ p.scene bs) (by rfl) ?_)
        repeat (first | refine R1 ?_ | (refine R2 ?_; intro _))
        refine sf_ret (rV ?_)
        rw [e2, e3]; rfl
      · repeat (first | refine R1 ?_ | (refine R2 ?_; intro _))
        refine sf_ret (rV ?_)
        rw [e2, e3]; rfl
    · repeat (first | refine R1 ?_ | (refine R2 ?_; intro _))
      refine sf_ret (rV ?_)
      rw [e2]; rfl
end Go.Proofs.YtekjikbaefgncaaGreat

/- Walks: what painters tell: the reference's. -/
namespace Go.Proofs.YtekjikbaefgncaaGreat
open Go Go.Sl
set_option maxRecDepth 100000
set_option maxHeartbeats 4000000
attribute [local irreducible] Go.Code.sf sfOps Opq opo retF Do1 anyO
variable {M : Jdg → Prop} [IsCl Tryz.prog M]

theorem sNoWordO' : (wordR τ).O [] (wordCs noWord (.slice none 0 0) (.slice none 0 0)) noWord := wordO_mk (w := noWord) (Gr.nil _ _) (by decide) (Gr.nil _ _) (by decide)
theorem l21Tell_f (h : PHeap) (ca : List Value) (p : Painter) (b : (painterR τ).B h ca p) (ok : paintOk p = true) (id many : Int) (hid : idOk id many = true) : CallF Tryz.prog M 31 [.agg ca.toArray, .int .i64 id, .int .i64 many] [] h fun u A => ∃ cs, u = .tuple #[.agg cs.toArray, .bool (paintTold p id many).2] ∧ (wordR τ).O A cs (paintTold p id many).1 := by
  obtain ⟨c, l, f, rfl, s1, s2, s3⟩ := painterB b
  have o1 := s1.one
  have o2 := s2.one
  have o3 := s3.one
  simp only [idOk, Bool.and_eq_true, decide_eq_true_eq] at hid
  refine calls_of_sf Tryz.func31 rfl Tryz.ntmps31 ?_
  simp only [argsL, Nat.reduceAdd]
  repeat (first | refine R1 ?_ | (refine R2 ?_; intro _))
  refine sf_cond (by rfl) (fun e1 => ?_) fun e1 => ?_
  · simp only [Bool.not_eq_true'] at e1
    repeat (first | refine R1 ?_ | (refine R2 ?_; intro _))
    rw [paintTold, if_pos e1]
    exact sf_ret (rO [] ⟨_, rfl, sNoWordO'⟩)
  simp only [Bool.not_eq_false'] at e1
  repeat (first | refine R1 ?_ | (refine R2 ?_; intro _))
  refine sf_cond (by rfl) (fun e2 => ?_) fun e2 => ?_
  · simp only [Bool.not_eq_true'] at e2
    repeat (first | refine R1 ?_ | (refine R2 ?_; intro _))
    rw [paintTold, if_neg (by rw [e1]; decide), if_pos e2]
    exact sf_ret (rO [] ⟨wordCs ⟨4, 0, id, 0, noGrid, noEdit, []⟩ (.slice none 0 0) (.slice none 0 0), rfl, wordO_mk (w := ⟨4, 0, id, 0, noGrid, noEdit, []⟩) (Gr.nil _ _) (by simp [noGrid]) (Gr.nil _ _) (by simp)⟩)
  simp only [Bool.not_eq_false'] at e2
  obtain ⟨hup, hv0, hv1, hsc⟩ := paintOk_has ok e2
  obtain ⟨hg, hs⟩ := sceneOk_is hsc
  have kg := gok hg
  have hm := kg.many
  obtain ⟨N, hN⟩ : ∃ N : Nat, manyOf p.scene.grid = N := ⟨(manyOf p.scene.grid).toNat, by omega⟩
  have hll : p.scene.lights.length = N := by rw [hs]; simp only [sceneOf]; rw [picOf_len, hN]; simp
  obtain ⟨i, rfl⟩ : ∃ i : Nat, id = i := ⟨id.toNat, by omega⟩
  obtain ⟨m, rfl⟩ : ∃ m : Nat, many = m := ⟨many.toNat, by omega⟩
  have hres : paintTold p i m = (⟨3, 0, i, p.ver, noGrid, noEdit, ownLights p.scene.lights N m i⟩, true) := by
    rw [paintTold, if_neg (by rw [e1]; decide), if_neg (by rw [e2]; decide), hN]; simp
  rw [hres]
  repeat (first | refine R1 ?_ | (refine R2 ?_; intro _))
  rename_i b3 b6
  refine fp (y_bs (by rfl) (by rfl) (by rfl) (by rfl) (by decide) fun lv0 AL0 gl0 => ?_)
  have ol0 := gl0.one
  repeat (first | refine R1 ?_ | (refine R2 ?_; intro _))
  rename_i b8
  refine fp (y_call (l21Own_f (M := M) _ _ p.scene.grid s1 kg i m (by omega) (by omega) (by omega)) (by rfl) ?_)
  intro w AW gw
  have ow := gw.one
  rw [hN] at gw
  simp only [Int.toNat_natCast] at gw
  have lw := ownList_len N m i
  have hc : ∀ j, j < ownCnt N m i ↔ i - 1 + j * m < N := fun j => ownCnt_lt (by omega) (by omega) (by omega)
  have hln : ownCnt N m i ≤ 20 := by
    rcases Nat.lt_or_ge 20 (ownCnt N m i) with h | h
    · have := (hc 20).1 h
      have : 20 * 1 ≤ 20 * m := Nat.mul_le_mul_left _ (by omega)
      omega
    · exact h
  have hat : ∀ j, j < ownCnt N m i → gt (ownList N m i) j = ((i - 1 + j * m : Nat) : Int) := fun j hj => ownList_at hj
  unfold ownLights
  generalize hxs : ownList N m i = xs at *
  repeat (first | refine R1 ?_ | (refine R2 ?_; intro _))
  refine sf_lp (ι := Nat) [3, 6, 8, 9] (fun x => [(10, .int .i64 (x : Int))]) (fun x O => x ≤ xs.length ∧ ∃ lv A', O = (b8, .cells #[.int .i64 3, .int .i64 0, .int .i64 (i : Int), .int .i64 p.ver, .int .i64 0, .slice none 0 0, .int .i64 0, .int .i64 0, .int .i64 0, lv] 48) :: (A' ++ (AW ++ [(b6, .cells #[.int .i64 0, .int .i64 0, .int .i64 0, .int .i64 0, .int .i64 0, .slice none 0 0, .int .i64 0, .int .i64 0, .int .i64 0, .slice none 0 0] 48), (b3, .cells #[.bool p.up, .bool p.has, .int .i64 p.ver, .int .i64 p.scene.grid.wide, c, l, f] 39)])) ∧ Gr A' lv 3 intF ((xs.take x).map fun k => gt p.scene.lights k.toNat)) (fun x => xs.length - x) 0 ((b8, .cells #[.int .i64 3, .int .i64 0, .int .i64 (i : Int), .int .i64 p.ver, .int .i64 0, .slice none 0 0, .int .i64 0, .int .i64 0, .int .i64 0, lv0] 48) :: (AL0 ++ (AW ++ [(b6, .cells #[.int .i64 0, .int .i64 0, .int .i64 0, .int .i64 0, .int .i64 0, .slice none 0 0, .int .i64 0, .int .i64 0, .int .i64 0, .slice none 0 0] 48), (b3, .cells #[.bool p.up, .bool p.has, .int .i64 p.ver, .int .i64 p.scene.grid.wide, c, l, f] 39)]))) ⟨by omega, _, AL0, rfl, gl0⟩ ?_
  rintro j O ⟨hj, lv, A', rfl, gr⟩
  have o4 := gr.one
  have hlt : ((xs.take j).map fun k => gt p.scene.lights k.toNat).length = j := by rw [List.length_map, List.length_take]; omega
  repeat (first | refine R1 ?_ | (refine R2 ?_; intro _))
  refine sf_if (fun h4 => ?_) fun h4 => ?_
  · have hj4 : j < ownCnt N m i := by omega
    have ha := hat j hj4
    have hb := (hc j).1 hj4
    have hstep : ((xs.take (j + 1)).map fun k => gt p.scene.lights k.toNat) = ((xs.take j).map fun k => gt p.scene.lights k.toNat) ++ [gt p.scene.lights (gt xs j).toNat] := by
      rw [take_succ_gt (by omega), List.map_append]; rfl
    have hz0 : 0 ≤ gt xs j := by omega
    have hz1 : (gt xs j).toNat < p.scene.lights.length := by omega
    repeat (first | refine R1 ?_ | (refine R2 ?_; intro _))
    refine sf_draw (by kernel_rfl) (regX_run [[], [0], [], [2], [2, 3], [], [], [5, 6], [5, 6, 7], [2, 3, 4, 5, 6, 7, 8], [2, 3, 4, 5, 6, 7, 8, 9], [2, 3, 4, 5, 6, 7, 8, 9, 10], [0, 1, 2, 3, 4, 5, 6, 7, 8, 9, 10, 11], [0, 1, 2, 3, 4, 5, 6, 7, 8, 9, 10, 11, 12], [0, 1, 2, 3, 4, 5, 6, 7, 8, 9, 10, 11, 12, 13]] 12 [(0, false), (1, false), (2, false), (3, false), (4, false), (5, false), (6, false), (7, false), (8, false), (9, false), (10, false), (11, true)] (by kernel_rfl) (by kernel_rfl) (by kernel_rfl) ?_)
    repeat (refine Da1 ?_)
    refine a_bs (by rfl) (by rfl) (by infer_instance) (by infer_instance) (by infer_instance) (by infer_instance) (by rfl) (by rfl) (by rfl) (by decide) (.inl rfl) fun u Au gu => ?_
    repeat (refine Da1 ?_)
    (refine a_end (by rfl) (by rfl) ?_; simp only [finA, setL, List.drop_succ_cons, List.drop_zero])
    refine fp (y_append (by rfl) (by rfl) gr gu (fun y _ => FlatOne.one y) (by rfl) (by rfl) (by simp; omega) (by simp; omega) fun lv2 A2 g2 => ?_)
    have o5 := g2.one
    repeat (first | refine R1 ?_ | (refine R2 ?_; intro _))
    exact ⟨j + 1, by omega, ⟨rfl, trivial⟩, rfl, (b8, .cells #[.int .i64 3, .int .i64 0, .int .i64 (i : Int), .int .i64 p.ver, .int .i64 0, .slice none 0 0, .int .i64 0, .int .i64 0, .int .i64 0, lv2] 48) :: (A2 ++ (AW ++ [(b6, .cells #[.int .i64 0, .int .i64 0, .int .i64 0, .int .i64 0, .int .i64 0, .slice none 0 0, .int .i64 0, .int .i64 0, .int .i64 0, .slice none 0 0] 48), (b3, .cells #[.bool p.up, .bool p.has, .int .i64 p.ver, .int .i64 p.scene.grid.wide, c, l, f] 39)])), _, inferInstance, by omega, lv2, A2, rfl, by rw [hstep]; exact g2⟩
  · refine sf_exit ?_
    repeat (first | refine R1 ?_ | (refine R2 ?_; intro _))
    rw [take_ge hj (by omega)] at gr
    refine sf_ret (rO ([] ++ A') ⟨wordCs ⟨3, 0, i, p.ver, noGrid, noEdit, xs.map fun k => gt p.scene.lights k.toNat⟩ (.slice none 0 0) lv, rfl, ?_⟩)
    exact wordO_mk (τ := τ) (w := ⟨3, 0, i, p.ver, noGrid, noEdit, xs.map fun k => gt p.scene.lights k.toNat⟩) (Gr.nil _ _) (by simp [noGrid]) gr (by simp; omega)
theorem sPaintTell_f (h : PHeap) (ca : List Value) (p : Painter) (b : (painterR τ).B h ca p) (id many : Int) : CallF Tryz.prog M 11 [.agg ca.toArray, .int .i64 id, .int .i64 many] [] h fun u A => ∃ cs, u = .tuple #[.agg cs.toArray, .bool (paintTell p id many).2] ∧ (wordR τ).O A cs (paintTell p id many).1 := by
  have b0 := b
  obtain ⟨c, l, f, rfl, s1, s2, s3⟩ := painterB b
  have o1 := s1.one
  have o2 := s2.one
  have o3 := s3.one
  refine calls_of_sf Tryz.func11 rfl Tryz.ntmps11 ?_
  simp only [argsL, Nat.reduceAdd]
  repeat (first | refine R1 ?_ | (refine R2 ?_; intro _))
  refine fp (y_callV (sPaintOk_v (M := M) _ _ p b0) (by rfl) ?_)
  repeat (first | refine R1 ?_ | (refine R2 ?_; intro _))
  refine f_splitB (fun h1 => ?_) fun h1 => ?_
  · have h1' := h1
    simp only [Bool.not_eq_true'] at h1'
    repeat (first | refine R1 ?_ | (refine R2 ?_; intro _))
    refine sf_T rfl ?_
    repeat (first | refine R1 ?_ | (refine R2 ?_; intro _))
    rw [paintTell, if_neg (fun h => by rw [h.1] at h1'; cases h1')]
    exact sf_ret (rO [] ⟨_, rfl, sNoWordO'⟩)
  have h1' := h1
  simp only [Bool.not_eq_false'] at h1'
  repeat (first | refine R1 ?_ | (refine R2 ?_; intro _))
  refine fp (y_callV (l21Id_v _ _ _) (by rfl) ?_)
  repeat (first | refine R1 ?_ | (refine R2 ?_; intro _))
  refine sf_cond (by rfl) (fun h2 => ?_) fun h2 => ?_
  · simp only [Bool.not_eq_true'] at h2
    repeat (first | refine R1 ?_ | (refine R2 ?_; intro _))
    rw [paintTell, if_neg (fun h => by have h3 := h.2; rw [h2] at h3; cases h3)]
    exact sf_ret (rO [] ⟨_, rfl, sNoWordO'⟩)
  · simp only [Bool.not_eq_false'] at h2
    repeat (first | refine R1 ?_ | (refine R2 ?_; intro _))
    refine fp (y_call (l21Tell_f (M := M) _ _ p b0 h1' id many h2) (by rfl) ?_)
    rintro _ A1 ⟨cs, rfl, q⟩
    have q0 := q
    obtain ⟨c2, l2, X1, X2, rfl, rfl, ⟨g1, _⟩, ⟨g2, _⟩⟩ := wordO q
    have o4 := g1.one
    have o5 := g2.one
    repeat (first | refine R1 ?_ | (refine R2 ?_; intro _))
    rw [paintTell, if_pos ⟨h1', h2⟩]
    exact sf_ret (rO (X1 ++ X2) ⟨_, rfl, q0⟩)
end Go.Proofs.YtekjikbaefgncaaGreat

/- Walks: a cell's copy. -/
namespace Go.Proofs.YtekjikbaefgncaaGreat
open Go Go.Sl
set_option maxRecDepth 100000
set_option maxHeartbeats 4000000
attribute [local irreducible] Go.Code.sf sfOps Opq opo retF Do1 anyO
variable {M : Jdg → Prop} [IsCl Tryz.prog M]
theorem toCell_v (h : PHeap) (a b : Int) : CallV Tryz.prog M 73 [.agg #[.int .i64 a, .int .i64 b]] h (.agg #[.int .i64 a, .int .i64 b]) := by
  refine calls_of_sf Tryz.func73 rfl Tryz.ntmps73 ?_
  simp only [argsL, Nat.reduceAdd]
  repeat (first | refine R1 ?_ | (refine R2 ?_; intro _))
  exact sf_ret (rV rfl)
end Go.Proofs.YtekjikbaefgncaaGreat

/- Walks of the laws' copies: toX. -/
namespace Go.Proofs.YtekjikbaefgncaaGreat
open Go Go.Sl
set_option maxRecDepth 100000
set_option maxHeartbeats 4000000
attribute [local irreducible] Go.Code.sf sfOps Opq opo retF Do1 anyO
variable {M : Jdg → Prop} [IsCl Tryz.prog M]

theorem toCellS_f (h : PHeap) (v : Value) (xs : List Cell) (s : Sl h v cellF xs) (hs : xs.length ≤ 1048576) : CallF Tryz.prog M 72 [v] [] h fun v' A => Gr A v' 44 cellF xs := by
  have o1 := s.one
  refine calls_of_sf Tryz.func72 rfl Tryz.ntmps72 ?_
  simp only [argsL, Nat.reduceAdd]
  repeat (first | refine R1 ?_ | (refine R2 ?_; intro _))
  refine fp (y_make (by rfl) (by rfl) (by rfl) (by decide) (by omega) fun w A g => ?_)
  repeat (first | refine R1 ?_ | (refine R2 ?_; intro _))
  refine sf_lp [0, 3] (fun k : Nat => [(4, .int .i64 (k : Int))]) (fun k O => k ≤ xs.length ∧ Gr O w 44 cellF (xs.take k ++ List.replicate (xs.length - k) ⟨0, 0⟩)) (fun k => xs.length - k) 0 A ⟨by omega, by simpa using g⟩ ?_
  rintro k O ⟨hk, g⟩
  repeat (first | refine R1 ?_ | (refine R2 ?_; intro _))
  refine sf_if (fun h4 => ?_) fun h4 => ?_
  · have hk4 : k < xs.length := by omega
    have hl : k < (xs.take k ++ List.replicate (xs.length - k) (⟨0, 0⟩ : Cell)).length := by simp; omega
    repeat (first | refine R1 ?_ | (refine R2 ?_; intro _))
    refine fp (y_callV (toCell_v _ _ _) (by rfl) ?_)
    repeat (first | refine R1 ?_ | (refine R2 ?_; intro _))
    refine fp (y_storeG0 (by rfl) (by rfl) g (by omega) (by rfl) fun A ys ey ly _ g => ?_)
    repeat (first | refine R1 ?_ | (refine R2 ?_; intro _))
    refine ⟨k + 1, by omega, ⟨rfl, trivial⟩, rfl, A, _, inferInstance, by omega, ?_⟩
    rw [← set_step hk4, ← ey]; exact g
  · refine sf_exit ?_
    repeat (first | refine R1 ?_ | (refine R2 ?_; intro _))
    refine sf_ret (rO O ?_)
    have : k = xs.length := by omega
    subst this
    simpa using g
end Go.Proofs.YtekjikbaefgncaaGreat

/- Walks of the exact laws' own helpers: equality. Printed by program. -/
namespace Go.Proofs.YtekjikbaefgncaaGreat
open Go Go.Sl
set_option maxRecDepth 100000
set_option maxHeartbeats 4000000
attribute [local irreducible] Go.Code.sf sfOps Opq opo retF Do1 anyO
variable {M : Jdg → Prop} [IsCl Tryz.prog M]
theorem eqCell_v (h : PHeap) (x y : Cell) : CallV Tryz.prog M 64 [.agg #[.int .i64 x.kind, .int .i64 x.light], .agg #[.int .i64 y.kind, .int .i64 y.light]] h (.bool (decide (x = y))) := by
  refine calls_of_sf Tryz.func64 rfl Tryz.ntmps64 ?_
  simp only [argsL, Nat.reduceAdd]
  repeat (first | refine R1 ?_ | (refine R2 ?_; intro _))
  refine sf_if (fun e1 => ?_) fun e1 => ?_
  · repeat (first | refine R1 ?_ | (refine R2 ?_; intro _))
    exact sf_ret (rV (bF fun e => e1 (by rw [e])))
  repeat (first | refine R1 ?_ | (refine R2 ?_; intro _))
  refine sf_if (fun e2 => ?_) fun e2 => ?_
  · repeat (first | refine R1 ?_ | (refine R2 ?_; intro _))
    exact sf_ret (rV (bF fun e => e2 (by rw [e])))
  repeat (first | refine R1 ?_ | (refine R2 ?_; intro _))
  refine sf_ret (rV (bT ?_))
  cases x; cases y; simp_all
theorem eqEdit_v (h : PHeap) (x y : Edit) : CallV Tryz.prog M 35 [.agg #[.int .i64 x.at', .int .i64 x.cell.kind, .int .i64 x.cell.light], .agg #[.int .i64 y.at', .int .i64 y.cell.kind, .int .i64 y.cell.light]] h (.bool (decide (x = y))) := by
  refine calls_of_sf Tryz.func35 rfl Tryz.ntmps35 ?_
  simp only [argsL, Nat.reduceAdd]
  repeat (first | refine R1 ?_ | (refine R2 ?_; intro _))
  refine sf_if (fun e1 => ?_) fun e1 => ?_
  · repeat (first | refine R1 ?_ | (refine R2 ?_; intro _))
    exact sf_ret (rV (bF fun e => e1 (by rw [e])))
  repeat (first | refine R1 ?_ | (refine R2 ?_; intro _))
  refine fp (y_callV (eqCell_v _ x.cell y.cell) (by rfl) ?_)
  repeat (first | refine R1 ?_ | (refine R2 ?_; intro _))
  refine sf_ifn (fun e2 => ?_) fun e2 => ?_
  · repeat (first | refine R1 ?_ | (refine R2 ?_; intro _))
    exact sf_ret (rV (bF fun e => e2 (by rw [e])))
  repeat (first | refine R1 ?_ | (refine R2 ?_; intro _))
  refine sf_ret (rV (bT ?_))
  cases x; cases y; simp_all
theorem eqIntS_v (h : PHeap) (a b : Value) (xs ys : List Int) (sx : Sl h a intF xs) (sy : Sl h b intF ys) : CallV Tryz.prog M 36 [a, b] h (.bool (decide (xs = ys))) := by
  have o1 := sx.one
  have o2 := sy.one
  have hx := sx.small
  have hy := sy.small
  refine calls_of_sf Tryz.func36 rfl Tryz.ntmps36 ?_
  simp only [argsL, Nat.reduceAdd]
  repeat (first | refine R1 ?_ | (refine R2 ?_; intro _))
  refine sf_if (fun e0 => ?_) fun e0 => ?_
  · repeat (first | refine R1 ?_ | (refine R2 ?_; intro _))
    exact sf_ret (rV (bF fun e => e0 (by rw [e])))
  have hl : xs.length = ys.length := by omega
  repeat (first | refine R1 ?_ | (refine R2 ?_; intro _))
  refine sf_rd [0, 1] 5 xs.length 0 (fun k => xs.take k = ys.take k) (by omega) rfl (fun k hk hi => ?_)
  repeat (first | refine R1 ?_ | (refine R2 ?_; intro _))
  refine sf_if (fun h4 => ?_) fun h4 => ?_
  · have hk4 : k < xs.length := by omega
    have hk5 : k < ys.length := by omega
    repeat (first | refine R1 ?_ | (refine R2 ?_; intro _))
    refine sf_draw (by kernel_rfl) (regX_run [[], [], [0, 1], [0, 1, 2], [], [], [4, 5], [4, 5, 6], [0, 1, 2, 3, 4, 5, 6, 7]] 8 [(0, false), (1, false), (2, false), (3, false), (4, false), (5, false), (6, false), (7, false)] (by kernel_rfl) (by kernel_rfl) (by kernel_rfl) ?_)
    repeat (refine Da1 ?_)
    (refine a_end (by rfl) (by rfl) ?_; simp only [finA, setL, List.drop_succ_cons, List.drop_zero])
    repeat (first | refine R1 ?_ | (refine R2 ?_; intro _))
    refine sf_if (fun e1 => ?_) fun e1 => ?_
    · repeat (first | refine R1 ?_ | (refine R2 ?_; intro _))
      exact sf_ret (rV (bF (eq_at e1)))
    · repeat (first | refine R1 ?_ | (refine R2 ?_; intro _))
      exact ⟨⟨hk4, eq_step hk4 hk5 hi (by simpa using e1)⟩, rfl, rfl, _, inferInstance⟩
  · refine sf_exit ?_
    repeat (first | refine R1 ?_ | (refine R2 ?_; intro _))
    exact sf_ret (rV (bT (eq_end hl (by omega) hi)))
theorem eqCellS_v (h : PHeap) (a b : Value) (xs ys : List Cell) (sx : Sl h a cellF xs) (sy : Sl h b cellF ys) : CallV Tryz.prog M 63 [a, b] h (.bool (decide (xs = ys))) := by
  have o1 := sx.one
  have o2 := sy.one
  have hx := sx.small
  have hy := sy.small
  refine calls_of_sf Tryz.func63 rfl Tryz.ntmps63 ?_
  simp only [argsL, Nat.reduceAdd]
  repeat (first | refine R1 ?_ | (refine R2 ?_; intro _))
  refine sf_if (fun e0 => ?_) fun e0 => ?_
  · repeat (first | refine R1 ?_ | (refine R2 ?_; intro _))
    exact sf_ret (rV (bF fun e => e0 (by rw [e])))
  have hl : xs.length = ys.length := by omega
  repeat (first | refine R1 ?_ | (refine R2 ?_; intro _))
  refine sf_rd [0, 1] 5 xs.length 0 (fun k => xs.take k = ys.take k) (by omega) rfl (fun k hk hi => ?_)
  repeat (first | refine R1 ?_ | (refine R2 ?_; intro _))
  refine sf_if (fun h4 => ?_) fun h4 => ?_
  · have hk4 : k < xs.length := by omega
    have hk5 : k < ys.length := by omega
    repeat (first | refine R1 ?_ | (refine R2 ?_; intro _))
    refine sf_draw (by kernel_rfl) (regX_run [[], [], [0, 1], [0, 1, 2], [], [], [4, 5], [4, 5, 6], [0, 1, 2, 3, 4, 5, 6, 7], [0, 1, 2, 3, 4, 5, 6, 7, 8]] 8 [(0, false), (1, false), (2, false), (3, false), (4, false), (5, false), (6, false), (7, false)] (by kernel_rfl) (by kernel_rfl) (by kernel_rfl) ?_)
    repeat (refine Da1 ?_)
    (refine a_end (by rfl) (by rfl) ?_; simp only [finA, setL, List.drop_succ_cons, List.drop_zero])
    refine fp (y_callV (eqCell_v _ (gt xs k) (gt ys k)) (by rfl) ?_)
    repeat (first | refine R1 ?_ | (refine R2 ?_; intro _))
    refine sf_ifn (fun e1 => ?_) fun e1 => ?_
    · repeat (first | refine R1 ?_ | (refine R2 ?_; intro _))
      exact sf_ret (rV (bF (eq_at e1)))
    · repeat (first | refine R1 ?_ | (refine R2 ?_; intro _))
      exact ⟨⟨hk4, eq_step hk4 hk5 hi (by exact e1)⟩, rfl, rfl, _, inferInstance⟩
  · refine sf_exit ?_
    repeat (first | refine R1 ?_ | (refine R2 ?_; intro _))
    exact sf_ret (rV (bT (eq_end hl (by omega) hi)))
theorem eqGrid_v (h : PHeap) (ca cb : List Value) (x y : Grid) (bx : (gridR τ).B h ca x) (by' : (gridR τ).B h cb y) : CallV Tryz.prog M 34 [.agg ca.toArray, .agg cb.toArray] h (.bool (decide (x = y))) := by
  obtain ⟨v_cells1, rfl, s_cells1⟩ := gridB bx
  have o_v_cells1 := s_cells1.one
  obtain ⟨v_cells2, rfl, s_cells2⟩ := gridB by'
  have o_v_cells2 := s_cells2.one
  refine calls_of_sf Tryz.func34 rfl Tryz.ntmps34 ?_
  simp only [argsL, Nat.reduceAdd]
  repeat (first | refine R1 ?_ | (refine R2 ?_; intro _))
  refine sf_if (fun e1 => ?_) fun e1 => ?_
  · repeat (first | refine R1 ?_ | (refine R2 ?_; intro _))
    exact sf_ret (rV (bF fun e => e1 (by rw [e])))
  repeat (first | refine R1 ?_ | (refine R2 ?_; intro _))
  refine fp (y_callV (eqCellS_v _ _ _ _ _ s_cells1 s_cells2) (by rfl) ?_)
  repeat (first | refine R1 ?_ | (refine R2 ?_; intro _))
  refine sf_ifn (fun e2 => ?_) fun e2 => ?_
  · repeat (first | refine R1 ?_ | (refine R2 ?_; intro _))
    exact sf_ret (rV (bF fun e => e2 (by rw [e])))
  repeat (first | refine R1 ?_ | (refine R2 ?_; intro _))
  refine sf_ret (rV (bT ?_))
  cases x; cases y; simp_all
end Go.Proofs.YtekjikbaefgncaaGreat

/- Walks of the exact laws' own helpers: equality, worlds. Printed by program. -/
namespace Go.Proofs.YtekjikbaefgncaaGreat
open Go Go.Sl
set_option maxRecDepth 100000
set_option maxHeartbeats 4000000
attribute [local irreducible] Go.Code.sf sfOps Opq opo retF Do1 anyO
variable {M : Jdg → Prop} [IsCl Tryz.prog M]
theorem eqIntSS_v (h : PHeap) (a b : Value) (xs ys : List (List Int)) (sx : SlR (intSR τ) h a xs) (sy : SlR (intSR τ) h b ys) : CallV Tryz.prog M 60 [a, b] h (.bool (decide (xs = ys))) := by
  have o1 := sx.one
  have o2 := sy.one
  obtain ⟨rx, sx, bx⟩ := sx
  obtain ⟨ry, sy, by'⟩ := sy
  have lx := bx.len
  have ly := by'.len
  have hx := sx.small
  have hy := sy.small
  refine calls_of_sf Tryz.func60 rfl Tryz.ntmps60 ?_
  simp only [argsL, Nat.reduceAdd]
  repeat (first | refine R1 ?_ | (refine R2 ?_; intro _))
  refine sf_if (fun e0 => ?_) fun e0 => ?_
  · repeat (first | refine R1 ?_ | (refine R2 ?_; intro _))
    exact sf_ret (rV (bF fun e => e0 (by rw [lx, ly, e])))
  have hl : xs.length = ys.length := by omega
  repeat (first | refine R1 ?_ | (refine R2 ?_; intro _))
  refine sf_rd [0, 1] 5 xs.length 0 (fun k => xs.take k = ys.take k) (by omega) rfl (fun k hk hi => ?_)
  repeat (first | refine R1 ?_ | (refine R2 ?_; intro _))
  refine sf_if (fun h4 => ?_) fun h4 => ?_
  · have hk4 : k < xs.length := by omega
    have hk5 : k < ys.length := by omega
    have bx4 := bx.at hk4
    have by4 := by'.at hk5
    have hk6 : k < rx.length := by omega
    have hk7 : k < ry.length := by omega
    obtain ⟨vx, ex, sx4⟩ := bx4
    obtain ⟨vy, ey, sy4⟩ := by4
    haveI : FlatV (rawF (intSR τ).sz) (gt rx k) [vx] := ⟨ex⟩
    haveI : FlatV (rawF (intSR τ).sz) (gt ry k) [vy] := ⟨ey⟩
    repeat (first | refine R1 ?_ | (refine R2 ?_; intro _))
    refine sf_draw (by kernel_rfl) (regX_run [[], [], [0, 1], [0, 1, 2], [], [], [4, 5], [4, 5, 6], [0, 1, 2, 3, 4, 5, 6, 7], [0, 1, 2, 3, 4, 5, 6, 7, 8]] 8 [(0, false), (1, false), (2, false), (3, false), (4, false), (5, false), (6, false), (7, false)] (by kernel_rfl) (by kernel_rfl) (by kernel_rfl) ?_)
    repeat (refine Da1 ?_)
    (refine a_end (by rfl) (by rfl) ?_; simp only [finA, setL, List.drop_succ_cons, List.drop_zero])
    refine fp (y_callV (eqIntS_v _ _ _ _ _ sx4 sy4) (by rfl) ?_)
    repeat (first | refine R1 ?_ | (refine R2 ?_; intro _))
    refine sf_ifn (fun e1 => ?_) fun e1 => ?_
    · repeat (first | refine R1 ?_ | (refine R2 ?_; intro _))
      exact sf_ret (rV (bF (eq_at e1)))
    · repeat (first | refine R1 ?_ | (refine R2 ?_; intro _))
      exact ⟨⟨hk4, eq_step hk4 hk5 hi (by exact e1)⟩, rfl, rfl, _, inferInstance⟩
  · refine sf_exit ?_
    repeat (first | refine R1 ?_ | (refine R2 ?_; intro _))
    exact sf_ret (rV (bT (eq_end hl (by omega) hi)))
theorem eqScene_v (h : PHeap) (ca cb : List Value) (x y : Scene) (bx : (sceneR τ).B h ca x) (by' : (sceneR τ).B h cb y) : CallV Tryz.prog M 29 [.agg ca.toArray, .agg cb.toArray] h (.bool (decide (x = y))) := by
  obtain ⟨v_grid_cells1, v_lights1, v_feet1, rfl, s_grid_cells1, s_lights1, s_feet1⟩ := sceneB bx
  have o_v_grid_cells1 := s_grid_cells1.one
  have o_v_lights1 := s_lights1.one
  have o_v_feet1 := s_feet1.one
  obtain ⟨v_grid_cells2, v_lights2, v_feet2, rfl, s_grid_cells2, s_lights2, s_feet2⟩ := sceneB by'
  have o_v_grid_cells2 := s_grid_cells2.one
  have o_v_lights2 := s_lights2.one
  have o_v_feet2 := s_feet2.one
  refine calls_of_sf Tryz.func29 rfl Tryz.ntmps29 ?_
  simp only [argsL, Nat.reduceAdd]
  repeat (first | refine R1 ?_ | (refine R2 ?_; intro _))
  refine fp (y_callV (eqGrid_v _ _ _ x.grid y.grid (gridB_mk s_grid_cells1) (gridB_mk s_grid_cells2)) (by rfl) ?_)
  repeat (first | refine R1 ?_ | (refine R2 ?_; intro _))
  refine sf_ifn (fun e1 => ?_) fun e1 => ?_
  · repeat (first | refine R1 ?_ | (refine R2 ?_; intro _))
    exact sf_ret (rV (bF fun e => e1 (by rw [e])))
  repeat (first | refine R1 ?_ | (refine R2 ?_; intro _))
  refine fp (y_callV (eqIntS_v _ _ _ _ _ s_lights1 s_lights2) (by rfl) ?_)
  repeat (first | refine R1 ?_ | (refine R2 ?_; intro _))
  refine sf_ifn (fun e2 => ?_) fun e2 => ?_
  · repeat (first | refine R1 ?_ | (refine R2 ?_; intro _))
    exact sf_ret (rV (bF fun e => e2 (by rw [e])))
  repeat (first | refine R1 ?_ | (refine R2 ?_; intro _))
  refine fp (y_callV (eqIntSS_v _ _ _ _ _ s_feet1 s_feet2) (by rfl) ?_)
  repeat (first | refine R1 ?_ | (refine R2 ?_; intro _))
  refine sf_ifn (fun e3 => ?_) fun e3 => ?_
  · repeat (first | refine R1 ?_ | (refine R2 ?_; intro _))
    exact sf_ret (rV (bF fun e => e3 (by rw [e])))
  repeat (first | refine R1 ?_ | (refine R2 ?_; intro _))
  refine sf_ret (rV (bT ?_))
  cases x; cases y; simp_all
theorem eqPainter_v (h : PHeap) (ca cb : List Value) (x y : Painter) (bx : (painterR τ).B h ca x) (by' : (painterR τ).B h cb y) : CallV Tryz.prog M 10 [.agg ca.toArray, .agg cb.toArray] h (.bool (decide (x = y))) := by
  obtain ⟨v_scene_grid_cells1, v_scene_lights1, v_scene_feet1, rfl, s_scene_grid_cells1, s_scene_lights1, s_scene_feet1⟩ := painterB bx
  have o_v_scene_grid_cells1 := s_scene_grid_cells1.one
  have o_v_scene_lights1 := s_scene_lights1.one
  have o_v_scene_feet1 := s_scene_feet1.one
  obtain ⟨v_scene_grid_cells2, v_scene_lights2, v_scene_feet2, rfl, s_scene_grid_cells2, s_scene_lights2, s_scene_feet2⟩ := painterB by'
  have o_v_scene_grid_cells2 := s_scene_grid_cells2.one
  have o_v_scene_lights2 := s_scene_lights2.one
  have o_v_scene_feet2 := s_scene_feet2.one
  refine calls_of_sf Tryz.func10 rfl Tryz.ntmps10 ?_
  simp only [argsL, Nat.reduceAdd]
  repeat (first | refine R1 ?_ | (refine R2 ?_; intro _))
  refine sf_ifn (fun e1 => ?_) fun e1 => ?_
  · repeat (first | refine R1 ?_ | (refine R2 ?_; intro _))
    exact sf_ret (rV (bF fun e => e1 (by rw [e])))
  repeat (first | refine R1 ?_ | (refine R2 ?_; intro _))
  refine sf_ifn (fun e2 => ?_) fun e2 => ?_
  · repeat (first | refine R1 ?_ | (refine R2 ?_; intro _))
    exact sf_ret (rV (bF fun e => e2 (by rw [e])))
  repeat (first | refine R1 ?_ | (refine R2 ?_; intro _))
  refine sf_if (fun e3 => ?_) fun e3 => ?_
  · repeat (first | refine R1 ?_ | (refine R2 ?_; intro _))
    exact sf_ret (rV (bF fun e => e3 (by rw [e])))
  repeat (first | refine R1 ?_ | (refine R2 ?_; intro _))
  refine fp (y_callV (eqScene_v _ _ _ x.scene y.scene (sceneB_mk s_scene_grid_cells1 s_scene_lights1 s_scene_feet1) (sceneB_mk s_scene_grid_cells2 s_scene_lights2 s_scene_feet2)) (by rfl) ?_)
  repeat (first | refine R1 ?_ | (refine R2 ?_; intro _))
  refine sf_ifn (fun e4 => ?_) fun e4 => ?_
  · repeat (first | refine R1 ?_ | (refine R2 ?_; intro _))
    exact sf_ret (rV (bF fun e => e4 (by rw [e])))
  repeat (first | refine R1 ?_ | (refine R2 ?_; intro _))
  refine sf_ret (rV (bT ?_))
  cases x; cases y; simp_all
theorem eqWord_v (h : PHeap) (ca cb : List Value) (x y : Word) (bx : (wordR τ).B h ca x) (by' : (wordR τ).B h cb y) : CallV Tryz.prog M 13 [.agg ca.toArray, .agg cb.toArray] h (.bool (decide (x = y))) := by
  obtain ⟨v_grid_cells1, v_lights1, rfl, s_grid_cells1, s_lights1⟩ := wordB bx
  have o_v_grid_cells1 := s_grid_cells1.one
  have o_v_lights1 := s_lights1.one
  obtain ⟨v_grid_cells2, v_lights2, rfl, s_grid_cells2, s_lights2⟩ := wordB by'
  have o_v_grid_cells2 := s_grid_cells2.one
  have o_v_lights2 := s_lights2.one
  refine calls_of_sf Tryz.func13 rfl Tryz.ntmps13 ?_
  simp only [argsL, Nat.reduceAdd]
  repeat (first | refine R1 ?_ | (refine R2 ?_; intro _))
  refine sf_if (fun e1 => ?_) fun e1 => ?_
  · repeat (first | refine R1 ?_ | (refine R2 ?_; intro _))
    exact sf_ret (rV (bF fun e => e1 (by rw [e])))
  repeat (first | refine R1 ?_ | (refine R2 ?_; intro _))
  refine sf_if (fun e2 => ?_) fun e2 => ?_
  · repeat (first | refine R1 ?_ | (refine R2 ?_; intro _))
    exact sf_ret (rV (bF fun e => e2 (by rw [e])))
  repeat (first | refine R1 ?_ | (refine R2 ?_; intro _))
  refine sf_if (fun e3 => ?_) fun e3 => ?_
  · repeat (first | refine R1 ?_ | (refine R2 ?_; intro _))
    exact sf_ret (rV (bF fun e => e3 (by rw [e])))
  repeat (first | refine R1 ?_ | (refine R2 ?_; intro _))
  refine sf_if (fun e4 => ?_) fun e4 => ?_
  · repeat (first | refine R1 ?_ | (refine R2 ?_; intro _))
    exact sf_ret (rV (bF fun e => e4 (by rw [e])))
  repeat (first | refine R1 ?_ | (refine R2 ?_; intro _))
  refine fp (y_callV (eqGrid_v _ _ _ x.grid y.grid (gridB_mk s_grid_cells1) (gridB_mk s_grid_cells2)) (by rfl) ?_)
  repeat (first | refine R1 ?_ | (refine R2 ?_; intro _))
  refine sf_ifn (fun e5 => ?_) fun e5 => ?_
  · repeat (first | refine R1 ?_ | (refine R2 ?_; intro _))
    exact sf_ret (rV (bF fun e => e5 (by rw [e])))
  repeat (first | refine R1 ?_ | (refine R2 ?_; intro _))
  refine fp (y_callV (eqEdit_v _ x.edit y.edit) (by rfl) ?_)
  repeat (first | refine R1 ?_ | (refine R2 ?_; intro _))
  refine sf_ifn (fun e6 => ?_) fun e6 => ?_
  · repeat (first | refine R1 ?_ | (refine R2 ?_; intro _))
    exact sf_ret (rV (bF fun e => e6 (by rw [e])))
  repeat (first | refine R1 ?_ | (refine R2 ?_; intro _))
  refine fp (y_callV (eqIntS_v _ _ _ _ _ s_lights1 s_lights2) (by rfl) ?_)
  repeat (first | refine R1 ?_ | (refine R2 ?_; intro _))
  refine sf_ifn (fun e7 => ?_) fun e7 => ?_
  · repeat (first | refine R1 ?_ | (refine R2 ?_; intro _))
    exact sf_ret (rV (bF fun e => e7 (by rw [e])))
  repeat (first | refine R1 ?_ | (refine R2 ?_; intro _))
  refine sf_ret (rV (bT ?_))
  cases x; cases y; simp_all
end Go.Proofs.YtekjikbaefgncaaGreat

/- Walks of the exact laws' own helpers: sizes. Printed by program. -/
namespace Go.Proofs.YtekjikbaefgncaaGreat
open Go Go.Sl
set_option maxRecDepth 100000
set_option maxHeartbeats 4000000
attribute [local irreducible] Go.Code.sf sfOps Opq opo retF Do1 anyO
variable {M : Jdg → Prop} [IsCl Tryz.prog M]
attribute [local irreducible] szF
theorem szCellS_v (h : PHeap) (a : Value) (xs : List Cell) (s : Sl h a cellF xs) (left : Int) (h0 : 0 ≤ left) (h1 : left ≤ 1048576) : CallV Tryz.prog M 68 [a, .int .i64 left] h (.int .i64 (szF xs.length left)) := by
  have o1 := s.one
  have hs := s.small
  refine calls_of_sf Tryz.func68 rfl Tryz.ntmps68 ?_
  simp only [argsL, Nat.reduceAdd]
  repeat (first | refine R1 ?_ | (refine R2 ?_; intro _))
  refine sf_if (fun e => ?_) fun e => ?_
  · repeat (first | refine R1 ?_ | (refine R2 ?_; intro _))
    exact sf_ret (rV (by rw [szF_neg e]))
  · repeat (first | refine R1 ?_ | (refine R2 ?_; intro _))
    exact sf_ret (rV (by rw [szF_pos e]))
theorem szGrid_v (h : PHeap) (ca : List Value) (x : Grid) (b : (gridR τ).B h ca x) (left : Int) (h0 : 0 ≤ left) (h1 : left ≤ 1048576) : CallV Tryz.prog M 42 [.agg ca.toArray, .int .i64 left] h (.int .i64 (szF (szGridN x) left)) := by
  obtain ⟨v_cells1, rfl, s_cells1⟩ := gridB b
  have o_v_cells1 := s_cells1.one
  refine calls_of_sf Tryz.func42 rfl Tryz.ntmps42 ?_
  simp only [argsL, Nat.reduceAdd]
  repeat (first | refine R1 ?_ | (refine R2 ?_; intro _))
  refine fp (y_callV (szCellS_v _ _ _ s_cells1 _ h0 h1) (by rfl) ?_)
  repeat (first | refine R1 ?_ | (refine R2 ?_; intro _))
  refine sf_if (fun e1 => ?_) fun e1 => ?_
  · repeat (first | refine R1 ?_ | (refine R2 ?_; intro _))
    refine sf_ret (rV ?_)
    have q := szF_stop (b := 0) e1
    simp only [szGridN, szGridN, szSceneN, Nat.add_assoc, Nat.add_zero] at q ⊢
    rw [q]
  have g1 := szF_ge e1
  have f1 := szF_le (a := x.cells.length) h0
  have b1a : 0 ≤ szF (x.cells.length) (left) := by omega
  have b1b : szF (x.cells.length) (left) ≤ 1048576 := by omega
  repeat (first | refine R1 ?_ | (refine R2 ?_; intro _))
  refine sf_ret (rV ?_)
  first | rfl | simp only [szGridN, szGridN, szSceneN, Nat.add_assoc]
end Go.Proofs.YtekjikbaefgncaaGreat

/- Walks of the exact laws' own helpers: sizes, keepers. Printed by program. -/
namespace Go.Proofs.YtekjikbaefgncaaGreat
open Go Go.Sl
set_option maxRecDepth 100000
set_option maxHeartbeats 4000000
attribute [local irreducible] Go.Code.sf sfOps Opq opo retF Do1 anyO
variable {M : Jdg → Prop} [IsCl Tryz.prog M]
attribute [local irreducible] szF
theorem szIntS_v (h : PHeap) (a : Value) (xs : List Int) (s : Sl h a intF xs) (left : Int) (h0 : 0 ≤ left) (h1 : left ≤ 1048576) : CallV Tryz.prog M 43 [a, .int .i64 left] h (.int .i64 (szF xs.length left)) := by
  have o1 := s.one
  have hs := s.small
  refine calls_of_sf Tryz.func43 rfl Tryz.ntmps43 ?_
  simp only [argsL, Nat.reduceAdd]
  repeat (first | refine R1 ?_ | (refine R2 ?_; intro _))
  refine sf_if (fun e => ?_) fun e => ?_
  · repeat (first | refine R1 ?_ | (refine R2 ?_; intro _))
    exact sf_ret (rV (by rw [szF_neg e]))
  · repeat (first | refine R1 ?_ | (refine R2 ?_; intro _))
    exact sf_ret (rV (by rw [szF_pos e]))
end Go.Proofs.YtekjikbaefgncaaGreat

/- Walks of the exact laws' own helpers: sizes, painters. Printed by program. -/
namespace Go.Proofs.YtekjikbaefgncaaGreat
open Go Go.Sl
set_option maxRecDepth 100000
set_option maxHeartbeats 4000000
attribute [local irreducible] Go.Code.sf sfOps Opq opo retF Do1 anyO
variable {M : Jdg → Prop} [IsCl Tryz.prog M]
attribute [local irreducible] szF
theorem szIntSS_v (h : PHeap) (a : Value) (xs : List (List Int)) (s : SlR (intSR τ) h a xs) (left : Int) (h0 : 0 ≤ left) (h1 : left ≤ 1048576) : CallV Tryz.prog M 51 [a, .int .i64 left] h (.int .i64 (szF (szIntSSN xs) left)) := by
  have o1 := s.one
  obtain ⟨rx, s, b⟩ := s
  have lx := b.len
  have hs := s.small
  refine calls_of_sf Tryz.func51 rfl Tryz.ntmps51 ?_
  simp only [argsL, Nat.reduceAdd]
  repeat (first | refine R1 ?_ | (refine R2 ?_; intro _))
  refine sf_if (fun e => ?_) fun e => ?_
  · repeat (first | refine R1 ?_ | (refine R2 ?_; intro _))
    exact sf_ret (rV (by rw [szIntSSN, szF_stop (a := xs.length) (by rw [← lx, szF_neg e]; decide)]))
  repeat (first | refine R1 ?_ | (refine R2 ?_; intro _))
  refine sf_lp (ι := Nat × Int) [0] (fun x => [(5, .int .i64 (x.1 : Int)), (1, .int .i64 x.2)]) (fun x O => O = [] ∧ x.1 ≤ xs.length ∧ 0 ≤ x.2 ∧ x.2 ≤ 1048576 ∧ szF (szIntSSN xs) left = szF (sizeL List.length (xs.drop x.1)) x.2) (fun x => xs.length - x.1) (0, left - rx.length) [] ⟨rfl, by simp, by simp only; omega, by simp only; omega, ?_⟩ ?_
  · simp only [szIntSSN, List.drop_zero]
    rw [← szF_add (by rw [← lx, szF_pos e]; omega), ← lx, szF_pos e]
  rintro ⟨i, l⟩ O ⟨rfl, hi, hl0, hl1, hinv⟩
  repeat (first | refine R1 ?_ | (refine R2 ?_; intro _))
  refine sf_if (fun h4 => ?_) fun h4 => ?_
  · have hi4 : i < xs.length := by simp only at h4 hi; omega
    have hi5 : i < rx.length := by omega
    have b4 := b.at hi4
    simp only at hinv hl0 hl1
    rw [sizeL_drop hi4] at hinv
    obtain ⟨vx, ex, sx4⟩ := b4
    haveI : FlatV (rawF (intSR τ).sz) (gt rx i) [vx] := ⟨ex⟩
    repeat (first | refine R1 ?_ | (refine R2 ?_; intro _))
    refine fp (y_callV (szIntS_v _ _ _ sx4 _ hl0 hl1) (by rfl) ?_)
    repeat (first | refine R1 ?_ | (refine R2 ?_; intro _))
    have hle := szF_le (a := List.length (gt xs i)) hl0
    refine sf_if (fun e1 => ?_) fun e1 => ?_
    · repeat (first | refine R1 ?_ | (refine R2 ?_; intro _))
      exact sf_ret (rV (by rw [hinv, szF_stop e1]))
    · repeat (first | refine R1 ?_ | (refine R2 ?_; intro _))
      refine ⟨(i + 1, _), by simp only; omega, ⟨rfl, rfl, trivial⟩, rfl, [], _, inferInstance, rfl, by simp only; omega, by simp only; omega, by simp only; omega, ?_⟩
      simp only
      rw [hinv, szF_add e1]
  · refine sf_exit ?_
    repeat (first | refine R1 ?_ | (refine R2 ?_; intro _))
    refine sf_ret (rV ?_)
    have : i = xs.length := by simp only at h4 hi; omega
    simp only at hinv hl0
    rw [hinv, this, List.drop_length]
    simp only [sizeL]
    rw [szF_pos (by simp; omega)]; simp
theorem szScene_v (h : PHeap) (ca : List Value) (x : Scene) (b : (sceneR τ).B h ca x) (left : Int) (h0 : 0 ≤ left) (h1 : left ≤ 1048576) : CallV Tryz.prog M 22 [.agg ca.toArray, .int .i64 left] h (.int .i64 (szF (szSceneN x) left)) := by
  obtain ⟨v_grid_cells1, v_lights1, v_feet1, rfl, s_grid_cells1, s_lights1, s_feet1⟩ := sceneB b
  have o_v_grid_cells1 := s_grid_cells1.one
  have o_v_lights1 := s_lights1.one
  have o_v_feet1 := s_feet1.one
  refine calls_of_sf Tryz.func22 rfl Tryz.ntmps22 ?_
  simp only [argsL, Nat.reduceAdd]
  repeat (first | refine R1 ?_ | (refine R2 ?_; intro _))
  refine fp (y_callV (szGrid_v _ _ x.grid (gridB_mk s_grid_cells1) _ h0 h1) (by rfl) ?_)
  repeat (first | refine R1 ?_ | (refine R2 ?_; intro _))
  refine sf_if (fun e1 => ?_) fun e1 => ?_
  · repeat (first | refine R1 ?_ | (refine R2 ?_; intro _))
    refine sf_ret (rV ?_)
    have q := szF_stop (b := x.lights.length + (szIntSSN x.feet)) e1
    simp only [szSceneN, szGridN, szSceneN, Nat.add_assoc, Nat.add_zero] at q ⊢
    rw [q]
  have g1 := szF_ge e1
  have f1 := szF_le (a := szGridN x.grid) h0
  have b1a : 0 ≤ szF (szGridN x.grid) (left) := by omega
  have b1b : szF (szGridN x.grid) (left) ≤ 1048576 := by omega
  repeat (first | refine R1 ?_ | (refine R2 ?_; intro _))
  refine fp (y_callV (szIntS_v _ _ _ s_lights1 _ b1a b1b) (by rfl) ?_)
  repeat (first | refine R1 ?_ | (refine R2 ?_; intro _))
  refine sf_if (fun e2 => ?_) fun e2 => ?_
  · repeat (first | refine R1 ?_ | (refine R2 ?_; intro _))
    refine sf_ret (rV ?_)
    have q := szF_stop (b := szIntSSN x.feet) e2
    rw [szF_add e1] at q
    simp only [szSceneN, szGridN, szSceneN, Nat.add_assoc, Nat.add_zero] at q ⊢
    rw [q]
  have g2 := szF_ge e2
  have f2 := szF_le (a := x.lights.length) b1a
  have b2a : 0 ≤ szF (x.lights.length) (szF (szGridN x.grid) (left)) := by omega
  have b2b : szF (x.lights.length) (szF (szGridN x.grid) (left)) ≤ 1048576 := by omega
  repeat (first | refine R1 ?_ | (refine R2 ?_; intro _))
  refine fp (y_callV (szIntSS_v _ _ _ s_feet1 _ b2a b2b) (by rfl) ?_)
  repeat (first | refine R1 ?_ | (refine R2 ?_; intro _))
  refine sf_if (fun e3 => ?_) fun e3 => ?_
  · repeat (first | refine R1 ?_ | (refine R2 ?_; intro _))
    refine sf_ret (rV ?_)
    have q := szF_stop (b := 0) e3
    rw [szF_add e2] at q
    rw [szF_add e1] at q
    simp only [szSceneN, szGridN, szSceneN, Nat.add_assoc, Nat.add_zero] at q ⊢
    rw [q]
  have g3 := szF_ge e3
  have f3 := szF_le (a := szIntSSN x.feet) b2a
  have b3a : 0 ≤ szF (szIntSSN x.feet) (szF (x.lights.length) (szF (szGridN x.grid) (left))) := by omega
  have b3b : szF (szIntSSN x.feet) (szF (x.lights.length) (szF (szGridN x.grid) (left))) ≤ 1048576 := by omega
  repeat (first | refine R1 ?_ | (refine R2 ?_; intro _))
  refine sf_ret (rV ?_)
  rw [szF_add e2, szF_add e1]
  first | rfl | simp only [szSceneN, szGridN, szSceneN, Nat.add_assoc]
theorem szPainter_v (h : PHeap) (ca : List Value) (x : Painter) (b : (painterR τ).B h ca x) (left : Int) (h0 : 0 ≤ left) (h1 : left ≤ 1048576) : CallV Tryz.prog M 6 [.agg ca.toArray, .int .i64 left] h (.int .i64 (szF (szPainterN x) left)) := by
  obtain ⟨v_scene_grid_cells1, v_scene_lights1, v_scene_feet1, rfl, s_scene_grid_cells1, s_scene_lights1, s_scene_feet1⟩ := painterB b
  have o_v_scene_grid_cells1 := s_scene_grid_cells1.one
  have o_v_scene_lights1 := s_scene_lights1.one
  have o_v_scene_feet1 := s_scene_feet1.one
  refine calls_of_sf Tryz.func6 rfl Tryz.ntmps6 ?_
  simp only [argsL, Nat.reduceAdd]
  repeat (first | refine R1 ?_ | (refine R2 ?_; intro _))
  refine fp (y_callV (szScene_v _ _ x.scene (sceneB_mk s_scene_grid_cells1 s_scene_lights1 s_scene_feet1) _ h0 h1) (by rfl) ?_)
  repeat (first | refine R1 ?_ | (refine R2 ?_; intro _))
  refine sf_if (fun e1 => ?_) fun e1 => ?_
  · repeat (first | refine R1 ?_ | (refine R2 ?_; intro _))
    refine sf_ret (rV ?_)
    have q := szF_stop (b := 0) e1
    simp only [szPainterN, szGridN, szSceneN, Nat.add_assoc, Nat.add_zero] at q ⊢
    rw [q]
  have g1 := szF_ge e1
  have f1 := szF_le (a := szSceneN x.scene) h0
  have b1a : 0 ≤ szF (szSceneN x.scene) (left) := by omega
  have b1b : szF (szSceneN x.scene) (left) ≤ 1048576 := by omega
  repeat (first | refine R1 ?_ | (refine R2 ?_; intro _))
  refine sf_ret (rV ?_)
  first | rfl | simp only [szPainterN, szGridN, szSceneN, Nat.add_assoc]
end Go.Proofs.YtekjikbaefgncaaGreat

/- Walks of the exact laws' own helpers: copies. Printed by program. -/
namespace Go.Proofs.YtekjikbaefgncaaGreat
open Go Go.Sl
set_option maxRecDepth 100000
set_option maxHeartbeats 4000000
attribute [local irreducible] Go.Code.sf sfOps Opq opo retF Do1 anyO
variable {M : Jdg → Prop} [IsCl Tryz.prog M]
theorem toGrid_f (h : PHeap) (ca : List Value) (x : Grid) (b : (gridR τ).B h ca x) (hs : szGridN x ≤ 1048576) : CallF Tryz.prog M 46 [.agg ca.toArray] [] h fun v A => ∃ cs, v = .agg cs.toArray ∧ (gridR τ).O A cs x := by
  obtain ⟨v_cells1, rfl, s_cells1⟩ := gridB b
  have o_v_cells1 := s_cells1.one
  have hz : szGridN x = x.cells.length := rfl
  refine calls_of_sf Tryz.func46 rfl Tryz.ntmps46 ?_
  simp only [argsL, Nat.reduceAdd]
  repeat (first | refine R1 ?_ | (refine R2 ?_; intro _))
  refine fp (y_call (toCellS_f _ _ _ s_cells1 (by omega)) (by rfl) fun w1 K1 g1 => ?_)
  have o1 := g1.one
  repeat (first | refine R1 ?_ | (refine R2 ?_; intro _))
  exact sf_ret (rO K1 ⟨_, rfl, gridO_mk g1 (by omega)⟩)
end Go.Proofs.YtekjikbaefgncaaGreat

/- Walks of the exact laws' own helpers: copies, keepers. Printed by program. -/
namespace Go.Proofs.YtekjikbaefgncaaGreat
open Go Go.Sl
set_option maxRecDepth 100000
set_option maxHeartbeats 4000000
attribute [local irreducible] Go.Code.sf sfOps Opq opo retF Do1 anyO
variable {M : Jdg → Prop} [IsCl Tryz.prog M]
theorem toIntS_f (h : PHeap) (v : Value) (xs : List Int) (s : Sl h v intF xs) (hs : xs.length ≤ 1048576) : CallF Tryz.prog M 48 [v] [] h fun v' A => Gr A v' 3 intF xs := by
  have o1 := s.one
  refine calls_of_sf Tryz.func48 rfl Tryz.ntmps48 ?_
  simp only [argsL, Nat.reduceAdd]
  repeat (first | refine R1 ?_ | (refine R2 ?_; intro _))
  refine fp (y_make (by rfl) (by rfl) (by rfl) (by decide) (by omega) fun w A g => ?_)
  repeat (first | refine R1 ?_ | (refine R2 ?_; intro _))
  refine sf_lp [0, 3] (fun k : Nat => [(4, .int .i64 (k : Int))]) (fun k O => k ≤ xs.length ∧ Gr O w 3 intF (xs.take k ++ List.replicate (xs.length - k) 0)) (fun k => xs.length - k) 0 A ⟨by omega, by simpa using g⟩ ?_
  rintro k O ⟨hk, g⟩
  repeat (first | refine R1 ?_ | (refine R2 ?_; intro _))
  refine sf_if (fun h4 => ?_) fun h4 => ?_
  · have hk4 : k < xs.length := by omega
    have hl : k < (xs.take k ++ List.replicate (xs.length - k) (0 : Int)).length := by simp; omega
    repeat (first | refine R1 ?_ | (refine R2 ?_; intro _))
    refine fp (y_storeG0 (by rfl) (by rfl) g (by omega) (by rfl) fun A ys ey ly _ g => ?_)
    repeat (first | refine R1 ?_ | (refine R2 ?_; intro _))
    refine ⟨k + 1, by omega, ⟨rfl, trivial⟩, rfl, A, _, inferInstance, by omega, ?_⟩
    rw [← set_step hk4]; first | exact ey ▸ g | (rw [ey] at g; exact g)
  · refine sf_exit ?_
    repeat (first | refine R1 ?_ | (refine R2 ?_; intro _))
    refine sf_ret (rO O ?_)
    have : k = xs.length := by omega
    subst this
    simpa using g
theorem toEdit_v (h : PHeap) (x : Edit) : CallV Tryz.prog M 47 [.agg #[.int .i64 x.at', .int .i64 x.cell.kind, .int .i64 x.cell.light]] h (.agg #[.int .i64 x.at', .int .i64 x.cell.kind, .int .i64 x.cell.light]) := by
  refine calls_of_sf Tryz.func47 rfl Tryz.ntmps47 ?_
  simp only [argsL, Nat.reduceAdd]
  repeat (first | refine R1 ?_ | (refine R2 ?_; intro _))
  refine fp (y_callV (toCell_v _ _ _) (by rfl) ?_)
  repeat (first | refine R1 ?_ | (refine R2 ?_; intro _))
  exact sf_ret (rV rfl)
end Go.Proofs.YtekjikbaefgncaaGreat

/- Walks of the exact laws' own helpers: copies, painters. Printed by program. -/
namespace Go.Proofs.YtekjikbaefgncaaGreat
open Go Go.Sl
set_option maxRecDepth 100000
set_option maxHeartbeats 4000000
attribute [local irreducible] Go.Code.sf sfOps Opq opo retF Do1 anyO
variable {M : Jdg → Prop} [IsCl Tryz.prog M]
instance elemF_ints_XtP : ElemF Tryz.prog 25 (rawF (intSR τ).sz) := ⟨trivial⟩
theorem toIntSS_f (h : PHeap) (v : Value) (xs : List (List Int)) (s : SlR (intSR τ) h v xs) (hs : szIntSSN xs ≤ 1048576) : CallF Tryz.prog M 54 [v] [] h fun v' A => GrR (intSR τ) A v' 25 xs := by
  have o1 := s.one
  obtain ⟨rx, s, b⟩ := s
  have lx := b.len
  have hz : szIntSSN xs = xs.length + sizeL List.length xs := rfl
  refine calls_of_sf Tryz.func54 rfl Tryz.ntmps54 ?_
  simp only [argsL, Nat.reduceAdd]
  repeat (first | refine R1 ?_ | (refine R2 ?_; intro _))
  refine fp (y_make (by rfl) (by rfl) (by rfl) (by decide) (by omega) fun w A g => ?_)
  repeat (first | refine R1 ?_ | (refine R2 ?_; intro _))
  refine sf_lp [0, 3] (fun k : Nat => [(4, .int .i64 (k : Int))]) (fun k O => k ≤ xs.length ∧ ∃ A0 A1 rs, O = A0 ++ A1 ∧ rs.length = k ∧ Gr A0 w 25 (rawF (intSR τ).sz) (rs ++ List.replicate (xs.length - k) ⟨[.slice none 0 0], rfl⟩) ∧ OAll (intSR τ) A1 rs (xs.take k)) (fun k => xs.length - k) 0 A ⟨by omega, A, [], [], by simp, rfl, by simpa [lx] using g, by simpa using OAll.nil⟩ ?_
  clear g A
  rintro k O ⟨hk, A0, A1, rs, rfl, hr, g, oa⟩
  repeat (first | refine R1 ?_ | (refine R2 ?_; intro _))
  refine sf_if (fun h4 => ?_) fun h4 => ?_
  · have hk4 : k < xs.length := by omega
    have hk5 : k < rx.length := by omega
    have b4 := b.at hk4
    have hsz := sizeL_at (f := List.length) hk4
    have hl : k < (rs ++ List.replicate (xs.length - k) (⟨[.slice none 0 0], rfl⟩ : Raw (intSR τ).sz)).length := by simp; omega
    obtain ⟨vx, ex, sx4⟩ := b4
    haveI : FlatV (rawF (intSR τ).sz) (gt rx k) [vx] := ⟨ex⟩
    repeat (first | refine R1 ?_ | (refine R2 ?_; intro _))
    refine fp (y_call (toIntS_f _ _ _ sx4 (by omega)) (by rfl) fun u K gu => ?_)
    have ou := gu.one
    repeat (first | refine R1 ?_ | (refine R2 ?_; intro _))
    refine fp (y_storeG0 (by rfl) (by rfl) g (by omega) (by rfl) fun A2 ys ey ly _ g2 => ?_)
    repeat (first | refine R1 ?_ | (refine R2 ?_; intro _))
    refine ⟨k + 1, by omega, ⟨rfl, trivial⟩, rfl, A2 ++ (A1 ++ K), _, inferInstance, by omega, A2, A1 ++ K, rs ++ [⟨[u], rfl⟩], rfl, by simp [hr], ?_, ?_⟩
    · rw [← raw_step hr hk4]; first | exact ey ▸ g2 | (rw [ey] at g2; exact g2)
    · rw [take_succ_gt hk4]; exact oa.snoc ⟨u, rfl, gu, by omega⟩
  · refine sf_exit ?_
    repeat (first | refine R1 ?_ | (refine R2 ?_; intro _))
    have : k = xs.length := by omega
    subst this
    refine sf_ret (rO (A0 ++ A1) ⟨A0, A1, rfl, rs, by simpa using g, by simpa using oa, by omega⟩)
theorem toScene_f (h : PHeap) (ca : List Value) (x : Scene) (b : (sceneR τ).B h ca x) (hs : szSceneN x ≤ 1048576) : CallF Tryz.prog M 26 [.agg ca.toArray] [] h fun v A => ∃ cs, v = .agg cs.toArray ∧ (sceneR τ).O A cs x := by
  obtain ⟨v_grid_cells1, v_lights1, v_feet1, rfl, s_grid_cells1, s_lights1, s_feet1⟩ := sceneB b
  have o_v_grid_cells1 := s_grid_cells1.one
  have o_v_lights1 := s_lights1.one
  have o_v_feet1 := s_feet1.one
  have hz : szSceneN x = szGridN x.grid + x.lights.length + szIntSSN x.feet := rfl
  refine calls_of_sf Tryz.func26 rfl Tryz.ntmps26 ?_
  simp only [argsL, Nat.reduceAdd]
  repeat (first | refine R1 ?_ | (refine R2 ?_; intro _))
  refine fp (y_call (toGrid_f _ _ x.grid (gridB_mk s_grid_cells1) (by simp only [szGridN] at hz ⊢; omega)) (by rfl) ?_)
  rintro _ K1 ⟨_, rfl, q1⟩
  obtain ⟨u1_v_cells, rfl, h1_v_cells, l1_v_cells⟩ := gridO q1
  have oo1_v_cells := h1_v_cells.one
  repeat (first | refine R1 ?_ | (refine R2 ?_; intro _))
  refine fp (y_call (toIntS_f _ _ _ s_lights1 (by omega)) (by rfl) fun w2 K2 g2 => ?_)
  have o2 := g2.one
  repeat (first | refine R1 ?_ | (refine R2 ?_; intro _))
  refine fp (y_call (toIntSS_f _ _ _ s_feet1 (by omega)) (by rfl) fun w3 K3 g3 => ?_)
  have o3 := g3.one
  repeat (first | refine R1 ?_ | (refine R2 ?_; intro _))
  exact sf_ret (rO (K1 ++ (K2 ++ (K3))) ⟨_, rfl, sceneO_mk h1_v_cells l1_v_cells g2 (by omega) g3⟩)
theorem toPainter_f (h : PHeap) (ca : List Value) (x : Painter) (b : (painterR τ).B h ca x) (hs : szPainterN x ≤ 1048576) : CallF Tryz.prog M 8 [.agg ca.toArray] [] h fun v A => ∃ cs, v = .agg cs.toArray ∧ (painterR τ).O A cs x := by
  obtain ⟨v_scene_grid_cells1, v_scene_lights1, v_scene_feet1, rfl, s_scene_grid_cells1, s_scene_lights1, s_scene_feet1⟩ := painterB b
  have o_v_scene_grid_cells1 := s_scene_grid_cells1.one
  have o_v_scene_lights1 := s_scene_lights1.one
  have o_v_scene_feet1 := s_scene_feet1.one
  have hz : szPainterN x = szSceneN x.scene := rfl
  refine calls_of_sf Tryz.func8 rfl Tryz.ntmps8 ?_
  simp only [argsL, Nat.reduceAdd]
  repeat (first | refine R1 ?_ | (refine R2 ?_; intro _))
  refine fp (y_call (toScene_f _ _ x.scene (sceneB_mk s_scene_grid_cells1 s_scene_lights1 s_scene_feet1) (by omega)) (by rfl) ?_)
  rintro _ K1 ⟨_, rfl, q1⟩
  obtain ⟨u1_v_grid_cells, u1_v_lights, u1_v_feet, J1_v_grid_cells, J1_v_lights, J1_v_feet, rfl, rfl, ⟨h1_v_grid_cells, l1_v_grid_cells⟩, ⟨h1_v_lights, l1_v_lights⟩, h1_v_feet⟩ := sceneO q1
  have oo1_v_grid_cells := h1_v_grid_cells.one
  have oo1_v_lights := h1_v_lights.one
  have oo1_v_feet := h1_v_feet.one
  repeat (first | refine R1 ?_ | (refine R2 ?_; intro _))
  exact sf_ret (rO (J1_v_grid_cells ++ (J1_v_lights ++ (J1_v_feet))) ⟨_, rfl, painterO_mk h1_v_grid_cells l1_v_grid_cells h1_v_lights l1_v_lights h1_v_feet⟩)
end Go.Proofs.YtekjikbaefgncaaGreat

/- Walks of the exact laws' own helpers: marks that are found again. Printed by program. -/
namespace Go.Proofs.YtekjikbaefgncaaGreat
open Go Go.Sl
set_option maxRecDepth 100000
set_option maxHeartbeats 4000000
attribute [local irreducible] Go.Code.sf sfOps Opq opo retF Do1 anyO
variable {M : Jdg → Prop} [IsCl Tryz.prog M]
theorem heldIntS_v (h : PHeap) (a : Value) (xs : List Int) (s : Sl h a intF xs) (k : Int) (h0 : 0 ≤ k) (h1 : k + cIntS xs ≤ 4611686018427387904) : CallV Tryz.prog M 41 [a, .int .i64 k] h (.int .i64 (heldIntS xs k)) := by
  have o1 := s.one
  have hs := s.small
  refine calls_of_sf Tryz.func41 rfl Tryz.ntmps41 ?_
  simp only [argsL, Nat.reduceAdd]
  repeat (first | refine R1 ?_ | (refine R2 ?_; intro _))
  refine sf_lp (ι := Nat × Int) [0] (fun x => [(5, .int .i64 (x.1 : Int)), (1, .int .i64 x.2)]) (fun x O => O = [] ∧ x.1 ≤ xs.length ∧ 0 ≤ x.2 ∧ x.2 + sizeL (fun _ => 1) (xs.drop x.1) ≤ 4611686018427387904 ∧ heldIntS xs k = hL heldInt (xs.drop x.1) x.2) (fun x => xs.length - x.1) (0, k) [] ⟨rfl, by simp, h0, h1, rfl⟩ ?_
  rintro ⟨i, kk⟩ O ⟨rfl, hi, hk0, hk1, hinv⟩
  simp only at hi hk0 hk1 hinv ⊢
  repeat (first | refine R1 ?_ | (refine R2 ?_; intro _))
  refine sf_if (fun h4 => ?_) fun h4 => ?_
  · have hi4 : i < xs.length := by omega
    rw [hL_drop hi4] at hinv
    rw [sizeL_drop hi4] at hk1
    repeat (first | refine R1 ?_ | (refine R2 ?_; intro _))
    refine sf_if (fun e1 => ?_) fun e1 => ?_
    · repeat (first | refine R1 ?_ | (refine R2 ?_; intro _))
      refine sf_ret (rV ?_)
      rw [hinv]
      simp only [heldInt, hI, id]
      simp_all
    repeat (first | refine R1 ?_ | (refine R2 ?_; intro _))
    have key : heldInt (gt xs i) kk = kk + 1 := by
      simp only [ne_eq, Decidable.not_not] at e1
      simp only [heldInt, hI, id, e1, if_true]
    rw [key, if_neg (by omega)] at hinv
    exact ⟨(i + 1, _), by simp only; omega, ⟨rfl, rfl, trivial⟩, rfl, [], _, inferInstance, rfl, by simp only; omega, by simp only; omega, by simp only; omega, hinv⟩
  · refine sf_exit ?_
    repeat (first | refine R1 ?_ | (refine R2 ?_; intro _))
    refine sf_ret (rV ?_)
    have : i = xs.length := by omega
    rw [hinv, this, List.drop_length]
    rfl
theorem heldCellS_v (h : PHeap) (a : Value) (xs : List Cell) (s : Sl h a cellF xs) (k : Int) (h0 : 0 ≤ k) (h1 : k + cCellS xs ≤ 4611686018427387904) : CallV Tryz.prog M 67 [a, .int .i64 k] h (.int .i64 (heldCellS xs k)) := by
  have o1 := s.one
  have hs := s.small
  refine calls_of_sf Tryz.func67 rfl Tryz.ntmps67 ?_
  simp only [argsL, Nat.reduceAdd]
  repeat (first | refine R1 ?_ | (refine R2 ?_; intro _))
  refine sf_lp (ι := Nat × Int) [0] (fun x => [(5, .int .i64 (x.1 : Int)), (1, .int .i64 x.2)]) (fun x O => O = [] ∧ x.1 ≤ xs.length ∧ 0 ≤ x.2 ∧ x.2 + sizeL (fun _ => 2) (xs.drop x.1) ≤ 4611686018427387904 ∧ heldCellS xs k = hL heldCell (xs.drop x.1) x.2) (fun x => xs.length - x.1) (0, k) [] ⟨rfl, by simp, h0, h1, rfl⟩ ?_
  rintro ⟨i, kk⟩ O ⟨rfl, hi, hk0, hk1, hinv⟩
  simp only at hi hk0 hk1 hinv ⊢
  repeat (first | refine R1 ?_ | (refine R2 ?_; intro _))
  refine sf_if (fun h4 => ?_) fun h4 => ?_
  · have hi4 : i < xs.length := by omega
    rw [hL_drop hi4] at hinv
    rw [sizeL_drop hi4] at hk1
    repeat (first | refine R1 ?_ | (refine R2 ?_; intro _))
    refine sf_if (fun e1 => ?_) fun e1 => ?_
    · repeat (first | refine R1 ?_ | (refine R2 ?_; intro _))
      refine sf_ret (rV ?_)
      rw [hinv]
      simp only [heldCell, hI, id]
      simp_all
    repeat (first | refine R1 ?_ | (refine R2 ?_; intro _))
    refine sf_if (fun e2 => ?_) fun e2 => ?_
    · repeat (first | refine R1 ?_ | (refine R2 ?_; intro _))
      refine sf_ret (rV ?_)
      rw [hinv]
      simp only [heldCell, hI, id]
      simp_all
    repeat (first | refine R1 ?_ | (refine R2 ?_; intro _))
    have key : heldCell (gt xs i) kk = kk + 1 + 1 := by
      simp only [ne_eq, Decidable.not_not] at e1 e2
      simp only [heldCell, hI, id, e1, e2, if_true]
    rw [key, if_neg (by omega)] at hinv
    exact ⟨(i + 1, _), by simp only; omega, ⟨rfl, rfl, trivial⟩, rfl, [], _, inferInstance, rfl, by simp only; omega, by simp only; omega, by simp only; omega, hinv⟩
  · refine sf_exit ?_
    repeat (first | refine R1 ?_ | (refine R2 ?_; intro _))
    refine sf_ret (rV ?_)
    have : i = xs.length := by omega
    rw [hinv, this, List.drop_length]
    rfl
theorem heldGrid_v (h : PHeap) (ca : List Value) (x : Grid) (b : (gridR τ).B h ca x) (k : Int) (h0 : 0 ≤ k) (h1 : k + cGrid x ≤ 4611686018427387904) : CallV Tryz.prog M 40 [.agg ca.toArray, .int .i64 k] h (.int .i64 (heldGrid x k)) := by
  obtain ⟨v_cells1, rfl, s_cells1⟩ := gridB b
  have o_v_cells1 := s_cells1.one
  have hc : cGrid x = cCellS x.cells := rfl
  refine calls_of_sf Tryz.func40 rfl Tryz.ntmps40 ?_
  simp only [argsL, Nat.reduceAdd]
  repeat (first | refine R1 ?_ | (refine R2 ?_; intro _))
  refine fp (y_callV (heldCellS_v _ _ _ s_cells1 (k) (by omega) (by omega)) (by rfl) ?_)
  repeat (first | refine R1 ?_ | (refine R2 ?_; intro _))
  refine sf_if (fun q1 => ?_) fun q1 => ?_
  · repeat (first | refine R1 ?_ | (refine R2 ?_; intro _))
    refine sf_ret (rV ?_)
    simp only [heldGrid, hS, hN, q1, if_true, if_false]
  have b1 : k ≤ heldCellS x.cells (k) ∧ heldCellS x.cells (k) ≤ k + cCellS x.cells := by rcases bdCellS x.cells (k) (by omega) with z | z <;> omega
  repeat (first | refine R1 ?_ | (refine R2 ?_; intro _))
  refine sf_ret (rV ?_)
  simp only [heldGrid, hS, hN, q1, if_true, if_false]
end Go.Proofs.YtekjikbaefgncaaGreat

/- Walks of the exact laws' own helpers: marks that are found again, worlds. Printed by program. -/
namespace Go.Proofs.YtekjikbaefgncaaGreat
open Go Go.Sl
set_option maxRecDepth 100000
set_option maxHeartbeats 4000000
attribute [local irreducible] Go.Code.sf sfOps Opq opo retF Do1 anyO
variable {M : Jdg → Prop} [IsCl Tryz.prog M]
theorem heldIntSS_v (h : PHeap) (a : Value) (xs : List (List Int)) (s : SlR (intSR τ) h a xs) (k : Int) (h0 : 0 ≤ k) (h1 : k + cIntSS xs ≤ 4611686018427387904) : CallV Tryz.prog M 77 [a, .int .i64 k] h (.int .i64 (heldIntSS xs k)) := by
  have o1 := s.one
  obtain ⟨rx, s, b⟩ := s
  have lx := b.len
  have hs := s.small
  refine calls_of_sf Tryz.func77 rfl Tryz.ntmps77 ?_
  simp only [argsL, Nat.reduceAdd]
  repeat (first | refine R1 ?_ | (refine R2 ?_; intro _))
  refine sf_lp (ι := Nat × Int) [0] (fun x => [(5, .int .i64 (x.1 : Int)), (1, .int .i64 x.2)]) (fun x O => O = [] ∧ x.1 ≤ xs.length ∧ 0 ≤ x.2 ∧ x.2 + sizeL cIntS (xs.drop x.1) ≤ 4611686018427387904 ∧ heldIntSS xs k = hL (fun x => hN (heldIntS x)) (xs.drop x.1) x.2) (fun x => xs.length - x.1) (0, k) [] ⟨rfl, by simp, h0, h1, rfl⟩ ?_
  rintro ⟨i, kk⟩ O ⟨rfl, hi, hk0, hk1, hinv⟩
  simp only at hi hk0 hk1 hinv ⊢
  repeat (first | refine R1 ?_ | (refine R2 ?_; intro _))
  refine sf_if (fun h4 => ?_) fun h4 => ?_
  · have hi4 : i < xs.length := by omega
    have hi5 : i < rx.length := by omega
    rw [hL_drop hi4] at hinv
    rw [sizeL_drop hi4] at hk1
    have b4 := b.at hi4
    obtain ⟨v_1, ex, s_1⟩ := b4
    haveI : FlatV (rawF (intSR τ).sz) (gt rx i) [v_1] := ⟨ex⟩
    have cb : sizeL cIntS (xs.drop (i + 1)) ≥ 0 := Nat.zero_le _
    repeat (first | refine R1 ?_ | (refine R2 ?_; intro _))
    refine fp (y_callV (heldIntS_v _ _ _ s_1 (kk) (by omega) (by omega)) (by rfl) ?_)
    repeat (first | refine R1 ?_ | (refine R2 ?_; intro _))
    refine sf_if (fun q1 => ?_) fun q1 => ?_
    · repeat (first | refine R1 ?_ | (refine R2 ?_; intro _))
      refine sf_ret (rV ?_)
      have key : hN (heldIntS (gt xs i)) kk = -1 := by simp only [hB, hI, hN, hS, q1, if_true, if_false]
      rw [hinv, key]; rfl
    have b1 : kk ≤ heldIntS (gt xs i) (kk) ∧ heldIntS (gt xs i) (kk) ≤ kk + cIntS (gt xs i) := by rcases bdIntS (gt xs i) (kk) (by omega) with z | z <;> omega
    repeat (first | refine R1 ?_ | (refine R2 ?_; intro _))
    have key : hN (heldIntS (gt xs i)) kk = heldIntS (gt xs i) (kk) := by simp only [hB, hI, hN, hS, q1, if_true, if_false]
    rw [key, if_neg (by omega)] at hinv
    exact ⟨(i + 1, heldIntS (gt xs i) (kk)), by simp only; omega, ⟨rfl, rfl, trivial⟩, rfl, [], _, inferInstance, rfl, by simp only; omega, by simp only; omega, by simp only; omega, hinv⟩
  · refine sf_exit ?_
    repeat (first | refine R1 ?_ | (refine R2 ?_; intro _))
    refine sf_ret (rV ?_)
    have : i = xs.length := by omega
    rw [hinv, this, List.drop_length]
    rfl
end Go.Proofs.YtekjikbaefgncaaGreat

/- Walks of the exact laws' own helpers: marks that are found again, painters. Printed by program. -/
namespace Go.Proofs.YtekjikbaefgncaaGreat
open Go Go.Sl
set_option maxRecDepth 100000
set_option maxHeartbeats 4000000
attribute [local irreducible] Go.Code.sf sfOps Opq opo retF Do1 anyO
variable {M : Jdg → Prop} [IsCl Tryz.prog M]
theorem heldScene_v (h : PHeap) (ca : List Value) (x : Scene) (b : (sceneR τ).B h ca x) (k : Int) (h0 : 0 ≤ k) (h1 : k + cScene x ≤ 4611686018427387904) : CallV Tryz.prog M 50 [.agg ca.toArray, .int .i64 k] h (.int .i64 (heldScene x k)) := by
  obtain ⟨v_grid_cells1, v_lights1, v_feet1, rfl, s_grid_cells1, s_lights1, s_feet1⟩ := sceneB b
  have o_v_grid_cells1 := s_grid_cells1.one
  have o_v_lights1 := s_lights1.one
  have o_v_feet1 := s_feet1.one
  have hc : cScene x = cGrid x.grid + (cIntS x.lights + cIntSS x.feet) := rfl
  refine calls_of_sf Tryz.func50 rfl Tryz.ntmps50 ?_
  simp only [argsL, Nat.reduceAdd]
  repeat (first | refine R1 ?_ | (refine R2 ?_; intro _))
  refine fp (y_callV (heldGrid_v _ _ x.grid (gridB_mk s_grid_cells1) (k) (by omega) (by omega)) (by rfl) ?_)
  repeat (first | refine R1 ?_ | (refine R2 ?_; intro _))
  refine sf_if (fun q1 => ?_) fun q1 => ?_
  · repeat (first | refine R1 ?_ | (refine R2 ?_; intro _))
    refine sf_ret (rV ?_)
    simp only [heldScene, hS, hN, q1, if_true, if_false]
  have b1 : k ≤ heldGrid x.grid (k) ∧ heldGrid x.grid (k) ≤ k + cGrid x.grid := by rcases bdGrid x.grid (k) (by omega) with z | z <;> omega
  repeat (first | refine R1 ?_ | (refine R2 ?_; intro _))
  refine fp (y_callV (heldIntS_v _ _ _ s_lights1 (heldGrid x.grid (k)) (by omega) (by omega)) (by rfl) ?_)
  repeat (first | refine R1 ?_ | (refine R2 ?_; intro _))
  refine sf_if (fun q2 => ?_) fun q2 => ?_
  · repeat (first | refine R1 ?_ | (refine R2 ?_; intro _))
    refine sf_ret (rV ?_)
    simp only [heldScene, hS, hN, q1, q2, if_true, if_false]
  have b2 : heldGrid x.grid (k) ≤ heldIntS x.lights (heldGrid x.grid (k)) ∧ heldIntS x.lights (heldGrid x.grid (k)) ≤ heldGrid x.grid (k) + cIntS x.lights := by rcases bdIntS x.lights (heldGrid x.grid (k)) (by omega) with z | z <;> omega
  repeat (first | refine R1 ?_ | (refine R2 ?_; intro _))
  refine fp (y_callV (heldIntSS_v _ _ _ s_feet1 (heldIntS x.lights (heldGrid x.grid (k))) (by omega) (by omega)) (by rfl) ?_)
  repeat (first | refine R1 ?_ | (refine R2 ?_; intro _))
  refine sf_if (fun q3 => ?_) fun q3 => ?_
  · repeat (first | refine R1 ?_ | (refine R2 ?_; intro _))
    refine sf_ret (rV ?_)
    simp only [heldScene, hS, hN, q1, q2, q3, if_true, if_false]
  have b3 : heldIntS x.lights (heldGrid x.grid (k)) ≤ heldIntSS x.feet (heldIntS x.lights (heldGrid x.grid (k))) ∧ heldIntSS x.feet (heldIntS x.lights (heldGrid x.grid (k))) ≤ heldIntS x.lights (heldGrid x.grid (k)) + cIntSS x.feet := by rcases bdIntSS x.feet (heldIntS x.lights (heldGrid x.grid (k))) (by omega) with z | z <;> omega
  repeat (first | refine R1 ?_ | (refine R2 ?_; intro _))
  refine sf_ret (rV ?_)
  simp only [heldScene, hS, hN, q1, q2, q3, if_true, if_false]
theorem heldPainter_v (h : PHeap) (ca : List Value) (x : Painter) (b : (painterR τ).B h ca x) (k : Int) (h0 : 0 ≤ k) (h1 : k + cPainter x ≤ 4611686018427387904) : CallV Tryz.prog M 21 [.agg ca.toArray, .int .i64 k] h (.int .i64 (heldPainter x k)) := by
  obtain ⟨v_scene_grid_cells1, v_scene_lights1, v_scene_feet1, rfl, s_scene_grid_cells1, s_scene_lights1, s_scene_feet1⟩ := painterB b
  have o_v_scene_grid_cells1 := s_scene_grid_cells1.one
  have o_v_scene_lights1 := s_scene_lights1.one
  have o_v_scene_feet1 := s_scene_feet1.one
  have hc : cPainter x = cScene x.scene := rfl
  refine calls_of_sf Tryz.func21 rfl Tryz.ntmps21 ?_
  simp only [argsL, Nat.reduceAdd]
  repeat (first | refine R1 ?_ | (refine R2 ?_; intro _))
  refine fp (y_callV (heldScene_v _ _ x.scene (sceneB_mk s_scene_grid_cells1 s_scene_lights1 s_scene_feet1) (k) (by omega) (by omega)) (by rfl) ?_)
  repeat (first | refine R1 ?_ | (refine R2 ?_; intro _))
  refine sf_if (fun q1 => ?_) fun q1 => ?_
  · repeat (first | refine R1 ?_ | (refine R2 ?_; intro _))
    refine sf_ret (rV ?_)
    simp only [heldPainter, hS, hN, q1, if_true, if_false]
  have b1 : k ≤ heldScene x.scene (k) ∧ heldScene x.scene (k) ≤ k + cScene x.scene := by rcases bdScene x.scene (k) (by omega) with z | z <;> omega
  repeat (first | refine R1 ?_ | (refine R2 ?_; intro _))
  refine sf_ret (rV ?_)
  simp only [heldPainter, hS, hN, q1, if_true, if_false]
end Go.Proofs.YtekjikbaefgncaaGreat

/- Walks of the exact laws' own helpers: marks. Printed by program. -/
namespace Go.Proofs.YtekjikbaefgncaaGreat
open Go Go.Sl
set_option maxRecDepth 100000
set_option maxHeartbeats 4000000
attribute [local irreducible] Go.Code.sf sfOps Opq opo retF Do1 anyO
variable {M : Jdg → Prop} [IsCl Tryz.prog M]
theorem markIntS_f (h : PHeap) (a : Value) (A : Own) (xs : List Int) (gr : Gr A a 3 intF xs) (hs : xs.length ≤ 281474976710656) (k : Int) (h0 : 0 ≤ k) (h1 : k + cIntS xs ≤ 4611686018427387904) : CallF Tryz.prog M 39 [a, .int .i64 k] A h fun v' A' => ∃ ys, v' = .int .i64 (k + cIntS xs) ∧ Gr A' a 3 intF ys ∧ ys.length = xs.length ∧ heldIntS ys k = k + cIntS xs := by
  have o1 := gr.one
  have hcs : cIntS xs = 1 * xs.length := sizeL_const xs
  refine calls_of_sf Tryz.func39 rfl Tryz.ntmps39 ?_
  simp only [argsL, Nat.reduceAdd]
  repeat (first | refine R1 ?_ | (refine R2 ?_; intro _))
  refine sf_lp (ι := Nat × Int) [0] (fun x => [(5, .int .i64 (x.1 : Int)), (1, .int .i64 x.2)]) (fun x O => ∃ ys, x.1 ≤ xs.length ∧ ys.length = xs.length ∧ Gr O a 3 intF ys ∧ x.2 = k + 1 * (x.1 : Int) ∧ hL heldInt (ys.take x.1) k = x.2) (fun x => xs.length - x.1) (0, k) A ⟨xs, by simp, rfl, gr, by simp, rfl⟩ ?_
  rintro ⟨i, kk⟩ O ⟨ys, hi, hl, g, hkk, hinv⟩
  simp only at hi hkk hinv ⊢
  repeat (first | refine R1 ?_ | (refine R2 ?_; intro _))
  refine sf_if (fun h4 => ?_) fun h4 => ?_
  · have hi4 : i < ys.length := by omega
    repeat (first | refine R1 ?_ | (refine R2 ?_; intro _))
    refine fp (y_storeG0 (by rfl) (by rfl) g (by omega) (by rfl) fun A1 y1 e1 l1 _ g1 => ?_)
    have hi5 : i < y1.length := by omega
    clear g
    repeat (first | refine R1 ?_ | (refine R2 ?_; intro _))
    have ez : y1 = ys.set i kk := by simp only [e1, List.set_set]
    have key : heldInt kk kk = kk + 1 := by simp [heldInt, hI]
    have hp := hL_put (f := heldInt) hi4 hinv (by omega) key (by omega)
    exact ⟨(i + 1, _), by simp only; omega, ⟨rfl, rfl, trivial⟩, rfl, _, _, inferInstance, y1, by simp only; omega, by omega, g1, by simp only; omega, by rw [ez]; exact hp⟩
  · refine sf_exit ?_
    repeat (first | refine R1 ?_ | (refine R2 ?_; intro _))
    refine sf_ret (rO O ⟨ys, ?_, g, hl, ?_⟩)
    · have : (i : Int) = xs.length := by omega
      rw [hkk, this, hcs]; simp
    · rw [take_ge (by omega) (by omega)] at hinv
      show hL heldInt ys k = _
      rw [hinv, hkk, hcs, show i = xs.length by omega]; simp
theorem markCellS_f (h : PHeap) (a : Value) (A : Own) (xs : List Cell) (gr : Gr A a 44 cellF xs) (hs : xs.length ≤ 281474976710656) (k : Int) (h0 : 0 ≤ k) (h1 : k + cCellS xs ≤ 4611686018427387904) : CallF Tryz.prog M 66 [a, .int .i64 k] A h fun v' A' => ∃ ys, v' = .int .i64 (k + cCellS xs) ∧ Gr A' a 44 cellF ys ∧ ys.length = xs.length ∧ heldCellS ys k = k + cCellS xs := by
  have o1 := gr.one
  have hcs : cCellS xs = 2 * xs.length := sizeL_const xs
  refine calls_of_sf Tryz.func66 rfl Tryz.ntmps66 ?_
  simp only [argsL, Nat.reduceAdd]
  repeat (first | refine R1 ?_ | (refine R2 ?_; intro _))
  refine sf_lp (ι := Nat × Int) [0] (fun x => [(5, .int .i64 (x.1 : Int)), (1, .int .i64 x.2)]) (fun x O => ∃ ys, x.1 ≤ xs.length ∧ ys.length = xs.length ∧ Gr O a 44 cellF ys ∧ x.2 = k + 2 * (x.1 : Int) ∧ hL heldCell (ys.take x.1) k = x.2) (fun x => xs.length - x.1) (0, k) A ⟨xs, by simp, rfl, gr, by simp, rfl⟩ ?_
  rintro ⟨i, kk⟩ O ⟨ys, hi, hl, g, hkk, hinv⟩
  simp only at hi hkk hinv ⊢
  repeat (first | refine R1 ?_ | (refine R2 ?_; intro _))
  refine sf_if (fun h4 => ?_) fun h4 => ?_
  · have hi4 : i < ys.length := by omega
    repeat (first | refine R1 ?_ | (refine R2 ?_; intro _))
    refine fp (y_storeG (by rfl) (by rfl) g (by omega) (by rfl) fun A1 y1 e1 l1 _ g1 => ?_)
    have hi5 : i < y1.length := by omega
    clear g
    repeat (first | refine R1 ?_ | (refine R2 ?_; intro _))
    refine fp (y_storeG (by rfl) (by rfl) g1 (by omega) (by rfl) fun A2 y2 e2 l2 _ g2 => ?_)
    have hi6 : i < y2.length := by omega
    clear g1
    repeat (first | refine R1 ?_ | (refine R2 ?_; intro _))
    have ez : y2 = ys.set i ⟨kk, kk + 1⟩ := by simp only [e2, e1, List.set_set]
    have key : heldCell ⟨kk, kk + 1⟩ kk = kk + 1 + 1 := by simp [heldCell, hI]
    have hp := hL_put (f := heldCell) hi4 hinv (by omega) key (by omega)
    exact ⟨(i + 1, _), by simp only; omega, ⟨rfl, rfl, trivial⟩, rfl, _, _, inferInstance, y2, by simp only; omega, by omega, g2, by simp only; omega, by rw [ez]; exact hp⟩
  · refine sf_exit ?_
    repeat (first | refine R1 ?_ | (refine R2 ?_; intro _))
    refine sf_ret (rO O ⟨ys, ?_, g, hl, ?_⟩)
    · have : (i : Int) = xs.length := by omega
      rw [hkk, this, hcs]; simp
    · rw [take_ge (by omega) (by omega)] at hinv
      show hL heldCell ys k = _
      rw [hinv, hkk, hcs, show i = xs.length by omega]; simp
theorem markGrid_f (h : PHeap) (A : Own) (ca : List Value) (x : Grid) (b : (gridR τ).O A ca x) (k : Int) (h0 : 0 ≤ k) (h1 : k + cGrid x ≤ 4611686018427387904) : CallF Tryz.prog M 38 [.agg ca.toArray, .int .i64 k] A h fun v' A' => ∃ y, v' = .int .i64 (k + cGrid x) ∧ (gridR τ).O A' ca y ∧ cGrid y = cGrid x ∧ heldGrid y k = k + cGrid x := by
  obtain ⟨v_cells1, rfl, g_v_cells1, l_v_cells1⟩ := gridO b
  have o_v_cells1 := g_v_cells1.one
  have hc : cGrid x = cCellS x.cells := rfl
  refine calls_of_sf Tryz.func38 rfl Tryz.ntmps38 ?_
  simp only [argsL, Nat.reduceAdd]
  repeat (first | refine R1 ?_ | (refine R2 ?_; intro _))
  refine fp (y_call (markCellS_f _ _ _ _ g_v_cells1 l_v_cells1 (k) (by omega) (by omega)) (by rfl) ?_)
  rintro _ K1 ⟨w1, rfl, r1, t1, u1⟩
  repeat (first | refine R1 ?_ | (refine R2 ?_; intro _))
  have d1 : cCellS w1 = cCellS x.cells := by simp only [cCellS, sizeL_const, t1]
  let y : Grid := ⟨x.wide, w1⟩
  have oy : (gridR τ).O K1 _ y := gridO_mk (g := y) r1 (show w1.length ≤ 281474976710656 by omega)
  refine sf_ret (rO K1 ⟨y, ?_, ?_, ?_, ?_⟩)
  · exact congrArg (Value.int .i64) (by omega)
  · exact oy
  · simp only [y, cGrid, d1]
  · simp only [y, heldGrid, hS, hN, u1]
    rw [if_neg (by omega)]
    omega
end Go.Proofs.YtekjikbaefgncaaGreat

/- Walks of the exact laws' own helpers: marks, worlds. Printed by program. -/
namespace Go.Proofs.YtekjikbaefgncaaGreat
open Go Go.Sl
set_option maxRecDepth 100000
set_option maxHeartbeats 4000000
attribute [local irreducible] Go.Code.sf sfOps Opq opo retF Do1 anyO
variable {M : Jdg → Prop} [IsCl Tryz.prog M]
theorem markIntSS_f (h : PHeap) (a : Value) (A : Own) (xs : List (List Int)) (gr : GrR (intSR τ) A a 25 xs) (k : Int) (h0 : 0 ≤ k) (h1 : k + cIntSS xs ≤ 4611686018427387904) : CallF Tryz.prog M 65 [a, .int .i64 k] A h fun v' A' => ∃ ys, v' = .int .i64 (k + cIntSS xs) ∧ GrR (intSR τ) A' a 25 ys ∧ cIntSS ys = cIntSS xs ∧ heldIntSS ys k = k + cIntSS xs := by
  have o1 := gr.one
  obtain ⟨A0, A1, rfl, rx, g, oa, hs⟩ := gr
  have lx := oa.len
  refine calls_of_sf Tryz.func65 rfl Tryz.ntmps65 ?_
  simp only [argsL, Nat.reduceAdd]
  repeat (first | refine R1 ?_ | (refine R2 ?_; intro _))
  refine sf_lp (ι := Nat × Int) [0] (fun x => [(5, .int .i64 (x.1 : Int)), (1, .int .i64 x.2)]) (fun x O => ∃ A0 A1 ry ys, O = A0 ++ A1 ∧ x.1 ≤ xs.length ∧ ys.length = xs.length ∧ Gr A0 a 25 (rawF (intSR τ).sz) ry ∧ OAll (intSR τ) A1 ry ys ∧ ys.drop x.1 = xs.drop x.1 ∧ x.2 = k + sizeL cIntS (xs.take x.1) ∧ sizeL cIntS (ys.take x.1) = sizeL cIntS (xs.take x.1) ∧ hL (fun x => hN (heldIntS x)) (ys.take x.1) k = x.2) (fun x => xs.length - x.1) (0, k) (A0 ++ A1) ⟨A0, A1, rx, xs, rfl, by simp, rfl, g, oa, rfl, by simp [sizeL], rfl, rfl⟩ ?_
  clear g oa lx rx A0 A1
  rintro ⟨i, kk⟩ O ⟨A0, A1, ry, ys, rfl, hi, hl, g, oa, hd, hkk, hsz, hinv⟩
  simp only at hi hd hkk hsz hinv ⊢
  have ly := oa.len
  repeat (first | refine R1 ?_ | (refine R2 ?_; intro _))
  refine sf_if (fun h4 => ?_) fun h4 => ?_
  · have hi4 : i < ys.length := by omega
    have hi5 : i < ry.length := by omega
    have hg := gt_drop (xs := xs) (by omega) hd
    have hst := sizeL_take (f := cIntS) (xs := xs) (k := i) (by omega)
    have hsp := sizeL_split (f := cIntS) xs (i + 1)
    have hcx : cIntSS xs = sizeL cIntS xs := rfl
    rw [← hg] at hst
    obtain ⟨B1, Bk, B2, rfl, ok, put⟩ := oa.at hi4
    obtain ⟨v_1, ex, g_1, l_1⟩ := ok
    haveI : FlatV (rawF (intSR τ).sz) (gt ry i) [v_1] := ⟨ex⟩
    have o_1 := g_1.one
    repeat (first | refine R1 ?_ | (refine R2 ?_; intro _))
    refine fp (y_call (markIntS_f _ _ _ _ g_1 l_1 (kk) (by omega) (by omega)) (by rfl) ?_)
    rintro _ K1 ⟨w1, rfl, r1, t1, u1⟩
    repeat (first | refine R1 ?_ | (refine R2 ?_; intro _))
    have cz : cIntS w1 = cIntS (gt ys i) := by simp only [cIntS, sizeL_const, t1]
    have key : (fun x => hN (heldIntS x)) w1 kk = kk + cIntS (gt ys i) := by simp only [hN, u1]; rw [if_neg (by omega)]
    have oa2 := put K1 (gt ry i) w1 ⟨_, ex, r1, by omega⟩
    have hp := hL_put (f := fun x => hN (heldIntS x)) hi4 hinv (by omega) key (by omega)
    have hsz2 := sizeL_put (c := cIntS) (z := w1) hi4
    have er : ry.set i (gt ry i) = ry := by rw [gt_eq hi5]; exact List.set_getElem_self hi5
    rw [er] at oa2
    exact ⟨(i + 1, kk + cIntS (gt ys i)), by simp only; omega, ⟨rfl, rfl, trivial⟩, rfl, A0 ++ (B1 ++ (K1 ++ B2)), _, inferInstance, A0, _, ry, ys.set i w1, rfl, by simp only; omega, by simpa using hl, g, oa2, drop_set_succ hd, by simp only; omega, by simp only; omega, hp⟩
  · refine sf_exit ?_
    repeat (first | refine R1 ?_ | (refine R2 ?_; intro _))
    rw [take_ge (by omega) (by omega)] at hinv hsz
    rw [take_ge (by omega) (by omega)] at hsz hkk
    refine sf_ret (rO (A0 ++ A1) ⟨ys, ?_, ⟨A0, A1, rfl, ry, g, oa, by omega⟩, hsz, ?_⟩)
    · rw [hkk]; rfl
    · have e : k + (cIntSS xs : Int) = kk := hkk.symm
      rw [e]; exact hinv
end Go.Proofs.YtekjikbaefgncaaGreat

/- Walks of the exact laws' own helpers: marks, painters. Printed by program. -/
namespace Go.Proofs.YtekjikbaefgncaaGreat
open Go Go.Sl
set_option maxRecDepth 100000
set_option maxHeartbeats 4000000
attribute [local irreducible] Go.Code.sf sfOps Opq opo retF Do1 anyO
variable {M : Jdg → Prop} [IsCl Tryz.prog M]
theorem markScene_f (h : PHeap) (A : Own) (ca : List Value) (x : Scene) (b : (sceneR τ).O A ca x) (k : Int) (h0 : 0 ≤ k) (h1 : k + cScene x ≤ 4611686018427387904) : CallF Tryz.prog M 37 [.agg ca.toArray, .int .i64 k] A h fun v' A' => ∃ y, v' = .int .i64 (k + cScene x) ∧ (sceneR τ).O A' ca y ∧ cScene y = cScene x ∧ heldScene y k = k + cScene x := by
  obtain ⟨v_grid_cells1, v_lights1, v_feet1, K_v_grid_cells1, K_v_lights1, K_v_feet1, rfl, rfl, ⟨g_v_grid_cells1, l_v_grid_cells1⟩, ⟨g_v_lights1, l_v_lights1⟩, g_v_feet1⟩ := sceneO b
  have o_v_grid_cells1 := g_v_grid_cells1.one
  have o_v_lights1 := g_v_lights1.one
  have o_v_feet1 := g_v_feet1.one
  have hc : cScene x = cGrid x.grid + (cIntS x.lights + cIntSS x.feet) := rfl
  refine calls_of_sf Tryz.func37 rfl Tryz.ntmps37 ?_
  simp only [argsL, Nat.reduceAdd]
  repeat (first | refine R1 ?_ | (refine R2 ?_; intro _))
  refine fp (y_call (markGrid_f _ _ _ x.grid (gridO_mk g_v_grid_cells1 l_v_grid_cells1) (k) (by omega) (by omega)) (by rfl) ?_)
  rintro _ K1 ⟨w1, rfl, r1, t1, u1⟩
  repeat (first | refine R1 ?_ | (refine R2 ?_; intro _))
  refine fp (y_call (markIntS_f _ _ _ _ g_v_lights1 l_v_lights1 (k + cGrid x.grid) (by omega) (by omega)) (by rfl) ?_)
  rintro _ K2 ⟨w2, rfl, r2, t2, u2⟩
  repeat (first | refine R1 ?_ | (refine R2 ?_; intro _))
  refine fp (y_call (markIntSS_f _ _ _ _ g_v_feet1 (k + cGrid x.grid + cIntS x.lights) (by omega) (by omega)) (by rfl) ?_)
  rintro _ K3 ⟨w3, rfl, r3, t3, u3⟩
  repeat (first | refine R1 ?_ | (refine R2 ?_; intro _))
  obtain ⟨vv1_v_cells2, ee1, gg1_v_cells2, ll1_v_cells2⟩ := gridO r1
  simp only [List.cons.injEq, and_true] at ee1
  obtain ⟨ef1_0, ef1_1⟩ := ee1
  subst ef1_1
  have d1 := t1
  have d2 : cIntS w2 = cIntS x.lights := by simp only [cIntS, sizeL_const, t2]
  have d3 := t3
  let y : Scene := ⟨w1, w2, w3⟩
  have oy : (sceneR τ).O (K1 ++ (K2 ++ (K3))) _ y := sceneO_mk (s := y) gg1_v_cells2 ll1_v_cells2 r2 (show w2.length ≤ 281474976710656 by omega) r3
  refine sf_ret (rO (K1 ++ (K2 ++ (K3))) ⟨y, ?_, ?_, ?_, ?_⟩)
  · exact congrArg (Value.int .i64) (by omega)
  · rw [ef1_0]; exact oy
  · simp only [y, cScene, d1, d2, d3]
  · simp only [y, heldScene, hS, hN, u1, u2, u3]
    rw [if_neg (by omega)]
    rw [if_neg (by omega)]
    rw [if_neg (by omega)]
    omega
theorem markPainter_f (h : PHeap) (A : Own) (ca : List Value) (x : Painter) (b : (painterR τ).O A ca x) (k : Int) (h0 : 0 ≤ k) (h1 : k + cPainter x ≤ 4611686018427387904) : CallF Tryz.prog M 14 [.agg ca.toArray, .int .i64 k] A h fun v' A' => ∃ y, v' = .int .i64 (k + cPainter x) ∧ (painterR τ).O A' ca y ∧ cPainter y = cPainter x ∧ heldPainter y k = k + cPainter x := by
  obtain ⟨v_scene_grid_cells1, v_scene_lights1, v_scene_feet1, K_v_scene_grid_cells1, K_v_scene_lights1, K_v_scene_feet1, rfl, rfl, ⟨g_v_scene_grid_cells1, l_v_scene_grid_cells1⟩, ⟨g_v_scene_lights1, l_v_scene_lights1⟩, g_v_scene_feet1⟩ := painterO b
  have o_v_scene_grid_cells1 := g_v_scene_grid_cells1.one
  have o_v_scene_lights1 := g_v_scene_lights1.one
  have o_v_scene_feet1 := g_v_scene_feet1.one
  have hc : cPainter x = cScene x.scene := rfl
  refine calls_of_sf Tryz.func14 rfl Tryz.ntmps14 ?_
  simp only [argsL, Nat.reduceAdd]
  repeat (first | refine R1 ?_ | (refine R2 ?_; intro _))
  refine fp (y_call (markScene_f _ _ _ x.scene (sceneO_mk g_v_scene_grid_cells1 l_v_scene_grid_cells1 g_v_scene_lights1 l_v_scene_lights1 g_v_scene_feet1) (k) (by omega) (by omega)) (by rfl) ?_)
  rintro _ K1 ⟨w1, rfl, r1, t1, u1⟩
  repeat (first | refine R1 ?_ | (refine R2 ?_; intro _))
  obtain ⟨vv1_v_grid_cells2, vv1_v_lights2, vv1_v_feet2, KK1_v_grid_cells2, KK1_v_lights2, KK1_v_feet2, ee1, rfl, ⟨gg1_v_grid_cells2, ll1_v_grid_cells2⟩, ⟨gg1_v_lights2, ll1_v_lights2⟩, gg1_v_feet2⟩ := sceneO r1
  simp only [List.cons.injEq, and_true] at ee1
  obtain ⟨ef1_0, ef1_1, ef1_2, ef1_3⟩ := ee1
  subst ef1_1
  subst ef1_2
  subst ef1_3
  have d1 := t1
  let y : Painter := ⟨x.up, x.has, x.ver, w1⟩
  have oy : (painterR τ).O (KK1_v_grid_cells2 ++ (KK1_v_lights2 ++ (KK1_v_feet2))) _ y := painterO_mk (p := y) gg1_v_grid_cells2 ll1_v_grid_cells2 gg1_v_lights2 ll1_v_lights2 gg1_v_feet2
  refine sf_ret (rO (KK1_v_grid_cells2 ++ (KK1_v_lights2 ++ (KK1_v_feet2))) ⟨y, ?_, ?_, ?_, ?_⟩)
  · exact congrArg (Value.int .i64) (by omega)
  · rw [ef1_0]; exact oy
  · simp only [y, cPainter, d1]
  · simp only [y, heldPainter, hS, hN, u1]
    rw [if_neg (by omega)]
    omega
end Go.Proofs.YtekjikbaefgncaaGreat

/- Walks of the exact laws' own helpers: marks that are found again, words. Printed by program. -/
namespace Go.Proofs.YtekjikbaefgncaaGreat
open Go Go.Sl
set_option maxRecDepth 100000
set_option maxHeartbeats 4000000
attribute [local irreducible] Go.Code.sf sfOps Opq opo retF Do1 anyO
variable {M : Jdg → Prop} [IsCl Tryz.prog M]
theorem heldWord_v (h : PHeap) (ca : List Value) (x : Word) (b : (wordR τ).B h ca x) (k : Int) (h0 : 0 ≤ k) (h1 : k + cWord x ≤ 4611686018427387904) : CallV Tryz.prog M 16 [.agg ca.toArray, .int .i64 k] h (.int .i64 (heldWord x k)) := by
  obtain ⟨v_grid_cells1, v_lights1, rfl, s_grid_cells1, s_lights1⟩ := wordB b
  have o_v_grid_cells1 := s_grid_cells1.one
  have o_v_lights1 := s_lights1.one
  have hc : cWord x = cGrid x.grid + cIntS x.lights := rfl
  refine calls_of_sf Tryz.func16 rfl Tryz.ntmps16 ?_
  simp only [argsL, Nat.reduceAdd]
  repeat (first | refine R1 ?_ | (refine R2 ?_; intro _))
  refine fp (y_callV (heldGrid_v _ _ x.grid (gridB_mk s_grid_cells1) (k) (by omega) (by omega)) (by rfl) ?_)
  repeat (first | refine R1 ?_ | (refine R2 ?_; intro _))
  refine sf_if (fun q1 => ?_) fun q1 => ?_
  · repeat (first | refine R1 ?_ | (refine R2 ?_; intro _))
    refine sf_ret (rV ?_)
    simp only [heldWord, hS, hN, q1, if_true, if_false]
  have b1 : k ≤ heldGrid x.grid (k) ∧ heldGrid x.grid (k) ≤ k + cGrid x.grid := by rcases bdGrid x.grid (k) (by omega) with z | z <;> omega
  repeat (first | refine R1 ?_ | (refine R2 ?_; intro _))
  refine fp (y_callV (heldIntS_v _ _ _ s_lights1 (heldGrid x.grid (k)) (by omega) (by omega)) (by rfl) ?_)
  repeat (first | refine R1 ?_ | (refine R2 ?_; intro _))
  refine sf_if (fun q2 => ?_) fun q2 => ?_
  · repeat (first | refine R1 ?_ | (refine R2 ?_; intro _))
    refine sf_ret (rV ?_)
    simp only [heldWord, hS, hN, q1, q2, if_true, if_false]
  have b2 : heldGrid x.grid (k) ≤ heldIntS x.lights (heldGrid x.grid (k)) ∧ heldIntS x.lights (heldGrid x.grid (k)) ≤ heldGrid x.grid (k) + cIntS x.lights := by rcases bdIntS x.lights (heldGrid x.grid (k)) (by omega) with z | z <;> omega
  repeat (first | refine R1 ?_ | (refine R2 ?_; intro _))
  refine sf_ret (rV ?_)
  simp only [heldWord, hS, hN, q1, q2, if_true, if_false]
end Go.Proofs.YtekjikbaefgncaaGreat

/- Walks of the exact laws' own helpers: marks, words. Printed by program. -/
namespace Go.Proofs.YtekjikbaefgncaaGreat
open Go Go.Sl
set_option maxRecDepth 100000
set_option maxHeartbeats 4000000
attribute [local irreducible] Go.Code.sf sfOps Opq opo retF Do1 anyO
variable {M : Jdg → Prop} [IsCl Tryz.prog M]
theorem markWord_f (h : PHeap) (A : Own) (ca : List Value) (x : Word) (b : (wordR τ).O A ca x) (k : Int) (h0 : 0 ≤ k) (h1 : k + cWord x ≤ 4611686018427387904) : CallF Tryz.prog M 15 [.agg ca.toArray, .int .i64 k] A h fun v' A' => ∃ y, v' = .int .i64 (k + cWord x) ∧ (wordR τ).O A' ca y ∧ cWord y = cWord x ∧ heldWord y k = k + cWord x := by
  obtain ⟨v_grid_cells1, v_lights1, K_v_grid_cells1, K_v_lights1, rfl, rfl, ⟨g_v_grid_cells1, l_v_grid_cells1⟩, ⟨g_v_lights1, l_v_lights1⟩⟩ := wordO b
  have o_v_grid_cells1 := g_v_grid_cells1.one
  have o_v_lights1 := g_v_lights1.one
  have hc : cWord x = cGrid x.grid + cIntS x.lights := rfl
  refine calls_of_sf Tryz.func15 rfl Tryz.ntmps15 ?_
  simp only [argsL, Nat.reduceAdd]
  repeat (first | refine R1 ?_ | (refine R2 ?_; intro _))
  refine fp (y_call (markGrid_f _ _ _ x.grid (gridO_mk g_v_grid_cells1 l_v_grid_cells1) (k) (by omega) (by omega)) (by rfl) ?_)
  rintro _ K1 ⟨w1, rfl, r1, t1, u1⟩
  repeat (first | refine R1 ?_ | (refine R2 ?_; intro _))
  refine fp (y_call (markIntS_f _ _ _ _ g_v_lights1 l_v_lights1 (k + cGrid x.grid) (by omega) (by omega)) (by rfl) ?_)
  rintro _ K2 ⟨w2, rfl, r2, t2, u2⟩
  repeat (first | refine R1 ?_ | (refine R2 ?_; intro _))
  obtain ⟨vv1_v_cells2, ee1, gg1_v_cells2, ll1_v_cells2⟩ := gridO r1
  simp only [List.cons.injEq, and_true] at ee1
  obtain ⟨ef1_0, ef1_1⟩ := ee1
  subst ef1_1
  have d1 := t1
  have d2 : cIntS w2 = cIntS x.lights := by simp only [cIntS, sizeL_const, t2]
  let y : Word := ⟨x.kind, x.to, x.frm, x.ver, w1, x.edit, w2⟩
  have oy : (wordR τ).O (K1 ++ (K2)) _ y := wordO_mk (w := y) gg1_v_cells2 ll1_v_cells2 r2 (show w2.length ≤ 281474976710656 by omega)
  refine sf_ret (rO (K1 ++ (K2)) ⟨y, ?_, ?_, ?_, ?_⟩)
  · exact congrArg (Value.int .i64) (by omega)
  · dsimp only [wordCs] at oy ⊢; rw [ef1_0]; exact oy
  · simp only [y, cWord, d1, d2]
  · simp only [y, heldWord, hS, hN, u1, u2]
    rw [if_neg (by omega)]
    rw [if_neg (by omega)]
    omega
end Go.Proofs.YtekjikbaefgncaaGreat

/- The law FnExactPaintTell: it answers true. -/
namespace Go.Proofs.YtekjikbaefgncaaGreat
open Go Go.Sl
set_option maxRecDepth 100000
set_option maxHeartbeats 4000000
attribute [local irreducible] Go.Code.sf sfOps Opq opo retF Do1 anyO
variable {M : Jdg → Prop} [IsCl Tryz.prog M]

theorem wordO_one {A : Own} {cs : List Value} {w : Word} (b : (wordR τ).O A cs w) : ∃ c l, cs = wordCs w c l ∧ Sl.One c ∧ Sl.One l := by
  obtain ⟨c, l, _, _, e, -, ⟨g1, -⟩, ⟨g2, -⟩⟩ := wordO b
  exact ⟨c, l, e, g1.one, g2.one⟩
theorem cPainter_le (p : Painter) : cPainter p ≤ 3 * szPainterN p := by
  have := sizeL_le (f := cIntS) (g := fun x => 1 * List.length x + 0) p.scene.feet fun x _ => by simp [cIntS_eq]
  rw [sizeL_add] at this
  simp only [cPainter, cScene, cGrid, cCellS, cIntS_eq, cIntSS, sizeL_const, szPainterN, szSceneN, szIntSSN]
  omega
theorem paintTell_cWord (p : Painter) (id many : Int) : cWord (paintTell p id many).1 ≤ 50 := by
  have e : ∀ w : Word, cWord w = 2 * w.grid.cells.length + w.lights.length := fun w => by simp only [cWord, cGrid, cCellS, cIntS_eq, sizeL_const]
  rw [e]
  unfold paintTell
  split
  · rename_i h
    unfold paintTold
    split
    · simp [noWord, noGrid]
    · split
      · simp [noGrid]
      · rename_i h1 h2
        have hm := (gok (sceneOk_is (paintOk_has h.1 (by simpa using h2)).2.2.2).1).many
        simp only [noGrid, List.length_nil, ownLights_len]
        have hc : ownCnt (manyOf p.scene.grid).toNat many.toNat id.toNat ≤ (manyOf p.scene.grid).toNat := by
          have := h.2
          simp only [idOk, Bool.and_eq_true, decide_eq_true_eq] at this
          unfold ownCnt
          have h5 : (manyOf p.scene.grid).toNat + many.toNat - id.toNat ≤ (manyOf p.scene.grid).toNat * many.toNat := by
            rcases (by omega : many = 1 ∨ many = 2 ∨ many = 3) with rfl | rfl | rfl <;> (simp only [show Int.toNat 1 = 1 from rfl, show Int.toNat 2 = 2 from rfl, show Int.toNat 3 = 3 from rfl]; omega)
          first | exact Nat.div_le_of_le_mul (by rw [Nat.mul_comm]; omega) | (refine Nat.le_trans (Nat.div_le_div_right (by omega)) ?_; exact Nat.div_le_of_le_mul (by rw [Nat.mul_comm]; exact h5))
        omega
  · simp [noWord, noGrid]
theorem paintTell_body [al : Alone Tryz.prog M] (h : PHeap) (ca : List Value) (p : Painter) (id many : Int) (b : (painterR τ).B h ca p) : ∃ c, Tryz.f4.body = some c ∧ c.sf Tryz.prog M Tryz.f4.ntmps (retF Tryz.prog Tryz.f4 Tryz.f4.ntmps (fun v _ => v = .bool true) fun _ _ => False) (argsL 0 [.agg ca.toArray, .int .i64 id, .int .i64 many]) [] h := by
  have b0 := b
  obtain ⟨c, l, f, rfl, s1, s2, s3⟩ := painterB b
  have o1 := s1.one
  have o2 := s2.one
  have o3 := s3.one
  have hcg := paintTell_cWord p id many
  refine ⟨_, rfl, ?_⟩
  rw [Tryz.ntmps4]
  simp only [argsL, Nat.reduceAdd]
  repeat (first | refine R1 ?_ | (refine R2 ?_; intro _))
  refine fp (y_callV (szPainter_v _ _ p b0 1048576 (by decide) (by decide)) (by rfl) ?_)
  repeat (first | refine R1 ?_ | (refine R2 ?_; intro _))
  refine sf_if (fun h1 => ?_) fun h1 => ?_
  · repeat (first | refine R1 ?_ | (refine R2 ?_; intro _))
    exact sf_ret (rO [] rfl)
  have hs : szPainterN p ≤ 1048576 := by have := (szF_ge h1).1; omega
  have hck := cPainter_le p
  clear h1
  repeat (first | refine R1 ?_ | (refine R2 ?_; intro _))
  refine fp (y_call (toPainter_f _ _ p b0 hs) (by rfl) ?_)
  rintro _ A1 ⟨_, rfl, q1⟩
  have q1' := q1
  obtain ⟨x1, x2, x3, _, _, _, rfl, -, ⟨r1, -⟩, ⟨r2, -⟩, r3⟩ := painterO q1
  have p1 := r1.one
  have p2 := r2.one
  have p3 := r3.one
  clear r1 r2 r3
  repeat (first | refine R1 ?_ | (refine R2 ?_; intro _))
  refine fp (y_lend A1 (fun h' _ i => sPaintTell_f h' _ p ((painterR τ).lent q1' i) id many) (by rfl) ?_)
  rintro _ A0 ⟨_, rfl, q0⟩
  have q0' := q0
  obtain ⟨z1, z1', rfl, p0, p0'⟩ := wordO_one q0
  clear q0
  repeat (first | refine R1 ?_ | (refine R2 ?_; intro _))
  refine fp (y_call (toPainter_f _ _ p b0 hs) (by rfl) ?_)
  rintro _ A2 ⟨_, rfl, q2⟩
  have q2' := q2
  obtain ⟨y1, y2, y3, _, _, _, rfl, -, ⟨r1, -⟩, ⟨r2, -⟩, r3⟩ := painterO q2
  have p5 := r1.one
  have p6 := r2.one
  have p7 := r3.one
  clear r1 r2 r3 q2
  repeat (first | refine R1 ?_ | (refine R2 ?_; intro _))
  refine fp (y_lend A2 (fun h' _ i => paintTell_f h' _ p ((painterR τ).lent q2' i) id many) (by rfl) ?_)
  rintro _ A3 ⟨_, rfl, q3⟩
  have q3' := q3
  obtain ⟨z2, z2', rfl, p9, p9'⟩ := wordO_one q3
  clear q3
  generalize hkg : paintTell p id many = kg at *
  obtain ⟨gg, ok⟩ := kg
  simp only at *
  repeat (first | refine R1 ?_ | (refine R2 ?_; intro _))
  refine fp (y_lendV (A3 ++ A0) (fun h' _ i => eqWord_v h' _ _ _ _ ((wordR τ).lent q3' (inb_l i)) ((wordR τ).lent q0' (inb_r i))) (by rfl) ?_)
  simp only [decide_true]
  repeat (first | refine R1 ?_ | (refine R2 ?_; intro _))
  refine sf_cond (by rfl) (fun e => by simp at e) fun e => ?_
  clear e
  refine sf_keep [3, 8, 9, 10, 11, 12, 1, 2] ?_
  repeat (first | refine R1 ?_ | (refine R2 ?_; intro _))
  refine sf_draw (by kernel_rfl) (regX_run [[], [], [1], [0, 1, 2], [0, 1, 2, 3]] 3 [(0, false), (1, false), (2, true)] (by kernel_rfl) (by kernel_rfl) (by kernel_rfl) ?_)
  repeat (refine Da1 ?_)
  refine a_call (toPainter_f _ _ p b0 hs) (by rfl) (by rfl) (.inl rfl) ?_
  rintro _ A5 ⟨_, rfl, q5⟩
  (refine a_end (by rfl) (by rfl) ?_; simp only [finA, setL, List.drop_succ_cons, List.drop_zero])
  refine fp (y_lendV (A2 ++ A5) (fun h' _ i => eqPainter_v h' _ _ _ _ ((painterR τ).lent q2' (inb_l i)) ((painterR τ).lent q5 (inb_r i))) (by rfl) ?_)
  simp only [decide_true]
  repeat (first | refine R1 ?_ | (refine R2 ?_; intro _))
  refine sf_cond (by rfl) (fun e => by simp at e) fun e => ?_
  clear e
  repeat (first | refine R1 ?_ | (refine R2 ?_; intro _))
  refine fp (y_call (markPainter_f _ _ _ _ q2' 1 (by decide) (by omega)) (by rfl) ?_)
  rintro _ A6 ⟨w6, rfl, q6, -, -⟩
  repeat (first | refine R1 ?_ | (refine R2 ?_; intro _))
  refine f_split (fun e => ?_) fun e => ?_
  · omega
  repeat (first | refine R1 ?_ | (refine R2 ?_; intro _))
  refine fp (y_lendV (A3 ++ A0) (fun h' _ i => eqWord_v h' _ _ _ _ ((wordR τ).lent q3' (inb_l i)) ((wordR τ).lent q0' (inb_r i))) (by rfl) ?_)
  simp only [decide_true]
  repeat (first | refine R1 ?_ | (refine R2 ?_; intro _))
  refine sf_cond (by rfl) (fun e => by simp at e) fun e => ?_
  clear e
  refine sf_keep [3, 8, 9, 11, 12, 1, 2] ?_
  repeat (first | refine R1 ?_ | (refine R2 ?_; intro _))
  refine fp (y_call (markWord_f _ _ _ _ q3' 1 (by decide) (by omega)) (by rfl) ?_)
  rintro _ A7 ⟨w7, rfl, q7, z7, u7⟩
  repeat (first | refine R1 ?_ | (refine R2 ?_; intro _))
  refine fp (y_lendV A7 (fun h' _ i => heldWord_v h' _ _ ((wordR τ).lent q7 i) 1 (by decide) (by omega)) (by rfl) ?_)
  rw [u7]
  repeat (first | refine R1 ?_ | (refine R2 ?_; intro _))
  refine sf_if (fun e => ?_) fun e => ?_
  · omega
  repeat (first | refine R1 ?_ | (refine R2 ?_; intro _))
  refine sf_if (fun e => ?_) fun e => ?_
  · exact absurd rfl e
  refine sf_keep [3, 8, 9, 11, 12, 14, 1, 2] ?_
  repeat (first | refine R1 ?_ | (refine R2 ?_; intro _))
  refine fp (y_call (toPainter_f _ _ p b0 hs) (by rfl) ?_)
  rintro _ A8 ⟨_, rfl, q8⟩
  have q8' := q8
  obtain ⟨y1, y2, y3, _, _, _, rfl, -, ⟨r1, -⟩, ⟨r2, -⟩, r3⟩ := painterO q8
  have p5 := r1.one
  have p6 := r2.one
  have p7 := r3.one
  clear r1 r2 r3 q8
  repeat (first | refine R1 ?_ | (refine R2 ?_; intro _))
  refine fp (y_lend A8 (fun h' _ i => paintTell_f h' _ p ((painterR τ).lent q8' i) id many) (by rfl) ?_)
  rintro _ A9 ⟨_, rfl, q9⟩
  rw [hkg] at q9 ⊢
  have q9' := q9
  obtain ⟨z3, z3', rfl, p9, p9'⟩ := wordO_one q9
  clear q9
  simp only at *
  repeat (first | refine R1 ?_ | (refine R2 ?_; intro _))
  refine fp (y_lendV (A9 ++ A0) (fun h' _ i => eqWord_v h' _ _ _ _ ((wordR τ).lent q9' (inb_l i)) ((wordR τ).lent q0' (inb_r i))) (by rfl) ?_)
  simp only [decide_true]
  repeat (first | refine R1 ?_ | (refine R2 ?_; intro _))
  refine sf_cond (by rfl) (fun e => by simp at e) fun e => ?_
  clear e
  refine sf_keep [11, 14] ?_
  repeat (first | refine R1 ?_ | (refine R2 ?_; intro _))
  refine fp (y_lendV A7 (fun h' _ i => heldWord_v h' _ _ ((wordR τ).lent q7 i) 1 (by decide) (by omega)) (by rfl) ?_)
  rw [u7]
  repeat (first | refine R1 ?_ | (refine R2 ?_; intro _))
  refine sf_if (fun e => ?_) fun e => ?_
  · omega
  refine sf_keep [11, 14, 15] ?_
  repeat (first | refine R1 ?_ | (refine R2 ?_; intro _))
  refine sf_if (fun e => ?_) fun e => ?_
  · exact absurd rfl e
  refine sf_keep [11, 14] ?_
  repeat (first | refine R1 ?_ | (refine R2 ?_; intro _))
  exact sf_ret (rO [] rfl)
end Go.Proofs.YtekjikbaefgncaaGreat

/- Walks: a keeper that has just begun, looked at. -/
import Derived.Test.YtcefbjpebgofjaaGreatDoorN5
import Derived.Test.YtcefbjpebgofjaaGreatDoorK2
import Derived.Test.YtcefbjpebgofjaaGreatDoorSmY
set_option linter.unusedVariables false
set_option linter.unusedSimpArgs false
set_option linter.unusedSectionVars false

namespace Go.Proofs.YtcefbjpebgofjaaGreatDoor
open Go Go.Sl
set_option maxRecDepth 100000
set_option maxHeartbeats 4000000
attribute [local irreducible] Go.Code.sf sfOps Opq opo retF Do1 anyO
variable {M : Jdg → Prop} [IsCl Tryz.prog M]
instance : EqFl Tryz.prog 61 cellF := eqFl_cell inferInstance (inferInstance : Ty Tryz.prog 3 _ 1 _ _) (by kernel_rfl)

theorem errorsAs_nil (h : PHeap) (u : TypeId) (z : Value) : CallV Tryz.prog M 30 [.nilIface, .iface u z] h (.bool false) := by
  refine calls_of_sf Tryz.func30 rfl Tryz.ntmps30 ?_
  simp only [argsL, Nat.reduceAdd]
  repeat (first | refine R1 ?_ | (refine R2 ?_; intro _))
  refine fp (Rq ?_ (q_eqI (.inl ⟨rfl, rfl⟩) (by infer_instance) (by rfl)))
  repeat (first | refine R1 ?_ | (refine R2 ?_; intro _))
  refine sf_T rfl ?_
  repeat (first | refine R1 ?_ | (refine R2 ?_; intro _))
  exact sf_ret (rV rfl)
theorem refused_nil (h : PHeap) : CallV Tryz.prog M 21 [.nilIface] h (.bool false) := by
  refine calls_of_sf Tryz.func21 rfl Tryz.ntmps21 ?_
  simp only [argsL, Nat.reduceAdd]
  repeat (first | refine R1 ?_ | (refine R2 ?_; intro _))
  refine fp (y_callV (errorsAs_nil _ _ _) (by rfl) ?_)
  repeat (first | refine R1 ?_ | (refine R2 ?_; intro _))
  exact sf_ret (rV rfl)
theorem keepVersion_nil (h : PHeap) (ca : List Value) (k : Keeper) (b : (keeperR τ).B h ca k) (ver : Int) (h0 : 0 ≤ ver) (h1 : ver ≤ k.edits.length) : CallV Tryz.prog M 22 [.agg ca.toArray, .int .i64 ver] h .nilIface := by
  obtain ⟨c, e, p, s, rfl, s1, s2, s3, s4⟩ := keeperB b
  have o1 := s1.one
  have o2 := s2.one
  have o3 := s3.one
  have o4 := s4.one
  refine calls_of_sf Tryz.func22 rfl Tryz.ntmps22 ?_
  simp only [argsL, Nat.reduceAdd]
  repeat (first | refine R1 ?_ | (refine R2 ?_; intro _))
  refine f_split (fun e1 => ?_) fun e1 => ?_
  · omega
  · repeat (first | refine R1 ?_ | (refine R2 ?_; intro _))
    refine sf_if (fun e2 => ?_) fun e2 => ?_
    · omega
    · repeat (first | refine R1 ?_ | (refine R2 ?_; intro _))
      exact sf_ret (rV rfl)
/-- A keeper that has just begun. -/
structure Begun (k : Keeper) : Prop where
  ok : gridOk k.first = true
  edits : k.edits = []
  shown : k.shown = []
  n1 : 1 ≤ k.parts.length
  n3 : k.parts.length ≤ 3
  parts : ∀ i, i < k.parts.length → gt k.parts i = noPart
theorem keepGridOf_begun (h : PHeap) (ca : List Value) (k : Keeper) (b : (keeperR τ).B h ca k) (bg : Begun k) : CallF Tryz.prog M 23 [.agg ca.toArray, .int .i64 0] [] h fun v A => ∃ cs, v = .agg cs.toArray ∧ (gridR τ).O A cs k.first := by
  obtain ⟨c, e, p, s, rfl, s1, s2, s3, s4⟩ := keeperB b
  have o1 := s1.one
  have o2 := s2.one
  have o3 := s3.one
  have o4 := s4.one
  have hs : k.first.cells.length ≤ 1048576 := by
    obtain ⟨_, _, h4, _⟩ := (gridOk_iff _).1 bg.ok |>.2
    obtain ⟨⟨h1, h2⟩, _⟩ := (gridOk_iff _).1 bg.ok
    omega
  rw [bg.edits] at s2
  refine calls_of_sf Tryz.func23 rfl Tryz.ntmps23 ?_
  simp only [argsL, Nat.reduceAdd]
  repeat (first | refine R1 ?_ | (refine R2 ?_; intro _))
  refine fp (y_call (gridCopy_f _ _ k.first (gridB_mk s1) hs) (by rfl) ?_)
  rintro _ A1 ⟨_, rfl, q⟩
  obtain ⟨c2, rfl, g1, l1⟩ := gridO q
  have o5 := g1.one
  repeat (first | refine R1 ?_ | (refine R2 ?_; intro _))
  rcases s2.reads with ⟨rfl, -⟩ | ⟨cap, he, -⟩
  · refine fp (Rq ?_ (q_sliceNil (by infer_instance) (by infer_instance) (by rfl) (by rfl)))
    repeat (first | refine R1 ?_ | (refine R2 ?_; intro _))
    rename_i b2 b4 b5
    refine sf_lp (ι := Unit) [4, 5, 14, 15] (fun _ => [(16, .int .i64 0)]) (fun _ O => O = (b5, .cells #[.int .i64 k.first.wide, c2] 25) :: (A1 ++ [(b4, .cells #[.int .i64 0, .slice none 0 0] 25)])) (fun _ => 0) () ((b5, .cells #[.int .i64 k.first.wide, c2] 25) :: (A1 ++ [(b4, .cells #[.int .i64 0, .slice none 0 0] 25)])) rfl ?_
    rintro _ O rfl
    repeat (first | refine R1 ?_ | (refine R2 ?_; intro _))
    refine sf_cond (by rfl) (fun e => by cases e) fun _ => ?_
    refine sf_exit ?_
    repeat (first | refine R1 ?_ | (refine R2 ?_; intro _))
    exact sf_ret (rt A1 (resV_one rfl (yr_cell rfl)) ⟨_, rfl, gridO_mk g1 l1⟩)
  · rw [he]
    refine fp (Rq ?_ (q_sliceHi (l := 0) (by infer_instance) (by infer_instance) (by rfl) (by rfl) (by simp)))
    repeat (first | refine R1 ?_ | (refine R2 ?_; intro _))
    rename_i b2 b4 b5
    refine sf_lp (ι := Unit) [4, 5, 14, 15] (fun _ => [(16, .int .i64 0)]) (fun _ O => O = (b5, .cells #[.int .i64 k.first.wide, c2] 25) :: (A1 ++ [(b4, .cells #[.int .i64 0, .slice none 0 0] 25)])) (fun _ => 0) () ((b5, .cells #[.int .i64 k.first.wide, c2] 25) :: (A1 ++ [(b4, .cells #[.int .i64 0, .slice none 0 0] 25)])) rfl ?_
    rintro _ O rfl
    repeat (first | refine R1 ?_ | (refine R2 ?_; intro _))
    refine sf_cond (by rfl) (fun e => by cases e) fun _ => ?_
    refine sf_exit ?_
    repeat (first | refine R1 ?_ | (refine R2 ?_; intro _))
    exact sf_ret (rt A1 (resV_one rfl (yr_cell rfl)) ⟨_, rfl, gridO_mk g1 l1⟩)
theorem editsOk_nil (h : PHeap) (v : Value) (s : Sl h v editF ([] : List Edit)) (gl : List Value) (o0 : AllOne gl) : CallV Tryz.prog M 31 [.agg gl.toArray, v] h (.bool true) := by
  have o1 := s.one
  refine calls_of_sf Tryz.func31 rfl Tryz.ntmps31 ?_
  simp only [argsL, Nat.reduceAdd]
  repeat (first | refine R1 ?_ | (refine R2 ?_; intro _))
  refine sf_lp (ι := Unit) [2, 7, 8] (fun _ => [(9, .int .i64 0)]) (fun _ O => O = []) (fun _ => 0) () [] rfl ?_
  rintro _ O rfl
  repeat (first | refine R1 ?_ | (refine R2 ?_; intro _))
  refine sf_cond (by rfl) (fun e => by cases e) fun _ => ?_
  refine sf_exit ?_
  repeat (first | refine R1 ?_ | (refine R2 ?_; intro _))
  exact sf_ret (rV rfl)
theorem partCheck_begun (h : PHeap) (ca : List Value) (k : Keeper) (b : (keeperR τ).B h ca k) (bg : Begun k) (z : Int) (i : Nat) (hz : z = i + 1) (hi : i < k.parts.length) : CallV Tryz.prog M 32 [.agg ca.toArray, .int .i64 z] h .nilIface := by
  obtain ⟨c, e, p, s, rfl, s1, s2, s3, s4⟩ := keeperB b
  have o1 := s1.one
  have o2 := s2.one
  have o3 := s3.one
  have o4 := s4.one
  obtain ⟨rp, sp, bp⟩ := s3
  have lp := bp.len
  have b4 := bp.at hi
  rw [bg.parts i hi] at b4
  obtain ⟨l, ex, sl⟩ := partB b4
  have ol := sl.one
  have ez : (z - 1).toNat = i := by omega
  haveI : FlatV (rawF (partR τ).sz) (gt rp (z - 1).toNat) [.bool false, .int .i64 0, l] := ⟨by rw [ez]; exact ex⟩
  have hsm := sp.small
  have hi' : i < rp.length := by omega
  refine calls_of_sf Tryz.func32 rfl Tryz.ntmps32 ?_
  simp only [argsL, Nat.reduceAdd]
  repeat (first | refine R1 ?_ | (refine R2 ?_; intro _))
  refine sf_cond (by rfl) (fun _ => ?_) (fun e => by cases e)
  repeat (first | refine R1 ?_ | (refine R2 ?_; intro _))
  refine sf_if (fun e => ?_) fun e => ?_
  · exact absurd rfl e
  repeat (first | refine R1 ?_ | (refine R2 ?_; intro _))
  exact sf_ret (rV rfl)
theorem keepCheck_begun (h : PHeap) (ca : List Value) (k : Keeper) (b : (keeperR τ).B h ca k) (bg : Begun k) : CallV Tryz.prog M 24 [.agg ca.toArray] h .nilIface := by
  have b0 := b
  obtain ⟨c, ed, p, s, rfl, s1, s2, s3, s4⟩ := keeperB b
  have o1 := s1.one
  have o2 := s2.one
  have o3 := s3.one
  have o4 := s4.one
  obtain ⟨rp, sp, bp⟩ := s3
  obtain ⟨rs, ss, bs⟩ := s4
  have lp := bp.len
  have ls := bs.len
  have n1 := bg.n1
  have n3 := bg.n3
  have es : k.shown.length = 0 := by rw [bg.shown]; rfl
  have ee : k.edits.length = 0 := by rw [bg.edits]; rfl
  have s2' := s2
  rw [bg.edits] at s2'
  refine calls_of_sf Tryz.func24 rfl Tryz.ntmps24 ?_
  simp only [argsL, Nat.reduceAdd]
  repeat (first | refine R1 ?_ | (refine R2 ?_; intro _))
  refine fp (y_callV (gridOk_v _ _ k.first (gridB_mk s1)) (by rfl) ?_)
  rw [bg.ok]
  repeat (first | refine R1 ?_ | (refine R2 ?_; intro _))
  refine sf_cond (by rfl) (fun e => by cases e) fun z1 => ?_
  clear z1
  repeat (first | refine R1 ?_ | (refine R2 ?_; intro _))
  refine f_split (fun g1 => ?_) fun g1 => ?_
  · omega
  repeat (first | refine R1 ?_ | (refine R2 ?_; intro _))
  refine sf_if (fun g2 => ?_) fun g2 => ?_
  · omega
  have e60 : ¬ ((([] : List Edit).length : Nat) : Int) > 60 := by decide
  repeat (first | refine R1 ?_ | (refine R2 ?_; intro _))
  refine fp (y_callV (editsOk_nil _ _ s2' [.int .i64 k.first.wide, c] inferInstance) (by rfl) ?_)
  repeat (first | refine R1 ?_ | (refine R2 ?_; intro _))
  refine sf_cond (by rfl) (fun e => by cases e) fun z1 => ?_
  clear z1
  repeat (first | refine R1 ?_ | (refine R2 ?_; intro _))
  rename_i b1
  refine sf_lp (ι := Nat) [1] (fun i => [(3, .int .i64 ((i : Int) + 1))]) (fun i O => i ≤ rp.length ∧ O = [(b1, .cells #[.int .i64 k.first.wide, c, ed, p, s] 32)]) (fun i => rp.length - i) 0 [(b1, .cells #[.int .i64 k.first.wide, c, ed, p, s] 32)] ⟨by omega, rfl⟩ ?_
  rintro i O ⟨hi, rfl⟩
  repeat (first | refine R1 ?_ | (refine R2 ?_; intro _))
  refine sf_if (fun e1 => ?_) fun e1 => ?_
  · have hi1 : i < k.parts.length := by omega
    repeat (first | refine R1 ?_ | (refine R2 ?_; intro _))
    refine fp (y_callV (partCheck_begun _ _ k b0 bg ((i : Int) + 1) i rfl hi1) (by rfl) ?_)
    repeat (first | refine R1 ?_ | (refine R2 ?_; intro _))
    refine fp (Rq ?_ (q_neqI (.inl ⟨rfl, rfl⟩) (by infer_instance) (by rfl)))
    repeat (first | refine R1 ?_ | (refine R2 ?_; intro _))
    refine sf_cond (by rfl) (fun e => by cases e) fun z1 => ?_
    clear z1
    repeat (first | refine R1 ?_ | (refine R2 ?_; intro _))
    exact ⟨i + 1, by omega, ⟨rfl, trivial⟩, rfl, _, _, inferInstance, by omega, rfl⟩
  · refine sf_exit ?_
    repeat (first | refine R1 ?_ | (refine R2 ?_; intro _))
    refine sf_lp (ι := Unit) [1, 55, 56] (fun _ => [(5, .int .i64 (-1)), (57, .int .i64 0)]) (fun _ O => O = [(b1, .cells #[.int .i64 k.first.wide, c, ed, p, s] 32)]) (fun _ => 0) () [(b1, .cells #[.int .i64 k.first.wide, c, ed, p, s] 32)] rfl ?_
    rintro _ O rfl
    repeat (first | refine R1 ?_ | (refine R2 ?_; intro _))
    refine sf_if (fun e2 => ?_) fun e2 => ?_
    · omega
    · refine sf_exit ?_
      repeat (first | refine R1 ?_ | (refine R2 ?_; intro _))
      exact sf_ret (rV rfl)
theorem keepOk_begun (h : PHeap) (ca : List Value) (k : Keeper) (b : (keeperR τ).B h ca k) (bg : Begun k) : CallV Tryz.prog M 10 [.agg ca.toArray] h (.bool true) := by
  have b0 := b
  obtain ⟨c, ed, p, s, rfl, s1, s2, s3, s4⟩ := keeperB b
  have o1 := s1.one
  have o2 := s2.one
  have o3 := s3.one
  have o4 := s4.one
  refine calls_of_sf Tryz.func10 rfl Tryz.ntmps10 ?_
  simp only [argsL, Nat.reduceAdd]
  repeat (first | refine R1 ?_ | (refine R2 ?_; intro _))
  refine fp (y_callV (keepCheck_begun _ _ k b0 bg) (by rfl) ?_)
  repeat (first | refine R1 ?_ | (refine R2 ?_; intro _))
  refine fp (y_callV (refused_nil _) (by rfl) ?_)
  repeat (first | refine R1 ?_ | (refine R2 ?_; intro _))
  exact sf_ret (rV rfl)
theorem keepGrid_begun (h : PHeap) (ca : List Value) (k : Keeper) (b : (keeperR τ).B h ca k) (bg : Begun k) : CallF Tryz.prog M 8 [.agg ca.toArray, .int .i64 0] [] h fun v A => ∃ cs, v = .tuple #[.agg cs.toArray, .bool true] ∧ (gridR τ).O A cs k.first := by
  have b0 := b
  obtain ⟨c, ed, p, s, rfl, s1, s2, s3, s4⟩ := keeperB b
  have o1 := s1.one
  have o2 := s2.one
  have o3 := s3.one
  have o4 := s4.one
  refine calls_of_sf Tryz.func8 rfl Tryz.ntmps8 ?_
  simp only [argsL, Nat.reduceAdd]
  repeat (first | refine R1 ?_ | (refine R2 ?_; intro _))
  refine fp (y_callV (keepOk_begun _ _ k b0 bg) (by rfl) ?_)
  repeat (first | refine R1 ?_ | (refine R2 ?_; intro _))
  refine fp (y_callV (keepVersion_nil _ _ k b0 0 (by omega) (by omega)) (by rfl) ?_)
  repeat (first | refine R1 ?_ | (refine R2 ?_; intro _))
  refine fp (y_callV (refused_nil _) (by rfl) ?_)
  repeat (first | refine R1 ?_ | (refine R2 ?_; intro _))
  refine sf_cond (by rfl) (fun e => by cases e) fun z1 => ?_
  clear z1
  repeat (first | refine R1 ?_ | (refine R2 ?_; intro _))
  refine fp (y_call (keepGridOf_begun _ _ k b0 bg) (by rfl) ?_)
  rintro _ A1 ⟨_, rfl, q⟩
  obtain ⟨c2, rfl, g1, l1⟩ := gridO q
  have o5 := g1.one
  repeat (first | refine R1 ?_ | (refine R2 ?_; intro _))
  exact sf_ret (rt A1 (resV_two rfl (yr_cell rfl) (res_tmp rfl)) ⟨_, rfl, gridO_mk g1 l1⟩)
end Go.Proofs.YtcefbjpebgofjaaGreatDoor

/- Walks of the seat: KF KH PA PB PC PD PE PF PG PH KG UA UB SA SB SC SD SI SJ TA TB SK TC VA VB G1 G2. -/
import Derived.Test.YtekjikbaefgncaaGreatDoorOwnA
import Derived.Test.YtekjikbaefgncaaGreatDoorLibC
import Derived.Test.YtekjikbaefgncaaGreatDoorLibD
import Derived.Test.YtekjikbaefgncaaGreatDoorLibE
import Derived.Test.YtekjikbaefgncaaGreatDoorLibF
import Derived.Test.YtekjikbaefgncaaGreatDoorLibG
import Derived.Test.YtekjikbaefgncaaGreatDoorSmYe
set_option linter.unusedVariables false
set_option linter.unusedSimpArgs false
set_option linter.unusedSectionVars false
namespace Go.Proofs.YtekjikbaefgncaaGreatDoor
open Go Go.Sl
set_option maxRecDepth 100000
set_option maxHeartbeats 4000000
attribute [local irreducible] Go.Code.sf sfOps Opq opo retF Do1 anyO
variable {M : Jdg → Prop} [IsCl Tryz.prog M]
theorem picOf1_v (h : PHeap) (c : Value) (g : Grid) (s : Sl h c cellF g.cells) (e : gridOk g = true) (b : Nat) [BAt h b (.cells #[.int .i64 g.wide, c] 34)] (k : Int) (hk : 0 ≤ k ∧ k < manyOf g) : CallV Tryz.prog M 191 [.int .i64 k, .pointer (some ⟨b, 0, none⟩)] h (.int .i64 (trailLight g k)) := by
  have o1 := s.one
  refine Cs Tryz.func191 Tryz.ntmps191 ?_
  refine Wo ?_
  refine Xv (trailLight_v h c g s e k hk) ?_
  refine Wo ?_
  exact sf_ret (rV rfl)
theorem picOf_f [al : Alone Tryz.prog M] (h : PHeap) (ca : List Value) (g : Grid) (b : (gridR τ).B h ca g) (e : gridOk g = true) : CallF Tryz.prog M 142 [.agg ca.toArray] [] h fun u A => Gr A u 3 intF (picOf g) := by
  obtain ⟨c, rfl, s⟩ := gridB b
  have o1 := s.one
  have kg := gok e
  have w1 := kg.w1; have w5 := kg.w5; have r1 := kg.r1; have r5 := kg.r5
  obtain ⟨ww, ew⟩ : ∃ ww : Nat, g.wide = ww := ⟨g.wide.toNat, by omega⟩
  obtain ⟨rr, er⟩ : ∃ rr : Nat, rowsOf g = rr := ⟨(rowsOf g).toNat, by omega⟩
  have hN : (manyOf g).toNat = stOf ww rr 4 := by
    simp only [stOf]; rw [manyOf, er, ew]; omega
  refine Cs Tryz.func142 Tryz.ntmps142 ?_
  repeat first | refine R1 ?_ | refine R2 fun _ => ?_
  refine Xv (gridOk_v _ _ g b) ?_
  rw [e]
  repeat first | refine R1 ?_ | refine R2 fun _ => ?_
  refine sf_cond (by rfl) (fun e => by cases e) fun z1 => ?_
  clear z1
  repeat first | refine R1 ?_ | refine R2 fun _ => ?_
  rename_i b1
  refine fp (y_lend [(b1, .cells #[.int .i64 g.wide, c] 34)] (fun h' l i => sidesInt_f h' _ g (gridB_mk (s.le l.le)) ww rr ew (by omega) (by omega) er (by omega) 191 #[] #[.pointer (some ⟨b1, 0, none⟩)] (fun k => trailLight g (k : Nat)) (fun M _ h'' sub k hk => ?_)) (by rfl) ?_)
  · haveI : BAt h'' b1 (.cells #[.int .i64 g.wide, c] 34) := ⟨sub _ _ (i.at' _ _ (by simp))⟩
    exact picOf1_v h'' c g ((s.le l.le).sub sub) e b1 k (by omega)
  intro v A gr
  rw [← hN] at gr
  repeat first | refine R1 ?_ | refine R2 fun _ => ?_
  exact sf_ret (rO A gr)
theorem partOf_f (h : PHeap) (ca : List Value) (g : Grid) (b : (gridR τ).B h ca g) (e : gridOk g = true) (pv : Value) (pic : List Int) (sp : Sl h pv intF pic) (hp : pic.length = (manyOf g).toNat) (id many : Nat) (h1 : 1 ≤ id) (h2 : id ≤ many) (h3 : many ≤ 3) :
    CallF Tryz.prog M 181 [.agg ca.toArray, pv, .int .i64 (id : Int), .int .i64 (many : Int)] [] h fun u A => Gr A u 3 intF (ownLights pic (manyOf g).toNat many id) := by
  obtain ⟨c, rfl, s⟩ := gridB b
  have o1 := s.one
  have o2 := sp.one
  have hm := (gok e).many
  obtain ⟨S, hS⟩ : ∃ S : Nat, manyOf g = S := ⟨(manyOf g).toNat, by omega⟩
  have hc : ∀ j, j < ownCnt S many id ↔ id - 1 + j * many < S := fun j => ownCnt_lt h1 h2 h3
  have hsm := sp.small
  refine Cs Tryz.func181 Tryz.ntmps181 ?_
  repeat first | refine R1 ?_ | refine R2 fun _ => ?_
  refine fp (y_call (paintOwn_f _ _ g b e id many h1 h2 h3) (by rfl) ?_)
  intro v A1 g1
  rw [hS] at hm hp g1 ⊢
  simp only [Int.toNat_natCast] at hp g1 ⊢
  have o3 := g1.one
  have hl := ownList_len S many id
  have hln : ownCnt S many id ≤ 20 := by
    rcases Nat.lt_or_ge 20 (ownCnt S many id) with h | h
    · have := (hc 20).1 h
      have : 20 * 1 ≤ 20 * many := Nat.mul_le_mul_left _ (by omega)
      omega
    · exact h
  have hat : ∀ j, j < ownCnt S many id → gt (ownList S many id) j = ((id - 1 + j * many : Nat) : Int) := fun j hj => ownList_at hj
  have hol : ∀ n, (ownList S many id).take n = ownList S many id → True := fun _ _ => trivial
  generalize hxs : ownList S many id = xs at *
  repeat first | refine R1 ?_ | refine R2 fun _ => ?_
  rename_i b3
  refine sf_lp (ι := Nat × Value) [1, 15, 16] (fun x => [(17, .int .i64 (x.1 : Int)), (9, x.2)]) (fun x O => x.1 ≤ xs.length ∧ ∃ A', O = A' ++ (A1 ++ [(b3, .cells #[.int .i64 g.wide, c] 34)]) ∧ Gr A' x.2 3 intF ((xs.take x.1).map fun k => gt pic k.toNat)) (fun x => xs.length - x.1) (0, .slice none 0 0) ([] ++ (A1 ++ [(b3, .cells #[.int .i64 g.wide, c] 34)])) ⟨by omega, [], rfl, Gr.nil _ _⟩ ?_
  rintro ⟨j, u⟩ O ⟨hj, A', rfl, gr⟩
  simp only at hj gr ⊢
  have o4 := gr.one
  have hlt : ((xs.take j).map fun k => gt pic k.toNat).length = j := by rw [List.length_map, List.length_take]; omega
  repeat first | refine R1 ?_ | refine R2 fun _ => ?_
  refine sf_if (fun h4 => ?_) fun h4 => ?_
  · have hj4 : j < ownCnt S many id := by omega
    have ha := hat j hj4
    have hb := (hc j).1 hj4
    have hstep : ((xs.take (j + 1)).map fun k => gt pic k.toNat) = ((xs.take j).map fun k => gt pic k.toNat) ++ [gt pic (id - 1 + j * many)] := by
      rw [take_succ_gt (by omega), List.map_append, ha]; rfl
    repeat first | refine R1 ?_ | refine R2 fun _ => ?_
    simp only [ha]
    repeat first | refine R1 ?_ | refine R2 fun _ => ?_
    refine Xb fun w Au gu => ?_
    repeat first | refine R1 ?_ | refine R2 fun _ => ?_
    refine Xa gr gu fun u2 A2 g2 => ?_
    repeat first | refine R1 ?_ | refine R2 fun _ => ?_
    exact ⟨(j + 1, u2), by simp only; omega, ⟨rfl, rfl, trivial⟩, rfl, A2 ++ (A1 ++ [(b3, .cells #[.int .i64 g.wide, c] 34)]), _, inferInstance, by simp only; omega, A2, rfl, by rw [hstep]; exact g2⟩
  · refine sf_exit ?_
    repeat first | refine R1 ?_ | refine R2 fun _ => ?_
    refine sf_ret (rO A' ?_)
    rw [ownLights, hxs, ← take_ge (xs := xs) hj (by omega)]; exact gr
theorem partCheck_f [al : Alone Tryz.prog M] (h : PHeap) (ca : List Value) (k : Keeper) (b : (keeperR τ).B h ca k) (hk : HeadOk k) (z : Int) (i : Nat) (hz : z = i + 1) (hi : i < k.parts.length) : CallF Tryz.prog M 140 [.agg ca.toArray, .int .i64 z] [] h fun u A => ErrIs u (!partOk k (i + 1) (gt k.parts i)) ∧ A = [] := by
  have b0 := b
  obtain ⟨c, ed, p, s, rfl, s1, s2, s3, s4⟩ := keeperB b
  have o1 := s1.one
  have o2 := s2.one
  have o3 := s3.one
  have o4 := s4.one
  have n3 := hk.n3
  obtain ⟨rp, sp, bp⟩ := s3
  have lp := bp.len
  obtain ⟨l, ex, sl⟩ := partB (bp.at hi)
  have ol := sl.one
  have hsl := sl.small
  have hsm := sp.small
  have hi' : i < rp.length := by omega
  generalize hpt : gt k.parts i = pt at *
  have ez : (z - 1).toNat = i := by omega
  haveI : FlatV (rawF (partR τ).sz) (gt rp (z - 1).toNat) [.bool pt.has, .int .i64 pt.ver, l] := ⟨by rw [ez]; exact ex⟩
  refine Cs Tryz.func140 Tryz.ntmps140 ?_
  repeat first | refine R1 ?_ | refine R2 fun _ => ?_
  refine sf_cond (by rfl) (fun e => ?_) fun e => ?_
  · simp only [Bool.not_eq_true'] at e
    repeat first | refine R1 ?_ | refine R2 fun _ => ?_
    refine f_split (fun h1 => ?_) fun h1 => ?_
    · repeat first | refine R1 ?_ | refine R2 fun _ => ?_
      refine sf_T rfl ?_
      repeat first | refine R1 ?_ | refine R2 fun _ => ?_
      exact sf_ret (rO [] ⟨.inr ⟨_, rfl, by simp [partOk, e, h1]⟩, rfl⟩)
    · repeat first | refine R1 ?_ | refine R2 fun _ => ?_
      refine sf_if (fun h2 => ?_) fun h2 => ?_
      · repeat first | refine R1 ?_ | refine R2 fun _ => ?_
        exact sf_ret (rO [] ⟨.inr ⟨_, rfl, by simp [partOk, e]; exact .inr fun h => h2 (by simp [h])⟩, rfl⟩)
      · repeat first | refine R1 ?_ | refine R2 fun _ => ?_
        exact sf_ret (rO [] ⟨.inl ⟨rfl, by simp [partOk, e]; exact ⟨by omega, List.eq_nil_of_length_eq_zero (by omega)⟩⟩, rfl⟩)
  · simp only [Bool.not_eq_false'] at e
    repeat first | refine R1 ?_ | refine R2 fun _ => ?_
    refine fp (y_call (keepVersion_f _ _ k b0 pt.ver) (by rfl) ?_)
    rintro u _ ⟨eu, rfl⟩
    have ou := eu.one
    repeat first | refine R1 ?_ | refine R2 fun _ => ?_
    refine fp (Rq ?_ (neqErr eu (by rfl)))
    repeat first | refine R1 ?_ | refine R2 fun _ => ?_
    refine sf_cond (by rfl) (fun h1 => ?_) fun h1 => ?_
    · rw [h1] at eu
      simp only [Bool.not_eq_true'] at h1
      repeat first | refine R1 ?_ | refine R2 fun _ => ?_
      exact sf_ret (rO [] ⟨by simpa [partOk, e, h1] using eu, rfl⟩)
    · simp only [Bool.not_eq_false'] at h1
      clear eu ou
      repeat first | refine R1 ?_ | refine R2 fun _ => ?_
      refine fp (y_call (keepGridOf_f _ _ k b0 hk pt.ver h1) (by rfl) ?_)
      rintro _ A1 ⟨cs, rfl, q⟩
      obtain ⟨c2, rfl, g1, l1⟩ := gridO q
      have o5 := g1.one
      have gok' := gridAt_ok hk.grid hk.edits pt.ver
      have eL : partLights k (i + 1) pt.ver = ownLights (picOf (gridAt k pt.ver)) (manyOf (gridAt k pt.ver)).toNat k.parts.length (i + 1) := by rw [partLights, gridAt_many]
      rw [show z = ((i + 1 : Nat) : Int) by omega]
      repeat first | refine R1 ?_ | refine R2 fun _ => ?_
      refine sf_draw (by kernel_rfl) (regX_own (A1) (Sw [[],[0],[],[],[3],[],[],[6],[6,7],[2,3,4,5,6,7,8],[0,1,2,3,4,5,6,7,8,9],[0,1,2,3,4,5,6,7,8,9,10]] 10 [Nn 0,Nn 1,Nn 2,Nn 3,Nn 5,Nn 6,Nn 7,Nn 8,Yy 4,Yy 9] ?_))
      refine Da ?_
      refine Yc (lendF A1 fun h' _ inb => picOf_f h' _ _ ((gridR τ).lent q inb) gok') ?_
      rintro v2 _ ⟨A2, rfl, g2⟩
      have o6 := g2.one
      refine Da ?_
      refine Yc (lendF (A1 ++ A2) fun h' _ inb => partOf_f h' _ _ ((gridR τ).lent q (inb_l inb)) gok' v2 _ (g2.lent (by rw [picOf_len]; have := (gok gok').many; omega) (inb_r inb)) (picOf_len _) (i + 1) rp.length (by omega) (by omega) (by omega)) ?_
      rintro v3 _ ⟨A3, rfl, g3⟩
      have o7 := g3.one
      rw [lp, ← eL] at g3
      refine Da ?_
      refine Ae ?_
      refine fp (y_lendV A3 (fun h' l' inb => intsEqual_v h' _ _ _ _ (sl.le l'.le) (g3.lent (by have := partLights_le hk (i + 1) pt.ver; omega) inb)) (by rfl) ?_)
      repeat first | refine R1 ?_ | refine R2 fun _ => ?_
      refine sf_cond (by rfl) (fun h2 => ?_) fun h2 => ?_
      · repeat first | refine R1 ?_ | refine R2 fun _ => ?_
        exact sf_ret (rO [] ⟨.inr ⟨_, rfl, by simp only [Bool.not_eq_true'] at h2; simp [partOk, e, h2]⟩, rfl⟩)
      · repeat first | refine R1 ?_ | refine R2 fun _ => ?_
        exact sf_ret (rO [] ⟨.inl ⟨rfl, by simp only [Bool.not_eq_false'] at h2; simp [partOk, e, h1, h2]⟩, rfl⟩)
theorem keepCheck_f [al : Alone Tryz.prog M] (h : PHeap) (ca : List Value) (k : Keeper) (b : (keeperR τ).B h ca k) : CallF Tryz.prog M 70 [.agg ca.toArray] [] h fun u A => ErrIs u (!keepOk k) ∧ A = [] := by
  have b0 := b
  obtain ⟨c, ed, p, s, rfl, s1, s2, s3, s4⟩ := keeperB b
  have o1 := s1.one
  have o2 := s2.one
  have o3 := s3.one
  have o4 := s4.one
  obtain ⟨rp, sp, bp⟩ := s3
  obtain ⟨rs, ss, bs⟩ := s4
  have lp := bp.len
  have ls := bs.len
  have hsp := sp.small
  have hss := ss.small
  have hs2 := s2.small
  have hN : keepHead k = false → keepOk k = false := fun e => by simp [keepOk, e]
  refine Cs Tryz.func70 Tryz.ntmps70 ?_
  repeat first | refine R1 ?_ | refine R2 fun _ => ?_
  refine Xv (gridOk_v _ _ k.first (gridB_mk s1)) ?_
  repeat first | refine R1 ?_ | refine R2 fun _ => ?_
  refine sf_cond (by rfl) (fun g0 => ?_) fun g0 => ?_
  · simp only [Bool.not_eq_true'] at g0
    repeat first | refine R1 ?_ | refine R2 fun _ => ?_
    exact sf_ret (rO [] ⟨.inr ⟨_, rfl, by rw [hN (by simp [keepHead, g0])]; rfl⟩, rfl⟩)
  simp only [Bool.not_eq_false'] at g0
  repeat first | refine R1 ?_ | refine R2 fun _ => ?_
  refine f_split (fun g1 => ?_) fun g1 => ?_
  · repeat first | refine R1 ?_ | refine R2 fun _ => ?_
    refine sf_T rfl ?_
    repeat first | refine R1 ?_ | refine R2 fun _ => ?_
    exact sf_ret (rO [] ⟨.inr ⟨_, rfl, by rw [hN (by simp [keepHead]; intros; omega)]; rfl⟩, rfl⟩)
  repeat first | refine R1 ?_ | refine R2 fun _ => ?_
  refine sf_if (fun g2 => ?_) fun g2 => ?_
  · repeat first | refine R1 ?_ | refine R2 fun _ => ?_
    exact sf_ret (rO [] ⟨.inr ⟨_, rfl, by rw [hN (by simp [keepHead]; intros; omega)]; rfl⟩, rfl⟩)
  repeat first | refine R1 ?_ | refine R2 fun _ => ?_
  refine f_split (fun g3 => ?_) fun g3 => ?_
  · repeat first | refine R1 ?_ | refine R2 fun _ => ?_
    refine sf_T rfl ?_
    repeat first | refine R1 ?_ | refine R2 fun _ => ?_
    exact sf_ret (rO [] ⟨.inr ⟨_, rfl, by rw [hN (by simp [keepHead]; intros; omega)]; rfl⟩, rfl⟩)
  repeat first | refine R1 ?_ | refine R2 fun _ => ?_
  refine Xv (editsOk_v _ c k.first s1 ed k.edits s2) ?_
  repeat first | refine R1 ?_ | refine R2 fun _ => ?_
  refine sf_cond (by rfl) (fun g4 => ?_) fun g4 => ?_
  · simp only [Bool.not_eq_true'] at g4
    repeat first | refine R1 ?_ | refine R2 fun _ => ?_
    exact sf_ret (rO [] ⟨.inr ⟨_, rfl, by rw [hN (by simp [keepHead, g4])]; rfl⟩, rfl⟩)
  simp only [Bool.not_eq_false'] at g4
  have hk : HeadOk k := ⟨g0, by omega, by omega, by omega, g4⟩
  have hK := hk.is
  have hF : ∀ {b : Bool}, (partsOk k k.parts.length && shownsOk k k.shown.length) = b → keepOk k = b := fun e => by rw [keepOk, hK, Bool.true_and]; exact e
  clear hN
  repeat first | refine R1 ?_ | refine R2 fun _ => ?_
  rename_i b1
  refine sf_lp (ι := Nat) [1] (fun i => [(3, .int .i64 ((i : Int) + 1))]) (fun i O => (i ≤ rp.length ∧ partsOk k i = true) ∧ O = [(b1, .cells #[.int .i64 k.first.wide, c, ed, p, s] 39)]) (fun i => rp.length - i) 0 [(b1, .cells #[.int .i64 k.first.wide, c, ed, p, s] 39)] ⟨⟨by omega, rfl⟩, rfl⟩ ?_
  rintro i O ⟨⟨hi, hpi⟩, rfl⟩
  repeat first | refine R1 ?_ | refine R2 fun _ => ?_
  refine sf_if (fun e1 => ?_) fun e1 => ?_
  · have hi1 : i < k.parts.length := by omega
    repeat first | refine R1 ?_ | refine R2 fun _ => ?_
    refine fp (y_call (partCheck_f _ _ k b0 hk ((i : Int) + 1) i rfl hi1) (by rfl) ?_)
    rintro u _ ⟨eu, rfl⟩
    have ou := eu.one
    repeat first | refine R1 ?_ | refine R2 fun _ => ?_
    refine fp (Rq ?_ (neqErr eu (by rfl)))
    repeat first | refine R1 ?_ | refine R2 fun _ => ?_
    refine sf_cond (by rfl) (fun h1 => ?_) fun h1 => ?_
    · rw [h1] at eu
      simp only [Bool.not_eq_true'] at h1
      repeat first | refine R1 ?_ | refine R2 fun _ => ?_
      exact sf_ret (rO [] ⟨by rw [hF (b := false) (by rw [partsOk_F hi1 h1]; rfl)]; exact eu, rfl⟩)
    · simp only [Bool.not_eq_false'] at h1
      repeat first | refine R1 ?_ | refine R2 fun _ => ?_
      exact ⟨i + 1, by omega, ⟨rfl, trivial⟩, rfl, _, _, inferInstance, ⟨by omega, by rw [partsOk_step, hpi, h1]; rfl⟩, rfl⟩
  · refine sf_exit ?_
    have hpo : partsOk k k.parts.length = true := by rw [show k.parts.length = i by omega]; exact hpi
    clear hpi hi e1
    repeat first | refine R1 ?_ | refine R2 fun _ => ?_
    refine sf_lp (ι := Nat) [1, 55, 56] (fun i => [(5, .int .i64 (prevVer k i)), (57, .int .i64 (i : Int))]) (fun i O => (i ≤ rs.length ∧ shownsOk k i = true) ∧ O = [(b1, .cells #[.int .i64 k.first.wide, c, ed, p, s] 39)]) (fun i => rs.length - i) 0 [(b1, .cells #[.int .i64 k.first.wide, c, ed, p, s] 39)] ⟨⟨by omega, rfl⟩, rfl⟩ ?_
    rintro j O ⟨⟨hi, hpi⟩, rfl⟩
    repeat first | refine R1 ?_ | refine R2 fun _ => ?_
    refine sf_if (fun e2 => ?_) fun e2 => ?_
    · have hi1 : j < k.shown.length := by omega
      have hi2 : j < rs.length := by omega
      obtain ⟨l, ex, sl⟩ := shownB (bs.at hi1)
      have ol := sl.one
      have hsl := sl.small
      haveI : FlatV (rawF (shownR τ).sz) (gt rs j) [.int .i64 (gt k.shown j).ver, l] := ⟨ex⟩
      repeat first | refine R1 ?_ | refine R2 fun _ => ?_
      refine fp (y_call (keepVersion_f _ _ k b0 (gt k.shown j).ver) (by rfl) ?_)
      rintro u _ ⟨eu, rfl⟩
      have ou := eu.one
      repeat first | refine R1 ?_ | refine R2 fun _ => ?_
      refine fp (Rq ?_ (neqErr eu (by rfl)))
      repeat first | refine R1 ?_ | refine R2 fun _ => ?_
      refine sf_cond (by rfl) (fun h1 => ?_) fun h1 => ?_
      · rw [h1] at eu
        simp only [Bool.not_eq_true'] at h1
        repeat first | refine R1 ?_ | refine R2 fun _ => ?_
        exact sf_ret (rO [] ⟨by rw [hF (b := false) (by rw [shownsOk_F hi1 (by simp [shownOk, h1])]; simp)]; exact eu, rfl⟩)
      simp only [Bool.not_eq_false'] at h1
      clear eu ou
      have hvr := h1
      simp only [verOk, Bool.and_eq_true, decide_eq_true_eq] at hvr
      by_cases h2 : (gt k.shown j).ver ≤ prevVer k j
      · repeat first | refine R1 ?_ | refine R2 fun _ => ?_
        refine Sd [[],[0],[],[0,1,2],[0,1,2,3],[0,1,2,3,4],[0,1,2,3,4,5],[0,1,2,3,4],[0,1,2,3,4],[0,1,2,3,4,8],[0,1,2,3,4,7,8,9],[0,1,2,3,4,7,8,9,10],[0,1,2,3,4,5,6,7,8,9,10,11],[0,1,2,3,4,5,6,7,8,9,10,11,12],[0,1,2,3,4,5,6,7,8,9,10,11,12,13]] 12 [Nn 0,Nn 1,Nn 2,Nn 3,Nn 4,Nn 5,Nn 6,Nn 7,Nn 8,Nn 9,Nn 10,Nn 11] ?_
        refine Da ?_
        refine Ae ?_
        repeat first | refine R1 ?_ | refine R2 fun _ => ?_
        refine sf_T rfl ?_
        repeat first | refine R1 ?_ | refine R2 fun _ => ?_
        exact sf_ret (rO [] ⟨.inr ⟨_, rfl, by rw [hF (b := false) (by rw [shownsOk_F hi1 (by simp [shownOk]; intros; omega)]; simp)]; rfl⟩, rfl⟩)
      · have gok' := gridAt_ok hk.grid hk.edits (gt k.shown j).ver
        repeat first | refine R1 ?_ | refine R2 fun _ => ?_
        refine Sd [[],[0],[],[0,1,2],[0,1,2,3],[0,1,2,3,4],[0,1,2,3,4,5],[0,1,2,3,4],[0,1,2,3,4],[0,1,2,3,4,8],[0,1,2,3,4,7,8,9],[0,1,2,3,4,7,8,9,10],[0,1,2,3,4,5,6,7,8,9,10,11],[0,1,2,3,4,5,6,7,8,9,10,11,12],[0,1,2,3,4,5,6,7,8,9,10,11,12,13]] 12 [Nn 0,Nn 1,Nn 2,Nn 3,Nn 4,Nn 5,Nn 6,Nn 7,Nn 8,Nn 9,Yy 10,Yy 11] ?_
        refine Da ?_
        refine a_call (keepGridOf_f _ _ k b0 hk (gt k.shown j).ver h1) (by rfl) (by rfl) (.inr ⟨_, _, _, _, rfl, by rfl, by rfl, decide_eq_false h2⟩) ?_
        rintro _ A1 ⟨cs, rfl, q⟩
        obtain ⟨c2, rfl, g1, l1⟩ := gridO q
        have o5 := g1.one
        refine Da ?_
        refine a_call (lendF A1 fun h' _ inb => picOf_f h' _ _ ((gridR τ).lent q inb) gok') (by rfl) (by rfl) (.inr ⟨_, _, _, _, rfl, by rfl, by rfl, decide_eq_false h2⟩) ?_
        rintro v2 _ ⟨A2, rfl, g2⟩
        have o6 := g2.one
        refine Da ?_
        refine Ae ?_
        refine fp (y_lendV A2 (fun h' l' inb => intsEqual_v h' _ _ _ _ (sl.le l'.le) (g2.lent (by rw [picOf_len]; have := (gok gok').many; omega) inb)) (by rfl) ?_)
        repeat first | refine R1 ?_ | refine R2 fun _ => ?_
        refine sf_cond (by rfl) (fun h3 => ?_) fun h3 => ?_
        · repeat first | refine R1 ?_ | refine R2 fun _ => ?_
          exact sf_ret (rO [] ⟨.inr ⟨_, rfl, by rw [hF (b := false) (by rw [shownsOk_F hi1 (by simp only [Bool.not_eq_true'] at h3; simp [shownOk, h3])]; simp)]; rfl⟩, rfl⟩)
        · simp only [Bool.not_eq_false'] at h3
          repeat first | refine R1 ?_ | refine R2 fun _ => ?_
          refine ⟨j + 1, by omega, ⟨?_, rfl, trivial⟩, rfl, [(b1, .cells #[.int .i64 k.first.wide, c, ed, p, s] 39)], _, inferInstance, ⟨by omega, ?_⟩, rfl⟩
          · simp only [prevVer, Nat.add_sub_cancel, show ¬ (j + 1 = 0) by omega, if_false]; rfl
          · rw [shownsOk_step, hpi, Bool.true_and, shownOk, h1, h3]; simp; omega
    · refine sf_exit ?_
      repeat first | refine R1 ?_ | refine R2 fun _ => ?_
      exact sf_ret (rO [] ⟨.inl ⟨rfl, by rw [hF (b := true) (by rw [hpo, show k.shown.length = j by omega, hpi]; rfl)]; rfl⟩, rfl⟩)
theorem keepOk_v [al : Alone Tryz.prog M] (h : PHeap) [BAt h 0 errObj] (ca : List Value) (k : Keeper) (b : (keeperR τ).B h ca k) : CallV Tryz.prog M 15 [.agg ca.toArray] h (.bool (keepOk k)) := by
  have b0 := b
  obtain ⟨c, ed, p, s, rfl, s1, s2, s3, s4⟩ := keeperB b
  have o1 := s1.one
  have o2 := s2.one
  have o3 := s3.one
  have o4 := s4.one
  refine Cs Tryz.func15 Tryz.ntmps15 ?_
  repeat first | refine R1 ?_ | refine R2 fun _ => ?_
  refine fp (y_call (keepCheck_f _ _ k b0) (by rfl) ?_)
  rintro u _ ⟨eu, rfl⟩
  have ou := eu.one
  repeat first | refine R1 ?_ | refine R2 fun _ => ?_
  refine Xv (refused_v _ u _ eu) ?_
  repeat first | refine R1 ?_ | refine R2 fun _ => ?_
  refine sf_ret (rV ?_)
  simp
theorem trailFoot_f (h : PHeap) (c : Value) (g : Grid) (s : Sl h c cellF g.cells) (e : gridOk g = true) (k : Int) (hk : 0 ≤ k ∧ k < manyOf g) : CallF Tryz.prog M 265 [.agg #[.int .i64 g.wide, c], .int .i64 k] [] h fun u A => Gr A u 3 intF (footOf g k) := by
  have o1 := s.one
  have kg := gok e
  obtain ⟨sz, vs, es, hc, hg, hsz, hok⟩ := goLight_is kg hk.1 hk.2
  have hlv := hok.lv
  have hvs : ∀ v ∈ vs, 0 ≤ v.at' ∧ v.at' < g.cells.length := fun v hv => ⟨(hok.vs v hv).a0, (hok.vs v hv).a1⟩
  simp only at hlv
  refine Cs Tryz.func265 Tryz.ntmps265 ?_
  repeat first | refine R1 ?_ | refine R2 fun _ => ?_
  refine fp (y_call (trailOf_f h c g s e k hk) (by rfl) ?_)
  rintro _ _ ⟨vv, ev, AV, AE, rfl, rfl, gv, ge⟩
  rw [hg] at gv ge
  have ov := gv.one
  have oe := ge.one
  simp only at ge gv
  have hfoot : compactF (sortF (vs.map Visit.at')) = footOf g k := by rw [foot_sorted g vs hvs, footOf, hg]
  clear hc hg
  repeat first | refine R1 ?_ | refine R2 fun _ => ?_
  rename_i b2
  refine sf_lp (ι := Nat × Value) [11, 12] (fun x => [(5, x.2), (13, .int .i64 (x.1 : Int))]) (fun x O => x.1 ≤ vs.length ∧ ∃ A xs, O = A ++ (AV ++ (AE ++ [(b2, .cells #[.int .i64 g.wide, c] 34)])) ∧ xs = (vs.take x.1).map Visit.at' ∧ Gr A x.2 3 intF xs) (fun x => vs.length - x.1) (0, .slice none 0 0) ([] ++ (AV ++ (AE ++ [(b2, .cells #[.int .i64 g.wide, c] 34)]))) ⟨by simp only; omega, [], [], rfl, rfl, Gr.nil _ _⟩ ?_
  rintro ⟨j, w⟩ O ⟨hj, A, xs, rfl, hxs, gx⟩
  simp only at hj hxs gx ⊢
  have lx : xs.length = j := by rw [hxs]; simp; omega
  have ow := gx.one
  repeat first | refine R1 ?_ | refine R2 fun _ => ?_
  refine sf_if (fun e1 => ?_) fun e1 => ?_
  · have hj1 : j < vs.length := by omega
    repeat first | refine R1 ?_ | refine R2 fun _ => ?_
    rename_i b7
    refine Xb fun u Au gu => ?_
    repeat first | refine R1 ?_ | refine R2 fun _ => ?_
    refine Xa gx gu fun w2 A2 g2 => ?_
    repeat first | refine R1 ?_ | refine R2 fun _ => ?_
    exact ⟨(j + 1, w2), by simp only; omega, ⟨rfl, rfl, trivial⟩, rfl, A2 ++ (AV ++ (AE ++ [(b2, .cells #[.int .i64 g.wide, c] 34)])), _, inferInstance, by simp only; omega, A2, _, rfl, by simp only; rw [take_succ_gt hj1, List.map_append, ← hxs]; rfl, g2⟩
  · refine sf_exit ?_
    obtain rfl : j = vs.length := by omega
    rw [List.take_of_length_le (Nat.le_refl _)] at hxs
    repeat first | refine R1 ?_ | refine R2 fun _ => ?_
    refine fp (y_call (sort_f (M := M) _ w A xs gx (by omega)) (by rfl) ?_)
    rintro _ A2 ⟨rfl, g2⟩
    repeat first | refine R1 ?_ | refine R2 fun _ => ?_
    refine fp (y_call (compact_f (M := M) _ w A2 _ g2 (by rw [sortF_len]; omega)) (by rfl) ?_)
    intro w3 A3 g3
    repeat first | refine R1 ?_ | refine R2 fun _ => ?_
    refine sf_ret (rO A3 ?_)
    rw [← hfoot, ← hxs]; exact g3
instance : EqFl Tryz.prog 67 cellF := eqFl_cell inferInstance (inferInstance : Ty Tryz.prog 3 _ 1 _ _) (by kernel_rfl)
theorem cellsEqual_v (h : PHeap) (a b : Value) (xs ys : List Cell) (sx : Sl h a cellF xs) (sy : Sl h b cellF ys) : CallV Tryz.prog M 211 [a, b] h (.bool (decide (xs = ys))) := by
  have o1 := sx.one
  have o2 := sy.one
  have hx := sx.small
  have hy := sy.small
  refine Cs Tryz.func211 Tryz.ntmps211 ?_
  refine Wo ?_
  refine sf_if (fun e0 => ?_) fun e0 => ?_
  · refine Wo ?_
    exact sf_ret (rV (bF fun e => e0 (by rw [e])))
  have hl : xs.length = ys.length := by omega
  refine Wo ?_
  refine sf_rd [0, 1, 12] 13 xs.length 0 (fun k => xs.take k = ys.take k) (by omega) rfl (fun k hk hi => ?_)
  refine Wo ?_
  refine sf_if (fun h4 => ?_) fun h4 => ?_
  · have hk4 : k < xs.length := by omega
    have hk5 : k < ys.length := by omega
    refine Wo ?_
    refine Sd [[],[],[0,1],[0,1,2],[],[],[4,5],[4,5,6],[0,1,2,3,4,5,6,7]] 8 [Nn 0,Nn 1,Nn 2,Nn 3,Nn 4,Nn 5,Nn 6,Nn 7] ?_
    refine Da ?_
    refine Ae ?_
    refine fp (Rq ?_ (q_neqS (E := cellF) (a := gt xs k) (b := gt ys k) inferInstance (by rfl) (by rfl)))
    refine Wo ?_
    refine sf_ifn (fun e1 => ?_) fun e1 => ?_
    · refine Wo ?_
      exact sf_ret (rV (bF (eq_at e1)))
    · refine Wo ?_
      exact ⟨⟨hk4, eq_step hk4 hk5 hi e1⟩, rfl, rfl, _, inferInstance⟩
  · refine sf_exit ?_
    refine Wo ?_
    exact sf_ret (rV (bT (eq_end hl (by omega) hi)))
theorem equalFunc_v (h : PHeap) (a b : Value) (xs ys : List (List Int)) (sx : SlR (intSR τ) h a xs) (sy : SlR (intSR τ) h b ys) : CallV Tryz.prog M 235 [a, b, .func (.func 141) #[] #[]] h (.bool (decide (xs = ys))) := by
  have o1 := sx.one
  have o2 := sy.one
  obtain ⟨rx, sx, bx⟩ := sx
  obtain ⟨ry, sy, by'⟩ := sy
  have lx := bx.len
  have ly := by'.len
  have hx := sx.small
  have hy := sy.small
  refine Cs Tryz.func235 Tryz.ntmps235 ?_
  refine Wo ?_
  refine sf_if (fun e0 => ?_) fun e0 => ?_
  · refine Wo ?_
    exact sf_ret (rV (bF fun e => e0 (by rw [lx, ly, e])))
  have hl : xs.length = ys.length := by omega
  refine Wo ?_
  refine sf_rd [0, 1, 2, 15, 16] 17 xs.length 0 (fun k => xs.take k = ys.take k) (by omega) rfl (fun k hk hi => ?_)
  refine Wo ?_
  refine sf_if (fun h4 => ?_) fun h4 => ?_
  · have hk4 : k < xs.length := by omega
    have hk5 : k < ys.length := by omega
    have bx4 := bx.at hk4
    have by4 := by'.at hk5
    have hk6 : k < rx.length := by omega
    have hk7 : k < ry.length := by omega
    obtain ⟨vx, ex, sx4⟩ := bx4
    obtain ⟨vy, ey, sy4⟩ := by4
    haveI : FlatV (rawF (intSR τ).sz) (gt rx k) [vx] := ⟨ex⟩
    haveI : FlatV (rawF (intSR τ).sz) (gt ry k) [vy] := ⟨ey⟩
    have o3 := sx4.one
    have o4 := sy4.one
    refine Wo ?_
    refine fp (y_callCV (first := #[]) (captured := #[]) (vs := [vx, vy]) (by simpa using intsEqual_v (M := M) _ _ _ _ _ sx4 sy4) (by rfl) (by rfl) ?_)
    refine Wo ?_
    refine sf_ifn (fun e1 => ?_) fun e1 => ?_
    · refine Wo ?_
      exact sf_ret (rV (bF (eq_at e1)))
    · refine Wo ?_
      exact ⟨⟨hk4, eq_step hk4 hk5 hi (by exact e1)⟩, rfl, rfl, _, inferInstance⟩
  · refine sf_exit ?_
    refine Wo ?_
    exact sf_ret (rV (bT (eq_end hl (by omega) hi)))
theorem gridSame_v (h : PHeap) (ca cb : List Value) (x y : Grid) (bx : (gridR τ).B h ca x) (by' : (gridR τ).B h cb y) : CallV Tryz.prog M 179 [.agg ca.toArray, .agg cb.toArray] h (.bool (decide (x = y))) := by
  obtain ⟨c1, rfl, s1⟩ := gridB bx
  obtain ⟨c2, rfl, s2⟩ := gridB by'
  have o1 := s1.one
  have o2 := s2.one
  refine Cs Tryz.func179 Tryz.ntmps179 ?_
  repeat first | refine R1 ?_ | refine R2 fun _ => ?_
  refine f_split (fun e1 => ?_) fun e1 => ?_
  · repeat first | refine R1 ?_ | refine R2 fun _ => ?_
    refine Xv (cellsEqual_v _ _ _ _ _ s1 s2) ?_
    repeat first | refine R1 ?_ | refine R2 fun _ => ?_
    refine sf_ret (rV ?_)
    congr 1
    cases x; cases y; simp_all
  · repeat first | refine R1 ?_ | refine R2 fun _ => ?_
    refine sf_ret (rV ?_)
    congr 1
    cases x; cases y; simp_all
theorem sceneSame_v (h : PHeap) (ca cb : List Value) (x y : Scene) (bx : (sceneR τ).B h ca x) (by' : (sceneR τ).B h cb y) : CallV Tryz.prog M 210 [.agg ca.toArray, .agg cb.toArray] h (.bool (decide (x = y))) := by
  obtain ⟨c1, l1, f1, rfl, s1, t1, u1⟩ := sceneB bx
  obtain ⟨c2, l2, f2, rfl, s2, t2, u2⟩ := sceneB by'
  have o1 := s1.one
  have o2 := s2.one
  have o3 := t1.one
  have o4 := t2.one
  have o5 := u1.one
  have o6 := u2.one
  refine Cs Tryz.func210 Tryz.ntmps210 ?_
  repeat first | refine R1 ?_ | refine R2 fun _ => ?_
  refine Xv (gridSame_v _ _ _ x.grid y.grid (gridB_mk s1) (gridB_mk s2)) ?_
  repeat first | refine R1 ?_ | refine R2 fun _ => ?_
  refine f_split (fun e1 => ?_) fun e1 => ?_
  · repeat first | refine R1 ?_ | refine R2 fun _ => ?_
    refine Xv (intsEqual_v _ _ _ _ _ t1 t2) ?_
    repeat first | refine R1 ?_ | refine R2 fun _ => ?_
    refine f_split (fun e2 => ?_) fun e2 => ?_
    · repeat first | refine R1 ?_ | refine R2 fun _ => ?_
      refine Xv (equalFunc_v _ _ _ _ _ u1 u2) ?_
      repeat first | refine R1 ?_ | refine R2 fun _ => ?_
      refine sf_ret (rV ?_)
      congr 1
      cases x; cases y; simp_all
    · repeat first | refine R1 ?_ | refine R2 fun _ => ?_
      refine sf_ret (rV ?_)
      congr 1
      cases x; cases y; simp_all
  · repeat first | refine R1 ?_ | refine R2 fun _ => ?_
    refine sf_ret (rV ?_)
    congr 1
    cases x; cases y; simp_all
instance : ElemF Tryz.prog 70 (rawF (intSR τ).sz) := ⟨trivial⟩
theorem sceneOf_f [al : Alone Tryz.prog M] (h : PHeap) (ca : List Value) (g : Grid) (b : (gridR τ).B h ca g) (e : gridOk g = true) : CallF Tryz.prog M 234 [.agg ca.toArray] [] h fun u A => ∃ cs, u = .agg cs.toArray ∧ (sceneR τ).O A cs (sceneOf g) := by
  obtain ⟨c, rfl, s⟩ := gridB b
  have o1 := s.one
  have kg := gok e
  have hm := kg.many
  have hsm := kg.small
  obtain ⟨N, hN⟩ : ∃ N : Nat, manyOf g = N := ⟨(manyOf g).toNat, by omega⟩
  have hf : feetOf g = (List.range N).map fun k => footOf g (k : Nat) := by rw [feetOf, hN]; rfl
  refine Cs Tryz.func234 Tryz.ntmps234 ?_
  repeat first | refine R1 ?_ | refine R2 fun _ => ?_
  rename_i b1 b2
  apply viaT (G := ∀ (c2 p2 : Value) (AC AP : Own) (b3 : Nat), Gr AC c2 67 cellF g.cells → Gr AP p2 3 intF (picOf g) → _)
  · intro tail
    refine sf_draw (by kernel_rfl) (regX_split 1 5 (by rfl) (regX_split 3 5 (by rfl) ?_ ?_) ?_)
    case' refine_1 =>
      refine Sr [[],[0],[],[0,1,2],[0,1,2,3],[0,1,2,3],[0,1,2,3,4,5]] 6 [Nn 0,Nn 2,Yy 1,Yy 3,Nn 4,Yy 5] ?_
      refine Da ?_
      refine Yc (gridCopy_f _ _ g (gridB_mk s) (by omega)) ?_
      rintro _ AC ⟨_, rfl, q⟩
      obtain ⟨c2, rfl, g1, l1⟩ := gridO q
      have o5 := g1.one
      refine Da ?_
      refine Yc (picOf_f (M := M) _ _ g (gridB_mk s) e) ?_
      intro p2 AP gp
      have o6 := gp.one
      refine Da ?_
      refine Yl fun b3 => ?_
      refine Da ?_
      refine Ae ?_
      repeat first | refine R1 ?_ | refine R2 fun _ => ?_
      refine fops_keep [1, 2, 3, 10] ?_
      refine fops_own ((b3, .cells #[.int .i64 g.wide, c2, p2, .slice none 0 0] 167) :: (AC ++ (AP ++ [(b2, .cells #[.int .i64 0, .slice none 0 0, .slice none 0 0, .slice none 0 0] 167), (b1, .cells #[.int .i64 g.wide, c] 34)]))) ?_
      exact tail.out c2 p2 AC AP b3 g1 gp
    case' refine_2 =>
      refine Sr [[],[0],[],[0,1,2,5],[0,1,2,3,5],[0,1],[0,1,2,3,4,5]] 6 [Nn 0,Nn 2,Yy 1,Yy 5,Yy 3,Nn 4] ?_
      refine Da ?_
      refine Yc (gridCopy_f _ _ g (gridB_mk s) (by omega)) ?_
      rintro _ AC ⟨_, rfl, q⟩
      obtain ⟨c2, rfl, g1, l1⟩ := gridO q
      have o5 := g1.one
      refine Da ?_
      refine Yl fun b3 => ?_
      refine Da ?_
      refine Yc (picOf_f (M := M) _ _ g (gridB_mk s) e) ?_
      intro p2 AP gp
      have o6 := gp.one
      refine Da ?_
      refine Ae ?_
      repeat first | refine R1 ?_ | refine R2 fun _ => ?_
      refine fops_keep [1, 2, 3, 10] ?_
      refine fops_own ((b3, .cells #[.int .i64 g.wide, c2, p2, .slice none 0 0] 167) :: (AC ++ (AP ++ [(b2, .cells #[.int .i64 0, .slice none 0 0, .slice none 0 0, .slice none 0 0] 167), (b1, .cells #[.int .i64 g.wide, c] 34)]))) ?_
      exact tail.out c2 p2 AC AP b3 g1 gp
    case' refine_3 =>
      refine Sr [[],[0,5],[],[0,1,2,5],[0,1,2,3,5],[],[0,1,2,3,4,5]] 6 [Nn 0,Nn 2,Yy 5,Yy 1,Yy 3,Nn 4] ?_
      refine Da ?_
      refine Yl fun b3 => ?_
      refine Da ?_
      refine Yc (gridCopy_f _ _ g (gridB_mk s) (by omega)) ?_
      rintro _ AC ⟨_, rfl, q⟩
      obtain ⟨c2, rfl, g1, l1⟩ := gridO q
      have o5 := g1.one
      refine Da ?_
      refine Yc (picOf_f (M := M) _ _ g (gridB_mk s) e) ?_
      intro p2 AP gp
      have o6 := gp.one
      refine Da ?_
      refine Ae ?_
      repeat first | refine R1 ?_ | refine R2 fun _ => ?_
      refine fops_keep [1, 2, 3, 10] ?_
      refine fops_own ((b3, .cells #[.int .i64 g.wide, c2, p2, .slice none 0 0] 167) :: (AC ++ (AP ++ [(b2, .cells #[.int .i64 0, .slice none 0 0, .slice none 0 0, .slice none 0 0] 167), (b1, .cells #[.int .i64 g.wide, c] 34)]))) ?_
      exact tail.out c2 p2 AC AP b3 g1 gp
  intro c2 p2 AC AP b3 g1 gp
  have o5 := g1.one
  have o6 := gp.one
  refine Xv (sightMany_v _ _ g (gridB_mk s)) ?_
  rw [sightMany_ok e, hN]
  repeat first | refine R1 ?_ | refine R2 fun _ => ?_
  refine sf_lp (ι := Nat) [1, 2, 3, 11] (fun k => [(12, .int .i64 (k : Int))]) (fun k O => k ≤ N ∧ ∃ fv A0 A1, O = (b3, .cells #[.int .i64 g.wide, c2, p2, fv] 167) :: (A0 ++ A1 ++ (AC ++ (AP ++ [(b2, .cells #[.int .i64 0, .slice none 0 0, .slice none 0 0, .slice none 0 0] 167), (b1, .cells #[.int .i64 g.wide, c] 34)]))) ∧ ∃ rs : List (Raw (intSR τ).sz), rs.length = k ∧ Gr A0 fv 70 (rawF (intSR τ).sz) rs ∧ OAll (intSR τ) A1 rs ((List.range k).map fun j => footOf g (j : Nat))) (fun k => N - k) 0 ((b3, .cells #[.int .i64 g.wide, c2, p2, .slice none 0 0] 167) :: ([] ++ [] ++ (AC ++ (AP ++ [(b2, .cells #[.int .i64 0, .slice none 0 0, .slice none 0 0, .slice none 0 0] 167), (b1, .cells #[.int .i64 g.wide, c] 34)])))) ⟨by omega, _, [], [], rfl, [], rfl, Gr.nil _ _, .nil⟩ ?_
  rintro k O ⟨hk, fv, A0, A1, rfl, rs, hr, gr, oa⟩
  have o7 := gr.one
  repeat first | refine R1 ?_ | refine R2 fun _ => ?_
  refine sf_if (fun h4 => ?_) fun h4 => ?_
  · have hk4 : k < N := by omega
    repeat first | refine R1 ?_ | refine R2 fun _ => ?_
    refine Sd [[],[0],[],[],[2,3],[2,3,4],[0,1,2,3,4,5],[0,1,2,3,4,5,6],[0,1,2,3,4,5,6,7]] 6 [Nn 0,Nn 1,Nn 2,Nn 3,Yy 4,Yy 5] ?_
    refine Da ?_
    refine Yc (trailFoot_f (M := M) _ c g s e (k : Int) (by omega)) ?_
    intro w AW gw
    have o8 := gw.one
    refine Da ?_
    refine Yb fun u Au gu => ?_
    refine Da ?_
    refine Ae ?_
    refine fp (y_append (by rfl) (by rfl) gr gu (by intro y hy; simp at hy; subst hy; exact (inferInstance : AllOne [w]).is) (by rfl) (by rfl) (by simp; omega) (by simp; omega) fun fv2 A5 g5 => ?_)
    have o9 := g5.one
    repeat first | refine R1 ?_ | refine R2 fun _ => ?_
    refine ⟨k + 1, by omega, ⟨rfl, trivial⟩, rfl, (b3, .cells #[.int .i64 g.wide, c2, p2, fv2] 167) :: (A5 ++ (A1 ++ AW) ++ (AC ++ (AP ++ [(b2, .cells #[.int .i64 0, .slice none 0 0, .slice none 0 0, .slice none 0 0] 167), (b1, .cells #[.int .i64 g.wide, c] 34)]))), _, inferInstance, by omega, fv2, A5, A1 ++ AW, rfl, _, by simp [hr], g5, ?_⟩
    rw [List.range_succ, List.map_append]
    exact oa.snoc ⟨w, rfl, gw, by show (footOf g (k : Int)).length ≤ _; unfold footOf; have := footIs_len g (goLight g (k : Int)).1; omega⟩
  · refine sf_exit ?_
    obtain rfl : k = N := by omega
    repeat first | refine R1 ?_ | refine R2 fun _ => ?_
    refine sf_ret (rO (AC ++ (AP ++ (A0 ++ A1))) ⟨_, rfl, ?_⟩)
    exact sceneO_mk (s := sceneOf g) g1 (by simp only [sceneOf]; omega) gp (by simp only [sceneOf]; rw [picOf_len, hN]; simp; omega) ⟨A0, A1, rfl, rs, gr, by simp only [sceneOf]; rw [hf]; exact oa, by simp only [sceneOf]; rw [hf]; simp; omega⟩
theorem sceneOk_v [al : Alone Tryz.prog M] (h : PHeap) (ca : List Value) (s : Scene) (b : (sceneR τ).B h ca s) : CallV Tryz.prog M 209 [.agg ca.toArray] h (.bool (sceneOk s)) := by
  obtain ⟨c, l, f, rfl, s1, s2, s3⟩ := sceneB b
  have o1 := s1.one
  have o2 := s2.one
  have o3 := s3.one
  have b0 := b
  refine Cs Tryz.func209 Tryz.ntmps209 ?_
  repeat first | refine R1 ?_ | refine R2 fun _ => ?_
  by_cases e : gridOk s.grid = true
  · have hg1 := gridOk_v (M := M) h _ s.grid (gridB_mk (τ := τ) s1)
    rw [e] at hg1
    refine Sd [[],[0],[0,1],[0,1,2],[0,1,2,3],[0,1,2,3],[0,1,2,3,5],[0,1,2,3,5,6],[0,1,2,3,4,5,6,7],[0,1,2,3,4,5,6,7,8],[0,1,2,3,4,5,6,7,8,9]] 8 [Nn 0,Nn 1,Yy 2,Nn 3,Nn 4,Nn 5,Nn 6,Yy 7] ?_
    refine Da ?_
    refine Yv hg1 ?_
    refine Da ?_
    refine a_call (sceneOf_f (M := M) _ _ s.grid (gridB_mk s1) e) (by rfl) (by rfl) (.inr ⟨_, _, _, _, rfl, by rfl, by rfl, rfl⟩) ?_
    rintro _ A1 ⟨cs, rfl, q⟩
    have q0 := q
    obtain ⟨c2, l2, f2, X1, X2, X3, rfl, rfl, ⟨g1, _⟩, ⟨g2, _⟩, g3⟩ := sceneO q
    have o4 := g1.one
    have o5 := g2.one
    have o6 := g3.one
    refine Da ?_
    refine Ae ?_
    refine fp (y_lendV (X1 ++ (X2 ++ X3)) (fun h' l i => sceneSame_v (M := M) h' _ _ s (sceneOf s.grid) ((sceneR τ).up l b0) ((sceneR τ).lent q0 i)) (by rfl) ?_)
    repeat first | refine R1 ?_ | refine R2 fun _ => ?_
    refine sf_ret (rV ?_)
    rw [sceneOk, e]; rfl
  · have e' : gridOk s.grid = false := by simpa using e
    have hg1 := gridOk_v (M := M) h _ s.grid (gridB_mk (τ := τ) s1)
    rw [e'] at hg1
    refine Sd [[],[0],[0,1],[0,1,2],[0,1,2,3],[0,1,2,3],[0,1,2,3,5],[0,1,2,3,5,6],[0,1,2,3,4,5,6,7],[0,1,2,3,4,5,6,7,8],[0,1,2,3,4,5,6,7,8,9]] 8 [Nn 0,Nn 1,Yy 2,Nn 3,Nn 4,Nn 5,Nn 6,Nn 7] ?_
    refine Da ?_
    refine Yv hg1 ?_
    refine Da ?_
    refine Ae ?_
    repeat first | refine R1 ?_ | refine R2 fun _ => ?_
    refine sf_ret (rV ?_)
    rw [sceneOk, e']; rfl
theorem noSceneB (h : PHeap) : (sceneR τ).B h [.int .i64 0, .slice none 0 0, .slice none 0 0, .slice none 0 0] noScene := sceneB_mk (s := noScene) (Sl.nil _ _) (Sl.nil _ _) SlR.nil
theorem paintOk_v [al : Alone Tryz.prog M] (h : PHeap) (ca : List Value) (p : Painter) (b : (painterR τ).B h ca p) : CallV Tryz.prog M 178 [.agg ca.toArray] h (.bool (paintOk p)) := by
  obtain ⟨c, l, f, rfl, s1, s2, s3⟩ := painterB b
  have o1 := s1.one
  have o2 := s2.one
  have o3 := s3.one
  have bs : (sceneR τ).B h [.int .i64 p.scene.grid.wide, c, l, f] p.scene := sceneB_mk s1 s2 s3
  refine Cs Tryz.func178 Tryz.ntmps178 ?_
  repeat first | refine R1 ?_ | refine R2 fun _ => ?_
  refine sf_cond (by rfl) (fun e1 => ?_) fun e1 => ?_
  · have ep : paintOk p = (p.up && (decide (0 ≤ p.ver) && decide (p.ver ≤ 60)) && sceneOk p.scene) := by rw [paintOk, if_pos e1]
    rw [ep]
    repeat first | refine R1 ?_ | refine R2 fun _ => ?_
    refine f_splitB (fun e2 => ?_) fun e2 => ?_
    · repeat first | refine R1 ?_ | refine R2 fun _ => ?_
      refine f_split (fun e3 => ?_) fun e3 => ?_
      · repeat first | refine R1 ?_ | refine R2 fun _ => ?_
        refine f_split (fun e4 => ?_) fun e4 => ?_
        · repeat first | refine R1 ?_ | refine R2 fun _ => ?_
          refine Xv (sceneOk_v (M := M) _ _ p.scene bs) ?_
          repeat first | refine R1 ?_ | refine R2 fun _ => ?_
          refine sf_ret (rV ?_)
          simp [e2]; omega
        · repeat first | refine R1 ?_ | refine R2 fun _ => ?_
          refine sf_ret (rV ?_)
          simp [e4]
      · repeat first | refine R1 ?_ | refine R2 fun _ => ?_
        refine sf_ret (rV ?_)
        simp; omega
    · repeat first | refine R1 ?_ | refine R2 fun _ => ?_
      refine sf_ret (rV ?_)
      simp [e2]
  · have ep : paintOk p = (decide (p.ver = 0) && decide (p.scene = noScene)) := by rw [paintOk, if_neg (by rw [e1]; decide)]
    rw [ep]
    repeat first | refine R1 ?_ | refine R2 fun _ => ?_
    refine f_split (fun e2 => ?_) fun e2 => ?_
    · repeat first | refine R1 ?_ | refine R2 fun _ => ?_
      refine Xv (sceneSame_v (M := M) _ _ _ p.scene noScene bs (noSceneB _)) ?_
      repeat first | refine R1 ?_ | refine R2 fun _ => ?_
      refine sf_ret (rV ?_)
      simp [e2]
    · repeat first | refine R1 ?_ | refine R2 fun _ => ?_
      refine sf_ret (rV ?_)
      simp [e2]
instance : EqFl Tryz.prog 69 editF := eqFl_edit inferInstance (inferInstance : Ty Tryz.prog 3 _ 1 _ _) (inferInstance : Ty Tryz.prog 67 _ 2 _ _) (by kernel_rfl) (by kernel_rfl)
theorem word_ext {x y : Word} (h1 : x.kind = y.kind) (h2 : x.to = y.to) (h3 : x.frm = y.frm) (h4 : x.ver = y.ver) (h5 : x.grid = y.grid) (h6 : x.edit = y.edit) (h7 : x.lights = y.lights) : x = y := by
  cases x; cases y; simp_all
theorem wordSame_v (h : PHeap) (ca cb : List Value) (x y : Word) (bx : (wordR τ).B h ca x) (by' : (wordR τ).B h cb y) : CallV Tryz.prog M 180 [.agg ca.toArray, .agg cb.toArray] h (.bool (decide (x = y))) := by
  obtain ⟨c1, l1, e1, s1, s2⟩ := wordB bx
  obtain ⟨c2, l2, e2, s3, s4⟩ := wordB by'
  have e1' : ca = [.int .i64 x.kind, .int .i64 x.to, .int .i64 x.frm, .int .i64 x.ver, .int .i64 x.grid.wide, c1, .int .i64 x.edit.at', .int .i64 x.edit.cell.kind, .int .i64 x.edit.cell.light, l1] := e1
  have e2' : cb = [.int .i64 y.kind, .int .i64 y.to, .int .i64 y.frm, .int .i64 y.ver, .int .i64 y.grid.wide, c2, .int .i64 y.edit.at', .int .i64 y.edit.cell.kind, .int .i64 y.edit.cell.light, l2] := e2
  subst e1' e2'
  clear e1 e2
  have o1 := s1.one
  have o2 := s2.one
  have o3 := s3.one
  have o4 := s4.one
  have no : ∀ {b : Bool}, b = false → ¬ x = y → Value.bool b = .bool (decide (x = y)) := fun hb hn => by rw [hb, decide_eq_false hn]
  refine Cs Tryz.func180 Tryz.ntmps180 ?_
  repeat first | refine R1 ?_ | refine R2 fun _ => ?_
  refine f_split (fun h1 => ?_) fun h1 => ?_
  rotate_left
  · repeat first | refine R1 ?_ | refine R2 fun _ => ?_
    refine sf_ret (rV ?_)
    exact no (by simp [h1]) fun e => h1 (by rw [e])
  repeat first | refine R1 ?_ | refine R2 fun _ => ?_
  refine f_split (fun h2 => ?_) fun h2 => ?_
  rotate_left
  · repeat first | refine R1 ?_ | refine R2 fun _ => ?_
    refine sf_ret (rV ?_)
    exact no (by simp [h1, h2]) fun e => h2 (by rw [e])
  repeat first | refine R1 ?_ | refine R2 fun _ => ?_
  refine f_split (fun h3 => ?_) fun h3 => ?_
  rotate_left
  · repeat first | refine R1 ?_ | refine R2 fun _ => ?_
    refine sf_ret (rV ?_)
    exact no (by simp [h1, h2, h3]) fun e => h3 (by rw [e])
  repeat first | refine R1 ?_ | refine R2 fun _ => ?_
  refine f_split (fun h4 => ?_) fun h4 => ?_
  rotate_left
  · repeat first | refine R1 ?_ | refine R2 fun _ => ?_
    refine sf_ret (rV ?_)
    exact no (by simp [h1, h2, h3, h4]) fun e => h4 (by rw [e])
  repeat first | refine R1 ?_ | refine R2 fun _ => ?_
  refine Xv (gridSame_v (M := M) _ _ _ x.grid y.grid (gridB_mk s1) (gridB_mk s3)) ?_
  repeat first | refine R1 ?_ | refine R2 fun _ => ?_
  refine f_split (fun h5 => ?_) fun h5 => ?_
  rotate_left
  · repeat first | refine R1 ?_ | refine R2 fun _ => ?_
    refine sf_ret (rV ?_)
    exact no (by simp [h1, h2, h3, h4, h5]) fun e => h5 (by rw [e])
  repeat first | refine R1 ?_ | refine R2 fun _ => ?_
  refine fp (Rq ?_ (q_eqS (E := editF) (a := x.edit) (b := y.edit) inferInstance (by rfl) (by rfl)))
  repeat first | refine R1 ?_ | refine R2 fun _ => ?_
  refine f_split (fun h6 => ?_) fun h6 => ?_
  rotate_left
  · repeat first | refine R1 ?_ | refine R2 fun _ => ?_
    refine sf_ret (rV ?_)
    exact no (by simp [h1, h2, h3, h4, h5, h6]) fun e => h6 (by rw [e])
  repeat first | refine R1 ?_ | refine R2 fun _ => ?_
  refine Xv (intsEqual_v (M := M) _ _ _ _ _ s2 s4) ?_
  repeat first | refine R1 ?_ | refine R2 fun _ => ?_
  refine sf_ret (rV ?_)
  by_cases h7 : x.lights = y.lights
  · have e := word_ext h1 h2 h3 h4 h5 h6 h7
    simp [e]
  · have e : ¬ x = y := fun e => h7 (by rw [e])
    simp [e, h7]
theorem painterCorrect_v [al : Alone Tryz.prog M] (h : PHeap) [BAt h 0 errObj] (ca cb : List Value) (k : Keeper) (p : Painter) (b : (keeperR τ).B h ca k) (bp : (painterR τ).B h cb p) (hk : HeadOk k) : CallV Tryz.prog M 125 [.agg ca.toArray, .agg cb.toArray] h (.bool (painterTrue k p)) := by
  have b0 := b
  have bp0 := bp
  obtain ⟨c, ed, pt, s, rfl, s1, s2, s3, s4⟩ := keeperB b
  obtain ⟨pc, pl, pf, rfl, t1, t2, t3⟩ := painterB bp
  have o1 := s1.one
  have o2 := s2.one
  have o3 := s3.one
  have o4 := s4.one
  have o5 := t1.one
  have o6 := t2.one
  have o7 := t3.one
  refine Cs Tryz.func125 Tryz.ntmps125 ?_
  repeat first | refine R1 ?_ | refine R2 fun _ => ?_
  refine fp (y_call (keepVersion_f (M := M) _ _ k b0 p.ver) (by rfl) ?_)
  rintro u _ ⟨eu, rfl⟩
  have ou := eu.one
  repeat first | refine R1 ?_ | refine R2 fun _ => ?_
  refine Xv (refused_v (M := M) _ _ _ eu) ?_
  repeat first | refine R1 ?_ | refine R2 fun _ => ?_
  refine f_splitB (fun e1 => ?_) fun e1 => ?_
  · have e1' : verOk k p.ver = false := by simpa using e1
    repeat first | refine R1 ?_ | refine R2 fun _ => ?_
    refine sf_cond (by rfl) (fun e9 => ?_) fun e9 => ?_
    · repeat first | refine R1 ?_ | refine R2 fun _ => ?_
      refine sf_ret (rV ?_)
      simp [painterTrue, e1']
    · simp [e1'] at e9
  have e1' : verOk k p.ver = true := by simpa using e1
  repeat first | refine R1 ?_ | refine R2 fun _ => ?_
  refine Xv (paintOk_v (M := M) _ _ p bp0) ?_
  repeat first | refine R1 ?_ | refine R2 fun _ => ?_
  refine sf_cond (by rfl) (fun e2 => ?_) fun e2 => ?_
  · have e2' : paintOk p = false := by simpa [e1'] using e2
    repeat first | refine R1 ?_ | refine R2 fun _ => ?_
    refine sf_ret (rV ?_)
    simp [painterTrue, e2']
  have e2' : paintOk p = true := by simpa [e1'] using e2
  have key : painterTrue k p = (!p.has || decide (p.scene.grid = gridAt k p.ver)) := by simp [painterTrue, e1', e2']
  rw [key]
  clear key e1 e2
  repeat first | refine R1 ?_ | refine R2 fun _ => ?_
  by_cases hp : p.has = true
  · have e3 : (!p.has) = false := by simp [hp]
    refine Sd [[],[0],[0,1],[0,1,2],[0,1,2,3],[0,1,2,3,4],[0,1,2,3,4,5],[0,1,2,3],[0,1,2,3],[0,1,2,3,8],[0,1,2,3,7,8,9],[0,1,2,3,4,5,6,7,8,9,10],[0,1,2,3,4,5,6,7,8,9,10,11],[0,1,2,3,4,5,6,7,8,9,10,11,12]] 11 [Nn 0,Nn 1,Nn 2,Nn 3,Nn 4,Nn 5,Nn 6,Nn 7,Nn 8,Nn 9,Yy 10] ?_
    refine Da ?_
    refine a_call (keepGridOf_f (M := M) _ _ k b0 hk p.ver e1') (by rfl) (by rfl) (.inr ⟨_, _, _, _, rfl, by rfl, by rfl, e3⟩) ?_
    rintro _ A1 ⟨cs, rfl, q⟩
    have q0 := q
    obtain ⟨c2, rfl, g1, l1⟩ := gridO q
    have o8 := g1.one
    refine Da ?_
    refine Ae ?_
    refine fp (y_lendV A1 (fun h' l i => gridSame_v (M := M) h' _ _ p.scene.grid (gridAt k p.ver) (gridB_mk (t1.le l.le)) ((gridR τ).lent q0 i)) (by rfl) ?_)
    repeat first | refine R1 ?_ | refine R2 fun _ => ?_
    refine sf_ret (rV ?_)
    simp [hp]
  · have hp' : p.has = false := by simpa using hp
    have e3 : (!p.has) = true := by simp [hp']
    refine Sd [[],[0],[0,1],[0,1,2],[0,1,2,3],[0,1,2,3,4],[0,1,2,3,4,5],[0,1,2,3],[0,1,2,3],[0,1,2,3,8],[0,1,2,3,7,8,9],[0,1,2,3,4,5,6,7,8,9,10],[0,1,2,3,4,5,6,7,8,9,10,11],[0,1,2,3,4,5,6,7,8,9,10,11,12]] 11 [Nn 0,Nn 1,Nn 2,Nn 3,Nn 4,Nn 5,Nn 6,Nn 7,Nn 8,Nn 9,Nn 10] ?_
    refine Da ?_
    refine Ae ?_
    repeat first | refine R1 ?_ | refine R2 fun _ => ?_
    refine sf_ret (rV ?_)
    simp [hp']
theorem paintOwn0_f (h : PHeap) (ca : List Value) (g : Grid) (b : (gridR τ).B h ca g) (id many : Int) (hi : idOk id many = false) : CallF Tryz.prog M 173 [.agg ca.toArray, .int .i64 id, .int .i64 many] [] h fun u A => u = .slice none 0 0 := by
  obtain ⟨c, rfl, s⟩ := gridB b
  have o1 := s.one
  refine Cs Tryz.func173 Tryz.ntmps173 ?_
  repeat first | refine R1 ?_ | refine R2 fun _ => ?_
  refine Xv (paintIdOk_v _ _ _) ?_
  rw [show (decide (1 ≤ many) && decide (many ≤ 3) && decide (1 ≤ id) && decide (id ≤ many)) = false from hi]
  repeat first | refine R1 ?_ | refine R2 fun _ => ?_
  refine sf_T (by rfl) ?_
  repeat first | refine R1 ?_ | refine R2 fun _ => ?_
  exact sf_ret (rO [] rfl)
theorem partOf0_f (h : PHeap) (ca : List Value) (g : Grid) (b : (gridR τ).B h ca g) (pv : Value) [o : Sl.One pv] (id many : Int) (hi : idOk id many = false) : CallF Tryz.prog M 181 [.agg ca.toArray, pv, .int .i64 id, .int .i64 many] [] h fun u A => Gr A u 3 intF [] := by
  have b0 := b
  obtain ⟨c, rfl, s⟩ := gridB b
  have o1 := s.one
  refine Cs Tryz.func181 Tryz.ntmps181 ?_
  repeat first | refine R1 ?_ | refine R2 fun _ => ?_
  refine fp (y_call (paintOwn0_f (M := M) _ _ g b0 id many hi) (by rfl) ?_)
  rintro v A1 rfl
  repeat first | refine R1 ?_ | refine R2 fun _ => ?_
  refine sf_lp (ι := Unit) [9, 15, 16] (fun _ => [(17, .int .i64 0)]) (fun _ O => O = []) (fun _ => 0) () [] rfl ?_
  rintro _ O rfl
  repeat first | refine R1 ?_ | refine R2 fun _ => ?_
  refine sf_if (fun h4 => ?_) fun h4 => ?_
  · simp at h4
  refine sf_exit ?_
  repeat first | refine R1 ?_ | refine R2 fun _ => ?_
  exact sf_ret (rO [] (Gr.nil _ _))
theorem partAny_f (h : PHeap) (ca : List Value) (g : Grid) (b : (gridR τ).B h ca g) (e : gridOk g = true) (pv : Value) (pic : List Int) (sp : Sl h pv intF pic) (hp : pic.length = (manyOf g).toNat) (id many : Int) : CallF Tryz.prog M 181 [.agg ca.toArray, pv, .int .i64 id, .int .i64 many] [] h fun u A => Gr A u 3 intF (if idOk id many = true then ownLights pic (manyOf g).toNat many.toNat id.toNat else []) := by
  have o := sp.one
  by_cases hi : idOk id many = true
  · rw [if_pos hi]
    have hi' := hi
    simp only [idOk, Bool.and_eq_true, decide_eq_true_eq] at hi'
    have := partOf_f (M := M) h ca g b e pv pic sp hp id.toNat many.toNat (by omega) (by omega) (by omega)
    rw [show ((id.toNat : Nat) : Int) = id by omega, show ((many.toNat : Nat) : Int) = many by omega] at this
    exact this
  · rw [if_neg hi]
    exact partOf0_f h ca g b pv id many (by simpa using hi)
theorem wordCorrect_v [al : Alone Tryz.prog M] (h : PHeap) [BAt h 0 errObj] (ca cb : List Value) (k : Keeper) (x : Word) (b : (keeperR τ).B h ca k) (bx : (wordR τ).B h cb x) (hk : HeadOk k) : CallV Tryz.prog M 126 [.agg ca.toArray, .agg cb.toArray] h (.bool (wordTrue k x)) := by
  have b0 := b
  have bx0 := bx
  obtain ⟨c, ed, pt, s, rfl, s1, s2, s3, s4⟩ := keeperB b
  obtain ⟨wc, wl, ecb, t1, t2⟩ := wordB bx
  have ecb' : cb = [.int .i64 x.kind, .int .i64 x.to, .int .i64 x.frm, .int .i64 x.ver, .int .i64 x.grid.wide, wc, .int .i64 x.edit.at', .int .i64 x.edit.cell.kind, .int .i64 x.edit.cell.light, wl] := ecb
  subst ecb'
  clear ecb bx
  have o1 := s1.one
  have o2 := s2.one
  have o3 := s3.one
  have o4 := s4.one
  have o5 := t1.one
  have o6 := t2.one
  have hgk := gridAt_ok hk.grid hk.edits x.ver
  refine Cs Tryz.func126 Tryz.ntmps126 ?_
  repeat first | refine R1 ?_ | refine R2 fun _ => ?_
  refine fp (y_call (keepVersion_f (M := M) _ _ k b0 x.ver) (by rfl) ?_)
  rintro u _ ⟨eu, rfl⟩
  have ou := eu.one
  repeat first | refine R1 ?_ | refine R2 fun _ => ?_
  refine Xv (refused_v (M := M) _ _ _ eu) ?_
  repeat first | refine R1 ?_ | refine R2 fun _ => ?_
  refine sf_cond (by rfl) (fun e0 => ?_) fun e0 => ?_
  · have e0' : verOk k x.ver = false := by simpa using e0
    repeat first | refine R1 ?_ | refine R2 fun _ => ?_
    refine sf_ret (rV ?_)
    simp [wordTrue, e0']
  have hv : verOk k x.ver = true := by simpa using e0
  have hv' : 0 ≤ x.ver ∧ x.ver ≤ k.edits.length := by simpa [verOk] using hv
  obtain ⟨rp, sp, bp⟩ := s3
  have lp := bp.len
  have n1 := hk.n1
  have n3 := hk.n3
  have e60 := hk.e60
  repeat first | refine R1 ?_ | refine R2 fun _ => ?_
  rw [lp]
  refine sf_if (fun e1 => ?_) fun e1 => ?_
  · rw [wordTrue1 e1, hv]
    repeat first | refine R1 ?_ | refine R2 fun _ => ?_
    refine fp (y_call (keepGridOf_f (M := M) _ _ k b0 hk x.ver hv) (by rfl) ?_)
    rintro _ AG ⟨cs, rfl, q⟩
    obtain ⟨c2, rfl, g1, l1⟩ := gridO q
    have o7 := g1.one
    repeat first | refine R1 ?_ | refine R2 fun _ => ?_
    refine Xv (paintIdOk_v _ _ _) ?_
    repeat first | refine R1 ?_ | refine R2 fun _ => ?_
    have qr : (wordR τ).O (AG ++ []) _ ⟨x.kind, x.to, 0, x.ver, gridAt k x.ver, noEdit, []⟩ := wordO_mk (w := ⟨x.kind, x.to, 0, x.ver, gridAt k x.ver, noEdit, []⟩) g1 l1 (Gr.nil _ _) (by simp)
    refine f_splitB (fun e2 => ?_) fun e2 => ?_
    · have e2' : idOk x.to k.parts.length = true := e2
      repeat first | refine R1 ?_ | refine R2 fun _ => ?_
      refine fp (y_lendV (AG ++ []) (fun h' l i => wordSame_v (M := M) h' _ _ x _ ((wordR τ).up l bx0) ((wordR τ).lent qr i)) (by rfl) ?_)
      repeat first | refine R1 ?_ | refine R2 fun _ => ?_
      refine sf_ret (rV ?_)
      rw [e2', e1]; simp
    · have e2' : idOk x.to k.parts.length = false := e2
      repeat first | refine R1 ?_ | refine R2 fun _ => ?_
      refine sf_ret (rV ?_)
      simp [e2', e2]
  repeat first | refine R1 ?_ | refine R2 fun _ => ?_
  refine sf_if (fun e2 => ?_) fun e2 => ?_
  · rw [wordTrue2 e2, hv]
    repeat first | refine R1 ?_ | refine R2 fun _ => ?_
    refine sf_if (fun e5 => ?_) fun e5 => ?_
    · repeat first | refine R1 ?_ | refine R2 fun _ => ?_
      refine sf_ret (rV ?_)
      simp [e5]
    obtain ⟨n, hn⟩ : ∃ n : Nat, x.ver - 1 = n := ⟨(x.ver - 1).toNat, by omega⟩
    have hn4 : n < k.edits.length := by omega
    rw [hn]
    repeat first | refine R1 ?_ | refine R2 fun _ => ?_
    rw [hn]
    repeat first | refine R1 ?_ | refine R2 fun _ => ?_
    refine Xv (paintIdOk_v _ _ _) ?_
    repeat first | refine R1 ?_ | refine R2 fun _ => ?_
    have qr : (wordR τ).O ([] ++ []) _ ⟨x.kind, x.to, 0, x.ver, noGrid, gt k.edits n, []⟩ := wordO_mk (w := ⟨x.kind, x.to, 0, x.ver, noGrid, gt k.edits n, []⟩) (Gr.nil _ _) (by simp [noGrid]) (Gr.nil _ _) (by simp)
    refine f_splitB (fun e6 => ?_) fun e6 => ?_
    · have e6' : idOk x.to k.parts.length = true := e6
      repeat first | refine R1 ?_ | refine R2 fun _ => ?_
      refine fp (y_lendV ([] ++ []) (fun h' l i => wordSame_v (M := M) h' _ _ x _ ((wordR τ).up l bx0) ((wordR τ).lent qr i)) (by rfl) ?_)
      repeat first | refine R1 ?_ | refine R2 fun _ => ?_
      refine sf_ret (rV ?_)
      rw [e6', e2]; simp [e5]
    · have e6' : idOk x.to k.parts.length = false := e6
      repeat first | refine R1 ?_ | refine R2 fun _ => ?_
      refine sf_ret (rV ?_)
      simp [e6', e6]
  repeat first | refine R1 ?_ | refine R2 fun _ => ?_
  refine sf_if (fun e3 => ?_) fun e3 => ?_
  · rw [wordTrue3 e3, hv]
    repeat first | refine R1 ?_ | refine R2 fun _ => ?_
    refine fp (y_call (keepGridOf_f (M := M) _ _ k b0 hk x.ver hv) (by rfl) ?_)
    rintro _ AG ⟨cs, rfl, q⟩
    have q0 := q
    obtain ⟨c2, rfl, g1, l1⟩ := gridO q
    have o7 := g1.one
    repeat first | refine R1 ?_ | refine R2 fun _ => ?_
    have hpl := picOf_len (gridAt k x.ver)
    refine sf_draw (by kernel_rfl) (regX_own (AG) (Sw [[],[0],[],[2],[],[],[5],[],[7],[],[4,5,6,7,8,9],[0,1,2,3,4,5,6,7,8,9,10],[0,1,2,3,4,5,6,7,8,9,10,11]] 11 [Nn 0,Nn 1,Nn 2,Nn 3,Nn 4,Nn 5,Nn 7,Nn 8,Nn 9,Yy 6,Yy 10] ?_))
    refine Da ?_
    refine Yc (lendF AG fun h' l' i' => picOf_f (M := M) h' _ (gridAt k x.ver) ((gridR τ).lent q0 i') hgk) ?_
    rintro p2 _ ⟨AP, rfl, gp⟩
    have o8 := gp.one
    refine Da ?_
    refine Yc (lendF (AG ++ AP) fun h' l' i' => partAny_f (M := M) h' _ (gridAt k x.ver) ((gridR τ).lent q0 (inb_l i')) hgk p2 (picOf (gridAt k x.ver)) (gp.lent (by have := (gok hgk).many; omega) (inb_r i')) hpl x.frm k.parts.length) ?_
    rintro u2 _ ⟨AL, rfl, gl⟩
    have o9 := gl.one
    refine Da ?_
    refine Ae ?_
    repeat first | refine R1 ?_ | refine R2 fun _ => ?_
    refine Xv (paintIdOk_v _ _ _) ?_
    repeat first | refine R1 ?_ | refine R2 fun _ => ?_
    refine f_splitB (fun e6 => ?_) fun e6 => ?_
    · have e6' : idOk x.frm k.parts.length = true := e6
      rw [if_pos e6', gridAt_many, Int.toNat_natCast] at gl
      have hL := partLights_le hk x.frm.toNat x.ver
      have qr : (wordR τ).O ([] ++ AL) _ ⟨3, 0, x.frm, x.ver, noGrid, noEdit, partLights k x.frm.toNat x.ver⟩ := wordO_mk (w := ⟨3, 0, x.frm, x.ver, noGrid, noEdit, partLights k x.frm.toNat x.ver⟩) (Gr.nil _ _) (by simp [noGrid]) gl (by simp only; omega)
      repeat first | refine R1 ?_ | refine R2 fun _ => ?_
      refine fp (y_lendV ([] ++ AL) (fun h' l i => wordSame_v (M := M) h' _ _ x _ ((wordR τ).up l bx0) ((wordR τ).lent qr i)) (by rfl) ?_)
      repeat first | refine R1 ?_ | refine R2 fun _ => ?_
      refine sf_ret (rV ?_)
      rw [e6']; simp
    · have e6' : idOk x.frm k.parts.length = false := e6
      repeat first | refine R1 ?_ | refine R2 fun _ => ?_
      refine sf_ret (rV ?_)
      simp [e6', e6]
  repeat first | refine R1 ?_ | refine R2 fun _ => ?_
  refine sf_if (fun e4 => ?_) fun e4 => ?_
  · rw [wordTrue4 e4, hv]
    repeat first | refine R1 ?_ | refine R2 fun _ => ?_
    refine Xv (paintIdOk_v _ _ _) ?_
    repeat first | refine R1 ?_ | refine R2 fun _ => ?_
    have qr : (wordR τ).O ([] ++ []) _ ⟨4, 0, x.frm, 0, noGrid, noEdit, []⟩ := wordO_mk (w := ⟨4, 0, x.frm, 0, noGrid, noEdit, []⟩) (Gr.nil _ _) (by simp [noGrid]) (Gr.nil _ _) (by simp)
    refine f_splitB (fun e6 => ?_) fun e6 => ?_
    · have e6' : idOk x.frm k.parts.length = true := e6
      repeat first | refine R1 ?_ | refine R2 fun _ => ?_
      refine fp (y_lendV ([] ++ []) (fun h' l i => wordSame_v (M := M) h' _ _ x _ ((wordR τ).up l bx0) ((wordR τ).lent qr i)) (by rfl) ?_)
      repeat first | refine R1 ?_ | refine R2 fun _ => ?_
      refine sf_ret (rV ?_)
      rw [e6']; simp
    · have e6' : idOk x.frm k.parts.length = false := e6
      repeat first | refine R1 ?_ | refine R2 fun _ => ?_
      refine sf_ret (rV ?_)
      simp [e6', e6]
  repeat first | refine R1 ?_ | refine R2 fun _ => ?_
  refine sf_ret (rV ?_)
  rw [wordTrue0 e1 e2 e3 e4]
theorem all_gt {α : Type} [Inhabited α] {f : α → Bool} {xs : List α} : xs.all f = true ↔ ∀ i, i < xs.length → f (gt xs i) = true := by
  rw [List.all_eq_true]
  constructor
  · intro h i hi
    rw [gt_eq hi]; exact h _ (List.getElem_mem _)
  · intro h x hx
    obtain ⟨i, hi, rfl⟩ := List.getElem_of_mem hx
    rw [← gt_eq hi]; exact h i hi
theorem worldOk_v [al : Alone Tryz.prog M] (h : PHeap) [BAt h 0 errObj] (ca : List Value) (w : World') (b : (worldR τ).B h ca w) : CallV Tryz.prog M 55 [.agg ca.toArray] h (.bool (worldOk w)) := by
  obtain ⟨c, ed, pt, s, ps, ns, rfl, s1, s2, s3, s4, s5, s6⟩ := worldB b
  have b0 : (keeperR τ).B h [.int .i64 w.keeper.first.wide, c, ed, pt, s] w.keeper := keeperB_mk s1 s2 s3 s4
  have o1 := s1.one
  have o2 := s2.one
  have o3 := s3.one
  have o4 := s4.one
  have o5 := s5.one
  have o6 := s6.one
  obtain ⟨rk, s3, bk⟩ := s3
  obtain ⟨rp, s5, bp⟩ := s5
  obtain ⟨rn, s6, bn⟩ := s6
  have lk := bk.len
  have lp := bp.len
  have ln := bn.len
  have hsp := s5.small
  have hsn := s6.small
  refine Cs Tryz.func55 Tryz.ntmps55 ?_
  repeat first | refine R1 ?_ | refine R2 fun _ => ?_
  refine Xv (keepOk_v (M := M) _ _ w.keeper b0) ?_
  repeat first | refine R1 ?_ | refine R2 fun _ => ?_
  refine f_splitB (fun e1 => ?_) fun e1 => ?_
  · have e1' : keepOk w.keeper = false := by simpa using e1
    repeat first | refine R1 ?_ | refine R2 fun _ => ?_
    refine sf_cond (by rfl) (fun e9 => ?_) fun e9 => ?_
    · repeat first | refine R1 ?_ | refine R2 fun _ => ?_
      refine sf_ret (rV ?_)
      simp [worldOk, e1']
    · simp [e1'] at e9
  have ok : keepOk w.keeper = true := by simpa using e1
  have hk := keepOk_head ok
  repeat first | refine R1 ?_ | refine R2 fun _ => ?_
  refine f_split (fun e2 => ?_) fun e2 => ?_
  · have e2' : ¬ w.painters.length = w.keeper.parts.length := by omega
    repeat first | refine R1 ?_ | refine R2 fun _ => ?_
    refine sf_cond (by rfl) (fun e9 => ?_) fun e9 => ?_
    · repeat first | refine R1 ?_ | refine R2 fun _ => ?_
      refine sf_ret (rV ?_)
      simp [worldOk, e2']
    · simp [e1, e2] at e9
  have e2' : w.painters.length = w.keeper.parts.length := by omega
  repeat first | refine R1 ?_ | refine R2 fun _ => ?_
  refine sf_cond (by rfl) (fun e3 => ?_) fun e3 => ?_
  · have e3' : ¬ w.nets.length ≤ 10 := by simp [e1, e2] at e3; omega
    repeat first | refine R1 ?_ | refine R2 fun _ => ?_
    refine sf_ret (rV ?_)
    simp [worldOk, e3']
  have e3' : w.nets.length ≤ 10 := by simp [e1, e2] at e3; omega
  have key : worldOk w = (w.painters.all (painterTrue w.keeper) && w.nets.all (wordTrue w.keeper)) := by simp [worldOk, ok, e2', e3']
  rw [key]
  clear key e3
  repeat first | refine R1 ?_ | refine R2 fun _ => ?_
  rename_i b1
  refine sf_lp (ι := Nat) [1, 28, 29] (fun i => [(30, .int .i64 (i : Int))]) (fun i O => O = [(b1, .cells #[.int .i64 w.keeper.first.wide, c, ed, pt, s, ps, ns] 55)] ∧ i ≤ w.painters.length ∧ ∀ j, j < i → painterTrue w.keeper (gt w.painters j) = true) (fun i => w.painters.length - i) 0 [(b1, .cells #[.int .i64 w.keeper.first.wide, c, ed, pt, s, ps, ns] 55)] ⟨rfl, by omega, fun j hj => by omega⟩ ?_
  rintro i O ⟨rfl, hi, ht⟩
  repeat first | refine R1 ?_ | refine R2 fun _ => ?_
  refine sf_if (fun h4 => ?_) fun h4 => ?_
  · have hi4 : i < w.painters.length := by omega
    have hi5 : i < rp.length := by omega
    have b4 := bp.at hi4
    have b5 := b4
    obtain ⟨c2, l2, f2, ex, t1, t2, t3⟩ := painterB b4
    haveI : FlatV (rawF (painterR τ).sz) (gt rp i) [.bool (gt w.painters i).up, .bool (gt w.painters i).has, .int .i64 (gt w.painters i).ver, .int .i64 (gt w.painters i).scene.grid.wide, c2, l2, f2] := ⟨ex⟩
    rw [ex] at b5
    have p1 := t1.one
    have p2 := t2.one
    have p3 := t3.one
    repeat first | refine R1 ?_ | refine R2 fun _ => ?_
    refine Xv (painterCorrect_v (M := M) _ _ _ w.keeper (gt w.painters i) b0 b5 hk) ?_
    repeat first | refine R1 ?_ | refine R2 fun _ => ?_
    refine sf_cond (by rfl) (fun e4 => ?_) fun e4 => ?_
    · have e4' : painterTrue w.keeper (gt w.painters i) = false := by simpa using e4
      repeat first | refine R1 ?_ | refine R2 fun _ => ?_
      refine sf_ret (rV ?_)
      rw [show w.painters.all (painterTrue w.keeper) = false from by
        rw [Bool.eq_false_iff]; intro z; rw [all_gt.1 z i hi4] at e4'; exact Bool.noConfusion e4', Bool.false_and]
    · have e4' : painterTrue w.keeper (gt w.painters i) = true := by simpa using e4
      repeat first | refine R1 ?_ | refine R2 fun _ => ?_
      refine ⟨i + 1, by omega, ⟨rfl, trivial⟩, rfl, [(b1, .cells #[.int .i64 w.keeper.first.wide, c, ed, pt, s, ps, ns] 55)], _, inferInstance, rfl, by omega, fun j hj => ?_⟩
      by_cases ej : j = i
      · subst ej; exact e4'
      · exact ht j (by omega)
  refine sf_exit ?_
  have hpt : w.painters.all (painterTrue w.keeper) = true := all_gt.2 fun j hj => ht j (by omega)
  rw [hpt, Bool.true_and]
  clear ht
  repeat first | refine R1 ?_ | refine R2 fun _ => ?_
  refine sf_lp (ι := Nat) [1, 41, 42] (fun i => [(43, .int .i64 (i : Int))]) (fun i O => O = [(b1, .cells #[.int .i64 w.keeper.first.wide, c, ed, pt, s, ps, ns] 55)] ∧ i ≤ w.nets.length ∧ ∀ j, j < i → wordTrue w.keeper (gt w.nets j) = true) (fun i => w.nets.length - i) 0 [(b1, .cells #[.int .i64 w.keeper.first.wide, c, ed, pt, s, ps, ns] 55)] ⟨rfl, by omega, fun j hj => by omega⟩ ?_
  clear h4 hi i
  rintro i O ⟨rfl, hi, ht⟩
  repeat first | refine R1 ?_ | refine R2 fun _ => ?_
  refine sf_if (fun h4 => ?_) fun h4 => ?_
  · have hi4 : i < w.nets.length := by omega
    have hi5 : i < rn.length := by omega
    have b4 := bn.at hi4
    have b5 := b4
    obtain ⟨c2, l2, ex, t1, t2⟩ := wordB b4
    have ex' : (gt rn i).cs = [.int .i64 (gt w.nets i).kind, .int .i64 (gt w.nets i).to, .int .i64 (gt w.nets i).frm, .int .i64 (gt w.nets i).ver, .int .i64 (gt w.nets i).grid.wide, c2, .int .i64 (gt w.nets i).edit.at', .int .i64 (gt w.nets i).edit.cell.kind, .int .i64 (gt w.nets i).edit.cell.light, l2] := ex
    haveI : FlatV (rawF (wordR τ).sz) (gt rn i) [.int .i64 (gt w.nets i).kind, .int .i64 (gt w.nets i).to, .int .i64 (gt w.nets i).frm, .int .i64 (gt w.nets i).ver, .int .i64 (gt w.nets i).grid.wide, c2, .int .i64 (gt w.nets i).edit.at', .int .i64 (gt w.nets i).edit.cell.kind, .int .i64 (gt w.nets i).edit.cell.light, l2] := ⟨ex'⟩
    rw [ex'] at b5
    have p1 := t1.one
    have p2 := t2.one
    repeat first | refine R1 ?_ | refine R2 fun _ => ?_
    refine Xv (wordCorrect_v (M := M) _ _ _ w.keeper (gt w.nets i) b0 b5 hk) ?_
    repeat first | refine R1 ?_ | refine R2 fun _ => ?_
    refine sf_cond (by rfl) (fun e4 => ?_) fun e4 => ?_
    · have e4' : wordTrue w.keeper (gt w.nets i) = false := by simpa using e4
      repeat first | refine R1 ?_ | refine R2 fun _ => ?_
      refine sf_ret (rV ?_)
      rw [show w.nets.all (wordTrue w.keeper) = false from by
        rw [Bool.eq_false_iff]; intro z; rw [all_gt.1 z i hi4] at e4'; exact Bool.noConfusion e4']
    · have e4' : wordTrue w.keeper (gt w.nets i) = true := by simpa using e4
      repeat first | refine R1 ?_ | refine R2 fun _ => ?_
      refine ⟨i + 1, by omega, ⟨rfl, trivial⟩, rfl, [(b1, .cells #[.int .i64 w.keeper.first.wide, c, ed, pt, s, ps, ns] 55)], _, inferInstance, rfl, by omega, fun j hj => ?_⟩
      by_cases ej : j = i
      · subst ej; exact e4'
      · exact ht j (by omega)
  refine sf_exit ?_
  have hnt : w.nets.all (wordTrue w.keeper) = true := all_gt.2 fun j hj => ht j (by omega)
  rw [hnt]
  repeat first | refine R1 ?_ | refine R2 fun _ => ?_
  exact sf_ret (rV rfl)
theorem l1High_v (h : PHeap) (c : Value) (g : Grid) (s : Sl h c cellF g.cells) (hw : 1 ≤ g.wide) : CallV Tryz.prog M 182 [.agg #[.int .i64 g.wide, c]] h (.int .i64 (rowsOf g)) := by
  have o1 := s.one
  have hs := s.small
  refine Cs Tryz.func182 Tryz.ntmps182 ?_
  repeat first | refine R1 ?_ | refine R2 fun _ => ?_
  exact sf_ret (rV rfl)
theorem l2Back_v (h : PHeap) (d : Int) (h0 : 0 ≤ d) (h1 : d ≤ 3) : CallV Tryz.prog M 266 [.int .i64 d] h (.int .i64 ((d + 2) % 4)) := by
  refine Cs Tryz.func266 Tryz.ntmps266 ?_
  refine Wo ?_
  exact sf_ret (rV rfl)
theorem l3Many_v (h : PHeap) (c : Value) (g : Grid) (s : Sl h c cellF g.cells) {R : Int} (k : Gok g R) : CallV Tryz.prog M 131 [.agg #[.int .i64 g.wide, c]] h (.int .i64 (manyOf g)) := by
  have o1 := s.one
  have h1 := k.w1; have h2 := k.w5; have h3 := k.r1; have h4 := k.r5; have h5 := k.rows
  refine Cs Tryz.func131 Tryz.ntmps131 ?_
  repeat first | refine R1 ?_ | refine R2 fun _ => ?_
  refine Sd [[],[0],[],[2],[0,1,2,3],[0,1,2,3,4],[0,1,2,3,4,5]] 4 [Nn 0,Nn 1,Nn 2,Yy 3] ?_
  refine Da ?_
  refine Yv (l1High_v h c g s h1) ?_
  refine Da ?_
  refine Ae ?_
  repeat first | refine R1 ?_ | refine R2 fun _ => ?_
  exact sf_ret (rV rfl)
theorem sDirTurn_v (h : PHeap) (k d : Int) (hd : 0 ≤ d ∧ d ≤ 3) : CallV Tryz.prog M 214 [.int .i64 k, .int .i64 d] h (.int .i64 (dirTurn k d)) := by
  obtain ⟨n, rfl⟩ : ∃ n : Nat, d = n := ⟨d.toNat, by omega⟩
  have hn : n = 0 ∨ n = 1 ∨ n = 2 ∨ n = 3 := by omega
  refine Cs Tryz.func214 Tryz.ntmps214 ?_
  refine Wo ?_
  refine Xv (l6In_v _ _ _ _) ?_
  refine Wo ?_
  refine sf_cond (by rfl) (fun e => by simp at e; omega) fun _ => ?_
  refine Wo ?_
  rcases hn with rfl | rfl | rfl | rfl <;>
  · refine sf_if (fun e1 => ?_) fun e1 => ?_
    · refine Wo ?_
      refine sf_if (fun _ => ?_) fun e => absurd e1 e
      refine Wo ?_
      refine sf_ret (rV ?_)
      simp [dirTurn, e1, xorN]
    · refine Wo ?_
      refine sf_if (fun e2 => ?_) fun e2 => ?_
      · refine Wo ?_
        refine sf_ret (rV ?_)
        simp [dirTurn, e2, xorN]
      · refine Wo ?_
        refine sf_if (fun e3 => ?_) fun e3 => ?_
        · refine Wo ?_
          refine sf_if (fun _ => ?_) fun e => absurd e3 e
          refine Wo ?_
          refine sf_ret (rV ?_)
          simp [dirTurn, e3]
        · refine Wo ?_
          refine sf_if (fun e4 => ?_) fun e4 => ?_
          · refine Wo ?_
            refine sf_ret (rV ?_)
            simp [dirTurn, e4]
          · refine Wo ?_
            refine sf_ret (rV ?_)
            simp [dirTurn, e1, e2, e3, e4]
theorem next_rc {g : Grid} {R : Int} (k : Gok g R) {a d : Int} (h0 : 0 ≤ a) (h1 : a < g.cells.length) (dr dc : Int) (hd : (d = 0 ∧ dr = -1 ∧ dc = 0) ∨ (d = 1 ∧ dr = 0 ∧ dc = 1) ∨ (d = 2 ∧ dr = 1 ∧ dc = 0) ∨ (d = 3 ∧ dr = 0 ∧ dc = -1)) :
    nextAt g a d = if (0 ≤ a / g.wide + dr ∧ a / g.wide + dr ≤ rowsOf g - 1) ∧ 0 ≤ a % g.wide + dc ∧ a % g.wide + dc ≤ g.wide - 1 then some ((a / g.wide + dr) * g.wide + (a % g.wide + dc)) else none := by
  have h5 := k.len; have h6 := k.r1; have h7 := k.r5; have h8 := k.rows
  unfold nextAt
  rw [h8]
  rcases k.wides with e | e | e | e | e <;> simp only [e] at h5 ⊢ <;> rcases hd with ⟨rfl, rfl, rfl⟩ | ⟨rfl, rfl, rfl⟩ | ⟨rfl, rfl, rfl⟩ | ⟨rfl, rfl, rfl⟩ <;> simp only [if_true, if_false, show ¬ (1 : Int) = 0 by decide, show ¬ (2 : Int) = 0 by decide, show ¬ (2 : Int) = 1 by decide, show ¬ (3 : Int) = 0 by decide, show ¬ (3 : Int) = 1 by decide, show ¬ (3 : Int) = 2 by decide] <;> (split <;> split) <;> first | rfl | (exfalso; omega) | (congr 1; omega)
theorem l2Next_v (h : PHeap) (c : Value) (g : Grid) (s : Sl h c cellF g.cells) {R : Int} (k : Gok g R) (a d : Int) (ha : 0 ≤ a ∧ a < g.cells.length) (hd : 0 ≤ d ∧ d ≤ 3) : CallV Tryz.prog M 236 [.agg #[.int .i64 g.wide, c], .int .i64 a, .int .i64 d] h (stepV g a d) := by
  have o1 := s.one
  have h1 := k.w1; have h2 := k.w5; have h3 := k.r1; have h4 := k.r5; have h5 := k.rows
  have hsm := k.small
  obtain ⟨n, rfl⟩ : ∃ n : Nat, d = n := ⟨d.toNat, by omega⟩
  have q0 := Int.ediv_nonneg ha.1 (show 0 ≤ g.wide by omega)
  have q1 := Int.ediv_le_self g.wide ha.1
  have q2 := Int.emod_nonneg a (show g.wide ≠ 0 by omega)
  have q3 := Int.emod_lt_of_pos a (show 0 < g.wide by omega)
  have key : ∀ dr dc : Int, gt ([-1, 0, 1, 0] : List Int) n = dr → gt ([0, 1, 0, -1] : List Int) n = dc → nextAt g a (n : Int) = if (0 ≤ a / g.wide + dr ∧ a / g.wide + dr ≤ rowsOf g - 1) ∧ 0 ≤ a % g.wide + dc ∧ a % g.wide + dc ≤ g.wide - 1 then some ((a / g.wide + dr) * g.wide + (a % g.wide + dc)) else none := by
    intro dr dc e1 e2
    have hn : n = 0 ∨ n = 1 ∨ n = 2 ∨ n = 3 := by omega
    refine next_rc k ha.1 ha.2 dr dc ?_
    rcases hn with rfl | rfl | rfl | rfl <;> subst e1 e2 <;> simp [gt]
  have b1 : -1 ≤ gt ([-1, 0, 1, 0] : List Int) n ∧ gt ([-1, 0, 1, 0] : List Int) n ≤ 1 := by
    have hn : n = 0 ∨ n = 1 ∨ n = 2 ∨ n = 3 := by omega
    rcases hn with rfl | rfl | rfl | rfl <;> simp [gt]
  have b2 : -1 ≤ gt ([0, 1, 0, -1] : List Int) n ∧ gt ([0, 1, 0, -1] : List Int) n ≤ 1 := by
    have hn : n = 0 ∨ n = 1 ∨ n = 2 ∨ n = 3 := by omega
    rcases hn with rfl | rfl | rfl | rfl <;> simp [gt]
  refine Cs Tryz.func236 Tryz.ntmps236 ?_
  repeat first | refine R1 ?_ | refine R2 fun _ => ?_
  generalize hX : ([-1, 0, 1, 0] : List Int) = xs at *
  generalize hY : ([0, 1, 0, -1] : List Int) = ys at *
  have lx : xs.length = 4 := by rw [← hX]; rfl
  have ly : ys.length = 4 := by rw [← hY]; rfl
  refine Sd [[],[],[1],[0,1,2],[],[],[4,5],[4,5,6],[0,1,2,3,4,5,6,7],[0,1,2,3,4,5,6,7,8]] 8 [Nn 0,Nn 1,Nn 2,Nn 3,Nn 5,Yy 4,Nn 6,Yy 7] ?_
  refine Da ?_
  refine Yb fun w Aw gw => ?_
  rw [hX] at gw
  refine Da ?_
  refine Yw (by rfl) (z_loadG (by rfl) gw (by omega) (by rfl)) ?_
  refine Da ?_
  refine Ae ?_
  repeat first | refine R1 ?_ | refine R2 fun _ => ?_
  refine Sd [[],[],[1],[0,1,2],[],[],[4,5],[4,5,6],[0,1,2,3,4,5,6,7],[0,1,2,3,4,5,6,7,8]] 8 [Nn 0,Nn 1,Nn 2,Nn 3,Nn 5,Yy 4,Nn 6,Yy 7] ?_
  refine Da ?_
  refine Yb fun u Au gu => ?_
  rw [hY] at gu
  refine Da ?_
  refine Yw (by rfl) (z_loadG (by rfl) gu (by omega) (by rfl)) ?_
  refine Da ?_
  refine Ae ?_
  have key' := key _ _ rfl rfl
  clear key
  repeat first | refine R1 ?_ | refine R2 fun _ => ?_
  refine Xv (l1High_v h c g s h1) ?_
  repeat first | refine R1 ?_ | refine R2 fun _ => ?_
  refine Xv (l6In_v _ _ _ _) ?_
  repeat first | refine R1 ?_ | refine R2 fun _ => ?_
  refine f_splitB (fun e1 => ?_) fun e1 => ?_
  · repeat first | refine R1 ?_ | refine R2 fun _ => ?_
    refine sf_T rfl ?_
    repeat first | refine R1 ?_ | refine R2 fun _ => ?_
    refine sf_ret (rV ?_)
    rw [stepV, key', if_neg (by simp at e1; omega)]
  · repeat first | refine R1 ?_ | refine R2 fun _ => ?_
    refine Xv (l6In_v _ _ _ _) ?_
    repeat first | refine R1 ?_ | refine R2 fun _ => ?_
    refine sf_cond (by rfl) (fun e2 => ?_) fun e2 => ?_
    · repeat first | refine R1 ?_ | refine R2 fun _ => ?_
      refine sf_ret (rV ?_)
      rw [stepV, key', if_neg (by simp at e2; omega)]
    · have f1 : 0 ≤ a / g.wide + gt xs n ∧ a / g.wide + gt xs n ≤ rowsOf g - 1 := by simp at e1; omega
      have f2 : 0 ≤ a % g.wide + gt ys n ∧ a % g.wide + gt ys n ≤ g.wide - 1 := by simp at e2; omega
      have f3 : 0 ≤ (a / g.wide + gt xs n) * g.wide ∧ (a / g.wide + gt xs n) * g.wide ≤ 5 * 5 := ⟨Int.mul_nonneg (by omega) (by omega), Int.mul_le_mul (by omega) (by omega) (by omega) (by omega)⟩
      repeat first | refine R1 ?_ | refine R2 fun _ => ?_
      refine sf_ret (rV ?_)
      rw [stepV, key', if_pos ⟨f1, f2⟩]
theorem l3Ray_v (h : PHeap) (c : Value) (g : Grid) (s : Sl h c cellF g.cells) {R : Int} (k : Gok g R) (j : Int) (h0 : 0 ≤ j) (hm : j < manyOf g) : CallV Tryz.prog M 183 [.agg #[.int .i64 g.wide, c], .int .i64 j] h (.agg #[.int .i64 (rayAt g j).at', .int .i64 (rayAt g j).dir]) := by
  have o1 := s.one
  have h1 := k.w1; have h2 := k.w5; have h3 := k.r1; have h4 := k.r5; have h5 := k.rows
  have hsm := k.small
  unfold manyOf at hm
  refine Cs Tryz.func183 Tryz.ntmps183 ?_
  repeat first | refine R1 ?_ | refine R2 fun _ => ?_
  refine Xv (l1High_v h c g s h1) ?_
  repeat first | refine R1 ?_ | refine R2 fun _ => ?_
  refine sf_if (fun e1 => ?_) fun e1 => ?_
  · repeat first | refine R1 ?_ | refine R2 fun _ => ?_
    refine sf_ret (rV ?_)
    rw [rayAt, if_pos e1]
  repeat first | refine R1 ?_ | refine R2 fun _ => ?_
  refine sf_if (fun e2 => ?_) fun e2 => ?_
  · have f3 : 0 ≤ (j - g.wide) * g.wide ∧ (j - g.wide) * g.wide ≤ 5 * 5 := ⟨Int.mul_nonneg (by omega) (by omega), Int.mul_le_mul (by omega) (by omega) (by omega) (by omega)⟩
    repeat first | refine R1 ?_ | refine R2 fun _ => ?_
    refine sf_ret (rV ?_)
    rw [rayAt, if_neg e1, if_pos e2]
  repeat first | refine R1 ?_ | refine R2 fun _ => ?_
  refine sf_if (fun e3 => ?_) fun e3 => ?_
  · repeat first | refine R1 ?_ | refine R2 fun _ => ?_
    refine sf_ret (rV ?_)
    rw [rayAt, if_neg e1, if_neg e2, if_pos e3]
  have f3 : 0 ≤ (j - g.wide - rowsOf g - g.wide) * g.wide ∧ (j - g.wide - rowsOf g - g.wide) * g.wide ≤ 5 * 5 := ⟨Int.mul_nonneg (by omega) (by omega), Int.mul_le_mul (by omega) (by omega) (by omega) (by omega)⟩
  repeat first | refine R1 ?_ | refine R2 fun _ => ?_
  refine sf_ret (rV ?_)
  rw [rayAt, if_neg e1, if_neg e2, if_neg e3]
  simp only [show (g.cells.length : Int) - 1 - g.wide + 1 - (j - g.wide - rowsOf g - g.wide) * g.wide = g.cells.length - g.wide - (j - g.wide - rowsOf g - g.wide) * g.wide by omega]
theorem l3Of_v (h : PHeap) (c : Value) (g : Grid) (s : Sl h c cellF g.cells) {R : Int} (k : Gok g R) (a d : Int) (hd : 0 ≤ d ∧ d ≤ 3) : CallV Tryz.prog M 237 [.agg #[.int .i64 g.wide, c], .int .i64 a, .int .i64 d] h (.int .i64 (sightOf g a d)) := by
  have o1 := s.one
  have hmm := k.many
  obtain ⟨N, hN⟩ : ∃ N : Nat, manyOf g = N := ⟨(manyOf g).toNat, by omega⟩
  refine Cs Tryz.func237 Tryz.ntmps237 ?_
  repeat first | refine R1 ?_ | refine R2 fun _ => ?_
  refine sf_rd [1, 2, 3] 7 N 0 (fun j => ∀ i : Int, 0 ≤ i → i < j → rayAt g i ≠ ⟨a, (d + 2) % 4⟩) (by omega) (fun i _ _ => by omega) (fun j hj hi => ?_)
  repeat first | refine R1 ?_ | refine R2 fun _ => ?_
  refine Xv (l3Many_v h c g s k) ?_
  rw [hN]
  repeat first | refine R1 ?_ | refine R2 fun _ => ?_
  refine sf_if (fun h4 => ?_) fun h4 => ?_
  · obtain ⟨⟨r0, r1⟩, r2, r3⟩ := rayAt_ok k (j := (j : Int)) (by omega) (by omega)
    repeat first | refine R1 ?_ | refine R2 fun _ => ?_
    refine Xv (l3Ray_v h c g s k (j : Int) (by omega) (by omega)) ?_
    repeat first | refine R1 ?_ | refine R2 fun _ => ?_
    refine f_split (fun e1 => ?_) fun e1 => ?_
    · repeat first | refine R1 ?_ | refine R2 fun _ => ?_
      refine Xv (l2Back_v _ _ r2 r3) ?_
      repeat first | refine R1 ?_ | refine R2 fun _ => ?_
      refine sf_if (fun e2 => ?_) fun e2 => ?_
      · repeat first | refine R1 ?_ | refine R2 fun _ => ?_
        refine sf_ret (rV ?_)
        rw [sightOf_some k (i := (j : Int)) (by omega) (by omega) (ray_eq e1 (by omega))]
      · repeat first | refine R1 ?_ | refine R2 fun _ => ?_
        refine ⟨⟨by omega, fun i i0 i1 => ?_⟩, rfl, rfl, _, inferInstance⟩
        rcases Int.lt_or_le i j with h | h
        · exact hi i i0 h
        · obtain rfl : i = j := by omega
          intro e; rw [e] at e2; simp only at e2; omega
    · repeat first | refine R1 ?_ | refine R2 fun _ => ?_
      refine sf_N rfl ?_
      repeat first | refine R1 ?_ | refine R2 fun _ => ?_
      refine ⟨⟨by omega, fun i i0 i1 => ?_⟩, rfl, rfl, _, inferInstance⟩
      rcases Int.lt_or_le i j with h | h
      · exact hi i i0 h
      · obtain rfl : i = j := by omega
        intro e; rw [e] at e1; exact e1 rfl
  · refine sf_exit ?_
    repeat first | refine R1 ?_ | refine R2 fun _ => ?_
    refine sf_ret (rV ?_)
    rw [sightOf_none fun i i0 i1 => hi i i0 (by omega)]
theorem sEnd_f (h : PHeap) (b : Nat) (w c vv ev : Value) (ow : Sl.One w) (oc : Sl.One c) (ov : Sl.One vv) (AE : Own) (es : List LEnd) (gr : Gr AE ev 224 endF es) (hl : es.length ≤ 200000) (kind a n : Int) :
    CallF Tryz.prog M 212 [.pointer (some ⟨b, 0, none⟩), .int .i64 kind, .int .i64 a, .int .i64 n] ((b, .cells #[w, c, vv, ev] 185) :: AE) h fun _ A => ∃ ev' AE', A = (b, .cells #[w, c, vv, ev'] 185) :: AE' ∧ Gr AE' ev' 224 endF (es ++ endIf kind a n) := by
  have o1 := gr.one
  refine Cs Tryz.func212 Tryz.ntmps212 ?_
  refine Wo ?_
  refine sf_if (fun e => ?_) fun e => ?_
  · refine Wo ?_
    refine Xb fun u Au gu => ?_
    refine Wo ?_
    refine Xa gr gu fun ev2 A2 g2 => ?_
    have o2 := g2.one
    refine Wo ?_
    exact nO ((b, .cells #[w, c, vv, ev2] 185) :: A2) ⟨ev2, A2, rfl, by rw [endIf, if_pos e]; exact g2⟩
  · refine Wo ?_
    exact nO ((b, .cells #[w, c, vv, ev] 185) :: AE) ⟨ev, AE, rfl, by rw [endIf, if_neg e, List.append_nil]; exact gr⟩
def WalkO (b : Nat) (g : Grid) (c : Value) (A : Own) (V : List Visit) (E : List LEnd) : Prop := ∃ vv ev AV AE, A = (b, .cells #[.int .i64 g.wide, c, vv, ev] 185) :: (AV ++ AE) ∧ Gr AV vv 257 visitF V ∧ Gr AE ev 224 endF E
def GoesOn (M : Jdg → Prop) (h : PHeap) (b : Nat) (g : Grid) (c : Value) (f : FuncId) (a d w : Int) (r : Sl.Lit) : Prop :=
  ∀ (A : Own) (V : List Visit) (E : List LEnd), WalkO b g c A V E → V.length + r.1 ≤ 50000 → E.length + 2 * r.1 ≤ 100000 →
    CallF Tryz.prog M f [.pointer (some ⟨b, 0, none⟩), .int .i64 a, .int .i64 d, .int .i64 w] A h fun _ A' => WalkO b g c A' (V ++ r.2.1) (E ++ r.2.2)
theorem sLeave_f (h : PHeap) (b : Nat) (c : Value) (g : Grid) (s : Sl h c cellF g.cells) {R : Int} (k : Gok g R) (n : Nat) (a d w : Int) (ha : 0 ≤ a ∧ a < g.cells.length) (hd : 0 ≤ d ∧ d ≤ 3) (hw : 1 ≤ w ∧ w ≤ 64) (r : Sl.Lit) (hr : leaveF g (comeF g n) a d w = some r)
    (ih : ∀ (a d w : Int) (r : Sl.Lit), (0 ≤ a ∧ a < g.cells.length) → (0 ≤ d ∧ d ≤ 3) → (1 ≤ w ∧ w ≤ 64) → comeF g n a d w = some r → GoesOn M h b g c 184 a d w r) : GoesOn M h b g c 215 a d w r := by
  rintro A V E ⟨vv, ev, AV, AE, rfl, gv, ge⟩ hV hE
  have o1 := s.one
  have o2 := gv.one
  have o3 := ge.one
  have hsm := k.small
  unfold leaveF at hr
  rw [if_neg (by omega)] at hr
  refine Cs Tryz.func215 Tryz.ntmps215 ?_
  repeat first | refine R1 ?_ | refine R2 fun _ => ?_
  refine Xv (l2Next_v h c g s k a d ha hd) ?_
  unfold stepV
  cases en : nextAt g a d with
  | some b2 =>
    rw [en] at hr
    simp only at hr ⊢
    repeat first | refine R1 ?_ | refine R2 fun _ => ?_
    refine sf_T rfl ?_
    repeat first | refine R1 ?_ | refine R2 fun _ => ?_
    refine fp (y_call (ih b2 d w r (nextAt_ok k ha.1 ha.2 en) hd hw hr _ V E ⟨vv, ev, AV, AE, rfl, gv, ge⟩ hV hE) (by rfl) ?_)
    rintro _ A2 q
    repeat first | refine R1 ?_ | refine R2 fun _ => ?_
    exact sf_ret (rO A2 q)
  | none =>
    rw [en] at hr
    simp only [Option.some.injEq] at hr ⊢
    subst hr
    repeat first | refine R1 ?_ | refine R2 fun _ => ?_
    refine sf_N rfl ?_
    repeat first | refine R1 ?_ | refine R2 fun _ => ?_
    refine Xv (l3Of_v h c g s k a d hd) ?_
    repeat first | refine R1 ?_ | refine R2 fun _ => ?_
    refine fp (y_call (sEnd_f h b (.int .i64 g.wide) c vv ev inferInstance o1 o2 AE E ge (by simp only at hE; omega) 0 (sightOf g a d) w) (by rfl) ?_)
    rintro _ _ ⟨ev2, AE2, rfl, ge2⟩
    rw [endIf, if_pos (by omega)] at ge2
    repeat first | refine R1 ?_ | refine R2 fun _ => ?_
    exact nO ((b, .cells #[.int .i64 g.wide, c, vv, ev2] 185) :: (AV ++ AE2)) ⟨vv, ev2, AV, AE2, rfl, by simpa using gv, ge2⟩
theorem sHalf_f (h : PHeap) (b : Nat) (c : Value) (g : Grid) (s : Sl h c cellF g.cells) {R : Int} (k : Gok g R) (n : Nat) (a d w : Int) (ha : 0 ≤ a ∧ a < g.cells.length) (hd : 0 ≤ d ∧ d ≤ 3) (hw : 0 ≤ w ∧ w ≤ 64) (r : Sl.Lit) (hr : leaveF g (comeF g n) a d w = some r)
    (ih : ∀ (a d w : Int) (r : Sl.Lit), (0 ≤ a ∧ a < g.cells.length) → (0 ≤ d ∧ d ≤ 3) → (1 ≤ w ∧ w ≤ 64) → comeF g n a d w = some r → GoesOn M h b g c 184 a d w r) : GoesOn M h b g c 213 a d w r := by
  intro A V E hA hV hE
  refine Cs Tryz.func213 Tryz.ntmps213 ?_
  refine Wo ?_
  refine sf_if (fun e => ?_) fun e => ?_
  · refine Wo ?_
    refine fp (y_call (sLeave_f h b c g s k n a d w ha hd ⟨by omega, hw.2⟩ r hr ih A V E hA hV hE) (by rfl) ?_)
    rintro _ A2 q
    refine Wo ?_
    exact nO A2 q
  · obtain rfl : w = 0 := by omega
    cases hr
    refine Wo ?_
    exact nO A (by simpa using hA)
theorem lenOf_come {g : Grid} {R : Int} (k : Gok g R) {n : Nat} {a d w : Int} (ha : 0 ≤ a ∧ a < g.cells.length) (hd : 0 ≤ d ∧ d ≤ 3) (hw : w ≤ 64 ∧ 0 ≤ w) {n1 : Nat} {v1 : List Visit} {e1 : List LEnd} (h : leaveF g (comeF g n) a d w = some (n1, v1, e1)) : v1.length ≤ n1 ∧ e1.length ≤ 2 * n1 := by
  unfold leaveF at h
  split at h
  · cases h; simp
  · split at h
    · cases h; simp
    · rename_i b hn
      have hb := nextAt_ok k ha.1 ha.2 hn
      have := comeF_ok k _ _ _ _ _ hb.1 hb.2 hd.1 hd.2 (by omega) h
      exact ⟨this.lv, this.le⟩
theorem sCome_f (h : PHeap) (b : Nat) (c : Value) (g : Grid) (s : Sl h c cellF g.cells) {R : Int} (k : Gok g R) : ∀ (n : Nat) (a d w : Int) (r : Sl.Lit), (0 ≤ a ∧ a < g.cells.length) → (0 ≤ d ∧ d ≤ 3) → (1 ≤ w ∧ w ≤ 64) → comeF g n a d w = some r → GoesOn M h b g c 184 a d w r
  | 0, _, _, _, _, _, _, _, hr => by cases hr
  | n + 1, a, d, w, r, ha, hd, hw, hr => by
    obtain ⟨n1, v1, e1, n2, v2, e2, q1, q2, rfl⟩ := comeF_inv hr
    have ih := sCome_f h b c g s k n
    rintro A V E ⟨vv, ev, AV, AE, rfl, gv, ge⟩ hV hE
    have o1 := s.one
    have o2 := gv.one
    have o3 := ge.one
    have hsm := k.small
    have hkd := k.kind ha.1 ha.2
    have hdt := dirTurn_ok (kind := (gt g.cells a.toNat).kind) hd.1 hd.2
    have hsp := spread_le (kind := (gt g.cells a.toNat).kind) hw.1
    obtain ⟨a, rfl⟩ : ∃ a' : Nat, a = a' := ⟨a.toNat, by omega⟩
    simp only at hV hE
    have hh : w / 2 ≤ 64 ∧ 0 ≤ w / 2 := by omega
    have zr : ∀ {x : Int} {r : Sl.Lit}, leaveF g (comeF g n) a x 0 = some r → r = (1, [], []) := fun e => by cases e; rfl
    refine Cs Tryz.func184 Tryz.ntmps184 ?_
    refine Wo ?_
    refine sf_if (fun e0 => ?_) fun e0 => ?_
    · omega
    refine Wo ?_
    refine Xb fun u Au gu => ?_
    refine Wo ?_
    refine Xa gv gu fun vv2 AV2 gv2 => ?_
    have o4 := gv2.one
    refine Wo ?_
    simp only [Int.toNat_natCast] at hkd hdt hsp q1 q2
    generalize hkk : (gt g.cells a).kind = kd at *
    have hH : hereF g (a : Int) w = endIf (if kd = 7 then 2 else 1) a (spread kd w).stop ++ endIf 3 a (spread kd w).lost := by subst hkk; unfold hereF; simp only [Int.toNat_natCast]
    rw [hH]
    clear hr hH
    refine sf_if (fun k1 => ?_) fun k1 => ?_
    · subst k1
      have z1 := zr q1
      have z2 := zr q2
      simp only [Prod.mk.injEq] at z1 z2
      obtain ⟨rfl, rfl, rfl⟩ := z1
      obtain ⟨rfl, rfl, rfl⟩ := z2
      refine Wo ?_
      refine fp (y_call (sEnd_f h b (.int .i64 g.wide) c vv2 ev inferInstance o1 o4 AE E ge (by omega) 1 a w) (by rfl) ?_)
      rintro _ _ ⟨ev2, AE2, rfl, ge2⟩
      refine Wo ?_
      exact nO ((b, .cells #[.int .i64 g.wide, c, vv2, ev2] 185) :: (AV2 ++ AE2)) ⟨vv2, ev2, AV2, AE2, rfl, by simpa using gv2, by simpa [spread, endIf] using ge2⟩
    refine Wo ?_
    refine sf_if (fun k7 => ?_) fun k7 => ?_
    · subst k7
      have z1 := zr q1
      have z2 := zr q2
      simp only [Prod.mk.injEq] at z1 z2
      obtain ⟨rfl, rfl, rfl⟩ := z1
      obtain ⟨rfl, rfl, rfl⟩ := z2
      refine Wo ?_
      refine fp (y_call (sEnd_f h b (.int .i64 g.wide) c vv2 ev inferInstance o1 o4 AE E ge (by omega) 2 a w) (by rfl) ?_)
      rintro _ _ ⟨ev2, AE2, rfl, ge2⟩
      refine Wo ?_
      exact nO ((b, .cells #[.int .i64 g.wide, c, vv2, ev2] 185) :: (AV2 ++ AE2)) ⟨vv2, ev2, AV2, AE2, rfl, by simpa using gv2, by simpa [spread, endIf] using ge2⟩
    refine Wo ?_
    refine sf_if (fun k6 => ?_) fun k6 => ?_
    · subst k6
      have z2 := zr q2
      simp only [Prod.mk.injEq] at z2
      obtain ⟨rfl, rfl, rfl⟩ := z2
      refine Wo ?_
      refine fp (y_call (sEnd_f h b (.int .i64 g.wide) c vv2 ev inferInstance o1 o4 AE E ge (by omega) 3 a (w - w / 2)) (by rfl) ?_)
      rintro _ _ ⟨ev2, AE2, rfl, ge2⟩
      have hel := endIf_len 3 a (w - w / 2)
      refine Wo ?_
      refine fp (y_call (sHalf_f h b c g s k n a d (w / 2) ha hd ⟨hh.2, hh.1⟩ _ q1 ih _ _ _ ⟨vv2, ev2, AV2, AE2, rfl, gv2, ge2⟩ (by simp; omega) (by simp only [List.length_append]; omega)) (by rfl) ?_)
      rintro _ A3 q
      refine Wo ?_
      exact nO A3 (by simpa [spread, endIf] using q)
    refine Wo ?_
    by_cases k45 : kd = 4 ∨ kd = 5
    · have es : spread kd w = ⟨w / 2, w / 2, w - w / 2 - w / 2, 0⟩ := by unfold spread; rw [if_neg (by omega), if_neg (by omega), if_pos k45]
      have k7' : kd ≠ 7 := by omega
      simp only [es] at q1 q2 ⊢
      have ew : w - 2 * (w / 2) = w - w / 2 - w / 2 := by omega
      refine sf_if (fun k4 => ?_) fun k4 => ?_
      · refine Wo ?_
        refine sf_if (fun _ => ?_) fun e => absurd k4 e
        refine Wo ?_
        rw [ew]
        refine fp (y_call (sEnd_f h b (.int .i64 g.wide) c vv2 ev inferInstance o1 o4 AE E ge (by omega) 3 a (w - w / 2 - w / 2)) (by rfl) ?_)
        rintro _ _ ⟨ev2, AE2, rfl, ge2⟩
        have hel := endIf_len 3 a (w - w / 2 - w / 2)
        refine Wo ?_
        refine fp (y_call (sHalf_f h b c g s k n a d (w / 2) ha hd ⟨hh.2, hh.1⟩ _ q1 ih _ _ _ ⟨vv2, ev2, AV2, AE2, rfl, gv2, ge2⟩ (by simp; omega) (by simp only [List.length_append]; omega)) (by rfl) ?_)
        rintro _ A3 q
        refine Wo ?_
        refine Xv (sDirTurn_v h kd d hd) ?_
        refine Wo ?_
        have l1 := lenOf_come k ha hd hh q1
        refine fp (y_call (sHalf_f h b c g s k n a (dirTurn kd d) (w / 2) ha hdt ⟨hh.2, hh.1⟩ _ q2 ih _ _ _ q (by simp only [List.length_append, List.length_cons, List.length_nil]; omega) (by simp only [List.length_append]; omega)) (by rfl) ?_)
        rintro _ A4 q'
        refine Wo ?_
        exact nO A4 (by simpa [k7', endIf] using q')
      · refine Wo ?_
        have k5 : kd = 5 := by omega
        refine sf_if (fun _ => ?_) fun e => absurd k5 e
        refine Wo ?_
        rw [ew]
        refine fp (y_call (sEnd_f h b (.int .i64 g.wide) c vv2 ev inferInstance o1 o4 AE E ge (by omega) 3 a (w - w / 2 - w / 2)) (by rfl) ?_)
        rintro _ _ ⟨ev2, AE2, rfl, ge2⟩
        have hel := endIf_len 3 a (w - w / 2 - w / 2)
        refine Wo ?_
        refine fp (y_call (sHalf_f h b c g s k n a d (w / 2) ha hd ⟨hh.2, hh.1⟩ _ q1 ih _ _ _ ⟨vv2, ev2, AV2, AE2, rfl, gv2, ge2⟩ (by simp; omega) (by simp only [List.length_append]; omega)) (by rfl) ?_)
        rintro _ A3 q
        refine Wo ?_
        refine Xv (sDirTurn_v h kd d hd) ?_
        refine Wo ?_
        have l1 := lenOf_come k ha hd hh q1
        refine fp (y_call (sHalf_f h b c g s k n a (dirTurn kd d) (w / 2) ha hdt ⟨hh.2, hh.1⟩ _ q2 ih _ _ _ q (by simp only [List.length_append, List.length_cons, List.length_nil]; omega) (by simp only [List.length_append]; omega)) (by rfl) ?_)
        rintro _ A4 q'
        refine Wo ?_
        exact nO A4 (by simpa [k7', endIf] using q')
    · have k7' : kd ≠ 7 := k7
      have k4 : ¬ kd = 4 := by omega
      have k5 : ¬ kd = 5 := by omega
      refine sf_if (fun e => absurd e k4) fun _ => ?_
      refine Wo ?_
      refine sf_if (fun e => absurd e k5) fun _ => ?_
      refine Wo ?_
      refine Xv (sDirTurn_v h kd d hd) ?_
      refine Wo ?_
      have k023 : kd = 0 ∨ (kd = 2 ∨ kd = 3) := by omega
      rcases k023 with k0 | k23
      · have es : spread kd w = ⟨w, 0, 0, 0⟩ := by unfold spread; rw [if_pos k0]
        simp only [es] at q1 q2 ⊢
        have z2 := zr q2
        simp only [Prod.mk.injEq] at z2
        obtain ⟨rfl, rfl, rfl⟩ := z2
        rw [show dirTurn kd d = d by rw [k0]; rfl]
        refine fp (y_call (sLeave_f h b c g s k n a d w ha hd hw _ q1 ih _ _ _ ⟨vv2, ev, AV2, AE, rfl, gv2, ge⟩ (by simp; omega) (by omega)) (by rfl) ?_)
        rintro _ A3 q
        refine Wo ?_
        exact nO A3 (by simpa [k7', endIf] using q)
      · have es : spread kd w = ⟨0, w, 0, 0⟩ := by unfold spread; rw [if_neg (by omega), if_pos k23]
        simp only [es] at q1 q2 ⊢
        have z1 := zr q1
        simp only [Prod.mk.injEq] at z1
        obtain ⟨rfl, rfl, rfl⟩ := z1
        refine fp (y_call (sLeave_f h b c g s k n a (dirTurn kd d) w ha hdt hw _ q2 ih _ _ _ ⟨vv2, ev, AV2, AE, rfl, gv2, ge⟩ (by simp; omega) (by omega)) (by rfl) ?_)
        rintro _ A3 q
        refine Wo ?_
        exact nO A3 (by simpa [k7', endIf] using q)
theorem l11Go_f (h : PHeap) (c : Value) (g : Grid) (s : Sl h c cellF g.cells) {R : Int} (k : Gok g R) (j : Int) (hj : 0 ≤ j ∧ j < manyOf g) : CallF Tryz.prog M 133 [.agg #[.int .i64 g.wide, c], .int .i64 j] [] h fun v A => ∃ b, v = .pointer (some ⟨b, 0, none⟩) ∧ WalkO b g c A (goLight g j).1 (goLight g j).2 := by
  have o1 := s.one
  obtain ⟨sz, v, es, hc, hg, hsz, hok⟩ := goLight_is k hj.1 hj.2
  rw [hg]
  obtain ⟨hra, hrd⟩ := rayAt_ok k hj.1 hj.2
  refine Cs Tryz.func133 Tryz.ntmps133 ?_
  repeat first | refine R1 ?_ | refine R2 fun _ => ?_
  refine Xb fun vv AV gv => ?_
  have ov := gv.one
  repeat first | refine R1 ?_ | refine R2 fun _ => ?_
  refine Xb fun ev AE ge => ?_
  have oe := ge.one
  repeat first | refine R1 ?_ | refine R2 fun _ => ?_
  refine Xv (l3Ray_v h c g s k j hj.1 hj.2) ?_
  repeat first | refine R1 ?_ | refine R2 fun _ => ?_
  rename_i b2 b5 b6
  refine fp (y_call (sCome_f h b5 c g s k 6600 _ _ 64 (sz, v, es) hra hrd ⟨by decide, by decide⟩ hc ((b5, .cells #[.int .i64 g.wide, c, vv, ev] 185) :: (AV ++ AE)) [] [] ⟨vv, ev, AV, AE, rfl, gv, ge⟩ (by simp only [List.length_nil]; omega) (by simp only [List.length_nil]; omega)) (by rfl) ?_)
  rintro _ A2 q
  repeat first | refine R1 ?_ | refine R2 fun _ => ?_
  exact sf_ret (rO A2 ⟨b5, rfl, by simpa using q⟩)
theorem l11Light_v (h : PHeap) (c : Value) (g : Grid) (s : Sl h c cellF g.cells) {R : Int} (kg : Gok g R) (ev : Value) (es : List LEnd) (sl : Sl h ev endF es) (hes : ∀ e ∈ es, EndOk g 64 e) (hle : es.length ≤ 100000) : CallV Tryz.prog M 132 [.agg #[.int .i64 g.wide, c], ev] h (.int .i64 (lightOf g es)) := by
  have o1 := s.one
  have o2 := sl.one
  refine Cs Tryz.func132 Tryz.ntmps132 ?_
  repeat first | refine R1 ?_ | refine R2 fun _ => ?_
  rename_i b2
  refine sf_lp (ι := Nat) [1, 2] (fun k => [(5, .int .i64 (sumF (endLight g) (es.take k))), (6, .int .i64 (k : Int))]) (fun k O => k ≤ es.length ∧ O = [(b2, .cells #[.int .i64 g.wide, c] 34)]) (fun k => es.length - k) 0 [(b2, .cells #[.int .i64 g.wide, c] 34)] ⟨by omega, rfl⟩ ?_
  rintro j O ⟨hj, rfl⟩
  have hsum := lightOf_bd kg hes j hle
  repeat first | refine R1 ?_ | refine R2 fun _ => ?_
  refine sf_if (fun e1 => ?_) fun e1 => ?_
  · have hj1 : j < es.length := by omega
    have ek := hes (gt es j) (by rw [gt_eq hj1]; exact List.getElem_mem _)
    have hst := sumF_step (f := endLight g) hj1
    have hbd := endLight_bd kg ek
    repeat first | refine R1 ?_ | refine R2 fun _ => ?_
    refine sf_if (fun e2 => ?_) fun e2 => ?_
    · have hcl := ek.cell (by omega)
      rw [endLight, if_pos e2] at hst hbd
      repeat first | refine R1 ?_ | refine R2 fun _ => ?_
      refine Sd [[],[],[],[1,2],[1,2,3],[1,2,3,4],[],[6],[],[],[8,9],[8,9,10],[8,9,10,11],[6,7,8,9,10,11,12],[6,7,8,9,10,11,12,13],[6,7,8,9,10,11,12,13,14],[1,2,3,4,5,6,7,8,9,10,11,12,13,14,15],[0,1,2,3,4,5,6,7,8,9,10,11,12,13,14,15,16],[0,1,2,3,4,5,6,7,8,9,10,11,12,13,14,15,16,17]] 17 [Nn 0,Nn 1,Nn 2,Nn 3,Nn 4,Nn 5,Nn 6,Nn 7,Nn 8,Nn 9,Nn 10,Nn 11,Nn 12,Nn 13,Nn 14,Nn 15,Nn 16] ?_
      refine Da ?_
      refine Ae ?_
      repeat first | refine R1 ?_ | refine R2 fun _ => ?_
      exact ⟨j + 1, by omega, ⟨by rw [hst]; rfl, rfl, trivial⟩, rfl, _, _, inferInstance, by omega, rfl⟩
    · rw [endLight, if_neg e2, Int.add_zero] at hst
      repeat first | refine R1 ?_ | refine R2 fun _ => ?_
      exact ⟨j + 1, by omega, ⟨by rw [hst]; rfl, rfl, trivial⟩, rfl, _, _, inferInstance, by omega, rfl⟩
  · refine sf_exit ?_
    repeat first | refine R1 ?_ | refine R2 fun _ => ?_
    refine sf_ret (rV ?_)
    rw [lightOf, List.take_of_length_le (by omega)]
theorem l12Pic_f (h : PHeap) (c : Value) (g : Grid) (s : Sl h c cellF g.cells) {R : Int} (k : Gok g R) : CallF Tryz.prog M 64 [.agg #[.int .i64 g.wide, c]] [] h fun v A => Gr A v 3 intF (picOf g) := by
  have o1 := s.one
  have hmm := k.many
  obtain ⟨N, hN⟩ : ∃ N : Nat, manyOf g = N := ⟨(manyOf g).toNat, by omega⟩
  have hP : picOf g = (List.range N).map fun j => trailLight g (j : Nat) := by rw [picOf, hN]; rfl
  rw [hP]
  refine Cs Tryz.func64 Tryz.ntmps64 ?_
  repeat first | refine R1 ?_ | refine R2 fun _ => ?_
  refine Xb fun w A g0 => ?_
  repeat first | refine R1 ?_ | refine R2 fun _ => ?_
  rename_i b1
  refine sf_lp (ι := Nat × Value) [1] (fun x => [(4, .int .i64 (x.1 : Int)), (3, x.2)]) (fun x O => x.1 ≤ N ∧ ∃ A', O = A' ++ [(b1, .cells #[.int .i64 g.wide, c] 34)] ∧ ∃ xs, xs.length = x.1 ∧ xs = ((List.range x.1).map fun j => trailLight g (j : Nat)) ∧ Gr A' x.2 3 intF xs) (fun x => N - x.1) (0, w) (A ++ [(b1, .cells #[.int .i64 g.wide, c] 34)]) ⟨by omega, A, rfl, [], rfl, rfl, g0⟩ ?_
  rintro ⟨j, v⟩ O ⟨hj, A', rfl, xs, lx, ex, gr⟩
  simp only at hj lx ex gr ⊢
  have o2 := gr.one
  repeat first | refine R1 ?_ | refine R2 fun _ => ?_
  refine Xv (l3Many_v h c g s k) ?_
  rw [hN]
  repeat first | refine R1 ?_ | refine R2 fun _ => ?_
  refine sf_if (fun e1 => ?_) fun e1 => ?_
  · obtain ⟨sz, vs, es, hc, hg, hsz, hok⟩ := goLight_is k (j := (j : Int)) (by omega) (by omega)
    have hes : ∀ e ∈ es, EndOk g 64 e := hok.es
    have hle := hok.le
    simp only at hle
    have eT : trailLight g (j : Nat) = lightOf g es := by rw [trailLight, hg]
    repeat first | refine R1 ?_ | refine R2 fun _ => ?_
    refine Sd [[],[],[],[],[2,3],[2,3,4],[2,3,4,5],[2,3,4,5,6],[1,2,3,4,5,6,7],[1,2,3,4,5,6,7,8],[0,1,2,3,4,5,6,7,8,9],[0,1,2,3,4,5,6,7,8,9,10]] 10 [Nn 0,Nn 1,Nn 2,Nn 3,Yy 4,Nn 5,Nn 6,Yy 7,Yy 8,Yy 9] ?_
    refine Da ?_
    refine Yc (l11Go_f h c g s k (j : Int) ⟨by omega, by omega⟩) ?_
    rintro _ _ ⟨b3, rfl, vv, ev, AV, AE, rfl, gv, ge⟩
    rw [hg] at gv ge
    have ov := gv.one
    have oe := ge.one
    refine Da ?_
    refine Yw (by rfl) (z_load (by rfl)) ?_
    refine Yc (lendV AE fun h' l' i => l11Light_v h' c g (s.le l'.le) k ev es (ge.lent (by simp only; omega) i) hes (by omega)) ?_
    rintro _ _ ⟨rfl, rfl⟩
    refine Da ?_
    refine Yb fun u Au gu => ?_
    refine Da ?_
    refine Ae ?_
    refine Xa gr gu fun v2 A2 g2 => ?_
    repeat first | refine R1 ?_ | refine R2 fun _ => ?_
    exact ⟨(j + 1, v2), by simp only; omega, ⟨rfl, rfl, trivial⟩, rfl, A2 ++ [(b1, .cells #[.int .i64 g.wide, c] 34)], _, inferInstance, by simp only; omega, A2, rfl, _, by simp; omega, by rw [List.range_succ, List.map_append, ex]; simp [eT], g2⟩
  · refine sf_exit ?_
    obtain rfl : j = N := by omega
    repeat first | refine R1 ?_ | refine R2 fun _ => ?_
    exact sf_ret (rO A' (by rw [← ex]; exact gr))
theorem l13Same_v (h : PHeap) (a b : Value) (xs ys : List Int) (sx : Sl h a intF xs) (sy : Sl h b intF ys) : CallV Tryz.prog M 62 [a, b] h (.bool (decide (xs = ys))) := by
  have o1 := sx.one
  have o2 := sy.one
  have hx := sx.small
  have hy := sy.small
  refine Cs Tryz.func62 Tryz.ntmps62 ?_
  refine Wo ?_
  refine sf_if (fun e0 => ?_) fun e0 => ?_
  · refine Wo ?_
    exact sf_ret (rV (bF fun e => e0 (by rw [e])))
  have hl : xs.length = ys.length := by omega
  refine Wo ?_
  refine sf_rd [0, 1] 5 xs.length 0 (fun k => xs.take k = ys.take k) (by omega) rfl (fun k hk hi => ?_)
  refine Wo ?_
  refine sf_if (fun h4 => ?_) fun h4 => ?_
  · have hk4 : k < xs.length := by omega
    have hk5 : k < ys.length := by omega
    refine Wo ?_
    refine Sd [[],[],[0,1],[0,1,2],[],[],[4,5],[4,5,6],[0,1,2,3,4,5,6,7]] 8 [Nn 0,Nn 1,Nn 2,Nn 3,Nn 4,Nn 5,Nn 6,Nn 7] ?_
    refine Da ?_
    refine Ae ?_
    refine Wo ?_
    refine sf_if (fun e1 => ?_) fun e1 => ?_
    · refine Wo ?_
      exact sf_ret (rV (bF (eq_at e1)))
    · refine Wo ?_
      exact ⟨⟨hk4, eq_step hk4 hk5 hi (by simpa using e1)⟩, rfl, rfl, _, inferInstance⟩
  · refine sf_exit ?_
    refine Wo ?_
    exact sf_ret (rV (bT (eq_end hl (by omega) hi)))
theorem l13Edits_v (h : PHeap) (c : Value) (g : Grid) (s : Sl h c cellF g.cells) (v : Value) (es : List Edit) (s2 : Sl h v editF es) : CallV Tryz.prog M 108 [.agg #[.int .i64 g.wide, c], v] h (.bool (decide (es.length ≤ 20) && editsOk g es)) := by
  have o1 := s.one
  have o2 := s2.one
  have hs := s2.small
  have hs1 := s.small
  refine Cs Tryz.func108 Tryz.ntmps108 ?_
  repeat first | refine R1 ?_ | refine R2 fun _ => ?_
  refine sf_if (fun e0 => ?_) fun e0 => ?_
  · repeat first | refine R1 ?_ | refine R2 fun _ => ?_
    refine sf_ret (rV ?_)
    simp; intros; omega
  have h20 : decide (es.length ≤ 20) = true := decide_eq_true (by omega)
  rw [h20, Bool.true_and]
  repeat first | refine R1 ?_ | refine R2 fun _ => ?_
  refine sf_rd [1, 2] 5 es.length 0 (fun k => editsOk g (es.take k) = true) (by omega) rfl (fun k hk hi => ?_)
  repeat first | refine R1 ?_ | refine R2 fun _ => ?_
  refine sf_if (fun h4 => ?_) fun h4 => ?_
  · have hk4 : k < es.length := by omega
    have hstep : editsOk g (es.take (k + 1)) = editOk g (gt es k) := by
      rw [editsOk, all_take hk4]
      rw [editsOk] at hi
      rw [hi, Bool.true_and]
    have hF : editOk g (gt es k) = false → editsOk g es = false := fun e => by rw [editsOk, all_false hk4 e]
    repeat first | refine R1 ?_ | refine R2 fun _ => ?_
    refine Sd [[],[],[0,1],[0,1,2],[0,1,2,3],[0,1,2,3,4],[0,1,2,3,4,5],[0,1,2,3,4,5,6],[0,1,2,3,4,5,6,7],[0,1,2,3,4,5,6,7],[0,1,2,3,4,5,6,7,8,9],[0,1,2,3,4,5,6,7,8,9,10],[0,1,2,3,4,5,6,7,8,9,10,11],[0,1,2,3,4,5,6,7],[0,1,2,3,4,5,6,7,13],[0,1,2,3,4,5,6,7,13,14],[0,1,2,3,4,5,6,7,13,14,15],[0,1,2,3,4,5,6,7,8,9,10,11,12,13,14,15,16],[0,1,2,3,4,5,6,7,8,9,10,11,12,13,14,15,16,17],[0,1,2,3,4,5,6,7,8,9,10,11,12,13,14,15,16,17,18]] 17 [Nn 0,Nn 1,Nn 2,Nn 3,Nn 4,Yy 5,Nn 6,Nn 7,Nn 8,Nn 9,Nn 10,Nn 11,Nn 12,Nn 13,Nn 14,Nn 15,Nn 16] ?_
    refine Da ?_
    refine Yv (sCellOk_v _ (gt es k).cell) ?_
    cases hc : cellOk (gt es k).cell with
    | false =>
      refine Da ?_
      refine Ae ?_
      repeat first | refine R1 ?_ | refine R2 fun _ => ?_
      refine sf_T rfl ?_
      repeat first | refine R1 ?_ | refine R2 fun _ => ?_
      refine sf_ret (rV ?_)
      rw [hF (by simp [editOk, hc])]
    | true =>
      refine Da ?_
      refine Ae ?_
      refine Xv (l6In_v _ _ _ _) ?_
      repeat first | refine R1 ?_ | refine R2 fun _ => ?_
      refine sf_cond (by rfl) (fun h5 => ?_) fun h5 => ?_
      · repeat first | refine R1 ?_ | refine R2 fun _ => ?_
        refine sf_ret (rV ?_)
        rw [hF (by simp at h5; simp [editOk, hc]; intros; omega)]
      · repeat first | refine R1 ?_ | refine R2 fun _ => ?_
        refine ⟨⟨hk4, ?_⟩, rfl, rfl, _, inferInstance⟩
        rw [hstep]; simp at h5; simp [editOk, hc]; omega
  · refine sf_exit ?_
    repeat first | refine R1 ?_ | refine R2 fun _ => ?_
    rw [take_ge hk (by omega)] at hi
    exact sf_ret (rV (by rw [hi]))
theorem l22Edits_v (h : PHeap) (ca : List Value) (k : Keeper) (b : (keeperR τ).B h ca k) : CallV Tryz.prog M 61 [.agg ca.toArray] h (.bool (decide (k.edits.length ≤ 60) && editsOk k.first k.edits)) := by
  obtain ⟨c, e, p, s, rfl, s1, s2, s3, s4⟩ := keeperB b
  have o1 := s1.one
  have o2 := s2.one
  have o3 := s3.one
  have o4 := s4.one
  have hs := s2.small
  generalize hes : k.edits = es at *
  refine Cs Tryz.func61 Tryz.ntmps61 ?_
  repeat first | refine R1 ?_ | refine R2 fun _ => ?_
  refine sf_if (fun e0 => ?_) fun e0 => ?_
  · repeat first | refine R1 ?_ | refine R2 fun _ => ?_
    refine sf_ret (rV ?_)
    simp; intros; omega
  have h60 : decide (es.length ≤ 60) = true := decide_eq_true (by omega)
  rw [h60, Bool.true_and]
  repeat first | refine R1 ?_ | refine R2 fun _ => ?_
  refine sf_rd [1] 3 es.length 0 (fun j => editsOk k.first (es.take j) = true) (by omega) rfl (fun j hj hi => ?_)
  repeat first | refine R1 ?_ | refine R2 fun _ => ?_
  refine sf_if (fun h4 => ?_) fun h4 => ?_
  · have hk4 : j < es.length := by omega
    obtain ⟨v', sv, op⟩ := s2.mid (l := j) (u := j + 1) (by omega) (by omega)
    have ov := sv.one
    have e1 : (es.take (j + 1)).drop j = [gt es j] := by
      rw [take_succ_gt hk4, List.drop_append_of_le_length (by rw [List.length_take]; omega), List.drop_of_length_le (by rw [List.length_take]; omega), List.nil_append]
    rw [e1] at sv
    have hstep : editsOk k.first (es.take (j + 1)) = editOk k.first (gt es j) := by
      rw [editsOk, all_take hk4]
      rw [editsOk] at hi
      rw [hi, Bool.true_and]
    repeat first | refine R1 ?_ | refine R2 fun _ => ?_
    refine Sd [[],[0],[],[2],[],[],[5],[2,3,4,5,6],[0,1,2,3,4,5,6,7],[0,1,2,3,4,5,6,7,8]] 8 [Nn 0,Nn 1,Nn 2,Nn 3,Nn 4,Nn 5,Nn 6,Nn 7] ?_
    refine Da ?_
    refine Yq (by rfl) (fun X h' [_] => op (by infer_instance) (by infer_instance) (by rfl) (by rfl) (by rfl)) ?_
    refine Da ?_
    refine Ae ?_
    refine Xv (l13Edits_v _ c k.first s1 v' _ sv) ?_
    rw [show (decide ([gt es j].length ≤ 20) && editsOk k.first [gt es j]) = editOk k.first (gt es j) by simp [editsOk]]
    repeat first | refine R1 ?_ | refine R2 fun _ => ?_
    refine sf_cond (by rfl) (fun h5 => ?_) fun h5 => ?_
    · simp only [Bool.not_eq_true'] at h5
      repeat first | refine R1 ?_ | refine R2 fun _ => ?_
      exact sf_ret (rV (by rw [editsOk, all_false hk4 h5]))
    · simp only [Bool.not_eq_false'] at h5
      repeat first | refine R1 ?_ | refine R2 fun _ => ?_
      exact ⟨⟨hk4, by rw [hstep]; exact h5⟩, rfl, rfl, _, inferInstance⟩
  · refine sf_exit ?_
    repeat first | refine R1 ?_ | refine R2 fun _ => ?_
    rw [take_ge hj (by omega)] at hi
    exact sf_ret (rV (by rw [hi]))
theorem l22Grid_f (h : PHeap) (ca : List Value) (k : Keeper) (b : (keeperR τ).B h ca k) (hk : HeadOk k) (v : Int) (hv : verOk k v = true) : CallF Tryz.prog M 65 [.agg ca.toArray, .int .i64 v] [] h fun u A => ∃ cs, u = .agg cs.toArray ∧ (gridR τ).O A cs (gridAt k v) := by
  obtain ⟨c, e, p, s, rfl, s1, s2, s3, s4⟩ := keeperB b
  have o1 := s1.one
  have o2 := s2.one
  have o3 := s3.one
  have o4 := s4.one
  have hsm := (gok hk.grid).small
  have h60 := hk.e60
  have hed := hk.edits
  simp only [verOk, Bool.and_eq_true, decide_eq_true_eq] at hv
  obtain ⟨n, rfl⟩ : ∃ n : Nat, v = n := ⟨v.toNat, by omega⟩
  rw [show gridAt k (n : Nat) = gridAfter k.first (k.edits.take n) from rfl]
  have hn : n ≤ k.edits.length := by omega
  generalize k.edits = es at *
  refine Cs Tryz.func65 Tryz.ntmps65 ?_
  repeat first | refine R1 ?_ | refine R2 fun _ => ?_
  refine fp (y_call (l1Copy_f _ _ k.first (gridB_mk s1) (by omega)) (by rfl) ?_)
  rintro _ A1 ⟨_, rfl, q⟩
  obtain ⟨c2, rfl, g1, l1⟩ := gridO q
  have o5 := g1.one
  repeat first | refine R1 ?_ | refine R2 fun _ => ?_
  rename_i b2 b4 b5
  refine sf_lp (ι := Nat) [1, 2, 4, 5] (fun i => [(6, .int .i64 (i : Int))]) (fun i O => i ≤ n ∧ ∃ A', O = (b5, .cells #[.int .i64 k.first.wide, c2] 34) :: (A' ++ [(b4, .cells #[.int .i64 0, .slice none 0 0] 34), (b2, .cells #[.int .i64 k.first.wide, c, e, p, s] 39)]) ∧ ∃ cs, cs = (gridAfter k.first (es.take i)).cells ∧ cs.length = k.first.cells.length ∧ Gr A' c2 67 cellF cs) (fun i => n - i) 0 ((b5, .cells #[.int .i64 k.first.wide, c2] 34) :: (A1 ++ [(b4, .cells #[.int .i64 0, .slice none 0 0] 34), (b2, .cells #[.int .i64 k.first.wide, c, e, p, s] 39)])) ⟨by omega, _, rfl, _, rfl, rfl, g1⟩ ?_
  rintro i O ⟨hi, A', rfl, cs, ecs, lcs, gr⟩
  have o6 := gr.one
  repeat first | refine R1 ?_ | refine R2 fun _ => ?_
  refine sf_if (fun h4 => ?_) fun h4 => ?_
  · have hi4 : i < es.length := by omega
    obtain ⟨e1, e2, e3⟩ := editOk_is (editsOk_at hed hi4)
    obtain ⟨a, ha⟩ : ∃ a : Nat, (gt es i).at' = a := ⟨(gt es i).at'.toNat, by omega⟩
    repeat first | refine R1 ?_ | refine R2 fun _ => ?_
    refine Sd [[],[0],[],[2],[],[2,3,4],[2,3,4,5],[2,3,4,5,6],[],[8],[],[8,9,10],[8,9,10,11],[8,9,10,11,12],[0,1,2,3,4,5,6,7,8,9,10,11,12,13],[0,1,2,3,4,5,6,7,8,9,10,11,12,13,14]] 14 [Nn 0,Nn 1,Nn 2,Nn 3,Nn 4,Nn 5,Nn 6,Nn 7,Nn 8,Nn 9,Nn 10,Nn 11,Nn 12,Nn 13] ?_
    refine Da ?_
    refine Ae ?_
    simp only [ha]
    repeat first | refine R1 ?_ | refine R2 fun _ => ?_
    refine Xg gr fun A2 cs2 ec lc _ g2 => ?_
    repeat first | refine R1 ?_ | refine R2 fun _ => ?_
    refine ⟨i + 1, by omega, ⟨rfl, trivial⟩, rfl, (b5, .cells #[.int .i64 k.first.wide, c2] 34) :: (A2 ++ [(b4, .cells #[.int .i64 0, .slice none 0 0] 34), (b2, .cells #[.int .i64 k.first.wide, c, e, p, s] 39)]), _, inferInstance, by omega, A2, rfl, cs2, ?_, by omega, g2⟩
    rw [gridAfter_step hi4, putCell, ec, ecs, ha]; rfl
  · refine sf_exit ?_
    obtain rfl : i = n := by omega
    repeat first | refine R1 ?_ | refine R2 fun _ => ?_
    refine sf_ret (rO A' ⟨_, rfl, ?_⟩)
    have := gridO_mk (τ := τ) (g := gridAfter k.first (es.take i)) (c := c2) (A := A') (by rw [← ecs]; exact gr) (by rw [← ecs]; omega)
    rw [(gridAfter_same (es.take i) k.first).1] at this
    exact this
theorem l21Own_f (h : PHeap) (c : Value) (g : Grid) (s : Sl h c cellF g.cells) {R : Int} (kg : Gok g R) (id many : Nat) (h1 : 1 ≤ id) (h2 : id ≤ many) (h3 : many ≤ 3) : CallF Tryz.prog M 130 [.agg #[.int .i64 g.wide, c], .int .i64 (id : Int), .int .i64 (many : Int)] [] h fun u A => Gr A u 3 intF (ownList (manyOf g).toNat many id) := by
  have o1 := s.one
  have hm := kg.many
  obtain ⟨S, hS⟩ : ∃ S : Nat, manyOf g = S := ⟨(manyOf g).toNat, by omega⟩
  rw [hS] at hm ⊢
  simp only [Int.toNat_natCast]
  have hc : ∀ j, j < ownCnt S many id ↔ id - 1 + j * many < S := fun j => ownCnt_lt h1 h2 h3
  refine Cs Tryz.func130 Tryz.ntmps130 ?_
  repeat first | refine R1 ?_ | refine R2 fun _ => ?_
  refine Xb fun w A0 g0 => ?_
  repeat first | refine R1 ?_ | refine R2 fun _ => ?_
  rename_i b3
  rw [show (id : Int) - 1 = ((id - 1 + 0 * many : Nat) : Int) by omega]
  refine sf_lp (ι := Nat × Value) [2, 3] (fun x => [(8, .int .i64 ((id - 1 + x.1 * many : Nat) : Int)), (7, x.2)]) (fun x O => x.1 ≤ ownCnt S many id ∧ ∃ A', O = A' ++ [(b3, .cells #[.int .i64 g.wide, c] 34)] ∧ ∃ xs, xs.length = x.1 ∧ xs = ((List.range x.1).map fun j => ((id - 1 + j * many : Nat) : Int)) ∧ Gr A' x.2 3 intF xs) (fun x => ownCnt S many id - x.1) (0, w) (A0 ++ [(b3, .cells #[.int .i64 g.wide, c] 34)]) ⟨by omega, A0, rfl, [], rfl, rfl, g0⟩ ?_
  rintro ⟨j, v⟩ O ⟨hj, A', rfl, xs, lx, ex, gr⟩
  simp only at hj lx ex gr ⊢
  have o2 := gr.one
  repeat first | refine R1 ?_ | refine R2 fun _ => ?_
  refine Xv (l3Many_v h c g s kg) ?_
  rw [hS]
  have hjm : j * many ≤ 20 * 3 ∧ j ≤ 20 := by
    rcases Nat.eq_zero_or_pos j with rfl | hj0
    · omega
    · have := (hc (j - 1)).1 (by omega)
      have h4 : (j - 1) * many ≤ 20 * 3 := by omega
      have h5 : j * many = (j - 1) * many + many := by
        obtain ⟨k, rfl⟩ : ∃ k, j = k + 1 := ⟨j - 1, by omega⟩
        rw [Nat.add_sub_cancel, Nat.add_mul, Nat.one_mul]
      have h6 : j ≤ 20 := by
        have : (j - 1) * 1 ≤ (j - 1) * many := Nat.mul_le_mul_left _ (by omega)
        omega
      exact ⟨Nat.mul_le_mul h6 h3, h6⟩
  repeat first | refine R1 ?_ | refine R2 fun _ => ?_
  refine sf_if (fun h4 => ?_) fun h4 => ?_
  · have hj4 : j < ownCnt S many id := (hc j).2 (by omega)
    repeat first | refine R1 ?_ | refine R2 fun _ => ?_
    refine Xb fun u Au gu => ?_
    repeat first | refine R1 ?_ | refine R2 fun _ => ?_
    refine Xa gr gu fun v2 A2 g2 => ?_
    repeat first | refine R1 ?_ | refine R2 fun _ => ?_
    refine ⟨(j + 1, v2), by simp only; omega, ⟨?_, rfl, trivial⟩, rfl, A2 ++ [(b3, .cells #[.int .i64 g.wide, c] 34)], _, inferInstance, by simp only; omega, A2, rfl, _, by simp; omega, by rw [ownList_step, ex], g2⟩
    rw [show ((id - 1 + (j + 1) * many : Nat) : Int) = ((id - 1 + j * many : Nat) : Int) + (many : Int) by rw [Nat.add_mul, Nat.one_mul]; omega]
    rfl
  · refine sf_exit ?_
    have : j = ownCnt S many id := by
      rcases Nat.lt_or_ge j (ownCnt S many id) with h | h
      · have := (hc j).1 h; omega
      · omega
    repeat first | refine R1 ?_ | refine R2 fun _ => ?_
    refine sf_ret (rO A' ?_)
    rw [ownList, ← this, ← ex]; exact gr
theorem l22Own_f (h : PHeap) (ca : List Value) (k : Keeper) (b : (keeperR τ).B h ca k) (hk : HeadOk k) (id : Nat) (h1 : 1 ≤ id) (h2 : id ≤ k.parts.length) (v : Int) (hv : verOk k v = true) : CallF Tryz.prog M 63 [.agg ca.toArray, .int .i64 (id : Int), .int .i64 v] [] h fun u A => Gr A u 3 intF (partLights k id v) := by
  have b0 := b
  obtain ⟨c, e, p, s, rfl, s1, s2, s3, s4⟩ := keeperB b
  have o1 := s1.one
  have o2 := s2.one
  have o3 := s3.one
  have o4 := s4.one
  obtain ⟨rp, sp, bp⟩ := s3
  have lp := bp.len
  have n3 := hk.n3
  have gok' := gridAt_ok hk.grid hk.edits v
  have kg := gok gok'
  have hmm := kg.many
  have hmy := gridAt_many k v
  have hpl : (picOf (gridAt k v)).length = (manyOf (gridAt k v)).toNat := picOf_len _
  refine Cs Tryz.func63 Tryz.ntmps63 ?_
  repeat first | refine R1 ?_ | refine R2 fun _ => ?_
  refine fp (y_call (l22Grid_f _ _ k b0 hk v hv) (by rfl) ?_)
  rintro _ A1 ⟨cs, rfl, q⟩
  obtain ⟨c2, rfl, g1, l1⟩ := gridO q
  have o5 := g1.one
  repeat first | refine R1 ?_ | refine R2 fun _ => ?_
  refine fp (y_lend A1 (fun h' _ i => l12Pic_f h' c2 _ (g1.lent (by omega) i) kg) (by rfl) ?_)
  intro v2 A2 g2
  have o6 := g2.one
  repeat first | refine R1 ?_ | refine R2 fun _ => ?_
  refine fp (y_lend A1 (fun h' _ i => l21Own_f h' c2 _ (g1.lent (by omega) i) kg id rp.length h1 (by omega) (by omega)) (by rfl) ?_)
  intro v3 A3 g3
  have o7 := g3.one
  rw [lp, hmy] at g3
  rw [hmy] at hpl hmm
  repeat first | refine R1 ?_ | refine R2 fun _ => ?_
  refine Xb fun w A4 g4 => ?_
  repeat first | refine R1 ?_ | refine R2 fun _ => ?_
  obtain ⟨S, hS⟩ : ∃ S : Nat, manyOf k.first = S := ⟨(manyOf k.first).toNat, by omega⟩
  have hP : partLights k id v = ownLights (picOf (gridAt k v)) S k.parts.length id := by rw [partLights, hS]; rfl
  rw [hP]
  rw [hS] at g3 hpl hmm
  simp only [Int.toNat_natCast] at g3 hpl
  have hl := ownList_len S k.parts.length id
  have hc : ∀ j, j < ownCnt S k.parts.length id ↔ id - 1 + j * k.parts.length < S := fun j => ownCnt_lt h1 h2 n3
  have hat : ∀ j, j < ownCnt S k.parts.length id → gt (ownList S k.parts.length id) j = ((id - 1 + j * k.parts.length : Nat) : Int) := fun j hj => ownList_at hj
  have hcn : ownCnt S k.parts.length id ≤ S + k.parts.length - id := Nat.div_le_self _ _
  clear hP
  rw [ownLights]
  generalize hxs : ownList S k.parts.length id = xs at *
  generalize hpc : picOf (gridAt k v) = pc at *
  rename_i b3 b7
  refine sf_lp (ι := Nat × Value) [8, 9] (fun x => [(11, .int .i64 (x.1 : Int)), (10, x.2)]) (fun x O => x.1 ≤ xs.length ∧ ∃ A', O = A' ++ (A2 ++ A3) ∧ Gr A' x.2 3 intF ((xs.take x.1).map fun k => gt pc k.toNat)) (fun x => xs.length - x.1) (0, w) (A4 ++ (A2 ++ A3)) ⟨by omega, A4, rfl, g4⟩ ?_
  rintro ⟨j, u⟩ O ⟨hj, A', rfl, gr⟩
  simp only at hj gr ⊢
  have o8 := gr.one
  have hlt : ((xs.take j).map fun k => gt pc k.toNat).length = j := by rw [List.length_map, List.length_take]; omega
  repeat first | refine R1 ?_ | refine R2 fun _ => ?_
  refine sf_if (fun h4 => ?_) fun h4 => ?_
  · have hj4 : j < ownCnt S k.parts.length id := by omega
    have ha := hat j hj4
    have hb := (hc j).1 hj4
    have hstep : ((xs.take (j + 1)).map fun k => gt pc k.toNat) = ((xs.take j).map fun k => gt pc k.toNat) ++ [gt pc (id - 1 + j * k.parts.length)] := by
      rw [take_succ_gt (by omega), List.map_append, ha]; rfl
    have hj5 : j < xs.length := by omega
    have hj6 : id - 1 + j * k.parts.length < pc.length := by omega
    repeat first | refine R1 ?_ | refine R2 fun _ => ?_
    simp only [ha]
    repeat first | refine R1 ?_ | refine R2 fun _ => ?_
    refine Xb fun w2 Au gu => ?_
    repeat first | refine R1 ?_ | refine R2 fun _ => ?_
    refine Xa gr gu fun u2 A5 g5 => ?_
    repeat first | refine R1 ?_ | refine R2 fun _ => ?_
    exact ⟨(j + 1, u2), by simp only; omega, ⟨rfl, rfl, trivial⟩, rfl, A5 ++ (A2 ++ A3), _, inferInstance, by simp only; omega, A5, rfl, by rw [hstep]; exact g5⟩
  · refine sf_exit ?_
    repeat first | refine R1 ?_ | refine R2 fun _ => ?_
    refine sf_ret (rO A' ?_)
    rw [← take_ge (xs := xs) hj (by omega)]; exact gr
theorem sKeepOk_v (h : PHeap) (ca : List Value) (k : Keeper) (b : (keeperR τ).B h ca k) : CallV Tryz.prog M 13 [.agg ca.toArray] h (.bool (keepOk k)) := by
  have b0 := b
  obtain ⟨c, ed, p, s, rfl, s1, s2, s3, s4⟩ := keeperB b
  have o1 := s1.one
  have o2 := s2.one
  have o3 := s3.one
  have o4 := s4.one
  obtain ⟨rp, sp, bp⟩ := s3
  obtain ⟨rs, ss, bs⟩ := s4
  have lp := bp.len
  have ls := bs.len
  have hsp := sp.small
  have hss := ss.small
  have hs2 := s2.small
  have hN : keepHead k = false → keepOk k = false := fun e => by simp [keepOk, e]
  refine Cs Tryz.func13 Tryz.ntmps13 ?_
  repeat first | refine R1 ?_ | refine R2 fun _ => ?_
  refine Xv (sGridOk_v _ _ k.first ⟨c, rfl, s1⟩) ?_
  repeat first | refine R1 ?_ | refine R2 fun _ => ?_
  refine f_splitB (fun g0 => ?_) fun g0 => ?_
  · have g0' := g0
    simp only [Bool.not_eq_true'] at g0'
    repeat first | refine R1 ?_ | refine R2 fun _ => ?_
    refine sf_T rfl ?_
    repeat first | refine R1 ?_ | refine R2 fun _ => ?_
    exact sf_ret (rV (by rw [hN (by simp [keepHead, g0'])]))
  have g0' := g0
  simp only [Bool.not_eq_false'] at g0'
  repeat first | refine R1 ?_ | refine R2 fun _ => ?_
  refine Xv (l6In_v _ _ _ _) ?_
  repeat first | refine R1 ?_ | refine R2 fun _ => ?_
  refine f_splitB (fun g1 => ?_) fun g1 => ?_
  · repeat first | refine R1 ?_ | refine R2 fun _ => ?_
    refine sf_T rfl ?_
    repeat first | refine R1 ?_ | refine R2 fun _ => ?_
    exact sf_ret (rV (by rw [hN (by simp at g1; simp [keepHead]; intros; omega)]))
  repeat first | refine R1 ?_ | refine R2 fun _ => ?_
  refine Xv (l22Edits_v _ _ k b0) ?_
  repeat first | refine R1 ?_ | refine R2 fun _ => ?_
  refine sf_cond (by rfl) (fun g4 => ?_) fun g4 => ?_
  · repeat first | refine R1 ?_ | refine R2 fun _ => ?_
    exact sf_ret (rV (by rw [hN (by simp at g4; simp [keepHead]; intros; rcases g4 with h | h <;> first | exact h | (exfalso; omega))]))
  have hk : HeadOk k := by
    simp at g1 g4
    exact ⟨g0', by omega, by omega, g4.1, g4.2⟩
  have hK := hk.is
  have hF : ∀ {b : Bool}, (partsOk k k.parts.length && shownsOk k k.shown.length) = b → keepOk k = b := fun e => by rw [keepOk, hK, Bool.true_and]; exact e
  have n3 := hk.n3
  clear hN g0 g1 g4
  repeat first | refine R1 ?_ | refine R2 fun _ => ?_
  rename_i b1
  refine sf_lp (ι := Nat) [1, 3] (fun i => [(4, .int .i64 (i : Int))]) (fun i O => (i ≤ rp.length ∧ partsOk k i = true) ∧ O = [(b1, .cells #[.int .i64 k.first.wide, c, ed, p, s] 39)]) (fun i => rp.length - i) 0 [(b1, .cells #[.int .i64 k.first.wide, c, ed, p, s] 39)] ⟨⟨by omega, rfl⟩, rfl⟩ ?_
  rintro i O ⟨⟨hi, hpi⟩, rfl⟩
  repeat first | refine R1 ?_ | refine R2 fun _ => ?_
  refine sf_if (fun e1 => ?_) fun e1 => ?_
  · have hi1 : i < k.parts.length := by omega
    have hi2 : i < rp.length := by omega
    obtain ⟨l, ex, sl⟩ := partB (bp.at hi1)
    have ol := sl.one
    have hsl := sl.small
    have hG : partOk k (i + 1) (gt k.parts i) = false → keepOk k = false := fun e => hF (by rw [partsOk_F hi1 e]; rfl)
    have hS : partsOk k (i + 1) = partOk k (i + 1) (gt k.parts i) := by rw [partsOk_step, hpi, Bool.true_and]
    have hpo : partOk k (i + 1) (gt k.parts i) = if (gt k.parts i).has = true then verOk k (gt k.parts i).ver && decide ((gt k.parts i).lights = partLights k (i + 1) (gt k.parts i).ver) else decide ((gt k.parts i).ver = 0) && decide ((gt k.parts i).lights.length = 0) := rfl
    haveI : FlatV (rawF (partR τ).sz) (gt rp i) [.bool (gt k.parts i).has, .int .i64 (gt k.parts i).ver, l] := ⟨ex⟩
    repeat first | refine R1 ?_ | refine R2 fun _ => ?_
    refine sf_keep [1, 3, 4, 5] ?_
    cases hh : (gt k.parts i).has with
    | false =>
      rw [hh] at hpo
      simp only [Bool.false_eq_true, if_false] at hpo
      by_cases h2 : (gt k.parts i).ver ≠ 0
      · refine Sd [[],[0],[0,1],[0,1,2],[0,1,2,3],[0,1,2,3,4],[0,1,2,3,4,5],[0,1,2,3,4,5,6],[0,1,2,3,4,5,6,7],[0,1,2,3,4,5,6,7,8],[0,1,2,3,4,5,6,7,8,9],[0,1,2,3,4,5,6,7,8,9,10],[0,1,2,3,4,5,6,7,8,9,10,11],[0,1,2,3,4,5,6,7,8,9,10,11,12],[0,1,2,3,4,5,6,7,8,9,10,11,12,13],[0,1,2,3,4,5,6,7,8,9,10,11,12,13,14],[0,1,2,3,4,5,6,7,8,9,10,11,12,13,14,15],[0,1,2,3,4,5,6,7,8,9,10,11,12,13,14,15,16],[0,1,2,3,4,5,6,7,8,9,10,11,12,13,14,15,16,17],[0,1,2,3,4,5,6,7,8,9,10,11,12,13,14,15,16,17,18],[0,1,2,3,4,5,6,7,8,9,10,11,12,13,14,15,16,17],[0,1,2,3,4,5,6,7,8,9,10,11,12,13,14,15,16,17,18,19,20],[0,1,2,3,4,5,6,7,8,9,10,11,12,13,14,15,16,17,18,19,20,21],[0,1,2,3,4,5,6,7,8,9,10,11,12,13,14,15,16,17,18,19,20,21,22],[0,1,2,3,4,5,6,7,8,9,10,11,12,13,14,15,16,17,18,19,20,21,22,23],[0,1,2,3,4,5,6,7,8,9,10,11,12,13,14,15,16,17,18,19,20,21,22,23,24],[0,1,2,3,4,5,6,7,8,9,10,11,12,13,14,15,16,17,18,19,20,21,22,23],[0,1,2,3,4,5,6,7,8,9,10,11,12,13,14,15,16,17,18,19,20,21,22,23],[0,1,2,3,4,5,6,7,8,9,10,11,12,13,14,15,16,17,18,19,20,21,22,23,27],[0,1,2,3,4,5,6,7,8,9,10,11,12,13,14,15,16,17,18,19,20,21,22,23],[0,1,2,3,4,5,6,7,8,9,10,11,12,13,14,15,16,17,18,19,20,21,22,23,29],[0,1,2,3,4,5,6,7,8,9,10,11,12,13,14,15,16,17,18,19,20,21,22,23,26,27,28,29,30],[0,1,2,3,4,5,6,7,8,9,10,11,12,13,14,15,16,17,18,19,20,21,22,23,24,25,26,27,28,29,30,31],[0,1,2,3,4,5,6,7,8,9,10,11,12,13,14,15,16,17,18,19,20,21,22,23,24,25,26,27,28,29,30,31,32],[0,1,2,3,4,5,6,7,8,9,10,11,12,13,14,15,16,17,18,19,20,21,22,23,24,25,26,27,28,29,30,31,32,33],[0,1,2,3,4,5,6,7,8,9,10,11,12,13,14,15,16,17,18,19,20,21,22,23,24,25,26,27,28,29,30,31,32,33,34],[0,1,2,3,4,5,6,7,8,9,10,11,12,13,14,15,16,17,18,19,20,21,22,23,24,25,26,27,28,29,30,31,32,33,34,35]] 32 [Nn 0,Nn 1,Nn 2,Nn 3,Nn 4,Nn 5,Nn 6,Nn 7,Nn 8,Nn 9,Nn 10,Nn 11,Nn 12,Nn 13,Nn 14,Nn 15,Nn 16,Nn 17,Nn 18,Nn 19,Nn 20,Nn 21,Nn 22,Nn 23,Nn 24,Nn 25,Nn 26,Nn 27,Nn 28,Nn 29,Nn 30,Nn 31] ?_
        refine Da ?_
        refine Ae ?_
        repeat first | refine R1 ?_ | refine R2 fun _ => ?_
        refine sf_T rfl ?_
        repeat first | refine R1 ?_ | refine R2 fun _ => ?_
        exact sf_ret (rV (by rw [hG (by rw [hpo]; simp [h2])]))
      · by_cases h3 : ((gt k.parts i).lights.length : Int) > 0
        · refine Sd [[],[0],[0,1],[0,1,2],[0,1,2,3],[0,1,2,3,4],[0,1,2,3,4,5],[0,1,2,3,4,5,6],[0,1,2,3,4,5,6,7],[0,1,2,3,4,5,6,7,8],[0,1,2,3,4,5,6,7,8,9],[0,1,2,3,4,5,6,7,8,9,10],[0,1,2,3,4,5,6,7,8,9,10,11],[0,1,2,3,4,5,6,7,8,9,10,11,12],[0,1,2,3,4,5,6,7,8,9,10,11,12,13],[0,1,2,3,4,5,6,7,8,9,10,11,12,13,14],[0,1,2,3,4,5,6,7,8,9,10,11,12,13,14,15],[0,1,2,3,4,5,6,7,8,9,10,11,12,13,14,15,16],[0,1,2,3,4,5,6,7,8,9,10,11,12,13,14,15,16,17],[0,1,2,3,4,5,6,7,8,9,10,11,12,13,14,15,16,17,18],[0,1,2,3,4,5,6,7,8,9,10,11,12,13,14,15,16,17],[0,1,2,3,4,5,6,7,8,9,10,11,12,13,14,15,16,17,18,19,20],[0,1,2,3,4,5,6,7,8,9,10,11,12,13,14,15,16,17,18,19,20,21],[0,1,2,3,4,5,6,7,8,9,10,11,12,13,14,15,16,17,18,19,20,21,22],[0,1,2,3,4,5,6,7,8,9,10,11,12,13,14,15,16,17,18,19,20,21,22,23],[0,1,2,3,4,5,6,7,8,9,10,11,12,13,14,15,16,17,18,19,20,21,22,23,24],[0,1,2,3,4,5,6,7,8,9,10,11,12,13,14,15,16,17,18,19,20,21,22,23],[0,1,2,3,4,5,6,7,8,9,10,11,12,13,14,15,16,17,18,19,20,21,22,23],[0,1,2,3,4,5,6,7,8,9,10,11,12,13,14,15,16,17,18,19,20,21,22,23,27],[0,1,2,3,4,5,6,7,8,9,10,11,12,13,14,15,16,17,18,19,20,21,22,23],[0,1,2,3,4,5,6,7,8,9,10,11,12,13,14,15,16,17,18,19,20,21,22,23,29],[0,1,2,3,4,5,6,7,8,9,10,11,12,13,14,15,16,17,18,19,20,21,22,23,26,27,28,29,30],[0,1,2,3,4,5,6,7,8,9,10,11,12,13,14,15,16,17,18,19,20,21,22,23,24,25,26,27,28,29,30,31],[0,1,2,3,4,5,6,7,8,9,10,11,12,13,14,15,16,17,18,19,20,21,22,23,24,25,26,27,28,29,30,31,32],[0,1,2,3,4,5,6,7,8,9,10,11,12,13,14,15,16,17,18,19,20,21,22,23,24,25,26,27,28,29,30,31,32,33],[0,1,2,3,4,5,6,7,8,9,10,11,12,13,14,15,16,17,18,19,20,21,22,23,24,25,26,27,28,29,30,31,32,33,34],[0,1,2,3,4,5,6,7,8,9,10,11,12,13,14,15,16,17,18,19,20,21,22,23,24,25,26,27,28,29,30,31,32,33,34,35]] 32 [Nn 0,Nn 1,Nn 2,Nn 3,Nn 4,Nn 5,Nn 6,Nn 7,Nn 8,Nn 9,Nn 10,Nn 11,Nn 12,Nn 13,Nn 14,Nn 15,Nn 16,Nn 17,Nn 18,Nn 19,Nn 20,Nn 21,Nn 22,Nn 23,Nn 24,Nn 25,Nn 26,Nn 27,Nn 28,Nn 29,Nn 30,Nn 31] ?_
          refine Da ?_
          refine Ae ?_
          repeat first | refine R1 ?_ | refine R2 fun _ => ?_
          refine sf_T rfl ?_
          repeat first | refine R1 ?_ | refine R2 fun _ => ?_
          exact sf_ret (rV (by rw [hG (by rw [hpo, decide_eq_false (p := (gt k.parts i).lights.length = 0) (by omega)]; simp)]))
        · refine Sd [[],[0],[0,1],[0,1,2],[0,1,2,3],[0,1,2,3,4],[0,1,2,3,4,5],[0,1,2,3,4,5,6],[0,1,2,3,4,5,6,7],[0,1,2,3,4,5,6,7,8],[0,1,2,3,4,5,6,7,8,9],[0,1,2,3,4,5,6,7,8,9,10],[0,1,2,3,4,5,6,7,8,9,10,11],[0,1,2,3,4,5,6,7,8,9,10,11,12],[0,1,2,3,4,5,6,7,8,9,10,11,12,13],[0,1,2,3,4,5,6,7,8,9,10,11,12,13,14],[0,1,2,3,4,5,6,7,8,9,10,11,12,13,14,15],[0,1,2,3,4,5,6,7,8,9,10,11,12,13,14,15,16],[0,1,2,3,4,5,6,7,8,9,10,11,12,13,14,15,16,17],[0,1,2,3,4,5,6,7,8,9,10,11,12,13,14,15,16,17,18],[0,1,2,3,4,5,6,7,8,9,10,11,12,13,14,15,16,17],[0,1,2,3,4,5,6,7,8,9,10,11,12,13,14,15,16,17,18,19,20],[0,1,2,3,4,5,6,7,8,9,10,11,12,13,14,15,16,17,18,19,20,21],[0,1,2,3,4,5,6,7,8,9,10,11,12,13,14,15,16,17,18,19,20,21,22],[0,1,2,3,4,5,6,7,8,9,10,11,12,13,14,15,16,17,18,19,20,21,22,23],[0,1,2,3,4,5,6,7,8,9,10,11,12,13,14,15,16,17,18,19,20,21,22,23,24],[0,1,2,3,4,5,6,7,8,9,10,11,12,13,14,15,16,17,18,19,20,21,22,23],[0,1,2,3,4,5,6,7,8,9,10,11,12,13,14,15,16,17,18,19,20,21,22,23],[0,1,2,3,4,5,6,7,8,9,10,11,12,13,14,15,16,17,18,19,20,21,22,23,27],[0,1,2,3,4,5,6,7,8,9,10,11,12,13,14,15,16,17,18,19,20,21,22,23],[0,1,2,3,4,5,6,7,8,9,10,11,12,13,14,15,16,17,18,19,20,21,22,23,29],[0,1,2,3,4,5,6,7,8,9,10,11,12,13,14,15,16,17,18,19,20,21,22,23,26,27,28,29,30],[0,1,2,3,4,5,6,7,8,9,10,11,12,13,14,15,16,17,18,19,20,21,22,23,24,25,26,27,28,29,30,31],[0,1,2,3,4,5,6,7,8,9,10,11,12,13,14,15,16,17,18,19,20,21,22,23,24,25,26,27,28,29,30,31,32],[0,1,2,3,4,5,6,7,8,9,10,11,12,13,14,15,16,17,18,19,20,21,22,23,24,25,26,27,28,29,30,31,32,33],[0,1,2,3,4,5,6,7,8,9,10,11,12,13,14,15,16,17,18,19,20,21,22,23,24,25,26,27,28,29,30,31,32,33,34],[0,1,2,3,4,5,6,7,8,9,10,11,12,13,14,15,16,17,18,19,20,21,22,23,24,25,26,27,28,29,30,31,32,33,34,35]] 32 [Nn 0,Nn 1,Nn 2,Nn 3,Nn 4,Nn 5,Nn 6,Nn 7,Nn 8,Nn 9,Nn 10,Nn 11,Nn 12,Nn 13,Nn 14,Nn 15,Nn 16,Nn 17,Nn 18,Nn 19,Nn 20,Nn 21,Nn 22,Nn 23,Nn 24,Nn 25,Nn 26,Nn 27,Nn 28,Nn 29,Nn 30,Nn 31] ?_
          refine Da ?_
          refine Ae ?_
          repeat first | refine R1 ?_ | refine R2 fun _ => ?_
          refine sf_N rfl ?_
          repeat first | refine R1 ?_ | refine R2 fun _ => ?_
          exact ⟨i + 1, by omega, ⟨rfl, trivial⟩, rfl, _, _, inferInstance, ⟨by omega, by rw [hS, hpo, decide_eq_true (p := (gt k.parts i).lights.length = 0) (by omega), decide_eq_true (p := (gt k.parts i).ver = 0) (by omega)]; rfl⟩, rfl⟩
    | true =>
      rw [hh] at hpo
      simp only [if_true] at hpo
      have c21 : ∀ h, CallV Tryz.prog M 60 [.int .i64 (gt k.parts i).ver, .int .i64 0, .int .i64 k.edits.length] h (.bool (verOk k (gt k.parts i).ver)) := fun h => l6In_v h _ _ _
      cases hv : verOk k (gt k.parts i).ver with
      | false =>
        rw [hv] at c21 hpo
        refine Sd [[],[0],[0,1],[0,1,2],[0,1,2,3],[0,1,2,3,4],[0,1,2,3,4,5],[0,1,2,3,4,5,6],[0,1,2,3,4,5,6,7],[0,1,2,3,4,5,6,7,8],[0,1,2,3,4,5,6,7,8,9],[0,1,2,3,4,5,6,7,8,9,10],[0,1,2,3,4,5,6,7,8,9,10,11],[0,1,2,3,4,5,6,7,8,9,10,11,12],[0,1,2,3,4,5,6,7,8,9,10,11,12,13],[0,1,2,3,4,5,6,7,8,9,10,11,12,13,14],[0,1,2,3,4,5,6,7,8,9,10,11,12,13,14,15],[0,1,2,3,4,5,6,7,8,9,10,11,12,13,14,15,16],[0,1,2,3,4,5,6,7,8,9,10,11,12,13,14,15,16,17],[0,1,2,3,4,5,6,7,8,9,10,11,12,13,14,15,16,17,18],[0,1,2,3,4,5,6,7,8,9,10,11,12,13,14,15,16,17],[0,1,2,3,4,5,6,7,8,9,10,11,12,13,14,15,16,17,18,19,20],[0,1,2,3,4,5,6,7,8,9,10,11,12,13,14,15,16,17,18,19,20,21],[0,1,2,3,4,5,6,7,8,9,10,11,12,13,14,15,16,17,18,19,20,21,22],[0,1,2,3,4,5,6,7,8,9,10,11,12,13,14,15,16,17,18,19,20,21,22,23],[0,1,2,3,4,5,6,7,8,9,10,11,12,13,14,15,16,17,18,19,20,21,22,23,24],[0,1,2,3,4,5,6,7,8,9,10,11,12,13,14,15,16,17,18,19,20,21,22,23],[0,1,2,3,4,5,6,7,8,9,10,11,12,13,14,15,16,17,18,19,20,21,22,23],[0,1,2,3,4,5,6,7,8,9,10,11,12,13,14,15,16,17,18,19,20,21,22,23,27],[0,1,2,3,4,5,6,7,8,9,10,11,12,13,14,15,16,17,18,19,20,21,22,23],[0,1,2,3,4,5,6,7,8,9,10,11,12,13,14,15,16,17,18,19,20,21,22,23,29],[0,1,2,3,4,5,6,7,8,9,10,11,12,13,14,15,16,17,18,19,20,21,22,23,26,27,28,29,30],[0,1,2,3,4,5,6,7,8,9,10,11,12,13,14,15,16,17,18,19,20,21,22,23,24,25,26,27,28,29,30,31],[0,1,2,3,4,5,6,7,8,9,10,11,12,13,14,15,16,17,18,19,20,21,22,23,24,25,26,27,28,29,30,31,32],[0,1,2,3,4,5,6,7,8,9,10,11,12,13,14,15,16,17,18,19,20,21,22,23,24,25,26,27,28,29,30,31,32,33],[0,1,2,3,4,5,6,7,8,9,10,11,12,13,14,15,16,17,18,19,20,21,22,23,24,25,26,27,28,29,30,31,32,33,34],[0,1,2,3,4,5,6,7,8,9,10,11,12,13,14,15,16,17,18,19,20,21,22,23,24,25,26,27,28,29,30,31,32,33,34,35]] 32 [Nn 0,Nn 1,Nn 2,Nn 3,Nn 4,Nn 5,Nn 6,Nn 7,Nn 8,Nn 9,Nn 10,Nn 11,Nn 12,Nn 13,Nn 14,Nn 15,Nn 16,Nn 17,Nn 18,Nn 19,Nn 20,Yy 21,Nn 22,Nn 23,Nn 24,Nn 25,Nn 26,Nn 27,Nn 28,Nn 29,Nn 30,Nn 31] ?_
        refine Da ?_
        refine Yv (c21 h) ?_
        refine Da ?_
        refine Ae ?_
        repeat first | refine R1 ?_ | refine R2 fun _ => ?_
        refine sf_T rfl ?_
        repeat first | refine R1 ?_ | refine R2 fun _ => ?_
        exact sf_ret (rV (by rw [hG (by rw [hpo]; rfl)]))
      | true =>
        rw [hv] at c21 hpo
        rw [Bool.true_and] at hpo
        refine Sd [[],[0],[0,1],[0,1,2],[0,1,2,3],[0,1,2,3,4],[0,1,2,3,4,5],[0,1,2,3,4,5,6],[0,1,2,3,4,5,6,7],[0,1,2,3,4,5,6,7,8],[0,1,2,3,4,5,6,7,8,9],[0,1,2,3,4,5,6,7,8,9,10],[0,1,2,3,4,5,6,7,8,9,10,11],[0,1,2,3,4,5,6,7,8,9,10,11,12],[0,1,2,3,4,5,6,7,8,9,10,11,12,13],[0,1,2,3,4,5,6,7,8,9,10,11,12,13,14],[0,1,2,3,4,5,6,7,8,9,10,11,12,13,14,15],[0,1,2,3,4,5,6,7,8,9,10,11,12,13,14,15,16],[0,1,2,3,4,5,6,7,8,9,10,11,12,13,14,15,16,17],[0,1,2,3,4,5,6,7,8,9,10,11,12,13,14,15,16,17,18],[0,1,2,3,4,5,6,7,8,9,10,11,12,13,14,15,16,17],[0,1,2,3,4,5,6,7,8,9,10,11,12,13,14,15,16,17,18,19,20],[0,1,2,3,4,5,6,7,8,9,10,11,12,13,14,15,16,17,18,19,20,21],[0,1,2,3,4,5,6,7,8,9,10,11,12,13,14,15,16,17,18,19,20,21,22],[0,1,2,3,4,5,6,7,8,9,10,11,12,13,14,15,16,17,18,19,20,21,22,23],[0,1,2,3,4,5,6,7,8,9,10,11,12,13,14,15,16,17,18,19,20,21,22,23,24],[0,1,2,3,4,5,6,7,8,9,10,11,12,13,14,15,16,17,18,19,20,21,22,23],[0,1,2,3,4,5,6,7,8,9,10,11,12,13,14,15,16,17,18,19,20,21,22,23],[0,1,2,3,4,5,6,7,8,9,10,11,12,13,14,15,16,17,18,19,20,21,22,23,27],[0,1,2,3,4,5,6,7,8,9,10,11,12,13,14,15,16,17,18,19,20,21,22,23],[0,1,2,3,4,5,6,7,8,9,10,11,12,13,14,15,16,17,18,19,20,21,22,23,29],[0,1,2,3,4,5,6,7,8,9,10,11,12,13,14,15,16,17,18,19,20,21,22,23,26,27,28,29,30],[0,1,2,3,4,5,6,7,8,9,10,11,12,13,14,15,16,17,18,19,20,21,22,23,24,25,26,27,28,29,30,31],[0,1,2,3,4,5,6,7,8,9,10,11,12,13,14,15,16,17,18,19,20,21,22,23,24,25,26,27,28,29,30,31,32],[0,1,2,3,4,5,6,7,8,9,10,11,12,13,14,15,16,17,18,19,20,21,22,23,24,25,26,27,28,29,30,31,32,33],[0,1,2,3,4,5,6,7,8,9,10,11,12,13,14,15,16,17,18,19,20,21,22,23,24,25,26,27,28,29,30,31,32,33,34],[0,1,2,3,4,5,6,7,8,9,10,11,12,13,14,15,16,17,18,19,20,21,22,23,24,25,26,27,28,29,30,31,32,33,34,35]] 32 [Nn 0,Nn 1,Nn 2,Nn 3,Nn 4,Nn 5,Nn 6,Nn 7,Nn 8,Nn 9,Nn 10,Nn 11,Nn 12,Nn 13,Nn 14,Nn 15,Nn 16,Nn 17,Nn 18,Nn 19,Nn 20,Yy 21,Nn 22,Nn 23,Nn 24,Nn 25,Nn 26,Nn 27,Nn 28,Nn 29,Nn 30,Yy 31] ?_
        refine Da ?_
        refine Yv (c21 h) ?_
        refine Da ?_
        refine Yc (l22Own_f h _ k b0 hk (i + 1) (by omega) (by omega) (gt k.parts i).ver hv) ?_
        intro v2 A2 g2
        have o6 := g2.one
        refine Da ?_
        refine Ae ?_
        refine fp (y_lendV A2 (fun h' l' inb => l13Same_v h' _ _ _ _ (sl.le l'.le) (g2.lent (by have := partLights_le hk (i + 1) (gt k.parts i).ver; omega) inb)) (by rfl) ?_)
        repeat first | refine R1 ?_ | refine R2 fun _ => ?_
        refine sf_cond (by rfl) (fun h5 => ?_) fun h5 => ?_
        · simp only [Bool.not_eq_true'] at h5
          repeat first | refine R1 ?_ | refine R2 fun _ => ?_
          exact sf_ret (rV (by rw [hG (by rw [hpo, h5])]))
        · simp only [Bool.not_eq_false'] at h5
          repeat first | refine R1 ?_ | refine R2 fun _ => ?_
          exact ⟨i + 1, by omega, ⟨rfl, trivial⟩, rfl, [(b1, .cells #[.int .i64 k.first.wide, c, ed, p, s] 39)], _, inferInstance, ⟨by omega, by rw [hS, hpo, h5]⟩, rfl⟩
  · refine sf_exit ?_
    have hpo : partsOk k k.parts.length = true := by rw [show k.parts.length = i by omega]; exact hpi
    clear hpi hi e1
    repeat first | refine R1 ?_ | refine R2 fun _ => ?_
    refine sf_lp (ι := Nat) [1, 3] (fun i => [(6, .int .i64 (i : Int))]) (fun i O => (i ≤ rs.length ∧ shownsOk k i = true) ∧ O = [(b1, .cells #[.int .i64 k.first.wide, c, ed, p, s] 39)]) (fun i => rs.length - i) 0 [(b1, .cells #[.int .i64 k.first.wide, c, ed, p, s] 39)] ⟨⟨by omega, rfl⟩, rfl⟩ ?_
    rintro j O ⟨⟨hi, hpi⟩, rfl⟩
    repeat first | refine R1 ?_ | refine R2 fun _ => ?_
    refine sf_if (fun e2 => ?_) fun e2 => ?_
    · have hi1 : j < k.shown.length := by omega
      have hi2 : j < rs.length := by omega
      obtain ⟨l, ex, sl⟩ := shownB (bs.at hi1)
      have ol := sl.one
      have hsl := sl.small
      haveI : FlatV (rawF (shownR τ).sz) (gt rs j) [.int .i64 (gt k.shown j).ver, l] := ⟨ex⟩
      have hG : shownOk k j = false → keepOk k = false := fun e => hF (by rw [shownsOk_F hi1 e]; simp)
      have hS : shownsOk k (j + 1) = shownOk k j := by rw [shownsOk_step, hpi, Bool.true_and]
      have c3 : ∀ h, CallV Tryz.prog M 60 [.int .i64 (gt k.shown j).ver, .int .i64 0, .int .i64 k.edits.length] h (.bool (verOk k (gt k.shown j).ver)) := fun h => l6In_v h _ _ _
      repeat first | refine R1 ?_ | refine R2 fun _ => ?_
      refine sf_keep [1, 3, 6, 7] ?_
      cases hv : verOk k (gt k.shown j).ver with
      | false =>
        rw [hv] at c3
        refine Sd [[],[0],[],[0,1,2],[0,1,2,3],[0,1,2,3,4],[0,1,2,3,4,5],[0,1,2,3,4,5,6],[0,1,2,3,4,5,6,7],[0,1,2,3,4,5,6,7,8],[0,1,2,3,4,5,6,7,8,9],[0,1,2,3,4,5,6,7,8],[0,1,2,3,4,5,6,7,8,11],[0,1,2,3,4,5,6,7,8,9,10,11,12],[0,1,2,3,4,5,6,7,8,9,10,11,12,13],[0,1,2,3,4,5,6,7,8,9,10,11,12,13,14],[0,1,2,3,4,5,6,7,8],[0,1,2,3,4,5,6,7,8,16],[0,1,2,3,4,5,6,7,8,9,10,11,12,13,14,15,16,17],[0,1,2,3,4,5,6,7,8,9,10,11,12,13,14,15,16,17,18],[0,1,2,3,4,5,6,7,8,9,10,11,12,13,14,15,16,17,18,19],[0,1,2,3,4,5,6,7,8,9,10,11,12,13,14,15,16,17,18,19,20],[0,1,2,3,4,5,6,7,8,9,10,11,12,13,14,15,16,17,18,19,20,21],[0,1,2,3,4,5,6,7,8,9,10,11,12,13,14,15,16,17,18,19,20,21,22],[0,1,2,3,4,5,6,7,8,9,10,11,12,13,14,15,16,17,18,19,20,21],[0,1,2,3,4,5,6,7,8,9,10,11,12,13,14,15,16,17,18,19,20,21],[0,1,2,3,4,5,6,7,8,9,10,11,12,13,14,15,16,17,18,19,20,21,25],[0,1,2,3,4,5,6,7,8,9,10,11,12,13,14,15,16,17,18,19,20,21,24,25,26],[0,1,2,3,4,5,6,7,8,9,10,11,12,13,14,15,16,17,18,19,20,21,24,25,26,27],[0,1,2,3,4,5,6,7,8,9,10,11,12,13,14,15,16,17,18,19,20,21,22,23,24,25,26,27,28],[0,1,2,3,4,5,6,7,8,9,10,11,12,13,14,15,16,17,18,19,20,21,22,23,24,25,26,27,28,29],[0,1,2,3,4,5,6,7,8,9,10,11,12,13,14,15,16,17,18,19,20,21,22,23,24,25,26,27,28,29,30]] 29 [Nn 0,Nn 1,Nn 2,Yy 3,Nn 4,Nn 5,Nn 6,Nn 7,Nn 8,Nn 9,Nn 10,Nn 11,Nn 12,Nn 13,Nn 14,Nn 15,Nn 16,Nn 17,Nn 18,Nn 19,Nn 20,Nn 21,Nn 22,Nn 23,Nn 24,Nn 25,Nn 26,Nn 27,Nn 28] ?_
        refine Da ?_
        refine Yv (c3 h) ?_
        refine Da ?_
        refine Ae ?_
        repeat first | refine R1 ?_ | refine R2 fun _ => ?_
        refine sf_T rfl ?_
        repeat first | refine R1 ?_ | refine R2 fun _ => ?_
        exact sf_ret (rV (by rw [hG (by rw [shownOk, hv]; rfl)]))
      | true =>
        rw [hv] at c3
        have hv' := hv
        simp only [verOk, Bool.and_eq_true, decide_eq_true_eq] at hv'
        have gok' := gridAt_ok hk.grid hk.edits (gt k.shown j).ver
        rcases Nat.eq_zero_or_pos j with rfl | hj0
        · have hpv : prevVer k 0 < (gt k.shown 0).ver := by simp only [prevVer, if_true]; omega
          have hn0 : ¬ (((0 : Nat) : Int) > 0) := by omega
          refine Sd [[],[0],[],[0,1,2],[0,1,2,3],[0,1,2,3,4],[0,1,2,3,4,5],[0,1,2,3,4,5,6],[0,1,2,3,4,5,6,7],[0,1,2,3,4,5,6,7,8],[0,1,2,3,4,5,6,7,8,9],[0,1,2,3,4,5,6,7,8],[0,1,2,3,4,5,6,7,8,11],[0,1,2,3,4,5,6,7,8,9,10,11,12],[0,1,2,3,4,5,6,7,8,9,10,11,12,13],[0,1,2,3,4,5,6,7,8,9,10,11,12,13,14],[0,1,2,3,4,5,6,7,8],[0,1,2,3,4,5,6,7,8,16],[0,1,2,3,4,5,6,7,8,9,10,11,12,13,14,15,16,17],[0,1,2,3,4,5,6,7,8,9,10,11,12,13,14,15,16,17,18],[0,1,2,3,4,5,6,7,8,9,10,11,12,13,14,15,16,17,18,19],[0,1,2,3,4,5,6,7,8,9,10,11,12,13,14,15,16,17,18,19,20],[0,1,2,3,4,5,6,7,8,9,10,11,12,13,14,15,16,17,18,19,20,21],[0,1,2,3,4,5,6,7,8,9,10,11,12,13,14,15,16,17,18,19,20,21,22],[0,1,2,3,4,5,6,7,8,9,10,11,12,13,14,15,16,17,18,19,20,21],[0,1,2,3,4,5,6,7,8,9,10,11,12,13,14,15,16,17,18,19,20,21],[0,1,2,3,4,5,6,7,8,9,10,11,12,13,14,15,16,17,18,19,20,21,25],[0,1,2,3,4,5,6,7,8,9,10,11,12,13,14,15,16,17,18,19,20,21,24,25,26],[0,1,2,3,4,5,6,7,8,9,10,11,12,13,14,15,16,17,18,19,20,21,24,25,26,27],[0,1,2,3,4,5,6,7,8,9,10,11,12,13,14,15,16,17,18,19,20,21,22,23,24,25,26,27,28],[0,1,2,3,4,5,6,7,8,9,10,11,12,13,14,15,16,17,18,19,20,21,22,23,24,25,26,27,28,29],[0,1,2,3,4,5,6,7,8,9,10,11,12,13,14,15,16,17,18,19,20,21,22,23,24,25,26,27,28,29,30]] 29 [Nn 0,Nn 1,Nn 2,Yy 3,Nn 4,Nn 5,Nn 6,Nn 7,Nn 8,Nn 9,Nn 10,Nn 11,Nn 12,Nn 13,Nn 14,Nn 15,Nn 16,Nn 17,Nn 18,Nn 19,Nn 20,Nn 21,Nn 22,Nn 23,Nn 24,Nn 25,Nn 26,Yy 27,Yy 28] ?_
          refine Da ?_
          refine Yv (c3 h) ?_
          refine Da ?_
          refine Yc (l22Grid_f h _ k b0 hk (gt k.shown 0).ver hv) ?_
          rintro _ A1 ⟨cs, rfl, q⟩
          obtain ⟨c2, rfl, g1, l1⟩ := gridO q
          have o5 := g1.one
          refine Yc (lendF A1 fun h' _ inb => l12Pic_f h' c2 _ (g1.lent (by omega) inb) (gok gok')) ?_
          rintro v2 _ ⟨A2, rfl, g2⟩
          have o6 := g2.one
          refine Da ?_
          refine Ae ?_
          refine fp (y_lendV A2 (fun h' l' inb => l13Same_v h' _ _ _ _ (sl.le l'.le) (g2.lent (by rw [picOf_len]; have := (gok gok').many; omega) inb)) (by rfl) ?_)
          repeat first | refine R1 ?_ | refine R2 fun _ => ?_
          refine sf_cond (by rfl) (fun h5 => ?_) fun h5 => ?_
          · simp only [Bool.not_eq_true'] at h5
            repeat first | refine R1 ?_ | refine R2 fun _ => ?_
            exact sf_ret (rV (by rw [hG (by rw [shownOk, hv, h5]; simp)]))
          · simp only [Bool.not_eq_false'] at h5
            repeat first | refine R1 ?_ | refine R2 fun _ => ?_
            exact ⟨0 + 1, by omega, ⟨rfl, trivial⟩, rfl, [(b1, .cells #[.int .i64 k.first.wide, c, ed, p, s] 39)], _, inferInstance, ⟨by omega, by rw [hS, shownOk, hv, h5, decide_eq_true hpv]; rfl⟩, rfl⟩
        · have hn1 : (j : Int) > 0 := by omega
          have hpe : prevVer k j = (gt k.shown (j - 1)).ver := by rw [prevVer, if_neg (by omega)]
          obtain ⟨l2, ex2, sl2⟩ := shownB (bs.at (show j - 1 < k.shown.length by omega))
          have ej : ((j : Int) - 1).toNat = j - 1 := by omega
          haveI : FlatV (rawF (shownR τ).sz) (gt rs (j - 1)) [.int .i64 (gt k.shown (j - 1)).ver, l2] := ⟨ex2⟩
          have ej2 : (j : Int) - 1 = ((j - 1 : Nat) : Int) := by omega
          by_cases hpv : prevVer k j < (gt k.shown j).ver
          · have hn2 : ¬ ((gt k.shown (j - 1)).ver ≥ (gt k.shown j).ver) := by omega
            refine Sd [[],[0],[],[0,1,2],[0,1,2,3],[0,1,2,3,4],[0,1,2,3,4,5],[0,1,2,3,4,5,6],[0,1,2,3,4,5,6,7],[0,1,2,3,4,5,6,7,8],[0,1,2,3,4,5,6,7,8,9],[0,1,2,3,4,5,6,7,8],[0,1,2,3,4,5,6,7,8,11],[0,1,2,3,4,5,6,7,8,9,10,11,12],[0,1,2,3,4,5,6,7,8,9,10,11,12,13],[0,1,2,3,4,5,6,7,8,9,10,11,12,13,14],[0,1,2,3,4,5,6,7,8],[0,1,2,3,4,5,6,7,8,16],[0,1,2,3,4,5,6,7,8,9,10,11,12,13,14,15,16,17],[0,1,2,3,4,5,6,7,8,9,10,11,12,13,14,15,16,17,18],[0,1,2,3,4,5,6,7,8,9,10,11,12,13,14,15,16,17,18,19],[0,1,2,3,4,5,6,7,8,9,10,11,12,13,14,15,16,17,18,19,20],[0,1,2,3,4,5,6,7,8,9,10,11,12,13,14,15,16,17,18,19,20,21],[0,1,2,3,4,5,6,7,8,9,10,11,12,13,14,15,16,17,18,19,20,21,22],[0,1,2,3,4,5,6,7,8,9,10,11,12,13,14,15,16,17,18,19,20,21],[0,1,2,3,4,5,6,7,8,9,10,11,12,13,14,15,16,17,18,19,20,21],[0,1,2,3,4,5,6,7,8,9,10,11,12,13,14,15,16,17,18,19,20,21,25],[0,1,2,3,4,5,6,7,8,9,10,11,12,13,14,15,16,17,18,19,20,21,24,25,26],[0,1,2,3,4,5,6,7,8,9,10,11,12,13,14,15,16,17,18,19,20,21,24,25,26,27],[0,1,2,3,4,5,6,7,8,9,10,11,12,13,14,15,16,17,18,19,20,21,22,23,24,25,26,27,28],[0,1,2,3,4,5,6,7,8,9,10,11,12,13,14,15,16,17,18,19,20,21,22,23,24,25,26,27,28,29],[0,1,2,3,4,5,6,7,8,9,10,11,12,13,14,15,16,17,18,19,20,21,22,23,24,25,26,27,28,29,30]] 29 [Nn 0,Nn 1,Nn 2,Yy 3,Nn 4,Nn 5,Nn 6,Nn 7,Nn 8,Nn 9,Nn 10,Nn 11,Nn 12,Nn 13,Nn 14,Nn 15,Nn 16,Nn 17,Nn 18,Nn 19,Nn 20,Nn 21,Nn 22,Nn 23,Nn 24,Nn 25,Nn 26,Yy 27,Yy 28] ?_
            refine Da ?_
            refine Yv (c3 h) ?_
            iterate 9 (refine Da1 ?_)
            rw [ej2]
            refine Da ?_
            refine a_call (l22Grid_f h _ k b0 hk (gt k.shown j).ver hv) (by rfl) (by rfl) (.inr ⟨_, _, _, _, rfl, by rfl, by rfl, decide_eq_false hn2⟩) ?_
            rintro _ A1 ⟨cs, rfl, q⟩
            obtain ⟨c2, rfl, g1, l1⟩ := gridO q
            have o5 := g1.one
            refine a_call (lendF A1 fun h' _ inb => l12Pic_f h' c2 _ (g1.lent (by omega) inb) (gok gok')) (by rfl) (by rfl) (.inr ⟨_, _, _, _, rfl, by rfl, by rfl, decide_eq_false hn2⟩) ?_
            rintro v2 _ ⟨A2, rfl, g2⟩
            have o6 := g2.one
            refine Da ?_
            refine Ae ?_
            refine fp (y_lendV A2 (fun h' l' inb => l13Same_v h' _ _ _ _ (sl.le l'.le) (g2.lent (by rw [picOf_len]; have := (gok gok').many; omega) inb)) (by rfl) ?_)
            repeat first | refine R1 ?_ | refine R2 fun _ => ?_
            refine sf_cond (by rfl) (fun h5 => ?_) fun h5 => ?_
            · simp only [Bool.not_eq_true'] at h5
              repeat first | refine R1 ?_ | refine R2 fun _ => ?_
              exact sf_ret (rV (by rw [hG (by rw [shownOk, hv, h5]; simp)]))
            · simp only [Bool.not_eq_false'] at h5
              repeat first | refine R1 ?_ | refine R2 fun _ => ?_
              exact ⟨j + 1, by omega, ⟨rfl, trivial⟩, rfl, [(b1, .cells #[.int .i64 k.first.wide, c, ed, p, s] 39)], _, inferInstance, ⟨by omega, by rw [hS, shownOk, hv, h5, decide_eq_true hpv]; rfl⟩, rfl⟩
          · have hn2 : (gt k.shown (j - 1)).ver ≥ (gt k.shown j).ver := by omega
            refine Sd [[],[0],[],[0,1,2],[0,1,2,3],[0,1,2,3,4],[0,1,2,3,4,5],[0,1,2,3,4,5,6],[0,1,2,3,4,5,6,7],[0,1,2,3,4,5,6,7,8],[0,1,2,3,4,5,6,7,8,9],[0,1,2,3,4,5,6,7,8],[0,1,2,3,4,5,6,7,8,11],[0,1,2,3,4,5,6,7,8,9,10,11,12],[0,1,2,3,4,5,6,7,8,9,10,11,12,13],[0,1,2,3,4,5,6,7,8,9,10,11,12,13,14],[0,1,2,3,4,5,6,7,8],[0,1,2,3,4,5,6,7,8,16],[0,1,2,3,4,5,6,7,8,9,10,11,12,13,14,15,16,17],[0,1,2,3,4,5,6,7,8,9,10,11,12,13,14,15,16,17,18],[0,1,2,3,4,5,6,7,8,9,10,11,12,13,14,15,16,17,18,19],[0,1,2,3,4,5,6,7,8,9,10,11,12,13,14,15,16,17,18,19,20],[0,1,2,3,4,5,6,7,8,9,10,11,12,13,14,15,16,17,18,19,20,21],[0,1,2,3,4,5,6,7,8,9,10,11,12,13,14,15,16,17,18,19,20,21,22],[0,1,2,3,4,5,6,7,8,9,10,11,12,13,14,15,16,17,18,19,20,21],[0,1,2,3,4,5,6,7,8,9,10,11,12,13,14,15,16,17,18,19,20,21],[0,1,2,3,4,5,6,7,8,9,10,11,12,13,14,15,16,17,18,19,20,21,25],[0,1,2,3,4,5,6,7,8,9,10,11,12,13,14,15,16,17,18,19,20,21,24,25,26],[0,1,2,3,4,5,6,7,8,9,10,11,12,13,14,15,16,17,18,19,20,21,24,25,26,27],[0,1,2,3,4,5,6,7,8,9,10,11,12,13,14,15,16,17,18,19,20,21,22,23,24,25,26,27,28],[0,1,2,3,4,5,6,7,8,9,10,11,12,13,14,15,16,17,18,19,20,21,22,23,24,25,26,27,28,29],[0,1,2,3,4,5,6,7,8,9,10,11,12,13,14,15,16,17,18,19,20,21,22,23,24,25,26,27,28,29,30]] 29 [Nn 0,Nn 1,Nn 2,Yy 3,Nn 4,Nn 5,Nn 6,Nn 7,Nn 8,Nn 9,Nn 10,Nn 11,Nn 12,Nn 13,Nn 14,Nn 15,Nn 16,Nn 17,Nn 18,Nn 19,Nn 20,Nn 21,Nn 22,Nn 23,Nn 24,Nn 25,Nn 26,Nn 27,Nn 28] ?_
            refine Da ?_
            refine Yv (c3 h) ?_
            iterate 9 (refine Da1 ?_)
            rw [ej2]
            refine Da ?_
            refine Ae ?_
            repeat first | refine R1 ?_ | refine R2 fun _ => ?_
            refine sf_T rfl ?_
            repeat first | refine R1 ?_ | refine R2 fun _ => ?_
            exact sf_ret (rV (by rw [hG (by rw [shownOk, hv, decide_eq_false hpv]; rfl)]))
    · refine sf_exit ?_
      repeat first | refine R1 ?_ | refine R2 fun _ => ?_
      exact sf_ret (rV (by rw [hF (b := true) (by rw [hpo, show k.shown.length = j by omega, hpi]; rfl)]))
instance : ElemF Tryz.prog 4 boolF := ⟨trivial⟩
theorem l11Foot_f (h : PHeap) (c : Value) (g : Grid) (s : Sl h c cellF g.cells) {R : Int} (kg : Gok g R) (vv : Value) (vs : List Visit) (sv : Sl h vv visitF vs) (hvs : ∀ v ∈ vs, 0 ≤ v.at' ∧ v.at' < g.cells.length) : CallF Tryz.prog M 264 [.agg #[.int .i64 g.wide, c], vv] [] h fun u A => Gr A u 3 intF (footIs g vs) := by
  have o1 := s.one
  have o2 := sv.one
  have hsm := kg.small
  have hvl := sv.small
  refine Cs Tryz.func264 Tryz.ntmps264 ?_
  repeat first | refine R1 ?_ | refine R2 fun _ => ?_
  rename_i b2
  refine Xm fun v A gr => ?_
  have o3 := gr.one
  repeat first | refine R1 ?_ | refine R2 fun _ => ?_
  refine sf_lp (ι := Nat × List Bool) [1, 5] (fun x => [(6, .int .i64 (x.1 : Int))]) (fun x O => x.1 ≤ vs.length ∧ ∃ A', O = A' ++ [(b2, .cells #[.int .i64 g.wide, c] 34)] ∧ Gr A' v 4 boolF x.2 ∧ x.2.length = g.cells.length ∧ ∀ a, a < g.cells.length → gt x.2 a = (vs.take x.1).any fun w => decide (w.at' = (a : Nat))) (fun x => vs.length - x.1) (0, List.replicate g.cells.length false) (A ++ [(b2, .cells #[.int .i64 g.wide, c] 34)]) ⟨by simp only; omega, A, rfl, gr, by simp, fun a ha => by simp [gt, ha]⟩ ?_
  rintro ⟨j, bs⟩ O ⟨hj, A', rfl, gb, hbl, hb⟩
  simp only at hj gb hbl hb ⊢
  repeat first | refine R1 ?_ | refine R2 fun _ => ?_
  refine sf_if (fun h4 => ?_) fun h4 => ?_
  · have hj4 : j < vs.length := by omega
    have hv := hvs (gt vs j) (by rw [gt_eq hj4]; exact List.getElem_mem _)
    repeat first | refine R1 ?_ | refine R2 fun _ => ?_ | refine fp (Rq ?_ (z_indexGI (by rfl) (by rfl) (by assumption) (by omega) (by omega)))
    refine Xg gb fun A2 ys hy hl fv g2 => ?_
    repeat first | refine R1 ?_ | refine R2 fun _ => ?_
    refine ⟨(j + 1, ys), by simp only; omega, ⟨rfl, trivial⟩, rfl, A2 ++ [(b2, .cells #[.int .i64 g.wide, c] 34)], _, inferInstance, by simp only; omega, A2, rfl, g2, by simp only; omega, fun a ha => ?_⟩
    simp only
    rw [hy, take_succ_gt hj4, List.any_append]
    simp only [List.any_cons, List.any_nil, Bool.or_false]
    by_cases e : (gt vs j).at'.toNat = a
    · subst e
      rw [gt_set (by omega)]
      have : (gt vs j).at' = (((gt vs j).at'.toNat : Nat) : Int) := by omega
      simp [← this]
    · rw [gt_set_ne e, hb a ha]
      have : ¬ (gt vs j).at' = ((a : Nat) : Int) := by omega
      simp [this]
  · refine sf_exit ?_
    obtain rfl : j = vs.length := by omega
    rw [List.take_of_length_le (Nat.le_refl _)] at hb
    repeat first | refine R1 ?_ | refine R2 fun _ => ?_
    refine Xb fun w AW gw => ?_
    repeat first | refine R1 ?_ | refine R2 fun _ => ?_
    refine sf_lp (ι := Nat × Value) [5] (fun x => [(7, x.2), (8, .int .i64 (x.1 : Int))]) (fun x O => x.1 ≤ g.cells.length ∧ ∃ AW xs, O = AW ++ (A' ++ [(b2, .cells #[.int .i64 g.wide, c] 34)]) ∧ xs.length ≤ x.1 ∧ xs = (((List.range x.1).filter fun i => vs.any fun v => decide (v.at' = (i : Nat))).map fun i => ((i : Nat) : Int)) ∧ Gr AW x.2 3 intF xs) (fun x => g.cells.length - x.1) (0, w) (AW ++ (A' ++ [(b2, .cells #[.int .i64 g.wide, c] 34)])) ⟨by simp only; omega, AW, [], rfl, by simp, rfl, gw⟩ ?_
    rintro ⟨i, w⟩ O ⟨hi, AW, xs, rfl, hxl, hxs, gx⟩
    simp only at hi hxl hxs gx ⊢
    have ow := gx.one
    repeat first | refine R1 ?_ | refine R2 fun _ => ?_
    refine sf_if (fun h5 => ?_) fun h5 => ?_
    · have hi4 : i < g.cells.length := by omega
      repeat first | refine R1 ?_ | refine R2 fun _ => ?_ | refine fp (Rq ?_ (z_indexGI (by rfl) (by rfl) (by assumption) (by omega) (by omega)))
      rw [hb i hi4]
      refine sf_cond (by rfl) (fun e => ?_) fun e => ?_
      · repeat first | refine R1 ?_ | refine R2 fun _ => ?_
        refine Xb fun u Au gu => ?_
        repeat first | refine R1 ?_ | refine R2 fun _ => ?_
        refine Xa gx gu fun w2 A2 g2 => ?_
        repeat first | refine R1 ?_ | refine R2 fun _ => ?_
        exact ⟨(i + 1, w2), by simp only; omega, ⟨rfl, rfl, trivial⟩, rfl, A2 ++ (A' ++ [(b2, .cells #[.int .i64 g.wide, c] 34)]), _, inferInstance, by simp only; omega, A2, _, rfl, by simp; omega, by simp only; rw [List.range_succ, List.filter_append, List.map_append, ← hxs]; simp only [List.filter_cons, e, if_true, List.filter_nil, List.map_cons, List.map_nil], g2⟩
      · repeat first | refine R1 ?_ | refine R2 fun _ => ?_
        exact ⟨(i + 1, w), by simp only; omega, ⟨rfl, rfl, trivial⟩, rfl, AW ++ (A' ++ [(b2, .cells #[.int .i64 g.wide, c] 34)]), _, inferInstance, by simp only; omega, AW, xs, rfl, by simp only; omega, by simp only; rw [List.range_succ, List.filter_append, List.map_append, ← hxs]; simp only [List.filter_cons, e, Bool.false_eq_true, if_false, List.filter_nil, List.map_nil, List.append_nil], gx⟩
    · refine sf_exit ?_
      obtain rfl : i = g.cells.length := by omega
      repeat first | refine R1 ?_ | refine R2 fun _ => ?_
      refine sf_ret (rO AW ?_)
      rw [footIs, ← hxs]; exact gx
instance elemF_ints_SJ : ElemF Tryz.prog 70 (rawF (intSR τ).sz) := ⟨trivial⟩
theorem l13Look_f (h : PHeap) (c : Value) (g : Grid) (s : Sl h c cellF g.cells) (e : gridOk g = true) (l f : Value) (A2 A3 : Own) (ls : List Int) (fs : List (List Int)) (gl : Gr A2 l 3 intF ls) (gf : GrR (intSR τ) A3 f 70 fs) (k : Nat) (hk : (k : Int) < manyOf g) (hl : k < ls.length) (hf : k < fs.length) :
    CallF Tryz.prog M 233 [.agg #[.int .i64 g.wide, c, l, f], .int .i64 (k : Int)] (A2 ++ A3) h fun u A => ∃ A2' A3', u = .agg #[.int .i64 g.wide, c, l, f] ∧ A = A2' ++ A3' ∧ Gr A2' l 3 intF (ls.set k (trailLight g k)) ∧ GrR (intSR τ) A3' f 70 (fs.set k (footOf g k)) := by
  have o1 := s.one
  have o2 := gl.one
  have o3 := gf.one
  have kg := gok e
  have hsm := kg.small
  obtain ⟨sz, vs, es, hc, hg, hsz, hok⟩ := goLight_is kg (j := (k : Int)) (by omega) hk
  have hle := hok.le
  have hlv := hok.lv
  have hes : ∀ e ∈ es, EndOk g 64 e := hok.es
  have hvs : ∀ v ∈ vs, 0 ≤ v.at' ∧ v.at' < g.cells.length := fun v hv => ⟨(hok.vs v hv).a0, (hok.vs v hv).a1⟩
  simp only at hle hlv
  obtain ⟨F0, F1, rfl, rs, gr, oa, hb⟩ := gf
  have hr := oa.len
  refine Cs Tryz.func233 Tryz.ntmps233 ?_
  repeat first | refine R1 ?_ | refine R2 fun _ => ?_
  rename_i b2 b4
  refine fp (y_call (l11Go_f (M := M) _ c g s kg (k : Int) ⟨by omega, hk⟩) (by rfl) ?_)
  rintro _ _ ⟨b5, rfl, vv, ev, AV, AE, rfl, gv, ge⟩
  rw [hg] at gv ge
  simp only at gv ge
  have o4 := gv.one
  have o5 := ge.one
  have htl : trailLight g (k : Int) = lightOf g es := by rw [trailLight, hg]
  have hft : footOf g (k : Int) = footIs g vs := by rw [footOf, hg]
  rw [htl, hft]
  clear hc hg
  repeat first | refine R1 ?_ | refine R2 fun _ => ?_
  refine sf_draw (by kernel_rfl) (regX_own (AE) (Sw [[],[0],[],[],[3],[],[5],[5,6],[5,6,7],[3,4,5,6,7,8],[0,1,2,3,4,5,6,7,8,9],[0,1,2,3,4,5,6,7,8,9,10]] 10 [Nn 0,Nn 1,Nn 2,Nn 3,Nn 4,Nn 5,Nn 6,Nn 7,Nn 8,Yy 9] ?_))
  refine Da ?_
  refine Yc (lendV AE fun h' l i => l11Light_v (M := M) h' c g (s.le l.le) kg ev es (ge.lent (by omega) i) hes (by omega)) ?_
  rintro _ _ ⟨rfl, rfl⟩
  refine Da ?_
  refine Ae ?_
  repeat first | refine R1 ?_ | refine R2 fun _ => ?_
  refine Xg gl fun A5 ys hy hly fv g5 => ?_
  repeat first | refine R1 ?_ | refine R2 fun _ => ?_
  refine sf_draw (by kernel_rfl) (regX_own (AV) (Sw [[],[0],[],[],[3],[],[5],[5,6],[5,6,7],[3,4,5,6,7,8],[0,1,2,3,4,5,6,7,8,9],[0,1,2,3,4,5,6,7,8,9,10]] 10 [Nn 0,Nn 1,Nn 2,Nn 3,Nn 4,Nn 5,Nn 6,Nn 7,Nn 8,Yy 9] ?_))
  refine Da ?_
  refine Yc (lendF AV fun h' l i => l11Foot_f (M := M) h' c g (s.le l.le) kg vv vs (gv.lent (by omega) i) hvs) ?_
  rintro w _ ⟨AW, rfl, gw⟩
  have o6 := gw.one
  refine Da ?_
  refine Ae ?_
  repeat first | refine R1 ?_ | refine R2 fun _ => ?_
  refine Xg gr fun A6 zs hz hlz fz g6 => ?_
  repeat first | refine R1 ?_ | refine R2 fun _ => ?_
  obtain ⟨B1, Bk, B2, rfl, q1, q2⟩ := oa.at hf
  have q3 := q2 AW ⟨[w], rfl⟩ (footIs g vs) ⟨w, rfl, gw, by have := footIs_len g vs; omega⟩
  rw [hy] at g5
  rw [hz] at g6
  exact sf_ret (rO (A5 ++ (A6 ++ (B1 ++ (AW ++ B2)))) ⟨A5, A6 ++ (B1 ++ (AW ++ B2)), rfl, rfl, g5, A6, _, rfl, _, g6, q3, by simp; omega⟩)
theorem l21None_v (h : PHeap) (ca : List Value) (s : Scene) (b : (sceneR τ).B h ca s) : CallV Tryz.prog M 175 [.agg ca.toArray] h (.bool (decide (s = noScene))) := by
  obtain ⟨c, l, f, rfl, s1, s2, s3⟩ := sceneB b
  have o1 := s1.one
  have o2 := s2.one
  have o3 := s3.one
  obtain ⟨rs, s3, bs⟩ := s3
  have lb := bs.len
  have key : decide (s = noScene) = (decide (s.grid.wide = 0) && decide ((s.grid.cells.length : Int) = 0) && decide ((s.lights.length : Int) = 0) && decide ((rs.length : Int) = 0)) := by
    obtain ⟨⟨w, cs⟩, ls, fs⟩ := s
    simp only at lb
    simp only [noScene, noGrid, Scene.mk.injEq, Grid.mk.injEq]
    rw [lb]
    by_cases h1 : w = 0 <;> by_cases h2 : cs = [] <;> by_cases h3 : ls = [] <;> by_cases h4 : fs = [] <;> simp [h1, h2, h3, h4]
  rw [key]
  refine Cs Tryz.func175 Tryz.ntmps175 ?_
  repeat first | refine R1 ?_ | refine R2 fun _ => ?_
  refine f_split (fun h1 => ?_) fun h1 => ?_
  · repeat first | refine R1 ?_ | refine R2 fun _ => ?_
    refine f_split (fun h2 => ?_) fun h2 => ?_
    · repeat first | refine R1 ?_ | refine R2 fun _ => ?_
      refine f_split (fun h3 => ?_) fun h3 => ?_
      · repeat first | refine R1 ?_ | refine R2 fun _ => ?_
        refine sf_ret (rV ?_)
        simp [h1, h2, h3]
      · have h3' : ¬ s.lights = [] := fun e => h3 (by rw [e]; rfl)
        repeat first | refine R1 ?_ | refine R2 fun _ => ?_
        refine sf_ret (rV ?_)
        simp [h3']
    · have h2' : ¬ s.grid.cells = [] := fun e => h2 (by rw [e]; rfl)
      repeat first | refine R1 ?_ | refine R2 fun _ => ?_
      refine sf_ret (rV ?_)
      simp [h2']
  · repeat first | refine R1 ?_ | refine R2 fun _ => ?_
    refine sf_ret (rV ?_)
    simp [h1]
theorem scene_step {xs : List (List Int)} {k : Nat} (h : k < xs.length) : (xs.take k ++ List.replicate (xs.length - k) []).set k (gt xs k) = xs.take (k + 1) ++ List.replicate (xs.length - (k + 1)) [] := set_step h
theorem nils_all (n : Nat) : OAll (intSR τ) [] (List.replicate n ⟨[.slice none 0 0], rfl⟩) (List.replicate n []) := by
  induction n with
  | zero => exact .nil
  | succ n ih => exact .cons (A := []) ⟨_, rfl, Gr.nil _ _, by simp⟩ ih
theorem sSceneNew_f (h : PHeap) (ca : List Value) (g : Grid) (b : (gridR τ).B h ca g) : CallF Tryz.prog M 208 [.agg ca.toArray] [] h fun u A => ∃ cs, u = .tuple #[.agg cs.toArray, .bool (sceneNew g).2] ∧ (sceneR τ).O A cs (sceneNew g).1 := by
  have b0 := b
  obtain ⟨c, rfl, s⟩ := gridB b
  have o1 := s.one
  have hN : (sceneR τ).O [] [.int .i64 0, .slice none 0 0, .slice none 0 0, .slice none 0 0] noScene := sceneO_mk (s := noScene) (Gr.nil _ _) (by decide) (Gr.nil _ _) (by decide) (GrR.nil)
  refine Cs Tryz.func208 Tryz.ntmps208 ?_
  repeat first | refine R1 ?_ | refine R2 fun _ => ?_
  refine Xv (sGridOk_v _ _ g ⟨c, rfl, s⟩) ?_
  repeat first | refine R1 ?_ | refine R2 fun _ => ?_
  refine sf_cond (by rfl) (fun e => ?_) fun e => ?_
  · simp only [Bool.not_eq_true'] at e
    repeat first | refine R1 ?_ | refine R2 fun _ => ?_
    rw [sceneNew, if_neg (by rw [e]; decide)]
    exact sf_ret (rO [] ⟨_, rfl, hN⟩)
  simp only [Bool.not_eq_false'] at e
  rw [sceneNew, if_pos e]
  clear hN
  have kg := gok e
  have hm := kg.many
  have hsm := kg.small
  obtain ⟨N, hN⟩ : ∃ N : Nat, manyOf g = N := ⟨(manyOf g).toNat, by omega⟩
  have lp : (picOf g).length = N := by rw [picOf_len, hN]; simp
  have lf : (feetOf g).length = N := by rw [feetOf_len, hN]; simp
  repeat first | refine R1 ?_ | refine R2 fun _ => ?_
  refine Xv (l3Many_v (M := M) _ c g s kg) ?_
  rw [hN]
  repeat first | refine R1 ?_ | refine R2 fun _ => ?_
  rename_i b1 b2
  apply viaT (G := ∀ (c2 l f : Value) (AC AL AF : Own) (b5 : Nat), Gr AC c2 67 cellF g.cells → Gr AL l 3 intF (List.replicate N 0) → Gr AF f 70 (rawF (intSR τ).sz) (List.replicate N ⟨[.slice none 0 0], rfl⟩) → _)
  · intro tail
    refine sf_draw (by kernel_rfl) (regX_split 1 3 (by rfl) (regX_split 1 5 (by rfl) (regX_split 1 7 (by rfl) (regX_split 3 5 (by rfl) (regX_split 3 7 (by rfl) (regX_split 5 7 (by rfl) ?_ ?_) ?_) (regX_split 3 7 (by rfl) ?_ (regX_split 5 7 (by rfl) ?_ ?_))) (regX_split 3 5 (by rfl) ?_ ?_)) (regX_split 1 7 (by rfl) (regX_split 3 7 (by rfl) ?_ ?_) (regX_split 5 7 (by rfl) ?_ ?_))) (regX_split 1 5 (by rfl) (regX_split 1 7 (by rfl) (regX_split 5 7 (by rfl) ?_ ?_) (regX_split 3 7 (by rfl) ?_ ?_)) (regX_split 1 7 (by rfl) (regX_split 3 5 (by rfl) ?_ ?_) (regX_split 3 5 (by rfl) (regX_split 3 7 (by rfl) (regX_split 5 7 (by rfl) ?_ ?_) ?_) (regX_split 3 7 (by rfl) ?_ (regX_split 5 7 (by rfl) ?_ ?_))))))
    case' refine_1 =>
      refine Sr [[],[0],[],[0,1,2],[],[0,1,2,3,4],[0,1,2,3,4,5],[0,1,2,3,4,5],[0,1,2,3,4,5,6,7]] 8 [Nn 0,Nn 2,Nn 4,Yy 1,Yy 3,Yy 5,Nn 6,Yy 7] ?_
      refine Da ?_
      refine Yc (l1Copy_f (M := M) _ _ g (gridB_mk s) (by omega)) ?_
      rintro _ AC ⟨_, rfl, q⟩
      obtain ⟨c2, rfl, g1, l1⟩ := gridO q
      have o5 := g1.one
      refine Da ?_
      refine Ym fun l AL g2 => ?_
      have o6 := g2.one
      refine Da ?_
      refine Ym fun f AF g3 => ?_
      have o7 := g3.one
      refine Da ?_
      refine Yl fun b5 => ?_
      refine Da ?_
      refine Ae ?_
      repeat first | refine R1 ?_ | refine R2 fun _ => ?_
      refine sf_keep [2, 4, 5, 6] ?_
      refine sf_own ((b5, .cells #[.int .i64 g.wide, c2, l, f] 167) :: (AC ++ (AL ++ (AF ++ [(b2, .cells #[.int .i64 0, .slice none 0 0, .slice none 0 0, .slice none 0 0] 167), (b1, .cells #[.int .i64 g.wide, c] 34)])))) ?_
      exact tail.out c2 l f AC AL AF b5 g1 g2 g3
    case' refine_2 =>
      refine Sr [[],[0],[],[0,1,2],[],[0,1,2,3,4,7],[0,1,2,3,4,5,7],[0,1,2,3],[0,1,2,3,4,5,6,7]] 8 [Nn 0,Nn 2,Nn 4,Yy 1,Yy 3,Yy 7,Yy 5,Nn 6] ?_
      refine Da ?_
      refine Yc (l1Copy_f (M := M) _ _ g (gridB_mk s) (by omega)) ?_
      rintro _ AC ⟨_, rfl, q⟩
      obtain ⟨c2, rfl, g1, l1⟩ := gridO q
      have o5 := g1.one
      refine Da ?_
      refine Ym fun l AL g2 => ?_
      have o6 := g2.one
      refine Da ?_
      refine Yl fun b5 => ?_
      refine Da ?_
      refine Ym fun f AF g3 => ?_
      have o7 := g3.one
      refine Da ?_
      refine Ae ?_
      repeat first | refine R1 ?_ | refine R2 fun _ => ?_
      refine sf_keep [2, 4, 5, 6] ?_
      refine sf_own ((b5, .cells #[.int .i64 g.wide, c2, l, f] 167) :: (AC ++ (AL ++ (AF ++ [(b2, .cells #[.int .i64 0, .slice none 0 0, .slice none 0 0, .slice none 0 0] 167), (b1, .cells #[.int .i64 g.wide, c] 34)])))) ?_
      exact tail.out c2 l f AC AL AF b5 g1 g2 g3
    case' refine_3 =>
      refine Sr [[],[0],[],[0,1,2,7],[],[0,1,2,3,4,7],[0,1,2,3,4,5,7],[0,1],[0,1,2,3,4,5,6,7]] 8 [Nn 0,Nn 2,Nn 4,Yy 1,Yy 7,Yy 3,Yy 5,Nn 6] ?_
      refine Da ?_
      refine Yc (l1Copy_f (M := M) _ _ g (gridB_mk s) (by omega)) ?_
      rintro _ AC ⟨_, rfl, q⟩
      obtain ⟨c2, rfl, g1, l1⟩ := gridO q
      have o5 := g1.one
      refine Da ?_
      refine Yl fun b5 => ?_
      refine Da ?_
      refine Ym fun l AL g2 => ?_
      have o6 := g2.one
      refine Da ?_
      refine Ym fun f AF g3 => ?_
      have o7 := g3.one
      refine Da ?_
      refine Ae ?_
      repeat first | refine R1 ?_ | refine R2 fun _ => ?_
      refine sf_keep [2, 4, 5, 6] ?_
      refine sf_own ((b5, .cells #[.int .i64 g.wide, c2, l, f] 167) :: (AC ++ (AL ++ (AF ++ [(b2, .cells #[.int .i64 0, .slice none 0 0, .slice none 0 0, .slice none 0 0] 167), (b1, .cells #[.int .i64 g.wide, c] 34)])))) ?_
      exact tail.out c2 l f AC AL AF b5 g1 g2 g3
    case' refine_4 =>
      refine Sr [[],[0],[],[0,1,2,4,5],[],[0,1,4],[0,1,2,3,4,5],[0,1,2,3,4,5],[0,1,2,3,4,5,6,7]] 8 [Nn 0,Nn 2,Nn 4,Yy 1,Yy 5,Yy 3,Nn 6,Yy 7] ?_
      refine Da ?_
      refine Yc (l1Copy_f (M := M) _ _ g (gridB_mk s) (by omega)) ?_
      rintro _ AC ⟨_, rfl, q⟩
      obtain ⟨c2, rfl, g1, l1⟩ := gridO q
      have o5 := g1.one
      refine Da ?_
      refine Ym fun f AF g3 => ?_
      have o7 := g3.one
      refine Da ?_
      refine Ym fun l AL g2 => ?_
      have o6 := g2.one
      refine Da ?_
      refine Yl fun b5 => ?_
      refine Da ?_
      refine Ae ?_
      repeat first | refine R1 ?_ | refine R2 fun _ => ?_
      refine sf_keep [2, 4, 5, 6] ?_
      refine sf_own ((b5, .cells #[.int .i64 g.wide, c2, l, f] 167) :: (AC ++ (AL ++ (AF ++ [(b2, .cells #[.int .i64 0, .slice none 0 0, .slice none 0 0, .slice none 0 0] 167), (b1, .cells #[.int .i64 g.wide, c] 34)])))) ?_
      exact tail.out c2 l f AC AL AF b5 g1 g2 g3
    case' refine_5 =>
      refine Sr [[],[0],[],[0,1,2,4,5,7],[],[0,1,4],[0,1,2,3,4,5,7],[0,1,4,5],[0,1,2,3,4,5,6,7]] 8 [Nn 0,Nn 2,Nn 4,Yy 1,Yy 5,Yy 7,Yy 3,Nn 6] ?_
      refine Da ?_
      refine Yc (l1Copy_f (M := M) _ _ g (gridB_mk s) (by omega)) ?_
      rintro _ AC ⟨_, rfl, q⟩
      obtain ⟨c2, rfl, g1, l1⟩ := gridO q
      have o5 := g1.one
      refine Da ?_
      refine Ym fun f AF g3 => ?_
      have o7 := g3.one
      refine Da ?_
      refine Yl fun b5 => ?_
      refine Da ?_
      refine Ym fun l AL g2 => ?_
      have o6 := g2.one
      refine Da ?_
      refine Ae ?_
      repeat first | refine R1 ?_ | refine R2 fun _ => ?_
      refine sf_keep [2, 4, 5, 6] ?_
      refine sf_own ((b5, .cells #[.int .i64 g.wide, c2, l, f] 167) :: (AC ++ (AL ++ (AF ++ [(b2, .cells #[.int .i64 0, .slice none 0 0, .slice none 0 0, .slice none 0 0] 167), (b1, .cells #[.int .i64 g.wide, c] 34)])))) ?_
      exact tail.out c2 l f AC AL AF b5 g1 g2 g3
    case' refine_6 =>
      refine Sr [[],[0],[],[0,1,2,4,5,7],[],[0,1,4,7],[0,1,2,3,4,5,7],[0,1],[0,1,2,3,4,5,6,7]] 8 [Nn 0,Nn 2,Nn 4,Yy 1,Yy 7,Yy 5,Yy 3,Nn 6] ?_
      refine Da ?_
      refine Yc (l1Copy_f (M := M) _ _ g (gridB_mk s) (by omega)) ?_
      rintro _ AC ⟨_, rfl, q⟩
      obtain ⟨c2, rfl, g1, l1⟩ := gridO q
      have o5 := g1.one
      refine Da ?_
      refine Yl fun b5 => ?_
      refine Da ?_
      refine Ym fun f AF g3 => ?_
      have o7 := g3.one
      refine Da ?_
      refine Ym fun l AL g2 => ?_
      have o6 := g2.one
      refine Da ?_
      refine Ae ?_
      repeat first | refine R1 ?_ | refine R2 fun _ => ?_
      refine sf_keep [2, 4, 5, 6] ?_
      refine sf_own ((b5, .cells #[.int .i64 g.wide, c2, l, f] 167) :: (AC ++ (AL ++ (AF ++ [(b2, .cells #[.int .i64 0, .slice none 0 0, .slice none 0 0, .slice none 0 0] 167), (b1, .cells #[.int .i64 g.wide, c] 34)])))) ?_
      exact tail.out c2 l f AC AL AF b5 g1 g2 g3
    case' refine_7 =>
      refine Sr [[],[0,7],[],[0,1,2,7],[],[0,1,2,3,4,7],[0,1,2,3,4,5,7],[],[0,1,2,3,4,5,6,7]] 8 [Nn 0,Nn 2,Nn 4,Yy 7,Yy 1,Yy 3,Yy 5,Nn 6] ?_
      refine Da ?_
      refine Yl fun b5 => ?_
      refine Da ?_
      refine Yc (l1Copy_f (M := M) _ _ g (gridB_mk s) (by omega)) ?_
      rintro _ AC ⟨_, rfl, q⟩
      obtain ⟨c2, rfl, g1, l1⟩ := gridO q
      have o5 := g1.one
      refine Da ?_
      refine Ym fun l AL g2 => ?_
      have o6 := g2.one
      refine Da ?_
      refine Ym fun f AF g3 => ?_
      have o7 := g3.one
      refine Da ?_
      refine Ae ?_
      repeat first | refine R1 ?_ | refine R2 fun _ => ?_
      refine sf_keep [2, 4, 5, 6] ?_
      refine sf_own ((b5, .cells #[.int .i64 g.wide, c2, l, f] 167) :: (AC ++ (AL ++ (AF ++ [(b2, .cells #[.int .i64 0, .slice none 0 0, .slice none 0 0, .slice none 0 0] 167), (b1, .cells #[.int .i64 g.wide, c] 34)])))) ?_
      exact tail.out c2 l f AC AL AF b5 g1 g2 g3
    case' refine_8 =>
      refine Sr [[],[0,7],[],[0,1,2,4,5,7],[],[0,1,4,7],[0,1,2,3,4,5,7],[],[0,1,2,3,4,5,6,7]] 8 [Nn 0,Nn 2,Nn 4,Yy 7,Yy 1,Yy 5,Yy 3,Nn 6] ?_
      refine Da ?_
      refine Yl fun b5 => ?_
      refine Da ?_
      refine Yc (l1Copy_f (M := M) _ _ g (gridB_mk s) (by omega)) ?_
      rintro _ AC ⟨_, rfl, q⟩
      obtain ⟨c2, rfl, g1, l1⟩ := gridO q
      have o5 := g1.one
      refine Da ?_
      refine Ym fun f AF g3 => ?_
      have o7 := g3.one
      refine Da ?_
      refine Ym fun l AL g2 => ?_
      have o6 := g2.one
      refine Da ?_
      refine Ae ?_
      repeat first | refine R1 ?_ | refine R2 fun _ => ?_
      refine sf_keep [2, 4, 5, 6] ?_
      refine sf_own ((b5, .cells #[.int .i64 g.wide, c2, l, f] 167) :: (AC ++ (AL ++ (AF ++ [(b2, .cells #[.int .i64 0, .slice none 0 0, .slice none 0 0, .slice none 0 0] 167), (b1, .cells #[.int .i64 g.wide, c] 34)])))) ?_
      exact tail.out c2 l f AC AL AF b5 g1 g2 g3
    case' refine_9 =>
      refine Sr [[],[0,4,5],[],[0,1,2,4,5],[],[4],[0,1,2,3,4,5],[0,1,2,3,4,5],[0,1,2,3,4,5,6,7]] 8 [Nn 0,Nn 2,Nn 4,Yy 5,Yy 1,Yy 3,Nn 6,Yy 7] ?_
      refine Da ?_
      refine Ym fun f AF g3 => ?_
      have o7 := g3.one
      refine Da ?_
      refine Yc (l1Copy_f (M := M) _ _ g (gridB_mk s) (by omega)) ?_
      rintro _ AC ⟨_, rfl, q⟩
      obtain ⟨c2, rfl, g1, l1⟩ := gridO q
      have o5 := g1.one
      refine Da ?_
      refine Ym fun l AL g2 => ?_
      have o6 := g2.one
      refine Da ?_
      refine Yl fun b5 => ?_
      refine Da ?_
      refine Ae ?_
      repeat first | refine R1 ?_ | refine R2 fun _ => ?_
      refine sf_keep [2, 4, 5, 6] ?_
      refine sf_own ((b5, .cells #[.int .i64 g.wide, c2, l, f] 167) :: (AC ++ (AL ++ (AF ++ [(b2, .cells #[.int .i64 0, .slice none 0 0, .slice none 0 0, .slice none 0 0] 167), (b1, .cells #[.int .i64 g.wide, c] 34)])))) ?_
      exact tail.out c2 l f AC AL AF b5 g1 g2 g3
    case' refine_10 =>
      refine Sr [[],[0,4,5],[],[0,1,2,4,5,7],[],[4],[0,1,2,3,4,5,7],[0,1,4,5],[0,1,2,3,4,5,6,7]] 8 [Nn 0,Nn 2,Nn 4,Yy 5,Yy 1,Yy 7,Yy 3,Nn 6] ?_
      refine Da ?_
      refine Ym fun f AF g3 => ?_
      have o7 := g3.one
      refine Da ?_
      refine Yc (l1Copy_f (M := M) _ _ g (gridB_mk s) (by omega)) ?_
      rintro _ AC ⟨_, rfl, q⟩
      obtain ⟨c2, rfl, g1, l1⟩ := gridO q
      have o5 := g1.one
      refine Da ?_
      refine Yl fun b5 => ?_
      refine Da ?_
      refine Ym fun l AL g2 => ?_
      have o6 := g2.one
      refine Da ?_
      refine Ae ?_
      repeat first | refine R1 ?_ | refine R2 fun _ => ?_
      refine sf_keep [2, 4, 5, 6] ?_
      refine sf_own ((b5, .cells #[.int .i64 g.wide, c2, l, f] 167) :: (AC ++ (AL ++ (AF ++ [(b2, .cells #[.int .i64 0, .slice none 0 0, .slice none 0 0, .slice none 0 0] 167), (b1, .cells #[.int .i64 g.wide, c] 34)])))) ?_
      exact tail.out c2 l f AC AL AF b5 g1 g2 g3
    case' refine_11 =>
      refine Sr [[],[0,4,5,7],[],[0,1,2,4,5,7],[],[4],[0,1,2,3,4,5,7],[4,5],[0,1,2,3,4,5,6,7]] 8 [Nn 0,Nn 2,Nn 4,Yy 5,Yy 7,Yy 1,Yy 3,Nn 6] ?_
      refine Da ?_
      refine Ym fun f AF g3 => ?_
      have o7 := g3.one
      refine Da ?_
      refine Yl fun b5 => ?_
      refine Da ?_
      refine Yc (l1Copy_f (M := M) _ _ g (gridB_mk s) (by omega)) ?_
      rintro _ AC ⟨_, rfl, q⟩
      obtain ⟨c2, rfl, g1, l1⟩ := gridO q
      have o5 := g1.one
      refine Da ?_
      refine Ym fun l AL g2 => ?_
      have o6 := g2.one
      refine Da ?_
      refine Ae ?_
      repeat first | refine R1 ?_ | refine R2 fun _ => ?_
      refine sf_keep [2, 4, 5, 6] ?_
      refine sf_own ((b5, .cells #[.int .i64 g.wide, c2, l, f] 167) :: (AC ++ (AL ++ (AF ++ [(b2, .cells #[.int .i64 0, .slice none 0 0, .slice none 0 0, .slice none 0 0] 167), (b1, .cells #[.int .i64 g.wide, c] 34)])))) ?_
      exact tail.out c2 l f AC AL AF b5 g1 g2 g3
    case' refine_12 =>
      refine Sr [[],[0,4,5,7],[],[0,1,2,4,5,7],[],[4,7],[0,1,2,3,4,5,7],[],[0,1,2,3,4,5,6,7]] 8 [Nn 0,Nn 2,Nn 4,Yy 7,Yy 5,Yy 1,Yy 3,Nn 6] ?_
      refine Da ?_
      refine Yl fun b5 => ?_
      refine Da ?_
      refine Ym fun f AF g3 => ?_
      have o7 := g3.one
      refine Da ?_
      refine Yc (l1Copy_f (M := M) _ _ g (gridB_mk s) (by omega)) ?_
      rintro _ AC ⟨_, rfl, q⟩
      obtain ⟨c2, rfl, g1, l1⟩ := gridO q
      have o5 := g1.one
      refine Da ?_
      refine Ym fun l AL g2 => ?_
      have o6 := g2.one
      refine Da ?_
      refine Ae ?_
      repeat first | refine R1 ?_ | refine R2 fun _ => ?_
      refine sf_keep [2, 4, 5, 6] ?_
      refine sf_own ((b5, .cells #[.int .i64 g.wide, c2, l, f] 167) :: (AC ++ (AL ++ (AF ++ [(b2, .cells #[.int .i64 0, .slice none 0 0, .slice none 0 0, .slice none 0 0] 167), (b1, .cells #[.int .i64 g.wide, c] 34)])))) ?_
      exact tail.out c2 l f AC AL AF b5 g1 g2 g3
    case' refine_13 =>
      refine Sr [[],[0,2,3],[],[2],[],[0,1,2,3,4],[0,1,2,3,4,5],[0,1,2,3,4,5],[0,1,2,3,4,5,6,7]] 8 [Nn 0,Nn 2,Nn 4,Yy 3,Yy 1,Yy 5,Nn 6,Yy 7] ?_
      refine Da ?_
      refine Ym fun l AL g2 => ?_
      have o6 := g2.one
      refine Da ?_
      refine Yc (l1Copy_f (M := M) _ _ g (gridB_mk s) (by omega)) ?_
      rintro _ AC ⟨_, rfl, q⟩
      obtain ⟨c2, rfl, g1, l1⟩ := gridO q
      have o5 := g1.one
      refine Da ?_
      refine Ym fun f AF g3 => ?_
      have o7 := g3.one
      refine Da ?_
      refine Yl fun b5 => ?_
      refine Da ?_
      refine Ae ?_
      repeat first | refine R1 ?_ | refine R2 fun _ => ?_
      refine sf_keep [2, 4, 5, 6] ?_
      refine sf_own ((b5, .cells #[.int .i64 g.wide, c2, l, f] 167) :: (AC ++ (AL ++ (AF ++ [(b2, .cells #[.int .i64 0, .slice none 0 0, .slice none 0 0, .slice none 0 0] 167), (b1, .cells #[.int .i64 g.wide, c] 34)])))) ?_
      exact tail.out c2 l f AC AL AF b5 g1 g2 g3
    case' refine_14 =>
      refine Sr [[],[0,2,3],[],[2],[],[0,1,2,3,4,7],[0,1,2,3,4,5,7],[0,1,2,3],[0,1,2,3,4,5,6,7]] 8 [Nn 0,Nn 2,Nn 4,Yy 3,Yy 1,Yy 7,Yy 5,Nn 6] ?_
      refine Da ?_
      refine Ym fun l AL g2 => ?_
      have o6 := g2.one
      refine Da ?_
      refine Yc (l1Copy_f (M := M) _ _ g (gridB_mk s) (by omega)) ?_
      rintro _ AC ⟨_, rfl, q⟩
      obtain ⟨c2, rfl, g1, l1⟩ := gridO q
      have o5 := g1.one
      refine Da ?_
      refine Yl fun b5 => ?_
      refine Da ?_
      refine Ym fun f AF g3 => ?_
      have o7 := g3.one
      refine Da ?_
      refine Ae ?_
      repeat first | refine R1 ?_ | refine R2 fun _ => ?_
      refine sf_keep [2, 4, 5, 6] ?_
      refine sf_own ((b5, .cells #[.int .i64 g.wide, c2, l, f] 167) :: (AC ++ (AL ++ (AF ++ [(b2, .cells #[.int .i64 0, .slice none 0 0, .slice none 0 0, .slice none 0 0] 167), (b1, .cells #[.int .i64 g.wide, c] 34)])))) ?_
      exact tail.out c2 l f AC AL AF b5 g1 g2 g3
    case' refine_15 =>
      refine Sr [[],[0,2,3,7],[],[2],[],[0,1,2,3,4,7],[0,1,2,3,4,5,7],[2,3],[0,1,2,3,4,5,6,7]] 8 [Nn 0,Nn 2,Nn 4,Yy 3,Yy 7,Yy 1,Yy 5,Nn 6] ?_
      refine Da ?_
      refine Ym fun l AL g2 => ?_
      have o6 := g2.one
      refine Da ?_
      refine Yl fun b5 => ?_
      refine Da ?_
      refine Yc (l1Copy_f (M := M) _ _ g (gridB_mk s) (by omega)) ?_
      rintro _ AC ⟨_, rfl, q⟩
      obtain ⟨c2, rfl, g1, l1⟩ := gridO q
      have o5 := g1.one
      refine Da ?_
      refine Ym fun f AF g3 => ?_
      have o7 := g3.one
      refine Da ?_
      refine Ae ?_
      repeat first | refine R1 ?_ | refine R2 fun _ => ?_
      refine sf_keep [2, 4, 5, 6] ?_
      refine sf_own ((b5, .cells #[.int .i64 g.wide, c2, l, f] 167) :: (AC ++ (AL ++ (AF ++ [(b2, .cells #[.int .i64 0, .slice none 0 0, .slice none 0 0, .slice none 0 0] 167), (b1, .cells #[.int .i64 g.wide, c] 34)])))) ?_
      exact tail.out c2 l f AC AL AF b5 g1 g2 g3
    case' refine_16 =>
      refine Sr [[],[0,2,3,7],[],[2,7],[],[0,1,2,3,4,7],[0,1,2,3,4,5,7],[],[0,1,2,3,4,5,6,7]] 8 [Nn 0,Nn 2,Nn 4,Yy 7,Yy 3,Yy 1,Yy 5,Nn 6] ?_
      refine Da ?_
      refine Yl fun b5 => ?_
      refine Da ?_
      refine Ym fun l AL g2 => ?_
      have o6 := g2.one
      refine Da ?_
      refine Yc (l1Copy_f (M := M) _ _ g (gridB_mk s) (by omega)) ?_
      rintro _ AC ⟨_, rfl, q⟩
      obtain ⟨c2, rfl, g1, l1⟩ := gridO q
      have o5 := g1.one
      refine Da ?_
      refine Ym fun f AF g3 => ?_
      have o7 := g3.one
      refine Da ?_
      refine Ae ?_
      repeat first | refine R1 ?_ | refine R2 fun _ => ?_
      refine sf_keep [2, 4, 5, 6] ?_
      refine sf_own ((b5, .cells #[.int .i64 g.wide, c2, l, f] 167) :: (AC ++ (AL ++ (AF ++ [(b2, .cells #[.int .i64 0, .slice none 0 0, .slice none 0 0, .slice none 0 0] 167), (b1, .cells #[.int .i64 g.wide, c] 34)])))) ?_
      exact tail.out c2 l f AC AL AF b5 g1 g2 g3
    case' refine_17 =>
      refine Sr [[],[0,2,3,4,5],[],[2],[],[2,3,4],[0,1,2,3,4,5],[0,1,2,3,4,5],[0,1,2,3,4,5,6,7]] 8 [Nn 0,Nn 2,Nn 4,Yy 3,Yy 5,Yy 1,Nn 6,Yy 7] ?_
      refine Da ?_
      refine Ym fun l AL g2 => ?_
      have o6 := g2.one
      refine Da ?_
      refine Ym fun f AF g3 => ?_
      have o7 := g3.one
      refine Da ?_
      refine Yc (l1Copy_f (M := M) _ _ g (gridB_mk s) (by omega)) ?_
      rintro _ AC ⟨_, rfl, q⟩
      obtain ⟨c2, rfl, g1, l1⟩ := gridO q
      have o5 := g1.one
      refine Da ?_
      refine Yl fun b5 => ?_
      refine Da ?_
      refine Ae ?_
      repeat first | refine R1 ?_ | refine R2 fun _ => ?_
      refine sf_keep [2, 4, 5, 6] ?_
      refine sf_own ((b5, .cells #[.int .i64 g.wide, c2, l, f] 167) :: (AC ++ (AL ++ (AF ++ [(b2, .cells #[.int .i64 0, .slice none 0 0, .slice none 0 0, .slice none 0 0] 167), (b1, .cells #[.int .i64 g.wide, c] 34)])))) ?_
      exact tail.out c2 l f AC AL AF b5 g1 g2 g3
    case' refine_18 =>
      refine Sr [[],[0,2,3,4,5],[],[2,4,5],[],[4],[0,1,2,3,4,5],[0,1,2,3,4,5],[0,1,2,3,4,5,6,7]] 8 [Nn 0,Nn 2,Nn 4,Yy 5,Yy 3,Yy 1,Nn 6,Yy 7] ?_
      refine Da ?_
      refine Ym fun f AF g3 => ?_
      have o7 := g3.one
      refine Da ?_
      refine Ym fun l AL g2 => ?_
      have o6 := g2.one
      refine Da ?_
      refine Yc (l1Copy_f (M := M) _ _ g (gridB_mk s) (by omega)) ?_
      rintro _ AC ⟨_, rfl, q⟩
      obtain ⟨c2, rfl, g1, l1⟩ := gridO q
      have o5 := g1.one
      refine Da ?_
      refine Yl fun b5 => ?_
      refine Da ?_
      refine Ae ?_
      repeat first | refine R1 ?_ | refine R2 fun _ => ?_
      refine sf_keep [2, 4, 5, 6] ?_
      refine sf_own ((b5, .cells #[.int .i64 g.wide, c2, l, f] 167) :: (AC ++ (AL ++ (AF ++ [(b2, .cells #[.int .i64 0, .slice none 0 0, .slice none 0 0, .slice none 0 0] 167), (b1, .cells #[.int .i64 g.wide, c] 34)])))) ?_
      exact tail.out c2 l f AC AL AF b5 g1 g2 g3
    case' refine_19 =>
      refine Sr [[],[0,2,3,4,5,7],[],[2],[],[2,3,4],[0,1,2,3,4,5,7],[2,3,4,5],[0,1,2,3,4,5,6,7]] 8 [Nn 0,Nn 2,Nn 4,Yy 3,Yy 5,Yy 7,Yy 1,Nn 6] ?_
      refine Da ?_
      refine Ym fun l AL g2 => ?_
      have o6 := g2.one
      refine Da ?_
      refine Ym fun f AF g3 => ?_
      have o7 := g3.one
      refine Da ?_
      refine Yl fun b5 => ?_
      refine Da ?_
      refine Yc (l1Copy_f (M := M) _ _ g (gridB_mk s) (by omega)) ?_
      rintro _ AC ⟨_, rfl, q⟩
      obtain ⟨c2, rfl, g1, l1⟩ := gridO q
      have o5 := g1.one
      refine Da ?_
      refine Ae ?_
      repeat first | refine R1 ?_ | refine R2 fun _ => ?_
      refine sf_keep [2, 4, 5, 6] ?_
      refine sf_own ((b5, .cells #[.int .i64 g.wide, c2, l, f] 167) :: (AC ++ (AL ++ (AF ++ [(b2, .cells #[.int .i64 0, .slice none 0 0, .slice none 0 0, .slice none 0 0] 167), (b1, .cells #[.int .i64 g.wide, c] 34)])))) ?_
      exact tail.out c2 l f AC AL AF b5 g1 g2 g3
    case' refine_20 =>
      refine Sr [[],[0,2,3,4,5,7],[],[2],[],[2,3,4,7],[0,1,2,3,4,5,7],[2,3],[0,1,2,3,4,5,6,7]] 8 [Nn 0,Nn 2,Nn 4,Yy 3,Yy 7,Yy 5,Yy 1,Nn 6] ?_
      refine Da ?_
      refine Ym fun l AL g2 => ?_
      have o6 := g2.one
      refine Da ?_
      refine Yl fun b5 => ?_
      refine Da ?_
      refine Ym fun f AF g3 => ?_
      have o7 := g3.one
      refine Da ?_
      refine Yc (l1Copy_f (M := M) _ _ g (gridB_mk s) (by omega)) ?_
      rintro _ AC ⟨_, rfl, q⟩
      obtain ⟨c2, rfl, g1, l1⟩ := gridO q
      have o5 := g1.one
      refine Da ?_
      refine Ae ?_
      repeat first | refine R1 ?_ | refine R2 fun _ => ?_
      refine sf_keep [2, 4, 5, 6] ?_
      refine sf_own ((b5, .cells #[.int .i64 g.wide, c2, l, f] 167) :: (AC ++ (AL ++ (AF ++ [(b2, .cells #[.int .i64 0, .slice none 0 0, .slice none 0 0, .slice none 0 0] 167), (b1, .cells #[.int .i64 g.wide, c] 34)])))) ?_
      exact tail.out c2 l f AC AL AF b5 g1 g2 g3
    case' refine_21 =>
      refine Sr [[],[0,2,3,4,5,7],[],[2,7],[],[2,3,4,7],[0,1,2,3,4,5,7],[],[0,1,2,3,4,5,6,7]] 8 [Nn 0,Nn 2,Nn 4,Yy 7,Yy 3,Yy 5,Yy 1,Nn 6] ?_
      refine Da ?_
      refine Yl fun b5 => ?_
      refine Da ?_
      refine Ym fun l AL g2 => ?_
      have o6 := g2.one
      refine Da ?_
      refine Ym fun f AF g3 => ?_
      have o7 := g3.one
      refine Da ?_
      refine Yc (l1Copy_f (M := M) _ _ g (gridB_mk s) (by omega)) ?_
      rintro _ AC ⟨_, rfl, q⟩
      obtain ⟨c2, rfl, g1, l1⟩ := gridO q
      have o5 := g1.one
      refine Da ?_
      refine Ae ?_
      repeat first | refine R1 ?_ | refine R2 fun _ => ?_
      refine sf_keep [2, 4, 5, 6] ?_
      refine sf_own ((b5, .cells #[.int .i64 g.wide, c2, l, f] 167) :: (AC ++ (AL ++ (AF ++ [(b2, .cells #[.int .i64 0, .slice none 0 0, .slice none 0 0, .slice none 0 0] 167), (b1, .cells #[.int .i64 g.wide, c] 34)])))) ?_
      exact tail.out c2 l f AC AL AF b5 g1 g2 g3
    case' refine_22 =>
      refine Sr [[],[0,2,3,4,5,7],[],[2,4,5],[],[4],[0,1,2,3,4,5,7],[2,3,4,5],[0,1,2,3,4,5,6,7]] 8 [Nn 0,Nn 2,Nn 4,Yy 5,Yy 3,Yy 7,Yy 1,Nn 6] ?_
      refine Da ?_
      refine Ym fun f AF g3 => ?_
      have o7 := g3.one
      refine Da ?_
      refine Ym fun l AL g2 => ?_
      have o6 := g2.one
      refine Da ?_
      refine Yl fun b5 => ?_
      refine Da ?_
      refine Yc (l1Copy_f (M := M) _ _ g (gridB_mk s) (by omega)) ?_
      rintro _ AC ⟨_, rfl, q⟩
      obtain ⟨c2, rfl, g1, l1⟩ := gridO q
      have o5 := g1.one
      refine Da ?_
      refine Ae ?_
      repeat first | refine R1 ?_ | refine R2 fun _ => ?_
      refine sf_keep [2, 4, 5, 6] ?_
      refine sf_own ((b5, .cells #[.int .i64 g.wide, c2, l, f] 167) :: (AC ++ (AL ++ (AF ++ [(b2, .cells #[.int .i64 0, .slice none 0 0, .slice none 0 0, .slice none 0 0] 167), (b1, .cells #[.int .i64 g.wide, c] 34)])))) ?_
      exact tail.out c2 l f AC AL AF b5 g1 g2 g3
    case' refine_23 =>
      refine Sr [[],[0,2,3,4,5,7],[],[2,4,5,7],[],[4],[0,1,2,3,4,5,7],[4,5],[0,1,2,3,4,5,6,7]] 8 [Nn 0,Nn 2,Nn 4,Yy 5,Yy 7,Yy 3,Yy 1,Nn 6] ?_
      refine Da ?_
      refine Ym fun f AF g3 => ?_
      have o7 := g3.one
      refine Da ?_
      refine Yl fun b5 => ?_
      refine Da ?_
      refine Ym fun l AL g2 => ?_
      have o6 := g2.one
      refine Da ?_
      refine Yc (l1Copy_f (M := M) _ _ g (gridB_mk s) (by omega)) ?_
      rintro _ AC ⟨_, rfl, q⟩
      obtain ⟨c2, rfl, g1, l1⟩ := gridO q
      have o5 := g1.one
      refine Da ?_
      refine Ae ?_
      repeat first | refine R1 ?_ | refine R2 fun _ => ?_
      refine sf_keep [2, 4, 5, 6] ?_
      refine sf_own ((b5, .cells #[.int .i64 g.wide, c2, l, f] 167) :: (AC ++ (AL ++ (AF ++ [(b2, .cells #[.int .i64 0, .slice none 0 0, .slice none 0 0, .slice none 0 0] 167), (b1, .cells #[.int .i64 g.wide, c] 34)])))) ?_
      exact tail.out c2 l f AC AL AF b5 g1 g2 g3
    case' refine_24 =>
      refine Sr [[],[0,2,3,4,5,7],[],[2,4,5,7],[],[4,7],[0,1,2,3,4,5,7],[],[0,1,2,3,4,5,6,7]] 8 [Nn 0,Nn 2,Nn 4,Yy 7,Yy 5,Yy 3,Yy 1,Nn 6] ?_
      refine Da ?_
      refine Yl fun b5 => ?_
      refine Da ?_
      refine Ym fun f AF g3 => ?_
      have o7 := g3.one
      refine Da ?_
      refine Ym fun l AL g2 => ?_
      have o6 := g2.one
      refine Da ?_
      refine Yc (l1Copy_f (M := M) _ _ g (gridB_mk s) (by omega)) ?_
      rintro _ AC ⟨_, rfl, q⟩
      obtain ⟨c2, rfl, g1, l1⟩ := gridO q
      have o5 := g1.one
      refine Da ?_
      refine Ae ?_
      repeat first | refine R1 ?_ | refine R2 fun _ => ?_
      refine sf_keep [2, 4, 5, 6] ?_
      refine sf_own ((b5, .cells #[.int .i64 g.wide, c2, l, f] 167) :: (AC ++ (AL ++ (AF ++ [(b2, .cells #[.int .i64 0, .slice none 0 0, .slice none 0 0, .slice none 0 0] 167), (b1, .cells #[.int .i64 g.wide, c] 34)])))) ?_
      exact tail.out c2 l f AC AL AF b5 g1 g2 g3
  intro c2 l f AC AL AF b5 g1 g2 g3
  have o5 := g1.one
  have o6 := g2.one
  have o7 := g3.one
  repeat first | refine R1 ?_ | refine R2 fun _ => ?_
  refine sf_lp (ι := Nat) [2, 4, 5] (fun k => [(6, .int .i64 (k : Int))]) (fun k O => k ≤ N ∧ ∃ A2 A3, O = (b5, .cells #[.int .i64 g.wide, c2, l, f] 167) :: (AC ++ (A2 ++ A3 ++ [(b2, .cells #[.int .i64 0, .slice none 0 0, .slice none 0 0, .slice none 0 0] 167), (b1, .cells #[.int .i64 g.wide, c] 34)])) ∧ Gr A2 l 3 intF ((picOf g).take k ++ List.replicate ((picOf g).length - k) 0) ∧ GrR (intSR τ) A3 f 70 ((feetOf g).take k ++ List.replicate ((feetOf g).length - k) [])) (fun k => N - k) 0 ((b5, .cells #[.int .i64 g.wide, c2, l, f] 167) :: (AC ++ (AL ++ AF ++ [(b2, .cells #[.int .i64 0, .slice none 0 0, .slice none 0 0, .slice none 0 0] 167), (b1, .cells #[.int .i64 g.wide, c] 34)]))) ⟨by omega, AL, AF, rfl, by rw [lp]; simpa using g2, AF, [], by simp, _, g3, by rw [lf]; simpa using nils_all N, by simp; omega⟩ ?_
  rintro k O ⟨hk, A2, A3, rfl, ga, gb⟩
  repeat first | refine R1 ?_ | refine R2 fun _ => ?_
  refine sf_if (fun h4 => ?_) fun h4 => ?_
  · have hk4 : k < N := by omega
    repeat first | refine R1 ?_ | refine R2 fun _ => ?_
    refine fp (y_lend AC (fun h' _ i => l13Look_f (M := M) h' c2 g (g1.lent (by omega) i) e l f A2 A3 _ _ ga gb k (by omega) (by simp; omega) (by simp; omega)) (by rfl) ?_)
    rintro _ _ ⟨A5, A6, rfl, rfl, ga2, gb2⟩
    rw [← picOf_at (g := g) (k := k) (by omega), set_step (by omega)] at ga2
    rw [← feetOf_at (g := g) (k := k) (by omega), scene_step (by omega)] at gb2
    repeat first | refine R1 ?_ | refine R2 fun _ => ?_
    exact ⟨k + 1, by omega, ⟨rfl, trivial⟩, rfl, (b5, .cells #[.int .i64 g.wide, c2, l, f] 167) :: (AC ++ (A5 ++ A6 ++ [(b2, .cells #[.int .i64 0, .slice none 0 0, .slice none 0 0, .slice none 0 0] 167), (b1, .cells #[.int .i64 g.wide, c] 34)])), _, inferInstance, by omega, A5, A6, rfl, ga2, gb2⟩
  · refine sf_exit ?_
    obtain rfl : k = N := by omega
    rw [lp, List.take_of_length_le (by omega), Nat.sub_self, List.replicate_zero, List.append_nil] at ga
    rw [lf, List.take_of_length_le (by omega), Nat.sub_self, List.replicate_zero, List.append_nil] at gb
    repeat first | refine R1 ?_ | refine R2 fun _ => ?_
    exact sf_ret (rO (AC ++ (A2 ++ A3)) ⟨_, rfl, sceneO_mk (s := sceneOf g) g1 (by simp only [sceneOf]; omega) ga (by simp only [sceneOf]; omega) gb⟩)
theorem sSceneOk_v (h : PHeap) (ca : List Value) (s : Scene) (b : (sceneR τ).B h ca s) : CallV Tryz.prog M 176 [.agg ca.toArray] h (.bool (sceneOk s)) := by
  obtain ⟨c, l, f, rfl, s1, s2, s3⟩ := sceneB b
  have o1 := s1.one
  have o2 := s2.one
  have o3 := s3.one
  refine Cs Tryz.func176 Tryz.ntmps176 ?_
  repeat first | refine R1 ?_ | refine R2 fun _ => ?_
  refine fp (y_call (sSceneNew_f (M := M) _ _ s.grid (gridB_mk s1)) (by rfl) ?_)
  rintro _ A1 ⟨cs, rfl, q⟩
  have q0 := q
  obtain ⟨c2, l2, f2, X1, X2, X3, rfl, rfl, ⟨g1, k1⟩, ⟨g2, k2⟩, g3⟩ := sceneO q
  have o4 := g1.one
  have o5 := g2.one
  have o6 := g3.one
  by_cases e : gridOk s.grid = true
  · have en : sceneNew s.grid = (sceneOf s.grid, true) := by rw [sceneNew, if_pos e]
    have ew : (sceneOf s.grid, true).1.grid.wide = s.grid.wide := rfl
    rw [en, ew]
    rw [en] at q0 g1 g2 g3 k2
    simp only at q0 g1 g2 g3 k2
    have hsc : sceneOk s = (decide (picOf s.grid = s.lights) && decide (feetOf s.grid = s.feet)) := by
      rw [sceneOk, e]
      obtain ⟨gg, ll, ff⟩ := s
      simp only [sceneOf, Scene.mk.injEq, true_and, Bool.true_and]
      by_cases h1 : picOf gg = ll <;> by_cases h2 : feetOf gg = ff
      · simp [h1, h2]
      · have : ¬ ff = feetOf gg := fun e => h2 e.symm
        simp [h2, this]
      · have : ¬ ll = picOf gg := fun e => h1 e.symm
        simp [h1, this]
      · have : ¬ ll = picOf gg := fun e => h1 e.symm
        simp [h1, this]
    rw [hsc]
    obtain ⟨F0, F1, rfl, rs, gr, oa, hb⟩ := g3
    obtain ⟨rx, s3, bx⟩ := s3
    have lr := oa.len
    have lx := bx.len
    have hrl := s3.small
    simp only [sceneOf] at k2 lr hb oa
    repeat first | refine R1 ?_ | refine R2 fun _ => ?_
    refine fp (y_lendV X2 (fun h' l i => l13Same_v (M := M) h' _ _ _ s.lights (g2.lent k2 i) (s2.le l.le)) (by rfl) ?_)
    by_cases h1' : picOf s.grid = s.lights
    rotate_left
    · have h1 : decide ((sceneOf s.grid).lights = s.lights) = false := decide_eq_false h1'
      rw [h1]
      repeat first | refine R1 ?_ | refine R2 fun _ => ?_
      refine sf_T rfl ?_
      repeat first | refine R1 ?_ | refine R2 fun _ => ?_
      refine sf_ret (rV ?_)
      simp [h1']
    have h1 : decide ((sceneOf s.grid).lights = s.lights) = true := decide_eq_true h1'
    rw [h1]
    repeat first | refine R1 ?_ | refine R2 fun _ => ?_
    refine sf_if (fun h2 => ?_) fun h2 => ?_
    · have h2' : ¬ feetOf s.grid = s.feet := fun e => h2 (by rw [lr, lx, e])
      repeat first | refine R1 ?_ | refine R2 fun _ => ?_
      refine sf_ret (rV ?_)
      simp [h2']
    have hl : (feetOf s.grid).length = s.feet.length := by omega
    repeat first | refine R1 ?_ | refine R2 fun _ => ?_
    rename_i b1 b3
    refine sf_lp (ι := Nat) [1, 3] (fun k => [(5, .int .i64 (k : Int))]) (fun k O => k ≤ s.feet.length ∧ O = (b3, .cells #[.int .i64 s.grid.wide, c2, l2, f2] 167) :: (X1 ++ (X2 ++ (F0 ++ F1)) ++ [(b1, .cells #[.int .i64 s.grid.wide, c, l, f] 167)]) ∧ (feetOf s.grid).take k = s.feet.take k) (fun k => s.feet.length - k) 0 ((b3, .cells #[.int .i64 s.grid.wide, c2, l2, f2] 167) :: (X1 ++ (X2 ++ (F0 ++ F1)) ++ [(b1, .cells #[.int .i64 s.grid.wide, c, l, f] 167)])) ⟨by omega, rfl, rfl⟩ ?_
    rintro k O ⟨hk, rfl, hi⟩
    repeat first | refine R1 ?_ | refine R2 fun _ => ?_
    refine sf_if (fun h4 => ?_) fun h4 => ?_
    · have hk4 : k < (feetOf s.grid).length := by omega
      have hk5 : k < s.feet.length := by omega
      have hk6 : k < rs.length := by omega
      have hk7 : k < rx.length := by omega
      obtain ⟨B1, Bk, B2, rfl, ⟨w, ew, gw, lw⟩, -⟩ := oa.at hk4
      obtain ⟨vx, ex, sx4⟩ := bx.at hk5
      haveI : FlatV (rawF (intSR τ).sz) (gt rs k) [w] := ⟨ew⟩
      haveI : FlatV (rawF (intSR τ).sz) (gt rx k) [vx] := ⟨ex⟩
      have o7 := gw.one
      have o8 := sx4.one
      repeat first | refine R1 ?_ | refine R2 fun _ => ?_
      refine Sd [[],[0],[],[0,1,2],[0,1,2,3],[],[5],[],[5,6,7],[5,6,7,8],[0,1,2,3,4,5,6,7,8,9],[0,1,2,3,4,5,6,7,8,9,10]] 10 [Nn 0,Nn 1,Nn 2,Nn 3,Nn 4,Nn 5,Nn 6,Nn 7,Nn 8,Nn 9] ?_
      refine Da ?_
      refine Ae ?_
      refine fp (y_lendV Bk (fun h' l i => l13Same_v (M := M) h' _ _ _ _ (gw.lent lw i) (sx4.le l.le)) (by rfl) ?_)
      repeat first | refine R1 ?_ | refine R2 fun _ => ?_
      refine sf_ifn (fun h5 => ?_) fun h5 => ?_
      · have h5' : ¬ feetOf s.grid = s.feet := fun e => h5 (by rw [e])
        repeat first | refine R1 ?_ | refine R2 fun _ => ?_
        refine sf_ret (rV ?_)
        simp [h5']
      · repeat first | refine R1 ?_ | refine R2 fun _ => ?_
        exact ⟨k + 1, by omega, ⟨rfl, trivial⟩, rfl, _, _, inferInstance, by omega, rfl, eq_step hk4 hk5 hi h5⟩
    · refine sf_exit ?_
      repeat first | refine R1 ?_ | refine R2 fun _ => ?_
      refine sf_ret (rV ?_)
      rw [eq_end hl (by omega) hi, h1']
      simp
  · have en : sceneNew s.grid = (noScene, false) := by rw [sceneNew, if_neg e]
    rw [en]
    repeat first | refine R1 ?_ | refine R2 fun _ => ?_
    refine sf_T (by rfl) ?_
    repeat first | refine R1 ?_ | refine R2 fun _ => ?_
    refine sf_ret (rV ?_)
    simp [sceneOk, e]
theorem sPaintOk_v (h : PHeap) (ca : List Value) (p : Painter) (b : (painterR τ).B h ca p) : CallV Tryz.prog M 122 [.agg ca.toArray] h (.bool (paintOk p)) := by
  obtain ⟨c, l, f, rfl, s1, s2, s3⟩ := painterB b
  have o1 := s1.one
  have o2 := s2.one
  have o3 := s3.one
  have bs : (sceneR τ).B h [.int .i64 p.scene.grid.wide, c, l, f] p.scene := sceneB_mk s1 s2 s3
  refine Cs Tryz.func122 Tryz.ntmps122 ?_
  repeat first | refine R1 ?_ | refine R2 fun _ => ?_
  refine sf_cond (by rfl) (fun e1 => ?_) fun e1 => ?_
  · simp only [Bool.not_eq_true'] at e1
    have ep : paintOk p = (decide (p.ver = 0) && decide (p.scene = noScene)) := by rw [paintOk, if_neg (by rw [e1]; decide)]
    rw [ep]
    repeat first | refine R1 ?_ | refine R2 fun _ => ?_
    refine f_split (fun e2 => ?_) fun e2 => ?_
    · repeat first | refine R1 ?_ | refine R2 fun _ => ?_
      refine Xv (l21None_v (M := M) _ _ p.scene bs) ?_
      repeat first | refine R1 ?_ | refine R2 fun _ => ?_
      refine sf_ret (rV ?_)
      simp [e2]
    · repeat first | refine R1 ?_ | refine R2 fun _ => ?_
      refine sf_ret (rV ?_)
      simp [e2]
  · simp only [Bool.not_eq_false'] at e1
    have ep : paintOk p = (p.up && (decide (0 ≤ p.ver) && decide (p.ver ≤ 60)) && sceneOk p.scene) := by rw [paintOk, if_pos e1]
    rw [ep]
    repeat first | refine R1 ?_ | refine R2 fun _ => ?_
    refine f_splitB (fun e2 => ?_) fun e2 => ?_
    · repeat first | refine R1 ?_ | refine R2 fun _ => ?_
      refine Xv (l6In_v _ _ _ _) ?_
      repeat first | refine R1 ?_ | refine R2 fun _ => ?_
      refine f_splitB (fun e3 => ?_) fun e3 => ?_
      · repeat first | refine R1 ?_ | refine R2 fun _ => ?_
        refine Xv (sSceneOk_v (M := M) _ _ p.scene bs) ?_
        repeat first | refine R1 ?_ | refine R2 fun _ => ?_
        refine sf_ret (rV ?_)
        rw [e2, e3]; rfl
      · repeat first | refine R1 ?_ | refine R2 fun _ => ?_
        refine sf_ret (rV ?_)
        rw [e2, e3]; rfl
    · repeat first | refine R1 ?_ | refine R2 fun _ => ?_
      refine sf_ret (rV ?_)
      rw [e2]; rfl
instance eqFl_cell_VA : EqFl Tryz.prog 67 cellF := eqFl_cell inferInstance (inferInstance : Ty Tryz.prog 3 _ 1 _ _) (by kernel_rfl)
instance eqFl_edit_VA : EqFl Tryz.prog 69 editF := eqFl_edit inferInstance (inferInstance : Ty Tryz.prog 3 _ 1 _ _) (inferInstance : Ty Tryz.prog 67 _ 2 _ _) (by kernel_rfl) (by kernel_rfl)
theorem l31SameGrid_v (h : PHeap) (ca cb : List Value) (x y : Grid) (bx : (gridR τ).B h ca x) (by' : (gridR τ).B h cb y) : CallV Tryz.prog M 123 [.agg ca.toArray, .agg cb.toArray] h (.bool (decide (x = y))) := by
  obtain ⟨c1, rfl, s1⟩ := gridB bx
  obtain ⟨c2, rfl, s2⟩ := gridB by'
  have o1 := s1.one
  have o2 := s2.one
  have hs := s1.small
  have hs2 := s2.small
  refine Cs Tryz.func123 Tryz.ntmps123 ?_
  repeat first | refine R1 ?_ | refine R2 fun _ => ?_
  refine f_split (fun h1 => ?_) fun h1 => ?_
  · repeat first | refine R1 ?_ | refine R2 fun _ => ?_
    refine sf_cond (by rfl) (fun e => ?_) fun e => ?_
    · repeat first | refine R1 ?_ | refine R2 fun _ => ?_
      exact sf_ret (rV (bF fun e => h1 (by rw [e])))
    · simp [h1] at e
  repeat first | refine R1 ?_ | refine R2 fun _ => ?_
  refine sf_cond (by rfl) (fun e => ?_) fun e => ?_
  · have h2 : ¬ x.cells.length = y.cells.length := by simp [h1] at e; omega
    repeat first | refine R1 ?_ | refine R2 fun _ => ?_
    exact sf_ret (rV (bF fun e => h2 (by rw [e])))
  have h1' : x.wide = y.wide := by omega
  have hl : x.cells.length = y.cells.length := by simp [h1] at e; omega
  repeat first | refine R1 ?_ | refine R2 fun _ => ?_
  refine sf_rd [2, 3] 5 x.cells.length 0 (fun k => x.cells.take k = y.cells.take k) (by omega) rfl (fun k hk hi => ?_)
  repeat first | refine R1 ?_ | refine R2 fun _ => ?_
  refine sf_if (fun h4 => ?_) fun h4 => ?_
  · have hk4 : k < x.cells.length := by omega
    have hk5 : k < y.cells.length := by omega
    repeat first | refine R1 ?_ | refine R2 fun _ => ?_
    refine Sd [[],[0],[],[0,1,2],[0,1,2,3],[],[5],[],[5,6,7],[5,6,7,8],[0,1,2,3,4,5,6,7,8,9]] 10 [Nn 0,Nn 1,Nn 2,Nn 3,Nn 4,Nn 5,Nn 6,Nn 7,Nn 8,Nn 9] ?_
    refine Da ?_
    refine Ae ?_
    refine fp (Rq ?_ (q_neqS (E := cellF) (a := gt x.cells k) (b := gt y.cells k) inferInstance (by rfl) (by rfl)))
    repeat first | refine R1 ?_ | refine R2 fun _ => ?_
    refine sf_ifn (fun h5 => ?_) fun h5 => ?_
    · repeat first | refine R1 ?_ | refine R2 fun _ => ?_
      exact sf_ret (rV (bF fun e => h5 (by rw [e])))
    · repeat first | refine R1 ?_ | refine R2 fun _ => ?_
      exact ⟨⟨hk4, eq_step hk4 hk5 hi h5⟩, rfl, rfl, _, inferInstance⟩
  · refine sf_exit ?_
    repeat first | refine R1 ?_ | refine R2 fun _ => ?_
    refine sf_ret (rV (bT ?_))
    have := eq_end hl (by omega) hi
    obtain ⟨w1, c1⟩ := x
    obtain ⟨w2, c2⟩ := y
    simp only at h1' this
    rw [h1', this]
theorem l31NoGrid_v (h : PHeap) (cb : List Value) (w : Word) (bw : (wordR τ).B h cb w) : CallV Tryz.prog M 177 [.agg cb.toArray] h (.bool (decide (w.grid = noGrid))) := by
  obtain ⟨wc, wl, ecb, sw1, sw2⟩ := wordB bw
  have ecb' : cb = [.int .i64 w.kind, .int .i64 w.to, .int .i64 w.frm, .int .i64 w.ver, .int .i64 w.grid.wide, wc, .int .i64 w.edit.at', .int .i64 w.edit.cell.kind, .int .i64 w.edit.cell.light, wl] := ecb
  subst ecb'
  clear ecb bw
  have o1 := sw1.one
  have o2 := sw2.one
  have key : decide (w.grid = noGrid) = (decide (w.grid.wide = 0) && decide ((w.grid.cells.length : Int) = 0)) := by
    obtain ⟨g, cs⟩ := w.grid
    by_cases h1 : g = 0 <;> by_cases h2 : cs = [] <;> simp [noGrid, h1, h2]
  rw [key]
  refine Cs Tryz.func177 Tryz.ntmps177 ?_
  repeat first | refine R1 ?_ | refine R2 fun _ => ?_
  refine f_split (fun h1 => ?_) fun h1 => ?_
  · repeat first | refine R1 ?_ | refine R2 fun _ => ?_
    refine sf_ret (rV ?_)
    simp [h1]
  · repeat first | refine R1 ?_ | refine R2 fun _ => ?_
    refine sf_ret (rV ?_)
    simp [h1]
theorem l31Word_v (h : PHeap) (ca cb : List Value) (w : World') (x : Word) (b : (worldR τ).B h ca w) (bx : (wordR τ).B h cb x) (hk : HeadOk w.keeper) (hn : w.painters.length = w.keeper.parts.length) : CallV Tryz.prog M 124 [.agg ca.toArray, .agg cb.toArray] h (.bool (wordTrue w.keeper x)) := by
  obtain ⟨c, ed, pt, s, ps, ns, rfl, s1, s2, s3, s4, s5, s6⟩ := worldB b
  have b0 : (keeperR τ).B h [.int .i64 w.keeper.first.wide, c, ed, pt, s] w.keeper := keeperB_mk s1 s2 s3 s4
  have bx0 := bx
  obtain ⟨wc, wl, ecb, t1, t2⟩ := wordB bx
  have ecb' : cb = [.int .i64 x.kind, .int .i64 x.to, .int .i64 x.frm, .int .i64 x.ver, .int .i64 x.grid.wide, wc, .int .i64 x.edit.at', .int .i64 x.edit.cell.kind, .int .i64 x.edit.cell.light, wl] := ecb
  subst ecb'
  clear ecb bx
  have o1 := s1.one
  have o2 := s2.one
  have o3 := s3.one
  have o4 := s4.one
  have o5 := s5.one
  have o6 := s6.one
  have o7 := t1.one
  have o8 := t2.one
  obtain ⟨rp, s5, bp⟩ := s5
  have lp := bp.len
  have e60 := hk.e60
  have n1 := hk.n1
  have n3 := hk.n3
  have id1 : ∀ z : Int, idOk z w.keeper.parts.length = (decide (1 ≤ z) && decide (z ≤ (rp.length : Int))) := fun z => by
    simp only [idOk, lp, hn]
    rw [decide_eq_true (by omega : (1 : Int) ≤ (w.keeper.parts.length : Int)), decide_eq_true (by omega : (w.keeper.parts.length : Int) ≤ 3)]
    simp
  refine Cs Tryz.func124 Tryz.ntmps124 ?_
  repeat first | refine R1 ?_ | refine R2 fun _ => ?_
  refine sf_if (fun e1 => ?_) fun e1 => ?_
  · have q1 := l6In_v (M := M) h x.to 1 rp.length
    have q2 := l6In_v (M := M) h x.ver 0 w.keeper.edits.length
    rw [← id1] at q1
    rw [show (decide (0 ≤ x.ver) && decide (x.ver ≤ (w.keeper.edits.length : Int))) = verOk w.keeper x.ver from rfl] at q2
    rw [wordTrue1 e1]
    generalize hb1 : idOk x.to w.keeper.parts.length = b1 at q1 ⊢
    repeat first | refine R1 ?_ | refine R2 fun _ => ?_
    by_cases hA : b1 = true ∧ x.frm = 0 ∧ x.edit = noEdit ∧ x.lights.length = 0
    · obtain ⟨rfl, h2, h3, h4⟩ := hA
      have h4' : (x.lights.length : Int) = 0 := by omega
      have h5 : x.lights = [] := List.length_eq_zero_iff.1 h4
      by_cases hv : verOk w.keeper x.ver = true
      · rw [hv] at q2 ⊢
        refine Sd [[],[0],[],[0,1,2],[0,1,2,3],[0,1,2,3,4],[0,1,2,3,4,5],[0,1,2,3,4,5,6],[0,1,2,3,4,5,6,7],[0,1,2,3,4,5,6,7,8],[0,1,2,3,4,5,6,7,8,9],[0,1,2,3,4,5,6,7,8,9,10],[0,1,2,3,4,5,6,7,8,9],[0,1,2,3,4,5,6,7,8,9,10,11,12],[0,1,2,3,4,5,6,7,8,9,10,11,12,13],[0,1,2,3,4,5,6,7,8,9,10,11,12,13,14],[0,1,2,3,4,5,6,7,8,9,10,11,12,13,14,15],[0,1,2,3,4,5,6,7,8,9,10,11,12,13,14,15,16],[0,1,2,3,4,5,6,7,8,9,10,11,12,13,14,15,16,17],[0,1,2,3,4,5,6,7,8,9,10,11,12,13,14,15,16,17,18],[0,1,2,3,4,5,6,7,8,9,10,11,12,13,14,15,16,17,18,19],[0,1,2,3,4,5,6,7,8,9,10,11,12,13,14,15,16,17,18,19,20],[0,1,2,3,4,5,6,7,8,9,10,11,12,13,14,15,16,17,18,19,20,21],[0,1,2,3,4,5,6,7,8,9,10,11,12,13,14,15,16,17,18,19,20,21,22],[0,1,2,3,4,5,6,7,8,9,10,11,12,13,14,15,16,17,18,19,20,21],[0,1,2,3,4,5,6,7,8,9,10,11,12,13,14,15,16,17,18,19,20,21,24],[0,1,2,3,4,5,6,7,8,9,10,11,12,13,14,15,16,17,18,19,20,21,24,25],[0,1,2,3,4,5,6,7,8,9,10,11,12,13,14,15,16,17,18,19,20,21,22,23,24,25,26],[0,1,2,3,4,5,6,7,8,9,10,11,12,13,14,15,16,17,18,19,20,21,22,23,24,25,26,27],[0,1,2,3,4,5,6,7,8,9,10,11,12,13,14,15,16,17,18,19,20,21,22,23,24,25,26,27,28],[0,1,2,3,4,5,6,7,8,9,10,11,12,13,14,15,16,17,18,19,20,21,22,23,24,25,26,27,28,29],[0,1,2,3,4,5,6,7,8,9,10,11,12,13,14,15,16,17,18,19,20,21,22,23,24,25,26,27,28,29,30],[0,1,2,3,4,5,6,7,8,9,10,11,12,13,14,15,16,17,18,19,20,21,22,23,24,25,26,27,28,29],[0,1,2,3,4,5,6,7,8,9,10,11,12,13,14,15,16,17,18,19,20,21,22,23,24,25,26,27,28,29],[0,1,2,3,4,5,6,7,8,9,10,11,12,13,14,15,16,17,18,19,20,21,22,23,24,25,26,27,28,29,33],[0,1,2,3,4,5,6,7,8,9,10,11,12,13,14,15,16,17,18,19,20,21,22,23,24,25,26,27,28,29,32,33,34],[0,1,2,3,4,5,6,7,8,9,10,11,12,13,14,15,16,17,18,19,20,21,22,23,24,25,26,27,28,29,30,31,32,33,34,35],[0,1,2,3,4,5,6,7,8,9,10,11,12,13,14,15,16,17,18,19,20,21,22,23,24,25,26,27,28,29,30,31,32,33,34,35,36],[0,1,2,3,4,5,6,7,8,9,10,11,12,13,14,15,16,17,18,19,20,21,22,23,24,25,26,27,28,29,30,31,32,33,34,35,36,37]] 36 [Nn 0,Nn 1,Nn 2,Yy 3,Nn 4,Nn 5,Nn 6,Nn 7,Nn 8,Nn 9,Nn 10,Nn 11,Nn 12,Nn 13,Nn 14,Nn 15,Nn 16,Nn 17,Nn 18,Nn 19,Nn 20,Nn 21,Nn 22,Nn 23,Nn 24,Nn 25,Nn 26,Yy 27,Nn 28,Nn 29,Nn 30,Nn 31,Nn 32,Nn 33,Nn 34,Yy 35] ?_
        refine Da ?_
        refine Yv q1 ?_
        refine Da ?_
        refine Yq (by rfl) (fun X h' [_] => q_eqS (E := editF) (a := x.edit) (b := noEdit) inferInstance (by rfl) (by rfl)) ?_
        refine Da ?_
        refine Yv q2 ?_
        refine Da ?_
        refine Yc (l22Grid_f (M := M) _ _ w.keeper b0 hk x.ver hv) ?_
        rintro _ AG ⟨cs, rfl, q⟩
        have q0 := q
        obtain ⟨c2, rfl, g1, l1⟩ := gridO q
        have o9 := g1.one
        refine Da ?_
        refine Ae ?_
        repeat first | refine R1 ?_ | refine R2 fun _ => ?_
        refine fp (y_lendV AG (fun h' l i => l31SameGrid_v (M := M) h' _ _ x.grid (gridAt w.keeper x.ver) (gridB_mk (t1.le l.le)) ((gridR τ).lent q0 i)) (by rfl) ?_)
        repeat first | refine R1 ?_ | refine R2 fun _ => ?_
        refine sf_ret (rV ?_)
        have : (x = ⟨1, x.to, 0, x.ver, gridAt w.keeper x.ver, noEdit, []⟩) ↔ x.grid = gridAt w.keeper x.ver := ⟨fun z => by rw [z], fun z => by
          obtain ⟨a1, a2, a3, a4, a5, a6, a7⟩ := x
          simp only at e1 h2 h3 h5 z
          subst e1 h2 h3 h5
          rw [← z]⟩
        simp [this]
      · have hv' : verOk w.keeper x.ver = false := by simpa using hv
        rw [hv'] at q2 ⊢
        refine Sd [[],[0],[],[0,1,2],[0,1,2,3],[0,1,2,3,4],[0,1,2,3,4,5],[0,1,2,3,4,5,6],[0,1,2,3,4,5,6,7],[0,1,2,3,4,5,6,7,8],[0,1,2,3,4,5,6,7,8,9],[0,1,2,3,4,5,6,7,8,9,10],[0,1,2,3,4,5,6,7,8,9],[0,1,2,3,4,5,6,7,8,9,10,11,12],[0,1,2,3,4,5,6,7,8,9,10,11,12,13],[0,1,2,3,4,5,6,7,8,9,10,11,12,13,14],[0,1,2,3,4,5,6,7,8,9,10,11,12,13,14,15],[0,1,2,3,4,5,6,7,8,9,10,11,12,13,14,15,16],[0,1,2,3,4,5,6,7,8,9,10,11,12,13,14,15,16,17],[0,1,2,3,4,5,6,7,8,9,10,11,12,13,14,15,16,17,18],[0,1,2,3,4,5,6,7,8,9,10,11,12,13,14,15,16,17,18,19],[0,1,2,3,4,5,6,7,8,9,10,11,12,13,14,15,16,17,18,19,20],[0,1,2,3,4,5,6,7,8,9,10,11,12,13,14,15,16,17,18,19,20,21],[0,1,2,3,4,5,6,7,8,9,10,11,12,13,14,15,16,17,18,19,20,21,22],[0,1,2,3,4,5,6,7,8,9,10,11,12,13,14,15,16,17,18,19,20,21],[0,1,2,3,4,5,6,7,8,9,10,11,12,13,14,15,16,17,18,19,20,21,24],[0,1,2,3,4,5,6,7,8,9,10,11,12,13,14,15,16,17,18,19,20,21,24,25],[0,1,2,3,4,5,6,7,8,9,10,11,12,13,14,15,16,17,18,19,20,21,22,23,24,25,26],[0,1,2,3,4,5,6,7,8,9,10,11,12,13,14,15,16,17,18,19,20,21,22,23,24,25,26,27],[0,1,2,3,4,5,6,7,8,9,10,11,12,13,14,15,16,17,18,19,20,21,22,23,24,25,26,27,28],[0,1,2,3,4,5,6,7,8,9,10,11,12,13,14,15,16,17,18,19,20,21,22,23,24,25,26,27,28,29],[0,1,2,3,4,5,6,7,8,9,10,11,12,13,14,15,16,17,18,19,20,21,22,23,24,25,26,27,28,29,30],[0,1,2,3,4,5,6,7,8,9,10,11,12,13,14,15,16,17,18,19,20,21,22,23,24,25,26,27,28,29],[0,1,2,3,4,5,6,7,8,9,10,11,12,13,14,15,16,17,18,19,20,21,22,23,24,25,26,27,28,29],[0,1,2,3,4,5,6,7,8,9,10,11,12,13,14,15,16,17,18,19,20,21,22,23,24,25,26,27,28,29,33],[0,1,2,3,4,5,6,7,8,9,10,11,12,13,14,15,16,17,18,19,20,21,22,23,24,25,26,27,28,29,32,33,34],[0,1,2,3,4,5,6,7,8,9,10,11,12,13,14,15,16,17,18,19,20,21,22,23,24,25,26,27,28,29,30,31,32,33,34,35],[0,1,2,3,4,5,6,7,8,9,10,11,12,13,14,15,16,17,18,19,20,21,22,23,24,25,26,27,28,29,30,31,32,33,34,35,36],[0,1,2,3,4,5,6,7,8,9,10,11,12,13,14,15,16,17,18,19,20,21,22,23,24,25,26,27,28,29,30,31,32,33,34,35,36,37]] 36 [Nn 0,Nn 1,Nn 2,Yy 3,Nn 4,Nn 5,Nn 6,Nn 7,Nn 8,Nn 9,Nn 10,Nn 11,Nn 12,Nn 13,Nn 14,Nn 15,Nn 16,Nn 17,Nn 18,Nn 19,Nn 20,Nn 21,Nn 22,Nn 23,Nn 24,Nn 25,Nn 26,Yy 27,Nn 28,Nn 29,Nn 30,Nn 31,Nn 32,Nn 33,Nn 34,Nn 35] ?_
        refine Da ?_
        refine Yv q1 ?_
        refine Da ?_
        refine Yq (by rfl) (fun X h' [_] => q_eqS (E := editF) (a := x.edit) (b := noEdit) inferInstance (by rfl) (by rfl)) ?_
        refine Da ?_
        refine Yv q2 ?_
        refine Da ?_
        refine Ae ?_
        repeat first | refine R1 ?_ | refine R2 fun _ => ?_
        refine sf_ret (rV ?_)
        simp_all
    · have hB : b1 = false ∨ (b1 = true ∧ ¬ x.frm = 0) ∨ (b1 = true ∧ x.frm = 0 ∧ ¬ x.edit = noEdit) ∨ (b1 = true ∧ x.frm = 0 ∧ x.edit = noEdit ∧ ¬ (x.lights.length : Int) = 0) := by
        by_cases h1 : b1 = true
        · by_cases h2 : x.frm = 0
          · by_cases h3 : x.edit = noEdit
            · exact .inr (.inr (.inr ⟨h1, h2, h3, fun z => hA ⟨h1, h2, h3, by omega⟩⟩))
            · exact .inr (.inr (.inl ⟨h1, h2, h3⟩))
          · exact .inr (.inl ⟨h1, h2⟩)
        · exact .inl (by simpa using h1)
      have hx : (b1 && decide (x = ⟨1, x.to, 0, x.ver, gridAt w.keeper x.ver, noEdit, []⟩)) = false := by
        by_cases h1 : b1 = true
        · rw [h1, Bool.true_and, decide_eq_false]
          intro z
          exact hA ⟨h1, by rw [z], by rw [z], by rw [z]; rfl⟩
        · simp [h1]
      rw [Bool.and_assoc, hx, Bool.and_false]
      clear hA hx hb1
      rcases hB with rfl | ⟨rfl, h2⟩ | ⟨rfl, h2, h3⟩ | ⟨rfl, h2, h3, h4⟩
      all_goals
        refine Sd [[],[0],[],[0,1,2],[0,1,2,3],[0,1,2,3,4],[0,1,2,3,4,5],[0,1,2,3,4,5,6],[0,1,2,3,4,5,6,7],[0,1,2,3,4,5,6,7,8],[0,1,2,3,4,5,6,7,8,9],[0,1,2,3,4,5,6,7,8,9,10],[0,1,2,3,4,5,6,7,8,9],[0,1,2,3,4,5,6,7,8,9,10,11,12],[0,1,2,3,4,5,6,7,8,9,10,11,12,13],[0,1,2,3,4,5,6,7,8,9,10,11,12,13,14],[0,1,2,3,4,5,6,7,8,9,10,11,12,13,14,15],[0,1,2,3,4,5,6,7,8,9,10,11,12,13,14,15,16],[0,1,2,3,4,5,6,7,8,9,10,11,12,13,14,15,16,17],[0,1,2,3,4,5,6,7,8,9,10,11,12,13,14,15,16,17,18],[0,1,2,3,4,5,6,7,8,9,10,11,12,13,14,15,16,17,18,19],[0,1,2,3,4,5,6,7,8,9,10,11,12,13,14,15,16,17,18,19,20],[0,1,2,3,4,5,6,7,8,9,10,11,12,13,14,15,16,17,18,19,20,21],[0,1,2,3,4,5,6,7,8,9,10,11,12,13,14,15,16,17,18,19,20,21,22],[0,1,2,3,4,5,6,7,8,9,10,11,12,13,14,15,16,17,18,19,20,21],[0,1,2,3,4,5,6,7,8,9,10,11,12,13,14,15,16,17,18,19,20,21,24],[0,1,2,3,4,5,6,7,8,9,10,11,12,13,14,15,16,17,18,19,20,21,24,25],[0,1,2,3,4,5,6,7,8,9,10,11,12,13,14,15,16,17,18,19,20,21,22,23,24,25,26],[0,1,2,3,4,5,6,7,8,9,10,11,12,13,14,15,16,17,18,19,20,21,22,23,24,25,26,27],[0,1,2,3,4,5,6,7,8,9,10,11,12,13,14,15,16,17,18,19,20,21,22,23,24,25,26,27,28],[0,1,2,3,4,5,6,7,8,9,10,11,12,13,14,15,16,17,18,19,20,21,22,23,24,25,26,27,28,29],[0,1,2,3,4,5,6,7,8,9,10,11,12,13,14,15,16,17,18,19,20,21,22,23,24,25,26,27,28,29,30],[0,1,2,3,4,5,6,7,8,9,10,11,12,13,14,15,16,17,18,19,20,21,22,23,24,25,26,27,28,29],[0,1,2,3,4,5,6,7,8,9,10,11,12,13,14,15,16,17,18,19,20,21,22,23,24,25,26,27,28,29],[0,1,2,3,4,5,6,7,8,9,10,11,12,13,14,15,16,17,18,19,20,21,22,23,24,25,26,27,28,29,33],[0,1,2,3,4,5,6,7,8,9,10,11,12,13,14,15,16,17,18,19,20,21,22,23,24,25,26,27,28,29,32,33,34],[0,1,2,3,4,5,6,7,8,9,10,11,12,13,14,15,16,17,18,19,20,21,22,23,24,25,26,27,28,29,30,31,32,33,34,35],[0,1,2,3,4,5,6,7,8,9,10,11,12,13,14,15,16,17,18,19,20,21,22,23,24,25,26,27,28,29,30,31,32,33,34,35,36],[0,1,2,3,4,5,6,7,8,9,10,11,12,13,14,15,16,17,18,19,20,21,22,23,24,25,26,27,28,29,30,31,32,33,34,35,36,37]] 36 [Nn 0,Nn 1,Nn 2,Yy 3,Nn 4,Nn 5,Nn 6,Nn 7,Nn 8,Nn 9,Nn 10,Nn 11,Nn 12,Nn 13,Nn 14,Nn 15,Nn 16,Nn 17,Nn 18,Nn 19,Nn 20,Nn 21,Nn 22,Nn 23,Nn 24,Nn 25,Nn 26,Nn 27,Nn 28,Nn 29,Nn 30,Nn 31,Nn 32,Nn 33,Nn 34,Nn 35] ?_
        refine Da ?_
        refine Yv q1 ?_
        refine Da ?_
        try refine Yq (by rfl) (fun X h' [_] => q_eqS (E := editF) (a := x.edit) (b := noEdit) inferInstance (by rfl) (by rfl)) ?_
        refine Da ?_
        refine Ae ?_
        repeat first | refine R1 ?_ | refine R2 fun _ => ?_
        refine sf_ret (rV ?_)
        simp_all
  repeat first | refine R1 ?_ | refine R2 fun _ => ?_
  refine sf_if (fun e2 => ?_) fun e2 => ?_
  · have q1 := l6In_v (M := M) h x.to 1 rp.length
    have q2 := l6In_v (M := M) h x.ver 1 w.keeper.edits.length
    have q3 := l31NoGrid_v (M := M) h _ x bx0
    rw [← id1] at q1
    rw [wordTrue2 e2]
    have hv : (verOk w.keeper x.ver && !decide (x.ver = 0)) = (decide (1 ≤ x.ver) && decide (x.ver ≤ (w.keeper.edits.length : Int))) := by
      unfold verOk
      by_cases a : 1 ≤ x.ver
      · have a1 : 0 ≤ x.ver := by omega
        have a2 : ¬ x.ver = 0 := by omega
        simp [a, a1, a2]
      · by_cases a1 : x.ver = 0
        · simp [a1]
        · have a3 : ¬ 0 ≤ x.ver := by omega
          simp [a, a3]
    rw [hv]
    generalize hb1 : idOk x.to w.keeper.parts.length = b1 at q1 ⊢
    clear hb1 hv
    repeat first | refine R1 ?_ | refine R2 fun _ => ?_
    by_cases hA : b1 = true ∧ x.frm = 0 ∧ x.grid = noGrid ∧ x.lights.length = 0
    · obtain ⟨rfl, h2, h3, h4⟩ := hA
      have h4' : (x.lights.length : Int) = 0 := by omega
      have h5 : x.lights = [] := List.length_eq_zero_iff.1 h4
      rw [decide_eq_true h3] at q3
      by_cases hv : (decide (1 ≤ x.ver) && decide (x.ver ≤ (w.keeper.edits.length : Int))) = true
      · have hv2 : 1 ≤ x.ver ∧ x.ver ≤ w.keeper.edits.length := by simpa using hv
        rw [hv] at q2 ⊢
        refine Sd [[],[0],[],[0,1,2],[0,1,2,3],[0,1,2,3,4],[0,1,2,3,4,5],[0,1,2,3,4,5,6],[0,1,2,3,4,5,6,7],[0,1,2,3,4,5,6,7,8],[0,1,2,3,4,5,6,7,8,9],[0,1,2,3,4,5,6,7,8,9,10],[0,1,2,3,4,5,6,7,8,9,10,11],[0,1,2,3,4,5,6,7,8,9,10,11,12],[0,1,2,3,4,5,6,7,8,9,10,11,12,13],[0,1,2,3,4,5,6,7,8,9,10,11,12,13,14],[0,1,2,3,4,5,6,7,8,9,10,11,12,13,14,15],[0,1,2,3,4,5,6,7,8,9,10,11,12,13,14,15,16],[0,1,2,3,4,5,6,7,8,9,10,11,12,13,14,15,16,17],[0,1,2,3,4,5,6,7,8,9,10,11,12,13,14,15,16,17,18],[0,1,2,3,4,5,6,7,8,9,10,11,12,13,14,15,16,17,18,19],[0,1,2,3,4,5,6,7,8,9,10,11,12,13,14,15,16,17,18,19,20],[0,1,2,3,4,5,6,7,8,9,10,11,12,13,14,15,16,17,18,19],[0,1,2,3,4,5,6,7,8,9,10,11,12,13,14,15,16,17,18,19,22],[0,1,2,3,4,5,6,7,8,9,10,11,12,13,14,15,16,17,18,19,22,23],[0,1,2,3,4,5,6,7,8,9,10,11,12,13,14,15,16,17,18,19,20,21,22,23,24],[0,1,2,3,4,5,6,7,8,9,10,11,12,13,14,15,16,17,18,19,20,21,22,23,24,25],[0,1,2,3,4,5,6,7,8,9,10,11,12,13,14,15,16,17,18,19,20,21,22,23,24,25,26],[0,1,2,3,4,5,6,7,8,9,10,11,12,13,14,15,16,17,18,19,20,21,22,23,24,25,26,27],[0,1,2,3,4,5,6,7,8,9,10,11,12,13,14,15,16,17,18,19,20,21,22,23,24,25,26,27,28],[0,1,2,3,4,5,6,7,8,9,10,11,12,13,14,15,16,17,18,19,20,21,22,23,24,25,26,27],[0,1,2,3,4,5,6,7,8,9,10,11,12,13,14,15,16,17,18,19,20,21,22,23,24,25,26,27,30],[0,1,2,3,4,5,6,7,8,9,10,11,12,13,14,15,16,17,18,19,20,21,22,23,24,25,26,27],[0,1,2,3,4,5,6,7,8,9,10,11,12,13,14,15,16,17,18,19,20,21,22,23,24,25,26,27,32],[0,1,2,3,4,5,6,7,8,9,10,11,12,13,14,15,16,17,18,19,20,21,22,23,24,25,26,27,32,33],[0,1,2,3,4,5,6,7,8,9,10,11,12,13,14,15,16,17,18,19,20,21,22,23,24,25,26,27,30,31,32,33,34],[0,1,2,3,4,5,6,7,8,9,10,11,12,13,14,15,16,17,18,19,20,21,22,23,24,25,26,27,30,31,32,33,34,35],[0,1,2,3,4,5,6,7,8,9,10,11,12,13,14,15,16,17,18,19,20,21,22,23,24,25,26,27,28,29,30,31,32,33,34,35,36],[0,1,2,3,4,5,6,7,8,9,10,11,12,13,14,15,16,17,18,19,20,21,22,23,24,25,26,27,28,29,30,31,32,33,34,35,36,37],[0,1,2,3,4,5,6,7,8,9,10,11,12,13,14,15,16,17,18,19,20,21,22,23,24,25,26,27,28,29,30,31,32,33,34,35,36,37,38]] 37 [Nn 0,Nn 1,Nn 2,Yy 3,Nn 4,Nn 5,Nn 6,Nn 7,Nn 8,Nn 9,Nn 10,Yy 11,Nn 12,Nn 13,Nn 14,Nn 15,Nn 16,Nn 17,Nn 18,Nn 19,Nn 20,Nn 21,Nn 22,Nn 23,Nn 24,Yy 25,Nn 26,Nn 27,Nn 28,Nn 29,Nn 30,Nn 31,Nn 32,Nn 33,Nn 34,Nn 35,Nn 36] ?_
        refine Da ?_
        refine Yv q1 ?_
        refine Da ?_
        refine Yv q3 ?_
        refine Da ?_
        refine Yv q2 ?_
        refine Da ?_
        refine Ae ?_
        refine fp (Rq ?_ (q_eqS (E := editF) (a := x.edit) (b := gt w.keeper.edits (x.ver - 1).toNat) inferInstance (by rfl) (by rfl)))
        repeat first | refine R1 ?_ | refine R2 fun _ => ?_
        refine sf_ret (rV ?_)
        have : (x = ⟨2, x.to, 0, x.ver, noGrid, gt w.keeper.edits (x.ver - 1).toNat, []⟩) ↔ x.edit = gt w.keeper.edits (x.ver - 1).toNat := by
          refine ⟨fun z => by rw [z], fun z => ?_⟩
          obtain ⟨a1, a2, a3, a4, a5, a6, a7⟩ := x
          simp only at e2 h2 h3 h5 z
          subst e2 h2 h3 h5
          rw [← z]
        congr 1
        simp only [Bool.true_and]
        exact decide_eq_decide.2 this.symm
      · have hv' : (decide (1 ≤ x.ver) && decide (x.ver ≤ (w.keeper.edits.length : Int))) = false := by simpa using hv
        rw [hv'] at q2 ⊢
        refine Sd [[],[0],[],[0,1,2],[0,1,2,3],[0,1,2,3,4],[0,1,2,3,4,5],[0,1,2,3,4,5,6],[0,1,2,3,4,5,6,7],[0,1,2,3,4,5,6,7,8],[0,1,2,3,4,5,6,7,8,9],[0,1,2,3,4,5,6,7,8,9,10],[0,1,2,3,4,5,6,7,8,9,10,11],[0,1,2,3,4,5,6,7,8,9,10,11,12],[0,1,2,3,4,5,6,7,8,9,10,11,12,13],[0,1,2,3,4,5,6,7,8,9,10,11,12,13,14],[0,1,2,3,4,5,6,7,8,9,10,11,12,13,14,15],[0,1,2,3,4,5,6,7,8,9,10,11,12,13,14,15,16],[0,1,2,3,4,5,6,7,8,9,10,11,12,13,14,15,16,17],[0,1,2,3,4,5,6,7,8,9,10,11,12,13,14,15,16,17,18],[0,1,2,3,4,5,6,7,8,9,10,11,12,13,14,15,16,17,18,19],[0,1,2,3,4,5,6,7,8,9,10,11,12,13,14,15,16,17,18,19,20],[0,1,2,3,4,5,6,7,8,9,10,11,12,13,14,15,16,17,18,19],[0,1,2,3,4,5,6,7,8,9,10,11,12,13,14,15,16,17,18,19,22],[0,1,2,3,4,5,6,7,8,9,10,11,12,13,14,15,16,17,18,19,22,23],[0,1,2,3,4,5,6,7,8,9,10,11,12,13,14,15,16,17,18,19,20,21,22,23,24],[0,1,2,3,4,5,6,7,8,9,10,11,12,13,14,15,16,17,18,19,20,21,22,23,24,25],[0,1,2,3,4,5,6,7,8,9,10,11,12,13,14,15,16,17,18,19,20,21,22,23,24,25,26],[0,1,2,3,4,5,6,7,8,9,10,11,12,13,14,15,16,17,18,19,20,21,22,23,24,25,26,27],[0,1,2,3,4,5,6,7,8,9,10,11,12,13,14,15,16,17,18,19,20,21,22,23,24,25,26,27,28],[0,1,2,3,4,5,6,7,8,9,10,11,12,13,14,15,16,17,18,19,20,21,22,23,24,25,26,27],[0,1,2,3,4,5,6,7,8,9,10,11,12,13,14,15,16,17,18,19,20,21,22,23,24,25,26,27,30],[0,1,2,3,4,5,6,7,8,9,10,11,12,13,14,15,16,17,18,19,20,21,22,23,24,25,26,27],[0,1,2,3,4,5,6,7,8,9,10,11,12,13,14,15,16,17,18,19,20,21,22,23,24,25,26,27,32],[0,1,2,3,4,5,6,7,8,9,10,11,12,13,14,15,16,17,18,19,20,21,22,23,24,25,26,27,32,33],[0,1,2,3,4,5,6,7,8,9,10,11,12,13,14,15,16,17,18,19,20,21,22,23,24,25,26,27,30,31,32,33,34],[0,1,2,3,4,5,6,7,8,9,10,11,12,13,14,15,16,17,18,19,20,21,22,23,24,25,26,27,30,31,32,33,34,35],[0,1,2,3,4,5,6,7,8,9,10,11,12,13,14,15,16,17,18,19,20,21,22,23,24,25,26,27,28,29,30,31,32,33,34,35,36],[0,1,2,3,4,5,6,7,8,9,10,11,12,13,14,15,16,17,18,19,20,21,22,23,24,25,26,27,28,29,30,31,32,33,34,35,36,37],[0,1,2,3,4,5,6,7,8,9,10,11,12,13,14,15,16,17,18,19,20,21,22,23,24,25,26,27,28,29,30,31,32,33,34,35,36,37,38]] 37 [Nn 0,Nn 1,Nn 2,Yy 3,Nn 4,Nn 5,Nn 6,Nn 7,Nn 8,Nn 9,Nn 10,Yy 11,Nn 12,Nn 13,Nn 14,Nn 15,Nn 16,Nn 17,Nn 18,Nn 19,Nn 20,Nn 21,Nn 22,Nn 23,Nn 24,Yy 25,Nn 26,Nn 27,Nn 28,Nn 29,Nn 30,Nn 31,Nn 32,Nn 33,Nn 34,Nn 35,Nn 36] ?_
        refine Da ?_
        refine Yv q1 ?_
        refine Da ?_
        refine Yv q3 ?_
        refine Da ?_
        refine Yv q2 ?_
        refine Da ?_
        refine Ae ?_
        repeat first | refine R1 ?_ | refine R2 fun _ => ?_
        refine sf_ret (rV ?_)
        simp_all
    · have hB : b1 = false ∨ (b1 = true ∧ ¬ x.frm = 0) ∨ (b1 = true ∧ x.frm = 0 ∧ ¬ x.grid = noGrid) ∨ (b1 = true ∧ x.frm = 0 ∧ x.grid = noGrid ∧ ¬ (x.lights.length : Int) = 0) := by
        by_cases h1 : b1 = true
        · by_cases h2 : x.frm = 0
          · by_cases h3 : x.grid = noGrid
            · exact .inr (.inr (.inr ⟨h1, h2, h3, fun z => hA ⟨h1, h2, h3, by omega⟩⟩))
            · exact .inr (.inr (.inl ⟨h1, h2, h3⟩))
          · exact .inr (.inl ⟨h1, h2⟩)
        · exact .inl (by simpa using h1)
      have hx : (b1 && decide (x = ⟨2, x.to, 0, x.ver, noGrid, gt w.keeper.edits (x.ver - 1).toNat, []⟩)) = false := by
        by_cases h1 : b1 = true
        · rw [h1, Bool.true_and, decide_eq_false]
          intro z
          exact hA ⟨h1, by rw [z], by rw [z], by rw [z]; rfl⟩
        · simp [h1]
      rw [Bool.and_assoc, hx, Bool.and_false]
      clear hA hx
      rcases hB with rfl | ⟨rfl, h2⟩ | ⟨rfl, h2, h3⟩ | ⟨rfl, h2, h3, h4⟩
      rotate_left 2
      all_goals try (rw [decide_eq_false h3] at q3)
      all_goals try (rw [decide_eq_true h3] at q3)
      rotate_left 2
      case' inl =>
        refine Sd [[],[0],[],[0,1,2],[0,1,2,3],[0,1,2,3,4],[0,1,2,3,4,5],[0,1,2,3,4,5,6],[0,1,2,3,4,5,6,7],[0,1,2,3,4,5,6,7,8],[0,1,2,3,4,5,6,7,8,9],[0,1,2,3,4,5,6,7,8,9,10],[0,1,2,3,4,5,6,7,8,9,10,11],[0,1,2,3,4,5,6,7,8,9,10,11,12],[0,1,2,3,4,5,6,7,8,9,10,11,12,13],[0,1,2,3,4,5,6,7,8,9,10,11,12,13,14],[0,1,2,3,4,5,6,7,8,9,10,11,12,13,14,15],[0,1,2,3,4,5,6,7,8,9,10,11,12,13,14,15,16],[0,1,2,3,4,5,6,7,8,9,10,11,12,13,14,15,16,17],[0,1,2,3,4,5,6,7,8,9,10,11,12,13,14,15,16,17,18],[0,1,2,3,4,5,6,7,8,9,10,11,12,13,14,15,16,17,18,19],[0,1,2,3,4,5,6,7,8,9,10,11,12,13,14,15,16,17,18,19,20],[0,1,2,3,4,5,6,7,8,9,10,11,12,13,14,15,16,17,18,19],[0,1,2,3,4,5,6,7,8,9,10,11,12,13,14,15,16,17,18,19,22],[0,1,2,3,4,5,6,7,8,9,10,11,12,13,14,15,16,17,18,19,22,23],[0,1,2,3,4,5,6,7,8,9,10,11,12,13,14,15,16,17,18,19,20,21,22,23,24],[0,1,2,3,4,5,6,7,8,9,10,11,12,13,14,15,16,17,18,19,20,21,22,23,24,25],[0,1,2,3,4,5,6,7,8,9,10,11,12,13,14,15,16,17,18,19,20,21,22,23,24,25,26],[0,1,2,3,4,5,6,7,8,9,10,11,12,13,14,15,16,17,18,19,20,21,22,23,24,25,26,27],[0,1,2,3,4,5,6,7,8,9,10,11,12,13,14,15,16,17,18,19,20,21,22,23,24,25,26,27,28],[0,1,2,3,4,5,6,7,8,9,10,11,12,13,14,15,16,17,18,19,20,21,22,23,24,25,26,27],[0,1,2,3,4,5,6,7,8,9,10,11,12,13,14,15,16,17,18,19,20,21,22,23,24,25,26,27,30],[0,1,2,3,4,5,6,7,8,9,10,11,12,13,14,15,16,17,18,19,20,21,22,23,24,25,26,27],[0,1,2,3,4,5,6,7,8,9,10,11,12,13,14,15,16,17,18,19,20,21,22,23,24,25,26,27,32],[0,1,2,3,4,5,6,7,8,9,10,11,12,13,14,15,16,17,18,19,20,21,22,23,24,25,26,27,32,33],[0,1,2,3,4,5,6,7,8,9,10,11,12,13,14,15,16,17,18,19,20,21,22,23,24,25,26,27,30,31,32,33,34],[0,1,2,3,4,5,6,7,8,9,10,11,12,13,14,15,16,17,18,19,20,21,22,23,24,25,26,27,30,31,32,33,34,35],[0,1,2,3,4,5,6,7,8,9,10,11,12,13,14,15,16,17,18,19,20,21,22,23,24,25,26,27,28,29,30,31,32,33,34,35,36],[0,1,2,3,4,5,6,7,8,9,10,11,12,13,14,15,16,17,18,19,20,21,22,23,24,25,26,27,28,29,30,31,32,33,34,35,36,37],[0,1,2,3,4,5,6,7,8,9,10,11,12,13,14,15,16,17,18,19,20,21,22,23,24,25,26,27,28,29,30,31,32,33,34,35,36,37,38]] 37 [Nn 0,Nn 1,Nn 2,Yy 3,Nn 4,Nn 5,Nn 6,Nn 7,Nn 8,Nn 9,Nn 10,Nn 11,Nn 12,Nn 13,Nn 14,Nn 15,Nn 16,Nn 17,Nn 18,Nn 19,Nn 20,Nn 21,Nn 22,Nn 23,Nn 24,Nn 25,Nn 26,Nn 27,Nn 28,Nn 29,Nn 30,Nn 31,Nn 32,Nn 33,Nn 34,Nn 35,Nn 36] ?_
        refine Da ?_
        refine Yv q1 ?_
        refine Da ?_
        refine Ae ?_
      case' inr.inl =>
        refine Sd [[],[0],[],[0,1,2],[0,1,2,3],[0,1,2,3,4],[0,1,2,3,4,5],[0,1,2,3,4,5,6],[0,1,2,3,4,5,6,7],[0,1,2,3,4,5,6,7,8],[0,1,2,3,4,5,6,7,8,9],[0,1,2,3,4,5,6,7,8,9,10],[0,1,2,3,4,5,6,7,8,9,10,11],[0,1,2,3,4,5,6,7,8,9,10,11,12],[0,1,2,3,4,5,6,7,8,9,10,11,12,13],[0,1,2,3,4,5,6,7,8,9,10,11,12,13,14],[0,1,2,3,4,5,6,7,8,9,10,11,12,13,14,15],[0,1,2,3,4,5,6,7,8,9,10,11,12,13,14,15,16],[0,1,2,3,4,5,6,7,8,9,10,11,12,13,14,15,16,17],[0,1,2,3,4,5,6,7,8,9,10,11,12,13,14,15,16,17,18],[0,1,2,3,4,5,6,7,8,9,10,11,12,13,14,15,16,17,18,19],[0,1,2,3,4,5,6,7,8,9,10,11,12,13,14,15,16,17,18,19,20],[0,1,2,3,4,5,6,7,8,9,10,11,12,13,14,15,16,17,18,19],[0,1,2,3,4,5,6,7,8,9,10,11,12,13,14,15,16,17,18,19,22],[0,1,2,3,4,5,6,7,8,9,10,11,12,13,14,15,16,17,18,19,22,23],[0,1,2,3,4,5,6,7,8,9,10,11,12,13,14,15,16,17,18,19,20,21,22,23,24],[0,1,2,3,4,5,6,7,8,9,10,11,12,13,14,15,16,17,18,19,20,21,22,23,24,25],[0,1,2,3,4,5,6,7,8,9,10,11,12,13,14,15,16,17,18,19,20,21,22,23,24,25,26],[0,1,2,3,4,5,6,7,8,9,10,11,12,13,14,15,16,17,18,19,20,21,22,23,24,25,26,27],[0,1,2,3,4,5,6,7,8,9,10,11,12,13,14,15,16,17,18,19,20,21,22,23,24,25,26,27,28],[0,1,2,3,4,5,6,7,8,9,10,11,12,13,14,15,16,17,18,19,20,21,22,23,24,25,26,27],[0,1,2,3,4,5,6,7,8,9,10,11,12,13,14,15,16,17,18,19,20,21,22,23,24,25,26,27,30],[0,1,2,3,4,5,6,7,8,9,10,11,12,13,14,15,16,17,18,19,20,21,22,23,24,25,26,27],[0,1,2,3,4,5,6,7,8,9,10,11,12,13,14,15,16,17,18,19,20,21,22,23,24,25,26,27,32],[0,1,2,3,4,5,6,7,8,9,10,11,12,13,14,15,16,17,18,19,20,21,22,23,24,25,26,27,32,33],[0,1,2,3,4,5,6,7,8,9,10,11,12,13,14,15,16,17,18,19,20,21,22,23,24,25,26,27,30,31,32,33,34],[0,1,2,3,4,5,6,7,8,9,10,11,12,13,14,15,16,17,18,19,20,21,22,23,24,25,26,27,30,31,32,33,34,35],[0,1,2,3,4,5,6,7,8,9,10,11,12,13,14,15,16,17,18,19,20,21,22,23,24,25,26,27,28,29,30,31,32,33,34,35,36],[0,1,2,3,4,5,6,7,8,9,10,11,12,13,14,15,16,17,18,19,20,21,22,23,24,25,26,27,28,29,30,31,32,33,34,35,36,37],[0,1,2,3,4,5,6,7,8,9,10,11,12,13,14,15,16,17,18,19,20,21,22,23,24,25,26,27,28,29,30,31,32,33,34,35,36,37,38]] 37 [Nn 0,Nn 1,Nn 2,Yy 3,Nn 4,Nn 5,Nn 6,Nn 7,Nn 8,Nn 9,Nn 10,Nn 11,Nn 12,Nn 13,Nn 14,Nn 15,Nn 16,Nn 17,Nn 18,Nn 19,Nn 20,Nn 21,Nn 22,Nn 23,Nn 24,Nn 25,Nn 26,Nn 27,Nn 28,Nn 29,Nn 30,Nn 31,Nn 32,Nn 33,Nn 34,Nn 35,Nn 36] ?_
        refine Da ?_
        refine Yv q1 ?_
        refine Da ?_
        refine Ae ?_
      case' inr.inr.inl =>
        refine Sd [[],[0],[],[0,1,2],[0,1,2,3],[0,1,2,3,4],[0,1,2,3,4,5],[0,1,2,3,4,5,6],[0,1,2,3,4,5,6,7],[0,1,2,3,4,5,6,7,8],[0,1,2,3,4,5,6,7,8,9],[0,1,2,3,4,5,6,7,8,9,10],[0,1,2,3,4,5,6,7,8,9,10,11],[0,1,2,3,4,5,6,7,8,9,10,11,12],[0,1,2,3,4,5,6,7,8,9,10,11,12,13],[0,1,2,3,4,5,6,7,8,9,10,11,12,13,14],[0,1,2,3,4,5,6,7,8,9,10,11,12,13,14,15],[0,1,2,3,4,5,6,7,8,9,10,11,12,13,14,15,16],[0,1,2,3,4,5,6,7,8,9,10,11,12,13,14,15,16,17],[0,1,2,3,4,5,6,7,8,9,10,11,12,13,14,15,16,17,18],[0,1,2,3,4,5,6,7,8,9,10,11,12,13,14,15,16,17,18,19],[0,1,2,3,4,5,6,7,8,9,10,11,12,13,14,15,16,17,18,19,20],[0,1,2,3,4,5,6,7,8,9,10,11,12,13,14,15,16,17,18,19],[0,1,2,3,4,5,6,7,8,9,10,11,12,13,14,15,16,17,18,19,22],[0,1,2,3,4,5,6,7,8,9,10,11,12,13,14,15,16,17,18,19,22,23],[0,1,2,3,4,5,6,7,8,9,10,11,12,13,14,15,16,17,18,19,20,21,22,23,24],[0,1,2,3,4,5,6,7,8,9,10,11,12,13,14,15,16,17,18,19,20,21,22,23,24,25],[0,1,2,3,4,5,6,7,8,9,10,11,12,13,14,15,16,17,18,19,20,21,22,23,24,25,26],[0,1,2,3,4,5,6,7,8,9,10,11,12,13,14,15,16,17,18,19,20,21,22,23,24,25,26,27],[0,1,2,3,4,5,6,7,8,9,10,11,12,13,14,15,16,17,18,19,20,21,22,23,24,25,26,27,28],[0,1,2,3,4,5,6,7,8,9,10,11,12,13,14,15,16,17,18,19,20,21,22,23,24,25,26,27],[0,1,2,3,4,5,6,7,8,9,10,11,12,13,14,15,16,17,18,19,20,21,22,23,24,25,26,27,30],[0,1,2,3,4,5,6,7,8,9,10,11,12,13,14,15,16,17,18,19,20,21,22,23,24,25,26,27],[0,1,2,3,4,5,6,7,8,9,10,11,12,13,14,15,16,17,18,19,20,21,22,23,24,25,26,27,32],[0,1,2,3,4,5,6,7,8,9,10,11,12,13,14,15,16,17,18,19,20,21,22,23,24,25,26,27,32,33],[0,1,2,3,4,5,6,7,8,9,10,11,12,13,14,15,16,17,18,19,20,21,22,23,24,25,26,27,30,31,32,33,34],[0,1,2,3,4,5,6,7,8,9,10,11,12,13,14,15,16,17,18,19,20,21,22,23,24,25,26,27,30,31,32,33,34,35],[0,1,2,3,4,5,6,7,8,9,10,11,12,13,14,15,16,17,18,19,20,21,22,23,24,25,26,27,28,29,30,31,32,33,34,35,36],[0,1,2,3,4,5,6,7,8,9,10,11,12,13,14,15,16,17,18,19,20,21,22,23,24,25,26,27,28,29,30,31,32,33,34,35,36,37],[0,1,2,3,4,5,6,7,8,9,10,11,12,13,14,15,16,17,18,19,20,21,22,23,24,25,26,27,28,29,30,31,32,33,34,35,36,37,38]] 37 [Nn 0,Nn 1,Nn 2,Yy 3,Nn 4,Nn 5,Nn 6,Nn 7,Nn 8,Nn 9,Nn 10,Yy 11,Nn 12,Nn 13,Nn 14,Nn 15,Nn 16,Nn 17,Nn 18,Nn 19,Nn 20,Nn 21,Nn 22,Nn 23,Nn 24,Nn 25,Nn 26,Nn 27,Nn 28,Nn 29,Nn 30,Nn 31,Nn 32,Nn 33,Nn 34,Nn 35,Nn 36] ?_
        refine Da ?_
        refine Yv q1 ?_
        refine Da ?_
        refine Yv q3 ?_
        refine Da ?_
        refine Ae ?_
      case' inr.inr.inr =>
        refine Sd [[],[0],[],[0,1,2],[0,1,2,3],[0,1,2,3,4],[0,1,2,3,4,5],[0,1,2,3,4,5,6],[0,1,2,3,4,5,6,7],[0,1,2,3,4,5,6,7,8],[0,1,2,3,4,5,6,7,8,9],[0,1,2,3,4,5,6,7,8,9,10],[0,1,2,3,4,5,6,7,8,9,10,11],[0,1,2,3,4,5,6,7,8,9,10,11,12],[0,1,2,3,4,5,6,7,8,9,10,11,12,13],[0,1,2,3,4,5,6,7,8,9,10,11,12,13,14],[0,1,2,3,4,5,6,7,8,9,10,11,12,13,14,15],[0,1,2,3,4,5,6,7,8,9,10,11,12,13,14,15,16],[0,1,2,3,4,5,6,7,8,9,10,11,12,13,14,15,16,17],[0,1,2,3,4,5,6,7,8,9,10,11,12,13,14,15,16,17,18],[0,1,2,3,4,5,6,7,8,9,10,11,12,13,14,15,16,17,18,19],[0,1,2,3,4,5,6,7,8,9,10,11,12,13,14,15,16,17,18,19,20],[0,1,2,3,4,5,6,7,8,9,10,11,12,13,14,15,16,17,18,19],[0,1,2,3,4,5,6,7,8,9,10,11,12,13,14,15,16,17,18,19,22],[0,1,2,3,4,5,6,7,8,9,10,11,12,13,14,15,16,17,18,19,22,23],[0,1,2,3,4,5,6,7,8,9,10,11,12,13,14,15,16,17,18,19,20,21,22,23,24],[0,1,2,3,4,5,6,7,8,9,10,11,12,13,14,15,16,17,18,19,20,21,22,23,24,25],[0,1,2,3,4,5,6,7,8,9,10,11,12,13,14,15,16,17,18,19,20,21,22,23,24,25,26],[0,1,2,3,4,5,6,7,8,9,10,11,12,13,14,15,16,17,18,19,20,21,22,23,24,25,26,27],[0,1,2,3,4,5,6,7,8,9,10,11,12,13,14,15,16,17,18,19,20,21,22,23,24,25,26,27,28],[0,1,2,3,4,5,6,7,8,9,10,11,12,13,14,15,16,17,18,19,20,21,22,23,24,25,26,27],[0,1,2,3,4,5,6,7,8,9,10,11,12,13,14,15,16,17,18,19,20,21,22,23,24,25,26,27,30],[0,1,2,3,4,5,6,7,8,9,10,11,12,13,14,15,16,17,18,19,20,21,22,23,24,25,26,27],[0,1,2,3,4,5,6,7,8,9,10,11,12,13,14,15,16,17,18,19,20,21,22,23,24,25,26,27,32],[0,1,2,3,4,5,6,7,8,9,10,11,12,13,14,15,16,17,18,19,20,21,22,23,24,25,26,27,32,33],[0,1,2,3,4,5,6,7,8,9,10,11,12,13,14,15,16,17,18,19,20,21,22,23,24,25,26,27,30,31,32,33,34],[0,1,2,3,4,5,6,7,8,9,10,11,12,13,14,15,16,17,18,19,20,21,22,23,24,25,26,27,30,31,32,33,34,35],[0,1,2,3,4,5,6,7,8,9,10,11,12,13,14,15,16,17,18,19,20,21,22,23,24,25,26,27,28,29,30,31,32,33,34,35,36],[0,1,2,3,4,5,6,7,8,9,10,11,12,13,14,15,16,17,18,19,20,21,22,23,24,25,26,27,28,29,30,31,32,33,34,35,36,37],[0,1,2,3,4,5,6,7,8,9,10,11,12,13,14,15,16,17,18,19,20,21,22,23,24,25,26,27,28,29,30,31,32,33,34,35,36,37,38]] 37 [Nn 0,Nn 1,Nn 2,Yy 3,Nn 4,Nn 5,Nn 6,Nn 7,Nn 8,Nn 9,Nn 10,Yy 11,Nn 12,Nn 13,Nn 14,Nn 15,Nn 16,Nn 17,Nn 18,Nn 19,Nn 20,Nn 21,Nn 22,Nn 23,Nn 24,Nn 25,Nn 26,Nn 27,Nn 28,Nn 29,Nn 30,Nn 31,Nn 32,Nn 33,Nn 34,Nn 35,Nn 36] ?_
        refine Da ?_
        refine Yv q1 ?_
        refine Da ?_
        refine Yv q3 ?_
        refine Da ?_
        refine Ae ?_
      all_goals
        repeat first | refine R1 ?_ | refine R2 fun _ => ?_
        refine sf_ret (rV ?_)
        simp_all
  repeat first | refine R1 ?_ | refine R2 fun _ => ?_
  refine sf_if (fun e3 => ?_) fun e3 => ?_
  · have q1 := l6In_v (M := M) h x.frm 1 rp.length
    have q2 := l6In_v (M := M) h x.ver 0 w.keeper.edits.length
    have q3 := l31NoGrid_v (M := M) h _ x bx0
    rw [← id1] at q1
    rw [show (decide (0 ≤ x.ver) && decide (x.ver ≤ (w.keeper.edits.length : Int))) = verOk w.keeper x.ver from rfl] at q2
    rw [wordTrue3 e3]
    repeat first | refine R1 ?_ | refine R2 fun _ => ?_
    by_cases hA : x.to = 0 ∧ idOk x.frm w.keeper.parts.length = true ∧ x.grid = noGrid ∧ x.edit = noEdit
    · obtain ⟨h1, h2, h3, h4⟩ := hA
      rw [decide_eq_true h3] at q3
      have h2' := h2
      simp only [idOk, Bool.and_eq_true, decide_eq_true_eq] at h2'
      rw [h2] at q1 ⊢
      by_cases hv : verOk w.keeper x.ver = true
      · rw [hv] at q2 ⊢
        have q4 := l22Own_f (M := M) h _ w.keeper b0 hk x.frm.toNat (by omega) (by omega) x.ver hv
        rw [show ((x.frm.toNat : Nat) : Int) = x.frm by omega] at q4
        have hL := partLights_le hk x.frm.toNat x.ver
        refine Sd [[],[0],[0,1],[0,1,2],[0,1,2,3],[0,1,2,3,4],[0,1,2,3],[0,1,2,3,4,5,6],[0,1,2,3,4,5,6,7],[0,1,2,3,4,5,6,7,8],[0,1,2,3,4,5,6,7,8,9],[0,1,2,3,4,5,6,7,8,9,10],[0,1,2,3,4,5,6,7,8,9,10,11],[0,1,2,3,4,5,6,7,8,9,10,11,12],[0,1,2,3,4,5,6,7,8,9,10,11,12,13],[0,1,2,3,4,5,6,7,8,9,10,11,12,13,14],[0,1,2,3,4,5,6,7,8,9,10,11,12,13],[0,1,2,3,4,5,6,7,8,9,10,11,12,13,14,15,16],[0,1,2,3,4,5,6,7,8,9,10,11,12,13,14,15,16,17],[0,1,2,3,4,5,6,7,8,9,10,11,12,13,14,15,16,17,18],[0,1,2,3,4,5,6,7,8,9,10,11,12,13,14,15,16,17,18,19],[0,1,2,3,4,5,6,7,8,9,10,11,12,13,14,15,16,17,18,19,20],[0,1,2,3,4,5,6,7,8,9,10,11,12,13,14,15,16,17,18,19],[0,1,2,3,4,5,6,7,8,9,10,11,12,13,14,15,16,17,18,19,22],[0,1,2,3,4,5,6,7,8,9,10,11,12,13,14,15,16,17,18,19,22,23],[0,1,2,3,4,5,6,7,8,9,10,11,12,13,14,15,16,17,18,19,20,21,22,23,24],[0,1,2,3,4,5,6,7,8,9,10,11,12,13,14,15,16,17,18,19,20,21,22,23,24,25],[0,1,2,3,4,5,6,7,8,9,10,11,12,13,14,15,16,17,18,19,20,21,22,23,24,25,26],[0,1,2,3,4,5,6,7,8,9,10,11,12,13,14,15,16,17,18,19,20,21,22,23,24,25,26,27],[0,1,2,3,4,5,6,7,8,9,10,11,12,13,14,15,16,17,18,19,20,21,22,23,24,25,26,27,28],[0,1,2,3,4,5,6,7,8,9,10,11,12,13,14,15,16,17,18,19,20,21,22,23,24,25,26,27],[0,1,2,3,4,5,6,7,8,9,10,11,12,13,14,15,16,17,18,19,20,21,22,23,24,25,26,27],[0,1,2,3,4,5,6,7,8,9,10,11,12,13,14,15,16,17,18,19,20,21,22,23,24,25,26,27,31],[0,1,2,3,4,5,6,7,8,9,10,11,12,13,14,15,16,17,18,19,20,21,22,23,24,25,26,27],[0,1,2,3,4,5,6,7,8,9,10,11,12,13,14,15,16,17,18,19,20,21,22,23,24,25,26,27,33],[0,1,2,3,4,5,6,7,8,9,10,11,12,13,14,15,16,17,18,19,20,21,22,23,24,25,26,27,30,31,32,33,34],[0,1,2,3,4,5,6,7,8,9,10,11,12,13,14,15,16,17,18,19,20,21,22,23,24,25,26,27,28,29,30,31,32,33,34,35],[0,1,2,3,4,5,6,7,8,9,10,11,12,13,14,15,16,17,18,19,20,21,22,23,24,25,26,27,28,29,30,31,32,33,34,35,36],[0,1,2,3,4,5,6,7,8,9,10,11,12,13,14,15,16,17,18,19,20,21,22,23,24,25,26,27,28,29,30,31,32,33,34,35,36,37]] 36 [Nn 0,Nn 1,Nn 2,Nn 3,Nn 4,Nn 5,Nn 6,Yy 7,Nn 8,Nn 9,Nn 10,Yy 11,Nn 12,Nn 13,Nn 14,Nn 15,Nn 16,Nn 17,Nn 18,Nn 19,Nn 20,Nn 21,Nn 22,Nn 23,Nn 24,Yy 25,Nn 26,Nn 27,Nn 28,Nn 29,Nn 30,Nn 31,Nn 32,Nn 33,Nn 34,Yy 35] ?_
        refine Da ?_
        refine Yv q1 ?_
        refine Da ?_
        refine Yv q3 ?_
        refine Da ?_
        refine Yq (by rfl) (fun X h' [_] => q_eqS (E := editF) (a := x.edit) (b := noEdit) inferInstance (by rfl) (by rfl)) ?_
        refine Da ?_
        refine Yv q2 ?_
        refine Da ?_
        refine Yc q4 ?_
        intro u AL gl
        have o9 := gl.one
        refine Da ?_
        refine Ae ?_
        repeat first | refine R1 ?_ | refine R2 fun _ => ?_
        refine fp (y_lendV AL (fun h' l i => l13Same_v (M := M) h' _ _ x.lights (partLights w.keeper x.frm.toNat x.ver) (t2.le l.le) (gl.lent (by omega) i)) (by rfl) ?_)
        repeat first | refine R1 ?_ | refine R2 fun _ => ?_
        refine sf_ret (rV ?_)
        have : (x = ⟨3, 0, x.frm, x.ver, noGrid, noEdit, partLights w.keeper x.frm.toNat x.ver⟩) ↔ x.lights = partLights w.keeper x.frm.toNat x.ver := by
          refine ⟨fun z => by rw [z], fun z => ?_⟩
          obtain ⟨a1, a2, a3, a4, a5, a6, a7⟩ := x
          simp only at e3 h1 h3 h4 z
          subst e3 h1 h3 h4
          rw [← z]
        simp [this]
      · have hv' : verOk w.keeper x.ver = false := by simpa using hv
        rw [hv'] at q2 ⊢
        refine Sd [[],[0],[0,1],[0,1,2],[0,1,2,3],[0,1,2,3,4],[0,1,2,3],[0,1,2,3,4,5,6],[0,1,2,3,4,5,6,7],[0,1,2,3,4,5,6,7,8],[0,1,2,3,4,5,6,7,8,9],[0,1,2,3,4,5,6,7,8,9,10],[0,1,2,3,4,5,6,7,8,9,10,11],[0,1,2,3,4,5,6,7,8,9,10,11,12],[0,1,2,3,4,5,6,7,8,9,10,11,12,13],[0,1,2,3,4,5,6,7,8,9,10,11,12,13,14],[0,1,2,3,4,5,6,7,8,9,10,11,12,13],[0,1,2,3,4,5,6,7,8,9,10,11,12,13,14,15,16],[0,1,2,3,4,5,6,7,8,9,10,11,12,13,14,15,16,17],[0,1,2,3,4,5,6,7,8,9,10,11,12,13,14,15,16,17,18],[0,1,2,3,4,5,6,7,8,9,10,11,12,13,14,15,16,17,18,19],[0,1,2,3,4,5,6,7,8,9,10,11,12,13,14,15,16,17,18,19,20],[0,1,2,3,4,5,6,7,8,9,10,11,12,13,14,15,16,17,18,19],[0,1,2,3,4,5,6,7,8,9,10,11,12,13,14,15,16,17,18,19,22],[0,1,2,3,4,5,6,7,8,9,10,11,12,13,14,15,16,17,18,19,22,23],[0,1,2,3,4,5,6,7,8,9,10,11,12,13,14,15,16,17,18,19,20,21,22,23,24],[0,1,2,3,4,5,6,7,8,9,10,11,12,13,14,15,16,17,18,19,20,21,22,23,24,25],[0,1,2,3,4,5,6,7,8,9,10,11,12,13,14,15,16,17,18,19,20,21,22,23,24,25,26],[0,1,2,3,4,5,6,7,8,9,10,11,12,13,14,15,16,17,18,19,20,21,22,23,24,25,26,27],[0,1,2,3,4,5,6,7,8,9,10,11,12,13,14,15,16,17,18,19,20,21,22,23,24,25,26,27,28],[0,1,2,3,4,5,6,7,8,9,10,11,12,13,14,15,16,17,18,19,20,21,22,23,24,25,26,27],[0,1,2,3,4,5,6,7,8,9,10,11,12,13,14,15,16,17,18,19,20,21,22,23,24,25,26,27],[0,1,2,3,4,5,6,7,8,9,10,11,12,13,14,15,16,17,18,19,20,21,22,23,24,25,26,27,31],[0,1,2,3,4,5,6,7,8,9,10,11,12,13,14,15,16,17,18,19,20,21,22,23,24,25,26,27],[0,1,2,3,4,5,6,7,8,9,10,11,12,13,14,15,16,17,18,19,20,21,22,23,24,25,26,27,33],[0,1,2,3,4,5,6,7,8,9,10,11,12,13,14,15,16,17,18,19,20,21,22,23,24,25,26,27,30,31,32,33,34],[0,1,2,3,4,5,6,7,8,9,10,11,12,13,14,15,16,17,18,19,20,21,22,23,24,25,26,27,28,29,30,31,32,33,34,35],[0,1,2,3,4,5,6,7,8,9,10,11,12,13,14,15,16,17,18,19,20,21,22,23,24,25,26,27,28,29,30,31,32,33,34,35,36],[0,1,2,3,4,5,6,7,8,9,10,11,12,13,14,15,16,17,18,19,20,21,22,23,24,25,26,27,28,29,30,31,32,33,34,35,36,37]] 36 [Nn 0,Nn 1,Nn 2,Nn 3,Nn 4,Nn 5,Nn 6,Yy 7,Nn 8,Nn 9,Nn 10,Yy 11,Nn 12,Nn 13,Nn 14,Nn 15,Nn 16,Nn 17,Nn 18,Nn 19,Nn 20,Nn 21,Nn 22,Nn 23,Nn 24,Yy 25,Nn 26,Nn 27,Nn 28,Nn 29,Nn 30,Nn 31,Nn 32,Nn 33,Nn 34,Nn 35] ?_
        refine Da ?_
        refine Yv q1 ?_
        refine Da ?_
        refine Yv q3 ?_
        refine Da ?_
        refine Yq (by rfl) (fun X h' [_] => q_eqS (E := editF) (a := x.edit) (b := noEdit) inferInstance (by rfl) (by rfl)) ?_
        refine Da ?_
        refine Yv q2 ?_
        refine Da ?_
        refine Ae ?_
        repeat first | refine R1 ?_ | refine R2 fun _ => ?_
        refine sf_ret (rV ?_)
        simp_all
    · have hx : (idOk x.frm w.keeper.parts.length && decide (x = ⟨3, 0, x.frm, x.ver, noGrid, noEdit, partLights w.keeper x.frm.toNat x.ver⟩)) = false := by
        by_cases h1 : idOk x.frm w.keeper.parts.length = true
        · rw [h1, Bool.true_and, decide_eq_false]
          intro z
          exact hA ⟨by rw [z], h1, by rw [z], by rw [z]⟩
        · simp [h1]
      rw [Bool.and_assoc, hx, Bool.and_false]
      clear hx
      by_cases h1 : x.to = 0
      · by_cases h2 : idOk x.frm w.keeper.parts.length = true
        · rw [h2] at q1
          by_cases h3 : x.grid = noGrid
          · rw [decide_eq_true h3] at q3
            have h4 : ¬ x.edit = noEdit := fun z => hA ⟨h1, h2, h3, z⟩
            clear hA
            refine Sd [[],[0],[0,1],[0,1,2],[0,1,2,3],[0,1,2,3,4],[0,1,2,3],[0,1,2,3,4,5,6],[0,1,2,3,4,5,6,7],[0,1,2,3,4,5,6,7,8],[0,1,2,3,4,5,6,7,8,9],[0,1,2,3,4,5,6,7,8,9,10],[0,1,2,3,4,5,6,7,8,9,10,11],[0,1,2,3,4,5,6,7,8,9,10,11,12],[0,1,2,3,4,5,6,7,8,9,10,11,12,13],[0,1,2,3,4,5,6,7,8,9,10,11,12,13,14],[0,1,2,3,4,5,6,7,8,9,10,11,12,13],[0,1,2,3,4,5,6,7,8,9,10,11,12,13,14,15,16],[0,1,2,3,4,5,6,7,8,9,10,11,12,13,14,15,16,17],[0,1,2,3,4,5,6,7,8,9,10,11,12,13,14,15,16,17,18],[0,1,2,3,4,5,6,7,8,9,10,11,12,13,14,15,16,17,18,19],[0,1,2,3,4,5,6,7,8,9,10,11,12,13,14,15,16,17,18,19,20],[0,1,2,3,4,5,6,7,8,9,10,11,12,13,14,15,16,17,18,19],[0,1,2,3,4,5,6,7,8,9,10,11,12,13,14,15,16,17,18,19,22],[0,1,2,3,4,5,6,7,8,9,10,11,12,13,14,15,16,17,18,19,22,23],[0,1,2,3,4,5,6,7,8,9,10,11,12,13,14,15,16,17,18,19,20,21,22,23,24],[0,1,2,3,4,5,6,7,8,9,10,11,12,13,14,15,16,17,18,19,20,21,22,23,24,25],[0,1,2,3,4,5,6,7,8,9,10,11,12,13,14,15,16,17,18,19,20,21,22,23,24,25,26],[0,1,2,3,4,5,6,7,8,9,10,11,12,13,14,15,16,17,18,19,20,21,22,23,24,25,26,27],[0,1,2,3,4,5,6,7,8,9,10,11,12,13,14,15,16,17,18,19,20,21,22,23,24,25,26,27,28],[0,1,2,3,4,5,6,7,8,9,10,11,12,13,14,15,16,17,18,19,20,21,22,23,24,25,26,27],[0,1,2,3,4,5,6,7,8,9,10,11,12,13,14,15,16,17,18,19,20,21,22,23,24,25,26,27],[0,1,2,3,4,5,6,7,8,9,10,11,12,13,14,15,16,17,18,19,20,21,22,23,24,25,26,27,31],[0,1,2,3,4,5,6,7,8,9,10,11,12,13,14,15,16,17,18,19,20,21,22,23,24,25,26,27],[0,1,2,3,4,5,6,7,8,9,10,11,12,13,14,15,16,17,18,19,20,21,22,23,24,25,26,27,33],[0,1,2,3,4,5,6,7,8,9,10,11,12,13,14,15,16,17,18,19,20,21,22,23,24,25,26,27,30,31,32,33,34],[0,1,2,3,4,5,6,7,8,9,10,11,12,13,14,15,16,17,18,19,20,21,22,23,24,25,26,27,28,29,30,31,32,33,34,35],[0,1,2,3,4,5,6,7,8,9,10,11,12,13,14,15,16,17,18,19,20,21,22,23,24,25,26,27,28,29,30,31,32,33,34,35,36],[0,1,2,3,4,5,6,7,8,9,10,11,12,13,14,15,16,17,18,19,20,21,22,23,24,25,26,27,28,29,30,31,32,33,34,35,36,37]] 36 [Nn 0,Nn 1,Nn 2,Nn 3,Nn 4,Nn 5,Nn 6,Yy 7,Nn 8,Nn 9,Nn 10,Yy 11,Nn 12,Nn 13,Nn 14,Nn 15,Nn 16,Nn 17,Nn 18,Nn 19,Nn 20,Nn 21,Nn 22,Nn 23,Nn 24,Nn 25,Nn 26,Nn 27,Nn 28,Nn 29,Nn 30,Nn 31,Nn 32,Nn 33,Nn 34,Nn 35] ?_
            refine Da ?_
            refine Yv q1 ?_
            refine Da ?_
            refine Yv q3 ?_
            refine Da ?_
            refine Yq (by rfl) (fun X h' [_] => q_eqS (E := editF) (a := x.edit) (b := noEdit) inferInstance (by rfl) (by rfl)) ?_
            refine Da ?_
            refine Ae ?_
            repeat first | refine R1 ?_ | refine R2 fun _ => ?_
            refine sf_ret (rV ?_)
            simp_all
          · rw [decide_eq_false h3] at q3
            clear hA
            refine Sd [[],[0],[0,1],[0,1,2],[0,1,2,3],[0,1,2,3,4],[0,1,2,3],[0,1,2,3,4,5,6],[0,1,2,3,4,5,6,7],[0,1,2,3,4,5,6,7,8],[0,1,2,3,4,5,6,7,8,9],[0,1,2,3,4,5,6,7,8,9,10],[0,1,2,3,4,5,6,7,8,9,10,11],[0,1,2,3,4,5,6,7,8,9,10,11,12],[0,1,2,3,4,5,6,7,8,9,10,11,12,13],[0,1,2,3,4,5,6,7,8,9,10,11,12,13,14],[0,1,2,3,4,5,6,7,8,9,10,11,12,13],[0,1,2,3,4,5,6,7,8,9,10,11,12,13,14,15,16],[0,1,2,3,4,5,6,7,8,9,10,11,12,13,14,15,16,17],[0,1,2,3,4,5,6,7,8,9,10,11,12,13,14,15,16,17,18],[0,1,2,3,4,5,6,7,8,9,10,11,12,13,14,15,16,17,18,19],[0,1,2,3,4,5,6,7,8,9,10,11,12,13,14,15,16,17,18,19,20],[0,1,2,3,4,5,6,7,8,9,10,11,12,13,14,15,16,17,18,19],[0,1,2,3,4,5,6,7,8,9,10,11,12,13,14,15,16,17,18,19,22],[0,1,2,3,4,5,6,7,8,9,10,11,12,13,14,15,16,17,18,19,22,23],[0,1,2,3,4,5,6,7,8,9,10,11,12,13,14,15,16,17,18,19,20,21,22,23,24],[0,1,2,3,4,5,6,7,8,9,10,11,12,13,14,15,16,17,18,19,20,21,22,23,24,25],[0,1,2,3,4,5,6,7,8,9,10,11,12,13,14,15,16,17,18,19,20,21,22,23,24,25,26],[0,1,2,3,4,5,6,7,8,9,10,11,12,13,14,15,16,17,18,19,20,21,22,23,24,25,26,27],[0,1,2,3,4,5,6,7,8,9,10,11,12,13,14,15,16,17,18,19,20,21,22,23,24,25,26,27,28],[0,1,2,3,4,5,6,7,8,9,10,11,12,13,14,15,16,17,18,19,20,21,22,23,24,25,26,27],[0,1,2,3,4,5,6,7,8,9,10,11,12,13,14,15,16,17,18,19,20,21,22,23,24,25,26,27],[0,1,2,3,4,5,6,7,8,9,10,11,12,13,14,15,16,17,18,19,20,21,22,23,24,25,26,27,31],[0,1,2,3,4,5,6,7,8,9,10,11,12,13,14,15,16,17,18,19,20,21,22,23,24,25,26,27],[0,1,2,3,4,5,6,7,8,9,10,11,12,13,14,15,16,17,18,19,20,21,22,23,24,25,26,27,33],[0,1,2,3,4,5,6,7,8,9,10,11,12,13,14,15,16,17,18,19,20,21,22,23,24,25,26,27,30,31,32,33,34],[0,1,2,3,4,5,6,7,8,9,10,11,12,13,14,15,16,17,18,19,20,21,22,23,24,25,26,27,28,29,30,31,32,33,34,35],[0,1,2,3,4,5,6,7,8,9,10,11,12,13,14,15,16,17,18,19,20,21,22,23,24,25,26,27,28,29,30,31,32,33,34,35,36],[0,1,2,3,4,5,6,7,8,9,10,11,12,13,14,15,16,17,18,19,20,21,22,23,24,25,26,27,28,29,30,31,32,33,34,35,36,37]] 36 [Nn 0,Nn 1,Nn 2,Nn 3,Nn 4,Nn 5,Nn 6,Yy 7,Nn 8,Nn 9,Nn 10,Yy 11,Nn 12,Nn 13,Nn 14,Nn 15,Nn 16,Nn 17,Nn 18,Nn 19,Nn 20,Nn 21,Nn 22,Nn 23,Nn 24,Nn 25,Nn 26,Nn 27,Nn 28,Nn 29,Nn 30,Nn 31,Nn 32,Nn 33,Nn 34,Nn 35] ?_
            refine Da ?_
            refine Yv q1 ?_
            refine Da ?_
            refine Yv q3 ?_
            refine Da ?_
            refine Ae ?_
            repeat first | refine R1 ?_ | refine R2 fun _ => ?_
            refine sf_ret (rV ?_)
            simp_all
        · rw [Bool.eq_false_iff.2 h2] at q1
          clear hA
          refine Sd [[],[0],[0,1],[0,1,2],[0,1,2,3],[0,1,2,3,4],[0,1,2,3],[0,1,2,3,4,5,6],[0,1,2,3,4,5,6,7],[0,1,2,3,4,5,6,7,8],[0,1,2,3,4,5,6,7,8,9],[0,1,2,3,4,5,6,7,8,9,10],[0,1,2,3,4,5,6,7,8,9,10,11],[0,1,2,3,4,5,6,7,8,9,10,11,12],[0,1,2,3,4,5,6,7,8,9,10,11,12,13],[0,1,2,3,4,5,6,7,8,9,10,11,12,13,14],[0,1,2,3,4,5,6,7,8,9,10,11,12,13],[0,1,2,3,4,5,6,7,8,9,10,11,12,13,14,15,16],[0,1,2,3,4,5,6,7,8,9,10,11,12,13,14,15,16,17],[0,1,2,3,4,5,6,7,8,9,10,11,12,13,14,15,16,17,18],[0,1,2,3,4,5,6,7,8,9,10,11,12,13,14,15,16,17,18,19],[0,1,2,3,4,5,6,7,8,9,10,11,12,13,14,15,16,17,18,19,20],[0,1,2,3,4,5,6,7,8,9,10,11,12,13,14,15,16,17,18,19],[0,1,2,3,4,5,6,7,8,9,10,11,12,13,14,15,16,17,18,19,22],[0,1,2,3,4,5,6,7,8,9,10,11,12,13,14,15,16,17,18,19,22,23],[0,1,2,3,4,5,6,7,8,9,10,11,12,13,14,15,16,17,18,19,20,21,22,23,24],[0,1,2,3,4,5,6,7,8,9,10,11,12,13,14,15,16,17,18,19,20,21,22,23,24,25],[0,1,2,3,4,5,6,7,8,9,10,11,12,13,14,15,16,17,18,19,20,21,22,23,24,25,26],[0,1,2,3,4,5,6,7,8,9,10,11,12,13,14,15,16,17,18,19,20,21,22,23,24,25,26,27],[0,1,2,3,4,5,6,7,8,9,10,11,12,13,14,15,16,17,18,19,20,21,22,23,24,25,26,27,28],[0,1,2,3,4,5,6,7,8,9,10,11,12,13,14,15,16,17,18,19,20,21,22,23,24,25,26,27],[0,1,2,3,4,5,6,7,8,9,10,11,12,13,14,15,16,17,18,19,20,21,22,23,24,25,26,27],[0,1,2,3,4,5,6,7,8,9,10,11,12,13,14,15,16,17,18,19,20,21,22,23,24,25,26,27,31],[0,1,2,3,4,5,6,7,8,9,10,11,12,13,14,15,16,17,18,19,20,21,22,23,24,25,26,27],[0,1,2,3,4,5,6,7,8,9,10,11,12,13,14,15,16,17,18,19,20,21,22,23,24,25,26,27,33],[0,1,2,3,4,5,6,7,8,9,10,11,12,13,14,15,16,17,18,19,20,21,22,23,24,25,26,27,30,31,32,33,34],[0,1,2,3,4,5,6,7,8,9,10,11,12,13,14,15,16,17,18,19,20,21,22,23,24,25,26,27,28,29,30,31,32,33,34,35],[0,1,2,3,4,5,6,7,8,9,10,11,12,13,14,15,16,17,18,19,20,21,22,23,24,25,26,27,28,29,30,31,32,33,34,35,36],[0,1,2,3,4,5,6,7,8,9,10,11,12,13,14,15,16,17,18,19,20,21,22,23,24,25,26,27,28,29,30,31,32,33,34,35,36,37]] 36 [Nn 0,Nn 1,Nn 2,Nn 3,Nn 4,Nn 5,Nn 6,Yy 7,Nn 8,Nn 9,Nn 10,Nn 11,Nn 12,Nn 13,Nn 14,Nn 15,Nn 16,Nn 17,Nn 18,Nn 19,Nn 20,Nn 21,Nn 22,Nn 23,Nn 24,Nn 25,Nn 26,Nn 27,Nn 28,Nn 29,Nn 30,Nn 31,Nn 32,Nn 33,Nn 34,Nn 35] ?_
          refine Da ?_
          refine Yv q1 ?_
          refine Da ?_
          refine Ae ?_
          repeat first | refine R1 ?_ | refine R2 fun _ => ?_
          refine sf_ret (rV ?_)
          simp_all
      · clear hA
        refine Sd [[],[0],[0,1],[0,1,2],[0,1,2,3],[0,1,2,3,4],[0,1,2,3],[0,1,2,3,4,5,6],[0,1,2,3,4,5,6,7],[0,1,2,3,4,5,6,7,8],[0,1,2,3,4,5,6,7,8,9],[0,1,2,3,4,5,6,7,8,9,10],[0,1,2,3,4,5,6,7,8,9,10,11],[0,1,2,3,4,5,6,7,8,9,10,11,12],[0,1,2,3,4,5,6,7,8,9,10,11,12,13],[0,1,2,3,4,5,6,7,8,9,10,11,12,13,14],[0,1,2,3,4,5,6,7,8,9,10,11,12,13],[0,1,2,3,4,5,6,7,8,9,10,11,12,13,14,15,16],[0,1,2,3,4,5,6,7,8,9,10,11,12,13,14,15,16,17],[0,1,2,3,4,5,6,7,8,9,10,11,12,13,14,15,16,17,18],[0,1,2,3,4,5,6,7,8,9,10,11,12,13,14,15,16,17,18,19],[0,1,2,3,4,5,6,7,8,9,10,11,12,13,14,15,16,17,18,19,20],[0,1,2,3,4,5,6,7,8,9,10,11,12,13,14,15,16,17,18,19],[0,1,2,3,4,5,6,7,8,9,10,11,12,13,14,15,16,17,18,19,22],[0,1,2,3,4,5,6,7,8,9,10,11,12,13,14,15,16,17,18,19,22,23],[0,1,2,3,4,5,6,7,8,9,10,11,12,13,14,15,16,17,18,19,20,21,22,23,24],[0,1,2,3,4,5,6,7,8,9,10,11,12,13,14,15,16,17,18,19,20,21,22,23,24,25],[0,1,2,3,4,5,6,7,8,9,10,11,12,13,14,15,16,17,18,19,20,21,22,23,24,25,26],[0,1,2,3,4,5,6,7,8,9,10,11,12,13,14,15,16,17,18,19,20,21,22,23,24,25,26,27],[0,1,2,3,4,5,6,7,8,9,10,11,12,13,14,15,16,17,18,19,20,21,22,23,24,25,26,27,28],[0,1,2,3,4,5,6,7,8,9,10,11,12,13,14,15,16,17,18,19,20,21,22,23,24,25,26,27],[0,1,2,3,4,5,6,7,8,9,10,11,12,13,14,15,16,17,18,19,20,21,22,23,24,25,26,27],[0,1,2,3,4,5,6,7,8,9,10,11,12,13,14,15,16,17,18,19,20,21,22,23,24,25,26,27,31],[0,1,2,3,4,5,6,7,8,9,10,11,12,13,14,15,16,17,18,19,20,21,22,23,24,25,26,27],[0,1,2,3,4,5,6,7,8,9,10,11,12,13,14,15,16,17,18,19,20,21,22,23,24,25,26,27,33],[0,1,2,3,4,5,6,7,8,9,10,11,12,13,14,15,16,17,18,19,20,21,22,23,24,25,26,27,30,31,32,33,34],[0,1,2,3,4,5,6,7,8,9,10,11,12,13,14,15,16,17,18,19,20,21,22,23,24,25,26,27,28,29,30,31,32,33,34,35],[0,1,2,3,4,5,6,7,8,9,10,11,12,13,14,15,16,17,18,19,20,21,22,23,24,25,26,27,28,29,30,31,32,33,34,35,36],[0,1,2,3,4,5,6,7,8,9,10,11,12,13,14,15,16,17,18,19,20,21,22,23,24,25,26,27,28,29,30,31,32,33,34,35,36,37]] 36 [Nn 0,Nn 1,Nn 2,Nn 3,Nn 4,Nn 5,Nn 6,Nn 7,Nn 8,Nn 9,Nn 10,Nn 11,Nn 12,Nn 13,Nn 14,Nn 15,Nn 16,Nn 17,Nn 18,Nn 19,Nn 20,Nn 21,Nn 22,Nn 23,Nn 24,Nn 25,Nn 26,Nn 27,Nn 28,Nn 29,Nn 30,Nn 31,Nn 32,Nn 33,Nn 34,Nn 35] ?_
        refine Da ?_
        refine Ae ?_
        repeat first | refine R1 ?_ | refine R2 fun _ => ?_
        refine sf_ret (rV ?_)
        simp_all
  repeat first | refine R1 ?_ | refine R2 fun _ => ?_
  refine sf_if (fun e4 => ?_) fun e4 => ?_
  · rw [wordTrue4 e4, id1]
    have key : (verOk w.keeper x.ver && (decide (1 ≤ x.frm) && decide (x.frm ≤ (rp.length : Int))) && decide (x = ⟨4, 0, x.frm, 0, noGrid, noEdit, []⟩)) = (decide (x.to = 0) && (decide (1 ≤ x.frm) && decide (x.frm ≤ (rp.length : Int))) && decide (x.grid = noGrid) && decide (x.edit = noEdit) && decide (x.ver = 0) && decide ((x.lights.length : Int) = 0)) := by
      by_cases hx : x = ⟨4, 0, x.frm, 0, noGrid, noEdit, []⟩
      · have a1 : x.to = 0 := by rw [hx]
        have a2 : x.grid = noGrid := by rw [hx]
        have a3 : x.edit = noEdit := by rw [hx]
        have a4 : x.ver = 0 := by rw [hx]
        have a5 : x.lights = [] := by rw [hx]
        rw [decide_eq_true hx]
        simp [a1, a2, a3, a4, a5, verOk]
      · rw [decide_eq_false hx, Bool.and_false]
        symm
        rw [Bool.eq_false_iff]
        intro z
        simp only [Bool.and_eq_true, decide_eq_true_eq] at z
        obtain ⟨⟨⟨⟨⟨a1, -⟩, a2⟩, a3⟩, a4⟩, a5⟩ := z
        refine hx ?_
        have a6 : x.lights = [] := List.length_eq_zero_iff.1 (by omega)
        obtain ⟨b1, b2, b3, b4, b5, b6, b7⟩ := x
        simp only at e4 a1 a2 a3 a4 a6
        subst e4 a1 a2 a3 a4 a6
        rfl
    rw [key]
    clear key
    repeat first | refine R1 ?_ | refine R2 fun _ => ?_
    refine f_split (fun h1 => ?_) fun h1 => ?_
    rotate_left
    · repeat first | refine R1 ?_ | refine R2 fun _ => ?_
      refine sf_ret (rV ?_)
      simp [h1]
    repeat first | refine R1 ?_ | refine R2 fun _ => ?_
    refine Xv (l6In_v _ _ _ _) ?_
    repeat first | refine R1 ?_ | refine R2 fun _ => ?_
    refine f_splitB (fun h2 => ?_) fun h2 => ?_
    rotate_left
    · repeat first | refine R1 ?_ | refine R2 fun _ => ?_
      refine sf_ret (rV ?_)
      rw [h2]; simp
    repeat first | refine R1 ?_ | refine R2 fun _ => ?_
    refine Xv (l31NoGrid_v (M := M) _ _ x bx0) ?_
    repeat first | refine R1 ?_ | refine R2 fun _ => ?_
    refine f_split (fun h3 => ?_) fun h3 => ?_
    rotate_left
    · repeat first | refine R1 ?_ | refine R2 fun _ => ?_
      refine sf_ret (rV ?_)
      simp [h3]
    repeat first | refine R1 ?_ | refine R2 fun _ => ?_
    refine fp (Rq ?_ (q_eqS (E := editF) (a := x.edit) (b := noEdit) inferInstance (by rfl) (by rfl)))
    repeat first | refine R1 ?_ | refine R2 fun _ => ?_
    refine f_split (fun h4 => ?_) fun h4 => ?_
    rotate_left
    · repeat first | refine R1 ?_ | refine R2 fun _ => ?_
      refine sf_ret (rV ?_)
      simp [h4]
    repeat first | refine R1 ?_ | refine R2 fun _ => ?_
    refine f_split (fun h5 => ?_) fun h5 => ?_
    rotate_left
    · repeat first | refine R1 ?_ | refine R2 fun _ => ?_
      refine sf_ret (rV ?_)
      simp [h5]
    repeat first | refine R1 ?_ | refine R2 fun _ => ?_
    refine sf_ret (rV ?_)
    rw [h2]; simp [h1, h3, h4, h5]
  repeat first | refine R1 ?_ | refine R2 fun _ => ?_
  refine sf_ret (rV ?_)
  rw [wordTrue0 e1 e2 e3 e4]
theorem sAll_gt {α : Type} [Inhabited α] {f : α → Bool} {xs : List α} : xs.all f = true ↔ ∀ i, i < xs.length → f (gt xs i) = true := by
  rw [List.all_eq_true]
  constructor
  · intro h i hi
    rw [gt_eq hi]; exact h _ (List.getElem_mem _)
  · intro h x hx
    obtain ⟨i, hi, rfl⟩ := List.getElem_of_mem hx
    rw [← gt_eq hi]; exact h i hi
theorem painterTrue_no {k : Keeper} {p : Painter} (ok : paintOk p = true) (hp : p.has = false) : painterTrue k p = true := by
  have : p.ver = 0 := by
    unfold paintOk at ok
    rw [if_neg (by rw [hp]; decide)] at ok
    simp only [Bool.and_eq_true, decide_eq_true_eq] at ok
    exact ok.1
  simp [painterTrue, ok, hp, verOk, this]
theorem painterTrue_has {k : Keeper} {p : Painter} (ok : paintOk p = true) (hp : p.has = true) : painterTrue k p = (decide (p.ver ≤ k.edits.length) && decide (p.scene.grid = gridAt k p.ver)) := by
  have := (paintOk_has ok hp).2.1
  simp [painterTrue, ok, hp, verOk, this]
theorem sWorldOk_v (h : PHeap) (ca : List Value) (w : World') (b : (worldR τ).B h ca w) : CallV Tryz.prog M 54 [.agg ca.toArray] h (.bool (worldOk w)) := by
  have bw0 := b
  obtain ⟨c, ed, pt, s, ps, ns, rfl, s1, s2, s3, s4, s5, s6⟩ := worldB b
  have b0 : (keeperR τ).B h [.int .i64 w.keeper.first.wide, c, ed, pt, s] w.keeper := keeperB_mk s1 s2 s3 s4
  have o1 := s1.one
  have o2 := s2.one
  have o3 := s3.one
  have o4 := s4.one
  have o5 := s5.one
  have o6 := s6.one
  obtain ⟨rk, s3, bk⟩ := s3
  obtain ⟨rp, s5, bp⟩ := s5
  obtain ⟨rn, s6, bn⟩ := s6
  have lk := bk.len
  have lp := bp.len
  have ln := bn.len
  have hsp := s5.small
  have hsn := s6.small
  refine Cs Tryz.func54 Tryz.ntmps54 ?_
  repeat first | refine R1 ?_ | refine R2 fun _ => ?_
  refine Xv (sKeepOk_v (M := M) _ _ w.keeper b0) ?_
  repeat first | refine R1 ?_ | refine R2 fun _ => ?_
  refine f_splitB (fun e1 => ?_) fun e1 => ?_
  · have e1' : keepOk w.keeper = false := by simpa using e1
    repeat first | refine R1 ?_ | refine R2 fun _ => ?_
    refine sf_cond (by rfl) (fun e9 => ?_) fun e9 => ?_
    · repeat first | refine R1 ?_ | refine R2 fun _ => ?_
      refine sf_ret (rV ?_)
      simp [worldOk, e1']
    · simp [e1'] at e9
  have ok : keepOk w.keeper = true := by simpa using e1
  have hk := keepOk_head ok
  repeat first | refine R1 ?_ | refine R2 fun _ => ?_
  refine f_split (fun e2 => ?_) fun e2 => ?_
  · have e2' : ¬ w.painters.length = w.keeper.parts.length := by omega
    repeat first | refine R1 ?_ | refine R2 fun _ => ?_
    refine sf_cond (by rfl) (fun e9 => ?_) fun e9 => ?_
    · repeat first | refine R1 ?_ | refine R2 fun _ => ?_
      refine sf_ret (rV ?_)
      simp [worldOk, e2']
    · simp [e1, e2] at e9
  have e2' : w.painters.length = w.keeper.parts.length := by omega
  repeat first | refine R1 ?_ | refine R2 fun _ => ?_
  refine sf_cond (by rfl) (fun e3 => ?_) fun e3 => ?_
  · have e3' : ¬ w.nets.length ≤ 10 := by simp [e1, e2] at e3; omega
    repeat first | refine R1 ?_ | refine R2 fun _ => ?_
    refine sf_ret (rV ?_)
    simp [worldOk, e3']
  have e3' : w.nets.length ≤ 10 := by simp [e1, e2] at e3; omega
  have key : worldOk w = (w.painters.all (painterTrue w.keeper) && w.nets.all (wordTrue w.keeper)) := by simp [worldOk, ok, e2', e3']
  rw [key]
  clear key e3
  repeat first | refine R1 ?_ | refine R2 fun _ => ?_
  rename_i b1
  refine sf_lp (ι := Nat) [1] (fun i => [(3, .int .i64 (i : Int))]) (fun i O => O = [(b1, .cells #[.int .i64 w.keeper.first.wide, c, ed, pt, s, ps, ns] 55)] ∧ i ≤ w.painters.length ∧ ∀ j, j < i → painterTrue w.keeper (gt w.painters j) = true) (fun i => w.painters.length - i) 0 [(b1, .cells #[.int .i64 w.keeper.first.wide, c, ed, pt, s, ps, ns] 55)] ⟨rfl, by omega, fun j hj => by omega⟩ ?_
  rintro i O ⟨rfl, hi, ht⟩
  repeat first | refine R1 ?_ | refine R2 fun _ => ?_
  refine sf_if (fun h4 => ?_) fun h4 => ?_
  · have hi4 : i < w.painters.length := by omega
    have hi5 : i < rp.length := by omega
    have b4 := bp.at hi4
    have b5 := b4
    obtain ⟨c2, l2, f2, ex, t1, t2, t3⟩ := painterB b4
    haveI : FlatV (rawF (painterR τ).sz) (gt rp i) [.bool (gt w.painters i).up, .bool (gt w.painters i).has, .int .i64 (gt w.painters i).ver, .int .i64 (gt w.painters i).scene.grid.wide, c2, l2, f2] := ⟨ex⟩
    rw [ex] at b5
    have p1 := t1.one
    have p2 := t2.one
    have p3 := t3.one
    have no : painterTrue w.keeper (gt w.painters i) = false → Value.bool false = .bool (w.painters.all (painterTrue w.keeper) && w.nets.all (wordTrue w.keeper)) := fun hf => by
      rw [show w.painters.all (painterTrue w.keeper) = false from by
        rw [Bool.eq_false_iff]; intro z; rw [sAll_gt.1 z i hi4] at hf; exact Bool.noConfusion hf, Bool.false_and]
    have yes : painterTrue w.keeper (gt w.painters i) = true → ∀ j, j < i + 1 → painterTrue w.keeper (gt w.painters j) = true := fun hf j hj => by
      by_cases ej : j = i
      · subst ej; exact hf
      · exact ht j (by omega)
    have qk := sPaintOk_v (M := M) h _ (gt w.painters i) b5
    repeat first | refine R1 ?_ | refine R2 fun _ => ?_
    by_cases hp : paintOk (gt w.painters i) = true
    · rw [hp] at qk
      by_cases hh : (gt w.painters i).has = true
      · have key := painterTrue_has (k := w.keeper) hp hh
        by_cases hv : (gt w.painters i).ver ≤ w.keeper.edits.length
        · have hv0 := (paintOk_has hp hh).2.1
          have hv' : verOk w.keeper (gt w.painters i).ver = true := by simp [verOk, hv, hv0]
          have hv3 : ¬ (gt w.painters i).ver > (w.keeper.edits.length : Int) := by omega
          rw [decide_eq_true hv, Bool.true_and] at key
          refine Sd [[],[0],[0,1],[0,1,2],[0,1,2,3],[0,1,2,3,4],[0,1,2,3,4,5],[0,1,2,3,4,5,6],[0,1,2,3,4,5,6,7],[0,1,2,3,4,5,6],[0,1,2,3,4,5,6,9],[0,1,2,3,4,5,6,9,10],[0,1,2,3,4,5,6,9,10,11],[0,1,2,3,4,5,6,7,8,9,10,11,12],[0,1,2,3,4,5,6,7,8,9,10,11,12,13],[0,1,2,3,4,5,6,7,8,9,10,11,12,13,14],[0,1,2,3,4,5,6,7,8,9,10,11,12,13,14,15],[0,1,2,3,4,5,6,7,8,9,10,11,12,13,14,15,16],[0,1,2,3,4,5,6,7,8,9,10,11,12,13,14],[0,1,2,3,4,5,6,7,8,9,10,11,12,13,14,18],[0,1,2,3,4,5,6,7,8,9,10,11,12,13,14],[0,1,2,3,4,5,6,7,8,9,10,11,12,13,14,20],[0,1,2,3,4,5,6,7,8,9,10,11,12,13,14,18,19,20,21],[0,1,2,3,4,5,6,7,8,9,10,11,12,13,14,15,16,17,18,19,20,21,22],[0,1,2,3,4,5,6,7,8,9,10,11,12,13,14,15,16,17,18,19,20,21,22,23],[0,1,2,3,4,5,6,7,8,9,10,11,12,13,14,15,16,17,18,19,20,21,22,23,24],[0,1,2,3,4,5,6,7,8,9,10,11,12,13,14,15,16,17,18,19,20,21,22,23,24,25],[0,1,2,3,4,5,6,7,8,9,10,11,12,13,14,15,16,17,18,19,20,21,22,23,24,25,26]] 23 [Nn 0,Yy 1,Nn 2,Nn 3,Nn 4,Nn 5,Nn 6,Nn 7,Nn 8,Nn 9,Nn 10,Nn 11,Nn 12,Nn 13,Nn 14,Nn 15,Nn 16,Nn 17,Nn 18,Nn 19,Nn 20,Nn 21,Yy 22] ?_
          refine Da ?_
          refine Yv qk ?_
          refine Da ?_
          refine Yc (l22Grid_f (M := M) _ _ w.keeper b0 hk _ hv') ?_
          rintro _ AG ⟨cs, rfl, q⟩
          have q0 := q
          obtain ⟨c3, rfl, g1, l1⟩ := gridO q
          have o9 := g1.one
          refine Da ?_
          refine Ae ?_
          refine fp (y_lendV AG (fun h' l i' => l31SameGrid_v (M := M) h' _ _ (gt w.painters i).scene.grid (gridAt w.keeper (gt w.painters i).ver) (gridB_mk (t1.le l.le)) ((gridR τ).lent q0 i')) (by rfl) ?_)
          repeat first | refine R1 ?_ | refine R2 fun _ => ?_
          refine sf_cond (by rfl) (fun e4 => ?_) fun e4 => ?_
          · repeat first | refine R1 ?_ | refine R2 fun _ => ?_
            exact sf_ret (rV (no (by rw [key]; simpa [hh, hv3] using e4)))
          · repeat first | refine R1 ?_ | refine R2 fun _ => ?_
            exact ⟨i + 1, by omega, ⟨rfl, trivial⟩, rfl, [(b1, .cells #[.int .i64 w.keeper.first.wide, c, ed, pt, s, ps, ns] 55)], _, inferInstance, rfl, by omega, yes (by rw [key]; simpa [hh, hv3] using e4)⟩
        · have hv3 : (gt w.painters i).ver > (w.keeper.edits.length : Int) := by omega
          rw [decide_eq_false hv, Bool.false_and] at key
          refine Sd [[],[0],[0,1],[0,1,2],[0,1,2,3],[0,1,2,3,4],[0,1,2,3,4,5],[0,1,2,3,4,5,6],[0,1,2,3,4,5,6,7],[0,1,2,3,4,5,6],[0,1,2,3,4,5,6,9],[0,1,2,3,4,5,6,9,10],[0,1,2,3,4,5,6,9,10,11],[0,1,2,3,4,5,6,7,8,9,10,11,12],[0,1,2,3,4,5,6,7,8,9,10,11,12,13],[0,1,2,3,4,5,6,7,8,9,10,11,12,13,14],[0,1,2,3,4,5,6,7,8,9,10,11,12,13,14,15],[0,1,2,3,4,5,6,7,8,9,10,11,12,13,14,15,16],[0,1,2,3,4,5,6,7,8,9,10,11,12,13,14],[0,1,2,3,4,5,6,7,8,9,10,11,12,13,14,18],[0,1,2,3,4,5,6,7,8,9,10,11,12,13,14],[0,1,2,3,4,5,6,7,8,9,10,11,12,13,14,20],[0,1,2,3,4,5,6,7,8,9,10,11,12,13,14,18,19,20,21],[0,1,2,3,4,5,6,7,8,9,10,11,12,13,14,15,16,17,18,19,20,21,22],[0,1,2,3,4,5,6,7,8,9,10,11,12,13,14,15,16,17,18,19,20,21,22,23],[0,1,2,3,4,5,6,7,8,9,10,11,12,13,14,15,16,17,18,19,20,21,22,23,24],[0,1,2,3,4,5,6,7,8,9,10,11,12,13,14,15,16,17,18,19,20,21,22,23,24,25],[0,1,2,3,4,5,6,7,8,9,10,11,12,13,14,15,16,17,18,19,20,21,22,23,24,25,26]] 23 [Nn 0,Yy 1,Nn 2,Nn 3,Nn 4,Nn 5,Nn 6,Nn 7,Nn 8,Nn 9,Nn 10,Nn 11,Nn 12,Nn 13,Nn 14,Nn 15,Nn 16,Nn 17,Nn 18,Nn 19,Nn 20,Nn 21,Nn 22] ?_
          refine Da ?_
          refine Yv qk ?_
          refine Da ?_
          refine Ae ?_
          repeat first | refine R1 ?_ | refine R2 fun _ => ?_
          refine sf_cond (by rfl) (fun e4 => ?_) fun e4 => ?_
          · repeat first | refine R1 ?_ | refine R2 fun _ => ?_
            exact sf_ret (rV (no key))
          · simp [hh, hv3] at e4
      · have hh' : (gt w.painters i).has = false := by simpa using hh
        refine Sd [[],[0],[0,1],[0,1,2],[0,1,2,3],[0,1,2,3,4],[0,1,2,3,4,5],[0,1,2,3,4,5,6],[0,1,2,3,4,5,6,7],[0,1,2,3,4,5,6],[0,1,2,3,4,5,6,9],[0,1,2,3,4,5,6,9,10],[0,1,2,3,4,5,6,9,10,11],[0,1,2,3,4,5,6,7,8,9,10,11,12],[0,1,2,3,4,5,6,7,8,9,10,11,12,13],[0,1,2,3,4,5,6,7,8,9,10,11,12,13,14],[0,1,2,3,4,5,6,7,8,9,10,11,12,13,14,15],[0,1,2,3,4,5,6,7,8,9,10,11,12,13,14,15,16],[0,1,2,3,4,5,6,7,8,9,10,11,12,13,14],[0,1,2,3,4,5,6,7,8,9,10,11,12,13,14,18],[0,1,2,3,4,5,6,7,8,9,10,11,12,13,14],[0,1,2,3,4,5,6,7,8,9,10,11,12,13,14,20],[0,1,2,3,4,5,6,7,8,9,10,11,12,13,14,18,19,20,21],[0,1,2,3,4,5,6,7,8,9,10,11,12,13,14,15,16,17,18,19,20,21,22],[0,1,2,3,4,5,6,7,8,9,10,11,12,13,14,15,16,17,18,19,20,21,22,23],[0,1,2,3,4,5,6,7,8,9,10,11,12,13,14,15,16,17,18,19,20,21,22,23,24],[0,1,2,3,4,5,6,7,8,9,10,11,12,13,14,15,16,17,18,19,20,21,22,23,24,25],[0,1,2,3,4,5,6,7,8,9,10,11,12,13,14,15,16,17,18,19,20,21,22,23,24,25,26]] 23 [Nn 0,Yy 1,Nn 2,Nn 3,Nn 4,Nn 5,Nn 6,Nn 7,Nn 8,Nn 9,Nn 10,Nn 11,Nn 12,Nn 13,Nn 14,Nn 15,Nn 16,Nn 17,Nn 18,Nn 19,Nn 20,Nn 21,Nn 22] ?_
        refine Da ?_
        refine Yv qk ?_
        refine Da ?_
        refine Ae ?_
        repeat first | refine R1 ?_ | refine R2 fun _ => ?_
        refine sf_cond (by rfl) (fun e4 => ?_) fun e4 => ?_
        · simp [hh'] at e4
        · repeat first | refine R1 ?_ | refine R2 fun _ => ?_
          exact ⟨i + 1, by omega, ⟨rfl, trivial⟩, rfl, [(b1, .cells #[.int .i64 w.keeper.first.wide, c, ed, pt, s, ps, ns] 55)], _, inferInstance, rfl, by omega, yes (painterTrue_no hp hh')⟩
    · have hp' : paintOk (gt w.painters i) = false := by simpa using hp
      rw [hp'] at qk
      refine Sd [[],[0],[0,1],[0,1,2],[0,1,2,3],[0,1,2,3,4],[0,1,2,3,4,5],[0,1,2,3,4,5,6],[0,1,2,3,4,5,6,7],[0,1,2,3,4,5,6],[0,1,2,3,4,5,6,9],[0,1,2,3,4,5,6,9,10],[0,1,2,3,4,5,6,9,10,11],[0,1,2,3,4,5,6,7,8,9,10,11,12],[0,1,2,3,4,5,6,7,8,9,10,11,12,13],[0,1,2,3,4,5,6,7,8,9,10,11,12,13,14],[0,1,2,3,4,5,6,7,8,9,10,11,12,13,14,15],[0,1,2,3,4,5,6,7,8,9,10,11,12,13,14,15,16],[0,1,2,3,4,5,6,7,8,9,10,11,12,13,14],[0,1,2,3,4,5,6,7,8,9,10,11,12,13,14,18],[0,1,2,3,4,5,6,7,8,9,10,11,12,13,14],[0,1,2,3,4,5,6,7,8,9,10,11,12,13,14,20],[0,1,2,3,4,5,6,7,8,9,10,11,12,13,14,18,19,20,21],[0,1,2,3,4,5,6,7,8,9,10,11,12,13,14,15,16,17,18,19,20,21,22],[0,1,2,3,4,5,6,7,8,9,10,11,12,13,14,15,16,17,18,19,20,21,22,23],[0,1,2,3,4,5,6,7,8,9,10,11,12,13,14,15,16,17,18,19,20,21,22,23,24],[0,1,2,3,4,5,6,7,8,9,10,11,12,13,14,15,16,17,18,19,20,21,22,23,24,25],[0,1,2,3,4,5,6,7,8,9,10,11,12,13,14,15,16,17,18,19,20,21,22,23,24,25,26]] 23 [Nn 0,Yy 1,Nn 2,Nn 3,Nn 4,Nn 5,Nn 6,Nn 7,Nn 8,Nn 9,Nn 10,Nn 11,Nn 12,Nn 13,Nn 14,Nn 15,Nn 16,Nn 17,Nn 18,Nn 19,Nn 20,Nn 21,Nn 22] ?_
      refine Da ?_
      refine Yv qk ?_
      refine Da ?_
      refine Ae ?_
      repeat first | refine R1 ?_ | refine R2 fun _ => ?_
      refine sf_cond (by rfl) (fun e4 => ?_) fun e4 => ?_
      · repeat first | refine R1 ?_ | refine R2 fun _ => ?_
        exact sf_ret (rV (no (by simp [painterTrue, hp'])))
      · simp at e4
  refine sf_exit ?_
  have hpt : w.painters.all (painterTrue w.keeper) = true := sAll_gt.2 fun j hj => ht j (by omega)
  rw [hpt, Bool.true_and]
  clear ht
  repeat first | refine R1 ?_ | refine R2 fun _ => ?_
  refine sf_lp (ι := Nat) [1] (fun i => [(5, .int .i64 (i : Int))]) (fun i O => O = [(b1, .cells #[.int .i64 w.keeper.first.wide, c, ed, pt, s, ps, ns] 55)] ∧ i ≤ w.nets.length ∧ ∀ j, j < i → wordTrue w.keeper (gt w.nets j) = true) (fun i => w.nets.length - i) 0 [(b1, .cells #[.int .i64 w.keeper.first.wide, c, ed, pt, s, ps, ns] 55)] ⟨rfl, by omega, fun j hj => by omega⟩ ?_
  clear h4 hi i
  rintro i O ⟨rfl, hi, ht⟩
  repeat first | refine R1 ?_ | refine R2 fun _ => ?_
  refine sf_if (fun h4 => ?_) fun h4 => ?_
  · have hi4 : i < w.nets.length := by omega
    have hi5 : i < rn.length := by omega
    have b4 := bn.at hi4
    have b5 := b4
    obtain ⟨c2, l2, ex, t1, t2⟩ := wordB b4
    have ex' : (gt rn i).cs = [.int .i64 (gt w.nets i).kind, .int .i64 (gt w.nets i).to, .int .i64 (gt w.nets i).frm, .int .i64 (gt w.nets i).ver, .int .i64 (gt w.nets i).grid.wide, c2, .int .i64 (gt w.nets i).edit.at', .int .i64 (gt w.nets i).edit.cell.kind, .int .i64 (gt w.nets i).edit.cell.light, l2] := ex
    haveI : FlatV (rawF (wordR τ).sz) (gt rn i) [.int .i64 (gt w.nets i).kind, .int .i64 (gt w.nets i).to, .int .i64 (gt w.nets i).frm, .int .i64 (gt w.nets i).ver, .int .i64 (gt w.nets i).grid.wide, c2, .int .i64 (gt w.nets i).edit.at', .int .i64 (gt w.nets i).edit.cell.kind, .int .i64 (gt w.nets i).edit.cell.light, l2] := ⟨ex'⟩
    rw [ex'] at b5
    have p1 := t1.one
    have p2 := t2.one
    repeat first | refine R1 ?_ | refine R2 fun _ => ?_
    refine Sd [[],[],[1],[],[1,2,3],[1,2,3,4],[0,1,2,3,4,5],[0,1,2,3,4,5,6]] 6 [Nn 0,Nn 1,Nn 2,Nn 3,Nn 4,Nn 5] ?_
    refine Da ?_
    refine Ae ?_
    refine Xv (l31Word_v (M := M) _ _ _ w (gt w.nets i) bw0 b5 hk e2') ?_
    repeat first | refine R1 ?_ | refine R2 fun _ => ?_
    refine sf_cond (by rfl) (fun e4 => ?_) fun e4 => ?_
    · have e4' : wordTrue w.keeper (gt w.nets i) = false := by simpa using e4
      repeat first | refine R1 ?_ | refine R2 fun _ => ?_
      refine sf_ret (rV ?_)
      rw [show w.nets.all (wordTrue w.keeper) = false from by
        rw [Bool.eq_false_iff]; intro z; rw [sAll_gt.1 z i hi4] at e4'; exact Bool.noConfusion e4']
    · have e4' : wordTrue w.keeper (gt w.nets i) = true := by simpa using e4
      repeat first | refine R1 ?_ | refine R2 fun _ => ?_
      refine ⟨i + 1, by omega, ⟨rfl, trivial⟩, rfl, [(b1, .cells #[.int .i64 w.keeper.first.wide, c, ed, pt, s, ps, ns] 55)], _, inferInstance, rfl, by omega, fun j hj => ?_⟩
      by_cases ej : j = i
      · subst ej; exact e4'
      · exact ht j (by omega)
  refine sf_exit ?_
  have hnt : w.nets.all (wordTrue w.keeper) = true := sAll_gt.2 fun j hj => ht j (by omega)
  rw [hnt]
  repeat first | refine R1 ?_ | refine R2 fun _ => ?_
  exact sf_ret (rV rfl)
theorem toCell_v (h : PHeap) (a b : Int) : CallV Tryz.prog M 110 [.agg #[.int .i64 a, .int .i64 b]] h (.agg #[.int .i64 a, .int .i64 b]) := by
  refine Cs Tryz.func110 Tryz.ntmps110 ?_
  repeat first | refine R1 ?_ | refine R2 fun _ => ?_
  exact sf_ret (rV rfl)
theorem toCellS_f (h : PHeap) (v : Value) (xs : List Cell) (s : Sl h v cellF xs) (hs : xs.length ≤ 1048576) : CallF Tryz.prog M 85 [v] [] h fun v' A => Gr A v' 67 cellF xs := by
  have o1 := s.one
  refine Cs Tryz.func85 Tryz.ntmps85 ?_
  refine Wo ?_
  refine Xm fun w A g => ?_
  refine Wo ?_
  refine sf_lp [0, 3] (fun k : Nat => [(4, .int .i64 (k : Int))]) (fun k O => k ≤ xs.length ∧ Gr O w 67 cellF (xs.take k ++ List.replicate (xs.length - k) ⟨0, 0⟩)) (fun k => xs.length - k) 0 A ⟨by omega, by simpa using g⟩ ?_
  rintro k O ⟨hk, g⟩
  refine Wo ?_
  refine sf_if (fun h4 => ?_) fun h4 => ?_
  · have hk4 : k < xs.length := by omega
    have hl : k < (xs.take k ++ List.replicate (xs.length - k) (⟨0, 0⟩ : Cell)).length := by simp; omega
    refine Wo ?_
    refine Xv (toCell_v _ _ _) ?_
    refine Wo ?_
    refine Xg g fun A ys ey ly _ g => ?_
    refine Wo ?_
    refine ⟨k + 1, by omega, ⟨rfl, trivial⟩, rfl, A, _, inferInstance, by omega, ?_⟩
    rw [← set_step hk4, ← ey]; exact g
  · refine sf_exit ?_
    refine Wo ?_
    refine sf_ret (rO O ?_)
    have : k = xs.length := by omega
    subst this
    simpa using g
end Go.Proofs.YtekjikbaefgncaaGreatDoor

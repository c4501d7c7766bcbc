/- Walks of the seat: SD SG SF SH SI SJ TA TB SK. -/
import Derived.Test.YtcpkcmgjfcbnpaaGreatDoorOwnA
import Derived.Test.YtcpkcmgjfcbnpaaGreatDoorLibC
import Derived.Test.YtcpkcmgjfcbnpaaGreatDoorLibD
import Derived.Test.YtcpkcmgjfcbnpaaGreatDoorSpP
import Derived.Test.YtcpkcmgjfcbnpaaGreatDoorLibE
import Derived.Test.YtcpkcmgjfcbnpaaGreatDoorLibF
set_option linter.unusedVariables false
set_option linter.unusedSimpArgs false
set_option linter.unusedSectionVars false
namespace Go.Proofs.YtcpkcmgjfcbnpaaGreatDoor
open Go Go.Sl
set_option maxRecDepth 100000
set_option maxHeartbeats 4000000
attribute [local irreducible] Go.Code.sf sfOps Opq opo retF Do1 anyO
variable {M : Jdg → Prop} [IsCl Tryz.prog M]
theorem l22Grid_f (h : PHeap) (ca : List Value) (k : Keeper) (b : (keeperR τ).B h ca k) (hk : HeadOk k) (v : Int) (hv : verOk k v = true) : CallF Tryz.prog M 54 [.agg ca.toArray, .int .i64 v] [] h fun u A => ∃ cs, u = .agg cs.toArray ∧ (gridR τ).O A cs (gridAt k v) := by
  obtain ⟨c, e, p, s, rfl, s1, s2, s3, s4⟩ := keeperB b
  have o1 := s1.one
  have o2 := s2.one
  have o3 := s3.one
  have o4 := s4.one
  have hsm := (gok hk.grid).small
  have h60 := hk.e60
  have hed := hk.edits
  simp only [verOk, Bool.and_eq_true, decide_eq_true_eq] at hv
  obtain ⟨n, rfl⟩ : ∃ n : Nat, v = n := ⟨v.toNat, by omega⟩
  rw [show gridAt k (n : Nat) = gridAfter k.first (k.edits.take n) from rfl]
  have hn : n ≤ k.edits.length := by omega
  generalize k.edits = es at *
  refine Cs Tryz.func54 Tryz.ntmps54 ?_
  repeat first | refine R1 ?_ | refine R2 fun _ => ?_
  refine fp (y_call (l1Copy_f _ _ k.first (gridB_mk s1) (by omega)) (by rfl) ?_)
  rintro _ A1 ⟨_, rfl, q⟩
  obtain ⟨c2, rfl, g1, l1⟩ := gridO q
  have o5 := g1.one
  repeat first | refine R1 ?_ | refine R2 fun _ => ?_
  rename_i b2 b4 b5
  refine sf_lp (ι := Nat) [1, 2, 4, 5] (fun i => [(6, .int .i64 (i : Int))]) (fun i O => i ≤ n ∧ ∃ A', O = (b5, .cells #[.int .i64 k.first.wide, c2] 25) :: (A' ++ [(b4, .cells #[.int .i64 0, .slice none 0 0] 25), (b2, .cells #[.int .i64 k.first.wide, c, e, p, s] 30)]) ∧ ∃ cs, cs = (gridAfter k.first (es.take i)).cells ∧ cs.length = k.first.cells.length ∧ Gr A' c2 46 cellF cs) (fun i => n - i) 0 ((b5, .cells #[.int .i64 k.first.wide, c2] 25) :: (A1 ++ [(b4, .cells #[.int .i64 0, .slice none 0 0] 25), (b2, .cells #[.int .i64 k.first.wide, c, e, p, s] 30)])) ⟨by omega, _, rfl, _, rfl, rfl, g1⟩ ?_
  rintro i O ⟨hi, A', rfl, cs, ecs, lcs, gr⟩
  have o6 := gr.one
  repeat first | refine R1 ?_ | refine R2 fun _ => ?_
  refine sf_if (fun h4 => ?_) fun h4 => ?_
  · have hi4 : i < es.length := by omega
    obtain ⟨e1, e2, e3⟩ := editOk_is (editsOk_at hed hi4)
    obtain ⟨a, ha⟩ : ∃ a : Nat, (gt es i).at' = a := ⟨(gt es i).at'.toNat, by omega⟩
    repeat first | refine R1 ?_ | refine R2 fun _ => ?_
    refine Sd [[],[0],[],[2],[],[2,3,4],[2,3,4,5],[2,3,4,5,6],[],[8],[],[8,9,10],[8,9,10,11],[8,9,10,11,12],[0,1,2,3,4,5,6,7,8,9,10,11,12,13],[0,1,2,3,4,5,6,7,8,9,10,11,12,13,14]] 14 [Nn 0,Nn 1,Nn 2,Nn 3,Nn 4,Nn 5,Nn 6,Nn 7,Nn 8,Nn 9,Nn 10,Nn 11,Nn 12,Nn 13] ?_
    refine Da ?_
    refine Ae ?_
    simp only [ha]
    repeat first | refine R1 ?_ | refine R2 fun _ => ?_
    refine Xg gr fun A2 cs2 ec lc _ g2 => ?_
    repeat first | refine R1 ?_ | refine R2 fun _ => ?_
    refine ⟨i + 1, by omega, ⟨rfl, trivial⟩, rfl, (b5, .cells #[.int .i64 k.first.wide, c2] 25) :: (A2 ++ [(b4, .cells #[.int .i64 0, .slice none 0 0] 25), (b2, .cells #[.int .i64 k.first.wide, c, e, p, s] 30)]), _, inferInstance, by omega, A2, rfl, cs2, ?_, by omega, g2⟩
    rw [gridAfter_step hi4, putCell, ec, ecs, ha]; rfl
  · refine sf_exit ?_
    obtain rfl : i = n := by omega
    repeat first | refine R1 ?_ | refine R2 fun _ => ?_
    refine sf_ret (rO A' ⟨_, rfl, ?_⟩)
    have := gridO_mk (τ := τ) (g := gridAfter k.first (es.take i)) (c := c2) (A := A') (by rw [← ecs]; exact gr) (by rw [← ecs]; omega)
    rw [(gridAfter_same (es.take i) k.first).1] at this
    exact this
theorem l21Own_f (h : PHeap) (c : Value) (g : Grid) (s : Sl h c cellF g.cells) {R : Int} (kg : Gok g R) (id many : Nat) (h1 : 1 ≤ id) (h2 : id ≤ many) (h3 : many ≤ 3) : CallF Tryz.prog M 90 [.agg #[.int .i64 g.wide, c], .int .i64 (id : Int), .int .i64 (many : Int)] [] h fun u A => Gr A u 3 intF (ownList (manyOf g).toNat many id) := by
  have o1 := s.one
  have hm := kg.many
  obtain ⟨S, hS⟩ : ∃ S : Nat, manyOf g = S := ⟨(manyOf g).toNat, by omega⟩
  rw [hS] at hm ⊢
  simp only [Int.toNat_natCast]
  have hc : ∀ j, j < ownCnt S many id ↔ id - 1 + j * many < S := fun j => ownCnt_lt h1 h2 h3
  refine Cs Tryz.func90 Tryz.ntmps90 ?_
  repeat first | refine R1 ?_ | refine R2 fun _ => ?_
  refine Xb fun w A0 g0 => ?_
  repeat first | refine R1 ?_ | refine R2 fun _ => ?_
  rename_i b3
  rw [show (id : Int) - 1 = ((id - 1 + 0 * many : Nat) : Int) by omega]
  refine sf_lp (ι := Nat × Value) [2, 3] (fun x => [(8, .int .i64 ((id - 1 + x.1 * many : Nat) : Int)), (7, x.2)]) (fun x O => x.1 ≤ ownCnt S many id ∧ ∃ A', O = A' ++ [(b3, .cells #[.int .i64 g.wide, c] 25)] ∧ ∃ xs, xs.length = x.1 ∧ xs = ((List.range x.1).map fun j => ((id - 1 + j * many : Nat) : Int)) ∧ Gr A' x.2 3 intF xs) (fun x => ownCnt S many id - x.1) (0, w) (A0 ++ [(b3, .cells #[.int .i64 g.wide, c] 25)]) ⟨by omega, A0, rfl, [], rfl, rfl, g0⟩ ?_
  rintro ⟨j, v⟩ O ⟨hj, A', rfl, xs, lx, ex, gr⟩
  simp only at hj lx ex gr ⊢
  have o2 := gr.one
  repeat first | refine R1 ?_ | refine R2 fun _ => ?_
  refine Xv (l3Many_v h c g s kg) ?_
  rw [hS]
  have hjm : j * many ≤ 20 * 3 ∧ j ≤ 20 := by
    rcases Nat.eq_zero_or_pos j with rfl | hj0
    · omega
    · have := (hc (j - 1)).1 (by omega)
      have h4 : (j - 1) * many ≤ 20 * 3 := by omega
      have h5 : j * many = (j - 1) * many + many := by
        obtain ⟨k, rfl⟩ : ∃ k, j = k + 1 := ⟨j - 1, by omega⟩
        rw [Nat.add_sub_cancel, Nat.add_mul, Nat.one_mul]
      have h6 : j ≤ 20 := by
        have : (j - 1) * 1 ≤ (j - 1) * many := Nat.mul_le_mul_left _ (by omega)
        omega
      exact ⟨Nat.mul_le_mul h6 h3, h6⟩
  repeat first | refine R1 ?_ | refine R2 fun _ => ?_
  refine sf_if (fun h4 => ?_) fun h4 => ?_
  · have hj4 : j < ownCnt S many id := (hc j).2 (by omega)
    repeat first | refine R1 ?_ | refine R2 fun _ => ?_
    refine Xb fun u Au gu => ?_
    repeat first | refine R1 ?_ | refine R2 fun _ => ?_
    refine Xa gr gu fun v2 A2 g2 => ?_
    repeat first | refine R1 ?_ | refine R2 fun _ => ?_
    refine ⟨(j + 1, v2), by simp only; omega, ⟨?_, rfl, trivial⟩, rfl, A2 ++ [(b3, .cells #[.int .i64 g.wide, c] 25)], _, inferInstance, by simp only; omega, A2, rfl, _, by simp; omega, by rw [ownList_step, ex], g2⟩
    rw [show ((id - 1 + (j + 1) * many : Nat) : Int) = ((id - 1 + j * many : Nat) : Int) + (many : Int) by rw [Nat.add_mul, Nat.one_mul]; omega]
    rfl
  · refine sf_exit ?_
    have : j = ownCnt S many id := by
      rcases Nat.lt_or_ge j (ownCnt S many id) with h | h
      · have := (hc j).1 h; omega
      · omega
    repeat first | refine R1 ?_ | refine R2 fun _ => ?_
    refine sf_ret (rO A' ?_)
    rw [ownList, ← this, ← ex]; exact gr
theorem l22Own_f (h : PHeap) (ca : List Value) (k : Keeper) (b : (keeperR τ).B h ca k) (hk : HeadOk k) (id : Nat) (h1 : 1 ≤ id) (h2 : id ≤ k.parts.length) (v : Int) (hv : verOk k v = true) : CallF Tryz.prog M 52 [.agg ca.toArray, .int .i64 (id : Int), .int .i64 v] [] h fun u A => Gr A u 3 intF (partLights k id v) := by
  have b0 := b
  obtain ⟨c, e, p, s, rfl, s1, s2, s3, s4⟩ := keeperB b
  have o1 := s1.one
  have o2 := s2.one
  have o3 := s3.one
  have o4 := s4.one
  obtain ⟨rp, sp, bp⟩ := s3
  have lp := bp.len
  have n3 := hk.n3
  have gok' := gridAt_ok hk.grid hk.edits v
  have kg := gok gok'
  have hmm := kg.many
  have hmy := gridAt_many k v
  have hpl : (picOf (gridAt k v)).length = (manyOf (gridAt k v)).toNat := picOf_len _
  refine Cs Tryz.func52 Tryz.ntmps52 ?_
  repeat first | refine R1 ?_ | refine R2 fun _ => ?_
  refine fp (y_call (l22Grid_f _ _ k b0 hk v hv) (by rfl) ?_)
  rintro _ A1 ⟨cs, rfl, q⟩
  obtain ⟨c2, rfl, g1, l1⟩ := gridO q
  have o5 := g1.one
  repeat first | refine R1 ?_ | refine R2 fun _ => ?_
  refine fp (y_lend A1 (fun h' _ i => l12Pic_f h' c2 _ (g1.lent (by omega) i) kg) (by rfl) ?_)
  intro v2 A2 g2
  have o6 := g2.one
  repeat first | refine R1 ?_ | refine R2 fun _ => ?_
  refine fp (y_lend A1 (fun h' _ i => l21Own_f h' c2 _ (g1.lent (by omega) i) kg id rp.length h1 (by omega) (by omega)) (by rfl) ?_)
  intro v3 A3 g3
  have o7 := g3.one
  rw [lp, hmy] at g3
  rw [hmy] at hpl hmm
  repeat first | refine R1 ?_ | refine R2 fun _ => ?_
  refine Xb fun w A4 g4 => ?_
  repeat first | refine R1 ?_ | refine R2 fun _ => ?_
  obtain ⟨S, hS⟩ : ∃ S : Nat, manyOf k.first = S := ⟨(manyOf k.first).toNat, by omega⟩
  have hP : partLights k id v = ownLights (picOf (gridAt k v)) S k.parts.length id := by rw [partLights, hS]; rfl
  rw [hP]
  rw [hS] at g3 hpl hmm
  simp only [Int.toNat_natCast] at g3 hpl
  have hl := ownList_len S k.parts.length id
  have hc : ∀ j, j < ownCnt S k.parts.length id ↔ id - 1 + j * k.parts.length < S := fun j => ownCnt_lt h1 h2 n3
  have hat : ∀ j, j < ownCnt S k.parts.length id → gt (ownList S k.parts.length id) j = ((id - 1 + j * k.parts.length : Nat) : Int) := fun j hj => ownList_at hj
  have hcn : ownCnt S k.parts.length id ≤ S + k.parts.length - id := Nat.div_le_self _ _
  clear hP
  rw [ownLights]
  generalize hxs : ownList S k.parts.length id = xs at *
  generalize hpc : picOf (gridAt k v) = pc at *
  rename_i b3 b7
  refine sf_lp (ι := Nat × Value) [8, 9] (fun x => [(11, .int .i64 (x.1 : Int)), (10, x.2)]) (fun x O => x.1 ≤ xs.length ∧ ∃ A', O = A' ++ (A2 ++ A3) ∧ Gr A' x.2 3 intF ((xs.take x.1).map fun k => gt pc k.toNat)) (fun x => xs.length - x.1) (0, w) (A4 ++ (A2 ++ A3)) ⟨by omega, A4, rfl, g4⟩ ?_
  rintro ⟨j, u⟩ O ⟨hj, A', rfl, gr⟩
  simp only at hj gr ⊢
  have o8 := gr.one
  have hlt : ((xs.take j).map fun k => gt pc k.toNat).length = j := by rw [List.length_map, List.length_take]; omega
  repeat first | refine R1 ?_ | refine R2 fun _ => ?_
  refine sf_if (fun h4 => ?_) fun h4 => ?_
  · have hj4 : j < ownCnt S k.parts.length id := by omega
    have ha := hat j hj4
    have hb := (hc j).1 hj4
    have hstep : ((xs.take (j + 1)).map fun k => gt pc k.toNat) = ((xs.take j).map fun k => gt pc k.toNat) ++ [gt pc (id - 1 + j * k.parts.length)] := by
      rw [take_succ_gt (by omega), List.map_append, ha]; rfl
    have hj5 : j < xs.length := by omega
    have hj6 : id - 1 + j * k.parts.length < pc.length := by omega
    repeat first | refine R1 ?_ | refine R2 fun _ => ?_
    simp only [ha]
    repeat first | refine R1 ?_ | refine R2 fun _ => ?_
    refine Xb fun w2 Au gu => ?_
    repeat first | refine R1 ?_ | refine R2 fun _ => ?_
    refine Xa gr gu fun u2 A5 g5 => ?_
    repeat first | refine R1 ?_ | refine R2 fun _ => ?_
    exact ⟨(j + 1, u2), by simp only; omega, ⟨rfl, rfl, trivial⟩, rfl, A5 ++ (A2 ++ A3), _, inferInstance, by simp only; omega, A5, rfl, by rw [hstep]; exact g5⟩
  · refine sf_exit ?_
    repeat first | refine R1 ?_ | refine R2 fun _ => ?_
    refine sf_ret (rO A' ?_)
    rw [← take_ge (xs := xs) hj (by omega)]; exact gr
theorem sKeepOk_v (h : PHeap) (ca : List Value) (k : Keeper) (b : (keeperR τ).B h ca k) : CallV Tryz.prog M 14 [.agg ca.toArray] h (.bool (keepOk k)) := by
  have b0 := b
  obtain ⟨c, ed, p, s, rfl, s1, s2, s3, s4⟩ := keeperB b
  have o1 := s1.one
  have o2 := s2.one
  have o3 := s3.one
  have o4 := s4.one
  obtain ⟨rp, sp, bp⟩ := s3
  obtain ⟨rs, ss, bs⟩ := s4
  have lp := bp.len
  have ls := bs.len
  have hsp := sp.small
  have hss := ss.small
  have hs2 := s2.small
  have hN : keepHead k = false → keepOk k = false := fun e => by simp [keepOk, e]
  refine Cs Tryz.func14 Tryz.ntmps14 ?_
  repeat first | refine R1 ?_ | refine R2 fun _ => ?_
  refine Xv (sGridOk_v _ _ k.first ⟨c, rfl, s1⟩) ?_
  repeat first | refine R1 ?_ | refine R2 fun _ => ?_
  refine f_splitB (fun g0 => ?_) fun g0 => ?_
  · have g0' := g0
    simp only [Bool.not_eq_true'] at g0'
    repeat first | refine R1 ?_ | refine R2 fun _ => ?_
    refine sf_T rfl ?_
    repeat first | refine R1 ?_ | refine R2 fun _ => ?_
    exact sf_ret (rV (by rw [hN (by simp [keepHead, g0'])]))
  have g0' := g0
  simp only [Bool.not_eq_false'] at g0'
  repeat first | refine R1 ?_ | refine R2 fun _ => ?_
  refine Xv (l6In_v _ _ _ _) ?_
  repeat first | refine R1 ?_ | refine R2 fun _ => ?_
  refine f_splitB (fun g1 => ?_) fun g1 => ?_
  · repeat first | refine R1 ?_ | refine R2 fun _ => ?_
    refine sf_T rfl ?_
    repeat first | refine R1 ?_ | refine R2 fun _ => ?_
    exact sf_ret (rV (by rw [hN (by simp at g1; simp [keepHead]; intros; omega)]))
  repeat first | refine R1 ?_ | refine R2 fun _ => ?_
  refine Xv (l22Edits_v _ _ k b0) ?_
  repeat first | refine R1 ?_ | refine R2 fun _ => ?_
  refine sf_cond (by rfl) (fun g4 => ?_) fun g4 => ?_
  · repeat first | refine R1 ?_ | refine R2 fun _ => ?_
    exact sf_ret (rV (by rw [hN (by simp at g4; simp [keepHead]; intros; rcases g4 with h | h <;> first | exact h | (exfalso; omega))]))
  have hk : HeadOk k := by
    simp at g1 g4
    exact ⟨g0', by omega, by omega, g4.1, g4.2⟩
  have hK := hk.is
  have hF : ∀ {b : Bool}, (partsOk k k.parts.length && shownsOk k k.shown.length) = b → keepOk k = b := fun e => by rw [keepOk, hK, Bool.true_and]; exact e
  have n3 := hk.n3
  clear hN g0 g1 g4
  repeat first | refine R1 ?_ | refine R2 fun _ => ?_
  rename_i b1
  refine sf_lp (ι := Nat) [1, 3] (fun i => [(4, .int .i64 (i : Int))]) (fun i O => (i ≤ rp.length ∧ partsOk k i = true) ∧ O = [(b1, .cells #[.int .i64 k.first.wide, c, ed, p, s] 30)]) (fun i => rp.length - i) 0 [(b1, .cells #[.int .i64 k.first.wide, c, ed, p, s] 30)] ⟨⟨by omega, rfl⟩, rfl⟩ ?_
  rintro i O ⟨⟨hi, hpi⟩, rfl⟩
  repeat first | refine R1 ?_ | refine R2 fun _ => ?_
  refine sf_if (fun e1 => ?_) fun e1 => ?_
  · have hi1 : i < k.parts.length := by omega
    have hi2 : i < rp.length := by omega
    obtain ⟨l, ex, sl⟩ := partB (bp.at hi1)
    have ol := sl.one
    have hsl := sl.small
    have hG : partOk k (i + 1) (gt k.parts i) = false → keepOk k = false := fun e => hF (by rw [partsOk_F hi1 e]; rfl)
    have hS : partsOk k (i + 1) = partOk k (i + 1) (gt k.parts i) := by rw [partsOk_step, hpi, Bool.true_and]
    have hpo : partOk k (i + 1) (gt k.parts i) = if (gt k.parts i).has = true then verOk k (gt k.parts i).ver && decide ((gt k.parts i).lights = partLights k (i + 1) (gt k.parts i).ver) else decide ((gt k.parts i).ver = 0) && decide ((gt k.parts i).lights.length = 0) := rfl
    haveI : FlatV (rawF (partR τ).sz) (gt rp i) [.bool (gt k.parts i).has, .int .i64 (gt k.parts i).ver, l] := ⟨ex⟩
    repeat first | refine R1 ?_ | refine R2 fun _ => ?_
    refine sf_keep [1, 3, 4, 5] ?_
    cases hh : (gt k.parts i).has with
    | false =>
      rw [hh] at hpo
      simp only [Bool.false_eq_true, if_false] at hpo
      by_cases h2 : (gt k.parts i).ver ≠ 0
      · refine Sd [[],[0],[0,1],[0,1,2],[0,1,2,3],[0,1,2,3,4],[0,1,2,3,4,5],[0,1,2,3,4,5,6],[0,1,2,3,4,5,6,7],[0,1,2,3,4,5,6,7,8],[0,1,2,3,4,5,6,7,8,9],[0,1,2,3,4,5,6,7,8,9,10],[0,1,2,3,4,5,6,7,8,9,10,11],[0,1,2,3,4,5,6,7,8,9,10,11,12],[0,1,2,3,4,5,6,7,8,9,10,11,12,13],[0,1,2,3,4,5,6,7,8,9,10,11,12,13,14],[0,1,2,3,4,5,6,7,8,9,10,11,12,13,14,15],[0,1,2,3,4,5,6,7,8,9,10,11,12,13,14,15,16],[0,1,2,3,4,5,6,7,8,9,10,11,12,13,14,15,16,17],[0,1,2,3,4,5,6,7,8,9,10,11,12,13,14,15,16,17,18],[0,1,2,3,4,5,6,7,8,9,10,11,12,13,14,15,16,17],[0,1,2,3,4,5,6,7,8,9,10,11,12,13,14,15,16,17,18,19,20],[0,1,2,3,4,5,6,7,8,9,10,11,12,13,14,15,16,17,18,19,20,21],[0,1,2,3,4,5,6,7,8,9,10,11,12,13,14,15,16,17,18,19,20,21,22],[0,1,2,3,4,5,6,7,8,9,10,11,12,13,14,15,16,17,18,19,20,21,22,23],[0,1,2,3,4,5,6,7,8,9,10,11,12,13,14,15,16,17,18,19,20,21,22,23,24],[0,1,2,3,4,5,6,7,8,9,10,11,12,13,14,15,16,17,18,19,20,21,22,23],[0,1,2,3,4,5,6,7,8,9,10,11,12,13,14,15,16,17,18,19,20,21,22,23],[0,1,2,3,4,5,6,7,8,9,10,11,12,13,14,15,16,17,18,19,20,21,22,23,27],[0,1,2,3,4,5,6,7,8,9,10,11,12,13,14,15,16,17,18,19,20,21,22,23],[0,1,2,3,4,5,6,7,8,9,10,11,12,13,14,15,16,17,18,19,20,21,22,23,29],[0,1,2,3,4,5,6,7,8,9,10,11,12,13,14,15,16,17,18,19,20,21,22,23,26,27,28,29,30],[0,1,2,3,4,5,6,7,8,9,10,11,12,13,14,15,16,17,18,19,20,21,22,23,24,25,26,27,28,29,30,31],[0,1,2,3,4,5,6,7,8,9,10,11,12,13,14,15,16,17,18,19,20,21,22,23,24,25,26,27,28,29,30,31,32],[0,1,2,3,4,5,6,7,8,9,10,11,12,13,14,15,16,17,18,19,20,21,22,23,24,25,26,27,28,29,30,31,32,33],[0,1,2,3,4,5,6,7,8,9,10,11,12,13,14,15,16,17,18,19,20,21,22,23,24,25,26,27,28,29,30,31,32,33,34],[0,1,2,3,4,5,6,7,8,9,10,11,12,13,14,15,16,17,18,19,20,21,22,23,24,25,26,27,28,29,30,31,32,33,34,35]] 32 [Nn 0,Nn 1,Nn 2,Nn 3,Nn 4,Nn 5,Nn 6,Nn 7,Nn 8,Nn 9,Nn 10,Nn 11,Nn 12,Nn 13,Nn 14,Nn 15,Nn 16,Nn 17,Nn 18,Nn 19,Nn 20,Nn 21,Nn 22,Nn 23,Nn 24,Nn 25,Nn 26,Nn 27,Nn 28,Nn 29,Nn 30,Nn 31] ?_
        refine Da ?_
        refine Ae ?_
        repeat first | refine R1 ?_ | refine R2 fun _ => ?_
        refine sf_T rfl ?_
        repeat first | refine R1 ?_ | refine R2 fun _ => ?_
        exact sf_ret (rV (by rw [hG (by rw [hpo]; simp [h2])]))
      · by_cases h3 : ((gt k.parts i).lights.length : Int) > 0
        · refine Sd [[],[0],[0,1],[0,1,2],[0,1,2,3],[0,1,2,3,4],[0,1,2,3,4,5],[0,1,2,3,4,5,6],[0,1,2,3,4,5,6,7],[0,1,2,3,4,5,6,7,8],[0,1,2,3,4,5,6,7,8,9],[0,1,2,3,4,5,6,7,8,9,10],[0,1,2,3,4,5,6,7,8,9,10,11],[0,1,2,3,4,5,6,7,8,9,10,11,12],[0,1,2,3,4,5,6,7,8,9,10,11,12,13],[0,1,2,3,4,5,6,7,8,9,10,11,12,13,14],[0,1,2,3,4,5,6,7,8,9,10,11,12,13,14,15],[0,1,2,3,4,5,6,7,8,9,10,11,12,13,14,15,16],[0,1,2,3,4,5,6,7,8,9,10,11,12,13,14,15,16,17],[0,1,2,3,4,5,6,7,8,9,10,11,12,13,14,15,16,17,18],[0,1,2,3,4,5,6,7,8,9,10,11,12,13,14,15,16,17],[0,1,2,3,4,5,6,7,8,9,10,11,12,13,14,15,16,17,18,19,20],[0,1,2,3,4,5,6,7,8,9,10,11,12,13,14,15,16,17,18,19,20,21],[0,1,2,3,4,5,6,7,8,9,10,11,12,13,14,15,16,17,18,19,20,21,22],[0,1,2,3,4,5,6,7,8,9,10,11,12,13,14,15,16,17,18,19,20,21,22,23],[0,1,2,3,4,5,6,7,8,9,10,11,12,13,14,15,16,17,18,19,20,21,22,23,24],[0,1,2,3,4,5,6,7,8,9,10,11,12,13,14,15,16,17,18,19,20,21,22,23],[0,1,2,3,4,5,6,7,8,9,10,11,12,13,14,15,16,17,18,19,20,21,22,23],[0,1,2,3,4,5,6,7,8,9,10,11,12,13,14,15,16,17,18,19,20,21,22,23,27],[0,1,2,3,4,5,6,7,8,9,10,11,12,13,14,15,16,17,18,19,20,21,22,23],[0,1,2,3,4,5,6,7,8,9,10,11,12,13,14,15,16,17,18,19,20,21,22,23,29],[0,1,2,3,4,5,6,7,8,9,10,11,12,13,14,15,16,17,18,19,20,21,22,23,26,27,28,29,30],[0,1,2,3,4,5,6,7,8,9,10,11,12,13,14,15,16,17,18,19,20,21,22,23,24,25,26,27,28,29,30,31],[0,1,2,3,4,5,6,7,8,9,10,11,12,13,14,15,16,17,18,19,20,21,22,23,24,25,26,27,28,29,30,31,32],[0,1,2,3,4,5,6,7,8,9,10,11,12,13,14,15,16,17,18,19,20,21,22,23,24,25,26,27,28,29,30,31,32,33],[0,1,2,3,4,5,6,7,8,9,10,11,12,13,14,15,16,17,18,19,20,21,22,23,24,25,26,27,28,29,30,31,32,33,34],[0,1,2,3,4,5,6,7,8,9,10,11,12,13,14,15,16,17,18,19,20,21,22,23,24,25,26,27,28,29,30,31,32,33,34,35]] 32 [Nn 0,Nn 1,Nn 2,Nn 3,Nn 4,Nn 5,Nn 6,Nn 7,Nn 8,Nn 9,Nn 10,Nn 11,Nn 12,Nn 13,Nn 14,Nn 15,Nn 16,Nn 17,Nn 18,Nn 19,Nn 20,Nn 21,Nn 22,Nn 23,Nn 24,Nn 25,Nn 26,Nn 27,Nn 28,Nn 29,Nn 30,Nn 31] ?_
          refine Da ?_
          refine Ae ?_
          repeat first | refine R1 ?_ | refine R2 fun _ => ?_
          refine sf_T rfl ?_
          repeat first | refine R1 ?_ | refine R2 fun _ => ?_
          exact sf_ret (rV (by rw [hG (by rw [hpo, decide_eq_false (p := (gt k.parts i).lights.length = 0) (by omega)]; simp)]))
        · refine Sd [[],[0],[0,1],[0,1,2],[0,1,2,3],[0,1,2,3,4],[0,1,2,3,4,5],[0,1,2,3,4,5,6],[0,1,2,3,4,5,6,7],[0,1,2,3,4,5,6,7,8],[0,1,2,3,4,5,6,7,8,9],[0,1,2,3,4,5,6,7,8,9,10],[0,1,2,3,4,5,6,7,8,9,10,11],[0,1,2,3,4,5,6,7,8,9,10,11,12],[0,1,2,3,4,5,6,7,8,9,10,11,12,13],[0,1,2,3,4,5,6,7,8,9,10,11,12,13,14],[0,1,2,3,4,5,6,7,8,9,10,11,12,13,14,15],[0,1,2,3,4,5,6,7,8,9,10,11,12,13,14,15,16],[0,1,2,3,4,5,6,7,8,9,10,11,12,13,14,15,16,17],[0,1,2,3,4,5,6,7,8,9,10,11,12,13,14,15,16,17,18],[0,1,2,3,4,5,6,7,8,9,10,11,12,13,14,15,16,17],[0,1,2,3,4,5,6,7,8,9,10,11,12,13,14,15,16,17,18,19,20],[0,1,2,3,4,5,6,7,8,9,10,11,12,13,14,15,16,17,18,19,20,21],[0,1,2,3,4,5,6,7,8,9,10,11,12,13,14,15,16,17,18,19,20,21,22],[0,1,2,3,4,5,6,7,8,9,10,11,12,13,14,15,16,17,18,19,20,21,22,23],[0,1,2,3,4,5,6,7,8,9,10,11,12,13,14,15,16,17,18,19,20,21,22,23,24],[0,1,2,3,4,5,6,7,8,9,10,11,12,13,14,15,16,17,18,19,20,21,22,23],[0,1,2,3,4,5,6,7,8,9,10,11,12,13,14,15,16,17,18,19,20,21,22,23],[0,1,2,3,4,5,6,7,8,9,10,11,12,13,14,15,16,17,18,19,20,21,22,23,27],[0,1,2,3,4,5,6,7,8,9,10,11,12,13,14,15,16,17,18,19,20,21,22,23],[0,1,2,3,4,5,6,7,8,9,10,11,12,13,14,15,16,17,18,19,20,21,22,23,29],[0,1,2,3,4,5,6,7,8,9,10,11,12,13,14,15,16,17,18,19,20,21,22,23,26,27,28,29,30],[0,1,2,3,4,5,6,7,8,9,10,11,12,13,14,15,16,17,18,19,20,21,22,23,24,25,26,27,28,29,30,31],[0,1,2,3,4,5,6,7,8,9,10,11,12,13,14,15,16,17,18,19,20,21,22,23,24,25,26,27,28,29,30,31,32],[0,1,2,3,4,5,6,7,8,9,10,11,12,13,14,15,16,17,18,19,20,21,22,23,24,25,26,27,28,29,30,31,32,33],[0,1,2,3,4,5,6,7,8,9,10,11,12,13,14,15,16,17,18,19,20,21,22,23,24,25,26,27,28,29,30,31,32,33,34],[0,1,2,3,4,5,6,7,8,9,10,11,12,13,14,15,16,17,18,19,20,21,22,23,24,25,26,27,28,29,30,31,32,33,34,35]] 32 [Nn 0,Nn 1,Nn 2,Nn 3,Nn 4,Nn 5,Nn 6,Nn 7,Nn 8,Nn 9,Nn 10,Nn 11,Nn 12,Nn 13,Nn 14,Nn 15,Nn 16,Nn 17,Nn 18,Nn 19,Nn 20,Nn 21,Nn 22,Nn 23,Nn 24,Nn 25,Nn 26,Nn 27,Nn 28,Nn 29,Nn 30,Nn 31] ?_
          refine Da ?_
          refine Ae ?_
          repeat first | refine R1 ?_ | refine R2 fun _ => ?_
          refine sf_N rfl ?_
          repeat first | refine R1 ?_ | refine R2 fun _ => ?_
          exact ⟨i + 1, by omega, ⟨rfl, trivial⟩, rfl, _, _, inferInstance, ⟨by omega, by rw [hS, hpo, decide_eq_true (p := (gt k.parts i).lights.length = 0) (by omega), decide_eq_true (p := (gt k.parts i).ver = 0) (by omega)]; rfl⟩, rfl⟩
    | true =>
      rw [hh] at hpo
      simp only [if_true] at hpo
      have c21 : ∀ h, CallV Tryz.prog M 49 [.int .i64 (gt k.parts i).ver, .int .i64 0, .int .i64 k.edits.length] h (.bool (verOk k (gt k.parts i).ver)) := fun h => l6In_v h _ _ _
      cases hv : verOk k (gt k.parts i).ver with
      | false =>
        rw [hv] at c21 hpo
        refine Sd [[],[0],[0,1],[0,1,2],[0,1,2,3],[0,1,2,3,4],[0,1,2,3,4,5],[0,1,2,3,4,5,6],[0,1,2,3,4,5,6,7],[0,1,2,3,4,5,6,7,8],[0,1,2,3,4,5,6,7,8,9],[0,1,2,3,4,5,6,7,8,9,10],[0,1,2,3,4,5,6,7,8,9,10,11],[0,1,2,3,4,5,6,7,8,9,10,11,12],[0,1,2,3,4,5,6,7,8,9,10,11,12,13],[0,1,2,3,4,5,6,7,8,9,10,11,12,13,14],[0,1,2,3,4,5,6,7,8,9,10,11,12,13,14,15],[0,1,2,3,4,5,6,7,8,9,10,11,12,13,14,15,16],[0,1,2,3,4,5,6,7,8,9,10,11,12,13,14,15,16,17],[0,1,2,3,4,5,6,7,8,9,10,11,12,13,14,15,16,17,18],[0,1,2,3,4,5,6,7,8,9,10,11,12,13,14,15,16,17],[0,1,2,3,4,5,6,7,8,9,10,11,12,13,14,15,16,17,18,19,20],[0,1,2,3,4,5,6,7,8,9,10,11,12,13,14,15,16,17,18,19,20,21],[0,1,2,3,4,5,6,7,8,9,10,11,12,13,14,15,16,17,18,19,20,21,22],[0,1,2,3,4,5,6,7,8,9,10,11,12,13,14,15,16,17,18,19,20,21,22,23],[0,1,2,3,4,5,6,7,8,9,10,11,12,13,14,15,16,17,18,19,20,21,22,23,24],[0,1,2,3,4,5,6,7,8,9,10,11,12,13,14,15,16,17,18,19,20,21,22,23],[0,1,2,3,4,5,6,7,8,9,10,11,12,13,14,15,16,17,18,19,20,21,22,23],[0,1,2,3,4,5,6,7,8,9,10,11,12,13,14,15,16,17,18,19,20,21,22,23,27],[0,1,2,3,4,5,6,7,8,9,10,11,12,13,14,15,16,17,18,19,20,21,22,23],[0,1,2,3,4,5,6,7,8,9,10,11,12,13,14,15,16,17,18,19,20,21,22,23,29],[0,1,2,3,4,5,6,7,8,9,10,11,12,13,14,15,16,17,18,19,20,21,22,23,26,27,28,29,30],[0,1,2,3,4,5,6,7,8,9,10,11,12,13,14,15,16,17,18,19,20,21,22,23,24,25,26,27,28,29,30,31],[0,1,2,3,4,5,6,7,8,9,10,11,12,13,14,15,16,17,18,19,20,21,22,23,24,25,26,27,28,29,30,31,32],[0,1,2,3,4,5,6,7,8,9,10,11,12,13,14,15,16,17,18,19,20,21,22,23,24,25,26,27,28,29,30,31,32,33],[0,1,2,3,4,5,6,7,8,9,10,11,12,13,14,15,16,17,18,19,20,21,22,23,24,25,26,27,28,29,30,31,32,33,34],[0,1,2,3,4,5,6,7,8,9,10,11,12,13,14,15,16,17,18,19,20,21,22,23,24,25,26,27,28,29,30,31,32,33,34,35]] 32 [Nn 0,Nn 1,Nn 2,Nn 3,Nn 4,Nn 5,Nn 6,Nn 7,Nn 8,Nn 9,Nn 10,Nn 11,Nn 12,Nn 13,Nn 14,Nn 15,Nn 16,Nn 17,Nn 18,Nn 19,Nn 20,Yy 21,Nn 22,Nn 23,Nn 24,Nn 25,Nn 26,Nn 27,Nn 28,Nn 29,Nn 30,Nn 31] ?_
        refine Da ?_
        refine Yv (c21 h) ?_
        refine Da ?_
        refine Ae ?_
        repeat first | refine R1 ?_ | refine R2 fun _ => ?_
        refine sf_T rfl ?_
        repeat first | refine R1 ?_ | refine R2 fun _ => ?_
        exact sf_ret (rV (by rw [hG (by rw [hpo]; rfl)]))
      | true =>
        rw [hv] at c21 hpo
        rw [Bool.true_and] at hpo
        refine Sd [[],[0],[0,1],[0,1,2],[0,1,2,3],[0,1,2,3,4],[0,1,2,3,4,5],[0,1,2,3,4,5,6],[0,1,2,3,4,5,6,7],[0,1,2,3,4,5,6,7,8],[0,1,2,3,4,5,6,7,8,9],[0,1,2,3,4,5,6,7,8,9,10],[0,1,2,3,4,5,6,7,8,9,10,11],[0,1,2,3,4,5,6,7,8,9,10,11,12],[0,1,2,3,4,5,6,7,8,9,10,11,12,13],[0,1,2,3,4,5,6,7,8,9,10,11,12,13,14],[0,1,2,3,4,5,6,7,8,9,10,11,12,13,14,15],[0,1,2,3,4,5,6,7,8,9,10,11,12,13,14,15,16],[0,1,2,3,4,5,6,7,8,9,10,11,12,13,14,15,16,17],[0,1,2,3,4,5,6,7,8,9,10,11,12,13,14,15,16,17,18],[0,1,2,3,4,5,6,7,8,9,10,11,12,13,14,15,16,17],[0,1,2,3,4,5,6,7,8,9,10,11,12,13,14,15,16,17,18,19,20],[0,1,2,3,4,5,6,7,8,9,10,11,12,13,14,15,16,17,18,19,20,21],[0,1,2,3,4,5,6,7,8,9,10,11,12,13,14,15,16,17,18,19,20,21,22],[0,1,2,3,4,5,6,7,8,9,10,11,12,13,14,15,16,17,18,19,20,21,22,23],[0,1,2,3,4,5,6,7,8,9,10,11,12,13,14,15,16,17,18,19,20,21,22,23,24],[0,1,2,3,4,5,6,7,8,9,10,11,12,13,14,15,16,17,18,19,20,21,22,23],[0,1,2,3,4,5,6,7,8,9,10,11,12,13,14,15,16,17,18,19,20,21,22,23],[0,1,2,3,4,5,6,7,8,9,10,11,12,13,14,15,16,17,18,19,20,21,22,23,27],[0,1,2,3,4,5,6,7,8,9,10,11,12,13,14,15,16,17,18,19,20,21,22,23],[0,1,2,3,4,5,6,7,8,9,10,11,12,13,14,15,16,17,18,19,20,21,22,23,29],[0,1,2,3,4,5,6,7,8,9,10,11,12,13,14,15,16,17,18,19,20,21,22,23,26,27,28,29,30],[0,1,2,3,4,5,6,7,8,9,10,11,12,13,14,15,16,17,18,19,20,21,22,23,24,25,26,27,28,29,30,31],[0,1,2,3,4,5,6,7,8,9,10,11,12,13,14,15,16,17,18,19,20,21,22,23,24,25,26,27,28,29,30,31,32],[0,1,2,3,4,5,6,7,8,9,10,11,12,13,14,15,16,17,18,19,20,21,22,23,24,25,26,27,28,29,30,31,32,33],[0,1,2,3,4,5,6,7,8,9,10,11,12,13,14,15,16,17,18,19,20,21,22,23,24,25,26,27,28,29,30,31,32,33,34],[0,1,2,3,4,5,6,7,8,9,10,11,12,13,14,15,16,17,18,19,20,21,22,23,24,25,26,27,28,29,30,31,32,33,34,35]] 32 [Nn 0,Nn 1,Nn 2,Nn 3,Nn 4,Nn 5,Nn 6,Nn 7,Nn 8,Nn 9,Nn 10,Nn 11,Nn 12,Nn 13,Nn 14,Nn 15,Nn 16,Nn 17,Nn 18,Nn 19,Nn 20,Yy 21,Nn 22,Nn 23,Nn 24,Nn 25,Nn 26,Nn 27,Nn 28,Nn 29,Nn 30,Yy 31] ?_
        refine Da ?_
        refine Yv (c21 h) ?_
        refine Da ?_
        refine Yc (l22Own_f h _ k b0 hk (i + 1) (by omega) (by omega) (gt k.parts i).ver hv) ?_
        intro v2 A2 g2
        have o6 := g2.one
        refine Da ?_
        refine Ae ?_
        refine fp (y_lendV A2 (fun h' l' inb => l13Same_v h' _ _ _ _ (sl.le l'.le) (g2.lent (by have := partLights_le hk (i + 1) (gt k.parts i).ver; omega) inb)) (by rfl) ?_)
        repeat first | refine R1 ?_ | refine R2 fun _ => ?_
        refine sf_cond (by rfl) (fun h5 => ?_) fun h5 => ?_
        · simp only [Bool.not_eq_true'] at h5
          repeat first | refine R1 ?_ | refine R2 fun _ => ?_
          exact sf_ret (rV (by rw [hG (by rw [hpo, h5])]))
        · simp only [Bool.not_eq_false'] at h5
          repeat first | refine R1 ?_ | refine R2 fun _ => ?_
          exact ⟨i + 1, by omega, ⟨rfl, trivial⟩, rfl, [(b1, .cells #[.int .i64 k.first.wide, c, ed, p, s] 30)], _, inferInstance, ⟨by omega, by rw [hS, hpo, h5]⟩, rfl⟩
  · refine sf_exit ?_
    have hpo : partsOk k k.parts.length = true := by rw [show k.parts.length = i by omega]; exact hpi
    clear hpi hi e1
    repeat first | refine R1 ?_ | refine R2 fun _ => ?_
    refine sf_lp (ι := Nat) [1, 3] (fun i => [(6, .int .i64 (i : Int))]) (fun i O => (i ≤ rs.length ∧ shownsOk k i = true) ∧ O = [(b1, .cells #[.int .i64 k.first.wide, c, ed, p, s] 30)]) (fun i => rs.length - i) 0 [(b1, .cells #[.int .i64 k.first.wide, c, ed, p, s] 30)] ⟨⟨by omega, rfl⟩, rfl⟩ ?_
    rintro j O ⟨⟨hi, hpi⟩, rfl⟩
    repeat first | refine R1 ?_ | refine R2 fun _ => ?_
    refine sf_if (fun e2 => ?_) fun e2 => ?_
    · have hi1 : j < k.shown.length := by omega
      have hi2 : j < rs.length := by omega
      obtain ⟨l, ex, sl⟩ := shownB (bs.at hi1)
      have ol := sl.one
      have hsl := sl.small
      haveI : FlatV (rawF (shownR τ).sz) (gt rs j) [.int .i64 (gt k.shown j).ver, l] := ⟨ex⟩
      have hG : shownOk k j = false → keepOk k = false := fun e => hF (by rw [shownsOk_F hi1 e]; simp)
      have hS : shownsOk k (j + 1) = shownOk k j := by rw [shownsOk_step, hpi, Bool.true_and]
      have c3 : ∀ h, CallV Tryz.prog M 49 [.int .i64 (gt k.shown j).ver, .int .i64 0, .int .i64 k.edits.length] h (.bool (verOk k (gt k.shown j).ver)) := fun h => l6In_v h _ _ _
      repeat first | refine R1 ?_ | refine R2 fun _ => ?_
      refine sf_keep [1, 3, 6, 7] ?_
      cases hv : verOk k (gt k.shown j).ver with
      | false =>
        rw [hv] at c3
        refine Sd [[],[0],[],[0,1,2],[0,1,2,3],[0,1,2,3,4],[0,1,2,3,4,5],[0,1,2,3,4,5,6],[0,1,2,3,4,5,6,7],[0,1,2,3,4,5,6,7,8],[0,1,2,3,4,5,6,7,8,9],[0,1,2,3,4,5,6,7,8],[0,1,2,3,4,5,6,7,8,11],[0,1,2,3,4,5,6,7,8,9,10,11,12],[0,1,2,3,4,5,6,7,8,9,10,11,12,13],[0,1,2,3,4,5,6,7,8,9,10,11,12,13,14],[0,1,2,3,4,5,6,7,8],[0,1,2,3,4,5,6,7,8,16],[0,1,2,3,4,5,6,7,8,9,10,11,12,13,14,15,16,17],[0,1,2,3,4,5,6,7,8,9,10,11,12,13,14,15,16,17,18],[0,1,2,3,4,5,6,7,8,9,10,11,12,13,14,15,16,17,18,19],[0,1,2,3,4,5,6,7,8,9,10,11,12,13,14,15,16,17,18,19,20],[0,1,2,3,4,5,6,7,8,9,10,11,12,13,14,15,16,17,18,19,20,21],[0,1,2,3,4,5,6,7,8,9,10,11,12,13,14,15,16,17,18,19,20,21,22],[0,1,2,3,4,5,6,7,8,9,10,11,12,13,14,15,16,17,18,19,20,21],[0,1,2,3,4,5,6,7,8,9,10,11,12,13,14,15,16,17,18,19,20,21],[0,1,2,3,4,5,6,7,8,9,10,11,12,13,14,15,16,17,18,19,20,21,25],[0,1,2,3,4,5,6,7,8,9,10,11,12,13,14,15,16,17,18,19,20,21,24,25,26],[0,1,2,3,4,5,6,7,8,9,10,11,12,13,14,15,16,17,18,19,20,21,24,25,26,27],[0,1,2,3,4,5,6,7,8,9,10,11,12,13,14,15,16,17,18,19,20,21,22,23,24,25,26,27,28],[0,1,2,3,4,5,6,7,8,9,10,11,12,13,14,15,16,17,18,19,20,21,22,23,24,25,26,27,28,29],[0,1,2,3,4,5,6,7,8,9,10,11,12,13,14,15,16,17,18,19,20,21,22,23,24,25,26,27,28,29,30]] 29 [Nn 0,Nn 1,Nn 2,Yy 3,Nn 4,Nn 5,Nn 6,Nn 7,Nn 8,Nn 9,Nn 10,Nn 11,Nn 12,Nn 13,Nn 14,Nn 15,Nn 16,Nn 17,Nn 18,Nn 19,Nn 20,Nn 21,Nn 22,Nn 23,Nn 24,Nn 25,Nn 26,Nn 27,Nn 28] ?_
        refine Da ?_
        refine Yv (c3 h) ?_
        refine Da ?_
        refine Ae ?_
        repeat first | refine R1 ?_ | refine R2 fun _ => ?_
        refine sf_T rfl ?_
        repeat first | refine R1 ?_ | refine R2 fun _ => ?_
        exact sf_ret (rV (by rw [hG (by rw [shownOk, hv]; rfl)]))
      | true =>
        rw [hv] at c3
        have hv' := hv
        simp only [verOk, Bool.and_eq_true, decide_eq_true_eq] at hv'
        have gok' := gridAt_ok hk.grid hk.edits (gt k.shown j).ver
        rcases Nat.eq_zero_or_pos j with rfl | hj0
        · have hpv : prevVer k 0 < (gt k.shown 0).ver := by simp only [prevVer, if_true]; omega
          have hn0 : ¬ (((0 : Nat) : Int) > 0) := by omega
          refine Sd [[],[0],[],[0,1,2],[0,1,2,3],[0,1,2,3,4],[0,1,2,3,4,5],[0,1,2,3,4,5,6],[0,1,2,3,4,5,6,7],[0,1,2,3,4,5,6,7,8],[0,1,2,3,4,5,6,7,8,9],[0,1,2,3,4,5,6,7,8],[0,1,2,3,4,5,6,7,8,11],[0,1,2,3,4,5,6,7,8,9,10,11,12],[0,1,2,3,4,5,6,7,8,9,10,11,12,13],[0,1,2,3,4,5,6,7,8,9,10,11,12,13,14],[0,1,2,3,4,5,6,7,8],[0,1,2,3,4,5,6,7,8,16],[0,1,2,3,4,5,6,7,8,9,10,11,12,13,14,15,16,17],[0,1,2,3,4,5,6,7,8,9,10,11,12,13,14,15,16,17,18],[0,1,2,3,4,5,6,7,8,9,10,11,12,13,14,15,16,17,18,19],[0,1,2,3,4,5,6,7,8,9,10,11,12,13,14,15,16,17,18,19,20],[0,1,2,3,4,5,6,7,8,9,10,11,12,13,14,15,16,17,18,19,20,21],[0,1,2,3,4,5,6,7,8,9,10,11,12,13,14,15,16,17,18,19,20,21,22],[0,1,2,3,4,5,6,7,8,9,10,11,12,13,14,15,16,17,18,19,20,21],[0,1,2,3,4,5,6,7,8,9,10,11,12,13,14,15,16,17,18,19,20,21],[0,1,2,3,4,5,6,7,8,9,10,11,12,13,14,15,16,17,18,19,20,21,25],[0,1,2,3,4,5,6,7,8,9,10,11,12,13,14,15,16,17,18,19,20,21,24,25,26],[0,1,2,3,4,5,6,7,8,9,10,11,12,13,14,15,16,17,18,19,20,21,24,25,26,27],[0,1,2,3,4,5,6,7,8,9,10,11,12,13,14,15,16,17,18,19,20,21,22,23,24,25,26,27,28],[0,1,2,3,4,5,6,7,8,9,10,11,12,13,14,15,16,17,18,19,20,21,22,23,24,25,26,27,28,29],[0,1,2,3,4,5,6,7,8,9,10,11,12,13,14,15,16,17,18,19,20,21,22,23,24,25,26,27,28,29,30]] 29 [Nn 0,Nn 1,Nn 2,Yy 3,Nn 4,Nn 5,Nn 6,Nn 7,Nn 8,Nn 9,Nn 10,Nn 11,Nn 12,Nn 13,Nn 14,Nn 15,Nn 16,Nn 17,Nn 18,Nn 19,Nn 20,Nn 21,Nn 22,Nn 23,Nn 24,Nn 25,Nn 26,Yy 27,Yy 28] ?_
          refine Da ?_
          refine Yv (c3 h) ?_
          refine Da ?_
          refine Yc (l22Grid_f h _ k b0 hk (gt k.shown 0).ver hv) ?_
          rintro _ A1 ⟨cs, rfl, q⟩
          obtain ⟨c2, rfl, g1, l1⟩ := gridO q
          have o5 := g1.one
          refine Yc (lendF A1 fun h' _ inb => l12Pic_f h' c2 _ (g1.lent (by omega) inb) (gok gok')) ?_
          rintro v2 _ ⟨A2, rfl, g2⟩
          have o6 := g2.one
          refine Da ?_
          refine Ae ?_
          refine fp (y_lendV A2 (fun h' l' inb => l13Same_v h' _ _ _ _ (sl.le l'.le) (g2.lent (by rw [picOf_len]; have := (gok gok').many; omega) inb)) (by rfl) ?_)
          repeat first | refine R1 ?_ | refine R2 fun _ => ?_
          refine sf_cond (by rfl) (fun h5 => ?_) fun h5 => ?_
          · simp only [Bool.not_eq_true'] at h5
            repeat first | refine R1 ?_ | refine R2 fun _ => ?_
            exact sf_ret (rV (by rw [hG (by rw [shownOk, hv, h5]; simp)]))
          · simp only [Bool.not_eq_false'] at h5
            repeat first | refine R1 ?_ | refine R2 fun _ => ?_
            exact ⟨0 + 1, by omega, ⟨rfl, trivial⟩, rfl, [(b1, .cells #[.int .i64 k.first.wide, c, ed, p, s] 30)], _, inferInstance, ⟨by omega, by rw [hS, shownOk, hv, h5, decide_eq_true hpv]; rfl⟩, rfl⟩
        · have hn1 : (j : Int) > 0 := by omega
          have hpe : prevVer k j = (gt k.shown (j - 1)).ver := by rw [prevVer, if_neg (by omega)]
          obtain ⟨l2, ex2, sl2⟩ := shownB (bs.at (show j - 1 < k.shown.length by omega))
          have ej : ((j : Int) - 1).toNat = j - 1 := by omega
          haveI : FlatV (rawF (shownR τ).sz) (gt rs (j - 1)) [.int .i64 (gt k.shown (j - 1)).ver, l2] := ⟨ex2⟩
          have ej2 : (j : Int) - 1 = ((j - 1 : Nat) : Int) := by omega
          by_cases hpv : prevVer k j < (gt k.shown j).ver
          · have hn2 : ¬ ((gt k.shown (j - 1)).ver ≥ (gt k.shown j).ver) := by omega
            refine Sd [[],[0],[],[0,1,2],[0,1,2,3],[0,1,2,3,4],[0,1,2,3,4,5],[0,1,2,3,4,5,6],[0,1,2,3,4,5,6,7],[0,1,2,3,4,5,6,7,8],[0,1,2,3,4,5,6,7,8,9],[0,1,2,3,4,5,6,7,8],[0,1,2,3,4,5,6,7,8,11],[0,1,2,3,4,5,6,7,8,9,10,11,12],[0,1,2,3,4,5,6,7,8,9,10,11,12,13],[0,1,2,3,4,5,6,7,8,9,10,11,12,13,14],[0,1,2,3,4,5,6,7,8],[0,1,2,3,4,5,6,7,8,16],[0,1,2,3,4,5,6,7,8,9,10,11,12,13,14,15,16,17],[0,1,2,3,4,5,6,7,8,9,10,11,12,13,14,15,16,17,18],[0,1,2,3,4,5,6,7,8,9,10,11,12,13,14,15,16,17,18,19],[0,1,2,3,4,5,6,7,8,9,10,11,12,13,14,15,16,17,18,19,20],[0,1,2,3,4,5,6,7,8,9,10,11,12,13,14,15,16,17,18,19,20,21],[0,1,2,3,4,5,6,7,8,9,10,11,12,13,14,15,16,17,18,19,20,21,22],[0,1,2,3,4,5,6,7,8,9,10,11,12,13,14,15,16,17,18,19,20,21],[0,1,2,3,4,5,6,7,8,9,10,11,12,13,14,15,16,17,18,19,20,21],[0,1,2,3,4,5,6,7,8,9,10,11,12,13,14,15,16,17,18,19,20,21,25],[0,1,2,3,4,5,6,7,8,9,10,11,12,13,14,15,16,17,18,19,20,21,24,25,26],[0,1,2,3,4,5,6,7,8,9,10,11,12,13,14,15,16,17,18,19,20,21,24,25,26,27],[0,1,2,3,4,5,6,7,8,9,10,11,12,13,14,15,16,17,18,19,20,21,22,23,24,25,26,27,28],[0,1,2,3,4,5,6,7,8,9,10,11,12,13,14,15,16,17,18,19,20,21,22,23,24,25,26,27,28,29],[0,1,2,3,4,5,6,7,8,9,10,11,12,13,14,15,16,17,18,19,20,21,22,23,24,25,26,27,28,29,30]] 29 [Nn 0,Nn 1,Nn 2,Yy 3,Nn 4,Nn 5,Nn 6,Nn 7,Nn 8,Nn 9,Nn 10,Nn 11,Nn 12,Nn 13,Nn 14,Nn 15,Nn 16,Nn 17,Nn 18,Nn 19,Nn 20,Nn 21,Nn 22,Nn 23,Nn 24,Nn 25,Nn 26,Yy 27,Yy 28] ?_
            refine Da ?_
            refine Yv (c3 h) ?_
            iterate 9 (refine Da1 ?_)
            rw [ej2]
            refine Da ?_
            refine a_call (l22Grid_f h _ k b0 hk (gt k.shown j).ver hv) (by rfl) (by rfl) (.inr ⟨_, _, _, _, rfl, by rfl, by rfl, decide_eq_false hn2⟩) ?_
            rintro _ A1 ⟨cs, rfl, q⟩
            obtain ⟨c2, rfl, g1, l1⟩ := gridO q
            have o5 := g1.one
            refine a_call (lendF A1 fun h' _ inb => l12Pic_f h' c2 _ (g1.lent (by omega) inb) (gok gok')) (by rfl) (by rfl) (.inr ⟨_, _, _, _, rfl, by rfl, by rfl, decide_eq_false hn2⟩) ?_
            rintro v2 _ ⟨A2, rfl, g2⟩
            have o6 := g2.one
            refine Da ?_
            refine Ae ?_
            refine fp (y_lendV A2 (fun h' l' inb => l13Same_v h' _ _ _ _ (sl.le l'.le) (g2.lent (by rw [picOf_len]; have := (gok gok').many; omega) inb)) (by rfl) ?_)
            repeat first | refine R1 ?_ | refine R2 fun _ => ?_
            refine sf_cond (by rfl) (fun h5 => ?_) fun h5 => ?_
            · simp only [Bool.not_eq_true'] at h5
              repeat first | refine R1 ?_ | refine R2 fun _ => ?_
              exact sf_ret (rV (by rw [hG (by rw [shownOk, hv, h5]; simp)]))
            · simp only [Bool.not_eq_false'] at h5
              repeat first | refine R1 ?_ | refine R2 fun _ => ?_
              exact ⟨j + 1, by omega, ⟨rfl, trivial⟩, rfl, [(b1, .cells #[.int .i64 k.first.wide, c, ed, p, s] 30)], _, inferInstance, ⟨by omega, by rw [hS, shownOk, hv, h5, decide_eq_true hpv]; rfl⟩, rfl⟩
          · have hn2 : (gt k.shown (j - 1)).ver ≥ (gt k.shown j).ver := by omega
            refine Sd [[],[0],[],[0,1,2],[0,1,2,3],[0,1,2,3,4],[0,1,2,3,4,5],[0,1,2,3,4,5,6],[0,1,2,3,4,5,6,7],[0,1,2,3,4,5,6,7,8],[0,1,2,3,4,5,6,7,8,9],[0,1,2,3,4,5,6,7,8],[0,1,2,3,4,5,6,7,8,11],[0,1,2,3,4,5,6,7,8,9,10,11,12],[0,1,2,3,4,5,6,7,8,9,10,11,12,13],[0,1,2,3,4,5,6,7,8,9,10,11,12,13,14],[0,1,2,3,4,5,6,7,8],[0,1,2,3,4,5,6,7,8,16],[0,1,2,3,4,5,6,7,8,9,10,11,12,13,14,15,16,17],[0,1,2,3,4,5,6,7,8,9,10,11,12,13,14,15,16,17,18],[0,1,2,3,4,5,6,7,8,9,10,11,12,13,14,15,16,17,18,19],[0,1,2,3,4,5,6,7,8,9,10,11,12,13,14,15,16,17,18,19,20],[0,1,2,3,4,5,6,7,8,9,10,11,12,13,14,15,16,17,18,19,20,21],[0,1,2,3,4,5,6,7,8,9,10,11,12,13,14,15,16,17,18,19,20,21,22],[0,1,2,3,4,5,6,7,8,9,10,11,12,13,14,15,16,17,18,19,20,21],[0,1,2,3,4,5,6,7,8,9,10,11,12,13,14,15,16,17,18,19,20,21],[0,1,2,3,4,5,6,7,8,9,10,11,12,13,14,15,16,17,18,19,20,21,25],[0,1,2,3,4,5,6,7,8,9,10,11,12,13,14,15,16,17,18,19,20,21,24,25,26],[0,1,2,3,4,5,6,7,8,9,10,11,12,13,14,15,16,17,18,19,20,21,24,25,26,27],[0,1,2,3,4,5,6,7,8,9,10,11,12,13,14,15,16,17,18,19,20,21,22,23,24,25,26,27,28],[0,1,2,3,4,5,6,7,8,9,10,11,12,13,14,15,16,17,18,19,20,21,22,23,24,25,26,27,28,29],[0,1,2,3,4,5,6,7,8,9,10,11,12,13,14,15,16,17,18,19,20,21,22,23,24,25,26,27,28,29,30]] 29 [Nn 0,Nn 1,Nn 2,Yy 3,Nn 4,Nn 5,Nn 6,Nn 7,Nn 8,Nn 9,Nn 10,Nn 11,Nn 12,Nn 13,Nn 14,Nn 15,Nn 16,Nn 17,Nn 18,Nn 19,Nn 20,Nn 21,Nn 22,Nn 23,Nn 24,Nn 25,Nn 26,Nn 27,Nn 28] ?_
            refine Da ?_
            refine Yv (c3 h) ?_
            iterate 9 (refine Da1 ?_)
            rw [ej2]
            refine Da ?_
            refine Ae ?_
            repeat first | refine R1 ?_ | refine R2 fun _ => ?_
            refine sf_T rfl ?_
            repeat first | refine R1 ?_ | refine R2 fun _ => ?_
            exact sf_ret (rV (by rw [hG (by rw [shownOk, hv, decide_eq_false hpv]; rfl)]))
    · refine sf_exit ?_
      repeat first | refine R1 ?_ | refine R2 fun _ => ?_
      exact sf_ret (rV (by rw [hF (b := true) (by rw [hpo, show k.shown.length = j by omega, hpi]; rfl)]))
structure Later (G : Prop) : Prop where
  get : G
theorem viaL {A G : Prop} (h : Later G → A) (t : G) : A := h ⟨t⟩
theorem l22Show_f (h : PHeap) (c ed p sv : Value) (k : Keeper) (A4 : Own) (s1 : Sl h c cellF k.first.cells) (o2 : Sl.One ed) (s3 : SlR (partR τ) h p k.parts) (g4 : GrR (shownR τ) A4 sv 37 k.shown) (kg : gridOk k.first = true) (n1 : 1 ≤ k.parts.length) (n3 : k.parts.length ≤ 3)
    (pl : ∀ i, i < k.parts.length → (gt k.parts i).has = true → (gt k.parts i).lights.length = ownCnt (manyOf k.first).toNat k.parts.length (i + 1)) (hsh : k.shown.length ≤ 1048576) : CallF Tryz.prog M 107 [.agg #[.int .i64 k.first.wide, c, ed, p, sv]] A4 h fun u A' => ∃ s', u = .agg #[.int .i64 k.first.wide, c, ed, p, s'] ∧ GrR (shownR τ) A' s' 37 (published k).shown := by
  have g40 := g4
  have o1 := s1.one
  have o3 := s3.one
  have o4 := g4.one
  obtain ⟨rp, sp, bp⟩ := s3
  have lp := bp.len
  have hsm := sp.small
  obtain ⟨B0, B1, rfl, rs, gs, oa, hs4⟩ := g4
  have ls := oa.len
  have hm := (gok kg).many
  obtain ⟨S, hS⟩ : ∃ S : Nat, manyOf k.first = S := ⟨(manyOf k.first).toNat, by omega⟩
  have hSn : (manyOf k.first).toNat = S := by rw [hS]; rfl
  rw [hS] at hm
  simp only [hSn] at pl
  obtain ⟨l0, ex0, sl0⟩ := partB (bp.at n1)
  have ol0 := sl0.one
  haveI i0 : FlatV (rawF (partR τ).sz) (gt rp 0) [.bool (gt k.parts 0).has, .int .i64 (gt k.parts 0).ver, l0] := ⟨ex0⟩
  have hrp : 0 < rp.length := by omega
  have hNo : partsSame k k.parts.length = false ∨ shownNewer k = false → (published k).shown = k.shown := fun x => by
    unfold published
    rcases x with x | x <;> simp [x]
  refine Cs Tryz.func107 Tryz.ntmps107 ?_
  repeat first | refine R1 ?_ | refine R2 fun _ => ?_
  rename_i b1 b2
  refine sf_lp (ι := Nat) [1, 2, 3] (fun i => [(4, .int .i64 (i : Int))]) (fun i O => i ≤ k.parts.length ∧ partsSame k i = true ∧ O = (B0 ++ (B1 ++ [(b2, .cells #[.int .i64 0, .slice none 0 0, .slice none 0 0, .slice none 0 0, .slice none 0 0] 30), (b1, .cells #[.int .i64 k.first.wide, c, ed, p, sv] 30)]))) (fun i => k.parts.length - i) 0 (B0 ++ (B1 ++ [(b2, .cells #[.int .i64 0, .slice none 0 0, .slice none 0 0, .slice none 0 0, .slice none 0 0] 30), (b1, .cells #[.int .i64 k.first.wide, c, ed, p, sv] 30)])) ⟨by omega, rfl, rfl⟩ ?_
  rintro i O ⟨hi, hpi, rfl⟩
  repeat first | refine R1 ?_ | refine R2 fun _ => ?_
  refine sf_if (fun h4 => ?_) fun h4 => ?_
  · have hi4 : i < k.parts.length := by omega
    have hi5 : i < rp.length := by omega
    obtain ⟨l, ex, sl⟩ := partB (bp.at hi4)
    have ol := sl.one
    haveI : FlatV (rawF (partR τ).sz) (gt rp i) [.bool (gt k.parts i).has, .int .i64 (gt k.parts i).ver, l] := ⟨ex⟩
    have hret : ((gt k.parts i).has && decide ((gt k.parts i).ver = (gt k.parts 0).ver)) = false → (published k).shown = k.shown := fun x => hNo (.inl (partsSame_F hi4 x))
    repeat first | refine R1 ?_ | refine R2 fun _ => ?_
    refine f_splitB (fun e0 => ?_) fun e0 => ?_
    · have e := e0
      simp only [Bool.not_eq_true'] at e
      repeat first | refine R1 ?_ | refine R2 fun _ => ?_
      refine sf_T rfl ?_
      repeat first | refine R1 ?_ | refine R2 fun _ => ?_
      exact sf_ret (rO (B0 ++ B1) ⟨sv, rfl, by rw [hret (by rw [e]; rfl)]; exact g40⟩)
    have e := e0
    simp only [Bool.not_eq_false'] at e
    repeat first | refine R1 ?_ | refine R2 fun _ => ?_
    refine sf_if (fun h6 => ?_) fun h6 => ?_
    · repeat first | refine R1 ?_ | refine R2 fun _ => ?_
      exact sf_ret (rO (B0 ++ B1) ⟨sv, rfl, by rw [hret (by rw [e, decide_eq_false h6]; rfl)]; exact g40⟩)
    repeat first | refine R1 ?_ | refine R2 fun _ => ?_
    refine ⟨i + 1, by omega, ⟨rfl, trivial⟩, rfl, (B0 ++ (B1 ++ [(b2, .cells #[.int .i64 0, .slice none 0 0, .slice none 0 0, .slice none 0 0, .slice none 0 0] 30), (b1, .cells #[.int .i64 k.first.wide, c, ed, p, sv] 30)])), _, inferInstance, by omega, ?_, rfl⟩
    rw [partsSame_step, hpi, e]
    simpa using h6
  · refine sf_exit ?_
    obtain rfl : i = k.parts.length := by omega
    have hall : ∀ j, j < k.parts.length → (gt k.parts j).has = true := fun j hj => by
      have := List.all_eq_true.1 hpi j (List.mem_range.2 hj)
      simp only [Bool.and_eq_true] at this
      exact this.1
    have hYes : shownNewer k = true → (published k).shown = k.shown ++ [⟨(gt k.parts 0).ver, pubPic k⟩] := fun x => by
      unfold published
      rw [hpi, x]; rfl
    repeat first | refine R1 ?_ | refine R2 fun _ => ?_
    apply viaL
    · intro tail
      by_cases h0 : k.shown.length = 0
      · refine f_split (fun h8 => ?_) fun h8 => ?_
        · omega
        repeat first | refine R1 ?_ | refine R2 fun _ => ?_
        refine sf_N (by first | rfl | (simp; omega)) ?_
        refine R1 ?_
        refine sf_keep [1, 2, 3] ?_
        refine sf_own (B0 ++ (B1 ++ [(b2, .cells #[.int .i64 0, .slice none 0 0, .slice none 0 0, .slice none 0 0, .slice none 0 0] 30), (b1, .cells #[.int .i64 k.first.wide, c, ed, p, sv] 30)])) ?_
        have hn : shownNewer k = true := by simp [shownNewer, h0]
        revert hn
        exact tail.get
      · obtain ⟨m, hm'⟩ : ∃ m : Nat, k.shown.length = m + 1 := ⟨k.shown.length - 1, by omega⟩
        have hrm : rs.length = m + 1 := by omega
        obtain ⟨_, _, _, -, qk, -⟩ := oa.at (k := m) (by omega)
        obtain ⟨lm, exm, gm⟩ := shownO qk
        have olm : Sl.One lm := by first | exact gm.1.one | exact gm.one
        have hix : ((rs.length : Int) - 1) = (m : Int) := by omega
        have hm5 : m < rs.length := by omega
        haveI : FlatV (rawF (shownR τ).sz) (gt rs m) [.int .i64 (gt k.shown m).ver, lm] := ⟨exm⟩
        have hnw : shownNewer k = decide ((gt k.shown m).ver < (gt k.parts 0).ver) := by
          rw [shownNewer, hm', Nat.add_sub_cancel]; simp
        refine f_split (fun h8 => ?_) fun h8 => ?_
        · repeat first | refine R1 ?_ | refine R2 fun _ => ?_
          simp only [hix]
          repeat first | refine R1 ?_ | refine R2 fun _ => ?_
          refine sf_if (fun h9 => ?_) fun h9 => ?_
          · rw [hNo (.inr (by rw [hnw]; simp; omega))]
            repeat first | refine R1 ?_ | refine R2 fun _ => ?_
            exact sf_ret (rO (B0 ++ B1) ⟨sv, rfl, g40⟩)
          · refine R1 ?_
            refine sf_keep [1, 2, 3] ?_
            refine sf_own (B0 ++ (B1 ++ [(b2, .cells #[.int .i64 0, .slice none 0 0, .slice none 0 0, .slice none 0 0, .slice none 0 0] 30), (b1, .cells #[.int .i64 k.first.wide, c, ed, p, sv] 30)])) ?_
            have hn : shownNewer k = true := by rw [hnw]; simp; omega
            revert hn
            exact tail.get
        · omega
    intro hn
    rw [hYes hn]
    repeat first | refine R1 ?_ | refine R2 fun _ => ?_
    refine Xb fun w A0 g0 => ?_
    have ow := g0.one
    repeat first | refine R1 ?_ | refine R2 fun _ => ?_
    refine sf_lp (ι := Nat × Value) [1, 2, 3] (fun x => [(6, .int .i64 (x.1 : Int)), (5, x.2)]) (fun x O => x.1 ≤ S ∧ ∃ A', O = A' ++ (B0 ++ (B1 ++ [(b2, .cells #[.int .i64 0, .slice none 0 0, .slice none 0 0, .slice none 0 0, .slice none 0 0] 30), (b1, .cells #[.int .i64 k.first.wide, c, ed, p, sv] 30)])) ∧ Gr A' x.2 3 intF ((List.range x.1).map fun s => gt (gt k.parts (s % k.parts.length)).lights (s / k.parts.length))) (fun x => S - x.1) (0, w) (A0 ++ (B0 ++ (B1 ++ [(b2, .cells #[.int .i64 0, .slice none 0 0, .slice none 0 0, .slice none 0 0, .slice none 0 0] 30), (b1, .cells #[.int .i64 k.first.wide, c, ed, p, sv] 30)]))) ⟨by simp only; omega, A0, rfl, g0⟩ ?_
    rintro ⟨j, u⟩ O ⟨hj, A', rfl, gr⟩
    simp only at hj gr ⊢
    have ou := gr.one
    repeat first | refine R1 ?_ | refine R2 fun _ => ?_
    refine Xv (l3Many_v _ c k.first s1 (gok kg)) ?_
    rw [hS]
    repeat first | refine R1 ?_ | refine R2 fun _ => ?_
    refine sf_if (fun h4 => ?_) fun h4 => ?_
    · have hj4 : j < S := by omega
      obtain ⟨q, hq⟩ : ∃ q, j % k.parts.length = q := ⟨_, rfl⟩
      have hq1 : q < k.parts.length := by rw [← hq]; exact Nat.mod_lt _ (by omega)
      obtain ⟨d, hd⟩ : ∃ d, j / k.parts.length = d := ⟨_, rfl⟩
      have hqd : q + d * k.parts.length = j := by rw [← hq, ← hd, Nat.mul_comm]; exact Nat.mod_add_div j _
      have hmod : (j : Int) % (rp.length : Int) = (q : Int) := by rw [lp, ← hq]; rfl
      have hdiv : (j : Int) / (rp.length : Int) = (d : Int) := by rw [lp, ← hd]; rfl
      have hq5 : q < rp.length := by omega
      obtain ⟨l, ex, sl⟩ := partB (bp.at hq1)
      have ol := sl.one
      haveI : FlatV (rawF (partR τ).sz) (gt rp q) [.bool (gt k.parts q).has, .int .i64 (gt k.parts q).ver, l] := ⟨ex⟩
      have hdl : d < (gt k.parts q).lights.length := by
        rw [pl q hq1 (hall q hq1), ownCnt_lt (by omega) (by omega) n3]
        omega
      repeat first | refine R1 ?_ | refine R2 fun _ => ?_
      refine Sd [[],[],[1],[],[],[4],[4,5],[3,4,5,6],[1,2,3,4,5,6,7],[1,2,3,4,5,6,7,8],[1,2,3,4,5,6,7,8,9],[],[],[12],[12,13],[11,12,13,14],[1,2,3,4,5,6,7,8,9,10,11,12,13,14,15],[1,2,3,4,5,6,7,8,9,10,11,12,13,14,15,16],[1,2,3,4,5,6,7,8,9,10,11,12,13,14,15,16,17],[0,1,2,3,4,5,6,7,8,9,10,11,12,13,14,15,16,17,18],[0,1,2,3,4,5,6,7,8,9,10,11,12,13,14,15,16,17,18,19]] 19 [Nn 0,Nn 1,Nn 2,Nn 3,Nn 4,Nn 5,Nn 6,Nn 7,Nn 8,Nn 9,Nn 10,Nn 11,Nn 12,Nn 13,Nn 14,Nn 15,Nn 16,Nn 17,Yy 18] ?_
      refine Da ?_
      simp only [hmod, hdiv, Int.toNat_natCast]
      refine Da ?_
      simp only [hmod, hdiv, Int.toNat_natCast]
      refine Da ?_
      refine Yb fun u1 Au gu => ?_
      refine Da ?_
      refine Ae ?_
      repeat first | refine R1 ?_ | refine R2 fun _ => ?_
      refine Xa gr gu fun u2 A2 g2 => ?_
      have ou2 := g2.one
      repeat first | refine R1 ?_ | refine R2 fun _ => ?_
      refine ⟨(j + 1, u2), by simp only; omega, ⟨rfl, rfl, trivial⟩, rfl, A2 ++ (B0 ++ (B1 ++ [(b2, .cells #[.int .i64 0, .slice none 0 0, .slice none 0 0, .slice none 0 0, .slice none 0 0] 30), (b1, .cells #[.int .i64 k.first.wide, c, ed, p, sv] 30)])), _, inferInstance, by simp only; omega, A2, rfl, ?_⟩
      simp only [List.range_succ, List.map_append, List.map_cons, List.map_nil]
      rw [lp] at g2
      rw [hq]
      exact g2
    · refine sf_exit ?_
      obtain rfl : j = S := by omega
      have hpp : (pubPic k).length = j := by simp [pubPic, hSn]
      have gp : Gr A' u 3 intF (pubPic k) := by rw [pubPic, hSn]; exact gr
      repeat first | refine R1 ?_ | refine R2 fun _ => ?_
      refine Xb fun u3 Au gu => ?_
      repeat first | refine R1 ?_ | refine R2 fun _ => ?_
      refine fp (y_append (by rfl) (by rfl) gs gu (by intro y hy; simp at hy; subst hy; exact (inferInstance : AllOne [Value.int .i64 (gt k.parts 0).ver, u]).is) (by rfl) (by rfl) (by simp; omega) (by simp; omega) fun s2 A5 g5 => ?_)
      have o9 := g5.one
      repeat first | refine R1 ?_ | refine R2 fun _ => ?_
      exact sf_ret (rO (A5 ++ (B1 ++ A')) ⟨s2, rfl, ⟨A5, B1 ++ A', rfl, _, g5, oa.snoc (shownO_mk (p := ⟨(gt k.parts 0).ver, pubPic k⟩) gp (by simp only; omega)), by simp; omega⟩⟩)
theorem sPl_of {k : Keeper} (ok : keepOk k = true) : ∀ i, i < k.parts.length → (gt k.parts i).has = true → (gt k.parts i).lights.length = ownCnt (manyOf k.first).toNat k.parts.length (i + 1) := fun i hi hh => by
  have := keepOk_part ok hi
  unfold partOk at this
  rw [if_pos hh] at this
  simp only [Bool.and_eq_true, decide_eq_true_eq] at this
  rw [this.2, partLights, ownLights_len]
theorem l14Edits_f (h : PHeap) (v : Value) (xs : List Edit) (s : Sl h v editF xs) (hs : xs.length ≤ 1048576) : CallF Tryz.prog M 102 [v] [] h fun v' A => Gr A v' 48 editF xs := by
  have o1 := s.one
  refine Cs Tryz.func102 Tryz.ntmps102 ?_
  refine Wo ?_
  refine Xb fun w A gw => ?_
  refine Wo ?_
  refine Xs gw s fun w2 A2 g2 => ?_
  refine Wo ?_
  exact sf_ret (rO A2 g2)
theorem l22Copy_f (h : PHeap) (ca : List Value) (k : Keeper) (b : (keeperR τ).B h ca k) (hs : szKeeperN k ≤ 1048576) : CallF Tryz.prog M 66 [.agg ca.toArray] [] h fun u A => ∃ cs, u = .agg cs.toArray ∧ (keeperR τ).O A cs k := by
  obtain ⟨z1, z2, z3, z4⟩ := szKeeper_parts hs
  have hz3 : szPartSN k.parts = k.parts.length + sizeL szPartN k.parts := rfl
  have hz4 : szShownSN k.shown = k.shown.length + sizeL szShownN k.shown := rfl
  obtain ⟨c, ed, p, s, rfl, s1, s2, s3, s4⟩ := keeperB b
  have o1 := s1.one
  have o2 := s2.one
  have o3 := s3.one
  have o4 := s4.one
  obtain ⟨rp, sp, bp⟩ := s3
  obtain ⟨rs, ss, bs⟩ := s4
  have lp := bp.len
  have ls := bs.len
  refine Cs Tryz.func66 Tryz.ntmps66 ?_
  repeat first | refine R1 ?_ | refine R2 fun _ => ?_
  refine sf_draw (by kernel_rfl) (regX_split 2 7 (by rfl) (regX_split 5 7 (by rfl) ?_ ?_) ?_)
  case' refine_1 =>
    refine Sr [[],[0],[0,1],[],[3],[0,1,2,3,4],[0,1,2,3,4,5],[0,1,2,3,4,5],[0,1,2,3,4,5,6,7]] 8 [Nn 0,Nn 1,Nn 3,Nn 4,Yy 2,Yy 5,Nn 6,Yy 7] ?_
    refine Da ?_
    refine Yc (l1Copy_f _ _ k.first (gridB_mk s1) z1) ?_
    rintro _ AC ⟨_, rfl, q⟩
    obtain ⟨c2, rfl, g1, l1⟩ := gridO q
    have o5 := g1.one
    refine Da ?_
    refine Yc (l14Edits_f _ _ _ s2 z2) fun e2 AE ge => ?_
    have o6 := ge.one
    refine Da ?_
    refine Yl fun b5 => ?_
    refine Da ?_
    refine Ae ?_
    repeat first | refine R1 ?_ | refine R2 fun _ => ?_
    rename_i b1 b2
    refine sf_own ((b5, .cells #[.int .i64 k.first.wide, c2, e2, .slice none 0 0, .slice none 0 0] 30) :: ([] ++ [] ++ (AC ++ (AE ++ [(b2, .cells #[.int .i64 0, .slice none 0 0, .slice none 0 0, .slice none 0 0, .slice none 0 0] 30), (b1, .cells #[.int .i64 k.first.wide, c, ed, p, s] 30)])))) ?_
  case' refine_2 =>
    refine Sr [[],[0],[0,1],[],[3],[0,1,2,3,4,7],[0,1,2,3,4,5,7],[0,1,2],[0,1,2,3,4,5,6,7]] 8 [Nn 0,Nn 1,Nn 3,Nn 4,Yy 2,Yy 7,Yy 5,Nn 6] ?_
    refine Da ?_
    refine Yc (l1Copy_f _ _ k.first (gridB_mk s1) z1) ?_
    rintro _ AC ⟨_, rfl, q⟩
    obtain ⟨c2, rfl, g1, l1⟩ := gridO q
    have o5 := g1.one
    refine Da ?_
    refine Yl fun b5 => ?_
    refine Da ?_
    refine Yc (l14Edits_f _ _ _ s2 z2) fun e2 AE ge => ?_
    have o6 := ge.one
    refine Da ?_
    refine Ae ?_
    repeat first | refine R1 ?_ | refine R2 fun _ => ?_
    rename_i b1 b2
    refine sf_own ((b5, .cells #[.int .i64 k.first.wide, c2, e2, .slice none 0 0, .slice none 0 0] 30) :: ([] ++ [] ++ (AC ++ (AE ++ [(b2, .cells #[.int .i64 0, .slice none 0 0, .slice none 0 0, .slice none 0 0, .slice none 0 0] 30), (b1, .cells #[.int .i64 k.first.wide, c, ed, p, s] 30)])))) ?_
  case' refine_3 =>
    refine Sr [[],[0],[0,1,7],[],[3],[0,1,2,3,4,7],[0,1,2,3,4,5,7],[],[0,1,2,3,4,5,6,7]] 8 [Nn 0,Nn 1,Nn 3,Nn 4,Yy 7,Yy 2,Yy 5,Nn 6] ?_
    refine Da ?_
    refine Yl fun b5 => ?_
    refine Da ?_
    refine Yc (l1Copy_f _ _ k.first (gridB_mk s1) z1) ?_
    rintro _ AC ⟨_, rfl, q⟩
    obtain ⟨c2, rfl, g1, l1⟩ := gridO q
    have o5 := g1.one
    refine Da ?_
    refine Yc (l14Edits_f _ _ _ s2 z2) fun e2 AE ge => ?_
    have o6 := ge.one
    refine Da ?_
    refine Ae ?_
    repeat first | refine R1 ?_ | refine R2 fun _ => ?_
    rename_i b1 b2
    refine sf_own ((b5, .cells #[.int .i64 k.first.wide, c2, e2, .slice none 0 0, .slice none 0 0] 30) :: ([] ++ [] ++ (AC ++ (AE ++ [(b2, .cells #[.int .i64 0, .slice none 0 0, .slice none 0 0, .slice none 0 0, .slice none 0 0] 30), (b1, .cells #[.int .i64 k.first.wide, c, ed, p, s] 30)])))) ?_
  all_goals
    refine sf_lp [1, 2, 3] (fun i : Nat => [(4, .int .i64 (i : Int))]) (fun i O => i ≤ k.parts.length ∧ ∃ pv A0 A1, O = (b5, .cells #[.int .i64 k.first.wide, c2, e2, pv, .slice none 0 0] 30) :: (A0 ++ A1 ++ (AC ++ (AE ++ [(b2, .cells #[.int .i64 0, .slice none 0 0, .slice none 0 0, .slice none 0 0, .slice none 0 0] 30), (b1, .cells #[.int .i64 k.first.wide, c, ed, p, s] 30)]))) ∧ ∃ qs : List (Raw (partR τ).sz), qs.length = i ∧ Gr A0 pv 35 (rawF (partR τ).sz) qs ∧ OAll (partR τ) A1 qs (k.parts.take i)) (fun i => k.parts.length - i) 0 ((b5, .cells #[.int .i64 k.first.wide, c2, e2, .slice none 0 0, .slice none 0 0] 30) :: ([] ++ [] ++ (AC ++ (AE ++ [(b2, .cells #[.int .i64 0, .slice none 0 0, .slice none 0 0, .slice none 0 0, .slice none 0 0] 30), (b1, .cells #[.int .i64 k.first.wide, c, ed, p, s] 30)])))) ⟨by omega, _, [], [], rfl, [], rfl, Gr.nil _ _, .nil⟩ ?_
    rintro i O ⟨hi, pv, A0, A1, rfl, qs, hq, gq, oa⟩
    have o7 := gq.one
    repeat first | refine R1 ?_ | refine R2 fun _ => ?_
    refine sf_if (fun h4 => ?_) fun h4 => ?_
    · have hi4 : i < k.parts.length := by omega
      have hi5 : i < rp.length := by omega
      obtain ⟨l, ex, sl⟩ := partB (bp.at hi4)
      have ol := sl.one
      haveI : FlatV (rawF (partR τ).sz) (gt rp i) [.bool (gt k.parts i).has, .int .i64 (gt k.parts i).ver, l] := ⟨ex⟩
      have hsz := sizeL_at (f := szPartN) hi4
      have hsl : (gt k.parts i).lights.length ≤ 1048576 := by simp only [szPartN] at hsz hz3; omega
      repeat first | refine R1 ?_ | refine R2 fun _ => ?_
      refine Xb fun w Aw gw => ?_
      have ow := gw.one
      repeat first | refine R1 ?_ | refine R2 fun _ => ?_
      refine Xs gw sl fun l2 AL gl => ?_
      have ol2 := gl.one
      repeat first | refine R1 ?_ | refine R2 fun _ => ?_
      refine Xb fun u Au gu => ?_
      repeat first | refine R1 ?_ | refine R2 fun _ => ?_
      refine fp (y_append (by rfl) (by rfl) gq gu (by intro y hy; simp at hy; subst hy; exact (inferInstance : AllOne [Value.bool (gt k.parts i).has, .int .i64 (gt k.parts i).ver, l2]).is) (by rfl) (by rfl) (by simp; omega) (by simp; omega) fun pv2 A5 g5 => ?_)
      have o8 := g5.one
      repeat first | refine R1 ?_ | refine R2 fun _ => ?_
      refine ⟨i + 1, by omega, ⟨rfl, trivial⟩, rfl, (b5, .cells #[.int .i64 k.first.wide, c2, e2, pv2, .slice none 0 0] 30) :: (A5 ++ (A1 ++ AL) ++ (AC ++ (AE ++ [(b2, .cells #[.int .i64 0, .slice none 0 0, .slice none 0 0, .slice none 0 0, .slice none 0 0] 30), (b1, .cells #[.int .i64 k.first.wide, c, ed, p, s] 30)]))), _, inferInstance, by omega, pv2, A5, A1 ++ AL, rfl, _, by simp [hq], g5, ?_⟩
      rw [take_succ_gt hi4]
      exact oa.snoc (partO_mk (p := gt k.parts i) gl (by omega))
    · refine sf_exit ?_
      rw [take_ge hi (by omega)] at oa
      clear h4
      repeat first | refine R1 ?_ | refine R2 fun _ => ?_
      refine sf_lp [1, 2, 3] (fun j : Nat => [(6, .int .i64 (j : Int))]) (fun j O => j ≤ k.shown.length ∧ ∃ sv A3 A4, O = (b5, .cells #[.int .i64 k.first.wide, c2, e2, pv, sv] 30) :: (A3 ++ A4 ++ (A0 ++ A1 ++ (AC ++ (AE ++ [(b2, .cells #[.int .i64 0, .slice none 0 0, .slice none 0 0, .slice none 0 0, .slice none 0 0] 30), (b1, .cells #[.int .i64 k.first.wide, c, ed, p, s] 30)])))) ∧ ∃ ts : List (Raw (shownR τ).sz), ts.length = j ∧ Gr A3 sv 37 (rawF (shownR τ).sz) ts ∧ OAll (shownR τ) A4 ts (k.shown.take j)) (fun j => k.shown.length - j) 0 ((b5, .cells #[.int .i64 k.first.wide, c2, e2, pv, .slice none 0 0] 30) :: ([] ++ [] ++ (A0 ++ A1 ++ (AC ++ (AE ++ [(b2, .cells #[.int .i64 0, .slice none 0 0, .slice none 0 0, .slice none 0 0, .slice none 0 0] 30), (b1, .cells #[.int .i64 k.first.wide, c, ed, p, s] 30)]))))) ⟨by omega, _, [], [], rfl, [], rfl, Gr.nil _ _, .nil⟩ ?_
      rintro j O ⟨hj, sv, A3, A4, rfl, ts, ht, gt', ob⟩
      have o8 := gt'.one
      repeat first | refine R1 ?_ | refine R2 fun _ => ?_
      refine sf_if (fun h4 => ?_) fun h4 => ?_
      · have hj4 : j < k.shown.length := by omega
        have hj5 : j < rs.length := by omega
        obtain ⟨l, ex, sl⟩ := shownB (bs.at hj4)
        have ol := sl.one
        haveI : FlatV (rawF (shownR τ).sz) (gt rs j) [.int .i64 (gt k.shown j).ver, l] := ⟨ex⟩
        have hsz := sizeL_at (f := szShownN) hj4
        have hsl : (gt k.shown j).pic.length ≤ 1048576 := by simp only [szShownN] at hsz hz4; omega
        repeat first | refine R1 ?_ | refine R2 fun _ => ?_
        refine Sd [[],[0],[],[2],[],[2,3,4],[2,3,4,5],[2,3,4,5,6],[],[],[9],[],[9,10,11],[9,10,11,12],[9,10,11,12,13],[8,9,10,11,12,13,14],[2,3,4,5,6,7,8,9,10,11,12,13,14,15],[2,3,4,5,6,7,8,9,10,11,12,13,14,15,16],[0,1,2,3,4,5,6,7,8,9,10,11,12,13,14,15,16,17],[0,1,2,3,4,5,6,7,8,9,10,11,12,13,14,15,16,17,18],[0,1,2,3,4,5,6,7,8,9,10,11,12,13,14,15,16,17,18,19]] 18 [Nn 0,Nn 1,Nn 2,Nn 3,Nn 4,Nn 5,Nn 6,Nn 7,Nn 9,Nn 10,Nn 11,Nn 12,Nn 13,Nn 14,Yy 8,Yy 15,Nn 16,Yy 17] ?_
        refine Da ?_
        refine Yb fun w Aw gw => ?_
        have ow := gw.one
        refine Da ?_
        refine Ys gw sl fun l2 AL gl => ?_
        have ol2 := gl.one
        refine Da ?_
        refine Yb fun u Au gu => ?_
        refine Da ?_
        refine Ae ?_
        repeat first | refine R1 ?_ | refine R2 fun _ => ?_
        refine fp (y_append (by rfl) (by rfl) gt' gu (by intro y hy; simp at hy; subst hy; exact (inferInstance : AllOne [Value.int .i64 (gt k.shown j).ver, l2]).is) (by rfl) (by rfl) (by simp; omega) (by simp; omega) fun sv2 A5 g5 => ?_)
        have o9 := g5.one
        repeat first | refine R1 ?_ | refine R2 fun _ => ?_
        refine ⟨j + 1, by omega, ⟨rfl, trivial⟩, rfl, (b5, .cells #[.int .i64 k.first.wide, c2, e2, pv, sv2] 30) :: (A5 ++ (A4 ++ AL) ++ (A0 ++ A1 ++ (AC ++ (AE ++ [(b2, .cells #[.int .i64 0, .slice none 0 0, .slice none 0 0, .slice none 0 0, .slice none 0 0] 30), (b1, .cells #[.int .i64 k.first.wide, c, ed, p, s] 30)])))), _, inferInstance, by omega, sv2, A5, A4 ++ AL, rfl, _, by simp [ht], g5, ?_⟩
        rw [take_succ_gt hj4]
        exact ob.snoc (shownO_mk (p := gt k.shown j) gl (by omega))
      · refine sf_exit ?_
        rw [take_ge hj (by omega)] at ob
        repeat first | refine R1 ?_ | refine R2 fun _ => ?_
        exact sf_ret (rO (AC ++ (AE ++ ((A0 ++ A1) ++ (A3 ++ A4)))) ⟨_, rfl, keeperO_mk g1 l1 ge (by omega) ⟨A0, A1, rfl, qs, gq, oa, by omega⟩ ⟨A3, A4, rfl, ts, gt', ob, by omega⟩⟩)
theorem sSetPart_at (k : Keeper) (i j : Nat) (p : Part) (hj : j < k.parts.length) : gt (setPart k i p).parts j = if i = j then p else gt k.parts j := by
  rw [gt_eq (by simpa [setPart] using hj), gt_eq hj]
  simp only [setPart, List.getElem_set]
theorem sPub_first (k : Keeper) : (published k).first = k.first ∧ (published k).edits = k.edits ∧ (published k).parts = k.parts := by
  unfold published; split <;> exact ⟨rfl, rfl, rfl⟩
theorem sPl_set {k : Keeper} (pl : ∀ i, i < k.parts.length → (gt k.parts i).has = true → (gt k.parts i).lights.length = ownCnt (manyOf k.first).toNat k.parts.length (i + 1)) (i : Nat) (q : Part) (hq : q.has = true → q.lights.length = ownCnt (manyOf k.first).toNat k.parts.length (i + 1)) :
    ∀ j, j < (setPart k i q).parts.length → (gt (setPart k i q).parts j).has = true → (gt (setPart k i q).parts j).lights.length = ownCnt (manyOf (setPart k i q).first).toNat (setPart k i q).parts.length (j + 1) := fun j hj hh => by
  have hl : (setPart k i q).parts.length = k.parts.length := by simp [setPart]
  have hj' : j < k.parts.length := by omega
  rw [sSetPart_at _ _ _ _ hj'] at hh ⊢
  rw [hl]
  by_cases e : i = j
  · subst e
    rw [if_pos rfl] at hh ⊢
    exact hq hh
  · rw [if_neg e] at hh ⊢
    exact pl j hj' hh
theorem l22Hear_f (h : PHeap) (A : Own) (ca : List Value) (k : Keeper) (b : (keeperR τ).O A ca k) (ok : keepOk k = true) (hs : szKeeperN k ≤ 1048576) (cw : List Value) (w : Word) (bw : (wordR τ).B h cw w) (hw : w.lights.length ≤ 1048576) : CallF Tryz.prog M 70 [.agg ca.toArray, .agg cw.toArray] A h fun u A' => ∃ cs, u = .agg cs.toArray ∧ (keeperR τ).O A' cs (heard k w) := by
  have b0 := b
  obtain ⟨z1, z2, z3, z4⟩ := szKeeper_parts hs
  have hz4 : szShownSN k.shown = k.shown.length + sizeL szShownN k.shown := rfl
  have hk := keepOk_head ok
  have n1 := hk.n1
  have n3 := hk.n3
  have h60 := hk.e60
  obtain ⟨c, ed, p, s, A1, A2, A3, A4, rfl, rfl, ⟨g1, l1⟩, ⟨g2, le2⟩, g3, g4⟩ := keeperO b
  have o1 := g1.one
  have o2 := g2.one
  have o3 := g3.one
  have o4 := g4.one
  obtain ⟨wc, wl, rfl, sw1, sw2⟩ := wordB bw
  have o5 := sw1.one
  have o6 := sw2.one
  obtain ⟨B0, B1, rfl, rs, gq, oa, hq4⟩ := g3
  have lq := oa.len
  have hsh : k.shown.length ≤ 1048576 := by omega
  refine Cs Tryz.func70 Tryz.ntmps70 ?_
  repeat first | refine R1 ?_ | refine R2 fun _ => ?_
  refine Xv (l6In_v _ _ _ _) ?_
  repeat first | refine R1 ?_ | refine R2 fun _ => ?_
  refine sf_cond (by rfl) (fun h1 => ?_) fun h1 => ?_
  · repeat first | refine R1 ?_ | refine R2 fun _ => ?_
    rw [heard, if_neg (by intro y; simp at h1; omega)]
    exact sf_ret (rO (A1 ++ (A2 ++ ((B0 ++ B1) ++ A4))) ⟨[.int .i64 k.first.wide, c, ed, p, s], rfl, b0⟩)
  have hr : 1 ≤ w.frm ∧ w.frm ≤ k.parts.length := by simp at h1; omega
  rw [heard, if_pos hr]
  obtain ⟨i, hi, hz⟩ : ∃ i : Nat, i < k.parts.length ∧ w.frm = i + 1 := ⟨(w.frm - 1).toNat, by omega, by omega⟩
  have ei : w.frm.toNat - 1 = i := by omega
  have ez : w.frm - 1 = (i : Int) := by omega
  rw [ei]
  have hi5 : i < rs.length := by omega
  obtain ⟨C1, Ck, C2, rfl, qk, oset⟩ := oa.at hi
  obtain ⟨lk0, exk, gk, lk1⟩ := partO qk
  have olk := gk.one
  haveI : FlatV (rawF (partR τ).sz) (gt rs i) [.bool (gt k.parts i).has, .int .i64 (gt k.parts i).ver, lk0] := ⟨exk⟩
  have hpl := sPl_of ok
  repeat first | refine R1 ?_ | refine R2 fun _ => ?_
  refine sf_if (fun h3 => ?_) fun h3 => ?_
  · rw [if_pos h3]
    repeat first | refine R1 ?_ | refine R2 fun _ => ?_
    simp only [ez]
    repeat first | refine R1 ?_ | refine R2 fun _ => ?_
    refine Xb fun w0 Aw gw => ?_
    have ow := gw.one
    repeat first | refine R1 ?_ | refine R2 fun _ => ?_
    refine Xg gq fun D0 ys ey ly _ g5 => ?_
    have oall := oset Aw ⟨[.bool false, .int .i64 0, w0], rfl⟩ noPart (partO_mk (p := noPart) gw (by decide))
    have g3' : GrR (partR τ) (D0 ++ (C1 ++ (Aw ++ C2))) p 35 (setPart k i noPart).parts := ⟨D0, _, rfl, ys, g5, by rw [ey]; exact oall, by simp [setPart]; omega⟩
    repeat first | refine R1 ?_ | refine R2 fun _ => ?_
    exact sf_ret (rO (A1 ++ (A2 ++ ((D0 ++ (C1 ++ (Aw ++ C2))) ++ A4))) ⟨[.int .i64 k.first.wide, c, ed, p, s], rfl, keeperO_mk (k := setPart k i noPart) g1 l1 g2 le2 g3' g4⟩)
  rw [if_neg h3]
  have hN : takesWord k w = false → (if w.kind = 3 ∧ takesWord k w = true then published (setPart k i ⟨true, w.ver, w.lights⟩) else k) = k := fun x => by rw [if_neg (fun y => by rw [x] at y; cases y.2)]
  have htw : takesWord k w = (verOk k w.ver && decide (w.lights.length = ownCnt (manyOf k.first).toNat k.parts.length (i + 1))) := by rw [takesWord, hz]; rfl
  have c21 : ∀ h, CallV Tryz.prog M 49 [.int .i64 w.ver, .int .i64 0, .int .i64 k.edits.length] h (.bool (verOk k w.ver)) := fun h => l6In_v h _ _ _
  repeat first | refine R1 ?_ | refine R2 fun _ => ?_
  by_cases h4 : w.kind = 3
  · have h4' : ¬ (w.kind ≠ 3) := fun x => x h4
    cases hv : verOk k w.ver with
    | false =>
      rw [hv] at c21
      refine Sd [[],[0],[0,1],[0,1,2],[0,1,2,3],[0,1,2,3,4],[0,1,2,3],[0,1,2,3,6],[0,1,2,3,6,7],[0,1,2,3,4,5,6,7,8],[0,1,2,3,4,5,6,7,8,9],[0,1,2,3,4,5,6,7,8,9,10],[0,1,2,3,4,5,6,7,8,9,10,11],[0,1,2,3,4,5,6,7,8,9,10,11,12],[0,1,2,3,4,5,6,7,8,9,10,11,12,13],[0,1,2,3,4,5,6,7,8,9,10,11,12,13,14],[0,1,2,3,4,5,6,7,8,9,10,11,12],[0,1,2,3,4,5,6,7,8,9,10,11,12,16],[0,1,2,3,4,5,6,7,8,9,10,11,12],[0,1,2,3,4,5,6,7,8,9,10,11,12,18],[0,1,2,3,4,5,6,7,8,9,10,11,12],[0,1,2,3,4,5,6,7,8,9,10,11,12,20],[0,1,2,3,4,5,6,7,8,9,10,11,12,20,21],[0,1,2,3,4,5,6,7,8,9,10,11,12,16,17,18,19,20,21,22],[0,1,2,3,4,5,6,7,8,9,10,11,12,16,17,18,19,20,21,22,23],[0,1,2,3,4,5,6,7,8,9,10,11,12,13,14,15,16,17,18,19,20,21,22,23,24],[0,1,2,3,4,5,6,7,8,9,10,11,12,13,14,15,16,17,18,19,20,21,22,23,24,25]] 25 [Nn 0,Nn 1,Nn 2,Nn 3,Nn 4,Nn 5,Nn 6,Nn 7,Nn 8,Yy 9,Nn 10,Nn 11,Nn 12,Nn 13,Nn 14,Nn 15,Nn 16,Nn 17,Nn 18,Nn 19,Nn 20,Nn 21,Nn 22,Nn 23,Nn 24] ?_
      refine Da ?_
      refine a_callV (c21 h) (by rfl) (by rfl) (.inr ⟨_, _, _, _, rfl, by rfl, by rfl, decide_eq_false h4'⟩) ?_
      refine Da ?_
      refine Ae ?_
      repeat first | refine R1 ?_ | refine R2 fun _ => ?_
      refine sf_T rfl ?_
      repeat first | refine R1 ?_ | refine R2 fun _ => ?_
      rw [hN (by rw [htw, hv]; rfl)]
      exact sf_ret (rO (A1 ++ (A2 ++ ((B0 ++ (C1 ++ (Ck ++ C2))) ++ A4))) ⟨[.int .i64 k.first.wide, c, ed, p, s], rfl, b0⟩)
    | true =>
      rw [hv] at c21
      refine sf_draw (by kernel_rfl) (regX_own (A1) (Sw [[],[0],[0,1],[0,1,2],[0,1,2,3],[0,1,2,3,4],[0,1,2,3],[0,1,2,3,6],[0,1,2,3,6,7],[0,1,2,3,4,5,6,7,8],[0,1,2,3,4,5,6,7,8,9],[0,1,2,3,4,5,6,7,8,9,10],[0,1,2,3,4,5,6,7,8,9,10,11],[0,1,2,3,4,5,6,7,8,9,10,11,12],[0,1,2,3,4,5,6,7,8,9,10,11,12,13],[0,1,2,3,4,5,6,7,8,9,10,11,12,13,14],[0,1,2,3,4,5,6,7,8,9,10,11,12],[0,1,2,3,4,5,6,7,8,9,10,11,12,16],[0,1,2,3,4,5,6,7,8,9,10,11,12],[0,1,2,3,4,5,6,7,8,9,10,11,12,18],[0,1,2,3,4,5,6,7,8,9,10,11,12],[0,1,2,3,4,5,6,7,8,9,10,11,12,20],[0,1,2,3,4,5,6,7,8,9,10,11,12,20,21],[0,1,2,3,4,5,6,7,8,9,10,11,12,16,17,18,19,20,21,22],[0,1,2,3,4,5,6,7,8,9,10,11,12,16,17,18,19,20,21,22,23],[0,1,2,3,4,5,6,7,8,9,10,11,12,13,14,15,16,17,18,19,20,21,22,23,24],[0,1,2,3,4,5,6,7,8,9,10,11,12,13,14,15,16,17,18,19,20,21,22,23,24,25]] 25 [Nn 0,Nn 1,Nn 2,Nn 3,Nn 4,Nn 5,Nn 6,Nn 7,Nn 8,Yy 9,Nn 10,Nn 11,Nn 12,Nn 13,Nn 14,Nn 15,Nn 16,Nn 17,Nn 18,Nn 19,Nn 20,Nn 21,Nn 22,Yy 23,Nn 24] ?_))
      refine Da ?_
      refine a_callV (c21 h) (by rfl) (by rfl) (.inr ⟨_, _, _, _, rfl, by rfl, by rfl, decide_eq_false h4'⟩) ?_
      refine Da ?_
      rw [hz, lq]
      refine Yc (lendF A1 fun h' _ inb => l21Own_f h' c k.first (g1.lent l1 inb) (gok hk.grid) (i + 1) k.parts.length (by omega) (by omega) n3) ?_
      rintro xv _ ⟨AX, rfl, gx⟩
      have ox := gx.one
      have hl := ownList_len (manyOf k.first).toNat k.parts.length (i + 1)
      refine Da ?_
      refine Ae ?_
      repeat first | refine R1 ?_ | refine R2 fun _ => ?_
      refine sf_if (fun h6 => ?_) fun h6 => ?_
      · repeat first | refine R1 ?_ | refine R2 fun _ => ?_
        rw [hN (by rw [htw, hv, Bool.true_and]; exact decide_eq_false (by omega))]
        exact sf_ret (rO (A1 ++ (A2 ++ ((B0 ++ (C1 ++ (Ck ++ C2))) ++ A4))) ⟨[.int .i64 k.first.wide, c, ed, p, s], rfl, b0⟩)
      have hln : w.lights.length = ownCnt (manyOf k.first).toNat k.parts.length (i + 1) := by omega
      rw [if_pos ⟨h4, by rw [htw, hv, Bool.true_and]; exact decide_eq_true hln⟩]
      repeat first | refine R1 ?_ | refine R2 fun _ => ?_
      refine Sd [[],[0],[],[2],[2,3],[],[5],[],[],[8],[7,8,9],[5,6,7,8,9,10],[0,1,2,3,4,5,6,7,8,9,10,11],[0,1,2,3,4,5,6,7,8,9,10,11,12]] 12 [Nn 0,Nn 1,Nn 2,Nn 3,Nn 4,Nn 5,Nn 6,Nn 8,Nn 9,Yy 7,Yy 10,Nn 11] ?_
      refine Da ?_
      refine Yb fun w0 Aw gw => ?_
      have ow := gw.one
      refine Da ?_
      refine Ys gw sw2 fun l2 AL gl => ?_
      have ol2 := gl.one
      refine Da ?_
      refine Ae ?_
      simp only [ez]
      repeat first | refine R1 ?_ | refine R2 fun _ => ?_
      refine Xg gq fun D0 ys ey ly _ g5 => ?_
      have oall := oset AL ⟨[.bool true, .int .i64 w.ver, l2], rfl⟩ ⟨true, w.ver, w.lights⟩ (partO_mk (p := ⟨true, w.ver, w.lights⟩) gl (by simp only; omega))
      have g3' : GrR (partR τ) (D0 ++ (C1 ++ (AL ++ C2))) p 35 (setPart k i ⟨true, w.ver, w.lights⟩).parts := ⟨D0, _, rfl, ys, g5, by rw [ey]; exact oall, by simp [setPart]; omega⟩
      have hl' : (setPart k i ⟨true, w.ver, w.lights⟩).parts.length = k.parts.length := by simp [setPart]
      obtain ⟨f1, f2, f3⟩ := sPub_first (setPart k i ⟨true, w.ver, w.lights⟩)
      repeat first | refine R1 ?_ | refine R2 fun _ => ?_
      refine fp (y_call (lendF (A1 ++ (D0 ++ (C1 ++ (AL ++ C2)))) fun h' l' inb => l22Show_f h' c ed p s (setPart k i ⟨true, w.ver, w.lights⟩) A4 (g1.lent l1 (inb_l inb)) o2 (g3'.lent (inb_r inb)) g4 hk.grid (by omega) (by omega) (sPl_set hpl i ⟨true, w.ver, w.lights⟩ (fun _ => hln)) hsh) (by rfl) ?_)
      rintro u _ ⟨A', rfl, s', rfl, gs'⟩
      have o9 := gs'.one
      repeat first | refine R1 ?_ | refine R2 fun _ => ?_
      refine sf_ret (rO (A1 ++ (A2 ++ ((D0 ++ (C1 ++ (AL ++ C2))) ++ A'))) ⟨[.int .i64 k.first.wide, c, ed, p, s'], rfl, ?_⟩)
      have := keeperO_mk (τ := τ) (k := published (setPart k i ⟨true, w.ver, w.lights⟩)) (c := c) (e := ed) (p := p) (s := s') (A1 := A1) (A2 := A2) (A3 := D0 ++ (C1 ++ (AL ++ C2))) (A4 := A') (by rw [f1]; exact g1) (by rw [f1]; exact l1) (by rw [f2]; exact g2) (by rw [f2]; exact le2) (by rw [f3]; exact g3') gs'
      rw [f1] at this
      exact this
  · rw [if_neg (fun x => h4 x.1)]
    have h4' : w.kind ≠ 3 := h4
    refine Sd [[],[0],[0,1],[0,1,2],[0,1,2,3],[0,1,2,3,4],[0,1,2,3],[0,1,2,3,6],[0,1,2,3,6,7],[0,1,2,3,4,5,6,7,8],[0,1,2,3,4,5,6,7,8,9],[0,1,2,3,4,5,6,7,8,9,10],[0,1,2,3,4,5,6,7,8,9,10,11],[0,1,2,3,4,5,6,7,8,9,10,11,12],[0,1,2,3,4,5,6,7,8,9,10,11,12,13],[0,1,2,3,4,5,6,7,8,9,10,11,12,13,14],[0,1,2,3,4,5,6,7,8,9,10,11,12],[0,1,2,3,4,5,6,7,8,9,10,11,12,16],[0,1,2,3,4,5,6,7,8,9,10,11,12],[0,1,2,3,4,5,6,7,8,9,10,11,12,18],[0,1,2,3,4,5,6,7,8,9,10,11,12],[0,1,2,3,4,5,6,7,8,9,10,11,12,20],[0,1,2,3,4,5,6,7,8,9,10,11,12,20,21],[0,1,2,3,4,5,6,7,8,9,10,11,12,16,17,18,19,20,21,22],[0,1,2,3,4,5,6,7,8,9,10,11,12,16,17,18,19,20,21,22,23],[0,1,2,3,4,5,6,7,8,9,10,11,12,13,14,15,16,17,18,19,20,21,22,23,24],[0,1,2,3,4,5,6,7,8,9,10,11,12,13,14,15,16,17,18,19,20,21,22,23,24,25]] 25 [Nn 0,Nn 1,Nn 2,Nn 3,Nn 4,Nn 5,Nn 6,Nn 7,Nn 8,Nn 9,Nn 10,Nn 11,Nn 12,Nn 13,Nn 14,Nn 15,Nn 16,Nn 17,Nn 18,Nn 19,Nn 20,Nn 21,Nn 22,Nn 23,Nn 24] ?_
    refine Da ?_
    refine Ae ?_
    repeat first | refine R1 ?_ | refine R2 fun _ => ?_
    refine sf_T rfl ?_
    repeat first | refine R1 ?_ | refine R2 fun _ => ?_
    exact sf_ret (rO (A1 ++ (A2 ++ ((B0 ++ (C1 ++ (Ck ++ C2))) ++ A4))) ⟨[.int .i64 k.first.wide, c, ed, p, s], rfl, b0⟩)
theorem sKeeperO_one {A : Own} {cs : List Value} {k : Keeper} (b : (keeperR τ).O A cs k) : ∃ c e p s, cs = [.int .i64 k.first.wide, c, e, p, s] ∧ Sl.One c ∧ Sl.One e ∧ Sl.One p ∧ Sl.One s := by
  obtain ⟨c, e, p, s, _, _, _, _, h, -, ⟨g1, -⟩, ⟨g2, -⟩, g3, g4⟩ := keeperO b
  exact ⟨c, e, p, s, h, g1.one, g2.one, g3.one, g4.one⟩
theorem sKeepHear_f (h : PHeap) (ca : List Value) (k : Keeper) (b : (keeperR τ).B h ca k) (hs : szKeeperN k ≤ 1048576) (cw : List Value) (w : Word) (bw : (wordR τ).B h cw w) (hw : w.lights.length ≤ 1048576) : CallF Tryz.prog M 31 [.agg ca.toArray, .agg cw.toArray] [] h fun u A => ∃ cs, u = .agg cs.toArray ∧ (keeperR τ).O A cs (keepHear k w) := by
  have b0 := b
  have bw0 := bw
  obtain ⟨c, ed, p, s, rfl, s1, s2, s3, s4⟩ := keeperB b
  have o1 := s1.one
  have o2 := s2.one
  have o3 := s3.one
  have o4 := s4.one
  obtain ⟨wc, wl, rfl, sw1, sw2⟩ := wordB bw
  have o5 := sw1.one
  have o6 := sw2.one
  refine Cs Tryz.func31 Tryz.ntmps31 ?_
  repeat first | refine R1 ?_ | refine R2 fun _ => ?_
  refine Xv (sKeepOk_v _ _ k b0) ?_
  repeat first | refine R1 ?_ | refine R2 fun _ => ?_
  refine sf_cond (by rfl) (fun h1 => ?_) fun h1 => ?_
  · simp only [Bool.not_eq_true'] at h1
    repeat first | refine R1 ?_ | refine R2 fun _ => ?_
    rw [show keepHear k w = noKeeper by rw [keepHear, if_neg (by simp [h1])]]
    exact sf_ret (rO [] ⟨[.int .i64 0, .slice none 0 0, .slice none 0 0, .slice none 0 0, .slice none 0 0], rfl, noKeeperO⟩)
  simp only [Bool.not_eq_false'] at h1
  rw [show keepHear k w = heard k w by rw [keepHear, if_pos h1]]
  repeat first | refine R1 ?_ | refine R2 fun _ => ?_
  refine Sd [[],[0],[],[0,1,2],[0,1,2,3]] 3 [Nn 0,Nn 2,Yy 1] ?_
  refine Da ?_
  refine Yc (l22Copy_f _ _ k b0 hs) ?_
  rintro _ AC ⟨cc, rfl, q⟩
  refine Da ?_
  refine Ae ?_
  refine fp (y_call (l22Hear_f _ AC cc k q h1 hs _ w bw0 hw) (by rfl) ?_)
  rintro _ AE ⟨ce, rfl, q2⟩
  have q2' := q2
  obtain ⟨x1, x2, x3, x4, rfl, p1, p2, p3, p4⟩ := sKeeperO_one q2
  repeat first | refine R1 ?_ | refine R2 fun _ => ?_
  exact sf_ret (rO AE ⟨_, rfl, q2'⟩)
instance : ElemF Tryz.prog 4 boolF := ⟨trivial⟩
theorem l11Foot_f (h : PHeap) (c : Value) (g : Grid) (s : Sl h c cellF g.cells) {R : Int} (kg : Gok g R) (vv : Value) (vs : List Visit) (sv : Sl h vv visitF vs) (hvs : ∀ v ∈ vs, 0 ≤ v.at' ∧ v.at' < g.cells.length) : CallF Tryz.prog M 230 [.agg #[.int .i64 g.wide, c], vv] [] h fun u A => Gr A u 3 intF (footIs g vs) := by
  have o1 := s.one
  have o2 := sv.one
  have hsm := kg.small
  have hvl := sv.small
  refine Cs Tryz.func230 Tryz.ntmps230 ?_
  repeat first | refine R1 ?_ | refine R2 fun _ => ?_
  rename_i b2
  refine Xm fun v A gr => ?_
  have o3 := gr.one
  repeat first | refine R1 ?_ | refine R2 fun _ => ?_
  refine sf_lp (ι := Nat × List Bool) [1, 5] (fun x => [(6, .int .i64 (x.1 : Int))]) (fun x O => x.1 ≤ vs.length ∧ ∃ A', O = A' ++ [(b2, .cells #[.int .i64 g.wide, c] 25)] ∧ Gr A' v 4 boolF x.2 ∧ x.2.length = g.cells.length ∧ ∀ a, a < g.cells.length → gt x.2 a = (vs.take x.1).any fun w => decide (w.at' = (a : Nat))) (fun x => vs.length - x.1) (0, List.replicate g.cells.length false) (A ++ [(b2, .cells #[.int .i64 g.wide, c] 25)]) ⟨by simp only; omega, A, rfl, gr, by simp, fun a ha => by simp [gt, ha]⟩ ?_
  rintro ⟨j, bs⟩ O ⟨hj, A', rfl, gb, hbl, hb⟩
  simp only at hj gb hbl hb ⊢
  repeat first | refine R1 ?_ | refine R2 fun _ => ?_
  refine sf_if (fun h4 => ?_) fun h4 => ?_
  · have hj4 : j < vs.length := by omega
    have hv := hvs (gt vs j) (by rw [gt_eq hj4]; exact List.getElem_mem _)
    repeat first | refine R1 ?_ | refine R2 fun _ => ?_ | refine fp (Rq ?_ (z_indexGI (by rfl) (by rfl) (by assumption) (by omega) (by omega)))
    refine Xg gb fun A2 ys hy hl fv g2 => ?_
    repeat first | refine R1 ?_ | refine R2 fun _ => ?_
    refine ⟨(j + 1, ys), by simp only; omega, ⟨rfl, trivial⟩, rfl, A2 ++ [(b2, .cells #[.int .i64 g.wide, c] 25)], _, inferInstance, by simp only; omega, A2, rfl, g2, by simp only; omega, fun a ha => ?_⟩
    simp only
    rw [hy, take_succ_gt hj4, List.any_append]
    simp only [List.any_cons, List.any_nil, Bool.or_false]
    by_cases e : (gt vs j).at'.toNat = a
    · subst e
      rw [gt_set (by omega)]
      have : (gt vs j).at' = (((gt vs j).at'.toNat : Nat) : Int) := by omega
      simp [← this]
    · rw [gt_set_ne e, hb a ha]
      have : ¬ (gt vs j).at' = ((a : Nat) : Int) := by omega
      simp [this]
  · refine sf_exit ?_
    obtain rfl : j = vs.length := by omega
    rw [List.take_of_length_le (Nat.le_refl _)] at hb
    repeat first | refine R1 ?_ | refine R2 fun _ => ?_
    refine Xb fun w AW gw => ?_
    repeat first | refine R1 ?_ | refine R2 fun _ => ?_
    refine sf_lp (ι := Nat × Value) [5] (fun x => [(7, x.2), (8, .int .i64 (x.1 : Int))]) (fun x O => x.1 ≤ g.cells.length ∧ ∃ AW xs, O = AW ++ (A' ++ [(b2, .cells #[.int .i64 g.wide, c] 25)]) ∧ xs.length ≤ x.1 ∧ xs = (((List.range x.1).filter fun i => vs.any fun v => decide (v.at' = (i : Nat))).map fun i => ((i : Nat) : Int)) ∧ Gr AW x.2 3 intF xs) (fun x => g.cells.length - x.1) (0, w) (AW ++ (A' ++ [(b2, .cells #[.int .i64 g.wide, c] 25)])) ⟨by simp only; omega, AW, [], rfl, by simp, rfl, gw⟩ ?_
    rintro ⟨i, w⟩ O ⟨hi, AW, xs, rfl, hxl, hxs, gx⟩
    simp only at hi hxl hxs gx ⊢
    have ow := gx.one
    repeat first | refine R1 ?_ | refine R2 fun _ => ?_
    refine sf_if (fun h5 => ?_) fun h5 => ?_
    · have hi4 : i < g.cells.length := by omega
      repeat first | refine R1 ?_ | refine R2 fun _ => ?_ | refine fp (Rq ?_ (z_indexGI (by rfl) (by rfl) (by assumption) (by omega) (by omega)))
      rw [hb i hi4]
      refine sf_cond (by rfl) (fun e => ?_) fun e => ?_
      · repeat first | refine R1 ?_ | refine R2 fun _ => ?_
        refine Xb fun u Au gu => ?_
        repeat first | refine R1 ?_ | refine R2 fun _ => ?_
        refine Xa gx gu fun w2 A2 g2 => ?_
        repeat first | refine R1 ?_ | refine R2 fun _ => ?_
        exact ⟨(i + 1, w2), by simp only; omega, ⟨rfl, rfl, trivial⟩, rfl, A2 ++ (A' ++ [(b2, .cells #[.int .i64 g.wide, c] 25)]), _, inferInstance, by simp only; omega, A2, _, rfl, by simp; omega, by simp only; rw [List.range_succ, List.filter_append, List.map_append, ← hxs]; simp only [List.filter_cons, e, if_true, List.filter_nil, List.map_cons, List.map_nil], g2⟩
      · repeat first | refine R1 ?_ | refine R2 fun _ => ?_
        exact ⟨(i + 1, w), by simp only; omega, ⟨rfl, rfl, trivial⟩, rfl, AW ++ (A' ++ [(b2, .cells #[.int .i64 g.wide, c] 25)]), _, inferInstance, by simp only; omega, AW, xs, rfl, by simp only; omega, by simp only; rw [List.range_succ, List.filter_append, List.map_append, ← hxs]; simp only [List.filter_cons, e, Bool.false_eq_true, if_false, List.filter_nil, List.map_nil, List.append_nil], gx⟩
    · refine sf_exit ?_
      obtain rfl : i = g.cells.length := by omega
      repeat first | refine R1 ?_ | refine R2 fun _ => ?_
      refine sf_ret (rO AW ?_)
      rw [footIs, ← hxs]; exact gx
instance elemF_ints_SJ : ElemF Tryz.prog 33 (rawF (intSR τ).sz) := ⟨trivial⟩
theorem l13Look_f (h : PHeap) (c : Value) (g : Grid) (s : Sl h c cellF g.cells) (e : gridOk g = true) (l f : Value) (A2 A3 : Own) (ls : List Int) (fs : List (List Int)) (gl : Gr A2 l 3 intF ls) (gf : GrR (intSR τ) A3 f 33 fs) (k : Nat) (hk : (k : Int) < manyOf g) (hl : k < ls.length) (hf : k < fs.length) :
    CallF Tryz.prog M 228 [.agg #[.int .i64 g.wide, c, l, f], .int .i64 (k : Int)] (A2 ++ A3) h fun u A => ∃ A2' A3', u = .agg #[.int .i64 g.wide, c, l, f] ∧ A = A2' ++ A3' ∧ Gr A2' l 3 intF (ls.set k (trailLight g k)) ∧ GrR (intSR τ) A3' f 33 (fs.set k (footOf g k)) := by
  have o1 := s.one
  have o2 := gl.one
  have o3 := gf.one
  have kg := gok e
  have hsm := kg.small
  obtain ⟨sz, vs, es, hc, hg, hsz, hok⟩ := goLight_is kg (j := (k : Int)) (by omega) hk
  have hle := hok.le
  have hlv := hok.lv
  have hes : ∀ e ∈ es, EndOk g 64 e := hok.es
  have hvs : ∀ v ∈ vs, 0 ≤ v.at' ∧ v.at' < g.cells.length := fun v hv => ⟨(hok.vs v hv).a0, (hok.vs v hv).a1⟩
  simp only at hle hlv
  obtain ⟨F0, F1, rfl, rs, gr, oa, hb⟩ := gf
  have hr := oa.len
  refine Cs Tryz.func228 Tryz.ntmps228 ?_
  repeat first | refine R1 ?_ | refine R2 fun _ => ?_
  rename_i b2 b4
  refine fp (y_call (l11Go_f (M := M) _ c g s kg (k : Int) ⟨by omega, hk⟩) (by rfl) ?_)
  rintro _ _ ⟨b5, rfl, vv, ev, AV, AE, rfl, gv, ge⟩
  rw [hg] at gv ge
  simp only at gv ge
  have o4 := gv.one
  have o5 := ge.one
  have htl : trailLight g (k : Int) = lightOf g es := by rw [trailLight, hg]
  have hft : footOf g (k : Int) = footIs g vs := by rw [footOf, hg]
  rw [htl, hft]
  clear hc hg
  repeat first | refine R1 ?_ | refine R2 fun _ => ?_
  refine sf_draw (by kernel_rfl) (regX_own (AE) (Sw [[],[0],[],[],[3],[],[5],[5,6],[5,6,7],[3,4,5,6,7,8],[0,1,2,3,4,5,6,7,8,9],[0,1,2,3,4,5,6,7,8,9,10]] 10 [Nn 0,Nn 1,Nn 2,Nn 3,Nn 4,Nn 5,Nn 6,Nn 7,Nn 8,Yy 9] ?_))
  refine Da ?_
  refine Yc (lendV AE fun h' l i => l11Light_v (M := M) h' c g (s.le l.le) kg ev es (ge.lent (by omega) i) hes (by omega)) ?_
  rintro _ _ ⟨rfl, rfl⟩
  refine Da ?_
  refine Ae ?_
  repeat first | refine R1 ?_ | refine R2 fun _ => ?_
  refine Xg gl fun A5 ys hy hly fv g5 => ?_
  repeat first | refine R1 ?_ | refine R2 fun _ => ?_
  refine sf_draw (by kernel_rfl) (regX_own (AV) (Sw [[],[0],[],[],[3],[],[5],[5,6],[5,6,7],[3,4,5,6,7,8],[0,1,2,3,4,5,6,7,8,9],[0,1,2,3,4,5,6,7,8,9,10]] 10 [Nn 0,Nn 1,Nn 2,Nn 3,Nn 4,Nn 5,Nn 6,Nn 7,Nn 8,Yy 9] ?_))
  refine Da ?_
  refine Yc (lendF AV fun h' l i => l11Foot_f (M := M) h' c g (s.le l.le) kg vv vs (gv.lent (by omega) i) hvs) ?_
  rintro w _ ⟨AW, rfl, gw⟩
  have o6 := gw.one
  refine Da ?_
  refine Ae ?_
  repeat first | refine R1 ?_ | refine R2 fun _ => ?_
  refine Xg gr fun A6 zs hz hlz fz g6 => ?_
  repeat first | refine R1 ?_ | refine R2 fun _ => ?_
  obtain ⟨B1, Bk, B2, rfl, q1, q2⟩ := oa.at hf
  have q3 := q2 AW ⟨[w], rfl⟩ (footIs g vs) ⟨w, rfl, gw, by have := footIs_len g vs; omega⟩
  rw [hy] at g5
  rw [hz] at g6
  exact sf_ret (rO (A5 ++ (A6 ++ (B1 ++ (AW ++ B2)))) ⟨A5, A6 ++ (B1 ++ (AW ++ B2)), rfl, rfl, g5, A6, _, rfl, _, g6, q3, by simp; omega⟩)
theorem scene_step {xs : List (List Int)} {k : Nat} (h : k < xs.length) : (xs.take k ++ List.replicate (xs.length - k) []).set k (gt xs k) = xs.take (k + 1) ++ List.replicate (xs.length - (k + 1)) [] := set_step h
theorem nils_all (n : Nat) : OAll (intSR τ) [] (List.replicate n ⟨[.slice none 0 0], rfl⟩) (List.replicate n []) := by
  induction n with
  | zero => exact .nil
  | succ n ih => exact .cons (A := []) ⟨_, rfl, Gr.nil _ _, by simp⟩ ih
theorem sSceneNew_f (h : PHeap) (ca : List Value) (g : Grid) (b : (gridR τ).B h ca g) : CallF Tryz.prog M 224 [.agg ca.toArray] [] h fun u A => ∃ cs, u = .tuple #[.agg cs.toArray, .bool (sceneNew g).2] ∧ (sceneR τ).O A cs (sceneNew g).1 := by
  have b0 := b
  obtain ⟨c, rfl, s⟩ := gridB b
  have o1 := s.one
  have hN : (sceneR τ).O [] [.int .i64 0, .slice none 0 0, .slice none 0 0, .slice none 0 0] noScene := sceneO_mk (s := noScene) (Gr.nil _ _) (by decide) (Gr.nil _ _) (by decide) (GrR.nil)
  refine Cs Tryz.func224 Tryz.ntmps224 ?_
  repeat first | refine R1 ?_ | refine R2 fun _ => ?_
  refine Xv (sGridOk_v _ _ g ⟨c, rfl, s⟩) ?_
  repeat first | refine R1 ?_ | refine R2 fun _ => ?_
  refine sf_cond (by rfl) (fun e => ?_) fun e => ?_
  · simp only [Bool.not_eq_true'] at e
    repeat first | refine R1 ?_ | refine R2 fun _ => ?_
    rw [sceneNew, if_neg (by rw [e]; decide)]
    exact sf_ret (rO [] ⟨_, rfl, hN⟩)
  simp only [Bool.not_eq_false'] at e
  rw [sceneNew, if_pos e]
  clear hN
  have kg := gok e
  have hm := kg.many
  have hsm := kg.small
  obtain ⟨N, hN⟩ : ∃ N : Nat, manyOf g = N := ⟨(manyOf g).toNat, by omega⟩
  have lp : (picOf g).length = N := by rw [picOf_len, hN]; simp
  have lf : (feetOf g).length = N := by rw [feetOf_len, hN]; simp
  repeat first | refine R1 ?_ | refine R2 fun _ => ?_
  refine Xv (l3Many_v (M := M) _ c g s kg) ?_
  rw [hN]
  repeat first | refine R1 ?_ | refine R2 fun _ => ?_
  rename_i b1 b2
  apply viaT (G := ∀ (c2 l f : Value) (AC AL AF : Own) (b5 : Nat), Gr AC c2 46 cellF g.cells → Gr AL l 3 intF (List.replicate N 0) → Gr AF f 33 (rawF (intSR τ).sz) (List.replicate N ⟨[.slice none 0 0], rfl⟩) → _)
  · intro tail
    refine sf_draw (by kernel_rfl) (regX_split 1 3 (by rfl) (regX_split 1 5 (by rfl) (regX_split 1 7 (by rfl) (regX_split 3 5 (by rfl) (regX_split 3 7 (by rfl) (regX_split 5 7 (by rfl) ?_ ?_) ?_) (regX_split 3 7 (by rfl) ?_ (regX_split 5 7 (by rfl) ?_ ?_))) (regX_split 3 5 (by rfl) ?_ ?_)) (regX_split 1 7 (by rfl) (regX_split 3 7 (by rfl) ?_ ?_) (regX_split 5 7 (by rfl) ?_ ?_))) (regX_split 1 5 (by rfl) (regX_split 1 7 (by rfl) (regX_split 5 7 (by rfl) ?_ ?_) (regX_split 3 7 (by rfl) ?_ ?_)) (regX_split 1 7 (by rfl) (regX_split 3 5 (by rfl) ?_ ?_) (regX_split 3 5 (by rfl) (regX_split 3 7 (by rfl) (regX_split 5 7 (by rfl) ?_ ?_) ?_) (regX_split 3 7 (by rfl) ?_ (regX_split 5 7 (by rfl) ?_ ?_))))))
    case' refine_1 =>
      refine Sr [[],[0],[],[0,1,2],[],[0,1,2,3,4],[0,1,2,3,4,5],[0,1,2,3,4,5],[0,1,2,3,4,5,6,7]] 8 [Nn 0,Nn 2,Nn 4,Yy 1,Yy 3,Yy 5,Nn 6,Yy 7] ?_
      refine Da ?_
      refine Yc (l1Copy_f (M := M) _ _ g (gridB_mk s) (by omega)) ?_
      rintro _ AC ⟨_, rfl, q⟩
      obtain ⟨c2, rfl, g1, l1⟩ := gridO q
      have o5 := g1.one
      refine Da ?_
      refine Ym fun l AL g2 => ?_
      have o6 := g2.one
      refine Da ?_
      refine Ym fun f AF g3 => ?_
      have o7 := g3.one
      refine Da ?_
      refine Yl fun b5 => ?_
      refine Da ?_
      refine Ae ?_
      repeat first | refine R1 ?_ | refine R2 fun _ => ?_
      refine sf_keep [2, 4, 5, 6] ?_
      refine sf_own ((b5, .cells #[.int .i64 g.wide, c2, l, f] 68) :: (AC ++ (AL ++ (AF ++ [(b2, .cells #[.int .i64 0, .slice none 0 0, .slice none 0 0, .slice none 0 0] 68), (b1, .cells #[.int .i64 g.wide, c] 25)])))) ?_
      exact tail.out c2 l f AC AL AF b5 g1 g2 g3
    case' refine_2 =>
      refine Sr [[],[0],[],[0,1,2],[],[0,1,2,3,4,7],[0,1,2,3,4,5,7],[0,1,2,3],[0,1,2,3,4,5,6,7]] 8 [Nn 0,Nn 2,Nn 4,Yy 1,Yy 3,Yy 7,Yy 5,Nn 6] ?_
      refine Da ?_
      refine Yc (l1Copy_f (M := M) _ _ g (gridB_mk s) (by omega)) ?_
      rintro _ AC ⟨_, rfl, q⟩
      obtain ⟨c2, rfl, g1, l1⟩ := gridO q
      have o5 := g1.one
      refine Da ?_
      refine Ym fun l AL g2 => ?_
      have o6 := g2.one
      refine Da ?_
      refine Yl fun b5 => ?_
      refine Da ?_
      refine Ym fun f AF g3 => ?_
      have o7 := g3.one
      refine Da ?_
      refine Ae ?_
      repeat first | refine R1 ?_ | refine R2 fun _ => ?_
      refine sf_keep [2, 4, 5, 6] ?_
      refine sf_own ((b5, .cells #[.int .i64 g.wide, c2, l, f] 68) :: (AC ++ (AL ++ (AF ++ [(b2, .cells #[.int .i64 0, .slice none 0 0, .slice none 0 0, .slice none 0 0] 68), (b1, .cells #[.int .i64 g.wide, c] 25)])))) ?_
      exact tail.out c2 l f AC AL AF b5 g1 g2 g3
    case' refine_3 =>
      refine Sr [[],[0],[],[0,1,2,7],[],[0,1,2,3,4,7],[0,1,2,3,4,5,7],[0,1],[0,1,2,3,4,5,6,7]] 8 [Nn 0,Nn 2,Nn 4,Yy 1,Yy 7,Yy 3,Yy 5,Nn 6] ?_
      refine Da ?_
      refine Yc (l1Copy_f (M := M) _ _ g (gridB_mk s) (by omega)) ?_
      rintro _ AC ⟨_, rfl, q⟩
      obtain ⟨c2, rfl, g1, l1⟩ := gridO q
      have o5 := g1.one
      refine Da ?_
      refine Yl fun b5 => ?_
      refine Da ?_
      refine Ym fun l AL g2 => ?_
      have o6 := g2.one
      refine Da ?_
      refine Ym fun f AF g3 => ?_
      have o7 := g3.one
      refine Da ?_
      refine Ae ?_
      repeat first | refine R1 ?_ | refine R2 fun _ => ?_
      refine sf_keep [2, 4, 5, 6] ?_
      refine sf_own ((b5, .cells #[.int .i64 g.wide, c2, l, f] 68) :: (AC ++ (AL ++ (AF ++ [(b2, .cells #[.int .i64 0, .slice none 0 0, .slice none 0 0, .slice none 0 0] 68), (b1, .cells #[.int .i64 g.wide, c] 25)])))) ?_
      exact tail.out c2 l f AC AL AF b5 g1 g2 g3
    case' refine_4 =>
      refine Sr [[],[0],[],[0,1,2,4,5],[],[0,1,4],[0,1,2,3,4,5],[0,1,2,3,4,5],[0,1,2,3,4,5,6,7]] 8 [Nn 0,Nn 2,Nn 4,Yy 1,Yy 5,Yy 3,Nn 6,Yy 7] ?_
      refine Da ?_
      refine Yc (l1Copy_f (M := M) _ _ g (gridB_mk s) (by omega)) ?_
      rintro _ AC ⟨_, rfl, q⟩
      obtain ⟨c2, rfl, g1, l1⟩ := gridO q
      have o5 := g1.one
      refine Da ?_
      refine Ym fun f AF g3 => ?_
      have o7 := g3.one
      refine Da ?_
      refine Ym fun l AL g2 => ?_
      have o6 := g2.one
      refine Da ?_
      refine Yl fun b5 => ?_
      refine Da ?_
      refine Ae ?_
      repeat first | refine R1 ?_ | refine R2 fun _ => ?_
      refine sf_keep [2, 4, 5, 6] ?_
      refine sf_own ((b5, .cells #[.int .i64 g.wide, c2, l, f] 68) :: (AC ++ (AL ++ (AF ++ [(b2, .cells #[.int .i64 0, .slice none 0 0, .slice none 0 0, .slice none 0 0] 68), (b1, .cells #[.int .i64 g.wide, c] 25)])))) ?_
      exact tail.out c2 l f AC AL AF b5 g1 g2 g3
    case' refine_5 =>
      refine Sr [[],[0],[],[0,1,2,4,5,7],[],[0,1,4],[0,1,2,3,4,5,7],[0,1,4,5],[0,1,2,3,4,5,6,7]] 8 [Nn 0,Nn 2,Nn 4,Yy 1,Yy 5,Yy 7,Yy 3,Nn 6] ?_
      refine Da ?_
      refine Yc (l1Copy_f (M := M) _ _ g (gridB_mk s) (by omega)) ?_
      rintro _ AC ⟨_, rfl, q⟩
      obtain ⟨c2, rfl, g1, l1⟩ := gridO q
      have o5 := g1.one
      refine Da ?_
      refine Ym fun f AF g3 => ?_
      have o7 := g3.one
      refine Da ?_
      refine Yl fun b5 => ?_
      refine Da ?_
      refine Ym fun l AL g2 => ?_
      have o6 := g2.one
      refine Da ?_
      refine Ae ?_
      repeat first | refine R1 ?_ | refine R2 fun _ => ?_
      refine sf_keep [2, 4, 5, 6] ?_
      refine sf_own ((b5, .cells #[.int .i64 g.wide, c2, l, f] 68) :: (AC ++ (AL ++ (AF ++ [(b2, .cells #[.int .i64 0, .slice none 0 0, .slice none 0 0, .slice none 0 0] 68), (b1, .cells #[.int .i64 g.wide, c] 25)])))) ?_
      exact tail.out c2 l f AC AL AF b5 g1 g2 g3
    case' refine_6 =>
      refine Sr [[],[0],[],[0,1,2,4,5,7],[],[0,1,4,7],[0,1,2,3,4,5,7],[0,1],[0,1,2,3,4,5,6,7]] 8 [Nn 0,Nn 2,Nn 4,Yy 1,Yy 7,Yy 5,Yy 3,Nn 6] ?_
      refine Da ?_
      refine Yc (l1Copy_f (M := M) _ _ g (gridB_mk s) (by omega)) ?_
      rintro _ AC ⟨_, rfl, q⟩
      obtain ⟨c2, rfl, g1, l1⟩ := gridO q
      have o5 := g1.one
      refine Da ?_
      refine Yl fun b5 => ?_
      refine Da ?_
      refine Ym fun f AF g3 => ?_
      have o7 := g3.one
      refine Da ?_
      refine Ym fun l AL g2 => ?_
      have o6 := g2.one
      refine Da ?_
      refine Ae ?_
      repeat first | refine R1 ?_ | refine R2 fun _ => ?_
      refine sf_keep [2, 4, 5, 6] ?_
      refine sf_own ((b5, .cells #[.int .i64 g.wide, c2, l, f] 68) :: (AC ++ (AL ++ (AF ++ [(b2, .cells #[.int .i64 0, .slice none 0 0, .slice none 0 0, .slice none 0 0] 68), (b1, .cells #[.int .i64 g.wide, c] 25)])))) ?_
      exact tail.out c2 l f AC AL AF b5 g1 g2 g3
    case' refine_7 =>
      refine Sr [[],[0,7],[],[0,1,2,7],[],[0,1,2,3,4,7],[0,1,2,3,4,5,7],[],[0,1,2,3,4,5,6,7]] 8 [Nn 0,Nn 2,Nn 4,Yy 7,Yy 1,Yy 3,Yy 5,Nn 6] ?_
      refine Da ?_
      refine Yl fun b5 => ?_
      refine Da ?_
      refine Yc (l1Copy_f (M := M) _ _ g (gridB_mk s) (by omega)) ?_
      rintro _ AC ⟨_, rfl, q⟩
      obtain ⟨c2, rfl, g1, l1⟩ := gridO q
      have o5 := g1.one
      refine Da ?_
      refine Ym fun l AL g2 => ?_
      have o6 := g2.one
      refine Da ?_
      refine Ym fun f AF g3 => ?_
      have o7 := g3.one
      refine Da ?_
      refine Ae ?_
      repeat first | refine R1 ?_ | refine R2 fun _ => ?_
      refine sf_keep [2, 4, 5, 6] ?_
      refine sf_own ((b5, .cells #[.int .i64 g.wide, c2, l, f] 68) :: (AC ++ (AL ++ (AF ++ [(b2, .cells #[.int .i64 0, .slice none 0 0, .slice none 0 0, .slice none 0 0] 68), (b1, .cells #[.int .i64 g.wide, c] 25)])))) ?_
      exact tail.out c2 l f AC AL AF b5 g1 g2 g3
    case' refine_8 =>
      refine Sr [[],[0,7],[],[0,1,2,4,5,7],[],[0,1,4,7],[0,1,2,3,4,5,7],[],[0,1,2,3,4,5,6,7]] 8 [Nn 0,Nn 2,Nn 4,Yy 7,Yy 1,Yy 5,Yy 3,Nn 6] ?_
      refine Da ?_
      refine Yl fun b5 => ?_
      refine Da ?_
      refine Yc (l1Copy_f (M := M) _ _ g (gridB_mk s) (by omega)) ?_
      rintro _ AC ⟨_, rfl, q⟩
      obtain ⟨c2, rfl, g1, l1⟩ := gridO q
      have o5 := g1.one
      refine Da ?_
      refine Ym fun f AF g3 => ?_
      have o7 := g3.one
      refine Da ?_
      refine Ym fun l AL g2 => ?_
      have o6 := g2.one
      refine Da ?_
      refine Ae ?_
      repeat first | refine R1 ?_ | refine R2 fun _ => ?_
      refine sf_keep [2, 4, 5, 6] ?_
      refine sf_own ((b5, .cells #[.int .i64 g.wide, c2, l, f] 68) :: (AC ++ (AL ++ (AF ++ [(b2, .cells #[.int .i64 0, .slice none 0 0, .slice none 0 0, .slice none 0 0] 68), (b1, .cells #[.int .i64 g.wide, c] 25)])))) ?_
      exact tail.out c2 l f AC AL AF b5 g1 g2 g3
    case' refine_9 =>
      refine Sr [[],[0,4,5],[],[0,1,2,4,5],[],[4],[0,1,2,3,4,5],[0,1,2,3,4,5],[0,1,2,3,4,5,6,7]] 8 [Nn 0,Nn 2,Nn 4,Yy 5,Yy 1,Yy 3,Nn 6,Yy 7] ?_
      refine Da ?_
      refine Ym fun f AF g3 => ?_
      have o7 := g3.one
      refine Da ?_
      refine Yc (l1Copy_f (M := M) _ _ g (gridB_mk s) (by omega)) ?_
      rintro _ AC ⟨_, rfl, q⟩
      obtain ⟨c2, rfl, g1, l1⟩ := gridO q
      have o5 := g1.one
      refine Da ?_
      refine Ym fun l AL g2 => ?_
      have o6 := g2.one
      refine Da ?_
      refine Yl fun b5 => ?_
      refine Da ?_
      refine Ae ?_
      repeat first | refine R1 ?_ | refine R2 fun _ => ?_
      refine sf_keep [2, 4, 5, 6] ?_
      refine sf_own ((b5, .cells #[.int .i64 g.wide, c2, l, f] 68) :: (AC ++ (AL ++ (AF ++ [(b2, .cells #[.int .i64 0, .slice none 0 0, .slice none 0 0, .slice none 0 0] 68), (b1, .cells #[.int .i64 g.wide, c] 25)])))) ?_
      exact tail.out c2 l f AC AL AF b5 g1 g2 g3
    case' refine_10 =>
      refine Sr [[],[0,4,5],[],[0,1,2,4,5,7],[],[4],[0,1,2,3,4,5,7],[0,1,4,5],[0,1,2,3,4,5,6,7]] 8 [Nn 0,Nn 2,Nn 4,Yy 5,Yy 1,Yy 7,Yy 3,Nn 6] ?_
      refine Da ?_
      refine Ym fun f AF g3 => ?_
      have o7 := g3.one
      refine Da ?_
      refine Yc (l1Copy_f (M := M) _ _ g (gridB_mk s) (by omega)) ?_
      rintro _ AC ⟨_, rfl, q⟩
      obtain ⟨c2, rfl, g1, l1⟩ := gridO q
      have o5 := g1.one
      refine Da ?_
      refine Yl fun b5 => ?_
      refine Da ?_
      refine Ym fun l AL g2 => ?_
      have o6 := g2.one
      refine Da ?_
      refine Ae ?_
      repeat first | refine R1 ?_ | refine R2 fun _ => ?_
      refine sf_keep [2, 4, 5, 6] ?_
      refine sf_own ((b5, .cells #[.int .i64 g.wide, c2, l, f] 68) :: (AC ++ (AL ++ (AF ++ [(b2, .cells #[.int .i64 0, .slice none 0 0, .slice none 0 0, .slice none 0 0] 68), (b1, .cells #[.int .i64 g.wide, c] 25)])))) ?_
      exact tail.out c2 l f AC AL AF b5 g1 g2 g3
    case' refine_11 =>
      refine Sr [[],[0,4,5,7],[],[0,1,2,4,5,7],[],[4],[0,1,2,3,4,5,7],[4,5],[0,1,2,3,4,5,6,7]] 8 [Nn 0,Nn 2,Nn 4,Yy 5,Yy 7,Yy 1,Yy 3,Nn 6] ?_
      refine Da ?_
      refine Ym fun f AF g3 => ?_
      have o7 := g3.one
      refine Da ?_
      refine Yl fun b5 => ?_
      refine Da ?_
      refine Yc (l1Copy_f (M := M) _ _ g (gridB_mk s) (by omega)) ?_
      rintro _ AC ⟨_, rfl, q⟩
      obtain ⟨c2, rfl, g1, l1⟩ := gridO q
      have o5 := g1.one
      refine Da ?_
      refine Ym fun l AL g2 => ?_
      have o6 := g2.one
      refine Da ?_
      refine Ae ?_
      repeat first | refine R1 ?_ | refine R2 fun _ => ?_
      refine sf_keep [2, 4, 5, 6] ?_
      refine sf_own ((b5, .cells #[.int .i64 g.wide, c2, l, f] 68) :: (AC ++ (AL ++ (AF ++ [(b2, .cells #[.int .i64 0, .slice none 0 0, .slice none 0 0, .slice none 0 0] 68), (b1, .cells #[.int .i64 g.wide, c] 25)])))) ?_
      exact tail.out c2 l f AC AL AF b5 g1 g2 g3
    case' refine_12 =>
      refine Sr [[],[0,4,5,7],[],[0,1,2,4,5,7],[],[4,7],[0,1,2,3,4,5,7],[],[0,1,2,3,4,5,6,7]] 8 [Nn 0,Nn 2,Nn 4,Yy 7,Yy 5,Yy 1,Yy 3,Nn 6] ?_
      refine Da ?_
      refine Yl fun b5 => ?_
      refine Da ?_
      refine Ym fun f AF g3 => ?_
      have o7 := g3.one
      refine Da ?_
      refine Yc (l1Copy_f (M := M) _ _ g (gridB_mk s) (by omega)) ?_
      rintro _ AC ⟨_, rfl, q⟩
      obtain ⟨c2, rfl, g1, l1⟩ := gridO q
      have o5 := g1.one
      refine Da ?_
      refine Ym fun l AL g2 => ?_
      have o6 := g2.one
      refine Da ?_
      refine Ae ?_
      repeat first | refine R1 ?_ | refine R2 fun _ => ?_
      refine sf_keep [2, 4, 5, 6] ?_
      refine sf_own ((b5, .cells #[.int .i64 g.wide, c2, l, f] 68) :: (AC ++ (AL ++ (AF ++ [(b2, .cells #[.int .i64 0, .slice none 0 0, .slice none 0 0, .slice none 0 0] 68), (b1, .cells #[.int .i64 g.wide, c] 25)])))) ?_
      exact tail.out c2 l f AC AL AF b5 g1 g2 g3
    case' refine_13 =>
      refine Sr [[],[0,2,3],[],[2],[],[0,1,2,3,4],[0,1,2,3,4,5],[0,1,2,3,4,5],[0,1,2,3,4,5,6,7]] 8 [Nn 0,Nn 2,Nn 4,Yy 3,Yy 1,Yy 5,Nn 6,Yy 7] ?_
      refine Da ?_
      refine Ym fun l AL g2 => ?_
      have o6 := g2.one
      refine Da ?_
      refine Yc (l1Copy_f (M := M) _ _ g (gridB_mk s) (by omega)) ?_
      rintro _ AC ⟨_, rfl, q⟩
      obtain ⟨c2, rfl, g1, l1⟩ := gridO q
      have o5 := g1.one
      refine Da ?_
      refine Ym fun f AF g3 => ?_
      have o7 := g3.one
      refine Da ?_
      refine Yl fun b5 => ?_
      refine Da ?_
      refine Ae ?_
      repeat first | refine R1 ?_ | refine R2 fun _ => ?_
      refine sf_keep [2, 4, 5, 6] ?_
      refine sf_own ((b5, .cells #[.int .i64 g.wide, c2, l, f] 68) :: (AC ++ (AL ++ (AF ++ [(b2, .cells #[.int .i64 0, .slice none 0 0, .slice none 0 0, .slice none 0 0] 68), (b1, .cells #[.int .i64 g.wide, c] 25)])))) ?_
      exact tail.out c2 l f AC AL AF b5 g1 g2 g3
    case' refine_14 =>
      refine Sr [[],[0,2,3],[],[2],[],[0,1,2,3,4,7],[0,1,2,3,4,5,7],[0,1,2,3],[0,1,2,3,4,5,6,7]] 8 [Nn 0,Nn 2,Nn 4,Yy 3,Yy 1,Yy 7,Yy 5,Nn 6] ?_
      refine Da ?_
      refine Ym fun l AL g2 => ?_
      have o6 := g2.one
      refine Da ?_
      refine Yc (l1Copy_f (M := M) _ _ g (gridB_mk s) (by omega)) ?_
      rintro _ AC ⟨_, rfl, q⟩
      obtain ⟨c2, rfl, g1, l1⟩ := gridO q
      have o5 := g1.one
      refine Da ?_
      refine Yl fun b5 => ?_
      refine Da ?_
      refine Ym fun f AF g3 => ?_
      have o7 := g3.one
      refine Da ?_
      refine Ae ?_
      repeat first | refine R1 ?_ | refine R2 fun _ => ?_
      refine sf_keep [2, 4, 5, 6] ?_
      refine sf_own ((b5, .cells #[.int .i64 g.wide, c2, l, f] 68) :: (AC ++ (AL ++ (AF ++ [(b2, .cells #[.int .i64 0, .slice none 0 0, .slice none 0 0, .slice none 0 0] 68), (b1, .cells #[.int .i64 g.wide, c] 25)])))) ?_
      exact tail.out c2 l f AC AL AF b5 g1 g2 g3
    case' refine_15 =>
      refine Sr [[],[0,2,3,7],[],[2],[],[0,1,2,3,4,7],[0,1,2,3,4,5,7],[2,3],[0,1,2,3,4,5,6,7]] 8 [Nn 0,Nn 2,Nn 4,Yy 3,Yy 7,Yy 1,Yy 5,Nn 6] ?_
      refine Da ?_
      refine Ym fun l AL g2 => ?_
      have o6 := g2.one
      refine Da ?_
      refine Yl fun b5 => ?_
      refine Da ?_
      refine Yc (l1Copy_f (M := M) _ _ g (gridB_mk s) (by omega)) ?_
      rintro _ AC ⟨_, rfl, q⟩
      obtain ⟨c2, rfl, g1, l1⟩ := gridO q
      have o5 := g1.one
      refine Da ?_
      refine Ym fun f AF g3 => ?_
      have o7 := g3.one
      refine Da ?_
      refine Ae ?_
      repeat first | refine R1 ?_ | refine R2 fun _ => ?_
      refine sf_keep [2, 4, 5, 6] ?_
      refine sf_own ((b5, .cells #[.int .i64 g.wide, c2, l, f] 68) :: (AC ++ (AL ++ (AF ++ [(b2, .cells #[.int .i64 0, .slice none 0 0, .slice none 0 0, .slice none 0 0] 68), (b1, .cells #[.int .i64 g.wide, c] 25)])))) ?_
      exact tail.out c2 l f AC AL AF b5 g1 g2 g3
    case' refine_16 =>
      refine Sr [[],[0,2,3,7],[],[2,7],[],[0,1,2,3,4,7],[0,1,2,3,4,5,7],[],[0,1,2,3,4,5,6,7]] 8 [Nn 0,Nn 2,Nn 4,Yy 7,Yy 3,Yy 1,Yy 5,Nn 6] ?_
      refine Da ?_
      refine Yl fun b5 => ?_
      refine Da ?_
      refine Ym fun l AL g2 => ?_
      have o6 := g2.one
      refine Da ?_
      refine Yc (l1Copy_f (M := M) _ _ g (gridB_mk s) (by omega)) ?_
      rintro _ AC ⟨_, rfl, q⟩
      obtain ⟨c2, rfl, g1, l1⟩ := gridO q
      have o5 := g1.one
      refine Da ?_
      refine Ym fun f AF g3 => ?_
      have o7 := g3.one
      refine Da ?_
      refine Ae ?_
      repeat first | refine R1 ?_ | refine R2 fun _ => ?_
      refine sf_keep [2, 4, 5, 6] ?_
      refine sf_own ((b5, .cells #[.int .i64 g.wide, c2, l, f] 68) :: (AC ++ (AL ++ (AF ++ [(b2, .cells #[.int .i64 0, .slice none 0 0, .slice none 0 0, .slice none 0 0] 68), (b1, .cells #[.int .i64 g.wide, c] 25)])))) ?_
      exact tail.out c2 l f AC AL AF b5 g1 g2 g3
    case' refine_17 =>
      refine Sr [[],[0,2,3,4,5],[],[2],[],[2,3,4],[0,1,2,3,4,5],[0,1,2,3,4,5],[0,1,2,3,4,5,6,7]] 8 [Nn 0,Nn 2,Nn 4,Yy 3,Yy 5,Yy 1,Nn 6,Yy 7] ?_
      refine Da ?_
      refine Ym fun l AL g2 => ?_
      have o6 := g2.one
      refine Da ?_
      refine Ym fun f AF g3 => ?_
      have o7 := g3.one
      refine Da ?_
      refine Yc (l1Copy_f (M := M) _ _ g (gridB_mk s) (by omega)) ?_
      rintro _ AC ⟨_, rfl, q⟩
      obtain ⟨c2, rfl, g1, l1⟩ := gridO q
      have o5 := g1.one
      refine Da ?_
      refine Yl fun b5 => ?_
      refine Da ?_
      refine Ae ?_
      repeat first | refine R1 ?_ | refine R2 fun _ => ?_
      refine sf_keep [2, 4, 5, 6] ?_
      refine sf_own ((b5, .cells #[.int .i64 g.wide, c2, l, f] 68) :: (AC ++ (AL ++ (AF ++ [(b2, .cells #[.int .i64 0, .slice none 0 0, .slice none 0 0, .slice none 0 0] 68), (b1, .cells #[.int .i64 g.wide, c] 25)])))) ?_
      exact tail.out c2 l f AC AL AF b5 g1 g2 g3
    case' refine_18 =>
      refine Sr [[],[0,2,3,4,5],[],[2,4,5],[],[4],[0,1,2,3,4,5],[0,1,2,3,4,5],[0,1,2,3,4,5,6,7]] 8 [Nn 0,Nn 2,Nn 4,Yy 5,Yy 3,Yy 1,Nn 6,Yy 7] ?_
      refine Da ?_
      refine Ym fun f AF g3 => ?_
      have o7 := g3.one
      refine Da ?_
      refine Ym fun l AL g2 => ?_
      have o6 := g2.one
      refine Da ?_
      refine Yc (l1Copy_f (M := M) _ _ g (gridB_mk s) (by omega)) ?_
      rintro _ AC ⟨_, rfl, q⟩
      obtain ⟨c2, rfl, g1, l1⟩ := gridO q
      have o5 := g1.one
      refine Da ?_
      refine Yl fun b5 => ?_
      refine Da ?_
      refine Ae ?_
      repeat first | refine R1 ?_ | refine R2 fun _ => ?_
      refine sf_keep [2, 4, 5, 6] ?_
      refine sf_own ((b5, .cells #[.int .i64 g.wide, c2, l, f] 68) :: (AC ++ (AL ++ (AF ++ [(b2, .cells #[.int .i64 0, .slice none 0 0, .slice none 0 0, .slice none 0 0] 68), (b1, .cells #[.int .i64 g.wide, c] 25)])))) ?_
      exact tail.out c2 l f AC AL AF b5 g1 g2 g3
    case' refine_19 =>
      refine Sr [[],[0,2,3,4,5,7],[],[2],[],[2,3,4],[0,1,2,3,4,5,7],[2,3,4,5],[0,1,2,3,4,5,6,7]] 8 [Nn 0,Nn 2,Nn 4,Yy 3,Yy 5,Yy 7,Yy 1,Nn 6] ?_
      refine Da ?_
      refine Ym fun l AL g2 => ?_
      have o6 := g2.one
      refine Da ?_
      refine Ym fun f AF g3 => ?_
      have o7 := g3.one
      refine Da ?_
      refine Yl fun b5 => ?_
      refine Da ?_
      refine Yc (l1Copy_f (M := M) _ _ g (gridB_mk s) (by omega)) ?_
      rintro _ AC ⟨_, rfl, q⟩
      obtain ⟨c2, rfl, g1, l1⟩ := gridO q
      have o5 := g1.one
      refine Da ?_
      refine Ae ?_
      repeat first | refine R1 ?_ | refine R2 fun _ => ?_
      refine sf_keep [2, 4, 5, 6] ?_
      refine sf_own ((b5, .cells #[.int .i64 g.wide, c2, l, f] 68) :: (AC ++ (AL ++ (AF ++ [(b2, .cells #[.int .i64 0, .slice none 0 0, .slice none 0 0, .slice none 0 0] 68), (b1, .cells #[.int .i64 g.wide, c] 25)])))) ?_
      exact tail.out c2 l f AC AL AF b5 g1 g2 g3
    case' refine_20 =>
      refine Sr [[],[0,2,3,4,5,7],[],[2],[],[2,3,4,7],[0,1,2,3,4,5,7],[2,3],[0,1,2,3,4,5,6,7]] 8 [Nn 0,Nn 2,Nn 4,Yy 3,Yy 7,Yy 5,Yy 1,Nn 6] ?_
      refine Da ?_
      refine Ym fun l AL g2 => ?_
      have o6 := g2.one
      refine Da ?_
      refine Yl fun b5 => ?_
      refine Da ?_
      refine Ym fun f AF g3 => ?_
      have o7 := g3.one
      refine Da ?_
      refine Yc (l1Copy_f (M := M) _ _ g (gridB_mk s) (by omega)) ?_
      rintro _ AC ⟨_, rfl, q⟩
      obtain ⟨c2, rfl, g1, l1⟩ := gridO q
      have o5 := g1.one
      refine Da ?_
      refine Ae ?_
      repeat first | refine R1 ?_ | refine R2 fun _ => ?_
      refine sf_keep [2, 4, 5, 6] ?_
      refine sf_own ((b5, .cells #[.int .i64 g.wide, c2, l, f] 68) :: (AC ++ (AL ++ (AF ++ [(b2, .cells #[.int .i64 0, .slice none 0 0, .slice none 0 0, .slice none 0 0] 68), (b1, .cells #[.int .i64 g.wide, c] 25)])))) ?_
      exact tail.out c2 l f AC AL AF b5 g1 g2 g3
    case' refine_21 =>
      refine Sr [[],[0,2,3,4,5,7],[],[2,7],[],[2,3,4,7],[0,1,2,3,4,5,7],[],[0,1,2,3,4,5,6,7]] 8 [Nn 0,Nn 2,Nn 4,Yy 7,Yy 3,Yy 5,Yy 1,Nn 6] ?_
      refine Da ?_
      refine Yl fun b5 => ?_
      refine Da ?_
      refine Ym fun l AL g2 => ?_
      have o6 := g2.one
      refine Da ?_
      refine Ym fun f AF g3 => ?_
      have o7 := g3.one
      refine Da ?_
      refine Yc (l1Copy_f (M := M) _ _ g (gridB_mk s) (by omega)) ?_
      rintro _ AC ⟨_, rfl, q⟩
      obtain ⟨c2, rfl, g1, l1⟩ := gridO q
      have o5 := g1.one
      refine Da ?_
      refine Ae ?_
      repeat first | refine R1 ?_ | refine R2 fun _ => ?_
      refine sf_keep [2, 4, 5, 6] ?_
      refine sf_own ((b5, .cells #[.int .i64 g.wide, c2, l, f] 68) :: (AC ++ (AL ++ (AF ++ [(b2, .cells #[.int .i64 0, .slice none 0 0, .slice none 0 0, .slice none 0 0] 68), (b1, .cells #[.int .i64 g.wide, c] 25)])))) ?_
      exact tail.out c2 l f AC AL AF b5 g1 g2 g3
    case' refine_22 =>
      refine Sr [[],[0,2,3,4,5,7],[],[2,4,5],[],[4],[0,1,2,3,4,5,7],[2,3,4,5],[0,1,2,3,4,5,6,7]] 8 [Nn 0,Nn 2,Nn 4,Yy 5,Yy 3,Yy 7,Yy 1,Nn 6] ?_
      refine Da ?_
      refine Ym fun f AF g3 => ?_
      have o7 := g3.one
      refine Da ?_
      refine Ym fun l AL g2 => ?_
      have o6 := g2.one
      refine Da ?_
      refine Yl fun b5 => ?_
      refine Da ?_
      refine Yc (l1Copy_f (M := M) _ _ g (gridB_mk s) (by omega)) ?_
      rintro _ AC ⟨_, rfl, q⟩
      obtain ⟨c2, rfl, g1, l1⟩ := gridO q
      have o5 := g1.one
      refine Da ?_
      refine Ae ?_
      repeat first | refine R1 ?_ | refine R2 fun _ => ?_
      refine sf_keep [2, 4, 5, 6] ?_
      refine sf_own ((b5, .cells #[.int .i64 g.wide, c2, l, f] 68) :: (AC ++ (AL ++ (AF ++ [(b2, .cells #[.int .i64 0, .slice none 0 0, .slice none 0 0, .slice none 0 0] 68), (b1, .cells #[.int .i64 g.wide, c] 25)])))) ?_
      exact tail.out c2 l f AC AL AF b5 g1 g2 g3
    case' refine_23 =>
      refine Sr [[],[0,2,3,4,5,7],[],[2,4,5,7],[],[4],[0,1,2,3,4,5,7],[4,5],[0,1,2,3,4,5,6,7]] 8 [Nn 0,Nn 2,Nn 4,Yy 5,Yy 7,Yy 3,Yy 1,Nn 6] ?_
      refine Da ?_
      refine Ym fun f AF g3 => ?_
      have o7 := g3.one
      refine Da ?_
      refine Yl fun b5 => ?_
      refine Da ?_
      refine Ym fun l AL g2 => ?_
      have o6 := g2.one
      refine Da ?_
      refine Yc (l1Copy_f (M := M) _ _ g (gridB_mk s) (by omega)) ?_
      rintro _ AC ⟨_, rfl, q⟩
      obtain ⟨c2, rfl, g1, l1⟩ := gridO q
      have o5 := g1.one
      refine Da ?_
      refine Ae ?_
      repeat first | refine R1 ?_ | refine R2 fun _ => ?_
      refine sf_keep [2, 4, 5, 6] ?_
      refine sf_own ((b5, .cells #[.int .i64 g.wide, c2, l, f] 68) :: (AC ++ (AL ++ (AF ++ [(b2, .cells #[.int .i64 0, .slice none 0 0, .slice none 0 0, .slice none 0 0] 68), (b1, .cells #[.int .i64 g.wide, c] 25)])))) ?_
      exact tail.out c2 l f AC AL AF b5 g1 g2 g3
    case' refine_24 =>
      refine Sr [[],[0,2,3,4,5,7],[],[2,4,5,7],[],[4,7],[0,1,2,3,4,5,7],[],[0,1,2,3,4,5,6,7]] 8 [Nn 0,Nn 2,Nn 4,Yy 7,Yy 5,Yy 3,Yy 1,Nn 6] ?_
      refine Da ?_
      refine Yl fun b5 => ?_
      refine Da ?_
      refine Ym fun f AF g3 => ?_
      have o7 := g3.one
      refine Da ?_
      refine Ym fun l AL g2 => ?_
      have o6 := g2.one
      refine Da ?_
      refine Yc (l1Copy_f (M := M) _ _ g (gridB_mk s) (by omega)) ?_
      rintro _ AC ⟨_, rfl, q⟩
      obtain ⟨c2, rfl, g1, l1⟩ := gridO q
      have o5 := g1.one
      refine Da ?_
      refine Ae ?_
      repeat first | refine R1 ?_ | refine R2 fun _ => ?_
      refine sf_keep [2, 4, 5, 6] ?_
      refine sf_own ((b5, .cells #[.int .i64 g.wide, c2, l, f] 68) :: (AC ++ (AL ++ (AF ++ [(b2, .cells #[.int .i64 0, .slice none 0 0, .slice none 0 0, .slice none 0 0] 68), (b1, .cells #[.int .i64 g.wide, c] 25)])))) ?_
      exact tail.out c2 l f AC AL AF b5 g1 g2 g3
  intro c2 l f AC AL AF b5 g1 g2 g3
  have o5 := g1.one
  have o6 := g2.one
  have o7 := g3.one
  repeat first | refine R1 ?_ | refine R2 fun _ => ?_
  refine sf_lp (ι := Nat) [2, 4, 5] (fun k => [(6, .int .i64 (k : Int))]) (fun k O => k ≤ N ∧ ∃ A2 A3, O = (b5, .cells #[.int .i64 g.wide, c2, l, f] 68) :: (AC ++ (A2 ++ A3 ++ [(b2, .cells #[.int .i64 0, .slice none 0 0, .slice none 0 0, .slice none 0 0] 68), (b1, .cells #[.int .i64 g.wide, c] 25)])) ∧ Gr A2 l 3 intF ((picOf g).take k ++ List.replicate ((picOf g).length - k) 0) ∧ GrR (intSR τ) A3 f 33 ((feetOf g).take k ++ List.replicate ((feetOf g).length - k) [])) (fun k => N - k) 0 ((b5, .cells #[.int .i64 g.wide, c2, l, f] 68) :: (AC ++ (AL ++ AF ++ [(b2, .cells #[.int .i64 0, .slice none 0 0, .slice none 0 0, .slice none 0 0] 68), (b1, .cells #[.int .i64 g.wide, c] 25)]))) ⟨by omega, AL, AF, rfl, by rw [lp]; simpa using g2, AF, [], by simp, _, g3, by rw [lf]; simpa using nils_all N, by simp; omega⟩ ?_
  rintro k O ⟨hk, A2, A3, rfl, ga, gb⟩
  repeat first | refine R1 ?_ | refine R2 fun _ => ?_
  refine sf_if (fun h4 => ?_) fun h4 => ?_
  · have hk4 : k < N := by omega
    repeat first | refine R1 ?_ | refine R2 fun _ => ?_
    refine fp (y_lend AC (fun h' _ i => l13Look_f (M := M) h' c2 g (g1.lent (by omega) i) e l f A2 A3 _ _ ga gb k (by omega) (by simp; omega) (by simp; omega)) (by rfl) ?_)
    rintro _ _ ⟨A5, A6, rfl, rfl, ga2, gb2⟩
    rw [← picOf_at (g := g) (k := k) (by omega), set_step (by omega)] at ga2
    rw [← feetOf_at (g := g) (k := k) (by omega), scene_step (by omega)] at gb2
    repeat first | refine R1 ?_ | refine R2 fun _ => ?_
    exact ⟨k + 1, by omega, ⟨rfl, trivial⟩, rfl, (b5, .cells #[.int .i64 g.wide, c2, l, f] 68) :: (AC ++ (A5 ++ A6 ++ [(b2, .cells #[.int .i64 0, .slice none 0 0, .slice none 0 0, .slice none 0 0] 68), (b1, .cells #[.int .i64 g.wide, c] 25)])), _, inferInstance, by omega, A5, A6, rfl, ga2, gb2⟩
  · refine sf_exit ?_
    obtain rfl : k = N := by omega
    rw [lp, List.take_of_length_le (by omega), Nat.sub_self, List.replicate_zero, List.append_nil] at ga
    rw [lf, List.take_of_length_le (by omega), Nat.sub_self, List.replicate_zero, List.append_nil] at gb
    repeat first | refine R1 ?_ | refine R2 fun _ => ?_
    exact sf_ret (rO (AC ++ (A2 ++ A3)) ⟨_, rfl, sceneO_mk (s := sceneOf g) g1 (by simp only [sceneOf]; omega) ga (by simp only [sceneOf]; omega) gb⟩)
theorem l13Has_v (h : PHeap) (v : Value) (xs : List Int) (s : Sl h v intF xs) (a : Int) : CallV Tryz.prog M 231 [v, .int .i64 a] h (.bool (decide (a ∈ xs))) := by
  have o1 := s.one
  have hs := s.small
  refine Cs Tryz.func231 Tryz.ntmps231 ?_
  refine Wo ?_
  refine sf_lp (ι := Nat) [0, 1] (fun i => [(5, .int .i64 (i : Int))]) (fun i O => O = [] ∧ i ≤ xs.length ∧ a ∉ xs.take i) (fun i => xs.length - i) 0 [] ⟨rfl, by omega, by simp⟩ ?_
  rintro i O ⟨rfl, hi, hn⟩
  refine Wo ?_
  refine sf_if (fun h4 => ?_) fun h4 => ?_
  · have hi4 : i < xs.length := by omega
    refine Wo ?_
    refine sf_if (fun h5 => ?_) fun h5 => ?_
    · refine Wo ?_
      refine sf_ret (rV (bT ?_))
      rw [← h5, gt_eq hi4]; exact List.getElem_mem _
    · refine Wo ?_
      refine ⟨i + 1, by omega, ⟨rfl, trivial⟩, rfl, [], _, inferInstance, rfl, by omega, ?_⟩
      rw [take_succ_gt hi4]
      simp only [List.mem_append, List.mem_singleton]
      rintro (e | e)
      · exact hn e
      · exact h5 e.symm
  · refine sf_exit ?_
    refine Wo ?_
    refine sf_ret (rV (bF fun e => hn ?_))
    rw [List.take_of_length_le (by omega)]; exact e
theorem l13Touch_f (h : PHeap) (ca : List Value) (s : Scene) (b : (sceneR τ).B h ca s) (hs : s.feet.length ≤ 1000000) (a : Int) : CallF Tryz.prog M 229 [.agg ca.toArray, .int .i64 a] [] h fun u A => Gr A u 3 intF (natsI (touched s.feet a)) := by
  obtain ⟨c, l, f, rfl, s1, s2, s3⟩ := sceneB b
  have o1 := s1.one
  have o2 := s2.one
  have o3 := s3.one
  obtain ⟨rx, s3, bx⟩ := s3
  have lx := bx.len
  refine Cs Tryz.func229 Tryz.ntmps229 ?_
  repeat first | refine R1 ?_ | refine R2 fun _ => ?_
  rename_i b2
  refine Xb fun w AW gw => ?_
  repeat first | refine R1 ?_ | refine R2 fun _ => ?_
  refine sf_lp (ι := Nat × Value) [1, 2] (fun x => [(5, x.2), (6, .int .i64 (x.1 : Int))]) (fun x O => x.1 ≤ s.feet.length ∧ ∃ AW, O = AW ++ [(b2, .cells #[.int .i64 s.grid.wide, c, l, f] 68)] ∧ Gr AW x.2 3 intF (natsI (touchTo s.feet a x.1))) (fun x => s.feet.length - x.1) (0, w) (AW ++ [(b2, .cells #[.int .i64 s.grid.wide, c, l, f] 68)]) ⟨by simp only; omega, AW, rfl, gw⟩ ?_
  rintro ⟨k, w⟩ O ⟨hk, AW, rfl, gx⟩
  simp only at hk gx ⊢
  have ow := gx.one
  have hlen := touchTo_len s.feet a k
  have hlen2 := natsI_len (touchTo s.feet a k)
  repeat first | refine R1 ?_ | refine R2 fun _ => ?_
  refine sf_if (fun h4 => ?_) fun h4 => ?_
  · have hk4 : k < s.feet.length := by omega
    have hk5 : k < rx.length := by omega
    obtain ⟨vx, ex, sx4⟩ := bx.at hk4
    haveI : FlatV (rawF (intSR τ).sz) (gt rx k) [vx] := ⟨ex⟩
    have o4 := sx4.one
    repeat first | refine R1 ?_ | refine R2 fun _ => ?_
    refine Xv (l13Has_v _ _ _ sx4 a) ?_
    repeat first | refine R1 ?_ | refine R2 fun _ => ?_
    refine sf_if (fun h5 => ?_) fun h5 => ?_
    · repeat first | refine R1 ?_ | refine R2 fun _ => ?_
      refine Xb fun u Au gu => ?_
      repeat first | refine R1 ?_ | refine R2 fun _ => ?_
      refine Xa gx gu fun w2 A2 g2 => ?_
      repeat first | refine R1 ?_ | refine R2 fun _ => ?_
      exact ⟨(k + 1, w2), by simp only; omega, ⟨rfl, rfl, trivial⟩, rfl, A2 ++ [(b2, .cells #[.int .i64 s.grid.wide, c, l, f] 68)], _, inferInstance, by simp only; omega, A2, rfl, by simp only; rw [touchTo_step, if_pos h5, natsI_snoc]; exact g2⟩
    · repeat first | refine R1 ?_ | refine R2 fun _ => ?_
      exact ⟨(k + 1, w), by simp only; omega, ⟨rfl, rfl, trivial⟩, rfl, AW ++ [(b2, .cells #[.int .i64 s.grid.wide, c, l, f] 68)], _, inferInstance, by simp only; omega, AW, rfl, by simp only; rw [touchTo_step, if_neg h5]; exact gx⟩
  · refine sf_exit ?_
    obtain rfl : k = s.feet.length := by omega
    repeat first | refine R1 ?_ | refine R2 fun _ => ?_
    exact sf_ret (rO AW gx)
theorem l13Copy_f (h : PHeap) (ca : List Value) (s : Scene) (b : (sceneR τ).B h ca s) (hs : szSceneN s ≤ 1048576) : CallF Tryz.prog M 226 [.agg ca.toArray] [] h fun u A => ∃ cs, u = .agg cs.toArray ∧ (sceneR τ).O A cs s := by
  simp only [szSceneN, szIntSSN] at hs
  obtain ⟨c, l, f, rfl, s1, s2, s3⟩ := sceneB b
  have o1 := s1.one
  have o2 := s2.one
  have o3 := s3.one
  obtain ⟨rx, s3, bx⟩ := s3
  have lx := bx.len
  refine Cs Tryz.func226 Tryz.ntmps226 ?_
  repeat first | refine R1 ?_ | refine R2 fun _ => ?_
  rename_i b1 b2
  apply viaT (G := ∀ (c2 l2 : Value) (AC AL : Own) (b3 : Nat), Gr AC c2 46 cellF s.grid.cells → Gr AL l2 3 intF s.lights → _)
  · intro tail
    refine sf_draw (by kernel_rfl) (regX_split 2 3 (by rfl) (regX_split 2 8 (by rfl) (regX_split 3 8 (by rfl) (regX_split 6 8 (by rfl) ?_ ?_) ?_) ?_) (regX_split 2 8 (by rfl) (regX_split 6 8 (by rfl) ?_ ?_) (regX_split 3 8 (by rfl) ?_ ?_)))
    case' refine_1 =>
      refine Sr [[],[0],[0,1],[0,1,2],[],[4],[0,1,2,3,4,5],[0,1,2,3,4,5,6],[0,1,2,3,4,5,6],[0,1,2,3,4,5,6,7,8]] 9 [Nn 0,Nn 1,Nn 4,Nn 5,Yy 2,Yy 3,Yy 6,Nn 7,Yy 8] ?_
      refine Da ?_
      refine Yc (l1Copy_f (M := M) _ _ s.grid (gridB_mk s1) (by omega)) ?_
      rintro _ AC ⟨_, rfl, q⟩
      obtain ⟨c2, rfl, g1, l1⟩ := gridO q
      have o5 := g1.one
      refine Da ?_
      refine Yb fun e0 AE ge => ?_
      have o6 := ge.one
      refine Da ?_
      refine Ys ge s2 fun l2 AL g2 => ?_
      have o7 := g2.one
      refine Da ?_
      refine Yl fun b3 => ?_
      refine Da ?_
      refine Ae ?_
      repeat first | refine R1 ?_ | refine R2 fun _ => ?_
      refine sf_keep [1, 2, 3, 4] ?_
      refine sf_own ((b3, .cells #[.int .i64 s.grid.wide, c2, l2, .slice none 0 0] 68) :: (AC ++ (AL ++ [(b2, .cells #[.int .i64 0, .slice none 0 0, .slice none 0 0, .slice none 0 0] 68), (b1, .cells #[.int .i64 s.grid.wide, c, l, f] 68)]))) ?_
      exact tail.out c2 l2 AC AL b3 g1 g2
    case' refine_2 =>
      refine Sr [[],[0],[0,1],[0,1,2],[],[4],[0,1,2,3,4,5,8],[0,1,2,3,4,5,6,8],[0,1,2,3],[0,1,2,3,4,5,6,7,8]] 9 [Nn 0,Nn 1,Nn 4,Nn 5,Yy 2,Yy 3,Yy 8,Yy 6,Nn 7] ?_
      refine Da ?_
      refine Yc (l1Copy_f (M := M) _ _ s.grid (gridB_mk s1) (by omega)) ?_
      rintro _ AC ⟨_, rfl, q⟩
      obtain ⟨c2, rfl, g1, l1⟩ := gridO q
      have o5 := g1.one
      refine Da ?_
      refine Yb fun e0 AE ge => ?_
      have o6 := ge.one
      refine Da ?_
      refine Yl fun b3 => ?_
      refine Da ?_
      refine Ys ge s2 fun l2 AL g2 => ?_
      have o7 := g2.one
      refine Da ?_
      refine Ae ?_
      repeat first | refine R1 ?_ | refine R2 fun _ => ?_
      refine sf_keep [1, 2, 3, 4] ?_
      refine sf_own ((b3, .cells #[.int .i64 s.grid.wide, c2, l2, .slice none 0 0] 68) :: (AC ++ (AL ++ [(b2, .cells #[.int .i64 0, .slice none 0 0, .slice none 0 0, .slice none 0 0] 68), (b1, .cells #[.int .i64 s.grid.wide, c, l, f] 68)]))) ?_
      exact tail.out c2 l2 AC AL b3 g1 g2
    case' refine_3 =>
      refine Sr [[],[0],[0,1],[0,1,2,8],[],[4],[0,1,2,3,4,5,8],[0,1,2,3,4,5,6,8],[0,1,2],[0,1,2,3,4,5,6,7,8]] 9 [Nn 0,Nn 1,Nn 4,Nn 5,Yy 2,Yy 8,Yy 3,Yy 6,Nn 7] ?_
      refine Da ?_
      refine Yc (l1Copy_f (M := M) _ _ s.grid (gridB_mk s1) (by omega)) ?_
      rintro _ AC ⟨_, rfl, q⟩
      obtain ⟨c2, rfl, g1, l1⟩ := gridO q
      have o5 := g1.one
      refine Da ?_
      refine Yl fun b3 => ?_
      refine Da ?_
      refine Yb fun e0 AE ge => ?_
      have o6 := ge.one
      refine Da ?_
      refine Ys ge s2 fun l2 AL g2 => ?_
      have o7 := g2.one
      refine Da ?_
      refine Ae ?_
      repeat first | refine R1 ?_ | refine R2 fun _ => ?_
      refine sf_keep [1, 2, 3, 4] ?_
      refine sf_own ((b3, .cells #[.int .i64 s.grid.wide, c2, l2, .slice none 0 0] 68) :: (AC ++ (AL ++ [(b2, .cells #[.int .i64 0, .slice none 0 0, .slice none 0 0, .slice none 0 0] 68), (b1, .cells #[.int .i64 s.grid.wide, c, l, f] 68)]))) ?_
      exact tail.out c2 l2 AC AL b3 g1 g2
    case' refine_4 =>
      refine Sr [[],[0],[0,1,8],[0,1,2,8],[],[4],[0,1,2,3,4,5,8],[0,1,2,3,4,5,6,8],[],[0,1,2,3,4,5,6,7,8]] 9 [Nn 0,Nn 1,Nn 4,Nn 5,Yy 8,Yy 2,Yy 3,Yy 6,Nn 7] ?_
      refine Da ?_
      refine Yl fun b3 => ?_
      refine Da ?_
      refine Yc (l1Copy_f (M := M) _ _ s.grid (gridB_mk s1) (by omega)) ?_
      rintro _ AC ⟨_, rfl, q⟩
      obtain ⟨c2, rfl, g1, l1⟩ := gridO q
      have o5 := g1.one
      refine Da ?_
      refine Yb fun e0 AE ge => ?_
      have o6 := ge.one
      refine Da ?_
      refine Ys ge s2 fun l2 AL g2 => ?_
      have o7 := g2.one
      refine Da ?_
      refine Ae ?_
      repeat first | refine R1 ?_ | refine R2 fun _ => ?_
      refine sf_keep [1, 2, 3, 4] ?_
      refine sf_own ((b3, .cells #[.int .i64 s.grid.wide, c2, l2, .slice none 0 0] 68) :: (AC ++ (AL ++ [(b2, .cells #[.int .i64 0, .slice none 0 0, .slice none 0 0, .slice none 0 0] 68), (b1, .cells #[.int .i64 s.grid.wide, c, l, f] 68)]))) ?_
      exact tail.out c2 l2 AC AL b3 g1 g2
    case' refine_5 =>
      refine Sr [[],[0],[0,1,3],[],[],[4],[0,1,2,3,4,5],[0,1,2,3,4,5,6],[0,1,2,3,4,5,6],[0,1,2,3,4,5,6,7,8]] 9 [Nn 0,Nn 1,Nn 4,Nn 5,Yy 3,Yy 2,Yy 6,Nn 7,Yy 8] ?_
      refine Da ?_
      refine Yb fun e0 AE ge => ?_
      have o6 := ge.one
      refine Da ?_
      refine Yc (l1Copy_f (M := M) _ _ s.grid (gridB_mk s1) (by omega)) ?_
      rintro _ AC ⟨_, rfl, q⟩
      obtain ⟨c2, rfl, g1, l1⟩ := gridO q
      have o5 := g1.one
      refine Da ?_
      refine Ys ge s2 fun l2 AL g2 => ?_
      have o7 := g2.one
      refine Da ?_
      refine Yl fun b3 => ?_
      refine Da ?_
      refine Ae ?_
      repeat first | refine R1 ?_ | refine R2 fun _ => ?_
      refine sf_keep [1, 2, 3, 4] ?_
      refine sf_own ((b3, .cells #[.int .i64 s.grid.wide, c2, l2, .slice none 0 0] 68) :: (AC ++ (AL ++ [(b2, .cells #[.int .i64 0, .slice none 0 0, .slice none 0 0, .slice none 0 0] 68), (b1, .cells #[.int .i64 s.grid.wide, c, l, f] 68)]))) ?_
      exact tail.out c2 l2 AC AL b3 g1 g2
    case' refine_6 =>
      refine Sr [[],[0],[0,1,3],[],[],[4],[0,1,2,3,4,5,8],[0,1,2,3,4,5,6,8],[0,1,2,3],[0,1,2,3,4,5,6,7,8]] 9 [Nn 0,Nn 1,Nn 4,Nn 5,Yy 3,Yy 2,Yy 8,Yy 6,Nn 7] ?_
      refine Da ?_
      refine Yb fun e0 AE ge => ?_
      have o6 := ge.one
      refine Da ?_
      refine Yc (l1Copy_f (M := M) _ _ s.grid (gridB_mk s1) (by omega)) ?_
      rintro _ AC ⟨_, rfl, q⟩
      obtain ⟨c2, rfl, g1, l1⟩ := gridO q
      have o5 := g1.one
      refine Da ?_
      refine Yl fun b3 => ?_
      refine Da ?_
      refine Ys ge s2 fun l2 AL g2 => ?_
      have o7 := g2.one
      refine Da ?_
      refine Ae ?_
      repeat first | refine R1 ?_ | refine R2 fun _ => ?_
      refine sf_keep [1, 2, 3, 4] ?_
      refine sf_own ((b3, .cells #[.int .i64 s.grid.wide, c2, l2, .slice none 0 0] 68) :: (AC ++ (AL ++ [(b2, .cells #[.int .i64 0, .slice none 0 0, .slice none 0 0, .slice none 0 0] 68), (b1, .cells #[.int .i64 s.grid.wide, c, l, f] 68)]))) ?_
      exact tail.out c2 l2 AC AL b3 g1 g2
    case' refine_7 =>
      refine Sr [[],[0],[0,1,3,8],[],[],[4],[0,1,2,3,4,5,8],[0,1,2,3,4,5,6,8],[3],[0,1,2,3,4,5,6,7,8]] 9 [Nn 0,Nn 1,Nn 4,Nn 5,Yy 3,Yy 8,Yy 2,Yy 6,Nn 7] ?_
      refine Da ?_
      refine Yb fun e0 AE ge => ?_
      have o6 := ge.one
      refine Da ?_
      refine Yl fun b3 => ?_
      refine Da ?_
      refine Yc (l1Copy_f (M := M) _ _ s.grid (gridB_mk s1) (by omega)) ?_
      rintro _ AC ⟨_, rfl, q⟩
      obtain ⟨c2, rfl, g1, l1⟩ := gridO q
      have o5 := g1.one
      refine Da ?_
      refine Ys ge s2 fun l2 AL g2 => ?_
      have o7 := g2.one
      refine Da ?_
      refine Ae ?_
      repeat first | refine R1 ?_ | refine R2 fun _ => ?_
      refine sf_keep [1, 2, 3, 4] ?_
      refine sf_own ((b3, .cells #[.int .i64 s.grid.wide, c2, l2, .slice none 0 0] 68) :: (AC ++ (AL ++ [(b2, .cells #[.int .i64 0, .slice none 0 0, .slice none 0 0, .slice none 0 0] 68), (b1, .cells #[.int .i64 s.grid.wide, c, l, f] 68)]))) ?_
      exact tail.out c2 l2 AC AL b3 g1 g2
    case' refine_8 =>
      refine Sr [[],[0],[0,1,3,8],[8],[],[4],[0,1,2,3,4,5,8],[0,1,2,3,4,5,6,8],[],[0,1,2,3,4,5,6,7,8]] 9 [Nn 0,Nn 1,Nn 4,Nn 5,Yy 8,Yy 3,Yy 2,Yy 6,Nn 7] ?_
      refine Da ?_
      refine Yl fun b3 => ?_
      refine Da ?_
      refine Yb fun e0 AE ge => ?_
      have o6 := ge.one
      refine Da ?_
      refine Yc (l1Copy_f (M := M) _ _ s.grid (gridB_mk s1) (by omega)) ?_
      rintro _ AC ⟨_, rfl, q⟩
      obtain ⟨c2, rfl, g1, l1⟩ := gridO q
      have o5 := g1.one
      refine Da ?_
      refine Ys ge s2 fun l2 AL g2 => ?_
      have o7 := g2.one
      refine Da ?_
      refine Ae ?_
      repeat first | refine R1 ?_ | refine R2 fun _ => ?_
      refine sf_keep [1, 2, 3, 4] ?_
      refine sf_own ((b3, .cells #[.int .i64 s.grid.wide, c2, l2, .slice none 0 0] 68) :: (AC ++ (AL ++ [(b2, .cells #[.int .i64 0, .slice none 0 0, .slice none 0 0, .slice none 0 0] 68), (b1, .cells #[.int .i64 s.grid.wide, c, l, f] 68)]))) ?_
      exact tail.out c2 l2 AC AL b3 g1 g2
  intro c2 l2 AC AL b3 g1 g2
  have o5 := g1.one
  have o7 := g2.one
  repeat first | refine R1 ?_ | refine R2 fun _ => ?_
  refine sf_lp (ι := Nat) [1, 2, 3] (fun k => [(4, .int .i64 (k : Int))]) (fun k O => k ≤ s.feet.length ∧ ∃ fv A0 A1, O = (b3, .cells #[.int .i64 s.grid.wide, c2, l2, fv] 68) :: (A0 ++ A1 ++ (AC ++ (AL ++ [(b2, .cells #[.int .i64 0, .slice none 0 0, .slice none 0 0, .slice none 0 0] 68), (b1, .cells #[.int .i64 s.grid.wide, c, l, f] 68)]))) ∧ ∃ rs : List (Raw (intSR τ).sz), rs.length = k ∧ Gr A0 fv 33 (rawF (intSR τ).sz) rs ∧ OAll (intSR τ) A1 rs (s.feet.take k)) (fun k => s.feet.length - k) 0 ((b3, .cells #[.int .i64 s.grid.wide, c2, l2, .slice none 0 0] 68) :: ([] ++ [] ++ (AC ++ (AL ++ [(b2, .cells #[.int .i64 0, .slice none 0 0, .slice none 0 0, .slice none 0 0] 68), (b1, .cells #[.int .i64 s.grid.wide, c, l, f] 68)])))) ⟨by omega, _, [], [], rfl, [], rfl, Gr.nil _ _, .nil⟩ ?_
  rintro k O ⟨hk, fv, A0, A1, rfl, rs, hr, gr, oa⟩
  have o8 := gr.one
  repeat first | refine R1 ?_ | refine R2 fun _ => ?_
  refine sf_if (fun h4 => ?_) fun h4 => ?_
  · have hk4 : k < s.feet.length := by omega
    have hk5 : k < rx.length := by omega
    obtain ⟨vx, ex, sx4⟩ := bx.at hk4
    haveI : FlatV (rawF (intSR τ).sz) (gt rx k) [vx] := ⟨ex⟩
    have o9 := sx4.one
    have hsz := sizeL_at (f := List.length) hk4
    repeat first | refine R1 ?_ | refine R2 fun _ => ?_
    refine Sd [[],[0],[],[],[3],[],[3,4,5],[3,4,5,6],[2,3,4,5,6,7],[2,3,4,5,6,7,8],[0,1,2,3,4,5,6,7,8,9],[0,1,2,3,4,5,6,7,8,9,10],[0,1,2,3,4,5,6,7,8,9,10,11]] 10 [Nn 0,Nn 1,Nn 3,Nn 4,Nn 5,Nn 6,Nn 7,Yy 2,Yy 8,Yy 9] ?_
    refine Da ?_
    refine Yb fun e0 AE ge => ?_
    refine Da ?_
    refine Ys ge sx4 fun w AW gw => ?_
    have o10 := gw.one
    refine Da ?_
    refine Yb fun u Au gu => ?_
    refine Da ?_
    refine Ae ?_
    refine fp (y_append (by rfl) (by rfl) gr gu (by intro y hy; simp at hy; subst hy; exact (inferInstance : AllOne [w]).is) (by rfl) (by rfl) (by simp; omega) (by simp; omega) fun fv2 A5 g5 => ?_)
    have o11 := g5.one
    repeat first | refine R1 ?_ | refine R2 fun _ => ?_
    refine ⟨k + 1, by omega, ⟨rfl, trivial⟩, rfl, (b3, .cells #[.int .i64 s.grid.wide, c2, l2, fv2] 68) :: (A5 ++ (A1 ++ AW) ++ (AC ++ (AL ++ [(b2, .cells #[.int .i64 0, .slice none 0 0, .slice none 0 0, .slice none 0 0] 68), (b1, .cells #[.int .i64 s.grid.wide, c, l, f] 68)]))), _, inferInstance, by omega, fv2, A5, A1 ++ AW, rfl, _, by simp [hr], g5, ?_⟩
    rw [take_succ_gt hk4]
    exact oa.snoc ⟨w, rfl, gw, by omega⟩
  · refine sf_exit ?_
    obtain rfl : k = s.feet.length := by omega
    rw [List.take_of_length_le (Nat.le_refl _)] at oa
    repeat first | refine R1 ?_ | refine R2 fun _ => ?_
    refine sf_ret (rO (AC ++ (AL ++ (A0 ++ A1))) ⟨_, rfl, ?_⟩)
    exact sceneO_mk (s := s) g1 (by omega) g2 (by omega) ⟨A0, A1, rfl, rs, gr, oa, by omega⟩
theorem l13Do_f (h : PHeap) (c l f v : Value) (X1 X2 X3 : Own) (s : Scene) (e : Edit) (g1 : Gr X1 c 46 cellF s.grid.cells) (g2 : Gr X2 l 3 intF s.lights) (g3 : GrR (intSR τ) X3 f 33 s.feet) (sv : Sl h v editF [e]) (hg : gridOk s.grid = true) (he : editOk s.grid e = true) (hl : (s.lights.length : Int) = manyOf s.grid) (hf : (s.feet.length : Int) = manyOf s.grid) :
    CallF Tryz.prog M 225 [.agg #[.int .i64 s.grid.wide, c, l, f], v] (X1 ++ (X2 ++ X3)) h fun u A => ∃ w, u = .tuple #[.agg #[.int .i64 s.grid.wide, c, l, f], w] ∧ (sceneR τ).O A [.int .i64 s.grid.wide, c, l, f] (editScene s e) ∧ Sl.One w := by
  have kg := gok hg
  have hm := kg.many
  have hsm := kg.small
  have hg' := gridOk_put hg he
  have hmp := manyOf_put s.grid e
  have q : (sceneR τ).O (X1 ++ (X2 ++ X3)) [.int .i64 s.grid.wide, c, l, f] s := sceneO_mk g1 (by omega) g2 (by omega) g3
  have o1 := g1.one
  have o2 := g2.one
  have o3 := g3.one
  have o4 := sv.one
  have hea : 0 ≤ e.at' ∧ e.at' < s.grid.cells.length := by simp only [editOk, Bool.and_eq_true, decide_eq_true_eq] at he; omega
  obtain ⟨N, hN⟩ : ∃ N, s.feet.length = N := ⟨_, rfl⟩
  obtain ⟨ks, hks⟩ : ∃ ks, touched s.feet e.at' = ks := ⟨_, rfl⟩
  have hkl : ∀ k ∈ ks, k < N := fun k hk => by rw [← hks] at hk; rw [← hN]; exact touchTo_lt hk
  have hkn : ks.length ≤ N := by rw [← hks, ← hN]; exact touchTo_len _ _ _
  have eg : ∀ i, i < [e].length → gt [e] i = e := fun i hi => by
    obtain rfl : i = 0 := by simpa using hi
    rfl
  obtain ⟨F0, F1, rfl, rs, gr, oa, hb⟩ := id g3
  have hr := oa.len
  refine Cs Tryz.func225 Tryz.ntmps225 ?_
  repeat first | refine R1 ?_ | refine R2 fun _ => ?_
  rename_i b2 b4
  refine Xm fun vb AB gb => ?_
  have o5 := gb.one
  rw [show rs.length = N by omega] at gb
  repeat first | refine R1 ?_ | refine R2 fun _ => ?_
  refine Xb fun w7 A7 g7 => ?_
  have o6 := g7.one
  repeat first | refine R1 ?_ | refine R2 fun _ => ?_
  refine sf_lp (ι := Nat × List Bool) [1, 2, 4, 6, 7] (fun x => [(8, .int .i64 (x.1 : Int))]) (fun x O => x.1 ≤ 1 ∧ ∃ AB, O = AB ++ (A7 ++ ((b2, .cells #[.int .i64 s.grid.wide, c, l, f] 68) :: ((b4, .cells #[.int .i64 0, .slice none 0 0, .slice none 0 0, .slice none 0 0] 68) :: (X1 ++ (X2 ++ (F0 ++ F1)))))) ∧ Gr AB vb 4 boolF x.2 ∧ x.2.length = N ∧ (x.1 = 0 → ∀ k, k < N → gt x.2 k = false) ∧ (x.1 = 1 → ∀ k, k < N → gt x.2 k = decide (k ∈ ks))) (fun x => 1 - x.1) (0, List.replicate N false) (AB ++ (A7 ++ ((b2, .cells #[.int .i64 s.grid.wide, c, l, f] 68) :: ((b4, .cells #[.int .i64 0, .slice none 0 0, .slice none 0 0, .slice none 0 0] 68) :: (X1 ++ (X2 ++ (F0 ++ F1))))))) ⟨by simp only; omega, AB, rfl, gb, by simp, fun _ k hk => by simp [gt, hk], fun h0 => by cases h0⟩ ?_
  clear gb
  rintro ⟨i, bs⟩ O ⟨hi, AB, rfl, gb, hbl, hb0, hb1⟩
  simp only at hi gb hbl hb0 hb1 ⊢
  repeat first | refine R1 ?_ | refine R2 fun _ => ?_
  refine sf_if (fun h4 => ?_) fun h4 => ?_
  · have hi4 : i < [e].length := by simp only [List.length_cons, List.length_nil]; simp at h4; omega
    have ee := eg i hi4
    obtain rfl : i = 0 := by simpa using hi4
    repeat first | refine R1 ?_ | refine R2 fun _ => ?_
    refine Sd [[],[],[],[1,2],[1,2,3],[1,2,3,4],[0,1,2,3,4,5],[0,1,2,3,4,5,6]] 6 [Nn 0,Nn 1,Nn 2,Nn 3,Nn 4,Nn 5] ?_
    refine Da ?_
    refine Ae ?_
    refine fp (y_lend (X1 ++ (X2 ++ (F0 ++ F1))) (fun h' _ i' => l13Touch_f (M := M) h' _ s ((sceneR τ).lent q i') (by omega) e.at') (by rfl) ?_)
    rintro w9 AT gw
    rw [hks] at gw
    have o7 := gw.one
    repeat first | refine R1 ?_ | refine R2 fun _ => ?_
    refine sf_lp (ι := Nat × List Bool) [1, 2, 4, 6, 7, 8, 9] (fun x => [(10, .int .i64 (x.1 : Int))]) (fun x O => x.1 ≤ ks.length ∧ ∃ AB, O = AB ++ (AT ++ (A7 ++ ((b2, .cells #[.int .i64 s.grid.wide, c, l, f] 68) :: ((b4, .cells #[.int .i64 0, .slice none 0 0, .slice none 0 0, .slice none 0 0] 68) :: (X1 ++ (X2 ++ (F0 ++ F1))))))) ∧ Gr AB vb 4 boolF x.2 ∧ x.2.length = N ∧ ∀ k, k < N → gt x.2 k = decide (k ∈ ks.take x.1)) (fun x => ks.length - x.1) (0, bs) (AB ++ (AT ++ (A7 ++ ((b2, .cells #[.int .i64 s.grid.wide, c, l, f] 68) :: ((b4, .cells #[.int .i64 0, .slice none 0 0, .slice none 0 0, .slice none 0 0] 68) :: (X1 ++ (X2 ++ (F0 ++ F1)))))))) ⟨by simp only; omega, AB, rfl, gb, hbl, fun k hk => by simp only [hb0 rfl k hk]; simp⟩ ?_
    clear gb hb0 hb1 hbl
    rintro ⟨j, bs⟩ O ⟨hj, AB, rfl, gb, hbl, hb⟩
    simp only at hj gb hbl hb ⊢
    have hnl := natsI_len ks
    repeat first | refine R1 ?_ | refine R2 fun _ => ?_
    refine sf_if (fun h5 => ?_) fun h5 => ?_
    · have hj4 : j < ks.length := by omega
      have hj5 : j < (natsI ks).length := by omega
      have hz := natsI_at hj4
      have hz1 := hkl (gt ks j) (by rw [gt_eq hj4]; exact List.getElem_mem _)
      have hz0 : 0 ≤ gt (natsI ks) j := by omega
      have hz2 : gt (natsI ks) j < (bs.length : Int) := by omega
      repeat first | refine R1 ?_ | refine R2 fun _ => ?_ | refine fp (Rq ?_ (z_indexGI (by rfl) (by rfl) (by assumption) (by omega) (by omega)))
      refine Xg gb fun A2 ys hy hly fv gy => ?_
      repeat first | refine R1 ?_ | refine R2 fun _ => ?_
      refine ⟨(j + 1, ys), by simp only; omega, ⟨rfl, trivial⟩, rfl, A2 ++ (AT ++ (A7 ++ ((b2, .cells #[.int .i64 s.grid.wide, c, l, f] 68) :: ((b4, .cells #[.int .i64 0, .slice none 0 0, .slice none 0 0, .slice none 0 0] 68) :: (X1 ++ (X2 ++ (F0 ++ F1))))))), _, inferInstance, by simp only; omega, A2, rfl, gy, by simp only; omega, fun k hk => ?_⟩
      simp only
      rw [hy, take_succ_gt hj4]
      by_cases ek : (gt (natsI ks) j).toNat = k
      · subst ek
        rw [gt_set (by omega)]
        have : (gt (natsI ks) j).toNat = gt ks j := by omega
        simp [this]
      · rw [gt_set_ne ek, hb k hk]
        have : ¬ k = gt ks j := by omega
        simp [this]
    · refine sf_exit ?_
      obtain rfl : j = ks.length := by omega
      rw [List.take_of_length_le (Nat.le_refl _)] at hb
      repeat first | refine R1 ?_ | refine R2 fun _ => ?_
      exact ⟨(1, bs), by simp, ⟨rfl, trivial⟩, rfl, AB ++ (A7 ++ ((b2, .cells #[.int .i64 s.grid.wide, c, l, f] 68) :: ((b4, .cells #[.int .i64 0, .slice none 0 0, .slice none 0 0, .slice none 0 0] 68) :: (X1 ++ (X2 ++ (F0 ++ F1)))))), _, inferInstance, by simp, AB, rfl, gb, hbl, fun h0 => (by cases h0), fun _ => hb⟩
  refine sf_exit ?_
  obtain rfl : i = 1 := by simp at h4; omega
  have hb := hb1 rfl
  clear hb0 hb1
  repeat first | refine R1 ?_ | refine R2 fun _ => ?_
  refine sf_lp (ι := Nat × List Cell) [1, 2, 4, 6, 7] (fun x => [(11, .int .i64 (x.1 : Int))]) (fun x O => x.1 ≤ 1 ∧ ∃ X1, O = AB ++ (A7 ++ ((b2, .cells #[.int .i64 s.grid.wide, c, l, f] 68) :: ((b4, .cells #[.int .i64 0, .slice none 0 0, .slice none 0 0, .slice none 0 0] 68) :: (X1 ++ (X2 ++ (F0 ++ F1)))))) ∧ Gr X1 c 46 cellF x.2 ∧ (x.1 = 0 → x.2 = s.grid.cells) ∧ (x.1 = 1 → x.2 = (putCell s.grid e).cells)) (fun x => 1 - x.1) (0, s.grid.cells) (AB ++ (A7 ++ ((b2, .cells #[.int .i64 s.grid.wide, c, l, f] 68) :: ((b4, .cells #[.int .i64 0, .slice none 0 0, .slice none 0 0, .slice none 0 0] 68) :: (X1 ++ (X2 ++ (F0 ++ F1))))))) ⟨by simp, X1, rfl, g1, fun _ => rfl, fun h0 => by cases h0⟩ ?_
  clear q g1
  rintro ⟨i, cl⟩ O ⟨hi, X1, rfl, g1, hc0, hc1⟩
  simp only at hi g1 hc0 hc1 ⊢
  repeat first | refine R1 ?_ | refine R2 fun _ => ?_
  refine sf_if (fun h4 => ?_) fun h4 => ?_
  · have hi4 : i < [e].length := by simp only [List.length_cons, List.length_nil]; simp at h4; omega
    have ee := eg i hi4
    obtain rfl : i = 0 := by simpa using hi4
    obtain rfl := hc0 rfl
    have ha0 : 0 ≤ (gt [e] 0).at' := hea.1
    have ha1 : (gt [e] 0).at' < (s.grid.cells.length : Int) := hea.2
    repeat first | refine R1 ?_ | refine R2 fun _ => ?_
    refine Sd [[],[0],[0,1],[],[],[3,4],[3,4,5],[3,4,5,6],[],[],[8,9],[8,9,10],[8,9,10,11],[0,1,2,3,4,5,6,7,8,9,10,11,12],[0,1,2,3,4,5,6,7,8,9,10,11,12,13]] 13 [Nn 0,Nn 1,Nn 2,Nn 3,Nn 4,Nn 5,Nn 6,Nn 7,Nn 8,Nn 9,Nn 10,Nn 11,Nn 12] ?_
    refine Da ?_
    refine Ae ?_
    repeat first | refine R1 ?_ | refine R2 fun _ => ?_ | refine fp (Rq ?_ (z_indexGI (by rfl) (by rfl) (by assumption) (by omega) (by omega)))
    refine Xg g1 fun A2 ys hy hly fv gy => ?_
    repeat first | refine R1 ?_ | refine R2 fun _ => ?_
    exact ⟨(1, ys), by simp, ⟨rfl, trivial⟩, rfl, AB ++ (A7 ++ ((b2, .cells #[.int .i64 s.grid.wide, c, l, f] 68) :: ((b4, .cells #[.int .i64 0, .slice none 0 0, .slice none 0 0, .slice none 0 0] 68) :: (A2 ++ (X2 ++ (F0 ++ F1)))))), _, inferInstance, by simp, A2, rfl, gy, fun h0 => (by cases h0), fun _ => hy⟩
  refine sf_exit ?_
  obtain rfl : i = 1 := by simp at h4; omega
  obtain rfl := hc1 rfl
  clear hc0 hc1
  repeat first | refine R1 ?_ | refine R2 fun _ => ?_
  refine sf_lp (ι := Nat × Value) [2, 4, 6] (fun x => [(7, x.2), (12, .int .i64 (x.1 : Int))]) (fun x O => x.1 ≤ N ∧ ∃ A2 A3 AW, O = AW ++ (AB ++ ((b2, .cells #[.int .i64 s.grid.wide, c, l, f] 68) :: ((b4, .cells #[.int .i64 0, .slice none 0 0, .slice none 0 0, .slice none 0 0] 68) :: (X1 ++ (A2 ++ A3))))) ∧ Gr A2 l 3 intF (lookL (putCell s.grid e) (touchTo s.feet e.at' x.1) s.lights) ∧ GrR (intSR τ) A3 f 33 (lookF (putCell s.grid e) (touchTo s.feet e.at' x.1) s.feet) ∧ Gr AW x.2 3 intF (natsI (touchTo s.feet e.at' x.1))) (fun x => N - x.1) (0, w7) (A7 ++ (AB ++ ((b2, .cells #[.int .i64 s.grid.wide, c, l, f] 68) :: ((b4, .cells #[.int .i64 0, .slice none 0 0, .slice none 0 0, .slice none 0 0] 68) :: (X1 ++ (X2 ++ (F0 ++ F1))))))) ⟨by simp, X2, F0 ++ F1, A7, rfl, g2, g3, g7⟩ ?_
  clear g2 g3 g7 gr oa
  rintro ⟨k, w7⟩ O ⟨hk, A2, A3, AW, rfl, ga, gf, gx⟩
  simp only at hk ga gf gx ⊢
  have o7 := gx.one
  have hll := lookL_len (putCell s.grid e) (touchTo s.feet e.at' k) s.lights
  have hfl := lookF_len (putCell s.grid e) (touchTo s.feet e.at' k) s.feet
  have htl := touchTo_len s.feet e.at' k
  have hnl := natsI_len (touchTo s.feet e.at' k)
  repeat first | refine R1 ?_ | refine R2 fun _ => ?_
  refine sf_if (fun h4 => ?_) fun h4 => ?_
  · have hk4 : k < N := by omega
    have hk5 : k < bs.length := by omega
    repeat first | refine R1 ?_ | refine R2 fun _ => ?_
    rw [hb k hk4, ← hks]
    refine sf_if (fun h5 => ?_) fun h5 => ?_
    · have h6 := (mem_touched (by omega)).1 h5
      repeat first | refine R1 ?_ | refine R2 fun _ => ?_
      refine fp (y_lend X1 (fun h' _ i => l13Look_f (M := M) h' c (putCell s.grid e) (g1.lent (by rw [show (putCell s.grid e).cells.length = s.grid.cells.length by simp [putCell]]; omega) i) hg' l f A2 A3 _ _ ga gf k (by omega) (by omega) (by omega)) (by rfl) ?_)
      rintro u0 _ ⟨A5, A6, e1, rfl, ga2, gf2⟩
      have e2 : u0 = .agg #[.int .i64 s.grid.wide, c, l, f] := e1
      subst e2
      repeat first | refine R1 ?_ | refine R2 fun _ => ?_
      refine Xb fun u Au gu => ?_
      repeat first | refine R1 ?_ | refine R2 fun _ => ?_
      refine Xa gx gu fun w2 A4 g4 => ?_
      repeat first | refine R1 ?_ | refine R2 fun _ => ?_
      refine ⟨(k + 1, w2), by simp only; omega, ⟨rfl, rfl, trivial⟩, rfl, A4 ++ (AB ++ ((b2, .cells #[.int .i64 s.grid.wide, c, l, f] 68) :: ((b4, .cells #[.int .i64 0, .slice none 0 0, .slice none 0 0, .slice none 0 0] 68) :: (X1 ++ (A5 ++ A6))))), _, inferInstance, by simp only; omega, A5, A6, A4, rfl, ?_, ?_, ?_⟩
      · simp only; rw [touchTo_step, if_pos h6, lookL_snoc]; exact ga2
      · simp only; rw [touchTo_step, if_pos h6, lookF_snoc]; exact gf2
      · simp only; rw [touchTo_step, if_pos h6, natsI_snoc]; exact g4
    · have h6 : ¬ e.at' ∈ gt s.feet k := fun z => h5 ((mem_touched (by omega)).2 z)
      repeat first | refine R1 ?_ | refine R2 fun _ => ?_
      refine ⟨(k + 1, w7), by simp only; omega, ⟨rfl, rfl, trivial⟩, rfl, AW ++ (AB ++ ((b2, .cells #[.int .i64 s.grid.wide, c, l, f] 68) :: ((b4, .cells #[.int .i64 0, .slice none 0 0, .slice none 0 0, .slice none 0 0] 68) :: (X1 ++ (A2 ++ A3))))), _, inferInstance, by simp only; omega, A2, A3, AW, rfl, ?_, ?_, ?_⟩
      · simp only; rw [touchTo_step, if_neg h6]; exact ga
      · simp only; rw [touchTo_step, if_neg h6]; exact gf
      · simp only; rw [touchTo_step, if_neg h6]; exact gx
  · refine sf_exit ?_
    obtain rfl : k = N := by omega
    subst hN
    repeat first | refine R1 ?_ | refine R2 fun _ => ?_
    refine sf_ret (rO (X1 ++ (A2 ++ A3)) ⟨_, rfl, ?_, o7⟩)
    exact sceneO_mk (s := editScene s e) g1 (by simp only [editScene, putCell, List.length_set]; omega) ga (by simp only [editScene]; rw [lookL_len]; omega) gf
theorem sNoWordO' : (wordR τ).O [] (wordCs noWord (.slice none 0 0) (.slice none 0 0)) noWord := wordO_mk (w := noWord) (Gr.nil _ _) (by decide) (Gr.nil _ _) (by decide)
theorem l21Tell_f (h : PHeap) (ca : List Value) (p : Painter) (b : (painterR τ).B h ca p) (ok : paintOk p = true) (id many : Int) (hid : idOk id many = true) : CallF Tryz.prog M 196 [.agg ca.toArray, .int .i64 id, .int .i64 many] [] h fun u A => ∃ cs, u = .tuple #[.agg cs.toArray, .bool (paintTold p id many).2] ∧ (wordR τ).O A cs (paintTold p id many).1 := by
  obtain ⟨c, l, f, rfl, s1, s2, s3⟩ := painterB b
  have o1 := s1.one
  have o2 := s2.one
  have o3 := s3.one
  simp only [idOk, Bool.and_eq_true, decide_eq_true_eq] at hid
  refine Cs Tryz.func196 Tryz.ntmps196 ?_
  repeat first | refine R1 ?_ | refine R2 fun _ => ?_
  refine sf_cond (by rfl) (fun e1 => ?_) fun e1 => ?_
  · simp only [Bool.not_eq_true'] at e1
    repeat first | refine R1 ?_ | refine R2 fun _ => ?_
    rw [paintTold, if_pos e1]
    exact sf_ret (rO [] ⟨_, rfl, sNoWordO'⟩)
  simp only [Bool.not_eq_false'] at e1
  repeat first | refine R1 ?_ | refine R2 fun _ => ?_
  refine sf_cond (by rfl) (fun e2 => ?_) fun e2 => ?_
  · simp only [Bool.not_eq_true'] at e2
    repeat first | refine R1 ?_ | refine R2 fun _ => ?_
    rw [paintTold, if_neg (by rw [e1]; decide), if_pos e2]
    exact sf_ret (rO [] ⟨wordCs ⟨4, 0, id, 0, noGrid, noEdit, []⟩ (.slice none 0 0) (.slice none 0 0), rfl, wordO_mk (w := ⟨4, 0, id, 0, noGrid, noEdit, []⟩) (Gr.nil _ _) (by simp [noGrid]) (Gr.nil _ _) (by simp)⟩)
  simp only [Bool.not_eq_false'] at e2
  obtain ⟨hup, hv0, hv1, hsc⟩ := paintOk_has ok e2
  obtain ⟨hg, hs⟩ := sceneOk_is hsc
  have kg := gok hg
  have hm := kg.many
  obtain ⟨N, hN⟩ : ∃ N : Nat, manyOf p.scene.grid = N := ⟨(manyOf p.scene.grid).toNat, by omega⟩
  have hll : p.scene.lights.length = N := by rw [hs]; simp only [sceneOf]; rw [picOf_len, hN]; simp
  obtain ⟨i, rfl⟩ : ∃ i : Nat, id = i := ⟨id.toNat, by omega⟩
  obtain ⟨m, rfl⟩ : ∃ m : Nat, many = m := ⟨many.toNat, by omega⟩
  have hres : paintTold p i m = (⟨3, 0, i, p.ver, noGrid, noEdit, ownLights p.scene.lights N m i⟩, true) := by
    rw [paintTold, if_neg (by rw [e1]; decide), if_neg (by rw [e2]; decide), hN]; simp
  rw [hres]
  repeat first | refine R1 ?_ | refine R2 fun _ => ?_
  rename_i b3 b6
  refine Xb fun lv0 AL0 gl0 => ?_
  have ol0 := gl0.one
  repeat first | refine R1 ?_ | refine R2 fun _ => ?_
  rename_i b8
  refine fp (y_call (l21Own_f (M := M) _ _ p.scene.grid s1 kg i m (by omega) (by omega) (by omega)) (by rfl) ?_)
  intro w AW gw
  have ow := gw.one
  rw [hN] at gw
  simp only [Int.toNat_natCast] at gw
  have lw := ownList_len N m i
  have hc : ∀ j, j < ownCnt N m i ↔ i - 1 + j * m < N := fun j => ownCnt_lt (by omega) (by omega) (by omega)
  have hln : ownCnt N m i ≤ 20 := by
    rcases Nat.lt_or_ge 20 (ownCnt N m i) with h | h
    · have := (hc 20).1 h
      have : 20 * 1 ≤ 20 * m := Nat.mul_le_mul_left _ (by omega)
      omega
    · exact h
  have hat : ∀ j, j < ownCnt N m i → gt (ownList N m i) j = ((i - 1 + j * m : Nat) : Int) := fun j hj => ownList_at hj
  unfold ownLights
  generalize hxs : ownList N m i = xs at *
  repeat first | refine R1 ?_ | refine R2 fun _ => ?_
  refine sf_lp (ι := Nat) [3, 6, 8, 9] (fun x => [(10, .int .i64 (x : Int))]) (fun x O => x ≤ xs.length ∧ ∃ lv A', O = (b8, .cells #[.int .i64 3, .int .i64 0, .int .i64 (i : Int), .int .i64 p.ver, .int .i64 0, .slice none 0 0, .int .i64 0, .int .i64 0, .int .i64 0, lv] 50) :: (A' ++ (AW ++ [(b6, .cells #[.int .i64 0, .int .i64 0, .int .i64 0, .int .i64 0, .int .i64 0, .slice none 0 0, .int .i64 0, .int .i64 0, .int .i64 0, .slice none 0 0] 50), (b3, .cells #[.bool p.up, .bool p.has, .int .i64 p.ver, .int .i64 p.scene.grid.wide, c, l, f] 70)])) ∧ Gr A' lv 3 intF ((xs.take x).map fun k => gt p.scene.lights k.toNat)) (fun x => xs.length - x) 0 ((b8, .cells #[.int .i64 3, .int .i64 0, .int .i64 (i : Int), .int .i64 p.ver, .int .i64 0, .slice none 0 0, .int .i64 0, .int .i64 0, .int .i64 0, lv0] 50) :: (AL0 ++ (AW ++ [(b6, .cells #[.int .i64 0, .int .i64 0, .int .i64 0, .int .i64 0, .int .i64 0, .slice none 0 0, .int .i64 0, .int .i64 0, .int .i64 0, .slice none 0 0] 50), (b3, .cells #[.bool p.up, .bool p.has, .int .i64 p.ver, .int .i64 p.scene.grid.wide, c, l, f] 70)]))) ⟨by omega, _, AL0, rfl, gl0⟩ ?_
  rintro j O ⟨hj, lv, A', rfl, gr⟩
  have o4 := gr.one
  have hlt : ((xs.take j).map fun k => gt p.scene.lights k.toNat).length = j := by rw [List.length_map, List.length_take]; omega
  repeat first | refine R1 ?_ | refine R2 fun _ => ?_
  refine sf_if (fun h4 => ?_) fun h4 => ?_
  · have hj4 : j < ownCnt N m i := by omega
    have ha := hat j hj4
    have hb := (hc j).1 hj4
    have hstep : ((xs.take (j + 1)).map fun k => gt p.scene.lights k.toNat) = ((xs.take j).map fun k => gt p.scene.lights k.toNat) ++ [gt p.scene.lights (gt xs j).toNat] := by
      rw [take_succ_gt (by omega), List.map_append]; rfl
    have hz0 : 0 ≤ gt xs j := by omega
    have hz1 : (gt xs j).toNat < p.scene.lights.length := by omega
    repeat first | refine R1 ?_ | refine R2 fun _ => ?_
    refine Sd [[],[0],[],[2],[2,3],[],[],[5,6],[5,6,7],[2,3,4,5,6,7,8],[2,3,4,5,6,7,8,9],[2,3,4,5,6,7,8,9,10],[0,1,2,3,4,5,6,7,8,9,10,11],[0,1,2,3,4,5,6,7,8,9,10,11,12],[0,1,2,3,4,5,6,7,8,9,10,11,12,13]] 12 [Nn 0,Nn 1,Nn 2,Nn 3,Nn 4,Nn 5,Nn 6,Nn 7,Nn 8,Nn 9,Nn 10,Yy 11] ?_
    refine Da ?_
    refine Yb fun u Au gu => ?_
    refine Da ?_
    refine Ae ?_
    refine Xa gr gu fun lv2 A2 g2 => ?_
    have o5 := g2.one
    repeat first | refine R1 ?_ | refine R2 fun _ => ?_
    exact ⟨j + 1, by omega, ⟨rfl, trivial⟩, rfl, (b8, .cells #[.int .i64 3, .int .i64 0, .int .i64 (i : Int), .int .i64 p.ver, .int .i64 0, .slice none 0 0, .int .i64 0, .int .i64 0, .int .i64 0, lv2] 50) :: (A2 ++ (AW ++ [(b6, .cells #[.int .i64 0, .int .i64 0, .int .i64 0, .int .i64 0, .int .i64 0, .slice none 0 0, .int .i64 0, .int .i64 0, .int .i64 0, .slice none 0 0] 50), (b3, .cells #[.bool p.up, .bool p.has, .int .i64 p.ver, .int .i64 p.scene.grid.wide, c, l, f] 70)])), _, inferInstance, by omega, lv2, A2, rfl, by rw [hstep]; exact g2⟩
  · refine sf_exit ?_
    repeat first | refine R1 ?_ | refine R2 fun _ => ?_
    rw [take_ge hj (by omega)] at gr
    refine sf_ret (rO ([] ++ A') ⟨wordCs ⟨3, 0, i, p.ver, noGrid, noEdit, xs.map fun k => gt p.scene.lights k.toNat⟩ (.slice none 0 0) lv, rfl, ?_⟩)
    exact wordO_mk (τ := τ) (w := ⟨3, 0, i, p.ver, noGrid, noEdit, xs.map fun k => gt p.scene.lights k.toNat⟩) (Gr.nil _ _) (by simp [noGrid]) gr (by simp; omega)
end Go.Proofs.YtcpkcmgjfcbnpaaGreatDoor

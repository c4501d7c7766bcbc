/- Walks of the seat: Z7 R7u. -/
import Derived.Test.YtcpkcmgjfcbnpaaGreatDoorOwnE
import Derived.Test.YtcpkcmgjfcbnpaaGreatDoorOwnC
import Derived.Test.YtcpkcmgjfcbnpaaGreatDoorLibF
import Derived.Test.YtcpkcmgjfcbnpaaGreatDoorLibE
import Derived.Test.YtcpkcmgjfcbnpaaGreatDoorLibH
import Derived.Test.YtcpkcmgjfcbnpaaGreatDoorOwnB
import Derived.Test.YtcpkcmgjfcbnpaaGreatDoorSmM
set_option linter.unusedVariables false
set_option linter.unusedSimpArgs false
set_option linter.unusedSectionVars false
namespace Go.Proofs.YtcpkcmgjfcbnpaaGreatDoor
open Go Go.Sl
set_option maxRecDepth 100000
set_option maxHeartbeats 4000000
attribute [local irreducible] Go.Code.sf sfOps Opq opo retF Do1 anyO
variable {M : Jdg → Prop} [IsCl Tryz.prog M]
theorem paintOwnN_f (h : PHeap) (ca : List Value) (g : Grid) (b : (gridR τ).B h ca g) (id many : Int) (hi : idOk id many = false) : CallF Tryz.prog M 34 [.agg ca.toArray, .int .i64 id, .int .i64 many] [] h fun u A => u = .slice none 0 0 ∧ A = [] := by
  obtain ⟨c, rfl, s⟩ := gridB b
  have o1 := s.one
  refine Cs Tryz.func34 Tryz.ntmps34 ?_
  repeat first | refine R1 ?_ | refine R2 fun _ => ?_
  refine Xv (paintIdOk_v _ _ _) ?_
  rw [show (decide (1 ≤ many) && decide (many ≤ 3) && decide (1 ≤ id) && decide (id ≤ many)) = false from hi]
  repeat first | refine R1 ?_ | refine R2 fun _ => ?_
  refine sf_T (by rfl) ?_
  repeat first | refine R1 ?_ | refine R2 fun _ => ?_
  exact sf_ret (rO [] ⟨rfl, rfl⟩)
def ownIf (k : Keeper) (id : Int) : List Int := if 1 ≤ id ∧ id ≤ k.parts.length then ownList (manyOf k.first).toNat k.parts.length id.toNat else []
theorem paintOwnIf_f (h : PHeap) (ca : List Value) (k : Keeper) (hok : keepOk k = true) (b : (gridR τ).B h ca k.first) (id : Int) : CallF Tryz.prog M 34 [.agg ca.toArray, .int .i64 id, .int .i64 (k.parts.length : Int)] [] h fun u A => Gr A u 3 intF (ownIf k id) := by
  have hd := keepOk_head hok
  have n1 := hd.n1
  have n3 := hd.n3
  by_cases hi : 1 ≤ id ∧ id ≤ k.parts.length
  · obtain ⟨j, rfl⟩ : ∃ j : Nat, id = j := ⟨id.toNat, by omega⟩
    rw [ownIf, if_pos hi, Int.toNat_natCast]
    exact paintOwn_f h ca k.first b hd.grid j k.parts.length (by omega) (by omega) n3
  · rw [ownIf, if_neg hi]
    refine CallF.to (paintOwnN_f (M := M) h ca k.first b id k.parts.length (by simp [idOk]; omega)) ?_
    rintro u A ⟨rfl, rfl⟩
    exact Gr.nil _ _
theorem ownIf_le {k : Keeper} (hk : HeadOk k) (id : Int) : (ownIf k id).length ≤ 30 := by
  unfold ownIf
  split
  · have := partLights_le hk id.toNat 0
    rw [partLights, ownLights_len] at this
    rw [ownList_len]; exact this
  · simp
theorem ownIf_at {k : Keeper} (hk : HeadOk k) {id : Int} {i : Nat} (hi : i < (ownIf k id).length) : 0 ≤ gt (ownIf k id) i ∧ gt (ownIf k id) i < manyOf k.first := by
  have hm := (gok hk.grid).many
  have h3 := hk.n3
  unfold ownIf at hi ⊢
  split at hi
  · rename_i hid
    rw [if_pos hid]
    have hi2 := hi
    rw [ownList_len] at hi2
    have hlt := (ownCnt_lt (by omega) (by omega) h3).1 hi2
    have e1 : gt (ownList (manyOf k.first).toNat k.parts.length id.toNat) i = ((id.toNat - 1 + i * k.parts.length : Nat) : Int) := by
      rw [gt_eq hi]; simp [ownList]
    rw [e1]; omega
  · simp at hi
theorem keepHear_law [al : Alone Tryz.prog M] (h : PHeap) [BAt h 0 errObj] (v : Value) (xs : List (Fin 256)) (s : Sl h v u8F xs) : ∃ c, Tryz.f8.body = some c ∧ c.sf Tryz.prog M Tryz.f8.ntmps (retF Tryz.prog Tryz.f8 Tryz.f8.ntmps (fun v _ => v = .bool true) fun _ _ => False) (argsL 0 [v]) [] h := by
  have o1 := s.one
  have hsm := s.small
  refine ⟨_, rfl, ?_⟩
  rw [Tryz.ntmps8]
  simp only [argsL, Nat.reduceAdd]
  repeat first | refine R1 ?_ | refine R2 fun _ => ?_
  refine sf_if (fun e => ?_) fun e => ?_
  · repeat first | refine R1 ?_ | refine R2 fun _ => ?_
    exact sf_ret (rO [] rfl)
  repeat first | refine R1 ?_ | refine R2 fun _ => ?_
  refine fp (y_call (drawKeepHear_f _ v xs s) (by rfl) ?_)
  rintro _ _ ⟨k, cs, w, cw, A1, A2, rfl, rfl, dk, dw⟩
  have dk0 := dk
  obtain ⟨⟨c, x1, x2, x3, x4, x5, x6, rfl, u1⟩, -, hsz, n1, n3, e100, c25⟩ := dk
  have hwz := dw.size
  obtain ⟨dwo, few, -, fr0, fr4⟩ := dw
  have dwo0 := dwo
  obtain ⟨c1, l1, rfl, w1, w2⟩ := wordX dwo
  repeat first | refine R1o ?_ | refine R2 fun _ => ?_
  refine sf_nil ?_
  show Code.sf _ _ _ _ _ _ _ _
  refine sf_fz (A1 ++ A2) fun h1 le1 i1 => ?_
  have b0 := dk0.lent h1 (inb_l i1)
  have bw0 := (wordR τ).lent dwo0 (inb_r i1)
  clear dwo dwo0 dk0
  repeat first | refine R1 ?_ | refine R2 fun _ => ?_
  refine fp (y_call (keepHear_f _ _ k b0 (by omega) _ w bw0 (by omega)) (by rfl) ?_)
  rintro _ A3 ⟨cs3, rfl, q1⟩
  have q10 := q1
  obtain ⟨c3, e3, p3, sh3, rfl, w3, w4, w5, w6⟩ := keeperX q1
  repeat first | refine R1o ?_ | refine R2 fun _ => ?_
  refine sf_nil ?_
  show Code.sf _ _ _ _ _ _ _ _
  refine sf_fz A3 fun h2 le2 i2 => ?_
  have bx := (keeperR τ).lent q10 i2
  have b2 := (keeperR τ).up le2 b0
  have bw2 := (wordR τ).up le2 bw0
  clear q1 q10 b0 bw0
  have sk := sKeepHear_f (M := M) h2 _ k b2 (by omega) _ w bw2 (by omega)
  repeat first | refine R1 ?_ | refine R2 fun _ => ?_
  refine Sd [[],[],[],[1,2],[0,1,2,3],[0,1,2,3,4],[0,1,2,3,4,5],[0,1,2,3,4,5,6],[0,1,2,3,4,5,6,7],[0,1,2,3,4,5,6,7,8],[0,1,2,3,4,5,6,7,8,9]] 4 [Nn 0,Nn 1,Nn 2,Yy 3] ?_
  refine Da ?_
  refine Yc sk ?_
  rintro _ AS ⟨csS, rfl, qS⟩
  have qS0 := qS
  obtain ⟨cS, eS, pS, shS, rfl, wS1, wS2, wS3, wS4⟩ := keeperX qS
  refine Da ?_
  refine Ae ?_
  repeat first | refine R1 ?_ | refine R2 fun _ => ?_
  refine fp (y_lendV AS (fun h' l' i => llKeeper_s h' _ _ _ ((keeperR τ).up l' bx) ((keeperR τ).lent qS0 i)) (by rfl) ?_)
  repeat first | refine R1 ?_ | refine R2 fun _ => ?_
  refine Xv (sKeepOk_v _ _ _ b2) ?_
  cases hok : keepOk k with
  | false =>
    repeat first | refine R1 ?_ | refine R2 fun _ => ?_
    refine sf_cond (by rfl) (fun _ => ?_) fun z => by cases z
    repeat first | refine R1 ?_ | refine R2 fun _ => ?_
    refine Sd [[],[],[],[1,2],[0,1,2,3],[0,1,2,3,4]] 4 [Nn 0,Nn 1,Nn 2,Yy 3] ?_
    refine Da ?_
    refine Yc sk ?_
    rintro _ AT ⟨csT, rfl, qT⟩
    have qT0 := qT
    obtain ⟨cT, eT, pT, shT, rfl, wT1, wT2, wT3, wT4⟩ := keeperX qT
    refine Da ?_
    refine Ae ?_
    repeat first | refine R1 ?_ | refine R2 fun _ => ?_
    refine fp (y_lendV AT (fun h' l' i => llKeeper_s h' _ _ _ ((keeperR τ).up l' bx) ((keeperR τ).lent qT0 i)) (by rfl) ?_)
    repeat first | refine R1 ?_ | refine R2 fun _ => ?_
    exact sf_ret (rO [] rfl)
  | true =>
    have hx : keepHear k w = heard k w := by rw [keepHear, if_pos hok]
    obtain ⟨cx, ex, px, sx, ec, t1, t2, t3, t4⟩ := keeperB bx
    simp only [List.cons.injEq, and_true, true_and] at ec
    obtain ⟨rfl, rfl, rfl, rfl⟩ := ec
    obtain ⟨ck, ek, pk, sk', ec, r1, r2, r3, r4⟩ := keeperB b2
    simp only [List.cons.injEq, and_true, true_and] at ec
    obtain ⟨rfl, rfl, rfl, rfl⟩ := ec
    have or2 := r2.one
    have or3 := r3.one
    have or4 := r4.one
    obtain ⟨cw', lw', ec, v1, v2⟩ := wordB bw2
    simp only [wordCs, List.cons.injEq, and_true, true_and] at ec
    obtain ⟨rfl, rfl⟩ := ec
    have hxm : (keepHear k w).parts.length = k.parts.length := by rw [hx, heard_many]
    obtain ⟨rp, sp, bp⟩ := r3
    obtain ⟨rs, ss, bs⟩ := r4
    obtain ⟨rx, sxp, bxp⟩ := t3
    obtain ⟨ry, sys, bys⟩ := t4
    have lp := bp.len
    have ls := bs.len
    have lx := bxp.len
    have ly := bys.len
    have hsp := sp.small
    have hss := ss.small
    have hsx := sxp.small
    have hsy := sys.small
    have hvl := v2.small
    have hn := heard_shown k w
    rw [← hx] at hn
    have hn1 : ry.length = rs.length ∨ ry.length = rs.length + 1 := by
      rcases hn with e | ⟨pic, e, -, -⟩
      · left; rw [ly, ls, e]
      · right; rw [ly, ls, e]; simp
    repeat first | refine R1 ?_ | refine R2 fun _ => ?_
    refine sf_cond (by rfl) (fun z => by cases z) fun _ => ?_
    repeat first | refine R1 ?_ | refine R2 fun _ => ?_
    refine f_split (fun e1 => ?_) fun e1 => ?_
    · omega
    repeat first | refine R1 ?_ | refine R2 fun _ => ?_
    refine sf_if (fun e2 => ?_) fun e2 => ?_
    · omega
    repeat first | refine R1 ?_ | refine R2 fun _ => ?_
    refine fp (y_call (keepGrid_f _ _ k b2 w.ver) (by rfl) ?_)
    rintro _ A5 ⟨cs5, rfl, q5⟩
    have q50 := q5
    obtain ⟨c5, rfl, r5, -⟩ := gridO q5
    have oo5 := r5.one
    repeat first | refine R1o ?_ | refine R2 fun _ => ?_
    refine sf_nil ?_
    show Code.sf _ _ _ _ _ _ _ _
    refine sf_fz A5 fun h3 le3 i3 => ?_
    have g5 := (gridR τ).lent q50 i3
    have b3 := (keeperR τ).up le3 b2
    obtain ⟨ck3, ek3, pk3, sk3, ec3, u1', -, -, -⟩ := keeperB b3
    simp only [List.cons.injEq, and_true, true_and] at ec3
    obtain ⟨rfl, rfl, rfl, rfl⟩ := ec3
    repeat first | refine R1 ?_ | refine R2 fun _ => ?_
    have po := paintOwnIf_f (M := M) h3 _ k hok (gridB_mk u1') w.frm
    rw [← lp] at po
    refine fp (y_call po (by rfl) ?_)
    intro vo Ao go
    have oo6 := go.one
    repeat first | refine R1o ?_ | refine R2 fun _ => ?_
    refine sf_nil ?_
    show Code.sf _ _ _ _ _ _ _ _
    refine sf_fz Ao fun h4 le4 i4 => ?_
    have hol := ownIf_le (keepOk_head hok) w.frm
    have so := go.lent (by omega) i4
    have g5 := (gridR τ).up le4 g5
    have v24 := (v2.le le3.le).le le4.le
    have bx := (keeperR τ).up le4 ((keeperR τ).up le3 bx)
    have sp4 := (sp.le le3.le).le le4.le
    have ss4 := (ss.le le3.le).le le4.le
    have sx4 := (sxp.le le3.le).le le4.le
    have sy4 := (sys.le le3.le).le le4.le
    have bxp4 := (bxp.up le3).up le4
    have bys4 := (bys.up le3).up le4
    generalize hown : ownIf k w.frm = own at *
    apply viaT
    · intro tail
      by_cases c1 : w.kind = 3
      · repeat first | refine R1 ?_ | refine R2 fun _ => ?_
        rw [decide_eq_true c1]
        cases c2 : (keepGrid k w.ver).2 with
        | true =>
          repeat first | refine R1 ?_ | refine R2 fun _ => ?_
          by_cases c3 : (own.length : Int) > 0
          · rw [decide_eq_true c3]
            repeat first | refine R1 ?_ | refine R2 fun _ => ?_
            refine sf_keep [3, 4, 5, 6, 7, 9, 10, 11] ?_
            have hb : decide ((own.length : Int) = (w.lights.length : Int)) = true → w.kind = 3 ∧ (keepGrid k w.ver).2 = true ∧ own.length > 0 ∧ own.length = w.lights.length := fun z => ⟨c1, c2, by omega, by have := of_decide_eq_true z; omega⟩
            revert hb
            generalize decide ((own.length : Int) = (w.lights.length : Int)) = b
            revert b
            exact tail.out
          · rw [decide_eq_false c3]
            repeat first | refine R1 ?_ | refine R2 fun _ => ?_
            refine sf_keep [3, 4, 5, 6, 7, 9, 10, 11] ?_
            exact tail.out false (fun z => by cases z)
        | false =>
          repeat first | refine R1 ?_ | refine R2 fun _ => ?_
          refine sf_keep [3, 4, 5, 6, 7, 9, 10, 11] ?_
          exact tail.out false (fun z => by cases z)
      · repeat first | refine R1 ?_ | refine R2 fun _ => ?_
        rw [decide_eq_false c1]
        repeat first | refine R1 ?_ | refine R2 fun _ => ?_
        refine sf_keep [3, 4, 5, 6, 7, 9, 10, 11] ?_
        exact tail.out false (fun z => by cases z)
    intro b hb
    refine sf_rx (ι := Nat × Bool) [4, 5, 6, 7, 9] (fun x => [(11, .int .i64 (x.1 : Int)), (10, .bool x.2)]) (fun x => x.1 ≤ own.length ∧ (x.2 = true → (w.kind = 3 ∧ (keepGrid k w.ver).2 = true ∧ own.length > 0 ∧ own.length = w.lights.length) ∧ ∀ j, j < x.1 → trailLight (gridAt k w.ver) (gt own j) = gt w.lights j)) (fun x => own.length - x.1) (0, b) ⟨by omega, fun z => ⟨hb z, fun j hj => by omega⟩⟩ ?_
    rintro ⟨i, b1⟩ ⟨hi, hb1⟩
    simp only at hi hb1 ⊢
    apply viaT
    · intro tail
      have hfin : b1 = true → i = own.length → (w.kind = 3 ∧ (keepGrid k w.ver).2 = true ∧ own.length > 0 ∧ own.length = w.lights.length) ∧ ∀ j, j < own.length → trailLight (gridAt k w.ver) (gt own j) = gt w.lights j := fun z e => by
        have := hb1 z; rw [← e]; rw [← e] at this; exact this
      rcases Bool.eq_false_or_eq_true b1 with hbt | hbt
      case' inr =>
        repeat first | refine R1 ?_ | refine R2 fun _ => ?_
        refine sf_cond (by rfl) (fun z => by cases z) fun _ => ?_
        refine sf_exit ?_
        show Code.sf _ _ _ _ _ _ _ _
        refine sf_keep [5, 6, 10] ?_
        have hb2 : b1 = true → (w.kind = 3 ∧ (keepGrid k w.ver).2 = true ∧ own.length > 0 ∧ own.length = w.lights.length) ∧ ∀ j, j < own.length → trailLight (gridAt k w.ver) (gt own j) = gt w.lights j := fun z => by rw [hbt] at z; cases z
        revert hb2
        generalize b1 = b2
        revert b2
        exact tail.out
      case' inl =>
        obtain ⟨⟨d1, d2, d3, d4⟩, d5⟩ := hb1 hbt
        repeat first | refine R1 ?_ | refine R2 fun _ => ?_
        refine sf_if (fun h5 => ?_) fun h5 => ?_
        · have hi5 : i < own.length := by omega
          have hi6 : i < w.lights.length := by omega
          have hv : verOk k w.ver = true := by
            cases hvv : verOk k w.ver with
            | true => rfl
            | false => rw [keepGrid, hvv] at d2; simp at d2
          have eg := keepGrid_ok hok hv
          have gok' := gridAt_ok (keepOk_head hok).grid (keepOk_head hok).edits w.ver
          obtain ⟨c5', ec5, s5⟩ := gridB g5
          simp only [List.cons.injEq, and_true, true_and] at ec5
          subst ec5
          have hoa := ownIf_at (keepOk_head hok) (id := w.frm) (i := i) (by rw [hown]; exact hi5)
          rw [hown] at hoa
          have tl := trailLight_v (M := M) h4 c5 (keepGrid k w.ver).1 s5 (by rw [eg]; exact gok') (gt own i) (by rw [eg]; simp only [gridAt_many]; exact hoa)
          repeat first | refine R1 ?_ | refine R2 fun _ => ?_
          refine Sd [[],[],[],[1,2],[1,2,3],[0,1,2,3,4],[],[6],[],[6,7,8],[6,7,8,9],[0,1,2,3,4,5,6,7,8,9,10],[0,1,2,3,4,5,6,7,8,9,10,11]] 11 [Nn 0,Nn 1,Nn 2,Nn 3,Nn 4,Nn 6,Nn 7,Nn 8,Nn 9,Nn 10,Yy 5] ?_
          refine Da ?_
          refine Yv tl ?_
          refine Da ?_
          refine Ae ?_
          repeat first | refine R1 ?_ | refine R2 fun _ => ?_
          refine ⟨(i + 1, decide (trailLight (keepGrid k w.ver).1 (gt own i) = gt w.lights i)), by simp only; omega, ⟨by rfl, by rfl, trivial⟩, rfl, ⟨by simp only; omega, fun z => ⟨⟨d1, d2, d3, d4⟩, fun j hj => ?_⟩⟩, _, inferInstance⟩
          simp only at hj z
          have z := of_decide_eq_true z
          rw [eg] at z
          by_cases hji : j = i
          · subst hji; exact z
          · exact d5 j (by omega)
        · refine sf_exit ?_
          show Code.sf _ _ _ _ _ _ _ _
          refine sf_keep [5, 6, 10] ?_
          exact tail.out b1 fun z => hfin z (by omega)
    intro b2 hb2
    have hxk : b2 = true → keepOk (keepHear k w) = true := fun z => by
      obtain ⟨⟨d1, d2, d3, d4⟩, d5⟩ := hb2 z
      have hid : 1 ≤ w.frm ∧ w.frm ≤ k.parts.length := by
        by_cases hid : 1 ≤ w.frm ∧ w.frm ≤ k.parts.length
        · exact hid
        · rw [← hown, ownIf, if_neg hid] at d3; simp at d3
      rw [hx]
      rw [← hown, ownIf, if_pos hid] at d4 d5
      exact heard_true hok d4.symm (fun j hj => d5 j (by omega)) hid
    apply viaT
    · intro tail
      rcases Bool.eq_false_or_eq_true b2 with hbt | hbt
      · rw [hbt]
        repeat first | refine R1 ?_ | refine R2 fun _ => ?_
        refine Xv (keepOk_v _ _ _ bx) ?_
        rw [hxk hbt]
        repeat first | refine R1 ?_ | refine R2 fun _ => ?_
        refine sf_cond (by rfl) (fun z => by cases z) fun _ => ?_
        refine sf_skip ?_
        show Code.sf _ _ _ _ _ _ _ _
        refine sf_keep [5, 6] ?_
        exact tail.out
      · rw [hbt]
        repeat first | refine R1 ?_ | refine R2 fun _ => ?_
        refine sf_cond (by rfl) (fun z => by cases z) fun _ => ?_
        refine sf_skip ?_
        show Code.sf _ _ _ _ _ _ _ _
        refine sf_keep [5, 6] ?_
        exact tail.out
    have hxn1 : 1 ≤ (keepHear k w).parts.length := by omega
    generalize hxe : keepHear k w = x at *
    have hrx0 : 0 < rx.length := by omega
    obtain ⟨lz, exz, slz⟩ := partB (bxp4.at (k := 0) (by omega))
    have olz := slz.one
    repeat first | refine R1 ?_ | refine R2 fun _ => ?_
    refine sf_rx (ι := Nat × Bool) [5, 6] (fun y => [(13, .int .i64 (y.1 : Int)), (12, .bool y.2)]) (fun y => y.1 ≤ x.parts.length ∧ (partsSame x y.1 = true → y.2 = true)) (fun y => x.parts.length - y.1) (0, true) ⟨by omega, fun _ => rfl⟩ ?_
    rintro ⟨i, b3⟩ ⟨hi, hb3⟩
    simp only at hi hb3 ⊢
    repeat first | refine R1 ?_ | refine R2 fun _ => ?_
    refine sf_if (fun h5 => ?_) fun h5 => ?_
    · have hi5 : i < x.parts.length := by omega
      have hi6 : i < rx.length := by omega
      obtain ⟨li, exi, sli⟩ := partB (bxp4.at hi5)
      have oli := sli.one
      haveI : FlatV (rawF (partR τ).sz) (gt rx 0) [.bool (gt x.parts 0).has, .int .i64 (gt x.parts 0).ver, lz] := ⟨exz⟩
      haveI : FlatV (rawF (partR τ).sz) (gt rx (0 : Int).toNat) [.bool (gt x.parts 0).has, .int .i64 (gt x.parts 0).ver, lz] := ⟨exz⟩
      haveI : FlatV (rawF (partR τ).sz) (gt rx i) [.bool (gt x.parts i).has, .int .i64 (gt x.parts i).ver, li] := ⟨exi⟩
      have hst := partsSame_step x i
      cases hb : b3 with
      | false =>
        repeat first | refine R1 ?_ | refine R2 fun _ => ?_
        refine Sd [[],[0],[0,1],[0,1,2],[0,1],[0,1,2,3,4],[0,1,2,3,4,5],[0,1,2,3,4,5,6],[0,1,2,3,4,5,6,7],[0,1,2,3,4,5,6,7,8],[0,1,2,3,4,5,6,7,8,9],[0,1,2,3,4,5,6,7,8,9,10],[0,1,2,3,4,5,6,7,8,9],[0,1,2,3,4,5,6,7,8,9,10,11,12],[0,1,2,3,4,5,6,7,8,9,10,11,12,13],[0,1,2,3,4,5,6,7,8,9,10,11,12,13,14],[0,1,2,3,4,5,6,7,8,9],[0,1,2,3,4,5,6,7,8,9,16],[0,1,2,3,4,5,6,7,8,9,16,17],[0,1,2,3,4,5,6,7,8,9,16,17,18],[0,1,2,3,4,5,6,7,8,9,16,17,18,19],[0,1,2,3,4,5,6,7,8,9,10,11,12,13,14,15,16,17,18,19,20],[0,1,2,3,4,5,6,7,8,9,10,11,12,13,14,15,16,17,18,19,20,21],[0,1,2,3,4,5,6,7,8,9,10,11,12,13,14,15,16,17,18,19,20,21,22]] 21 [Nn 0,Nn 1,Nn 2,Nn 3,Nn 4,Nn 5,Nn 6,Nn 7,Nn 8,Nn 9,Nn 10,Nn 11,Nn 12,Nn 13,Nn 14,Nn 15,Nn 16,Nn 17,Nn 18,Nn 19,Nn 20] ?_
        refine Da ?_
        refine Ae ?_
        repeat first | refine R1 ?_ | refine R2 fun _ => ?_
        refine ⟨(i + 1, false), by simp only; omega, ⟨by rfl, by rfl, trivial⟩, rfl, ⟨by simp only; omega, fun z => ?_⟩, _, inferInstance⟩
        simp only at z
        rw [hst, Bool.and_eq_true] at z
        have := hb3 z.1
        rw [hb] at this; cases this
      | true =>
        cases hh : (gt x.parts i).has with
        | false =>
          rw [hh] at hst exi
          haveI : FlatV (rawF (partR τ).sz) (gt rx i) [.bool false, .int .i64 (gt x.parts i).ver, li] := ⟨exi⟩
          repeat first | refine R1 ?_ | refine R2 fun _ => ?_
          refine Sd [[],[0],[0,1],[0,1,2],[0,1],[0,1,2,3,4],[0,1,2,3,4,5],[0,1,2,3,4,5,6],[0,1,2,3,4,5,6,7],[0,1,2,3,4,5,6,7,8],[0,1,2,3,4,5,6,7,8,9],[0,1,2,3,4,5,6,7,8,9,10],[0,1,2,3,4,5,6,7,8,9],[0,1,2,3,4,5,6,7,8,9,10,11,12],[0,1,2,3,4,5,6,7,8,9,10,11,12,13],[0,1,2,3,4,5,6,7,8,9,10,11,12,13,14],[0,1,2,3,4,5,6,7,8,9],[0,1,2,3,4,5,6,7,8,9,16],[0,1,2,3,4,5,6,7,8,9,16,17],[0,1,2,3,4,5,6,7,8,9,16,17,18],[0,1,2,3,4,5,6,7,8,9,16,17,18,19],[0,1,2,3,4,5,6,7,8,9,10,11,12,13,14,15,16,17,18,19,20],[0,1,2,3,4,5,6,7,8,9,10,11,12,13,14,15,16,17,18,19,20,21],[0,1,2,3,4,5,6,7,8,9,10,11,12,13,14,15,16,17,18,19,20,21,22]] 21 [Nn 0,Nn 1,Nn 2,Nn 3,Nn 4,Nn 5,Nn 6,Nn 7,Nn 8,Nn 9,Nn 10,Nn 11,Nn 12,Nn 13,Nn 14,Nn 15,Nn 16,Nn 17,Nn 18,Nn 19,Nn 20] ?_
          refine Da ?_
          refine Ae ?_
          repeat first | refine R1 ?_ | refine R2 fun _ => ?_
          refine ⟨(i + 1, false), by simp only; omega, ⟨by rfl, by rfl, trivial⟩, rfl, ⟨by simp only; omega, fun z => ?_⟩, _, inferInstance⟩
          simp only at z
          rw [hst] at z
          simp at z
        | true =>
          rw [hh] at hst exi
          haveI : FlatV (rawF (partR τ).sz) (gt rx i) [.bool true, .int .i64 (gt x.parts i).ver, li] := ⟨exi⟩
          repeat first | refine R1 ?_ | refine R2 fun _ => ?_
          refine Sd [[],[0],[0,1],[0,1,2],[0,1],[0,1,2,3,4],[0,1,2,3,4,5],[0,1,2,3,4,5,6],[0,1,2,3,4,5,6,7],[0,1,2,3,4,5,6,7,8],[0,1,2,3,4,5,6,7,8,9],[0,1,2,3,4,5,6,7,8,9,10],[0,1,2,3,4,5,6,7,8,9],[0,1,2,3,4,5,6,7,8,9,10,11,12],[0,1,2,3,4,5,6,7,8,9,10,11,12,13],[0,1,2,3,4,5,6,7,8,9,10,11,12,13,14],[0,1,2,3,4,5,6,7,8,9],[0,1,2,3,4,5,6,7,8,9,16],[0,1,2,3,4,5,6,7,8,9,16,17],[0,1,2,3,4,5,6,7,8,9,16,17,18],[0,1,2,3,4,5,6,7,8,9,16,17,18,19],[0,1,2,3,4,5,6,7,8,9,10,11,12,13,14,15,16,17,18,19,20],[0,1,2,3,4,5,6,7,8,9,10,11,12,13,14,15,16,17,18,19,20,21],[0,1,2,3,4,5,6,7,8,9,10,11,12,13,14,15,16,17,18,19,20,21,22]] 21 [Nn 0,Nn 1,Nn 2,Nn 3,Nn 4,Nn 5,Nn 6,Nn 7,Nn 8,Nn 9,Nn 10,Nn 11,Nn 12,Nn 13,Nn 14,Nn 15,Nn 16,Nn 17,Nn 18,Nn 19,Nn 20] ?_
          refine Da ?_
          refine Ae ?_
          repeat first | refine R1 ?_ | refine R2 fun _ => ?_
          refine ⟨(i + 1, decide ((gt x.parts i).ver = (gt x.parts 0).ver)), by simp only; omega, ⟨by rfl, by rfl, trivial⟩, rfl, ⟨by simp only; omega, fun z => ?_⟩, _, inferInstance⟩
          simp only at z ⊢
          rw [hst] at z
          obtain ⟨-, z2⟩ := Bool.and_eq_true_iff.1 z
          simpa using z2
    · refine sf_exit ?_
      have hpe : partsSame x x.parts.length = true → b3 = true := by
        have : i = x.parts.length := by omega
        rw [this] at hb3; exact hb3
      haveI : FlatV (rawF (partR τ).sz) (gt rx 0) [.bool (gt x.parts 0).has, .int .i64 (gt x.parts 0).ver, lz] := ⟨exz⟩
      haveI : FlatV (rawF (partR τ).sz) (gt rx (0 : Int).toNat) [.bool (gt x.parts 0).has, .int .i64 (gt x.parts 0).ver, lz] := ⟨exz⟩
      rcases hn with hs | ⟨pic, hs, hps, hnew⟩
      · have g1 : (ry.length : Int) = rs.length := by rw [ly, ls, hs]
        repeat first | refine R1 ?_ | refine R2 fun _ => ?_
        refine Sd [[],[0],[0,1],[],[0,1,2,3],[0,1,2,3,4],[0,1,2,3,4,5],[0,1,2,3,4,5,6],[0,1,2,3,4,5,6,7],[0,1,2,3,4,5,6,7,8],[0,1,2,3,4,5,6,7],[0,1,2,3,4,5,6,7,8,9,10],[0,1,2,3,4,5,6,7,8,9,10,11],[0,1,2,3,4,5,6,7,8,9,10,11,12],[0,1,2,3,4,5,6,7],[0,1,2,3,4,5,6,7,14],[0,1,2,3,4,5,6,7,14,15],[0,1,2,3,4,5,6,7,14,15,16],[0,1,2,3,4,5,6,7,14,15,16,17],[0,1,2,3,4,5,6,7,8,9,10,11,12,13,14,15,16,17,18],[0,1,2,3,4,5,6,7,8,9,10,11,12,13,14,15,16,17,18,19],[0,1,2,3,4,5,6,7,8,9,10,11,12,13,14,15,16,17,18,19,20],[0,1,2,3,4,5,6,7,8,9,10,11,12,13,14,15,16,17,18,19,20,21],[0,1,2,3,4,5,6,7,8,9,10,11,12,13,14,15,16,17,18,19,20,21,22],[0,1,2,3,4,5,6,7,8,9,10,11,12,13,14,15,16,17,18,19,20,21,22,23],[0,1,2,3,4,5,6,7,8,9,10,11,12,13,14,15,16,17,18,19,20,21,22,23,24],[0,1,2,3,4,5,6,7,8,9,10,11,12,13,14,15,16,17,18,19,20,21,22,23,24,25],[0,1,2,3,4,5,6,7,8,9,10,11,12,13,14,15,16,17,18,19,20,21,22,23,24],[0,1,2,3,4,5,6,7,8,9,10,11,12,13,14,15,16,17,18,19,20,21,22,23,24,25,26,27],[0,1,2,3,4,5,6,7,8,9,10,11,12,13,14,15,16,17,18,19,20,21,22,23,24,25,26,27,28],[0,1,2,3,4,5,6,7,8,9,10,11,12,13,14,15,16,17,18,19,20,21,22,23,24,25,26,27,28,29],[0,1,2,3,4,5,6,7,8,9,10,11,12,13,14,15,16,17,18,19,20,21,22,23,24],[0,1,2,3,4,5,6,7,8,9,10,11,12,13,14,15,16,17,18,19,20,21,22,23,24,31],[0,1,2,3,4,5,6,7,8,9,10,11,12,13,14,15,16,17,18,19,20,21,22,23,24],[0,1,2,3,4,5,6,7,8,9,10,11,12,13,14,15,16,17,18,19,20,21,22,23,24,33],[0,1,2,3,4,5,6,7,8,9,10,11,12,13,14,15,16,17,18,19,20,21,22,23,24,31,32,33,34],[0,1,2,3,4,5,6,7,8,9,10,11,12,13,14,15,16,17,18,19,20,21,22,23,24,31,32,33,34,35],[0,1,2,3,4,5,6,7,8,9,10,11,12,13,14,15,16,17,18,19,20,21,22,23,24,31,32,33,34,35,36],[0,1,2,3,4,5,6,7,8,9,10,11,12,13,14,15,16,17,18,19,20,21,22,23,24,25,26,27,28,29,30,31,32,33,34,35,36,37],[0,1,2,3,4,5,6,7,8,9,10,11,12,13,14,15,16,17,18,19,20,21,22,23,24,25,26,27,28,29,30,31,32,33,34,35,36,37,38],[0,1,2,3,4,5,6,7,8,9,10,11,12,13,14,15,16,17,18,19,20,21,22,23,24,25,26,27,28,29,30,31,32,33,34,35,36,37,38,39],[0,1,2,3,4,5,6,7,8,9,10,11,12,13,14,15,16,17,18,19,20,21,22,23,24,25,26,27,28,29,30,31,32,33,34,35,36,37,38,39,40],[0,1,2,3,4,5,6,7,8,9,10,11,12,13,14,15,16,17,18,19,20,21,22,23,24,25,26,27,28,29,30,31,32,33,34,35,36,37,38,39,40,41]] 38 [Nn 0,Nn 1,Nn 2,Nn 3,Nn 4,Nn 5,Nn 6,Nn 7,Nn 8,Nn 9,Nn 10,Nn 11,Nn 12,Nn 13,Nn 14,Nn 15,Nn 16,Nn 17,Nn 18,Nn 19,Nn 20,Nn 21,Nn 22,Nn 23,Nn 24,Nn 25,Nn 26,Nn 27,Nn 28,Nn 29,Nn 30,Nn 31,Nn 32,Nn 33,Nn 34,Nn 35,Nn 36,Nn 37] ?_
        refine Da ?_
        refine Ae ?_
        repeat first | refine R1 ?_ | refine R2 fun _ => ?_
        rw [decide_eq_true g1]
        exact sf_ret (rO [] rfl)
      · have e6 : ry.length = rs.length + 1 := by rw [ly, ls, hs]; simp
        have g1 : ¬ ((ry.length : Int) = rs.length) := by omega
        have hb3t := hpe hps
        subst hb3t
        have e7 : gt x.shown rs.length = ⟨(gt x.parts 0).ver, pic⟩ := by rw [hs, ls]; simp [gt]
        have e8 : ∀ m, m < rs.length → gt x.shown m = gt k.shown m := fun m hm => by rw [hs]; exact gt_app (by omega)
        obtain ⟨l9, ex9, sl9⟩ := shownB (bys4.at (k := rs.length) (by omega))
        have ol9 := sl9.one
        haveI : FlatV (rawF (shownR τ).sz) (gt ry rs.length) [.int .i64 (gt x.shown rs.length).ver, l9] := ⟨ex9⟩
        have g2 : (gt x.shown rs.length).ver = (gt x.parts 0).ver := by rw [e7]
        by_cases g3 : (rs.length : Int) = 0
        · repeat first | refine R1 ?_ | refine R2 fun _ => ?_
          refine Sd [[],[0],[0,1],[],[0,1,2,3],[0,1,2,3,4],[0,1,2,3,4,5],[0,1,2,3,4,5,6],[0,1,2,3,4,5,6,7],[0,1,2,3,4,5,6,7,8],[0,1,2,3,4,5,6,7],[0,1,2,3,4,5,6,7,8,9,10],[0,1,2,3,4,5,6,7,8,9,10,11],[0,1,2,3,4,5,6,7,8,9,10,11,12],[0,1,2,3,4,5,6,7],[0,1,2,3,4,5,6,7,14],[0,1,2,3,4,5,6,7,14,15],[0,1,2,3,4,5,6,7,14,15,16],[0,1,2,3,4,5,6,7,14,15,16,17],[0,1,2,3,4,5,6,7,8,9,10,11,12,13,14,15,16,17,18],[0,1,2,3,4,5,6,7,8,9,10,11,12,13,14,15,16,17,18,19],[0,1,2,3,4,5,6,7,8,9,10,11,12,13,14,15,16,17,18,19,20],[0,1,2,3,4,5,6,7,8,9,10,11,12,13,14,15,16,17,18,19,20,21],[0,1,2,3,4,5,6,7,8,9,10,11,12,13,14,15,16,17,18,19,20,21,22],[0,1,2,3,4,5,6,7,8,9,10,11,12,13,14,15,16,17,18,19,20,21,22,23],[0,1,2,3,4,5,6,7,8,9,10,11,12,13,14,15,16,17,18,19,20,21,22,23,24],[0,1,2,3,4,5,6,7,8,9,10,11,12,13,14,15,16,17,18,19,20,21,22,23,24,25],[0,1,2,3,4,5,6,7,8,9,10,11,12,13,14,15,16,17,18,19,20,21,22,23,24],[0,1,2,3,4,5,6,7,8,9,10,11,12,13,14,15,16,17,18,19,20,21,22,23,24,25,26,27],[0,1,2,3,4,5,6,7,8,9,10,11,12,13,14,15,16,17,18,19,20,21,22,23,24,25,26,27,28],[0,1,2,3,4,5,6,7,8,9,10,11,12,13,14,15,16,17,18,19,20,21,22,23,24,25,26,27,28,29],[0,1,2,3,4,5,6,7,8,9,10,11,12,13,14,15,16,17,18,19,20,21,22,23,24],[0,1,2,3,4,5,6,7,8,9,10,11,12,13,14,15,16,17,18,19,20,21,22,23,24,31],[0,1,2,3,4,5,6,7,8,9,10,11,12,13,14,15,16,17,18,19,20,21,22,23,24],[0,1,2,3,4,5,6,7,8,9,10,11,12,13,14,15,16,17,18,19,20,21,22,23,24,33],[0,1,2,3,4,5,6,7,8,9,10,11,12,13,14,15,16,17,18,19,20,21,22,23,24,31,32,33,34],[0,1,2,3,4,5,6,7,8,9,10,11,12,13,14,15,16,17,18,19,20,21,22,23,24,31,32,33,34,35],[0,1,2,3,4,5,6,7,8,9,10,11,12,13,14,15,16,17,18,19,20,21,22,23,24,31,32,33,34,35,36],[0,1,2,3,4,5,6,7,8,9,10,11,12,13,14,15,16,17,18,19,20,21,22,23,24,25,26,27,28,29,30,31,32,33,34,35,36,37],[0,1,2,3,4,5,6,7,8,9,10,11,12,13,14,15,16,17,18,19,20,21,22,23,24,25,26,27,28,29,30,31,32,33,34,35,36,37,38],[0,1,2,3,4,5,6,7,8,9,10,11,12,13,14,15,16,17,18,19,20,21,22,23,24,25,26,27,28,29,30,31,32,33,34,35,36,37,38,39],[0,1,2,3,4,5,6,7,8,9,10,11,12,13,14,15,16,17,18,19,20,21,22,23,24,25,26,27,28,29,30,31,32,33,34,35,36,37,38,39,40],[0,1,2,3,4,5,6,7,8,9,10,11,12,13,14,15,16,17,18,19,20,21,22,23,24,25,26,27,28,29,30,31,32,33,34,35,36,37,38,39,40,41]] 38 [Nn 0,Nn 1,Nn 2,Nn 3,Nn 4,Nn 5,Nn 6,Nn 7,Nn 8,Nn 9,Nn 10,Nn 11,Nn 12,Nn 13,Nn 14,Nn 15,Nn 16,Nn 17,Nn 18,Nn 19,Nn 20,Nn 21,Nn 22,Nn 23,Nn 24,Nn 25,Nn 26,Nn 27,Nn 28,Nn 29,Nn 30,Nn 31,Nn 32,Nn 33,Nn 34,Nn 35,Nn 36,Nn 37] ?_
          refine Da ?_
          refine Ae ?_
          repeat first | refine R1 ?_ | refine R2 fun _ => ?_
          exact sf_ret (rO [] rfl)
        · obtain ⟨m, hm⟩ : ∃ m, rs.length = m + 1 := ⟨rs.length - 1, by omega⟩
          obtain ⟨l8, ex8, sl8⟩ := shownB (bys4.at (k := m) (by omega))
          have ol8 := sl8.one
          haveI : FlatV (rawF (shownR τ).sz) (gt ry m) [.int .i64 (gt x.shown m).ver, l8] := ⟨ex8⟩
          haveI : FlatV (rawF (shownR τ).sz) (gt ry ((rs.length : Int) - 1).toNat) [.int .i64 (gt x.shown m).ver, l8] := ⟨by rw [show ((rs.length : Int) - 1).toNat = m by omega]; exact ex8⟩
          have g4 : (gt x.shown rs.length).ver > (gt x.shown m).ver := by
            rw [g2, e8 m (by omega)]
            rcases hnew with z | z
            · omega
            · rw [← ls, hm] at z; exact z
          repeat first | refine R1 ?_ | refine R2 fun _ => ?_
          refine Sd [[],[0],[0,1],[],[0,1,2,3],[0,1,2,3,4],[0,1,2,3,4,5],[0,1,2,3,4,5,6],[0,1,2,3,4,5,6,7],[0,1,2,3,4,5,6,7,8],[0,1,2,3,4,5,6,7],[0,1,2,3,4,5,6,7,8,9,10],[0,1,2,3,4,5,6,7,8,9,10,11],[0,1,2,3,4,5,6,7,8,9,10,11,12],[0,1,2,3,4,5,6,7],[0,1,2,3,4,5,6,7,14],[0,1,2,3,4,5,6,7,14,15],[0,1,2,3,4,5,6,7,14,15,16],[0,1,2,3,4,5,6,7,14,15,16,17],[0,1,2,3,4,5,6,7,8,9,10,11,12,13,14,15,16,17,18],[0,1,2,3,4,5,6,7,8,9,10,11,12,13,14,15,16,17,18,19],[0,1,2,3,4,5,6,7,8,9,10,11,12,13,14,15,16,17,18,19,20],[0,1,2,3,4,5,6,7,8,9,10,11,12,13,14,15,16,17,18,19,20,21],[0,1,2,3,4,5,6,7,8,9,10,11,12,13,14,15,16,17,18,19,20,21,22],[0,1,2,3,4,5,6,7,8,9,10,11,12,13,14,15,16,17,18,19,20,21,22,23],[0,1,2,3,4,5,6,7,8,9,10,11,12,13,14,15,16,17,18,19,20,21,22,23,24],[0,1,2,3,4,5,6,7,8,9,10,11,12,13,14,15,16,17,18,19,20,21,22,23,24,25],[0,1,2,3,4,5,6,7,8,9,10,11,12,13,14,15,16,17,18,19,20,21,22,23,24],[0,1,2,3,4,5,6,7,8,9,10,11,12,13,14,15,16,17,18,19,20,21,22,23,24,25,26,27],[0,1,2,3,4,5,6,7,8,9,10,11,12,13,14,15,16,17,18,19,20,21,22,23,24,25,26,27,28],[0,1,2,3,4,5,6,7,8,9,10,11,12,13,14,15,16,17,18,19,20,21,22,23,24,25,26,27,28,29],[0,1,2,3,4,5,6,7,8,9,10,11,12,13,14,15,16,17,18,19,20,21,22,23,24],[0,1,2,3,4,5,6,7,8,9,10,11,12,13,14,15,16,17,18,19,20,21,22,23,24,31],[0,1,2,3,4,5,6,7,8,9,10,11,12,13,14,15,16,17,18,19,20,21,22,23,24],[0,1,2,3,4,5,6,7,8,9,10,11,12,13,14,15,16,17,18,19,20,21,22,23,24,33],[0,1,2,3,4,5,6,7,8,9,10,11,12,13,14,15,16,17,18,19,20,21,22,23,24,31,32,33,34],[0,1,2,3,4,5,6,7,8,9,10,11,12,13,14,15,16,17,18,19,20,21,22,23,24,31,32,33,34,35],[0,1,2,3,4,5,6,7,8,9,10,11,12,13,14,15,16,17,18,19,20,21,22,23,24,31,32,33,34,35,36],[0,1,2,3,4,5,6,7,8,9,10,11,12,13,14,15,16,17,18,19,20,21,22,23,24,25,26,27,28,29,30,31,32,33,34,35,36,37],[0,1,2,3,4,5,6,7,8,9,10,11,12,13,14,15,16,17,18,19,20,21,22,23,24,25,26,27,28,29,30,31,32,33,34,35,36,37,38],[0,1,2,3,4,5,6,7,8,9,10,11,12,13,14,15,16,17,18,19,20,21,22,23,24,25,26,27,28,29,30,31,32,33,34,35,36,37,38,39],[0,1,2,3,4,5,6,7,8,9,10,11,12,13,14,15,16,17,18,19,20,21,22,23,24,25,26,27,28,29,30,31,32,33,34,35,36,37,38,39,40],[0,1,2,3,4,5,6,7,8,9,10,11,12,13,14,15,16,17,18,19,20,21,22,23,24,25,26,27,28,29,30,31,32,33,34,35,36,37,38,39,40,41]] 38 [Nn 0,Nn 1,Nn 2,Nn 3,Nn 4,Nn 5,Nn 6,Nn 7,Nn 8,Nn 9,Nn 10,Nn 11,Nn 12,Nn 13,Nn 14,Nn 15,Nn 16,Nn 17,Nn 18,Nn 19,Nn 20,Nn 21,Nn 22,Nn 23,Nn 24,Nn 25,Nn 26,Nn 27,Nn 28,Nn 29,Nn 30,Nn 31,Nn 32,Nn 33,Nn 34,Nn 35,Nn 36,Nn 37] ?_
          refine Dj ?_
          refine Ae ?_
          repeat first | refine R1 ?_ | refine R2 fun _ => ?_
          rw [decide_eq_true g4]
          exact sf_ret (rO [] rfl)
end Go.Proofs.YtcpkcmgjfcbnpaaGreatDoor
namespace Go.Proofs.YtcpkcmgjfcbnpaaGreatDoor
open Go Go.Sl Go.Conc Go.ChangeShapes Go.WideShapes Go.ChangeAt Go.RowKit PHeap
set_option maxRecDepth 100000 in
theorem fnKeepHear_lifted (os : Os) (started : os.Started) (H : Type) (enc : TypeId × Value → H) :
    ReturnsInLeavingWide Rows.fnKeepHearRow.assume Tryz.checked os 8 .any (fun w args => (Rows.fnKeepHearSpec.pre enc Tryz.prog Tryz.f8 Rows.fnKeepHearRow.domain false w args ∧ laidMetH Tryz.prog Rows.fnKeepHearRow.laid w) ∧ sizedMet enc Tryz.prog Tryz.f8 (OpenSpec.ofChange Rows.fnKeepHearSpec) false w args)
      (Rows.fnKeepHearSpec.post enc Tryz.prog Tryz.f8 false true false false) := by
  refine leavingWide_of_runs (C := Tryz.checked) (X := fun w _ => laidMetH Tryz.prog Rows.fnKeepHearRow.laid w) (fun _ _ _ hh h => h.of_heap hh) k_own started Tryz.func8
    (ChangeSpec.witness_at (enc := enc) (C := Tryz.checked) (os := os) (X := fun w _ => laidMetH Tryz.prog Rows.fnKeepHearRow.laid w) false (laidWorld os) #[.slice none 0 0] 16 rfl (by kernel_rfl) (by kernel_rfl) (by kernel_rfl) (by kernel_rfl) (by kernel_rfl) (laidWorld_met os _)) ?_
  intro W base args ds gs before hval0 hW hsz0 hop hlaid
  haveI := errAt hop hlaid
  have hval : ∀ (j : Nat) t v, Tryz.f8.params[j]? = some t → args[j]? = some v → Value.okWide Tryz.prog W .any base t v := hval0
  have hW' := hW
  obtain ⟨p, q, hA0, hV, rfl, hfz, hnd⟩ := hW
  have hA : DataW.TrodAll enc Tryz.prog W 0 (fun _ => true) true Tryz.f8.params.toList args.toList ds p := hA0
  have hpar : Tryz.f8.params = #[22] := rfl
  have hlt := hW'.lt
  rw [hpar] at hA hval hsz0
  obtain ⟨v0, d0, rfl, rfl, h0⟩ := trodAll_one hA
  obtain ⟨rfl, rfl⟩ := trodVars_none hV
  have hv0 := hval 0 22 v0 rfl rfl
  have hsz1 : ∀ m ∈ d0.weights Tryz.prog 22, m ≤ reachBytes := fun m hm => by
    have := List.all_eq_true.1 hsz0 m (DataW.weights_mem_each (j := 0) (t := 22) (d := d0) rfl rfl m hm)
    simpa using this
  have hone0 : v0.cells.toList = [v0] := by
    simp only [Value.okWide, (Ty.und (P := Tryz.prog) (t := 22))] at hv0
    cases v0 with
    | agg cs => exact absurd hv0 (by simp [Cell.okWide, Cell.ok, (Ty.und (P := Tryz.prog) (t := 22))])
    | _ => rfl
  have s0 := h0
  obtain ⟨fuel0, h0⟩ := h0
  rw [hone0] at h0
  obtain ⟨u0, x0, e0, b0⟩ := opens_slF (P := Tryz.prog) (W := W) (t := 22) (e := 5) (E := u8F) rfl (by decide) (by decide) h0 hsz1
  obtain rfl : u0 = v0 := (List.cons.inj e0).1.symm
  simp only [List.append_nil, List.nil_append] at hW' hlt
  refine ⟨fun v => v = .bool true, ends_of_body (P := Tryz.prog) (W := W) (R := fun v => v = .bool true) (f := 8) (fn := Tryz.f8) (vs := [u0]) (h := allOf W) rfl (sat_allOf W) (fun _ => rfl) (by kernel_rfl) Tryz.func8 (by kernel_rfl)
    (keepHear_law (M := (· = Lone Tryz.prog W (fun v => v = .bool true))) (allOf W) u0 x0 b0), fun v W' hR hk => ?_⟩
  subst hR
  refine post_of_kept (pa := p) (pv := []) hW' (fun _ _ _ => trodAll_mk1 (shut_bool (P := Tryz.prog) (Ty.und (t := 4)) true)) (fun sp hs => ?_) (fun _ _ => rfl) (by simp) hk (ok_one rfl rfl (okWide_bool_mk (P := Tryz.prog) (Ty.und (t := 4)) true))
  have key := trodAll_mk1 (WideElems.Trod_stays k_laidOut (by kernel_rfl) (of_decide_eq_true (by kernel_rfl)) s0 (fun x hx => same_kept hk (hlt x (by simp [hx]))) (fun x hx => hs x (by simp [hx])))
  skip
  exact key
theorem fnKeepHear_inPlace : (Rows.fnKeepHearRow.inPlace == Tryz.prog.inPlace 8) = true := by kernel_rfl
theorem fnKeepHear_unfollowed : (Rows.fnKeepHearRow.unfollowed == Tryz.prog.unfollowed 8) = true := by kernel_rfl
theorem fnKeepHear_recurses : (Rows.fnKeepHearRow.recurses == Tryz.prog.recurses 8) = true := by kernel_rfl
theorem fnKeepHear_named : (Rows.fnKeepHearRow.named == Tryz.prog.varsNamed 8) = true := by kernel_rfl
theorem fnKeepHear_loops : (Rows.fnKeepHearRow.loops == (Tryz.f8.params.toList ++ Rows.fnKeepHearSpec.plain.varTypes Tryz.prog).any (Tryz.prog.loopsFrom ·)) = true := by kernel_rfl
theorem fnKeepHear_facts : joinedFacts Tryz.prog 8 Tryz.f8 Rows.fnKeepHearSpec Rows.fnKeepHearRow = true := by
  unfold joinedFacts
  refine and_mk ?_ (by kernel_rfl)
  refine and_mk ?_ (by kernel_rfl)
  refine and_mk ?_ (by kernel_rfl)
  refine and_mk ?_ (by kernel_rfl)
  refine and_mk ?_ k_make
  refine and_mk ?_ k_lifted
  refine and_mk ?_ k_may
  refine and_mk ?_ k_heard
  refine and_mk ?_ (by kernel_rfl)
  refine and_mk ?_ k_plain
  refine and_mk ?_ (by kernel_rfl)
  refine and_mk ?_ (by kernel_rfl)
  refine and_mk ?_ (by kernel_rfl)
  refine and_mk ?_ (by kernel_rfl)
  refine and_mk ?_ (by kernel_rfl)
  refine and_mk ?_ fnKeepHear_loops
  refine and_mk ?_ (by kernel_rfl)
  refine and_mk ?_ (by kernel_rfl)
  refine and_mk ?_ (by kernel_rfl)
  refine and_mk ?_ fnKeepHear_named
  refine and_mk ?_ fnKeepHear_recurses
  refine and_mk ?_ fnKeepHear_unfollowed
  refine and_mk ?_ fnKeepHear_inPlace
  refine and_mk ?_ k_stopKnobs
  refine and_mk ?_ (by kernel_rfl)
  refine and_mk ?_ k_stops
  refine and_mk ?_ (by kernel_rfl)
  refine and_mk ?_ (by kernel_rfl)
  refine and_mk ?_ (by kernel_rfl)
  refine and_mk ?_ k_mapsRowed
  refine and_mk ?_ k_laidOut
  kernel_rfl
theorem fnKeepHear_row : Rows.FnKeepHearSaid :=
  OpenClaim.holds_of_wide_leaving 8 Tryz.f8 rfl rfl rfl rfl rfl rfl rfl ⟨rfl, rfl, rfl, rfl, rfl⟩ rfl rfl rfl rfl rfl (by kernel_rfl) Tryz.func8 fnKeepHear_facts
    (of_decide_eq_true (by kernel_rfl)) (by unfold Func.isWrapper; rw [if_neg (of_decide_eq_false (by kernel_rfl))]; exact ⟨rfl, rfl⟩)
    (fun os started H enc _ => fnKeepHear_lifted os started H enc)
end Go.Proofs.YtcpkcmgjfcbnpaaGreatDoor

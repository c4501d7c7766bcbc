/- Walks of the seat: Z6 R6u. -/
import Derived.Test.YtcpkcmgjfcbnpaaGreatDoorOwnE
import Derived.Test.YtcpkcmgjfcbnpaaGreatDoorOwnC
import Derived.Test.YtcpkcmgjfcbnpaaGreatDoorLibF
import Derived.Test.YtcpkcmgjfcbnpaaGreatDoorLibE
import Derived.Test.YtcpkcmgjfcbnpaaGreatDoorLibH
import Derived.Test.YtcpkcmgjfcbnpaaGreatDoorOwnB
import Derived.Test.YtcpkcmgjfcbnpaaGreatDoorSmM
set_option linter.unusedVariables false
set_option linter.unusedSimpArgs false
set_option linter.unusedSectionVars false
namespace Go.Proofs.YtcpkcmgjfcbnpaaGreatDoor
open Go Go.Sl
set_option maxRecDepth 100000
set_option maxHeartbeats 4000000
attribute [local irreducible] Go.Code.sf sfOps Opq opo retF Do1 anyO
variable {M : Jdg → Prop} [IsCl Tryz.prog M]
theorem keepWant_law [al : Alone Tryz.prog M] (h : PHeap) [BAt h 0 errObj] (v : Value) (xs : List (Fin 256)) (s : Sl h v u8F xs) : ∃ c, Tryz.f9.body = some c ∧ c.sf Tryz.prog M Tryz.f9.ntmps (retF Tryz.prog Tryz.f9 Tryz.f9.ntmps (fun v _ => v = .bool true) fun _ _ => False) (argsL 0 [v]) [] h := by
  have o1 := s.one
  have hsm := s.small
  refine ⟨_, rfl, ?_⟩
  rw [Tryz.ntmps9]
  simp only [argsL, Nat.reduceAdd]
  repeat first | refine R1 ?_ | refine R2 fun _ => ?_
  refine sf_if (fun e => ?_) fun e => ?_
  · repeat first | refine R1 ?_ | refine R2 fun _ => ?_
    exact sf_ret (rO [] rfl)
  repeat first | refine R1 ?_ | refine R2 fun _ => ?_
  refine fp (y_call (drawKeepHear_f _ v xs s) (by rfl) ?_)
  rintro _ _ ⟨k, cs, w, cw, A1, A2, rfl, rfl, dk, dw⟩
  have dk0 := dk
  obtain ⟨⟨c, x1, x2, x3, x4, x5, x6, rfl, u1⟩, -, hsz, n1, n3, e100, c25⟩ := dk
  have hwz := dw.size
  obtain ⟨dwo, few, -, fr0, fr4⟩ := dw
  have dwo0 := dwo
  obtain ⟨c1, l1, rfl, w1, w2⟩ := wordX dwo
  repeat first | refine R1o ?_ | refine R2 fun _ => ?_
  refine sf_nil ?_
  show Code.sf _ _ _ _ _ _ _ _
  refine sf_fz (A1 ++ A2) fun h1 le1 i1 => ?_
  have b0 := dk0.lent h1 (inb_l i1)
  have bw0 := (wordR τ).lent dwo0 (inb_r i1)
  clear dwo dwo0 dk0
  repeat first | refine R1 ?_ | refine R2 fun _ => ?_
  refine fp (y_call (keepHear_f _ _ k b0 (by omega) _ w bw0 (by omega)) (by rfl) ?_)
  rintro _ A3 ⟨cs3, rfl, q1⟩
  have q10 := q1
  obtain ⟨c3, e3, p3, sh3, rfl, w3, w4, w5, w6⟩ := keeperX q1
  repeat first | refine R1o ?_ | refine R2 fun _ => ?_
  refine sf_nil ?_
  show Code.sf _ _ _ _ _ _ _ _
  refine sf_fz A3 fun h2 le2 i2 => ?_
  have bx := (keeperR τ).lent q10 i2
  have b2 := (keeperR τ).up le2 b0
  have bw2 := (wordR τ).up le2 bw0
  clear q1 q10 b0 bw0
  have sk := sKeepHear_f (M := M) h2 _ k b2 (by omega) _ w bw2 (by omega)
  repeat first | refine R1 ?_ | refine R2 fun _ => ?_
  refine Sd [[],[],[],[1,2],[0,1,2,3],[0,1,2,3,4],[0,1,2,3,4,5],[0,1,2,3,4,5,6],[0,1,2,3,4,5,6,7],[0,1,2,3,4,5,6,7,8],[0,1,2,3,4,5,6,7,8,9]] 4 [Nn 0,Nn 1,Nn 2,Yy 3] ?_
  refine Da ?_
  refine Yc sk ?_
  rintro _ AS ⟨csS, rfl, qS⟩
  have qS0 := qS
  obtain ⟨cS, eS, pS, shS, rfl, wS1, wS2, wS3, wS4⟩ := keeperX qS
  refine Da ?_
  refine Ae ?_
  repeat first | refine R1 ?_ | refine R2 fun _ => ?_
  refine fp (y_lendV AS (fun h' l' i => llKeeper_s h' _ _ _ ((keeperR τ).up l' bx) ((keeperR τ).lent qS0 i)) (by rfl) ?_)
  repeat first | refine R1 ?_ | refine R2 fun _ => ?_
  refine Xv (sKeepOk_v _ _ _ b2) ?_
  cases hok : keepOk k with
  | false =>
    repeat first | refine R1 ?_ | refine R2 fun _ => ?_
    refine sf_cond (by rfl) (fun _ => ?_) fun z => by cases z
    repeat first | refine R1 ?_ | refine R2 fun _ => ?_
    refine Sd [[],[],[],[1,2],[0,1,2,3],[0,1,2,3,4]] 4 [Nn 0,Nn 1,Nn 2,Yy 3] ?_
    refine Da ?_
    refine Yc sk ?_
    rintro _ AT ⟨csT, rfl, qT⟩
    have qT0 := qT
    obtain ⟨cT, eT, pT, shT, rfl, wT1, wT2, wT3, wT4⟩ := keeperX qT
    refine Da ?_
    refine Ae ?_
    repeat first | refine R1 ?_ | refine R2 fun _ => ?_
    refine fp (y_lendV AT (fun h' l' i => llKeeper_s h' _ _ _ ((keeperR τ).up l' bx) ((keeperR τ).lent qT0 i)) (by rfl) ?_)
    repeat first | refine R1 ?_ | refine R2 fun _ => ?_
    exact sf_ret (rO [] rfl)
  | true =>
    obtain ⟨ck, ek, pk, sk', ec, r1, r2, r3, r4⟩ := keeperB b2
    simp only [List.cons.injEq, and_true, true_and] at ec
    obtain ⟨rfl, rfl, rfl, rfl⟩ := ec
    have or2 := r2.one
    have or3 := r3.one
    have or4 := r4.one
    obtain ⟨rp, sp, bp⟩ := r3
    have lp := bp.len
    have hsp := sp.small
    repeat first | refine R1 ?_ | refine R2 fun _ => ?_
    refine sf_cond (by rfl) (fun z => by cases z) fun _ => ?_
    repeat first | refine R1 ?_ | refine R2 fun _ => ?_
    refine sf_rd [3] 6 (k.parts.length + 1) 1 (fun j => 1 ≤ j) (by omega) (by omega) (fun j hj hj1 => ?_)
    repeat first | refine R1 ?_ | refine R2 fun _ => ?_
    refine sf_if (fun h4 => ?_) fun h4 => ?_
    · have hi4 : j - 1 < k.parts.length := by omega
      have ej : ((j : Int) - 1).toNat = j - 1 := by omega
      have hw : keepHear k ⟨4, 0, j, 0, noGrid, noEdit, []⟩ = setPart k (j - 1) noPart := by
        rw [keepHear, if_pos hok, heard_want hi4 _ rfl (by show (j : Int) = ((j - 1 : Nat) : Int) + 1; omega)]
      have hyo : keepOk (setPart k (j - 1) noPart) = true := by
        rw [← hw, keepHear, if_pos hok]; exact heard_keeps hok (fun e => by simp at e)
      have hym : (setPart k (j - 1) noPart).parts.length = k.parts.length := by simp [setPart]
      have hyp : gt (setPart k (j - 1) noPart).parts (j - 1) = noPart := by rw [setPart]; exact gt_set hi4
      have kh := keepHear_f (M := M) h2 _ k b2 (by omega) _ ⟨4, 0, j, 0, noGrid, noEdit, []⟩ (wordB_mk (w := ⟨4, 0, j, 0, noGrid, noEdit, []⟩) (Sl.nil _ _) (Sl.nil _ _)) (by simp)
      rw [hw] at kh
      repeat first | refine R1 ?_ | refine R2 fun _ => ?_
      refine fp (y_call kh (by rfl) ?_)
      rintro _ A7 ⟨cs7, rfl, q7⟩
      have q70 := q7
      obtain ⟨c7, e7, p7, s7, B1, B2, B3, B4, rfl, rfl, ⟨g1, -⟩, ⟨g2, -⟩, g3, g4⟩ := keeperO q7
      have o71 := g1.one
      have o72 := g2.one
      have o73 := g3.one
      have o74 := g4.one
      obtain ⟨B30, B31, rfl, r7, gp, gq, -⟩ := g3
      have l7 := gq.len
      obtain ⟨_, _, _, -, hp, -⟩ := gq.at (show j - 1 < (setPart k (j - 1) noPart).parts.length by omega)
      obtain ⟨lq, exq, glq, -⟩ := partO hp
      rw [hyp] at exq
      have olq := glq.one
      haveI : FlatV (rawF (partR τ).sz) (gt r7 ((j : Int) - 1).toNat) [.bool false, .int .i64 0, lq] := ⟨by rw [ej]; exact exq⟩
      repeat first | refine R1 ?_ | refine R2 fun _ => ?_
      have kt := fun h' (l' : Le h2 h') (i : InB h' (B1 ++ (B2 ++ ((B30 ++ B31) ++ B4)))) => keepTell_f (M := M) h' _ (setPart k (j - 1) noPart) ((keeperR τ).lent q70 i) j
      have et : keepTell (setPart k (j - 1) noPart) j = (⟨1, j, 0, k.edits.length, gridAt (setPart k (j - 1) noPart) k.edits.length, noEdit, []⟩, true) := by
        rw [keepTell, if_pos ⟨hyo, by omega, by omega⟩, told_whole]
        · rfl
        · rintro ⟨e, -⟩
          rw [ej, hyp] at e; cases e
      rw [et] at kt
      refine fp (y_lend (B1 ++ (B2 ++ ((B30 ++ B31) ++ B4))) kt (by rfl) ?_)
      rintro _ A8 ⟨cs8, rfl, q8⟩
      have q80 := q8
      obtain ⟨c8, l8, rfl, w8, w8'⟩ := wordX q8
      repeat first | refine R1 ?_ | refine R2 fun _ => ?_ | refine fp (Rq ?_ (z_indexGI (by rfl) (by rfl) (by assumption) (by omega) (by omega)))
      refine sf_if (fun e1 => ?_) fun e1 => ?_
      · exact absurd rfl e1
      repeat first | refine R1 ?_ | refine R2 fun _ => ?_
      exact ⟨⟨by omega, by omega⟩, rfl, rfl, _, inferInstance⟩
    · refine sf_exit ?_
      have hw1 : keepHear k ⟨1, 1, 0, 0, noGrid, noEdit, []⟩ = k := by rw [keepHear, if_pos hok, heard_no (by simp)]
      have hw2 : keepHear k ⟨4, 0, 9, 0, noGrid, noEdit, []⟩ = k := by rw [keepHear, if_pos hok, heard_no (by simp; omega)]
      have kh1 := keepHear_f (M := M) h2 _ k b2 (by omega) _ ⟨1, 1, 0, 0, noGrid, noEdit, []⟩ (wordB_mk (w := ⟨1, 1, 0, 0, noGrid, noEdit, []⟩) (Sl.nil _ _) (Sl.nil _ _)) (by simp)
      have kh2 := keepHear_f (M := M) h2 _ k b2 (by omega) _ ⟨4, 0, 9, 0, noGrid, noEdit, []⟩ (wordB_mk (w := ⟨4, 0, 9, 0, noGrid, noEdit, []⟩) (Sl.nil _ _) (Sl.nil _ _)) (by simp)
      rw [hw1] at kh1
      rw [hw2] at kh2
      repeat first | refine R1 ?_ | refine R2 fun _ => ?_
      refine Sd [[],[],[0,1],[],[0,1,2,3],[0,1,2,3,4],[0,1,2,3,4,5],[0,1,2,3,4,5],[0,1,2,3,4,5,6,7],[0,1,2,3,4,5],[0,1,2,3,4,5,6,7,8,9],[0,1,2,3,4,5,6,7,8,9,10],[0,1,2,3,4,5,6,7,8,9,10,11]] 10 [Nn 0,Nn 1,Nn 3,Yy 2,Yy 4,Nn 5,Nn 6,Nn 7,Nn 9,Yy 8] ?_
      refine Da ?_
      refine Yc kh1 ?_
      rintro _ AT ⟨csT, rfl, qT⟩
      have qT0 := qT
      obtain ⟨cT, eT, pT, shT, rfl, wT1, wT2, wT3, wT4⟩ := keeperX qT
      refine Da ?_
      refine Yc (lendF AT fun h' l' i => llKeeper_s h' _ _ _ ((keeperR τ).lent qT0 i) ((keeperR τ).up l' b2)) ?_
      rintro _ _ ⟨_, rfl, rfl, rfl⟩
      refine Da ?_
      refine Yc kh2 ?_
      rintro _ AU ⟨csU, rfl, qU⟩
      have qU0 := qU
      obtain ⟨cU, eU, pU, shU, rfl, wU1, wU2, wU3, wU4⟩ := keeperX qU
      refine Da ?_
      refine Ae ?_
      refine fp (y_lendV AU (fun h' l' i => llKeeper_s h' _ _ _ ((keeperR τ).lent qU0 i) ((keeperR τ).up l' b2)) (by rfl) ?_)
      repeat first | refine R1 ?_ | refine R2 fun _ => ?_
      exact sf_ret (rO [] rfl)
end Go.Proofs.YtcpkcmgjfcbnpaaGreatDoor
namespace Go.Proofs.YtcpkcmgjfcbnpaaGreatDoor
open Go Go.Sl Go.Conc Go.ChangeShapes Go.WideShapes Go.ChangeAt Go.RowKit PHeap
set_option maxRecDepth 100000 in
theorem fnKeepWant_lifted (os : Os) (started : os.Started) (H : Type) (enc : TypeId × Value → H) :
    ReturnsInLeavingWide Rows.fnKeepWantRow.assume Tryz.checked os 9 .any (fun w args => (Rows.fnKeepWantSpec.pre enc Tryz.prog Tryz.f9 Rows.fnKeepWantRow.domain false w args ∧ laidMetH Tryz.prog Rows.fnKeepWantRow.laid w) ∧ sizedMet enc Tryz.prog Tryz.f9 (OpenSpec.ofChange Rows.fnKeepWantSpec) false w args)
      (Rows.fnKeepWantSpec.post enc Tryz.prog Tryz.f9 false true false false) := by
  refine leavingWide_of_runs (C := Tryz.checked) (X := fun w _ => laidMetH Tryz.prog Rows.fnKeepWantRow.laid w) (fun _ _ _ hh h => h.of_heap hh) k_own started Tryz.func9
    (ChangeSpec.witness_at (enc := enc) (C := Tryz.checked) (os := os) (X := fun w _ => laidMetH Tryz.prog Rows.fnKeepWantRow.laid w) false (laidWorld os) #[.slice none 0 0] 16 rfl (by kernel_rfl) (by kernel_rfl) (by kernel_rfl) (by kernel_rfl) (by kernel_rfl) (laidWorld_met os _)) ?_
  intro W base args ds gs before hval0 hW hsz0 hop hlaid
  haveI := errAt hop hlaid
  have hval : ∀ (j : Nat) t v, Tryz.f9.params[j]? = some t → args[j]? = some v → Value.okWide Tryz.prog W .any base t v := hval0
  have hW' := hW
  obtain ⟨p, q, hA0, hV, rfl, hfz, hnd⟩ := hW
  have hA : DataW.TrodAll enc Tryz.prog W 0 (fun _ => true) true Tryz.f9.params.toList args.toList ds p := hA0
  have hpar : Tryz.f9.params = #[22] := rfl
  have hlt := hW'.lt
  rw [hpar] at hA hval hsz0
  obtain ⟨v0, d0, rfl, rfl, h0⟩ := trodAll_one hA
  obtain ⟨rfl, rfl⟩ := trodVars_none hV
  have hv0 := hval 0 22 v0 rfl rfl
  have hsz1 : ∀ m ∈ d0.weights Tryz.prog 22, m ≤ reachBytes := fun m hm => by
    have := List.all_eq_true.1 hsz0 m (DataW.weights_mem_each (j := 0) (t := 22) (d := d0) rfl rfl m hm)
    simpa using this
  have hone0 : v0.cells.toList = [v0] := by
    simp only [Value.okWide, (Ty.und (P := Tryz.prog) (t := 22))] at hv0
    cases v0 with
    | agg cs => exact absurd hv0 (by simp [Cell.okWide, Cell.ok, (Ty.und (P := Tryz.prog) (t := 22))])
    | _ => rfl
  have s0 := h0
  obtain ⟨fuel0, h0⟩ := h0
  rw [hone0] at h0
  obtain ⟨u0, x0, e0, b0⟩ := opens_slF (P := Tryz.prog) (W := W) (t := 22) (e := 5) (E := u8F) rfl (by decide) (by decide) h0 hsz1
  obtain rfl : u0 = v0 := (List.cons.inj e0).1.symm
  simp only [List.append_nil, List.nil_append] at hW' hlt
  refine ⟨fun v => v = .bool true, ends_of_body (P := Tryz.prog) (W := W) (R := fun v => v = .bool true) (f := 9) (fn := Tryz.f9) (vs := [u0]) (h := allOf W) rfl (sat_allOf W) (fun _ => rfl) (by kernel_rfl) Tryz.func9 (by kernel_rfl)
    (keepWant_law (M := (· = Lone Tryz.prog W (fun v => v = .bool true))) (allOf W) u0 x0 b0), fun v W' hR hk => ?_⟩
  subst hR
  refine post_of_kept (pa := p) (pv := []) hW' (fun _ _ _ => trodAll_mk1 (shut_bool (P := Tryz.prog) (Ty.und (t := 4)) true)) (fun sp hs => ?_) (fun _ _ => rfl) (by simp) hk (ok_one rfl rfl (okWide_bool_mk (P := Tryz.prog) (Ty.und (t := 4)) true))
  have key := trodAll_mk1 (WideElems.Trod_stays k_laidOut (by kernel_rfl) (of_decide_eq_true (by kernel_rfl)) s0 (fun x hx => same_kept hk (hlt x (by simp [hx]))) (fun x hx => hs x (by simp [hx])))
  skip
  exact key
theorem fnKeepWant_inPlace : (Rows.fnKeepWantRow.inPlace == Tryz.prog.inPlace 9) = true := by kernel_rfl
theorem fnKeepWant_unfollowed : (Rows.fnKeepWantRow.unfollowed == Tryz.prog.unfollowed 9) = true := by kernel_rfl
theorem fnKeepWant_recurses : (Rows.fnKeepWantRow.recurses == Tryz.prog.recurses 9) = true := by kernel_rfl
theorem fnKeepWant_named : (Rows.fnKeepWantRow.named == Tryz.prog.varsNamed 9) = true := by kernel_rfl
theorem fnKeepWant_loops : (Rows.fnKeepWantRow.loops == (Tryz.f9.params.toList ++ Rows.fnKeepWantSpec.plain.varTypes Tryz.prog).any (Tryz.prog.loopsFrom ·)) = true := by kernel_rfl
theorem fnKeepWant_facts : joinedFacts Tryz.prog 9 Tryz.f9 Rows.fnKeepWantSpec Rows.fnKeepWantRow = true := by
  unfold joinedFacts
  refine and_mk ?_ (by kernel_rfl)
  refine and_mk ?_ (by kernel_rfl)
  refine and_mk ?_ (by kernel_rfl)
  refine and_mk ?_ (by kernel_rfl)
  refine and_mk ?_ k_make
  refine and_mk ?_ k_lifted
  refine and_mk ?_ k_may
  refine and_mk ?_ k_heard
  refine and_mk ?_ (by kernel_rfl)
  refine and_mk ?_ k_plain
  refine and_mk ?_ (by kernel_rfl)
  refine and_mk ?_ (by kernel_rfl)
  refine and_mk ?_ (by kernel_rfl)
  refine and_mk ?_ (by kernel_rfl)
  refine and_mk ?_ (by kernel_rfl)
  refine and_mk ?_ fnKeepWant_loops
  refine and_mk ?_ (by kernel_rfl)
  refine and_mk ?_ (by kernel_rfl)
  refine and_mk ?_ (by kernel_rfl)
  refine and_mk ?_ fnKeepWant_named
  refine and_mk ?_ fnKeepWant_recurses
  refine and_mk ?_ fnKeepWant_unfollowed
  refine and_mk ?_ fnKeepWant_inPlace
  refine and_mk ?_ k_stopKnobs
  refine and_mk ?_ (by kernel_rfl)
  refine and_mk ?_ k_stops
  refine and_mk ?_ (by kernel_rfl)
  refine and_mk ?_ (by kernel_rfl)
  refine and_mk ?_ (by kernel_rfl)
  refine and_mk ?_ k_mapsRowed
  refine and_mk ?_ k_laidOut
  kernel_rfl
theorem fnKeepWant_row : Rows.FnKeepWantSaid :=
  OpenClaim.holds_of_wide_leaving 9 Tryz.f9 rfl rfl rfl rfl rfl rfl rfl ⟨rfl, rfl, rfl, rfl, rfl⟩ rfl rfl rfl rfl rfl (by kernel_rfl) Tryz.func9 fnKeepWant_facts
    (of_decide_eq_true (by kernel_rfl)) (by unfold Func.isWrapper; rw [if_neg (of_decide_eq_false (by kernel_rfl))]; exact ⟨rfl, rfl⟩)
    (fun os started H enc _ => fnKeepWant_lifted os started H enc)
end Go.Proofs.YtcpkcmgjfcbnpaaGreatDoor

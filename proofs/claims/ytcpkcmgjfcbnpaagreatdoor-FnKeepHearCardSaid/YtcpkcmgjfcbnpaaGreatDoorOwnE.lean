/- Walks of the seat: LD ES KE Wg FkF FkG FkH FkI FkJ FkK KF Z1 Z2 KJ KH KI KL Y7 KG. -/
import Derived.Test.YtcpkcmgjfcbnpaaGreatDoorOwnD
import Derived.Test.YtcpkcmgjfcbnpaaGreatDoorOwnA
import Derived.Test.YtcpkcmgjfcbnpaaGreatDoorOwnC
import Derived.Test.YtcpkcmgjfcbnpaaGreatDoorLibD
import Derived.Test.YtcpkcmgjfcbnpaaGreatDoorProg
import Derived.Conc.WgLib
import Derived.KernelRfl
import Derived.Test.YtcpkcmgjfcbnpaaGreatDoorSlK
import Derived.Test.YtcpkcmgjfcbnpaaGreatDoorLibA
import Derived.Test.YtcpkcmgjfcbnpaaGreatDoorSlGo
import Derived.Test.YtcpkcmgjfcbnpaaGreatDoorSlSw
import Derived.Test.YtcpkcmgjfcbnpaaGreatDoorSlEd
import Derived.Test.YtcpkcmgjfcbnpaaGreatDoorSmL
import Derived.Test.YtcpkcmgjfcbnpaaGreatDoorLibI
import Derived.Test.YtcpkcmgjfcbnpaaGreatDoorLibC
import Derived.Test.YtcpkcmgjfcbnpaaGreatDoorLibF
import Derived.Test.YtcpkcmgjfcbnpaaGreatDoorLibE
set_option linter.unusedVariables false
set_option linter.unusedSimpArgs false
set_option linter.unusedSectionVars false
namespace Go.Proofs.YtcpkcmgjfcbnpaaGreatDoor
open Go Go.Sl
set_option maxRecDepth 100000
set_option maxHeartbeats 4000000
attribute [local irreducible] Go.Code.sf sfOps Opq opo retF Do1 anyO
variable {M : Jdg → Prop} [IsCl Tryz.prog M]
theorem trailOf_f (h : PHeap) (c : Value) (g : Grid) (s : Sl h c cellF g.cells) (e : gridOk g = true) (k : Int) (hk : 0 ≤ k ∧ k < manyOf g) : CallF Tryz.prog M 73 [.agg #[.int .i64 g.wide, c], .int .i64 k] [] h fun v A => ∃ vv ev AV AE, v = .agg #[vv, ev] ∧ A = AV ++ AE ∧ Gr AV vv 155 visitF (goLight g k).1 ∧ Gr AE ev 117 endF (goLight g k).2 := by
  have o1 := s.one
  have kg := gok e
  have hm := kg.small
  obtain ⟨sz, v, es, hc, hg, hsz, hok⟩ := goLight_is kg hk.1 hk.2
  rw [hg]
  have er : sightRayV g k = .tuple #[.agg #[.int .i64 (rayAt g k).at', .int .i64 (rayAt g k).dir], .bool true] := by
    rw [sightRayV, sightMany, if_pos e, if_pos hk]
  obtain ⟨⟨ra0, ra1⟩, rd0, rd1⟩ := rayAt_ok kg hk.1 hk.2
  refine Cs Tryz.func73 Tryz.ntmps73 ?_
  repeat first | refine R1 ?_ | refine R2 fun _ => ?_
  refine Xv (sightRay_v h _ g (gridB_mk s) k) ?_
  rw [er]
  repeat first | refine R1 ?_ | refine R2 fun _ => ?_
  refine sf_cond (by rfl) (fun e => by cases e) fun z1 => ?_
  clear z1
  repeat first | refine R1 ?_ | refine R2 fun _ => ?_
  refine Xb fun w Aw gw => ?_
  repeat first | refine R1 ?_ | refine R2 fun _ => ?_
  rename_i b2 b4 b5 b6
  have t0 : Todo g [(⟨(rayAt g k).at', (rayAt g k).dir, 64, -1⟩ : Beam)] (sz + 0) (v ++ []) (es ++ []) := .cons (.inr (.inr ⟨by simp, by simp, ⟨ra0, ra1⟩, ⟨rd0, rd1⟩, 6600, hc⟩)) (by simp) hok.n1 .nil
  have hlv := hok.lv
  have hle := hok.le
  simp only at hlv hle
  refine sf_lp (ι := Nat × Value) [2, 4, 5] (fun x => [(8, x.2)]) (fun x O => ∃ vv ev AS AV AE, O = (b5, .cells #[vv, ev] 114) :: (AS ++ (AV ++ (AE ++ [(b6, .cells #[.int .i64 (rayAt g k).at', .int .i64 (rayAt g k).dir] 151), (b4, .cells #[.slice none 0 0, .slice none 0 0] 114), (b2, .cells #[.int .i64 g.wide, c] 25)]))) ∧ ∃ st V E v' e', Gr AS x.2 157 beamF st ∧ Gr AV vv 155 visitF V ∧ Gr AE ev 117 endF E ∧ Todo g st.reverse x.1 v' e' ∧ v = V ++ v' ∧ es = E ++ e' ∧ x.1 ≤ 26000) (fun x => x.1) (sz, w) ((b5, .cells #[.slice none 0 0, .slice none 0 0] 114) :: (Aw ++ ([] ++ ([] ++ [(b6, .cells #[.int .i64 (rayAt g k).at', .int .i64 (rayAt g k).dir] 151), (b4, .cells #[.slice none 0 0, .slice none 0 0] 114), (b2, .cells #[.int .i64 g.wide, c] 25)])))) ⟨_, _, Aw, [], [], rfl, _, [], [], v, es, gw, Gr.nil _ _, Gr.nil _ _, by simpa using t0, rfl, rfl, hsz⟩ ?_
  rintro ⟨m, sv⟩ O ⟨vv, ev, AS, AV, AE, rfl, st, V, E, v', e', gs, gv, ge, td, hv, he, hm26⟩
  simp only at gs td hm26 ⊢
  have lvv : V.length ≤ 26000 := by have := congrArg List.length hv; simp only [List.length_append] at this; omega
  have lee : E.length ≤ 52000 := by have := congrArg List.length he; simp only [List.length_append] at this; omega
  have os := gs.one
  have ovv := gv.one
  have oev := ge.one
  have lst := td.len
  rw [List.length_reverse] at lst
  repeat first | refine R1 ?_ | refine R2 fun _ => ?_
  refine sf_if (fun e1 => ?_) fun e1 => ?_
  · obtain ⟨s', b, rfl⟩ := snoc_of (xs := st) (by omega)
    have hlen : (s' ++ [b]).length = s'.length + 1 := by simp
    haveI : FlatV beamF (gt (s' ++ [b]) s'.length) [.int .i64 b.at', .int .i64 b.dir, .int .i64 b.weight, .int .i64 b.out] := ⟨by rw [gt_snoc]; rfl⟩
    obtain ⟨bb, cap, rfl, hcap, cut⟩ := gs.cut (by omega)
    have gs2 := cut s'.length (by omega)
    rw [List.take_left'  rfl] at gs2
    rw [List.reverse_append, List.reverse_singleton, List.singleton_append] at td
    cases td with
    | @cons _ _ n m v1 v2 ea eb hb hbw hn t =>
    clear cut
    have hl1 : (((s' ++ [b]).length : Nat) : Int) - 1 = ((s'.length : Nat) : Int) := by omega
    repeat first | refine R1 ?_ | refine R2 fun _ => ?_
    rw [hl1]
    repeat first | refine R1 ?_ | refine R2 fun _ => ?_
    rw [hl1]
    refine fp (Rq ?_ (q_sliceHi (l := s'.length) (by infer_instance) (by infer_instance) (by rfl) (by rfl) (by omega)))
    repeat first | refine R1 ?_ | refine R2 fun _ => ?_
    rename_i b9 b10
    refine sf_if (fun e2 => ?_) fun e2 => ?_
    · have hz : (n, v1, ea) = (1, [], []) := by
        rcases hb with ⟨_, q⟩ | ⟨q, _⟩ | ⟨q, _⟩
        · exact q
        · exact absurd e2 q
        · exact absurd e2 q
      simp only [Prod.mk.injEq] at hz
      obtain ⟨rfl, rfl, rfl⟩ := hz
      refine sf_exit ?_
      exact ⟨(m, .slice (some ⟨bb, 0, none⟩) s'.length cap), by simp only; omega, ⟨rfl, trivial⟩, rfl, (b5, .cells #[vv, ev] 114) :: (AS ++ (AV ++ (AE ++ [(b6, .cells #[.int .i64 (rayAt g k).at', .int .i64 (rayAt g k).dir] 151), (b4, .cells #[.slice none 0 0, .slice none 0 0] 114), (b2, .cells #[.int .i64 g.wide, c] 25)]))), _, inferInstance, vv, ev, AS, AV, AE, rfl, s', V, E, v2, eb, gs2, gv, ge, t, hv, he, by simp only; omega⟩
    repeat first | refine R1 ?_ | refine R2 fun _ => ?_
    refine sf_if (fun e3 => ?_) fun e3 => ?_
    · have hz : (n, v1, ea) = (1, [], [⟨0, b.out, b.weight⟩]) := by
        rcases hb with ⟨q, _⟩ | ⟨_, _, q⟩ | ⟨_, q, _⟩
        · exact absurd q e2
        · exact q
        · omega
      simp only [Prod.mk.injEq] at hz
      obtain ⟨rfl, rfl, rfl⟩ := hz
      repeat first | refine R1 ?_ | refine R2 fun _ => ?_
      refine fp (y_call (endOf_f h b5 vv ev ovv AE E ge (by omega) 0 b.out b.weight) (by rfl) ?_)
      rintro _ _ ⟨ev2, AE2, rfl, ge2⟩
      rw [endIf, if_pos (by omega)] at ge2
      repeat first | refine R1 ?_ | refine R2 fun _ => ?_
      refine sf_exit ?_
      exact ⟨(m, .slice (some ⟨bb, 0, none⟩) s'.length cap), by simp only; omega, ⟨rfl, trivial⟩, rfl, (b5, .cells #[vv, ev2] 114) :: (AS ++ (AV ++ (AE2 ++ [(b6, .cells #[.int .i64 (rayAt g k).at', .int .i64 (rayAt g k).dir] 151), (b4, .cells #[.slice none 0 0, .slice none 0 0] 114), (b2, .cells #[.int .i64 g.wide, c] 25)]))), _, inferInstance, vv, ev2, AS, AV, AE2, rfl, s', V, _, v2, eb, gs2, gv, ge2, t, hv, by rw [he]; simp, by simp only; omega⟩
    obtain ⟨ha, hd', nn, hcm⟩ : (0 ≤ b.at' ∧ b.at' < g.cells.length) ∧ (0 ≤ b.dir ∧ b.dir ≤ 3) ∧ ∃ n', comeF g n' b.at' b.dir b.weight = some (n, v1, ea) := by
      rcases hb with ⟨q, _⟩ | ⟨_, q, _⟩ | ⟨_, _, q⟩
      · exact absurd q e2
      · omega
      · exact q
    have ha' : 0 ≤ b.at' ∧ b.at' < 1000 := by omega
    obtain ⟨n', v1', e1'', hr, td2⟩ := todo_two kg ha.1 ha.2 hd'.1 hd'.2 (by omega) hbw.2 hcm t
    simp only [Prod.mk.injEq] at hr
    obtain ⟨rfl, rfl, rfl⟩ := hr
    have ls' : s'.length ≤ 26000 := by omega
    clear lst hn
    have hkd := kg.kind ha.1 ha.2
    clear hb hcm t hc
    repeat first | refine R1 ?_ | refine R2 fun _ => ?_
    refine Xb fun u Au gu => ?_
    repeat first | refine R1 ?_ | refine R2 fun _ => ?_
    refine Xa gv gu fun vv2 AV2 gv2 => ?_
    have ov2 := gv2.one
    repeat first | refine R1 ?_ | refine R2 fun _ => ?_
    have csp := spreadOf_v (M := M) h (gt g.cells b.at'.toNat).kind b.weight ⟨hkd.1, hkd.2.1⟩ hbw
    unfold spreadV at csp
    refine Xv (csp) ?_
    repeat first | refine R1 ?_ | refine R2 fun _ => ?_
    refine sf_if (fun e7 => ?_) fun e7 => ?_
    · repeat first | refine R1 ?_ | refine R2 fun _ => ?_
      refine fp (y_call (endOf_f h b5 vv2 ev ov2 AE E ge (by omega) 2 b.at' (spread (gt g.cells b.at'.toNat).kind b.weight).stop) (by rfl) ?_)
      rintro _ _ ⟨ev2, AE2, rfl, ge2⟩
      have oe2 := ge2.one
      repeat first | refine R1 ?_ | refine R2 fun _ => ?_
      refine fp (y_call (endOf_f h b5 vv2 ev2 ov2 AE2 _ ge2 (by simp only [List.length_append]; have := endIf_len 2 b.at' (spread (gt g.cells b.at'.toNat).kind b.weight).stop; omega) 3 b.at' (spread (gt g.cells b.at'.toNat).kind b.weight).lost) (by rfl) ?_)
      rintro _ _ ⟨ev3, AE3, rfl, ge3⟩
      have oe3 := ge3.one
      have hH : hereF g b.at' b.weight = endIf 2 b.at' (spread (gt g.cells b.at'.toNat).kind b.weight).stop ++ endIf 3 b.at' (spread (gt g.cells b.at'.toNat).kind b.weight).lost := by
        unfold hereF; simp [e7]
      repeat first | refine R1 ?_ | refine R2 fun _ => ?_
      refine Sd [[],[],[],[2],[],[4],[],[6],[4,5,6,7],[],[9],[1,2,3,4,5,6,7,8,9,10],[],[],[13],[],[15],[],[17],[1,2,3,4,5,6,7,8,9,10,11,12,13,14,15,16,17,18],[1,2,3,4,5,6,7,8,9,10,11,12,13,14,15,16,17,18,19],[0,1,2,3,4,5,6,7,8,9,10,11,12,13,14,15,16,17,18,19,20],[0,1,2,3,4,5,6,7,8,9,10,11,12,13,14,15,16,17,18,19,20,21]] 21 [Nn 0,Nn 1,Nn 2,Nn 3,Nn 4,Nn 5,Nn 6,Nn 7,Nn 9,Nn 10,Nn 12,Nn 13,Nn 14,Nn 15,Nn 16,Nn 17,Nn 18,Yy 8,Yy 11,Yy 19,Yy 20] ?_
      refine Da ?_
      refine Yv (dirTurn_v h (gt g.cells b.at'.toNat).kind b.dir hd') ?_
      refine Da ?_
      refine Yv (beamFrom_v h c g s e b.at' (dirTurn (gt g.cells b.at'.toNat).kind b.dir) (spread (gt g.cells b.at'.toNat).kind b.weight).turn ha' (dirTurn_ok hd'.1 hd'.2)) ?_
      refine Da ?_
      refine Yv (beamFrom_v h c g s e b.at' b.dir (spread (gt g.cells b.at'.toNat).kind b.weight).pass ha' hd') ?_
      refine Da ?_
      refine Yb fun w3 Aw3 gw3 => ?_
      refine Da ?_
      refine Ae ?_
      refine Xa gs2 gw3 fun sv4 AS4 gs4 => ?_
      have os4 := gs4.one
      repeat first | refine R1 ?_ | refine R2 fun _ => ?_
      exact ⟨(n' + m, sv4), by simp only; omega, ⟨rfl, trivial⟩, rfl, (b5, .cells #[vv2, ev3] 114) :: (AS4 ++ (AV2 ++ (AE3 ++ [(b6, .cells #[.int .i64 (rayAt g k).at', .int .i64 (rayAt g k).dir] 151), (b4, .cells #[.slice none 0 0, .slice none 0 0] 114), (b2, .cells #[.int .i64 g.wide, c] 25)]))), _, inferInstance, vv2, ev3, AS4, AV2, AE3, rfl, _, _, _, v1' ++ v2, e1'' ++ eb, gs4, gv2, ge3, by simpa using td2, by rw [hv]; simp, by rw [he, hH]; simp, by simp only; omega⟩
    · repeat first | refine R1 ?_ | refine R2 fun _ => ?_
      refine fp (y_call (endOf_f h b5 vv2 ev ov2 AE E ge (by omega) 1 b.at' (spread (gt g.cells b.at'.toNat).kind b.weight).stop) (by rfl) ?_)
      rintro _ _ ⟨ev2, AE2, rfl, ge2⟩
      have oe2 := ge2.one
      repeat first | refine R1 ?_ | refine R2 fun _ => ?_
      refine fp (y_call (endOf_f h b5 vv2 ev2 ov2 AE2 _ ge2 (by simp only [List.length_append]; have := endIf_len 1 b.at' (spread (gt g.cells b.at'.toNat).kind b.weight).stop; omega) 3 b.at' (spread (gt g.cells b.at'.toNat).kind b.weight).lost) (by rfl) ?_)
      rintro _ _ ⟨ev3, AE3, rfl, ge3⟩
      have oe3 := ge3.one
      have hH : hereF g b.at' b.weight = endIf 1 b.at' (spread (gt g.cells b.at'.toNat).kind b.weight).stop ++ endIf 3 b.at' (spread (gt g.cells b.at'.toNat).kind b.weight).lost := by
        unfold hereF; simp [e7]
      repeat first | refine R1 ?_ | refine R2 fun _ => ?_
      refine Sd [[],[],[],[2],[],[4],[],[6],[4,5,6,7],[],[9],[1,2,3,4,5,6,7,8,9,10],[],[],[13],[],[15],[],[17],[1,2,3,4,5,6,7,8,9,10,11,12,13,14,15,16,17,18],[1,2,3,4,5,6,7,8,9,10,11,12,13,14,15,16,17,18,19],[0,1,2,3,4,5,6,7,8,9,10,11,12,13,14,15,16,17,18,19,20],[0,1,2,3,4,5,6,7,8,9,10,11,12,13,14,15,16,17,18,19,20,21]] 21 [Nn 0,Nn 1,Nn 2,Nn 3,Nn 4,Nn 5,Nn 6,Nn 7,Nn 9,Nn 10,Nn 12,Nn 13,Nn 14,Nn 15,Nn 16,Nn 17,Nn 18,Yy 8,Yy 11,Yy 19,Yy 20] ?_
      refine Da ?_
      refine Yv (dirTurn_v h (gt g.cells b.at'.toNat).kind b.dir hd') ?_
      refine Da ?_
      refine Yv (beamFrom_v h c g s e b.at' (dirTurn (gt g.cells b.at'.toNat).kind b.dir) (spread (gt g.cells b.at'.toNat).kind b.weight).turn ha' (dirTurn_ok hd'.1 hd'.2)) ?_
      refine Da ?_
      refine Yv (beamFrom_v h c g s e b.at' b.dir (spread (gt g.cells b.at'.toNat).kind b.weight).pass ha' hd') ?_
      refine Da ?_
      refine Yb fun w3 Aw3 gw3 => ?_
      refine Da ?_
      refine Ae ?_
      refine Xa gs2 gw3 fun sv4 AS4 gs4 => ?_
      have os4 := gs4.one
      repeat first | refine R1 ?_ | refine R2 fun _ => ?_
      exact ⟨(n' + m, sv4), by simp only; omega, ⟨rfl, trivial⟩, rfl, (b5, .cells #[vv2, ev3] 114) :: (AS4 ++ (AV2 ++ (AE3 ++ [(b6, .cells #[.int .i64 (rayAt g k).at', .int .i64 (rayAt g k).dir] 151), (b4, .cells #[.slice none 0 0, .slice none 0 0] 114), (b2, .cells #[.int .i64 g.wide, c] 25)]))), _, inferInstance, vv2, ev3, AS4, AV2, AE3, rfl, _, _, _, v1' ++ v2, e1'' ++ eb, gs4, gv2, ge3, by simpa using td2, by rw [hv]; simp, by rw [he, hH]; simp, by simp only; omega⟩
  · refine sf_exit ?_
    obtain rfl : st = [] := List.eq_nil_of_length_eq_zero (by omega)
    cases td
    repeat first | refine R1 ?_ | refine R2 fun _ => ?_
    exact sf_ret (rO (AV ++ AE) ⟨vv, ev, AV, AE, rfl, rfl, by rw [hv, List.append_nil]; exact gv, by rw [he, List.append_nil]; exact ge⟩)
theorem trailLight_v (h : PHeap) (c : Value) (g : Grid) (s : Sl h c cellF g.cells) (e : gridOk g = true) (k : Int) (hk : 0 ≤ k ∧ k < manyOf g) : CallV Tryz.prog M 35 [.agg #[.int .i64 g.wide, c], .int .i64 k] h (.int .i64 (trailLight g k)) := by
  have o1 := s.one
  have kg := gok e
  obtain ⟨sz, v, es, hc, hg, hsz, hok⟩ := goLight_is kg hk.1 hk.2
  have hle := hok.le
  have hes : ∀ e ∈ es, EndOk g 64 e := hok.es
  simp only at hle
  refine Cs Tryz.func35 Tryz.ntmps35 ?_
  repeat first | refine R1 ?_ | refine R2 fun _ => ?_
  refine fp (y_call (trailOf_f h c g s e k hk) (by rfl) ?_)
  rintro _ _ ⟨vv, ev, AV, AE, rfl, rfl, gv, ge⟩
  rw [hg] at gv ge
  have ov := gv.one
  have oe := ge.one
  simp only at ge gv
  have hg' := hg
  clear hc hg
  repeat first | refine R1 ?_ | refine R2 fun _ => ?_
  rename_i b2
  refine sf_lp (ι := Nat) [2, 11, 12] (fun k => [(5, .int .i64 (sumF (endLight g) (es.take k))), (13, .int .i64 (k : Int))]) (fun k O => k ≤ es.length ∧ O = AV ++ (AE ++ [(b2, .cells #[.int .i64 g.wide, c] 25)])) (fun k => es.length - k) 0 (AV ++ (AE ++ [(b2, .cells #[.int .i64 g.wide, c] 25)])) ⟨by omega, rfl⟩ ?_
  rintro j O ⟨hj, rfl⟩
  have hsum := lightOf_bd kg hes j (by omega)
  repeat first | refine R1 ?_ | refine R2 fun _ => ?_
  refine sf_if (fun e1 => ?_) fun e1 => ?_
  · have hj1 : j < es.length := by omega
    have ek := hes (gt es j) (by rw [gt_eq hj1]; exact List.getElem_mem _)
    have hst := sumF_step (f := endLight g) hj1
    have hbd := endLight_bd kg ek
    repeat first | refine R1 ?_ | refine R2 fun _ => ?_
    refine sf_if (fun e2 => ?_) fun e2 => ?_
    · have hcl := ek.cell (by omega)
      rw [endLight, if_pos e2] at hst hbd
      repeat first | refine R1 ?_ | refine R2 fun _ => ?_
      refine Sd [[],[],[1],[],[3],[],[5],[3,4,5,6],[3,4,5,6,7],[3,4,5,6,7,8],[1,2,3,4,5,6,7,8,9],[0,1,2,3,4,5,6,7,8,9,10],[0,1,2,3,4,5,6,7,8,9,10,11]] 11 [Nn 0,Nn 1,Nn 2,Nn 3,Nn 4,Nn 5,Nn 6,Nn 7,Nn 8,Nn 9,Nn 10] ?_
      refine Da ?_
      refine Ae ?_
      repeat first | refine R1 ?_ | refine R2 fun _ => ?_
      exact ⟨j + 1, by omega, ⟨by rw [hst]; rfl, rfl, trivial⟩, rfl, _, _, inferInstance, by omega, rfl⟩
    · rw [endLight, if_neg e2, Int.add_zero] at hst
      repeat first | refine R1 ?_ | refine R2 fun _ => ?_
      exact ⟨j + 1, by omega, ⟨by rw [hst]; rfl, rfl, trivial⟩, rfl, _, _, inferInstance, by omega, rfl⟩
  · refine sf_exit ?_
    repeat first | refine R1 ?_ | refine R2 fun _ => ?_
    refine sf_ret (rV ?_)
    rw [trailLight, lightOf, hg', List.take_of_length_le (by omega)]
end Go.Proofs.YtcpkcmgjfcbnpaaGreatDoor
namespace Go.Proofs.YtcpkcmgjfcbnpaaGreatDoor
open Go Go.Sl
set_option maxRecDepth 100000
set_option maxHeartbeats 4000000
attribute [local irreducible] Go.Code.sf sfOps Opq opo retF Do1 anyO
variable {M : Jdg → Prop} [IsCl Tryz.prog M]
open Go.Extern
theorem asErr_f (h : PHeap) (b b2 : Nat) (s s0 : ByteArray) : CallF Tryz.prog M 130 [.iface 131 (.agg #[.string s]), .iface 133 (.pointer (some ⟨b, 0, none⟩)), .agg #[hdl 133, .pointer (some ⟨b2, 0, none⟩), .int .u64 150], rty 131] [(b, .cells #[.string s0] 131), (b2, .cells #[.pointer (some ⟨b, 0, none⟩)] 133)] h fun v A => v = .bool true ∧ A = [] := by
  refine Cs Tryz.func130 Tryz.ntmps130 ?_
  repeat first | refine R1 ?_ | refine R2 fun _ => ?_
  rename_i b3
  refine sf_lp (ι := Unit) [0, 3, 6] (fun _ => []) (fun _ O => O = [(b3, .cells #[hdl 133, .pointer (some ⟨b2, 0, none⟩), .int .u64 150] 182), (b, .cells #[.string s0] 131), (b2, .cells #[.pointer (some ⟨b, 0, none⟩)] 133)]) (fun _ => 0) () [(b3, .cells #[hdl 133, .pointer (some ⟨b2, 0, none⟩), .int .u64 150] 182), (b, .cells #[.string s0] 131), (b2, .cells #[.pointer (some ⟨b, 0, none⟩)] 133)] rfl ?_
  rintro _ O rfl
  repeat first | refine R1 ?_ | refine R2 fun _ => ?_
  refine fp (Rq ?_ (q_ext (by infer_instance) (by rfl) fun K E H x => by rw [show _ = _ from e_typeOf _]; exact x))
  repeat first | refine R1 ?_ | refine R2 fun _ => ?_
  refine fp (Rq ?_ (q_invokeX (by rfl) (by rfl) (m_assign _) (by infer_instance) fun K E H x => by rw [show _ = _ from e_assign]; exact x))
  repeat first | refine R1 ?_ | refine R2 fun _ => ?_
  refine sf_T rfl ?_
  repeat first | refine R1 ?_ | refine R2 fun _ => ?_
  have sp0 : Sp [(b3, Obj.cells #[hdl 133, .pointer (some ⟨b2, 0, none⟩), .int .u64 150] 182), (b, .cells #[.string s0] 131), (b2, .cells #[.pointer (some ⟨b, 0, none⟩)] 133)] [(b2, .cells #[.pointer (some ⟨b, 0, none⟩)] 133)] _ := inferInstance
  refine fp (x_ext (by infer_instance) (by rfl) fun F H r => ?_)
  refine slp_elem (u := 131) (p := ⟨b, 0, none⟩) (w := .agg #[hdl 131, .pointer (some ⟨b, 0, none⟩), .int .u64 409]) inferInstance (by rfl) (p_parts _) (by rw [cell_of (r.own b2 (.cells #[.pointer (some ⟨b, 0, none⟩)] 133) (by simp)).1]; rfl) (fun K E H x => by rw [e_elemOf]; exact x) (fun K E H x => by rw [e_mk]; exact x) ⟨_, r, ?_⟩
  clear r
  repeat first | refine R1 ?_ | refine R2 fun _ => ?_
  refine fp (x_ext (by infer_instance) (by rfl) fun F H r => ?_)
  show (ReflectliteValue.unpack (.iface 131 (.agg #[.string s]))).slp Tryz.prog _ _ H
  rw [e_unpackN]
  intro b4 hb4
  refine ⟨_, r.alloc hb4 _, ?_⟩
  clear r hb4
  repeat first | refine R1 ?_ | refine R2 fun _ => ?_
  refine fp (x_ext (by infer_instance) (by rfl) fun F H r => ?_)
  have r' : Rel F h ([(b4, Obj.cells #[.string s] 131), (b3, Obj.cells #[hdl 133, .pointer (some ⟨b2, 0, none⟩), .int .u64 150] 182)] ++ (b, .cells #[.string s0] 131) :: [(b2, .cells #[.pointer (some ⟨b, 0, none⟩)] 133)]) H := r
  obtain ⟨o1, o2, _⟩ := r'.own b (.cells #[.string s0] 131) (by simp)
  refine slp_set (val := .agg #[.string s]) (p_partsA _) (p_partsN _) (by rfl) (fun K E x => slp_loadVar inferInstance (cs := [.string s]) rfl (fun e => by cases e) (cells_one (by rw [cell_of (r.own b4 (.cells #[.string s] 131) (by simp)).1]; rfl)) x) (fun K E H x => by rw [e_direct]; exact x) inferInstance rfl o1 o2 (by simp [Value.cells]) (by rfl) ⟨_, r'.set _, ?_⟩
  clear r r' o1 o2
  repeat first | refine R1 ?_ | refine R2 fun _ => ?_
  exact sf_ret (rO [] ⟨rfl, rfl⟩)
theorem errorsAs_f (h : PHeap) [BAt h 0 errObj] (b : Nat) (s s0 : ByteArray) : CallF Tryz.prog M 85 [.iface 131 (.agg #[.string s]), .iface 133 (.pointer (some ⟨b, 0, none⟩))] [(b, .cells #[.string s0] 131)] h fun v A => v = .bool true ∧ A = [] := by
  refine Cs Tryz.func85 Tryz.ntmps85 ?_
  repeat first | refine R1 ?_ | refine R2 fun _ => ?_
  refine fp (Rq ?_ (q_eqI (.inr ⟨_, _, rfl, rfl⟩) (by infer_instance) (by rfl)))
  repeat first | refine R1 ?_ | refine R2 fun _ => ?_
  refine sf_N rfl ?_
  repeat first | refine R1 ?_ | refine R2 fun _ => ?_
  refine fp (Rq ?_ (q_eqI (.inr ⟨_, _, rfl, rfl⟩) (by infer_instance) (by rfl)))
  repeat first | refine R1 ?_ | refine R2 fun _ => ?_
  refine sf_N rfl ?_
  repeat first | refine R1 ?_ | refine R2 fun _ => ?_
  refine fp (x_ext (by infer_instance) (by rfl) fun F H r => ?_)
  show (ReflectliteValue.unpack (.iface 133 (.pointer (some ⟨b, 0, none⟩)))).slp Tryz.prog _ _ H
  rw [e_unpackP]
  intro b2 hb2
  refine ⟨_, r.alloc hb2 _, ?_⟩
  clear r hb2
  repeat first | refine R1 ?_ | refine R2 fun _ => ?_
  refine fp (Rq ?_ (q_ext (by infer_instance) (by rfl) fun K E H x => by rw [show _ = _ from e_type _ _]; exact x))
  repeat first | refine R1 ?_ | refine R2 fun _ => ?_
  refine fp (Rq ?_ (q_invokeX (by rfl) (by rfl) (m_kind _) (by infer_instance) fun K E H x => by rw [show _ = _ from e_kindP]; exact x))
  repeat first | refine R1 ?_ | refine R2 fun _ => ?_
  refine fp (x_ext (by infer_instance) (by rfl) fun F H r => ?_)
  refine slp_isNil (u := 131) (p := ⟨b, 0, none⟩) inferInstance (by rfl) (p_parts _) (by rw [cell_of (r.own b2 (.cells #[.pointer (some ⟨b, 0, none⟩)] 133) (by simp)).1]; rfl) ⟨_, r, ?_⟩
  clear r
  repeat first | refine R1 ?_ | refine R2 fun _ => ?_
  refine sf_N rfl ?_
  repeat first | refine R1 ?_ | refine R2 fun _ => ?_
  refine fp (Rq ?_ (q_invokeX (by rfl) (by rfl) (m_elem _) (by infer_instance) fun K E H x => by rw [show _ = _ from e_elem]; exact x))
  repeat first | refine R1 ?_ | refine R2 fun _ => ?_
  refine fp (Rq ?_ (q_invokeX (by rfl) (by rfl) (m_kind _) (by infer_instance) fun K E H x => by rw [show _ = _ from e_kindN]; exact x))
  repeat first | refine R1 ?_ | refine R2 fun _ => ?_
  refine fp (Rq ?_ (q_invokeX (by rfl) (by rfl) (m_impl _) (by infer_instance) fun K E H x => by rw [show _ = _ from e_impl]; exact x))
  repeat first | refine R1 ?_ | refine R2 fun _ => ?_
  refine sf_N rfl ?_
  repeat first | refine R1 ?_ | refine R2 fun _ => ?_
  refine fp (y_call (asErr_f h b b2 s s0) (by rfl) ?_)
  rintro _ _ ⟨rfl, rfl⟩
  repeat first | refine R1 ?_ | refine R2 fun _ => ?_
  exact sf_ret (rO [] ⟨rfl, rfl⟩)
def ErrIs (v : Value) (b : Bool) : Prop := (v = .nilIface ∧ b = false) ∨ ∃ s, v = .iface 131 (.agg #[.string s]) ∧ b = true
theorem ErrIs.one {v : Value} {b : Bool} (e : ErrIs v b) : Sl.One v := by
  rcases e with ⟨rfl, _⟩ | ⟨s, rfl, _⟩ <;> infer_instance
theorem errorsAs_nil' (h : PHeap) (u : TypeId) (z : Value) : CallV Tryz.prog M 85 [.nilIface, .iface u z] h (.bool false) := by
  refine Cs Tryz.func85 Tryz.ntmps85 ?_
  repeat first | refine R1 ?_ | refine R2 fun _ => ?_
  refine fp (Rq ?_ (q_eqI (.inl ⟨rfl, rfl⟩) (by infer_instance) (by rfl)))
  repeat first | refine R1 ?_ | refine R2 fun _ => ?_
  refine sf_T rfl ?_
  repeat first | refine R1 ?_ | refine R2 fun _ => ?_
  exact sf_ret (rV rfl)
theorem refused_v (h : PHeap) [BAt h 0 errObj] (v : Value) (b : Bool) (e : ErrIs v b) : CallV Tryz.prog M 46 [v] h (.bool b) := by
  have o1 := e.one
  refine Cs Tryz.func46 Tryz.ntmps46 ?_
  repeat first | refine R1 ?_ | refine R2 fun _ => ?_
  rename_i b1
  rcases e with ⟨rfl, rfl⟩ | ⟨s, rfl, rfl⟩
  · refine Xv (errorsAs_nil' _ _ _) ?_
    repeat first | refine R1 ?_ | refine R2 fun _ => ?_
    exact sf_ret (rV rfl)
  · refine fp (y_call (errorsAs_f h b1 s ⟨#[]⟩) (by rfl) ?_)
    rintro _ _ ⟨rfl, rfl⟩
    repeat first | refine R1 ?_ | refine R2 fun _ => ?_
    exact sf_ret (rV rfl)
theorem neqErr {n : Nat} {L : Locals} {O : Own} {h : PHeap} {d : Option Nat} {t' ty : TypeId} {pos : String} {af : Array Edge} {g : Option (Nat × Bool)} {x : Operand} {v : Value} {b : Bool} (e : ErrIs v b) (hx : Sl.ev L x = some v) : Opq Tryz.prog n ⟨d, .binOp .neq 90 x (.const .nilIface) t', ty, pos, af, g⟩ L O h (.bool b) := by
  rcases e with ⟨rfl, rfl⟩ | ⟨s, rfl, rfl⟩
  · exact q_neqI (.inl ⟨rfl, rfl⟩) inferInstance hx
  · exact q_neqI (.inr ⟨_, _, rfl, rfl⟩) inferInstance hx
end Go.Proofs.YtcpkcmgjfcbnpaaGreatDoor
namespace Go.Proofs.YtcpkcmgjfcbnpaaGreatDoor
open Go Go.Sl
set_option maxRecDepth 100000
set_option maxHeartbeats 4000000
attribute [local irreducible] Go.Code.sf sfOps Opq opo retF Do1 anyO
variable {M : Jdg → Prop} [IsCl Tryz.prog M]
theorem editOk_v (h : PHeap) (c : Value) (g : Grid) (s : Sl h c cellF g.cells) (e : Edit) : CallV Tryz.prog M 103 [.agg #[.int .i64 g.wide, c], .agg #[.int .i64 e.at', .int .i64 e.cell.kind, .int .i64 e.cell.light]] h (.bool (editOk g e)) := by
  have o1 := s.one
  refine Cs Tryz.func103 Tryz.ntmps103 ?_
  repeat first | refine R1 ?_ | refine R2 fun _ => ?_
  refine Xv (cellOk_v _ e.cell) ?_
  repeat first | refine R1 ?_ | refine R2 fun _ => ?_
  refine f_splitB (fun h1 => ?_) fun h1 => ?_
  · repeat first | refine R1 ?_ | refine R2 fun _ => ?_
    refine f_split (fun h2 => ?_) fun h2 => ?_ <;>
    · repeat first | refine R1 ?_ | refine R2 fun _ => ?_
      refine sf_ret (rV ?_)
      simp [editOk, h1, h2]
  · repeat first | refine R1 ?_ | refine R2 fun _ => ?_
    refine sf_ret (rV ?_)
    simp [editOk, h1]
theorem editsOk_v (h : PHeap) (c : Value) (g : Grid) (s : Sl h c cellF g.cells) (v : Value) (es : List Edit) (s2 : Sl h v editF es) : CallV Tryz.prog M 86 [.agg #[.int .i64 g.wide, c], v] h (.bool (editsOk g es)) := by
  have o1 := s.one
  have o2 := s2.one
  have hs := s2.small
  refine Cs Tryz.func86 Tryz.ntmps86 ?_
  repeat first | refine R1 ?_ | refine R2 fun _ => ?_
  refine sf_rd [2, 7, 8] 9 es.length 0 (fun k => editsOk g (es.take k) = true) (by omega) rfl (fun k hk hi => ?_)
  repeat first | refine R1 ?_ | refine R2 fun _ => ?_
  refine sf_if (fun h4 => ?_) fun h4 => ?_
  · have hk4 : k < es.length := by omega
    repeat first | refine R1 ?_ | refine R2 fun _ => ?_
    refine Xv (editOk_v _ c g s (gt es k)) ?_
    repeat first | refine R1 ?_ | refine R2 fun _ => ?_
    refine sf_cond (by rfl) (fun h5 => ?_) fun h5 => ?_
    · repeat first | refine R1 ?_ | refine R2 fun _ => ?_
      simp only [Bool.not_eq_true'] at h5
      refine sf_ret (rV ?_)
      rw [editsOk, all_false hk4 h5]
    · repeat first | refine R1 ?_ | refine R2 fun _ => ?_
      refine ⟨⟨hk4, ?_⟩, rfl, rfl, _, inferInstance⟩
      rw [editsOk, all_take hk4]
      rw [editsOk] at hi
      rw [hi]; simpa using h5
  · refine sf_exit ?_
    repeat first | refine R1 ?_ | refine R2 fun _ => ?_
    rw [take_ge hk (by omega)] at hi
    exact sf_ret (rV (by rw [hi]))
theorem paintIdOk_v (h : PHeap) (id many : Int) : CallV Tryz.prog M 71 [.int .i64 id, .int .i64 many] h (.bool (decide (1 ≤ many) && decide (many ≤ 3) && decide (1 ≤ id) && decide (id ≤ many))) := by
  refine Cs Tryz.func71 Tryz.ntmps71 ?_
  refine Wo ?_
  refine f_split (fun h1 => ?_) fun h1 => ?_
  · refine Wo ?_
    refine f_split (fun h2 => ?_) fun h2 => ?_
    · refine Wo ?_
      refine f_split (fun h3 => ?_) fun h3 => ?_ <;>
      · refine Wo ?_
        refine sf_ret (rV ?_)
        simp [h1, h2, h3]
    · refine Wo ?_
      refine sf_ret (rV ?_)
      simp [h1, h2]
  · refine Wo ?_
    refine sf_ret (rV ?_)
    simp [h1]
theorem keepVersion_f (h : PHeap) (ca : List Value) (k : Keeper) (b : (keeperR τ).B h ca k) (v : Int) : CallF Tryz.prog M 57 [.agg ca.toArray, .int .i64 v] [] h fun u A => ErrIs u (!verOk k v) ∧ A = [] := by
  obtain ⟨c, e, p, s, rfl, s1, s2, s3, s4⟩ := keeperB b
  have o1 := s1.one
  have o2 := s2.one
  have o3 := s3.one
  have o4 := s4.one
  refine Cs Tryz.func57 Tryz.ntmps57 ?_
  repeat first | refine R1 ?_ | refine R2 fun _ => ?_
  refine f_split (fun h1 => ?_) fun h1 => ?_
  · repeat first | refine R1 ?_ | refine R2 fun _ => ?_
    refine sf_T rfl ?_
    repeat first | refine R1 ?_ | refine R2 fun _ => ?_
    exact sf_ret (rO [] ⟨.inr ⟨_, rfl, by simp [verOk]; omega⟩, rfl⟩)
  · repeat first | refine R1 ?_ | refine R2 fun _ => ?_
    refine sf_if (fun h2 => ?_) fun h2 => ?_
    · repeat first | refine R1 ?_ | refine R2 fun _ => ?_
      exact sf_ret (rO [] ⟨.inr ⟨_, rfl, by simp [verOk]; omega⟩, rfl⟩)
    · repeat first | refine R1 ?_ | refine R2 fun _ => ?_
      exact sf_ret (rO [] ⟨.inl ⟨rfl, by simp [verOk]; omega⟩, rfl⟩)
theorem keepGridOf_f (h : PHeap) (ca : List Value) (k : Keeper) (b : (keeperR τ).B h ca k) (hk : HeadOk k) (v : Int) (hv : verOk k v = true) : CallF Tryz.prog M 58 [.agg ca.toArray, .int .i64 v] [] h fun u A => ∃ cs, u = .agg cs.toArray ∧ (gridR τ).O A cs (gridAt k v) := by
  obtain ⟨c, e, p, s, rfl, s1, s2, s3, s4⟩ := keeperB b
  have o1 := s1.one
  have o2 := s2.one
  have o3 := s3.one
  have o4 := s4.one
  have hsm := (gok hk.grid).small
  have h60 := hk.e60
  simp only [verOk, Bool.and_eq_true, decide_eq_true_eq] at hv
  obtain ⟨n, rfl⟩ : ∃ n : Nat, v = n := ⟨v.toNat, by omega⟩
  obtain ⟨v', sv, op⟩ := s2.upTo (l := n) (by omega)
  have ov := sv.one
  have hln : (k.edits.take n).length = n := by rw [List.length_take]; omega
  have hed := editsOk_take hk.edits n
  have hgd : gridAt k (n : Nat) = gridAfter k.first (k.edits.take n) := rfl
  rw [hgd]
  clear hgd
  refine Cs Tryz.func58 Tryz.ntmps58 ?_
  repeat first | refine R1 ?_ | refine R2 fun _ => ?_
  refine fp (y_call (gridCopy_f _ _ k.first (gridB_mk s1) (by omega)) (by rfl) ?_)
  rintro _ A1 ⟨_, rfl, q⟩
  obtain ⟨c2, rfl, g1, l1⟩ := gridO q
  have o5 := g1.one
  repeat first | refine R1 ?_ | refine R2 fun _ => ?_
  refine fp (Rq ?_ (op (by infer_instance) (by infer_instance) (by rfl) (by rfl)))
  generalize k.edits.take n = es at *
  repeat first | refine R1 ?_ | refine R2 fun _ => ?_
  rename_i b2 b4 b5
  refine sf_lp (ι := Nat) [4, 5, 14, 15] (fun i => [(16, .int .i64 (i : Int))]) (fun i O => i ≤ es.length ∧ ∃ A', O = (b5, .cells #[.int .i64 k.first.wide, c2] 25) :: (A' ++ [(b4, .cells #[.int .i64 0, .slice none 0 0] 25)]) ∧ ∃ cs, cs = (gridAfter k.first (es.take i)).cells ∧ cs.length = k.first.cells.length ∧ Gr A' c2 46 cellF cs) (fun i => es.length - i) 0 ((b5, .cells #[.int .i64 k.first.wide, c2] 25) :: (A1 ++ [(b4, .cells #[.int .i64 0, .slice none 0 0] 25)])) ⟨by omega, _, rfl, _, rfl, rfl, g1⟩ ?_
  rintro i O ⟨hi, A', rfl, cs, ecs, lcs, gr⟩
  have o6 := gr.one
  repeat first | refine R1 ?_ | refine R2 fun _ => ?_
  refine sf_if (fun h4 => ?_) fun h4 => ?_
  · have hi4 : i < es.length := by omega
    obtain ⟨e1, e2, e3⟩ := editOk_is (editsOk_at hed hi4)
    obtain ⟨a, ha⟩ : ∃ a : Nat, (gt es i).at' = a := ⟨(gt es i).at'.toNat, by omega⟩
    repeat first | refine R1 ?_ | refine R2 fun _ => ?_
    simp only [ha]
    repeat first | refine R1 ?_ | refine R2 fun _ => ?_
    refine Xg gr fun A2 cs2 ec lc _ g2 => ?_
    repeat first | refine R1 ?_ | refine R2 fun _ => ?_
    refine ⟨i + 1, by omega, ⟨rfl, trivial⟩, rfl, (b5, .cells #[.int .i64 k.first.wide, c2] 25) :: (A2 ++ [(b4, .cells #[.int .i64 0, .slice none 0 0] 25)]), _, inferInstance, by omega, A2, rfl, cs2, ?_, by omega, g2⟩
    rw [gridAfter_step hi4, putCell, ec, ecs, ha]; rfl
  · refine sf_exit ?_
    repeat first | refine R1 ?_ | refine R2 fun _ => ?_
    rw [take_ge hi (by omega)] at ecs
    refine sf_ret (rO A' ⟨_, rfl, ?_⟩)
    have := gridO_mk (τ := τ) (g := gridAfter k.first es) (c := c2) (A := A') (by rw [← ecs]; exact gr) (by rw [← ecs]; omega)
    rw [(gridAfter_same es k.first).1] at this
    exact this
theorem sightMany_ok {g : Grid} (h : gridOk g = true) : sightMany g = manyOf g := by rw [sightMany, if_pos h]
theorem paintOwn_f (h : PHeap) (ca : List Value) (g : Grid) (b : (gridR τ).B h ca g) (e : gridOk g = true) (id many : Nat) (h1 : 1 ≤ id) (h2 : id ≤ many) (h3 : many ≤ 3) : CallF Tryz.prog M 34 [.agg ca.toArray, .int .i64 (id : Int), .int .i64 (many : Int)] [] h fun u A => Gr A u 3 intF (ownList (manyOf g).toNat many id) := by
  obtain ⟨c, rfl, s⟩ := gridB b
  have o1 := s.one
  have hm := (gok e).many
  obtain ⟨S, hS⟩ : ∃ S : Nat, manyOf g = S := ⟨(manyOf g).toNat, by omega⟩
  rw [hS] at hm ⊢
  simp only [Int.toNat_natCast]
  have hc : ∀ j, j < ownCnt S many id ↔ id - 1 + j * many < S := fun j => ownCnt_lt h1 h2 h3
  refine Cs Tryz.func34 Tryz.ntmps34 ?_
  repeat first | refine R1 ?_ | refine R2 fun _ => ?_
  refine Xv (paintIdOk_v _ _ _) ?_
  rw [show (decide ((1 : Int) ≤ (many : Int)) && decide ((many : Int) ≤ 3) && decide (1 ≤ (id : Int)) && decide ((id : Int) ≤ (many : Int))) = true by simp; omega]
  repeat first | refine R1 ?_ | refine R2 fun _ => ?_
  refine sf_cond (by rfl) (fun e => by cases e) fun z1 => ?_
  clear z1
  repeat first | refine R1 ?_ | refine R2 fun _ => ?_
  rename_i b3
  rw [show (id : Int) - 1 = ((id - 1 + 0 * many : Nat) : Int) by omega]
  refine sf_lp (ι := Nat × Value) [2, 3] (fun x => [(8, .int .i64 ((id - 1 + x.1 * many : Nat) : Int)), (7, x.2)]) (fun x O => x.1 ≤ ownCnt S many id ∧ ∃ A', O = A' ++ [(b3, .cells #[.int .i64 g.wide, c] 25)] ∧ ∃ xs, xs.length = x.1 ∧ xs = ((List.range x.1).map fun j => ((id - 1 + j * many : Nat) : Int)) ∧ Gr A' x.2 3 intF xs) (fun x => ownCnt S many id - x.1) (0, .slice none 0 0) ([] ++ [(b3, .cells #[.int .i64 g.wide, c] 25)]) ⟨by omega, [], rfl, [], rfl, rfl, Gr.nil _ _⟩ ?_
  rintro ⟨j, v⟩ O ⟨hj, A', rfl, xs, lx, ex, gr⟩
  simp only at hj lx ex gr ⊢
  have o2 := gr.one
  repeat first | refine R1 ?_ | refine R2 fun _ => ?_
  refine Xv (sightMany_v _ _ g b) ?_
  rw [sightMany_ok e, hS]
  have hjm : j * many ≤ 20 * 3 ∧ j ≤ 20 := by
    rcases Nat.eq_zero_or_pos j with rfl | hj0
    · omega
    · have := (hc (j - 1)).1 (by omega)
      have h4 : (j - 1) * many ≤ 20 * 3 := by omega
      have h5 : j * many = (j - 1) * many + many := by
        obtain ⟨k, rfl⟩ : ∃ k, j = k + 1 := ⟨j - 1, by omega⟩
        rw [Nat.add_sub_cancel, Nat.add_mul, Nat.one_mul]
      have h6 : j ≤ 20 := by
        have : (j - 1) * 1 ≤ (j - 1) * many := Nat.mul_le_mul_left _ (by omega)
        omega
      exact ⟨Nat.mul_le_mul h6 h3, h6⟩
  repeat first | refine R1 ?_ | refine R2 fun _ => ?_
  refine sf_if (fun h4 => ?_) fun h4 => ?_
  · have hj4 : j < ownCnt S many id := (hc j).2 (by omega)
    repeat first | refine R1 ?_ | refine R2 fun _ => ?_
    refine Xb fun u Au gu => ?_
    repeat first | refine R1 ?_ | refine R2 fun _ => ?_
    refine Xa gr gu fun v2 A2 g2 => ?_
    repeat first | refine R1 ?_ | refine R2 fun _ => ?_
    refine ⟨(j + 1, v2), by simp only; omega, ⟨?_, rfl, trivial⟩, rfl, A2 ++ [(b3, .cells #[.int .i64 g.wide, c] 25)], _, inferInstance, by simp only; omega, A2, rfl, _, by simp; omega, by rw [ownList_step, ex], g2⟩
    rw [show ((id - 1 + (j + 1) * many : Nat) : Int) = ((id - 1 + j * many : Nat) : Int) + (many : Int) by rw [Nat.add_mul, Nat.one_mul]; omega]
    rfl
  · refine sf_exit ?_
    have : j = ownCnt S many id := by
      rcases Nat.lt_or_ge j (ownCnt S many id) with h | h
      · have := (hc j).1 h; omega
      · omega
    repeat first | refine R1 ?_ | refine R2 fun _ => ?_
    refine sf_ret (rO A' ?_)
    rw [ownList, ← this, ← ex]; exact gr
theorem intsEqual_v (h : PHeap) (a b : Value) (xs ys : List Int) (sx : Sl h a intF xs) (sy : Sl h b intF ys) : CallV Tryz.prog M 88 [a, b] h (.bool (decide (xs = ys))) := by
  have o1 := sx.one
  have o2 := sy.one
  have hx := sx.small
  have hy := sy.small
  refine Cs Tryz.func88 Tryz.ntmps88 ?_
  refine Wo ?_
  refine sf_if (fun e0 => ?_) fun e0 => ?_
  · refine Wo ?_
    exact sf_ret (rV (bF fun e => e0 (by rw [e])))
  have hl : xs.length = ys.length := by omega
  refine Wo ?_
  refine sf_rd [0, 1, 12] 13 xs.length 0 (fun k => xs.take k = ys.take k) (by omega) rfl (fun k hk hi => ?_)
  refine Wo ?_
  refine sf_if (fun h4 => ?_) fun h4 => ?_
  · have hk4 : k < xs.length := by omega
    have hk5 : k < ys.length := by omega
    refine Wo ?_
    refine Sd [[],[],[0,1],[0,1,2],[],[],[4,5],[4,5,6],[0,1,2,3,4,5,6,7]] 8 [Nn 0,Nn 1,Nn 2,Nn 3,Nn 4,Nn 5,Nn 6,Nn 7] ?_
    refine Da ?_
    refine Ae ?_
    refine Wo ?_
    refine sf_if (fun e1 => ?_) fun e1 => ?_
    · refine Wo ?_
      exact sf_ret (rV (bF (eq_at e1)))
    · refine Wo ?_
      exact ⟨⟨hk4, eq_step hk4 hk5 hi (by simpa using e1)⟩, rfl, rfl, _, inferInstance⟩
  · refine sf_exit ?_
    refine Wo ?_
    exact sf_ret (rV (bT (eq_end hl (by omega) hi)))
end Go.Proofs.YtcpkcmgjfcbnpaaGreatDoor
namespace Go.Proofs.YtcpkcmgjfcbnpaaGreatDoor
open Go
abbrev wgLink : Go.Conc.Lib.WgLink := { add := 135, done := 137, wait := 138, relMerge := 164, disable := 165, enable := 166, inBubble := 167, associate := 168, fatal := 169, uOr := 170, uAdd := 171, raceRead := 172, uLoad := 173, uStore := 174, disassociate := 175, semrelease := 176, acquire := 177, isAssociated := 178, uCas := 179, raceWrite := 180, semacquire := 181, orU64 := 199, addU64 := 200, loadU64 := 201, storeU64 := 202, casU64 := 203, tWgP := 250, tUP := 179, tAssoc := 252, tWg := 205, tAU := 202, tU64 := 200, tUint := 256, tU32 := 203, tPU32 := 257, tPAU := 281, tPU64 := 283, tNoCopy := 197, tANoCopy := 198, tAlign64 := 199 }
theorem wgLib : Go.Conc.Lib.WgLib Tryz.prog wgLink :=
  ⟨Tryz.func135, Tryz.func137, Tryz.func138, Tryz.func164, Tryz.func165, Tryz.func166, Tryz.func167, Tryz.func168, Tryz.func169, Tryz.func170, Tryz.func171, Tryz.func172, Tryz.func173, Tryz.func174, Tryz.func175, Tryz.func176, Tryz.func177, Tryz.func178, Tryz.func179, Tryz.func180, Tryz.func181, Tryz.func199, Tryz.func200, Tryz.func201, Tryz.func202, Tryz.func203, Tryz.underlying250, Tryz.runUnderlying250, Tryz.sizeOf250, Tryz.isAgg250, Tryz.zeroValue250, Tryz.underlying179, Tryz.runUnderlying179, Tryz.sizeOf179, Tryz.isAgg179, Tryz.zeroValue179, Tryz.underlying252, Tryz.runUnderlying252, Tryz.sizeOf252, Tryz.isAgg252, Tryz.zeroValue252, Tryz.underlying205, Tryz.runUnderlying205, Tryz.sizeOf205, Tryz.isAgg205, Tryz.zeroValue205, Tryz.underlying202, Tryz.runUnderlying202, Tryz.sizeOf202, Tryz.isAgg202, Tryz.zeroValue202, Tryz.underlying200, Tryz.runUnderlying200, Tryz.sizeOf200, Tryz.isAgg200, Tryz.zeroValue200, Tryz.underlying256, Tryz.runUnderlying256, Tryz.sizeOf256, Tryz.isAgg256, Tryz.zeroValue256, Tryz.underlying203, Tryz.runUnderlying203, Tryz.sizeOf203, Tryz.isAgg203, Tryz.zeroValue203, Tryz.underlying257, Tryz.runUnderlying257, Tryz.sizeOf257, Tryz.isAgg257, Tryz.zeroValue257, Tryz.underlying281, Tryz.runUnderlying281, Tryz.sizeOf281, Tryz.isAgg281, Tryz.zeroValue281, Tryz.underlying283, Tryz.runUnderlying283, Tryz.sizeOf283, Tryz.isAgg283, Tryz.zeroValue283, Tryz.underlying0, Tryz.runUnderlying0, Tryz.sizeOf0, Tryz.isAgg0, Tryz.zeroValue0, Tryz.underlying3, Tryz.runUnderlying3, Tryz.sizeOf3, Tryz.isAgg3, Tryz.zeroValue3, Tryz.underlying4, Tryz.runUnderlying4, Tryz.sizeOf4, Tryz.isAgg4, Tryz.zeroValue4, Tryz.underlying9, Tryz.runUnderlying9, Tryz.sizeOf9, Tryz.isAgg9, Tryz.zeroValue9, Tryz.underlying20, Tryz.runUnderlying20, Tryz.sizeOf20, Tryz.isAgg20, Tryz.zeroValue20, Tryz.underlying21, Tryz.runUnderlying21, Tryz.sizeOf21, Tryz.isAgg21, Tryz.zeroValue21, (by kernel_rfl), (by kernel_rfl)⟩
end Go.Proofs.YtcpkcmgjfcbnpaaGreatDoor
namespace Go.Proofs.YtcpkcmgjfcbnpaaGreatDoor
open Go Go.Sl Go.Conc
set_option maxRecDepth 100000
noncomputable def loop52 : Code := match Tryz.f136.body with
  | some (.seq _ (.seq _ (.seq (.seq _ b) _))) => b
  | _ => .skip
abbrev wl (bS bC bO bCh : Nat) (v : Value) (k : Nat) : Locals := [(1, .pointer (some ⟨bS, 0, none⟩)), (2, .pointer (some ⟨bC, 0, none⟩)), (3, .pointer (some ⟨bO, 0, none⟩)), (4, .pointer (some ⟨bCh, 0, none⟩)), (5, v), (6, .int .i64 (k : Int))]
section
variable {M : Jdg → Prop} [IsCl Tryz.prog M]
attribute [local irreducible] Go.Code.so soOps Opq opo retO
theorem worker_loop (B : PHeap) (Wg : Nat) (bS bC bO bCh : Nat) (st : Nat → Nat) (fn : FuncId) (Fun52 : Fun Tryz.prog fn) (first cap : Array Value) (val : Nat → Int) (j : Nat) (hj : j < 4) (s4 : ∀ i, i < 5 → st i ≤ 1048576) (mono : st j ≤ st (j + 1))
    (hS : BAt B bS (.cells #[.int .i64 (st 0), .int .i64 (st 1), .int .i64 (st 2), .int .i64 (st 3), .int .i64 (st 4)] 193 (0, 0)))
    (hC : BAt B bC (.cells #[.int .i64 j] 3 (0, 0))) (hO : BAt B bO (.cells #[.func (.func fn) first cap] 97 (0, 0)))
    (of : ∀ (B' : PHeap), Le B B' → ∀ k, st j ≤ k → k < st (j + 1) → CallsR Tryz.prog M fn (first.toList ++ [.int .i64 (k : Int)] ++ cap.toList) B' fun v _ => v = .int .i64 (val k)) (L : Locals)
    (hL : Locals.sub (wl bS bC bO bCh (.slice none 0 0) (st j)) L) :
    loop52.so Tryz.prog M 28 (fun e L' A h' => e = .nrm ∧ ∃ v, Locals.sub [(2, .pointer (some ⟨bC, 0, none⟩)), (4, .pointer (some ⟨bCh, 0, none⟩)), (5, v)] L' ∧ Gr A v 3 intF ((List.range' (st j) (st (j + 1) - st j)).map val)) L [] B := by
  simp only [loop52, Tryz.f136]
  refine so_block ?_
  refine so_loop (ι := Nat) (A := fun k L O h' => st j ≤ k ∧ k ≤ st (j + 1) ∧ ∃ v, L = wl bS bC bO bCh v k ∧ Gr O v 3 intF ((List.range' (st j) (k - st j)).map val)) (fun k => st (j + 1) - k) (st j) hL ⟨Nat.le_refl _, mono, _, rfl, by simpa using Gr.nil _ _⟩ ?_
  rintro k _ O h' le ⟨k1, k2, v, rfl, gr⟩
  have hk := s4 (j + 1) (by omega)
  obtain rfl | rfl | rfl | rfl : j = 0 ∨ j = 1 ∨ j = 2 ∨ j = 3 := by omega
  · refine so_seq ?_
    refine so_seq ?_
    refine so_reg ?_
    refine so_q (q_move (by rfl)) ?_
    refine so_q (q_loadB (by infer_instance) (by rfl) (by infer_instance) (by rfl) (by rfl)) ?_
    refine Run.go ?_
    refine so_q (q_indexP (by infer_instance) (by infer_instance) (by rfl) (by rfl) (by decide) (by decide)) ?_
    refine so_q (q_loadB (by infer_instance) (by rfl) (by infer_instance) (by rfl) (by rfl)) ?_
    refine Run.go ?_
    refine so_cond rfl (fun h1 => ?_) (fun h1 => ?_)
    · have hlt : k < st 1 := by simpa using h1
      refine Run.go ?_
      refine so_q (q_loadB (by infer_instance) (by rfl) (by infer_instance) (by rfl) (by rfl)) ?_
      refine Run.go ?_
      refine op_callv Fun52 (vs := [.int .i64 (k : Int)]) (by rfl) (of h' le k k1 hlt) (.refl ([] ++ O)) (by rfl) ?_
      rintro u A' h'' le2 ⟨rfl, rfl⟩
      refine Run.go ?_
      refine op_buildSlice (by infer_instance) (by infer_instance) (by rfl) (by rfl) (by rfl) (by rfl) fun b => ?_
      refine Run.go ?_
      refine op_append (ys := [val k]) (R := [(b, .cells [Value.int .i64 (val k)].toArray 3 (0, 0))]) (by rfl) (by rfl) (by infer_instance) (by infer_instance) (by rfl) gr (List.perm_append_singleton _ _).symm rfl (src_own (by infer_instance)) (by simp [intF, allOne]; rfl) (by simp; omega) (by simp; omega) fun v' A' gr' => ?_
      refine so_drop (O' := A') (List.sublist_append_left _ _) ?_
      refine Run.go ?_
      have hw : IntKind.i64.wrap ((k : Int) + 1) = ((k + 1 : Nat) : Int) := by rw [IntKind.wrap_i64]; omega
      have hr : List.range' (st 0) (k + 1 - st 0) = List.range' (st 0) (k - st 0) ++ [k] := by
        rw [show k + 1 - st 0 = (k - st 0) + 1 by omega, List.range'_1_concat, show st 0 + (k - st 0) = k by omega]
      refine ⟨k + 1, wl bS bC bO bCh v' (k + 1), by simp only [Nat.reduceAdd]; omega, ⟨rfl, rfl, rfl, rfl, rfl, ?_, trivial⟩, by omega, by simp only [Nat.reduceAdd]; omega, v', rfl, ?_⟩
      · rw [← hw]; rfl
      · rw [hr, List.map_append]; exact gr'
    · have hge : k = st 1 := by
        have : ¬ (k < st 1) := by simpa using h1
        simp only [Nat.reduceAdd] at k2
        omega
      subst hge
      refine so_exit ?_
      exact ⟨rfl, v, ⟨rfl, rfl, rfl, trivial⟩, gr⟩
  · refine so_seq ?_
    refine so_seq ?_
    refine so_reg ?_
    refine so_q (q_move (by rfl)) ?_
    refine so_q (q_loadB (by infer_instance) (by rfl) (by infer_instance) (by rfl) (by rfl)) ?_
    refine Run.go ?_
    refine so_q (q_indexP (by infer_instance) (by infer_instance) (by rfl) (by rfl) (by decide) (by decide)) ?_
    refine so_q (q_loadB (by infer_instance) (by rfl) (by infer_instance) (by rfl) (by rfl)) ?_
    refine Run.go ?_
    refine so_cond rfl (fun h1 => ?_) (fun h1 => ?_)
    · have hlt : k < st 2 := by simpa using h1
      refine Run.go ?_
      refine so_q (q_loadB (by infer_instance) (by rfl) (by infer_instance) (by rfl) (by rfl)) ?_
      refine Run.go ?_
      refine op_callv Fun52 (vs := [.int .i64 (k : Int)]) (by rfl) (of h' le k k1 hlt) (.refl ([] ++ O)) (by rfl) ?_
      rintro u A' h'' le2 ⟨rfl, rfl⟩
      refine Run.go ?_
      refine op_buildSlice (by infer_instance) (by infer_instance) (by rfl) (by rfl) (by rfl) (by rfl) fun b => ?_
      refine Run.go ?_
      refine op_append (ys := [val k]) (R := [(b, .cells [Value.int .i64 (val k)].toArray 3 (0, 0))]) (by rfl) (by rfl) (by infer_instance) (by infer_instance) (by rfl) gr (List.perm_append_singleton _ _).symm rfl (src_own (by infer_instance)) (by simp [intF, allOne]; rfl) (by simp; omega) (by simp; omega) fun v' A' gr' => ?_
      refine so_drop (O' := A') (List.sublist_append_left _ _) ?_
      refine Run.go ?_
      have hw : IntKind.i64.wrap ((k : Int) + 1) = ((k + 1 : Nat) : Int) := by rw [IntKind.wrap_i64]; omega
      have hr : List.range' (st 1) (k + 1 - st 1) = List.range' (st 1) (k - st 1) ++ [k] := by
        rw [show k + 1 - st 1 = (k - st 1) + 1 by omega, List.range'_1_concat, show st 1 + (k - st 1) = k by omega]
      refine ⟨k + 1, wl bS bC bO bCh v' (k + 1), by simp only [Nat.reduceAdd]; omega, ⟨rfl, rfl, rfl, rfl, rfl, ?_, trivial⟩, by omega, by simp only [Nat.reduceAdd]; omega, v', rfl, ?_⟩
      · rw [← hw]; rfl
      · rw [hr, List.map_append]; exact gr'
    · have hge : k = st 2 := by
        have : ¬ (k < st 2) := by simpa using h1
        simp only [Nat.reduceAdd] at k2
        omega
      subst hge
      refine so_exit ?_
      exact ⟨rfl, v, ⟨rfl, rfl, rfl, trivial⟩, gr⟩
  · refine so_seq ?_
    refine so_seq ?_
    refine so_reg ?_
    refine so_q (q_move (by rfl)) ?_
    refine so_q (q_loadB (by infer_instance) (by rfl) (by infer_instance) (by rfl) (by rfl)) ?_
    refine Run.go ?_
    refine so_q (q_indexP (by infer_instance) (by infer_instance) (by rfl) (by rfl) (by decide) (by decide)) ?_
    refine so_q (q_loadB (by infer_instance) (by rfl) (by infer_instance) (by rfl) (by rfl)) ?_
    refine Run.go ?_
    refine so_cond rfl (fun h1 => ?_) (fun h1 => ?_)
    · have hlt : k < st 3 := by simpa using h1
      refine Run.go ?_
      refine so_q (q_loadB (by infer_instance) (by rfl) (by infer_instance) (by rfl) (by rfl)) ?_
      refine Run.go ?_
      refine op_callv Fun52 (vs := [.int .i64 (k : Int)]) (by rfl) (of h' le k k1 hlt) (.refl ([] ++ O)) (by rfl) ?_
      rintro u A' h'' le2 ⟨rfl, rfl⟩
      refine Run.go ?_
      refine op_buildSlice (by infer_instance) (by infer_instance) (by rfl) (by rfl) (by rfl) (by rfl) fun b => ?_
      refine Run.go ?_
      refine op_append (ys := [val k]) (R := [(b, .cells [Value.int .i64 (val k)].toArray 3 (0, 0))]) (by rfl) (by rfl) (by infer_instance) (by infer_instance) (by rfl) gr (List.perm_append_singleton _ _).symm rfl (src_own (by infer_instance)) (by simp [intF, allOne]; rfl) (by simp; omega) (by simp; omega) fun v' A' gr' => ?_
      refine so_drop (O' := A') (List.sublist_append_left _ _) ?_
      refine Run.go ?_
      have hw : IntKind.i64.wrap ((k : Int) + 1) = ((k + 1 : Nat) : Int) := by rw [IntKind.wrap_i64]; omega
      have hr : List.range' (st 2) (k + 1 - st 2) = List.range' (st 2) (k - st 2) ++ [k] := by
        rw [show k + 1 - st 2 = (k - st 2) + 1 by omega, List.range'_1_concat, show st 2 + (k - st 2) = k by omega]
      refine ⟨k + 1, wl bS bC bO bCh v' (k + 1), by simp only [Nat.reduceAdd]; omega, ⟨rfl, rfl, rfl, rfl, rfl, ?_, trivial⟩, by omega, by simp only [Nat.reduceAdd]; omega, v', rfl, ?_⟩
      · rw [← hw]; rfl
      · rw [hr, List.map_append]; exact gr'
    · have hge : k = st 3 := by
        have : ¬ (k < st 3) := by simpa using h1
        simp only [Nat.reduceAdd] at k2
        omega
      subst hge
      refine so_exit ?_
      exact ⟨rfl, v, ⟨rfl, rfl, rfl, trivial⟩, gr⟩
  · refine so_seq ?_
    refine so_seq ?_
    refine so_reg ?_
    refine so_q (q_move (by rfl)) ?_
    refine so_q (q_loadB (by infer_instance) (by rfl) (by infer_instance) (by rfl) (by rfl)) ?_
    refine Run.go ?_
    refine so_q (q_indexP (by infer_instance) (by infer_instance) (by rfl) (by rfl) (by decide) (by decide)) ?_
    refine so_q (q_loadB (by infer_instance) (by rfl) (by infer_instance) (by rfl) (by rfl)) ?_
    refine Run.go ?_
    refine so_cond rfl (fun h1 => ?_) (fun h1 => ?_)
    · have hlt : k < st 4 := by simpa using h1
      refine Run.go ?_
      refine so_q (q_loadB (by infer_instance) (by rfl) (by infer_instance) (by rfl) (by rfl)) ?_
      refine Run.go ?_
      refine op_callv Fun52 (vs := [.int .i64 (k : Int)]) (by rfl) (of h' le k k1 hlt) (.refl ([] ++ O)) (by rfl) ?_
      rintro u A' h'' le2 ⟨rfl, rfl⟩
      refine Run.go ?_
      refine op_buildSlice (by infer_instance) (by infer_instance) (by rfl) (by rfl) (by rfl) (by rfl) fun b => ?_
      refine Run.go ?_
      refine op_append (ys := [val k]) (R := [(b, .cells [Value.int .i64 (val k)].toArray 3 (0, 0))]) (by rfl) (by rfl) (by infer_instance) (by infer_instance) (by rfl) gr (List.perm_append_singleton _ _).symm rfl (src_own (by infer_instance)) (by simp [intF, allOne]; rfl) (by simp; omega) (by simp; omega) fun v' A' gr' => ?_
      refine so_drop (O' := A') (List.sublist_append_left _ _) ?_
      refine Run.go ?_
      have hw : IntKind.i64.wrap ((k : Int) + 1) = ((k + 1 : Nat) : Int) := by rw [IntKind.wrap_i64]; omega
      have hr : List.range' (st 3) (k + 1 - st 3) = List.range' (st 3) (k - st 3) ++ [k] := by
        rw [show k + 1 - st 3 = (k - st 3) + 1 by omega, List.range'_1_concat, show st 3 + (k - st 3) = k by omega]
      refine ⟨k + 1, wl bS bC bO bCh v' (k + 1), by simp only [Nat.reduceAdd]; omega, ⟨rfl, rfl, rfl, rfl, rfl, ?_, trivial⟩, by omega, by simp only [Nat.reduceAdd]; omega, v', rfl, ?_⟩
      · rw [← hw]; rfl
      · rw [hr, List.map_append]; exact gr'
    · have hge : k = st 4 := by
        have : ¬ (k < st 4) := by simpa using h1
        simp only [Nat.reduceAdd] at k2
        omega
      subst hge
      refine so_exit ?_
      exact ⟨rfl, v, ⟨rfl, rfl, rfl, trivial⟩, gr⟩
end
end Go.Proofs.YtcpkcmgjfcbnpaaGreatDoor
namespace Go.Proofs.YtcpkcmgjfcbnpaaGreatDoor
open Go Go.Sl Go.Conc Go.Conc.Lib
set_option maxRecDepth 100000
theorem gr_at {A : Own} {v : Value} {T : TypeId} {α : Type} {E : Flat α} {xs : List α} (g : Gr A v T E xs) (hs : xs.length ≤ 281474976710656) {S : PHeap} (h : ∀ b o, (b, o) ∈ A → S.obj b = some o) : Sl S v E xs := by
  rcases g.at' with ⟨rfl, rfl, rfl⟩ | ⟨b, cap, sp, rfl, rfl, h1, h2⟩
  · exact Sl.nil _ _
  · refine ⟨hs, .inr ⟨cap, rfl, h2, ?_⟩⟩
    refine cells_flat (fun j v e => ?_)
    rw [add_none]
    have e0 := h b _ (List.mem_singleton.2 rfl)
    simp only [vo, vb]
    rw [cell_of e0]
    have hj : j < (xs.flatMap E.f).length := by
      rcases Nat.lt_or_ge j (xs.flatMap E.f).length with h | h
      · exact h
      · rw [List.getElem?_eq_none h] at e; cases e
    simp only [Nat.zero_add, List.getElem?_toArray]
    rw [List.getElem?_append_left hj]; exact e
def RowI (st : Nat → Nat) (val : Nat → Int) (i : Nat) (v : Value) (S : PHeap) : Prop := ∃ sl, v = .agg #[.int .i64 (i : Int), sl] ∧ Sl S sl intF ((List.range' (st i) (st (i + 1) - st i)).map val)
theorem RowI.mono {st : Nat → Nat} {val : Nat → Int} : ∀ i v (h h' : PHeap), (∀ b o, h.obj b = some o → h'.obj b = some o) → RowI st val i v h → RowI st val i v h' := fun i v h h' l ⟨sl, e, s⟩ => ⟨sl, e, s.sub l⟩
noncomputable abbrev FI (W : World) (RR : Value → Prop) (Wg Ch : Nat) (H0 : PHeap) (st : Nat → Nat) (val : Nat → Int) : Fk := mkFk Tryz.prog W RR Wg Ch 205 3 H0 (RowI st val) RowI.mono
instance {W : World} {RR : Value → Prop} {Wg Ch : Nat} {H0 : PHeap} {st : Nat → Nat} {val : Nat → Int} {i C : Nat} {v : Value} : IsCl Tryz.prog (· = JW (FI W RR Wg Ch H0 st val) i C v) := inferInstanceAs (IsCl (FI W RR Wg Ch H0 st val).P _)
noncomputable def body52 : Code := match Tryz.f136.body with | some c => c | _ => .skip
noncomputable def tail52 : Code := match Tryz.f136.body with | some (.seq _ c) => c | _ => .skip
section
variable {W : World} {RR : Value → Prop} {Wg Ch : Nat} {H0 : PHeap} {st : Nat → Nat} {val : Nat → Int}
attribute [local irreducible] Go.Code.so soOps Opq opo retO Go.Code.sl slOps slList opv
theorem tail52_jw (B : PHeap) (bS bC bO bCh : Nat) (fn : FuncId) (Fun52 : Fun Tryz.prog fn) (first cap : Array Value) (j : Nat) (hj : j < 4) (s4 : ∀ i, i < 5 → st i ≤ 1048576) (mono : st j ≤ st (j + 1)) (hgh : B.gh = [0]) (hsub : ∀ b o, H0.obj b = some o → B.obj b = some o)
    (hS : BAt B bS (.cells #[.int .i64 (st 0), .int .i64 (st 1), .int .i64 (st 2), .int .i64 (st 3), .int .i64 (st 4)] 193 (0, 0)))
    (hC : BAt B bC (.cells #[.int .i64 j] 3 (0, 0))) (hO : BAt B bO (.cells #[.func (.func fn) first cap] 97 (0, 0))) (hCh : BAt B bCh (.cells #[.chan (some Ch)] 195 (0, 0)))
    (of : ∀ (M : Jdg → Prop) [IsCl Tryz.prog M] (B' : PHeap), Le B B' → ∀ k, st j ≤ k → k < st (j + 1) → CallsR Tryz.prog M fn (first.toList ++ [.int .i64 (k : Int)] ++ cap.toList) B' fun v _ => v = .int .i64 (val k)) :
    tail52.sl Tryz.prog (· = JW (FI W RR Wg Ch H0 st val) j bC (.int .i64 j)) 28 (fun e _ h' => match e with | .nrm => h'.gh = [1] | _ => False) [(0, .pointer (some ⟨Wg, 0, none⟩)), (1, .pointer (some ⟨bS, 0, none⟩)), (2, .pointer (some ⟨bC, 0, none⟩)), (3, .pointer (some ⟨bO, 0, none⟩)), (4, .pointer (some ⟨bCh, 0, none⟩))] B := by
  have e0 : tail52 = .seq (match tail52 with | .seq a _ => a | _ => .skip) (.seq (.seq (match tail52 with | .seq _ (.seq (.seq a _) _) => a | _ => .skip) loop52) (match tail52 with | .seq _ (.seq _ a) => a | _ => .skip)) := rfl
  rw [e0]
  simp only [tail52, Tryz.f136]
  refine sl_seq ?_
  refine sl_reg ?_
  refine l_q (fun _ _ => o_assign (by rfl)) ?_
  refine l_nil ?_
  refine sl_seq ?_
  refine sl_seq ?_
  refine sl_reg ?_
  refine l_q (fun _ _ => o_loadB (by rfl) hC.at' (by rfl) (by rfl)) ?_
  have hcs : takeCells #[.int .i64 (st 0), .int .i64 (st 1), .int .i64 (st 2), .int .i64 (st 3), .int .i64 (st 4)] (0 + (j : Int).toNat * 1) 1 = some [.int .i64 (st j)] := by
    obtain rfl | rfl | rfl | rfl : j = 0 ∨ j = 1 ∨ j = 2 ∨ j = 3 := by omega
    all_goals rfl
  refine l_q (fun _ _ => o_indexAddrA (by rfl) (by rfl) (by omega) (by omega)) ?_
  refine l_q (fun _ _ => o_loadB (by rfl) hS.at' hcs (by rfl)) ?_
  refine l_q (fun _ _ => o_assign (by rfl)) ?_
  refine l_nil ?_
  refine sl_of_so (worker_loop B Wg bS bC bO bCh st fn Fun52 first cap val j hj s4 mono hS hC hO (of _) _ ⟨rfl, rfl, rfl, rfl, rfl, rfl, trivial⟩) (PHeap.le_refl _) rfl ?_
  rintro e L' A h' H' le ⟨rfl, v, ⟨g2, g4, g5, _⟩, gr⟩ rel
  have hB : ∀ b o, B.obj b = some o → H'.obj b = some o := fun b o e => (rel.base b o (le.le b o e).1).1
  refine sl_reg ?_
  refine l_q (fun _ _ => o_loadB g4 (hB _ _ hCh.at') (by rfl) (by rfl)) ?_
  refine l_q (fun _ _ => o_loadB (off := 0) (by first | exact g2 | (show Locals.get _ 2 = _; exact g2)) (hB _ _ hC.at') (by rfl) (by rfl)) ?_
  refine l_q (fun _ _ => o_move g5) ?_
  have hg' : H'.gh = [0] := (rel.gh.trans le.gh).trans hgh
  have hlen : ((List.range' (st j) (st (j + 1) - st j)).map val).length ≤ 281474976710656 := by
    have := s4 (j + 1) (by omega)
    simp; omega
  have hSl : Sl (beyond H0 (delb (ro H' [1]) bC)) v intF ((List.range' (st j) (st (j + 1) - st j)).map val) := gr_at gr hlen fun b o m => by
    obtain ⟨o1, o2, o3, o4⟩ := rel.own b o m
    have hn : H0.obj b = none := by
      cases z : H0.obj b with
      | none => rfl
      | some o => rw [(le.le b o (hsub b o z)).1] at o4; cases o4
    have hbC : b ≠ bC := fun z => by
      have := (le.le bC _ hC.at').1
      rw [← z, o4] at this; cases this
    simp only [beyond, hn, Option.isSome_none, Bool.false_eq_true, if_false, delb, ro, hbC]
    exact o1
  obtain ⟨ba, cp, rfl⟩ := hSl.val
  refine l_q (fun _ _ => o_build (by infer_instance) (by infer_instance) (by rfl) (by rfl)) ?_
  refine l_send (F := FI W RR Wg Ch H0 st val) (C := bC) (i := j) (v := .int .i64 j) hg' (hB _ _ hC.at') (by rfl) (by rfl) ?_ ?_
  · exact ⟨_, rfl, hSl⟩
  · exact l_nil rfl
end
section
variable {W : World} {RR : Value → Prop} {Wg Ch : Nat} {H0 : PHeap} {st : Nat → Nat} {val : Nat → Int}
theorem worker_jw (B : PHeap) (bS bC bO bCh : Nat) (fn : FuncId) (Fun52 : Fun Tryz.prog fn) (first cap : Array Value) (j : Nat) (hj : j < 4) (s4 : ∀ i, i < 5 → st i ≤ 1048576) (mono : st j ≤ st (j + 1)) (hgh : B.gh = [0]) (hsub : ∀ b o, H0.obj b = some o → B.obj b = some o)
    (hS : BAt B bS (.cells #[.int .i64 (st 0), .int .i64 (st 1), .int .i64 (st 2), .int .i64 (st 3), .int .i64 (st 4)] 193 (0, 0)))
    (hC : BAt B bC (.cells #[.int .i64 j] 3 (0, 0))) (hO : BAt B bO (.cells #[.func (.func fn) first cap] 97 (0, 0))) (hCh : BAt B bCh (.cells #[.chan (some Ch)] 195 (0, 0)))
    (of : ∀ (M : Jdg → Prop) [IsCl Tryz.prog M] (B' : PHeap), Le B B' → ∀ k, st j ≤ k → k < st (j + 1) → CallsR Tryz.prog M fn (first.toList ++ [.int .i64 (k : Int)] ++ cap.toList) B' fun v _ => v = .int .i64 (val k))
    (tm : Array Value) (ha : Agree 28 [(0, .pointer (some ⟨Wg, 0, none⟩)), (1, .pointer (some ⟨bS, 0, none⟩)), (2, .pointer (some ⟨bC, 0, none⟩)), (3, .pointer (some ⟨bO, 0, none⟩)), (4, .pointer (some ⟨bCh, 0, none⟩))] tm) :
    JW (FI W RR Wg Ch H0 st val) j bC (.int .i64 j) B (G ((baseD 136).at ⟨tm, []⟩ [.code body52]) [bot Tryz.prog]) := by
  have Qu : ∀ {g g' : Goroutine} {h : PHeap}, g.status = .running → (∀ main w, stepG Tryz.prog main g w = .go g' w) → JW (FI W RR Wg Ch H0 st val) j bC (.int .i64 j) h g' → JW (FI W RR Wg Ch H0 st val) j bC (.int .i64 j) h g := fun {g g' h} hr hs x => quiet (P := Tryz.prog) (M := (· = JW (FI W RR Wg Ch H0 st val) j bC (.int .i64 j))) rfl hr hs x
  have e0 : body52 = .seq (match body52 with | .seq a _ => a | _ => .skip) tail52 := rfl
  have e1 : (match body52 with | .seq a _ => a | _ => .skip) = Code.region 0 #[⟨none, .defer { callee := .value (.func 137), args := #[.tmp 0], argTypes := #[205] }, 0, "l12_pic.go:29", #[], none⟩] false := rfl
  rw [e0, e1]
  refine Qu rfl (fun _ _ => stepG_seq) ?_
  refine Qu rfl (fun _ _ => stepG_region) ?_
  refine Qu rfl (fun _ _ => stepG_defer (o := ⟨none, .defer { callee := .value (.func 137), args := #[.tmp 0], argTypes := #[205] }, 0, "l12_pic.go:29", #[], none⟩) rfl rfl (by simp [baseD]) rfl) ?_
  refine Qu rfl (fun _ _ => stepG_region_end) ?_
  have hd : (#[Operand.tmp 0] : Array Operand).map (Act.mk tm []).eval = #[.pointer (some ⟨Wg, 0, none⟩)] := by simp [Agree.ev (a := ⟨tm, []⟩) ha (o := .tmp 0) rfl]
  simp only [hd, Act.put]
  refine sl_app (tail52_jw B bS bC bO bCh fn Fun52 first cap j hj s4 mono hgh hsub hS hC hO hCh of) rfl (baseD 136) [] [bot Tryz.prog] [dcall 137 #[.pointer (some ⟨Wg, 0, none⟩)]] tm (by simp [baseD]) ha (ends_nrm fun L1 h1 tm1 q1 ha1 => ?_)
  refine Qu rfl (fun _ _ => stepG_end) ?_
  exact jw_out (F := FI W RR Wg Ch H0 st val) (Wl := wgLink) wgLib rfl Tryz.func136 rfl q1
end
noncomputable def fork43 : Code := match Tryz.f95.body with | some (.seq _ (.seq _ (.seq _ (.seq _ (.seq c _))))) => c | _ => .skip
noncomputable def join43 : Code := match Tryz.f95.body with | some (.seq _ (.seq _ (.seq _ (.seq _ (.seq _ (.seq c _)))))) => c | _ => .skip
instance {W : World} {RR : Value → Prop} {Wg Ch : Nat} {H0 : PHeap} {st : Nat → Nat} {val : Nat → Int} : IsCl Tryz.prog (· = JM (FI W RR Wg Ch H0 st val)) := inferInstanceAs (IsCl (FI W RR Wg Ch H0 st val).P _)
abbrev ml (bO bS bCh Wg j : Nat) : Locals := [(3, .pointer (some ⟨bO, 0, none⟩)), (5, .pointer (some ⟨bS, 0, none⟩)), (6, .pointer (some ⟨bCh, 0, none⟩)), (7, .pointer (some ⟨Wg, 0, none⟩)), (17, .int .i64 (j : Int))]
section
variable {W : World} {RR : Value → Prop} {Wg Ch : Nat} {H0 : PHeap} {st : Nat → Nat} {val : Nat → Int}
attribute [local irreducible] Go.Code.sl slOps slList opv
theorem join43_jm (bO bS bCh : Nat) (h : PHeap) (hgh : h.gh = [0, 4]) (K : Locals → PHeap → Prop) (L : Locals) (hL : Locals.sub (ml bO bS bCh Wg 4) L) (hK : ∀ v, K (setL (some 23) v L) (stay h [10])) :
    join43.sl Tryz.prog (· = JM (FI W RR Wg Ch H0 st val)) 43 (fun e L' h' => match e with | .nrm => K L' h' | _ => False) L h := by
  simp only [join43, Tryz.f95]
  refine sl_reg ?_
  refine l_call (F := FI W RR Wg Ch H0 st val) wgLib.f_wait rfl rfl (vs := [.pointer (some ⟨Wg, 0, none⟩)]) (by show evAll L [.tmp 7] = _; simp only [evAll, ev, hL.2.2.2.1]) (wait_jm (F := FI W RR Wg Ch H0 st val) wgLib hgh) ?_
  rintro v _ rfl
  exact l_nil (hK v)
end
section
variable {W : World} {RR : Value → Prop} {Wg Ch : Nat} {H0 : PHeap} {st : Nat → Nat} {val : Nat → Int}
attribute [local irreducible] Go.Code.sl slOps slList opv
theorem fork43_jm (bS bO bCh : Nat) (fn : FuncId) (Fun52 : Fun Tryz.prog fn) (first cap : Array Value) (s4 : ∀ i, i < 5 → st i ≤ 1048576) (mono : ∀ j, j < 4 → st j ≤ st (j + 1))
    (hS : H0.obj bS = some (.cells #[.int .i64 (st 0), .int .i64 (st 1), .int .i64 (st 2), .int .i64 (st 3), .int .i64 (st 4)] 193 (0, 0))) (hO : H0.obj bO = some (.cells #[.func (.func fn) first cap] 97 (0, 0))) (hCh : H0.obj bCh = some (.cells #[.chan (some Ch)] 195 (0, 0)))
    (of : ∀ (M : Jdg → Prop) [IsCl Tryz.prog M] (B' : PHeap), (∀ b o, H0.obj b = some o → B'.obj b = some o) → ∀ k, k < st 4 → CallsR Tryz.prog M fn (first.toList ++ [.int .i64 (k : Int)] ++ cap.toList) B' fun v _ => v = .int .i64 (val k)) (m4 : ∀ j, j < 4 → st (j + 1) ≤ st 4) (h : PHeap) (hgh : h.gh = [0, 0]) (ro0 : ∀ b o, H0.obj b = some o → h.obj b = some o ∧ h.wr b = false) (L : Locals)
    (hL : Locals.sub [(3, .pointer (some ⟨bO, 0, none⟩)), (5, .pointer (some ⟨bS, 0, none⟩)), (6, .pointer (some ⟨bCh, 0, none⟩)), (7, .pointer (some ⟨Wg, 0, none⟩))] L) :
    fork43.sl Tryz.prog (· = JM (FI W RR Wg Ch H0 st val)) 43 (fun e L' h' => match e with | .nrm => h'.gh = [0, 4] ∧ (∀ b o, H0.obj b = some o → h'.obj b = some o ∧ h'.wr b = false) ∧ Locals.sub (ml bO bS bCh Wg 4) L' | _ => False) L h := by
  simp only [fork43, Tryz.f95]
  refine sl_seq ?_
  refine sl_reg ?_
  refine l_q (fun _ _ => o_move (by rfl)) ?_
  refine l_nil ?_
  refine sl_block ?_
  refine sl_loop (ι := Nat) (Lo := fun j => ml bO bS bCh Wg j) (A := fun j h' => j ≤ 4 ∧ h'.gh = [0, j] ∧ ∀ b o, H0.obj b = some o → h'.obj b = some o ∧ h'.wr b = false) (μ := fun j => 4 - j) 0 ⟨hL.1, hL.2.1, hL.2.2.1, hL.2.2.2.1, rfl, trivial⟩ ⟨by decide, hgh, ro0⟩ ?_
  rintro j h1 ⟨hj, hg1, ro1⟩
  refine sl_seq ?_
  refine sl_reg ?_
  refine l_q (x_num (by rfl) (by rfl) (by rfl)) ?_
  refine l_nil ?_
  refine sl_seq ?_
  refine sl_cond (by rfl) (fun c1 => ?_) (fun c1 => ?_)
  · have hlt : j < 4 := by
      have := of_decide_eq_true c1
      omega
    refine sl_skip ?_
    refine sl_seq ?_
    refine sl_block ?_
    refine sl_seq ?_
    refine sl_reg ?_
    refine l_q (fun _ _ => o_move (by rfl)) ?_
    refine l_plain rfl (by rfl) (o_alloc fun C hCn => ?_)
    refine l_plain rfl (by rfl) (o_store (v := .int .i64 (j : Int)) (b := C) (off := 0) (by rfl) (by rfl) (obj_put _ _ _) (wr_put _ _ _) (by rfl) (by show 1 ≤ 1; decide) (by rfl) ?_)
    refine l_nil ?_
    refine sl_seq ?_
    refine sl_reg ?_
    refine l_call (F := FI W RR Wg Ch H0 st val) wgLib.f_add rfl rfl (vs := [.pointer (some ⟨Wg, 0, none⟩), .int .i64 1]) (by rfl) (add_jm (F := FI W RR Wg Ch H0 st val) wgLib (j := j) hj hg1) ?_
    rintro v _ rfl
    refine l_nil ?_
    refine sl_reg ?_
    refine l_q (fun _ _ => o_makeFunc (vs := []) (us := [.pointer (some ⟨Wg, 0, none⟩), .pointer (some ⟨bS, 0, none⟩), .pointer (some ⟨C, 0, none⟩), .pointer (some ⟨bO, 0, none⟩), .pointer (some ⟨bCh, 0, none⟩)]) (by rfl) (by rfl)) ?_
    have hC0 : H0.obj C = none := by
      cases z : H0.obj C with
      | none => rfl
      | some o => rw [(ro1 C o z).1] at hCn; cases hCn
    have hne : ∀ b o, H0.obj b = some o → b ≠ C := fun b o z e => by rw [e, hC0] at z; cases z
    have hob : ∀ b o, H0.obj b = some o → (stay ((h1.put C (.cells (Value.int .i64 0).cells 3)).put C (.cells (setCells (Value.int .i64 0).cells 0 (Value.int .i64 (j : Int)).cells.toList) 3)) [3, j]).obj b = some o := fun b o z => by
      simp only [stay, PHeap.put, hne b o z, if_false]; exact (ro1 b o z).1
    refine l_go (F := FI W RR Wg Ch H0 st val) (vs := [.pointer (some ⟨Wg, 0, none⟩), .pointer (some ⟨bS, 0, none⟩), .pointer (some ⟨C, 0, none⟩), .pointer (some ⟨bO, 0, none⟩), .pointer (some ⟨bCh, 0, none⟩)]) (C := C) (v := .int .i64 (j : Int)) (j := j) (f := 136) (nf := 28) rfl hlt (by rfl) Tryz.func136 rfl rfl rfl (show 5 ≤ 28 by decide) ?_ ?_ hC0 (fun tm ha => ?_) ?_
    · simp [stay, PHeap.put]; exact ⟨rfl, rfl⟩
    · simp [stay, PHeap.put]
    · refine worker_jw (H0 := H0) (ro _ [0]) bS C bO bCh fn Fun52 first cap j hlt s4 (mono j hlt) rfl (fun b o z => hob b o z) ⟨hob _ _ hS⟩ ⟨?_⟩ ⟨hob _ _ hO⟩ ⟨hob _ _ hCh⟩ (fun M _ B' le k k1 k2 => of M B' (fun b o z => (le.le b o (hob b o z)).1) k (Nat.lt_of_lt_of_le k2 (m4 j hlt))) tm ha
      simp [ro, stay, PHeap.put]; rfl
    · refine l_nil ?_
      refine sl_reg ?_
      refine l_q (x_num (by rfl) (by rfl) (by rfl)) ?_
      refine l_q (fun _ _ => o_move (by rfl)) ?_
      refine l_nil ?_
      have hw : IntKind.i64.wrap ((j : Int) + 1) = ((j + 1 : Nat) : Int) := by rw [IntKind.wrap_i64]; omega
      refine ⟨j + 1, by show 4 - (j + 1) < 4 - j; omega, ⟨rfl, rfl, rfl, rfl, ?_, trivial⟩, by omega, rfl, fun b o z => ⟨?_, rfl⟩⟩
      · rw [← hw]; rfl
      · simp only [delb, hne b o z, if_false]; exact hob b o z
  · have : j = 4 := by
      have := of_decide_eq_false c1
      omega
    subst this
    refine sl_exit ?_
    exact ⟨hg1, ro1, ⟨rfl, rfl, rfl, rfl, rfl, trivial⟩⟩
end
end Go.Proofs.YtcpkcmgjfcbnpaaGreatDoor
namespace Go.Proofs.YtcpkcmgjfcbnpaaGreatDoor
open Go Go.Sl
set_option maxRecDepth 100000
set_option maxHeartbeats 4000000
attribute [local irreducible] Go.Code.sf sfOps Opq opo retF Do1 anyO
variable {M : Jdg → Prop} [IsCl Tryz.prog M]
theorem gridRows_v (h : PHeap) (ca : List Value) (g : Grid) (b : (gridR τ).B h ca g) (hw : 0 < g.wide) : CallV Tryz.prog M 108 [.agg ca.toArray] h (.int .i64 ((g.cells.length : Int) / g.wide)) := by
  obtain ⟨c, rfl, s⟩ := gridB b
  have o1 := s.one
  have hs := s.small
  refine Cs Tryz.func108 Tryz.ntmps108 ?_
  repeat first | refine R1 ?_ | refine R2 fun _ => ?_
  exact sf_ret (rV rfl)
theorem sideStarts_v (h : PHeap) (ca : List Value) (g : Grid) (b : (gridR τ).B h ca g) (w r : Nat) (hw : g.wide = w) (h1 : 1 ≤ w) (h5 : w ≤ 5) (hr : (g.cells.length : Int) / g.wide = r) (hr5 : r ≤ 5) : CallV Tryz.prog M 134 [.agg ca.toArray] h (.agg #[.int .i64 (stOf w r 0 : Nat), .int .i64 (stOf w r 1 : Nat), .int .i64 (stOf w r 2 : Nat), .int .i64 (stOf w r 3 : Nat), .int .i64 (stOf w r 4 : Nat)]) := by
  obtain ⟨c, rfl, s⟩ := gridB b
  have o1 := s.one
  refine Cs Tryz.func134 Tryz.ntmps134 ?_
  repeat first | refine R1 ?_ | refine R2 fun _ => ?_
  refine Xv (gridRows_v _ _ g b (by omega)) ?_
  rw [hr]
  obtain ⟨gw, gc⟩ := g
  simp only at hw hr
  subst hw
  repeat first | refine R1 ?_ | refine R2 fun _ => ?_
  refine sf_ret (rV ?_)
  simp only [stOf, IntKind.wrap_i64, Value.agg.injEq]
  simp
  omega
noncomputable def tail43 : Code := match Tryz.f95.body with | some (.seq _ (.seq _ (.seq _ (.seq _ c)))) => c | _ => .skip
noncomputable def rest43 : Code := match Tryz.f95.body with | some (.seq _ (.seq _ (.seq _ (.seq _ (.seq _ (.seq _ c)))))) => c | _ => .skip
theorem hide4 {P : Program} {M : Jdg → Prop} {n : Nat} {Q : Qf} {L : Locals} {O : Own} {h : PHeap} {c0 c1 c2 c3 t t' : Code} (e : t' = t) (x : (Code.seq c0 (.seq c1 (.seq c2 (.seq c3 t')))).sf P M n Q L O h) : (Code.seq c0 (.seq c1 (.seq c2 (.seq c3 t)))).sf P M n Q L O h := e ▸ x
def SideI (h : PHeap) (w r : Nat) (val : Nat → Int) (i : Nat) (v : Value) : Prop := Sl h v intF ((List.range' (stOf w r i) (stOf w r (i + 1) - stOf w r i)).map val)
theorem sidesInt_f [al : Alone Tryz.prog M] (h : PHeap) (ca : List Value) (g : Grid) (b : (gridR τ).B h ca g) (w r : Nat) (hw : g.wide = w) (h1 : 1 ≤ w) (h5 : w ≤ 5) (hr : (g.cells.length : Int) / g.wide = r) (hr5 : r ≤ 5) (fn : FuncId) [Fu : Fun Tryz.prog fn] (first cap : Array Value) (val : Nat → Int)
    (of : ∀ (M : Jdg → Prop) [IsCl Tryz.prog M] (h' : PHeap), (∀ b o, h.obj b = some o → h'.obj b = some o) → ∀ k, k < stOf w r 4 → CallV Tryz.prog M fn (first.toList ++ [.int .i64 (k : Int)] ++ cap.toList) h' (.int .i64 (val k))) :
    CallF Tryz.prog M 95 [.agg ca.toArray, .func (.func fn) first cap] [] h fun v A => Gr A v 3 intF ((List.range (stOf w r 4)).map val) := by
  obtain ⟨W, RR, rfl⟩ := al.is
  have b0 := b
  obtain ⟨c, rfl, s⟩ := gridB b
  have o1 := s.one
  refine Cs Tryz.func95 Tryz.ntmps95 ?_
  obtain ⟨t', et⟩ : ∃ t', t' = tail43 := ⟨_, rfl⟩
  refine hide4 (et.trans rfl) ?_
  repeat first | refine R1 ?_ | refine R2 fun _ => ?_
  refine Xv (sideStarts_v _ _ g b0 w r hw h1 h5 hr hr5) ?_
  repeat first | refine R1 ?_ | refine R2 fun _ => ?_
  refine f_makeChan (by rfl) (by rfl) fun Ch => ?_
  repeat first | refine R1 ?_ | refine R2 fun _ => ?_
  rename_i b2 b3 b5 b6 b7
  subst et
  show (Code.seq fork43 (Code.seq join43 rest43)).sf _ _ _ _ _ _ _
  refine sf_fork (Wg := b7) (Ch := Ch) (ty := 205) (it := 3) (RowI (stOf w r) val) RowI.mono (fun L' => Locals.sub (ml b3 b5 b6 b7 4) L') (R := [(b6, .cells #[.chan (some Ch)] 195), (b5, .cells #[.int .i64 (stOf w r 0 : Nat), .int .i64 (stOf w r 1 : Nat), .int .i64 (stOf w r 2 : Nat), .int .i64 (stOf w r 3 : Nat), .int .i64 (stOf w r 4 : Nat)] 193), (b3, .cells #[.func (.func fn) first cap] 97), (b2, .cells #[.int .i64 g.wide, c] 25)]) ?_ (fun H0 hle hR hWg hCh => ?_) fun L' h2 rows hle hL hp hrow => ?_
  · exact (List.Perm.refl _).cons _ |>.trans ((List.Perm.swap _ _ _).cons _)
  · refine sl_mono (fork43_jm (Wg := b7) (Ch := Ch) (H0 := H0) (W := W) (RR := RR) (st := stOf w r) (val := val) b5 b3 b6 fn Fu first cap (fun i _ => Nat.le_trans (stOf_le h5 hr5 i) (by decide)) (stOf_mono) (hR _ _ (by simp)) (hR _ _ (by simp)) (hR _ _ (by simp)) (fun M _ B' hB k hk => callsR_of (of M B' (fun b o z => hB b o (hle b o z).1) k hk)) ?_ (ro H0 [0, 0]) rfl (fun b o z => ⟨z, rfl⟩) _ ⟨rfl, rfl, rfl, rfl, trivial⟩) ?_
    · intro j hj
      obtain rfl | rfl | rfl | rfl : j = 0 ∨ j = 1 ∨ j = 2 ∨ j = 3 := by omega
      all_goals simp only [stOf]; omega
    · rintro e L1 h1' q
      cases e with
      | nrm =>
        obtain ⟨q1, q2, q3⟩ := q
        exact join43_jm b3 b5 b6 h1' q1 (fun L' h' => h'.gh = [10] ∧ (∀ b o, H0.obj b = some o → h'.obj b = some o ∧ h'.wr b = false) ∧ Locals.sub (ml b3 b5 b6 b7 4) L') L1 q3 fun v => ⟨rfl, fun b o z => q2 b o z, ⟨q3.1, q3.2.1, q3.2.2.1, q3.2.2.2.1, q3.2.2.2.2.1, trivial⟩⟩
      | _ => exact q.elim
  · simp only [rest43]
    refine sf_sub (ml b3 b5 b6 b7 4) hL ?_
    repeat first | refine R1 ?_ | refine R2 fun _ => ?_
    refine f_close (by rfl) ?_
    repeat first | refine R1 ?_ | refine R2 fun _ => ?_
    rename_i b9
    refine sf_lp (ι := List (Nat × Value) × Value × Value × Value × Value) [9, 25] (fun _ => []) (fun x O => ∃ rc, O = [(b9, .cells #[x.2.1, x.2.2.1, x.2.2.2.1, x.2.2.2.2] 209), (Ch, .chan 4 (x.1.map Prod.snd).toArray true 4 rc false)] ∧ (∀ p ∈ x.1, p.1 < 4 ∧ RowI (stOf w r) val p.1 p.2 h2) ∧ (Sl.One x.2.1 ∧ Sl.One x.2.2.1 ∧ Sl.One x.2.2.2.1 ∧ Sl.One x.2.2.2.2) ∧ (0 ∈ x.1.map Prod.fst ∨ SideI h2 w r val 0 x.2.1) ∧ (1 ∈ x.1.map Prod.fst ∨ SideI h2 w r val 1 x.2.2.1) ∧ (2 ∈ x.1.map Prod.fst ∨ SideI h2 w r val 2 x.2.2.2.1) ∧ (3 ∈ x.1.map Prod.fst ∨ SideI h2 w r val 3 x.2.2.2.2)) (fun x => x.1.length) (rows, .slice none 0 0, .slice none 0 0, .slice none 0 0, .slice none 0 0) [(b9, .cells #[.slice none 0 0, .slice none 0 0, .slice none 0 0, .slice none 0 0] 209), (Ch, .chan 4 (rows.map Prod.snd).toArray true 4 0 false)] ⟨0, rfl, fun p hp' => ⟨?_, hrow p hp'⟩, ⟨inferInstance, inferInstance, inferInstance, inferInstance⟩, .inl ?_, .inl ?_, .inl ?_, .inl ?_⟩ ?_
    · have := hp.mem_iff.1 (List.mem_map.2 ⟨p, hp', rfl⟩)
      simp at this; omega
    · exact hp.mem_iff.2 (by simp)
    · exact hp.mem_iff.2 (by simp)
    · exact hp.mem_iff.2 (by simp)
    · exact hp.mem_iff.2 (by simp)
    clear hrow hp hL hle b b0 of
    rintro ⟨rs, v0, v1, v2, v3⟩ O ⟨rc, rfl, hrow, ⟨p0, p1, p2, p3⟩, s0, s1, s2, s3⟩
    simp only at hrow p0 p1 p2 p3 s0 s1 s2 s3 ⊢
    match rs, hrow, s0, s1, s2, s3 with
    | [], hrow, s0, s1, s2, s3 =>
      simp only [List.map_nil, List.not_mem_nil, false_or] at s0 s1 s2 s3 ⊢
      repeat first | refine R1 ?_ | refine R2 fun _ => ?_
      refine f_shut (by rfl) ?_
      repeat first | refine R1 ?_ | refine R2 fun _ => ?_
      refine sf_cond (by rfl) (fun e => by cases e) fun _ => ?_
      refine sf_exit ?_
      repeat first | refine R1 ?_ | refine R2 fun _ => ?_
      have t0 := stOf_le (w := w) (r := r) h5 hr5 0
      have t1 := stOf_le (w := w) (r := r) h5 hr5 1
      have t2 := stOf_le (w := w) (r := r) h5 hr5 2
      have t3 := stOf_le (w := w) (r := r) h5 hr5 3
      have t4 := stOf_le (w := w) (r := r) h5 hr5 4
      refine sf_lp (ι := Nat × Value) [34] (fun x => [(35, .int .i64 (x.1 : Int)), (11, x.2)]) (fun x O => x.1 ≤ 4 ∧ Gr O x.2 3 intF ((List.range (stOf w r x.1)).map val)) (fun x => 4 - x.1) (0, .slice none 0 0) [] ⟨by decide, by simpa [stOf] using Gr.nil _ _⟩ ?_
      rintro ⟨k, v⟩ O ⟨hk, g3⟩
      simp only at hk g3 ⊢
      have o5 := g3.one
      repeat first | refine R1 ?_ | refine R2 fun _ => ?_
      refine sf_if (fun h4 => ?_) fun h4 => ?_
      · have hk4 : k = 0 ∨ k = 1 ∨ k = 2 ∨ k = 3 := by omega
        have hrng : ∀ j, j < 4 → (List.range (stOf w r j)).map val ++ (List.range' (stOf w r j) (stOf w r (j + 1) - stOf w r j)).map val = (List.range (stOf w r (j + 1))).map val := fun j hj => by
          rw [← List.map_append]
          congr 1
          rw [List.range_eq_range', List.range_eq_range', show stOf w r (j + 1) = stOf w r j + (stOf w r (j + 1) - stOf w r j) by have := stOf_mono (w := w) (r := r) j hj; omega, ← List.range'_append_1]
          simp
        rcases hk4 with rfl | rfl | rfl | rfl
        · repeat first | refine R1 ?_ | refine R2 fun _ => ?_
          refine fp (Rq ?_ (q_index (by infer_instance) (by infer_instance) (by rfl) (by rfl) (by decide) (by decide) (by rfl)))
          repeat first | refine R1 ?_ | refine R2 fun _ => ?_
          refine Xs g3 s0 fun v' A' g4 => ?_
          repeat first | refine R1 ?_ | refine R2 fun _ => ?_
          exact ⟨(1, v'), by simp only; omega, ⟨rfl, rfl, trivial⟩, rfl, A', _, inferInstance, by simp only; omega, by rw [← hrng 0 (by decide)]; exact g4⟩
        · repeat first | refine R1 ?_ | refine R2 fun _ => ?_
          refine fp (Rq ?_ (q_index (by infer_instance) (by infer_instance) (by rfl) (by rfl) (by decide) (by decide) (by rfl)))
          repeat first | refine R1 ?_ | refine R2 fun _ => ?_
          refine Xs g3 s1 fun v' A' g4 => ?_
          repeat first | refine R1 ?_ | refine R2 fun _ => ?_
          exact ⟨(2, v'), by simp only; omega, ⟨rfl, rfl, trivial⟩, rfl, A', _, inferInstance, by simp only; omega, by rw [← hrng 1 (by decide)]; exact g4⟩
        · repeat first | refine R1 ?_ | refine R2 fun _ => ?_
          refine fp (Rq ?_ (q_index (by infer_instance) (by infer_instance) (by rfl) (by rfl) (by decide) (by decide) (by rfl)))
          repeat first | refine R1 ?_ | refine R2 fun _ => ?_
          refine Xs g3 s2 fun v' A' g4 => ?_
          repeat first | refine R1 ?_ | refine R2 fun _ => ?_
          exact ⟨(3, v'), by simp only; omega, ⟨rfl, rfl, trivial⟩, rfl, A', _, inferInstance, by simp only; omega, by rw [← hrng 2 (by decide)]; exact g4⟩
        · repeat first | refine R1 ?_ | refine R2 fun _ => ?_
          refine fp (Rq ?_ (q_index (by infer_instance) (by infer_instance) (by rfl) (by rfl) (by decide) (by decide) (by rfl)))
          repeat first | refine R1 ?_ | refine R2 fun _ => ?_
          refine Xs g3 s3 fun v' A' g4 => ?_
          repeat first | refine R1 ?_ | refine R2 fun _ => ?_
          exact ⟨(4, v'), by simp only; omega, ⟨rfl, rfl, trivial⟩, rfl, A', _, inferInstance, by simp only; omega, by rw [← hrng 3 (by decide)]; exact g4⟩
      · refine sf_exit ?_
        repeat first | refine R1 ?_ | refine R2 fun _ => ?_
        have : k = 4 := by omega
        subst this
        exact sf_ret (rO O g3)
    | (i, u) :: rs, hrow, s0, s1, s2, s3 =>
      have hh := hrow (i, u) (List.mem_cons_self ..)
      simp only [RowI] at hh
      obtain ⟨hi, sl, rfl, sl0⟩ := hh
      have ol := sl0.one
      have hrow' : ∀ p ∈ rs, p.1 < 4 ∧ RowI (stOf w r) val p.1 p.2 h2 := fun p hp => hrow p (List.mem_cons_of_mem _ hp)
      simp only [List.map_cons] at s0 s1 s2 s3 ⊢
      repeat first | refine R1 ?_ | refine R2 fun _ => ?_
      have hi' : i = 0 ∨ i = 1 ∨ i = 2 ∨ i = 3 := by omega
      refine f_recv (by rfl) ?_
      repeat first | refine R1 ?_ | refine R2 fun _ => ?_
      refine sf_T rfl ?_
      rcases hi' with rfl | rfl | rfl | rfl
      · repeat first | refine R1 ?_ | refine R2 fun _ => ?_
        exact ⟨(rs, sl, v1, v2, v3), by simp only [List.length_cons]; omega, trivial, rfl, _, _, inferInstance, rc + 1, rfl, hrow', ⟨ol, p1, p2, p3⟩, .inr sl0, by simpa using s1, by simpa using s2, by simpa using s3⟩
      · repeat first | refine R1 ?_ | refine R2 fun _ => ?_
        exact ⟨(rs, v0, sl, v2, v3), by simp only [List.length_cons]; omega, trivial, rfl, _, _, inferInstance, rc + 1, rfl, hrow', ⟨p0, ol, p2, p3⟩, by simpa using s0, .inr sl0, by simpa using s2, by simpa using s3⟩
      · repeat first | refine R1 ?_ | refine R2 fun _ => ?_
        exact ⟨(rs, v0, v1, sl, v3), by simp only [List.length_cons]; omega, trivial, rfl, _, _, inferInstance, rc + 1, rfl, hrow', ⟨p0, p1, ol, p3⟩, by simpa using s0, by simpa using s1, .inr sl0, by simpa using s3⟩
      · repeat first | refine R1 ?_ | refine R2 fun _ => ?_
        exact ⟨(rs, v0, v1, v2, sl), by simp only [List.length_cons]; omega, trivial, rfl, _, _, inferInstance, rc + 1, rfl, hrow', ⟨p0, p1, p2, ol⟩, by simpa using s0, by simpa using s1, by simpa using s2, .inr sl0⟩
theorem picOf1_v (h : PHeap) (c : Value) (g : Grid) (s : Sl h c cellF g.cells) (e : gridOk g = true) (b : Nat) [BAt h b (.cells #[.int .i64 g.wide, c] 25)] (k : Int) (hk : 0 ≤ k ∧ k < manyOf g) : CallV Tryz.prog M 96 [.int .i64 k, .pointer (some ⟨b, 0, none⟩)] h (.int .i64 (trailLight g k)) := by
  have o1 := s.one
  refine Cs Tryz.func96 Tryz.ntmps96 ?_
  refine Wo ?_
  refine Xv (trailLight_v h c g s e k hk) ?_
  refine Wo ?_
  exact sf_ret (rV rfl)
theorem picOf_f [al : Alone Tryz.prog M] (h : PHeap) (ca : List Value) (g : Grid) (b : (gridR τ).B h ca g) (e : gridOk g = true) : CallF Tryz.prog M 55 [.agg ca.toArray] [] h fun u A => Gr A u 3 intF (picOf g) := by
  obtain ⟨c, rfl, s⟩ := gridB b
  have o1 := s.one
  have kg := gok e
  have w1 := kg.w1; have w5 := kg.w5; have r1 := kg.r1; have r5 := kg.r5
  obtain ⟨ww, ew⟩ : ∃ ww : Nat, g.wide = ww := ⟨g.wide.toNat, by omega⟩
  obtain ⟨rr, er⟩ : ∃ rr : Nat, rowsOf g = rr := ⟨(rowsOf g).toNat, by omega⟩
  have hN : (manyOf g).toNat = stOf ww rr 4 := by
    simp only [stOf]; rw [manyOf, er, ew]; omega
  refine Cs Tryz.func55 Tryz.ntmps55 ?_
  repeat first | refine R1 ?_ | refine R2 fun _ => ?_
  refine Xv (gridOk_v _ _ g b) ?_
  rw [e]
  repeat first | refine R1 ?_ | refine R2 fun _ => ?_
  refine sf_cond (by rfl) (fun e => by cases e) fun z1 => ?_
  clear z1
  repeat first | refine R1 ?_ | refine R2 fun _ => ?_
  rename_i b1
  refine fp (y_lend [(b1, .cells #[.int .i64 g.wide, c] 25)] (fun h' l i => sidesInt_f h' _ g (gridB_mk (s.le l.le)) ww rr ew (by omega) (by omega) er (by omega) 96 #[] #[.pointer (some ⟨b1, 0, none⟩)] (fun k => trailLight g (k : Nat)) (fun M _ h'' sub k hk => ?_)) (by rfl) ?_)
  · haveI : BAt h'' b1 (.cells #[.int .i64 g.wide, c] 25) := ⟨sub _ _ (i.at' _ _ (by simp))⟩
    exact picOf1_v h'' c g ((s.le l.le).sub sub) e b1 k (by omega)
  intro v A gr
  rw [← hN] at gr
  repeat first | refine R1 ?_ | refine R2 fun _ => ?_
  exact sf_ret (rO A gr)
theorem partOf_f (h : PHeap) (ca : List Value) (g : Grid) (b : (gridR τ).B h ca g) (e : gridOk g = true) (pv : Value) (pic : List Int) (sp : Sl h pv intF pic) (hp : pic.length = (manyOf g).toNat) (id many : Nat) (h1 : 1 ≤ id) (h2 : id ≤ many) (h3 : many ≤ 3) :
    CallF Tryz.prog M 123 [.agg ca.toArray, pv, .int .i64 (id : Int), .int .i64 (many : Int)] [] h fun u A => Gr A u 3 intF (ownLights pic (manyOf g).toNat many id) := by
  obtain ⟨c, rfl, s⟩ := gridB b
  have o1 := s.one
  have o2 := sp.one
  have hm := (gok e).many
  obtain ⟨S, hS⟩ : ∃ S : Nat, manyOf g = S := ⟨(manyOf g).toNat, by omega⟩
  have hc : ∀ j, j < ownCnt S many id ↔ id - 1 + j * many < S := fun j => ownCnt_lt h1 h2 h3
  have hsm := sp.small
  refine Cs Tryz.func123 Tryz.ntmps123 ?_
  repeat first | refine R1 ?_ | refine R2 fun _ => ?_
  refine fp (y_call (paintOwn_f _ _ g b e id many h1 h2 h3) (by rfl) ?_)
  intro v A1 g1
  rw [hS] at hm hp g1 ⊢
  simp only [Int.toNat_natCast] at hp g1 ⊢
  have o3 := g1.one
  have hl := ownList_len S many id
  have hln : ownCnt S many id ≤ 20 := by
    rcases Nat.lt_or_ge 20 (ownCnt S many id) with h | h
    · have := (hc 20).1 h
      have : 20 * 1 ≤ 20 * many := Nat.mul_le_mul_left _ (by omega)
      omega
    · exact h
  have hat : ∀ j, j < ownCnt S many id → gt (ownList S many id) j = ((id - 1 + j * many : Nat) : Int) := fun j hj => ownList_at hj
  have hol : ∀ n, (ownList S many id).take n = ownList S many id → True := fun _ _ => trivial
  generalize hxs : ownList S many id = xs at *
  repeat first | refine R1 ?_ | refine R2 fun _ => ?_
  rename_i b3
  refine sf_lp (ι := Nat × Value) [1, 15, 16] (fun x => [(17, .int .i64 (x.1 : Int)), (9, x.2)]) (fun x O => x.1 ≤ xs.length ∧ ∃ A', O = A' ++ (A1 ++ [(b3, .cells #[.int .i64 g.wide, c] 25)]) ∧ Gr A' x.2 3 intF ((xs.take x.1).map fun k => gt pic k.toNat)) (fun x => xs.length - x.1) (0, .slice none 0 0) ([] ++ (A1 ++ [(b3, .cells #[.int .i64 g.wide, c] 25)])) ⟨by omega, [], rfl, Gr.nil _ _⟩ ?_
  rintro ⟨j, u⟩ O ⟨hj, A', rfl, gr⟩
  simp only at hj gr ⊢
  have o4 := gr.one
  have hlt : ((xs.take j).map fun k => gt pic k.toNat).length = j := by rw [List.length_map, List.length_take]; omega
  repeat first | refine R1 ?_ | refine R2 fun _ => ?_
  refine sf_if (fun h4 => ?_) fun h4 => ?_
  · have hj4 : j < ownCnt S many id := by omega
    have ha := hat j hj4
    have hb := (hc j).1 hj4
    have hstep : ((xs.take (j + 1)).map fun k => gt pic k.toNat) = ((xs.take j).map fun k => gt pic k.toNat) ++ [gt pic (id - 1 + j * many)] := by
      rw [take_succ_gt (by omega), List.map_append, ha]; rfl
    repeat first | refine R1 ?_ | refine R2 fun _ => ?_
    simp only [ha]
    repeat first | refine R1 ?_ | refine R2 fun _ => ?_
    refine Xb fun w Au gu => ?_
    repeat first | refine R1 ?_ | refine R2 fun _ => ?_
    refine Xa gr gu fun u2 A2 g2 => ?_
    repeat first | refine R1 ?_ | refine R2 fun _ => ?_
    exact ⟨(j + 1, u2), by simp only; omega, ⟨rfl, rfl, trivial⟩, rfl, A2 ++ (A1 ++ [(b3, .cells #[.int .i64 g.wide, c] 25)]), _, inferInstance, by simp only; omega, A2, rfl, by rw [hstep]; exact g2⟩
  · refine sf_exit ?_
    repeat first | refine R1 ?_ | refine R2 fun _ => ?_
    refine sf_ret (rO A' ?_)
    rw [ownLights, hxs, ← take_ge (xs := xs) hj (by omega)]; exact gr
theorem partCheck_f [al : Alone Tryz.prog M] (h : PHeap) (ca : List Value) (k : Keeper) (b : (keeperR τ).B h ca k) (hk : HeadOk k) (z : Int) (i : Nat) (hz : z = i + 1) (hi : i < k.parts.length) : CallF Tryz.prog M 87 [.agg ca.toArray, .int .i64 z] [] h fun u A => ErrIs u (!partOk k (i + 1) (gt k.parts i)) ∧ A = [] := by
  have b0 := b
  obtain ⟨c, ed, p, s, rfl, s1, s2, s3, s4⟩ := keeperB b
  have o1 := s1.one
  have o2 := s2.one
  have o3 := s3.one
  have o4 := s4.one
  have n3 := hk.n3
  obtain ⟨rp, sp, bp⟩ := s3
  have lp := bp.len
  obtain ⟨l, ex, sl⟩ := partB (bp.at hi)
  have ol := sl.one
  have hsl := sl.small
  have hsm := sp.small
  have hi' : i < rp.length := by omega
  generalize hpt : gt k.parts i = pt at *
  have ez : (z - 1).toNat = i := by omega
  haveI : FlatV (rawF (partR τ).sz) (gt rp (z - 1).toNat) [.bool pt.has, .int .i64 pt.ver, l] := ⟨by rw [ez]; exact ex⟩
  refine Cs Tryz.func87 Tryz.ntmps87 ?_
  repeat first | refine R1 ?_ | refine R2 fun _ => ?_
  refine sf_cond (by rfl) (fun e => ?_) fun e => ?_
  · simp only [Bool.not_eq_true'] at e
    repeat first | refine R1 ?_ | refine R2 fun _ => ?_
    refine f_split (fun h1 => ?_) fun h1 => ?_
    · repeat first | refine R1 ?_ | refine R2 fun _ => ?_
      refine sf_T rfl ?_
      repeat first | refine R1 ?_ | refine R2 fun _ => ?_
      exact sf_ret (rO [] ⟨.inr ⟨_, rfl, by simp [partOk, e, h1]⟩, rfl⟩)
    · repeat first | refine R1 ?_ | refine R2 fun _ => ?_
      refine sf_if (fun h2 => ?_) fun h2 => ?_
      · repeat first | refine R1 ?_ | refine R2 fun _ => ?_
        exact sf_ret (rO [] ⟨.inr ⟨_, rfl, by simp [partOk, e]; exact .inr fun h => h2 (by simp [h])⟩, rfl⟩)
      · repeat first | refine R1 ?_ | refine R2 fun _ => ?_
        exact sf_ret (rO [] ⟨.inl ⟨rfl, by simp [partOk, e]; exact ⟨by omega, List.eq_nil_of_length_eq_zero (by omega)⟩⟩, rfl⟩)
  · simp only [Bool.not_eq_false'] at e
    repeat first | refine R1 ?_ | refine R2 fun _ => ?_
    refine fp (y_call (keepVersion_f _ _ k b0 pt.ver) (by rfl) ?_)
    rintro u _ ⟨eu, rfl⟩
    have ou := eu.one
    repeat first | refine R1 ?_ | refine R2 fun _ => ?_
    refine fp (Rq ?_ (neqErr eu (by rfl)))
    repeat first | refine R1 ?_ | refine R2 fun _ => ?_
    refine sf_cond (by rfl) (fun h1 => ?_) fun h1 => ?_
    · rw [h1] at eu
      simp only [Bool.not_eq_true'] at h1
      repeat first | refine R1 ?_ | refine R2 fun _ => ?_
      exact sf_ret (rO [] ⟨by simpa [partOk, e, h1] using eu, rfl⟩)
    · simp only [Bool.not_eq_false'] at h1
      clear eu ou
      repeat first | refine R1 ?_ | refine R2 fun _ => ?_
      refine fp (y_call (keepGridOf_f _ _ k b0 hk pt.ver h1) (by rfl) ?_)
      rintro _ A1 ⟨cs, rfl, q⟩
      obtain ⟨c2, rfl, g1, l1⟩ := gridO q
      have o5 := g1.one
      have gok' := gridAt_ok hk.grid hk.edits pt.ver
      have eL : partLights k (i + 1) pt.ver = ownLights (picOf (gridAt k pt.ver)) (manyOf (gridAt k pt.ver)).toNat k.parts.length (i + 1) := by rw [partLights, gridAt_many]
      rw [show z = ((i + 1 : Nat) : Int) by omega]
      repeat first | refine R1 ?_ | refine R2 fun _ => ?_
      refine sf_draw (by kernel_rfl) (regX_own (A1) (Sw [[],[0],[],[],[3],[],[],[6],[6,7],[2,3,4,5,6,7,8],[0,1,2,3,4,5,6,7,8,9],[0,1,2,3,4,5,6,7,8,9,10]] 10 [Nn 0,Nn 1,Nn 2,Nn 3,Nn 5,Nn 6,Nn 7,Nn 8,Yy 4,Yy 9] ?_))
      refine Da ?_
      refine Yc (lendF A1 fun h' _ inb => picOf_f h' _ _ ((gridR τ).lent q inb) gok') ?_
      rintro v2 _ ⟨A2, rfl, g2⟩
      have o6 := g2.one
      refine Da ?_
      refine Yc (lendF (A1 ++ A2) fun h' _ inb => partOf_f h' _ _ ((gridR τ).lent q (inb_l inb)) gok' v2 _ (g2.lent (by rw [picOf_len]; have := (gok gok').many; omega) (inb_r inb)) (picOf_len _) (i + 1) rp.length (by omega) (by omega) (by omega)) ?_
      rintro v3 _ ⟨A3, rfl, g3⟩
      have o7 := g3.one
      rw [lp, ← eL] at g3
      refine Da ?_
      refine Ae ?_
      refine fp (y_lendV A3 (fun h' l' inb => intsEqual_v h' _ _ _ _ (sl.le l'.le) (g3.lent (by have := partLights_le hk (i + 1) pt.ver; omega) inb)) (by rfl) ?_)
      repeat first | refine R1 ?_ | refine R2 fun _ => ?_
      refine sf_cond (by rfl) (fun h2 => ?_) fun h2 => ?_
      · repeat first | refine R1 ?_ | refine R2 fun _ => ?_
        exact sf_ret (rO [] ⟨.inr ⟨_, rfl, by simp only [Bool.not_eq_true'] at h2; simp [partOk, e, h2]⟩, rfl⟩)
      · repeat first | refine R1 ?_ | refine R2 fun _ => ?_
        exact sf_ret (rO [] ⟨.inl ⟨rfl, by simp only [Bool.not_eq_false'] at h2; simp [partOk, e, h1, h2]⟩, rfl⟩)
theorem keepCheck_f [al : Alone Tryz.prog M] (h : PHeap) (ca : List Value) (k : Keeper) (b : (keeperR τ).B h ca k) : CallF Tryz.prog M 47 [.agg ca.toArray] [] h fun u A => ErrIs u (!keepOk k) ∧ A = [] := by
  have b0 := b
  obtain ⟨c, ed, p, s, rfl, s1, s2, s3, s4⟩ := keeperB b
  have o1 := s1.one
  have o2 := s2.one
  have o3 := s3.one
  have o4 := s4.one
  obtain ⟨rp, sp, bp⟩ := s3
  obtain ⟨rs, ss, bs⟩ := s4
  have lp := bp.len
  have ls := bs.len
  have hsp := sp.small
  have hss := ss.small
  have hs2 := s2.small
  have hN : keepHead k = false → keepOk k = false := fun e => by simp [keepOk, e]
  refine Cs Tryz.func47 Tryz.ntmps47 ?_
  repeat first | refine R1 ?_ | refine R2 fun _ => ?_
  refine Xv (gridOk_v _ _ k.first (gridB_mk s1)) ?_
  repeat first | refine R1 ?_ | refine R2 fun _ => ?_
  refine sf_cond (by rfl) (fun g0 => ?_) fun g0 => ?_
  · simp only [Bool.not_eq_true'] at g0
    repeat first | refine R1 ?_ | refine R2 fun _ => ?_
    exact sf_ret (rO [] ⟨.inr ⟨_, rfl, by rw [hN (by simp [keepHead, g0])]; rfl⟩, rfl⟩)
  simp only [Bool.not_eq_false'] at g0
  repeat first | refine R1 ?_ | refine R2 fun _ => ?_
  refine f_split (fun g1 => ?_) fun g1 => ?_
  · repeat first | refine R1 ?_ | refine R2 fun _ => ?_
    refine sf_T rfl ?_
    repeat first | refine R1 ?_ | refine R2 fun _ => ?_
    exact sf_ret (rO [] ⟨.inr ⟨_, rfl, by rw [hN (by simp [keepHead]; intros; omega)]; rfl⟩, rfl⟩)
  repeat first | refine R1 ?_ | refine R2 fun _ => ?_
  refine sf_if (fun g2 => ?_) fun g2 => ?_
  · repeat first | refine R1 ?_ | refine R2 fun _ => ?_
    exact sf_ret (rO [] ⟨.inr ⟨_, rfl, by rw [hN (by simp [keepHead]; intros; omega)]; rfl⟩, rfl⟩)
  repeat first | refine R1 ?_ | refine R2 fun _ => ?_
  refine f_split (fun g3 => ?_) fun g3 => ?_
  · repeat first | refine R1 ?_ | refine R2 fun _ => ?_
    refine sf_T rfl ?_
    repeat first | refine R1 ?_ | refine R2 fun _ => ?_
    exact sf_ret (rO [] ⟨.inr ⟨_, rfl, by rw [hN (by simp [keepHead]; intros; omega)]; rfl⟩, rfl⟩)
  repeat first | refine R1 ?_ | refine R2 fun _ => ?_
  refine Xv (editsOk_v _ c k.first s1 ed k.edits s2) ?_
  repeat first | refine R1 ?_ | refine R2 fun _ => ?_
  refine sf_cond (by rfl) (fun g4 => ?_) fun g4 => ?_
  · simp only [Bool.not_eq_true'] at g4
    repeat first | refine R1 ?_ | refine R2 fun _ => ?_
    exact sf_ret (rO [] ⟨.inr ⟨_, rfl, by rw [hN (by simp [keepHead, g4])]; rfl⟩, rfl⟩)
  simp only [Bool.not_eq_false'] at g4
  have hk : HeadOk k := ⟨g0, by omega, by omega, by omega, g4⟩
  have hK := hk.is
  have hF : ∀ {b : Bool}, (partsOk k k.parts.length && shownsOk k k.shown.length) = b → keepOk k = b := fun e => by rw [keepOk, hK, Bool.true_and]; exact e
  clear hN
  repeat first | refine R1 ?_ | refine R2 fun _ => ?_
  rename_i b1
  refine sf_lp (ι := Nat) [1] (fun i => [(3, .int .i64 ((i : Int) + 1))]) (fun i O => (i ≤ rp.length ∧ partsOk k i = true) ∧ O = [(b1, .cells #[.int .i64 k.first.wide, c, ed, p, s] 30)]) (fun i => rp.length - i) 0 [(b1, .cells #[.int .i64 k.first.wide, c, ed, p, s] 30)] ⟨⟨by omega, rfl⟩, rfl⟩ ?_
  rintro i O ⟨⟨hi, hpi⟩, rfl⟩
  repeat first | refine R1 ?_ | refine R2 fun _ => ?_
  refine sf_if (fun e1 => ?_) fun e1 => ?_
  · have hi1 : i < k.parts.length := by omega
    repeat first | refine R1 ?_ | refine R2 fun _ => ?_
    refine fp (y_call (partCheck_f _ _ k b0 hk ((i : Int) + 1) i rfl hi1) (by rfl) ?_)
    rintro u _ ⟨eu, rfl⟩
    have ou := eu.one
    repeat first | refine R1 ?_ | refine R2 fun _ => ?_
    refine fp (Rq ?_ (neqErr eu (by rfl)))
    repeat first | refine R1 ?_ | refine R2 fun _ => ?_
    refine sf_cond (by rfl) (fun h1 => ?_) fun h1 => ?_
    · rw [h1] at eu
      simp only [Bool.not_eq_true'] at h1
      repeat first | refine R1 ?_ | refine R2 fun _ => ?_
      exact sf_ret (rO [] ⟨by rw [hF (b := false) (by rw [partsOk_F hi1 h1]; rfl)]; exact eu, rfl⟩)
    · simp only [Bool.not_eq_false'] at h1
      repeat first | refine R1 ?_ | refine R2 fun _ => ?_
      exact ⟨i + 1, by omega, ⟨rfl, trivial⟩, rfl, _, _, inferInstance, ⟨by omega, by rw [partsOk_step, hpi, h1]; rfl⟩, rfl⟩
  · refine sf_exit ?_
    have hpo : partsOk k k.parts.length = true := by rw [show k.parts.length = i by omega]; exact hpi
    clear hpi hi e1
    repeat first | refine R1 ?_ | refine R2 fun _ => ?_
    refine sf_lp (ι := Nat) [1, 55, 56] (fun i => [(5, .int .i64 (prevVer k i)), (57, .int .i64 (i : Int))]) (fun i O => (i ≤ rs.length ∧ shownsOk k i = true) ∧ O = [(b1, .cells #[.int .i64 k.first.wide, c, ed, p, s] 30)]) (fun i => rs.length - i) 0 [(b1, .cells #[.int .i64 k.first.wide, c, ed, p, s] 30)] ⟨⟨by omega, rfl⟩, rfl⟩ ?_
    rintro j O ⟨⟨hi, hpi⟩, rfl⟩
    repeat first | refine R1 ?_ | refine R2 fun _ => ?_
    refine sf_if (fun e2 => ?_) fun e2 => ?_
    · have hi1 : j < k.shown.length := by omega
      have hi2 : j < rs.length := by omega
      obtain ⟨l, ex, sl⟩ := shownB (bs.at hi1)
      have ol := sl.one
      have hsl := sl.small
      haveI : FlatV (rawF (shownR τ).sz) (gt rs j) [.int .i64 (gt k.shown j).ver, l] := ⟨ex⟩
      repeat first | refine R1 ?_ | refine R2 fun _ => ?_
      refine fp (y_call (keepVersion_f _ _ k b0 (gt k.shown j).ver) (by rfl) ?_)
      rintro u _ ⟨eu, rfl⟩
      have ou := eu.one
      repeat first | refine R1 ?_ | refine R2 fun _ => ?_
      refine fp (Rq ?_ (neqErr eu (by rfl)))
      repeat first | refine R1 ?_ | refine R2 fun _ => ?_
      refine sf_cond (by rfl) (fun h1 => ?_) fun h1 => ?_
      · rw [h1] at eu
        simp only [Bool.not_eq_true'] at h1
        repeat first | refine R1 ?_ | refine R2 fun _ => ?_
        exact sf_ret (rO [] ⟨by rw [hF (b := false) (by rw [shownsOk_F hi1 (by simp [shownOk, h1])]; simp)]; exact eu, rfl⟩)
      simp only [Bool.not_eq_false'] at h1
      clear eu ou
      have hvr := h1
      simp only [verOk, Bool.and_eq_true, decide_eq_true_eq] at hvr
      by_cases h2 : (gt k.shown j).ver ≤ prevVer k j
      · repeat first | refine R1 ?_ | refine R2 fun _ => ?_
        refine Sd [[],[0],[],[0,1,2],[0,1,2,3],[0,1,2,3,4],[0,1,2,3,4,5],[0,1,2,3,4],[0,1,2,3,4],[0,1,2,3,4,8],[0,1,2,3,4,7,8,9],[0,1,2,3,4,7,8,9,10],[0,1,2,3,4,5,6,7,8,9,10,11],[0,1,2,3,4,5,6,7,8,9,10,11,12],[0,1,2,3,4,5,6,7,8,9,10,11,12,13]] 12 [Nn 0,Nn 1,Nn 2,Nn 3,Nn 4,Nn 5,Nn 6,Nn 7,Nn 8,Nn 9,Nn 10,Nn 11] ?_
        refine Da ?_
        refine Ae ?_
        repeat first | refine R1 ?_ | refine R2 fun _ => ?_
        refine sf_T rfl ?_
        repeat first | refine R1 ?_ | refine R2 fun _ => ?_
        exact sf_ret (rO [] ⟨.inr ⟨_, rfl, by rw [hF (b := false) (by rw [shownsOk_F hi1 (by simp [shownOk]; intros; omega)]; simp)]; rfl⟩, rfl⟩)
      · have gok' := gridAt_ok hk.grid hk.edits (gt k.shown j).ver
        repeat first | refine R1 ?_ | refine R2 fun _ => ?_
        refine Sd [[],[0],[],[0,1,2],[0,1,2,3],[0,1,2,3,4],[0,1,2,3,4,5],[0,1,2,3,4],[0,1,2,3,4],[0,1,2,3,4,8],[0,1,2,3,4,7,8,9],[0,1,2,3,4,7,8,9,10],[0,1,2,3,4,5,6,7,8,9,10,11],[0,1,2,3,4,5,6,7,8,9,10,11,12],[0,1,2,3,4,5,6,7,8,9,10,11,12,13]] 12 [Nn 0,Nn 1,Nn 2,Nn 3,Nn 4,Nn 5,Nn 6,Nn 7,Nn 8,Nn 9,Yy 10,Yy 11] ?_
        refine Da ?_
        refine a_call (keepGridOf_f _ _ k b0 hk (gt k.shown j).ver h1) (by rfl) (by rfl) (.inr ⟨_, _, _, _, rfl, by rfl, by rfl, decide_eq_false h2⟩) ?_
        rintro _ A1 ⟨cs, rfl, q⟩
        obtain ⟨c2, rfl, g1, l1⟩ := gridO q
        have o5 := g1.one
        refine Da ?_
        refine a_call (lendF A1 fun h' _ inb => picOf_f h' _ _ ((gridR τ).lent q inb) gok') (by rfl) (by rfl) (.inr ⟨_, _, _, _, rfl, by rfl, by rfl, decide_eq_false h2⟩) ?_
        rintro v2 _ ⟨A2, rfl, g2⟩
        have o6 := g2.one
        refine Da ?_
        refine Ae ?_
        refine fp (y_lendV A2 (fun h' l' inb => intsEqual_v h' _ _ _ _ (sl.le l'.le) (g2.lent (by rw [picOf_len]; have := (gok gok').many; omega) inb)) (by rfl) ?_)
        repeat first | refine R1 ?_ | refine R2 fun _ => ?_
        refine sf_cond (by rfl) (fun h3 => ?_) fun h3 => ?_
        · repeat first | refine R1 ?_ | refine R2 fun _ => ?_
          exact sf_ret (rO [] ⟨.inr ⟨_, rfl, by rw [hF (b := false) (by rw [shownsOk_F hi1 (by simp only [Bool.not_eq_true'] at h3; simp [shownOk, h3])]; simp)]; rfl⟩, rfl⟩)
        · simp only [Bool.not_eq_false'] at h3
          repeat first | refine R1 ?_ | refine R2 fun _ => ?_
          refine ⟨j + 1, by omega, ⟨?_, rfl, trivial⟩, rfl, [(b1, .cells #[.int .i64 k.first.wide, c, ed, p, s] 30)], _, inferInstance, ⟨by omega, ?_⟩, rfl⟩
          · simp only [prevVer, Nat.add_sub_cancel, show ¬ (j + 1 = 0) by omega, if_false]; rfl
          · rw [shownsOk_step, hpi, Bool.true_and, shownOk, h1, h3]; simp; omega
    · refine sf_exit ?_
      repeat first | refine R1 ?_ | refine R2 fun _ => ?_
      exact sf_ret (rO [] ⟨.inl ⟨rfl, by rw [hF (b := true) (by rw [hpo, show k.shown.length = j by omega, hpi]; rfl)]; rfl⟩, rfl⟩)
theorem keepOk_v [al : Alone Tryz.prog M] (h : PHeap) [BAt h 0 errObj] (ca : List Value) (k : Keeper) (b : (keeperR τ).B h ca k) : CallV Tryz.prog M 13 [.agg ca.toArray] h (.bool (keepOk k)) := by
  have b0 := b
  obtain ⟨c, ed, p, s, rfl, s1, s2, s3, s4⟩ := keeperB b
  have o1 := s1.one
  have o2 := s2.one
  have o3 := s3.one
  have o4 := s4.one
  refine Cs Tryz.func13 Tryz.ntmps13 ?_
  repeat first | refine R1 ?_ | refine R2 fun _ => ?_
  refine fp (y_call (keepCheck_f _ _ k b0) (by rfl) ?_)
  rintro u _ ⟨eu, rfl⟩
  have ou := eu.one
  repeat first | refine R1 ?_ | refine R2 fun _ => ?_
  refine Xv (refused_v _ u _ eu) ?_
  repeat first | refine R1 ?_ | refine R2 fun _ => ?_
  refine sf_ret (rV ?_)
  simp
theorem keepGrid_f [al : Alone Tryz.prog M] (h : PHeap) [BAt h 0 errObj] (ca : List Value) (k : Keeper) (b : (keeperR τ).B h ca k) (v : Int) : CallF Tryz.prog M 18 [.agg ca.toArray, .int .i64 v] [] h fun u A => ∃ cs, u = .tuple #[.agg cs.toArray, .bool (keepGrid k v).2] ∧ (gridR τ).O A cs (keepGrid k v).1 := by
  have b0 := b
  obtain ⟨c, ed, p, s, rfl, s1, s2, s3, s4⟩ := keeperB b
  have o1 := s1.one
  have o2 := s2.one
  have o3 := s3.one
  have o4 := s4.one
  have eF : (keepOk k && verOk k v) = false → keepGrid k v = (noGrid, false) := fun e => by rw [keepGrid, e]; rfl
  have z0 : (gridR τ).O [] [.int .i64 0, .slice none 0 0] noGrid := gridO_mk (g := noGrid) (Gr.nil _ _) (by decide)
  refine Cs Tryz.func18 Tryz.ntmps18 ?_
  repeat first | refine R1 ?_ | refine R2 fun _ => ?_
  refine Xv (keepOk_v _ _ k b0) ?_
  repeat first | refine R1 ?_ | refine R2 fun _ => ?_
  refine f_splitB (fun h1 => ?_) fun h1 => ?_
  · have h1' := h1
    simp only [Bool.not_eq_true'] at h1'
    repeat first | refine R1 ?_ | refine R2 fun _ => ?_
    refine sf_T rfl ?_
    repeat first | refine R1 ?_ | refine R2 fun _ => ?_
    rw [eF (by rw [h1']; rfl)]
    exact sf_ret (rO [] ⟨_, rfl, z0⟩)
  have h1' := h1
  simp only [Bool.not_eq_false'] at h1'
  repeat first | refine R1 ?_ | refine R2 fun _ => ?_
  refine fp (y_call (keepVersion_f _ _ k b0 v) (by rfl) ?_)
  rintro u _ ⟨eu, rfl⟩
  have ou := eu.one
  repeat first | refine R1 ?_ | refine R2 fun _ => ?_
  refine Xv (refused_v _ u _ eu) ?_
  repeat first | refine R1 ?_ | refine R2 fun _ => ?_
  refine sf_cond (by rfl) (fun h2 => ?_) fun h2 => ?_
  · simp only [Bool.not_eq_true'] at h2
    repeat first | refine R1 ?_ | refine R2 fun _ => ?_
    rw [eF (by rw [h2]; simp)]
    exact sf_ret (rO [] ⟨_, rfl, z0⟩)
  simp only [Bool.not_eq_false'] at h2
  have hh : keepHead k = true := by
    simp only [keepOk, Bool.and_eq_true] at h1'; exact h1'.1.1
  rw [show keepGrid k v = (gridAt k v, true) by rw [keepGrid, h1', h2]; rfl]
  repeat first | refine R1 ?_ | refine R2 fun _ => ?_
  refine fp (y_call (keepGridOf_f _ _ k b0 (keepHead_is hh) v h2) (by rfl) ?_)
  rintro _ A1 ⟨cs, rfl, q⟩
  have q' := q
  obtain ⟨c2, rfl, g1, l1⟩ := gridO q
  have o5 := g1.one
  repeat first | refine R1 ?_ | refine R2 fun _ => ?_
  exact sf_ret (rO A1 ⟨_, rfl, q'⟩)
theorem keepPublished_f (h : PHeap) (c ed p sv : Value) (k : Keeper) (A4 : Own) (s1 : Sl h c cellF k.first.cells) (o2 : Sl.One ed) (s3 : SlR (partR τ) h p k.parts) (g4 : GrR (shownR τ) A4 sv 37 k.shown) (kg : gridOk k.first = true) (n1 : 1 ≤ k.parts.length) (n3 : k.parts.length ≤ 3)
    (pl : ∀ i, i < k.parts.length → (gt k.parts i).has = true → (gt k.parts i).lights.length = ownCnt (manyOf k.first).toNat k.parts.length (i + 1)) (hsh : k.shown.length ≤ 1048576) : CallF Tryz.prog M 106 [.agg #[.int .i64 k.first.wide, c, ed, p, sv]] A4 h fun u A' => ∃ s', u = .agg #[.int .i64 k.first.wide, c, ed, p, s'] ∧ GrR (shownR τ) A' s' 37 (published k).shown := by
  have g40 := g4
  have o1 := s1.one
  have o3 := s3.one
  have o4 := g4.one
  obtain ⟨rp, sp, bp⟩ := s3
  have lp := bp.len
  have hsm := sp.small
  obtain ⟨B0, B1, rfl, rs, gs, oa, hs4⟩ := g4
  have ls := oa.len
  have hm := (gok kg).many
  obtain ⟨S, hS⟩ : ∃ S : Nat, manyOf k.first = S := ⟨(manyOf k.first).toNat, by omega⟩
  have hSn : (manyOf k.first).toNat = S := by rw [hS]; rfl
  rw [hS] at hm
  simp only [hSn] at pl
  obtain ⟨l0, ex0, sl0⟩ := partB (bp.at n1)
  have ol0 := sl0.one
  haveI i0 : FlatV (rawF (partR τ).sz) (gt rp 0) [.bool (gt k.parts 0).has, .int .i64 (gt k.parts 0).ver, l0] := ⟨ex0⟩
  have hrp : 0 < rp.length := by omega
  have hNo : partsSame k k.parts.length = false ∨ shownNewer k = false → (published k).shown = k.shown := fun x => by
    unfold published
    rcases x with x | x <;> simp [x]
  refine Cs Tryz.func106 Tryz.ntmps106 ?_
  repeat first | refine R1 ?_ | refine R2 fun _ => ?_
  refine Xv (sightMany_v _ _ k.first (gridB_mk s1)) ?_
  rw [sightMany_ok kg, hS]
  repeat first | refine R1 ?_ | refine R2 fun _ => ?_
  refine Xm fun pv A0 gp => ?_
  have op := gp.one
  repeat first | refine R1 ?_ | refine R2 fun _ => ?_
  rename_i b1 b2
  refine sf_lp (ι := Nat) [1, 2, 3, 4, 5, 24, 25] (fun i => [(26, .int .i64 (i : Int))]) (fun i O => i ≤ k.parts.length ∧ partsSame k i = true ∧ ∃ A', O = A' ++ (B0 ++ (B1 ++ [(b2, .cells #[.int .i64 0, .slice none 0 0, .slice none 0 0, .slice none 0 0, .slice none 0 0] 30), (b1, .cells #[.int .i64 k.first.wide, c, ed, p, sv] 30)])) ∧ Gr A' pv 3 intF (picUpto k i 0)) (fun i => k.parts.length - i) 0 (A0 ++ (B0 ++ (B1 ++ [(b2, .cells #[.int .i64 0, .slice none 0 0, .slice none 0 0, .slice none 0 0, .slice none 0 0] 30), (b1, .cells #[.int .i64 k.first.wide, c, ed, p, sv] 30)]))) ⟨by omega, rfl, A0, rfl, by rw [picUpto_zero, hSn]; exact gp⟩ ?_
  clear gp A0
  rintro i O ⟨hi, hpi, A', rfl, gp⟩
  repeat first | refine R1 ?_ | refine R2 fun _ => ?_
  refine sf_if (fun h4 => ?_) fun h4 => ?_
  · have hi4 : i < k.parts.length := by omega
    have hi5 : i < rp.length := by omega
    obtain ⟨l, ex, sl⟩ := partB (bp.at hi4)
    have ol := sl.one
    haveI : FlatV (rawF (partR τ).sz) (gt rp i) [.bool (gt k.parts i).has, .int .i64 (gt k.parts i).ver, l] := ⟨ex⟩
    have hret : ((gt k.parts i).has && decide ((gt k.parts i).ver = (gt k.parts 0).ver)) = false → (published k).shown = k.shown := fun x => hNo (.inl (partsSame_F hi4 x))
    repeat first | refine R1 ?_ | refine R2 fun _ => ?_
    refine f_splitB (fun e0 => ?_) fun e0 => ?_
    · have e := e0
      simp only [Bool.not_eq_true'] at e
      repeat first | refine R1 ?_ | refine R2 fun _ => ?_
      refine sf_T rfl ?_
      repeat first | refine R1 ?_ | refine R2 fun _ => ?_
      exact sf_ret (rO (B0 ++ B1) ⟨sv, rfl, by rw [hret (by rw [e]; rfl)]; exact g40⟩)
    have e := e0
    simp only [Bool.not_eq_false'] at e
    repeat first | refine R1 ?_ | refine R2 fun _ => ?_
    refine sf_if (fun h6 => ?_) fun h6 => ?_
    · repeat first | refine R1 ?_ | refine R2 fun _ => ?_
      exact sf_ret (rO (B0 ++ B1) ⟨sv, rfl, by rw [hret (by rw [e, decide_eq_false h6]; rfl)]; exact g40⟩)
    have hln := pl i hi4 e
    repeat first | refine R1 ?_ | refine R2 fun _ => ?_
    rw [lp]
    refine fp (y_call (paintOwn_f _ _ k.first (gridB_mk s1) kg (i + 1) k.parts.length (by omega) (by omega) n3) (by rfl) ?_)
    intro xv A1 g1
    rw [hSn] at g1
    have ox := g1.one
    have hl := ownList_len S k.parts.length (i + 1)
    have hc : ∀ j, j < ownCnt S k.parts.length (i + 1) ↔ i + 1 - 1 + j * k.parts.length < S := fun j => ownCnt_lt (by omega) (by omega) n3
    have hat : ∀ j, j < ownCnt S k.parts.length (i + 1) → gt (ownList S k.parts.length (i + 1)) j = ((i + 1 - 1 + j * k.parts.length : Nat) : Int) := fun j hj => ownList_at hj
    have hcl : ownCnt S k.parts.length (i + 1) ≤ S := by
      rcases Nat.lt_or_ge S (ownCnt S k.parts.length (i + 1)) with y | y
      · have := (hc S).1 y
        have : S * 1 ≤ S * k.parts.length := Nat.mul_le_mul_left _ n1
        omega
      · exact y
    generalize hcn : ownCnt S k.parts.length (i + 1) = cn at *
    generalize hxs : ownList S k.parts.length (i + 1) = xs at *
    repeat first | refine R1 ?_ | refine R2 fun _ => ?_
    rename_i b7
    refine sf_lp (ι := Nat) [1, 2, 3, 4, 5, 6, 7, 24, 25, 26, 46, 47] (fun j => [(48, .int .i64 (j : Int))]) (fun j O => j ≤ cn ∧ ∃ A', O = A' ++ (A1 ++ ((b7, .cells #[.bool (gt k.parts i).has, .int .i64 (gt k.parts i).ver, l] 35) :: (B0 ++ (B1 ++ [(b2, .cells #[.int .i64 0, .slice none 0 0, .slice none 0 0, .slice none 0 0, .slice none 0 0] 30), (b1, .cells #[.int .i64 k.first.wide, c, ed, p, sv] 30)])))) ∧ Gr A' pv 3 intF (picUpto k i j)) (fun j => cn - j) 0 (A' ++ (A1 ++ ((b7, .cells #[.bool (gt k.parts i).has, .int .i64 (gt k.parts i).ver, l] 35) :: (B0 ++ (B1 ++ [(b2, .cells #[.int .i64 0, .slice none 0 0, .slice none 0 0, .slice none 0 0, .slice none 0 0] 30), (b1, .cells #[.int .i64 k.first.wide, c, ed, p, sv] 30)]))))) ⟨by omega, A', rfl, gp⟩ ?_
    clear gp A'
    rintro j O ⟨hj, A', rfl, gp⟩
    have hpl : (picUpto k i j).length = S := by rw [picUpto_len, hSn]
    repeat first | refine R1 ?_ | refine R2 fun _ => ?_
    refine sf_if (fun h7 => ?_) fun h7 => ?_
    · have hj7 : j < cn := by omega
      have ha := hat j hj7
      have hb := (hc j).1 hj7
      repeat first | refine R1 ?_ | refine R2 fun _ => ?_
      simp only [ha]
      repeat first | refine R1 ?_ | refine R2 fun _ => ?_
      refine Xg gp fun A2 ys ey ly _ g2 => ?_
      obtain rfl := ey.trans (picUpto_step k hi4)
      repeat first | refine R1 ?_ | refine R2 fun _ => ?_
      exact ⟨j + 1, by omega, ⟨rfl, trivial⟩, rfl, A2 ++ (A1 ++ ((b7, .cells #[.bool (gt k.parts i).has, .int .i64 (gt k.parts i).ver, l] 35) :: (B0 ++ (B1 ++ [(b2, .cells #[.int .i64 0, .slice none 0 0, .slice none 0 0, .slice none 0 0, .slice none 0 0] 30), (b1, .cells #[.int .i64 k.first.wide, c, ed, p, sv] 30)])))), _, inferInstance, by omega, A2, rfl, g2⟩
    · refine sf_exit ?_
      obtain rfl : j = cn := by omega
      rw [← hcn, ← hSn, picUpto_next k hi4 n3] at gp
      repeat first | refine R1 ?_ | refine R2 fun _ => ?_
      refine ⟨i + 1, by omega, ⟨rfl, trivial⟩, rfl, A' ++ (B0 ++ (B1 ++ [(b2, .cells #[.int .i64 0, .slice none 0 0, .slice none 0 0, .slice none 0 0, .slice none 0 0] 30), (b1, .cells #[.int .i64 k.first.wide, c, ed, p, sv] 30)])), _, inferInstance, by omega, ?_, A', rfl, gp⟩
      rw [partsSame_step, hpi, e]
      simpa using h6
  · refine sf_exit ?_
    obtain rfl : i = k.parts.length := by omega
    rw [picUpto_end k n1] at gp
    have hpp : (pubPic k).length = S := by simp [pubPic, hSn]
    have hYes : shownNewer k = true → (published k).shown = k.shown ++ [⟨(gt k.parts 0).ver, pubPic k⟩] := fun x => by
      unfold published
      rw [hpi, x]; rfl
    have hend : ∀ (s' : Value) (A5 : Own), Gr A5 s' 37 (rawF (shownR τ).sz) (rs ++ [⟨[.int .i64 (gt k.parts 0).ver, pv], rfl⟩]) → GrR (shownR τ) (A5 ++ (B1 ++ A')) s' 37 (k.shown ++ [⟨(gt k.parts 0).ver, pubPic k⟩]) := fun s' A5 g5 =>
      ⟨A5, B1 ++ A', rfl, _, g5, oa.snoc (shownO_mk (p := ⟨(gt k.parts 0).ver, pubPic k⟩) gp (by simp only; omega)), by simp; omega⟩
    by_cases h0 : k.shown.length = 0
    · have hr0 : rs.length = 0 := by omega
      rw [hYes (by simp [shownNewer, h0])]
      repeat first | refine R1 ?_ | refine R2 fun _ => ?_
      refine f_split (fun h8 => ?_) fun h8 => ?_
      · omega
      repeat first | refine R1 ?_ | refine R2 fun _ => ?_
      refine sf_N (by first | rfl | (simp; omega)) ?_
      repeat first | refine R1 ?_ | refine R2 fun _ => ?_
      refine Xb fun u Au gu => ?_
      repeat first | refine R1 ?_ | refine R2 fun _ => ?_
      refine fp (y_append (by rfl) (by rfl) gs gu (by intro y hy; simp at hy; subst hy; exact (inferInstance : AllOne [Value.int .i64 (gt k.parts 0).ver, pv]).is) (by rfl) (by rfl) (by simp; omega) (by simp; omega) fun s2 A5 g5 => ?_)
      have o9 := g5.one
      repeat first | refine R1 ?_ | refine R2 fun _ => ?_
      exact sf_ret (rO (A5 ++ (B1 ++ A')) ⟨s2, rfl, hend s2 A5 g5⟩)
    · obtain ⟨m, hm'⟩ : ∃ m : Nat, k.shown.length = m + 1 := ⟨k.shown.length - 1, by omega⟩
      have hrm : rs.length = m + 1 := by omega
      obtain ⟨_, _, _, -, qk, -⟩ := oa.at (k := m) (by omega)
      obtain ⟨lm, exm, gm⟩ := shownO qk
      have olm : Sl.One lm := by first | exact gm.1.one | exact gm.one
      have hix : ((rs.length : Int) - 1) = (m : Int) := by omega
      have hm5 : m < rs.length := by omega
      haveI : FlatV (rawF (shownR τ).sz) (gt rs m) [.int .i64 (gt k.shown m).ver, lm] := ⟨exm⟩
      have hnw : shownNewer k = decide ((gt k.shown m).ver < (gt k.parts 0).ver) := by
        rw [shownNewer, hm', Nat.add_sub_cancel]; simp
      repeat first | refine R1 ?_ | refine R2 fun _ => ?_
      simp only [hix]
      refine f_split (fun h8 => ?_) fun h8 => ?_
      · repeat first | refine R1 ?_ | refine R2 fun _ => ?_
        refine sf_if (fun h9 => ?_) fun h9 => ?_
        · rw [hNo (.inr (by rw [hnw]; simp; omega))]
          repeat first | refine R1 ?_ | refine R2 fun _ => ?_
          exact sf_ret (rO (B0 ++ B1) ⟨sv, rfl, g40⟩)
        · rw [hYes (by rw [hnw]; simp; omega)]
          repeat first | refine R1 ?_ | refine R2 fun _ => ?_
          refine Xb fun u Au gu => ?_
          repeat first | refine R1 ?_ | refine R2 fun _ => ?_
          refine fp (y_append (by rfl) (by rfl) gs gu (by intro y hy; simp at hy; subst hy; exact (inferInstance : AllOne [Value.int .i64 (gt k.parts 0).ver, pv]).is) (by rfl) (by rfl) (by simp; omega) (by simp; omega) fun s2 A5 g5 => ?_)
          have o9 := g5.one
          repeat first | refine R1 ?_ | refine R2 fun _ => ?_
          exact sf_ret (rO (A5 ++ (B1 ++ A')) ⟨s2, rfl, hend s2 A5 g5⟩)
      · omega
theorem cloneEdits_f (h : PHeap) (v : Value) (xs : List Edit) (s : Sl h v editF xs) (hs : xs.length ≤ 1048576) : CallF Tryz.prog M 104 [v] [] h fun v' A => Gr A v' 48 editF xs := by
  have o1 := s.one
  refine Cs Tryz.func104 Tryz.ntmps104 ?_
  refine Wo ?_
  refine fp (Rq ?_ (q_eqNil (by infer_instance) (by rfl) (by rfl) s))
  refine Wo ?_
  refine sf_cond (by rfl) (fun h1 => ?_) fun h1 => ?_
  · obtain ⟨rfl, rfl⟩ := isNilS_nil s h1
    refine Wo ?_
    exact sf_ret (rO [] (Gr.nil _ _))
  · refine Wo ?_
    refine Xb fun w A gw => ?_
    refine Wo ?_
    refine Xs gw s fun w2 A2 g2 => ?_
    refine Wo ?_
    exact sf_ret (rO A2 g2)
theorem cloneInts_f (h : PHeap) (v : Value) (xs : List Int) (s : Sl h v intF xs) (hs : xs.length ≤ 1048576) : CallF Tryz.prog M 105 [v] [] h fun v' A => Gr A v' 3 intF xs := by
  have o1 := s.one
  refine Cs Tryz.func105 Tryz.ntmps105 ?_
  refine Wo ?_
  refine fp (Rq ?_ (q_eqNil (by infer_instance) (by rfl) (by rfl) s))
  refine Wo ?_
  refine sf_cond (by rfl) (fun h1 => ?_) fun h1 => ?_
  · obtain ⟨rfl, rfl⟩ := isNilS_nil s h1
    refine Wo ?_
    exact sf_ret (rO [] (Gr.nil _ _))
  · refine Wo ?_
    refine Xb fun w A gw => ?_
    refine Wo ?_
    refine Xs gw s fun w2 A2 g2 => ?_
    refine Wo ?_
    exact sf_ret (rO A2 g2)
theorem keepCopy_f (h : PHeap) (ca : List Value) (k : Keeper) (b : (keeperR τ).B h ca k) (hs : szKeeperN k ≤ 1048576) : CallF Tryz.prog M 68 [.agg ca.toArray] [] h fun u A => ∃ cs, u = .agg cs.toArray ∧ (keeperR τ).O A cs k := by
  obtain ⟨z1, z2, z3, z4⟩ := szKeeper_parts hs
  have hz3 : szPartSN k.parts = k.parts.length + sizeL szPartN k.parts := rfl
  have hz4 : szShownSN k.shown = k.shown.length + sizeL szShownN k.shown := rfl
  obtain ⟨c, ed, p, s, rfl, s1, s2, s3, s4⟩ := keeperB b
  have o1 := s1.one
  have o2 := s2.one
  have o3 := s3.one
  have o4 := s4.one
  obtain ⟨rp, sp, bp⟩ := s3
  obtain ⟨rs, ss, bs⟩ := s4
  have lp := bp.len
  have ls := bs.len
  refine Cs Tryz.func68 Tryz.ntmps68 ?_
  repeat first | refine R1 ?_ | refine R2 fun _ => ?_
  refine sf_draw (by kernel_rfl) (regX_split 2 7 (by rfl) (regX_split 5 7 (by rfl) ?_ ?_) ?_)
  case' refine_1 =>
    refine Sr [[],[0],[0,1],[],[3],[0,1,2,3,4],[0,1,2,3,4,5],[0,1,2,3,4,5],[0,1,2,3,4,5,6,7]] 8 [Nn 0,Nn 1,Nn 3,Nn 4,Yy 2,Yy 5,Nn 6,Yy 7] ?_
    refine Da ?_
    refine Yc (gridCopy_f _ _ k.first (gridB_mk s1) z1) ?_
    rintro _ AC ⟨_, rfl, q⟩
    obtain ⟨c2, rfl, g1, l1⟩ := gridO q
    have o5 := g1.one
    refine Da ?_
    refine Yc (cloneEdits_f _ _ _ s2 z2) fun e2 AE ge => ?_
    have o6 := ge.one
    refine Da ?_
    refine Yl fun b5 => ?_
    refine Da ?_
    refine Ae ?_
    repeat first | refine R1 ?_ | refine R2 fun _ => ?_
    rename_i b1 b2
    refine sf_own ((b5, .cells #[.int .i64 k.first.wide, c2, e2, .slice none 0 0, .slice none 0 0] 30) :: ([] ++ [] ++ (AC ++ (AE ++ [(b2, .cells #[.int .i64 0, .slice none 0 0, .slice none 0 0, .slice none 0 0, .slice none 0 0] 30), (b1, .cells #[.int .i64 k.first.wide, c, ed, p, s] 30)])))) ?_
  case' refine_2 =>
    refine Sr [[],[0],[0,1],[],[3],[0,1,2,3,4,7],[0,1,2,3,4,5,7],[0,1,2],[0,1,2,3,4,5,6,7]] 8 [Nn 0,Nn 1,Nn 3,Nn 4,Yy 2,Yy 7,Yy 5,Nn 6] ?_
    refine Da ?_
    refine Yc (gridCopy_f _ _ k.first (gridB_mk s1) z1) ?_
    rintro _ AC ⟨_, rfl, q⟩
    obtain ⟨c2, rfl, g1, l1⟩ := gridO q
    have o5 := g1.one
    refine Da ?_
    refine Yl fun b5 => ?_
    refine Da ?_
    refine Yc (cloneEdits_f _ _ _ s2 z2) fun e2 AE ge => ?_
    have o6 := ge.one
    refine Da ?_
    refine Ae ?_
    repeat first | refine R1 ?_ | refine R2 fun _ => ?_
    rename_i b1 b2
    refine sf_own ((b5, .cells #[.int .i64 k.first.wide, c2, e2, .slice none 0 0, .slice none 0 0] 30) :: ([] ++ [] ++ (AC ++ (AE ++ [(b2, .cells #[.int .i64 0, .slice none 0 0, .slice none 0 0, .slice none 0 0, .slice none 0 0] 30), (b1, .cells #[.int .i64 k.first.wide, c, ed, p, s] 30)])))) ?_
  case' refine_3 =>
    refine Sr [[],[0],[0,1,7],[],[3],[0,1,2,3,4,7],[0,1,2,3,4,5,7],[],[0,1,2,3,4,5,6,7]] 8 [Nn 0,Nn 1,Nn 3,Nn 4,Yy 7,Yy 2,Yy 5,Nn 6] ?_
    refine Da ?_
    refine Yl fun b5 => ?_
    refine Da ?_
    refine Yc (gridCopy_f _ _ k.first (gridB_mk s1) z1) ?_
    rintro _ AC ⟨_, rfl, q⟩
    obtain ⟨c2, rfl, g1, l1⟩ := gridO q
    have o5 := g1.one
    refine Da ?_
    refine Yc (cloneEdits_f _ _ _ s2 z2) fun e2 AE ge => ?_
    have o6 := ge.one
    refine Da ?_
    refine Ae ?_
    repeat first | refine R1 ?_ | refine R2 fun _ => ?_
    rename_i b1 b2
    refine sf_own ((b5, .cells #[.int .i64 k.first.wide, c2, e2, .slice none 0 0, .slice none 0 0] 30) :: ([] ++ [] ++ (AC ++ (AE ++ [(b2, .cells #[.int .i64 0, .slice none 0 0, .slice none 0 0, .slice none 0 0, .slice none 0 0] 30), (b1, .cells #[.int .i64 k.first.wide, c, ed, p, s] 30)])))) ?_
  all_goals
    refine sf_lp [1, 2, 3, 16, 17] (fun i : Nat => [(18, .int .i64 (i : Int))]) (fun i O => i ≤ k.parts.length ∧ ∃ pv A0 A1, O = (b5, .cells #[.int .i64 k.first.wide, c2, e2, pv, .slice none 0 0] 30) :: (A0 ++ A1 ++ (AC ++ (AE ++ [(b2, .cells #[.int .i64 0, .slice none 0 0, .slice none 0 0, .slice none 0 0, .slice none 0 0] 30), (b1, .cells #[.int .i64 k.first.wide, c, ed, p, s] 30)]))) ∧ ∃ qs : List (Raw (partR τ).sz), qs.length = i ∧ Gr A0 pv 35 (rawF (partR τ).sz) qs ∧ OAll (partR τ) A1 qs (k.parts.take i)) (fun i => k.parts.length - i) 0 ((b5, .cells #[.int .i64 k.first.wide, c2, e2, .slice none 0 0, .slice none 0 0] 30) :: ([] ++ [] ++ (AC ++ (AE ++ [(b2, .cells #[.int .i64 0, .slice none 0 0, .slice none 0 0, .slice none 0 0, .slice none 0 0] 30), (b1, .cells #[.int .i64 k.first.wide, c, ed, p, s] 30)])))) ⟨by omega, _, [], [], rfl, [], rfl, Gr.nil _ _, .nil⟩ ?_
    rintro i O ⟨hi, pv, A0, A1, rfl, qs, hq, gq, oa⟩
    have o7 := gq.one
    repeat first | refine R1 ?_ | refine R2 fun _ => ?_
    refine sf_if (fun h4 => ?_) fun h4 => ?_
    · have hi4 : i < k.parts.length := by omega
      have hi5 : i < rp.length := by omega
      obtain ⟨l, ex, sl⟩ := partB (bp.at hi4)
      have ol := sl.one
      haveI : FlatV (rawF (partR τ).sz) (gt rp i) [.bool (gt k.parts i).has, .int .i64 (gt k.parts i).ver, l] := ⟨ex⟩
      have hsz := sizeL_at (f := szPartN) hi4
      have hsl : (gt k.parts i).lights.length ≤ 1048576 := by simp only [szPartN] at hsz hz3; omega
      repeat first | refine R1 ?_ | refine R2 fun _ => ?_
      refine Xc (cloneInts_f _ _ _ sl hsl) fun l2 AL gl => ?_
      have ol2 := gl.one
      repeat first | refine R1 ?_ | refine R2 fun _ => ?_
      refine Xb fun u Au gu => ?_
      repeat first | refine R1 ?_ | refine R2 fun _ => ?_
      refine fp (y_append (by rfl) (by rfl) gq gu (by intro y hy; simp at hy; subst hy; exact (inferInstance : AllOne [Value.bool (gt k.parts i).has, .int .i64 (gt k.parts i).ver, l2]).is) (by rfl) (by rfl) (by simp; omega) (by simp; omega) fun pv2 A5 g5 => ?_)
      have o8 := g5.one
      repeat first | refine R1 ?_ | refine R2 fun _ => ?_
      refine ⟨i + 1, by omega, ⟨rfl, trivial⟩, rfl, (b5, .cells #[.int .i64 k.first.wide, c2, e2, pv2, .slice none 0 0] 30) :: (A5 ++ (A1 ++ AL) ++ (AC ++ (AE ++ [(b2, .cells #[.int .i64 0, .slice none 0 0, .slice none 0 0, .slice none 0 0, .slice none 0 0] 30), (b1, .cells #[.int .i64 k.first.wide, c, ed, p, s] 30)]))), _, inferInstance, by omega, pv2, A5, A1 ++ AL, rfl, _, by simp [hq], g5, ?_⟩
      rw [take_succ_gt hi4]
      exact oa.snoc (partO_mk (p := gt k.parts i) gl (by omega))
    · refine sf_exit ?_
      rw [take_ge hi (by omega)] at oa
      clear h4
      repeat first | refine R1 ?_ | refine R2 fun _ => ?_
      refine sf_lp [2, 3, 34, 35] (fun j : Nat => [(36, .int .i64 (j : Int))]) (fun j O => j ≤ k.shown.length ∧ ∃ sv A3 A4, O = (b5, .cells #[.int .i64 k.first.wide, c2, e2, pv, sv] 30) :: (A3 ++ A4 ++ (A0 ++ A1 ++ (AC ++ (AE ++ [(b2, .cells #[.int .i64 0, .slice none 0 0, .slice none 0 0, .slice none 0 0, .slice none 0 0] 30), (b1, .cells #[.int .i64 k.first.wide, c, ed, p, s] 30)])))) ∧ ∃ ts : List (Raw (shownR τ).sz), ts.length = j ∧ Gr A3 sv 37 (rawF (shownR τ).sz) ts ∧ OAll (shownR τ) A4 ts (k.shown.take j)) (fun j => k.shown.length - j) 0 ((b5, .cells #[.int .i64 k.first.wide, c2, e2, pv, .slice none 0 0] 30) :: ([] ++ [] ++ (A0 ++ A1 ++ (AC ++ (AE ++ [(b2, .cells #[.int .i64 0, .slice none 0 0, .slice none 0 0, .slice none 0 0, .slice none 0 0] 30), (b1, .cells #[.int .i64 k.first.wide, c, ed, p, s] 30)]))))) ⟨by omega, _, [], [], rfl, [], rfl, Gr.nil _ _, .nil⟩ ?_
      rintro j O ⟨hj, sv, A3, A4, rfl, ts, ht, gt', ob⟩
      have o8 := gt'.one
      repeat first | refine R1 ?_ | refine R2 fun _ => ?_
      refine sf_if (fun h4 => ?_) fun h4 => ?_
      · have hj4 : j < k.shown.length := by omega
        have hj5 : j < rs.length := by omega
        obtain ⟨l, ex, sl⟩ := shownB (bs.at hj4)
        have ol := sl.one
        haveI : FlatV (rawF (shownR τ).sz) (gt rs j) [.int .i64 (gt k.shown j).ver, l] := ⟨ex⟩
        have hsz := sizeL_at (f := szShownN) hj4
        have hsl : (gt k.shown j).pic.length ≤ 1048576 := by simp only [szShownN] at hsz hz4; omega
        repeat first | refine R1 ?_ | refine R2 fun _ => ?_
        refine Xc (cloneInts_f _ _ _ sl hsl) fun l2 AL gl => ?_
        have ol2 := gl.one
        repeat first | refine R1 ?_ | refine R2 fun _ => ?_
        refine Xb fun u Au gu => ?_
        repeat first | refine R1 ?_ | refine R2 fun _ => ?_
        refine fp (y_append (by rfl) (by rfl) gt' gu (by intro y hy; simp at hy; subst hy; exact (inferInstance : AllOne [Value.int .i64 (gt k.shown j).ver, l2]).is) (by rfl) (by rfl) (by simp; omega) (by simp; omega) fun sv2 A5 g5 => ?_)
        have o9 := g5.one
        repeat first | refine R1 ?_ | refine R2 fun _ => ?_
        refine ⟨j + 1, by omega, ⟨rfl, trivial⟩, rfl, (b5, .cells #[.int .i64 k.first.wide, c2, e2, pv, sv2] 30) :: (A5 ++ (A4 ++ AL) ++ (A0 ++ A1 ++ (AC ++ (AE ++ [(b2, .cells #[.int .i64 0, .slice none 0 0, .slice none 0 0, .slice none 0 0, .slice none 0 0] 30), (b1, .cells #[.int .i64 k.first.wide, c, ed, p, s] 30)])))), _, inferInstance, by omega, sv2, A5, A4 ++ AL, rfl, _, by simp [ht], g5, ?_⟩
        rw [take_succ_gt hj4]
        exact ob.snoc (shownO_mk (p := gt k.shown j) gl (by omega))
      · refine sf_exit ?_
        rw [take_ge hj (by omega)] at ob
        repeat first | refine R1 ?_ | refine R2 fun _ => ?_
        exact sf_ret (rO (AC ++ (AE ++ ((A0 ++ A1) ++ (A3 ++ A4)))) ⟨_, rfl, keeperO_mk g1 l1 ge (by omega) ⟨A0, A1, rfl, qs, gq, oa, by omega⟩ ⟨A3, A4, rfl, ts, gt', ob, by omega⟩⟩)
theorem keeperO_one {A : Own} {cs : List Value} {k : Keeper} (b : (keeperR τ).O A cs k) : ∃ c e p s, cs = [.int .i64 k.first.wide, c, e, p, s] ∧ Sl.One c ∧ Sl.One e ∧ Sl.One p ∧ Sl.One s := by
  obtain ⟨c, e, p, s, _, _, _, _, h, -, ⟨g1, -⟩, ⟨g2, -⟩, g3, g4⟩ := keeperO b
  exact ⟨c, e, p, s, h, g1.one, g2.one, g3.one, g4.one⟩
theorem pl_of {k : Keeper} (ok : keepOk k = true) : ∀ i, i < k.parts.length → (gt k.parts i).has = true → (gt k.parts i).lights.length = ownCnt (manyOf k.first).toNat k.parts.length (i + 1) := fun i hi hh => by
  have := keepOk_part ok hi
  unfold partOk at this
  rw [if_pos hh] at this
  simp only [Bool.and_eq_true, decide_eq_true_eq] at this
  rw [this.2, partLights, ownLights_len]
theorem setPart_at (k : Keeper) (i j : Nat) (p : Part) (hj : j < k.parts.length) : gt (setPart k i p).parts j = if i = j then p else gt k.parts j := by
  rw [gt_eq (by simpa [setPart] using hj), gt_eq hj]
  simp only [setPart, List.getElem_set]
theorem pub_first (k : Keeper) : (published k).first = k.first ∧ (published k).edits = k.edits ∧ (published k).parts = k.parts := by
  unfold published; split <;> exact ⟨rfl, rfl, rfl⟩
theorem pub_no {k : Keeper} {i : Nat} (hi : i < k.parts.length) : published (setPart k i noPart) = setPart k i noPart := by
  have h1 : partsSame (setPart k i noPart) (setPart k i noPart).parts.length = false := partsSame_F (i := i) (by simpa [setPart] using hi) (by rw [setPart_at k i i _ hi, if_pos rfl]; rfl)
  unfold published
  rw [h1]; rfl
theorem pl_set {k : Keeper} (pl : ∀ i, i < k.parts.length → (gt k.parts i).has = true → (gt k.parts i).lights.length = ownCnt (manyOf k.first).toNat k.parts.length (i + 1)) (i : Nat) (q : Part) (hq : q.has = true → q.lights.length = ownCnt (manyOf k.first).toNat k.parts.length (i + 1)) :
    ∀ j, j < (setPart k i q).parts.length → (gt (setPart k i q).parts j).has = true → (gt (setPart k i q).parts j).lights.length = ownCnt (manyOf (setPart k i q).first).toNat (setPart k i q).parts.length (j + 1) := fun j hj hh => by
  have hl : (setPart k i q).parts.length = k.parts.length := by simp [setPart]
  have hj' : j < k.parts.length := by omega
  rw [setPart_at _ _ _ _ hj'] at hh ⊢
  rw [hl]
  by_cases e : i = j
  · subst e
    rw [if_pos rfl] at hh ⊢
    exact hq hh
  · rw [if_neg e] at hh ⊢
    exact pl j hj' hh
theorem keepHeard_f (h : PHeap) [BAt h 0 errObj] (A : Own) (ca : List Value) (k : Keeper) (b : (keeperR τ).O A ca k) (ok : keepOk k = true) (hs : szKeeperN k ≤ 1048576) (cw : List Value) (w : Word) (bw : (wordR τ).B h cw w) (hw : w.lights.length ≤ 1048576) : CallF Tryz.prog M 69 [.agg ca.toArray, .agg cw.toArray] A h fun u A' => ∃ cs, u = .agg cs.toArray ∧ (keeperR τ).O A' cs (heard k w) := by
  have b0 := b
  obtain ⟨z1, z2, z3, z4⟩ := szKeeper_parts hs
  have hz4 : szShownSN k.shown = k.shown.length + sizeL szShownN k.shown := rfl
  have hk := keepOk_head ok
  have n1 := hk.n1
  have n3 := hk.n3
  have h60 := hk.e60
  obtain ⟨c, ed, p, s, A1, A2, A3, A4, rfl, rfl, ⟨g1, l1⟩, ⟨g2, le2⟩, g3, g4⟩ := keeperO b
  have o1 := g1.one
  have o2 := g2.one
  have o3 := g3.one
  have o4 := g4.one
  obtain ⟨wc, wl, rfl, sw1, sw2⟩ := wordB bw
  have o5 := sw1.one
  have o6 := sw2.one
  obtain ⟨B0, B1, rfl, rs, gq, oa, hq4⟩ := g3
  have lq := oa.len
  have hsh : k.shown.length ≤ 1048576 := by omega
  refine Cs Tryz.func69 Tryz.ntmps69 ?_
  repeat first | refine R1 ?_ | refine R2 fun _ => ?_
  refine f_split (fun h1 => ?_) fun h1 => ?_
  · repeat first | refine R1 ?_ | refine R2 fun _ => ?_
    refine sf_T rfl ?_
    repeat first | refine R1 ?_ | refine R2 fun _ => ?_
    rw [heard, if_neg (by omega)]
    exact sf_ret (rO (A1 ++ (A2 ++ ((B0 ++ B1) ++ A4))) ⟨[.int .i64 k.first.wide, c, ed, p, s], rfl, b0⟩)
  repeat first | refine R1 ?_ | refine R2 fun _ => ?_
  refine sf_if (fun h2 => ?_) fun h2 => ?_
  · repeat first | refine R1 ?_ | refine R2 fun _ => ?_
    rw [heard, if_neg (by omega)]
    exact sf_ret (rO (A1 ++ (A2 ++ ((B0 ++ B1) ++ A4))) ⟨[.int .i64 k.first.wide, c, ed, p, s], rfl, b0⟩)
  rw [heard, if_pos (by omega)]
  obtain ⟨i, hi, hz⟩ : ∃ i : Nat, i < k.parts.length ∧ w.frm = i + 1 := ⟨(w.frm - 1).toNat, by omega, by omega⟩
  have ei : w.frm.toNat - 1 = i := by omega
  have ez : w.frm - 1 = (i : Int) := by omega
  rw [ei]
  have hi5 : i < rs.length := by omega
  obtain ⟨C1, Ck, C2, rfl, qk, oset⟩ := oa.at hi
  obtain ⟨lk0, exk, gk, lk1⟩ := partO qk
  have olk := gk.one
  haveI : FlatV (rawF (partR τ).sz) (gt rs i) [.bool (gt k.parts i).has, .int .i64 (gt k.parts i).ver, lk0] := ⟨exk⟩
  have hpl := pl_of ok
  repeat first | refine R1 ?_ | refine R2 fun _ => ?_
  refine sf_if (fun h3 => ?_) fun h3 => ?_
  · rw [if_pos h3]
    repeat first | refine R1 ?_ | refine R2 fun _ => ?_
    simp only [ez]
    repeat first | refine R1 ?_ | refine R2 fun _ => ?_
    refine Xg gq fun D0 ys ey ly _ g5 => ?_
    have oall := oset [] ⟨[.bool false, .int .i64 0, .slice none 0 0], rfl⟩ noPart (partO_mk (p := noPart) (Gr.nil _ _) (by decide))
    have g3' : GrR (partR τ) (D0 ++ (C1 ++ ([] ++ C2))) p 35 (setPart k i noPart).parts := ⟨D0, _, rfl, ys, g5, by rw [ey]; exact oall, by simp [setPart]; omega⟩
    have hl : (setPart k i noPart).parts.length = k.parts.length := by simp [setPart]
    repeat first | refine R1 ?_ | refine R2 fun _ => ?_
    refine fp (y_call (lendF (A1 ++ (D0 ++ (C1 ++ ([] ++ C2)))) fun h' l' inb => keepPublished_f h' c ed p s (setPart k i noPart) A4 (g1.lent l1 (inb_l inb)) o2 (g3'.lent (inb_r inb)) g4 hk.grid (by omega) (by omega) (pl_set hpl i noPart (fun x => by cases x)) hsh) (by rfl) ?_)
    rintro u _ ⟨A', rfl, s', rfl, gs'⟩
    rw [pub_no hi] at gs'
    have o9 := gs'.one
    repeat first | refine R1 ?_ | refine R2 fun _ => ?_
    exact sf_ret (rO (A1 ++ (A2 ++ ((D0 ++ (C1 ++ ([] ++ C2))) ++ A'))) ⟨[.int .i64 k.first.wide, c, ed, p, s'], rfl, keeperO_mk (k := setPart k i noPart) g1 l1 g2 le2 g3' gs'⟩)
  · rw [if_neg h3]
    repeat first | refine R1 ?_ | refine R2 fun _ => ?_
    refine sf_if (fun h4 => ?_) fun h4 => ?_
    · have ez' : (i : Int) + 1 - 1 = i := by omega
      have hN : takesWord k w = false → (if w.kind = 3 ∧ takesWord k w = true then published (setPart k i ⟨true, w.ver, w.lights⟩) else k) = k := fun x => by rw [if_neg (fun y => by rw [x] at y; cases y.2)]
      have htw : takesWord k w = (verOk k w.ver && decide (w.lights.length = ownCnt (manyOf k.first).toNat k.parts.length (i + 1))) := by rw [takesWord, hz]; rfl
      repeat first | refine R1 ?_ | refine R2 fun _ => ?_
      rw [hz, lq]
      refine fp (y_call (lendF A1 fun h' _ inb => paintOwn_f h' _ k.first (gridB_mk (g1.lent l1 inb)) hk.grid (i + 1) k.parts.length (by omega) (by omega) n3) (by rfl) ?_)
      rintro xv _ ⟨AX, rfl, gx⟩
      have ox := gx.one
      have hl := ownList_len (manyOf k.first).toNat k.parts.length (i + 1)
      repeat first | refine R1 ?_ | refine R2 fun _ => ?_
      refine fp (y_call (lendF (A1 ++ (A2 ++ ((B0 ++ (C1 ++ (Ck ++ C2))) ++ A4))) fun h' _ inb => keepVersion_f h' _ k ((keeperR τ).lent b0 inb) w.ver) (by rfl) ?_)
      rintro u _ ⟨_, rfl, eu, rfl⟩
      have ou := eu.one
      repeat first | refine R1 ?_ | refine R2 fun _ => ?_
      refine Xv (refused_v _ u _ eu) ?_
      repeat first | refine R1 ?_ | refine R2 fun _ => ?_
      refine f_splitB (fun e0 => ?_) fun e0 => ?_
      · have e := e0
        simp only [Bool.not_eq_true'] at e
        repeat first | refine R1 ?_ | refine R2 fun _ => ?_
        refine sf_T rfl ?_
        repeat first | refine R1 ?_ | refine R2 fun _ => ?_
        rw [hN (by rw [htw, e]; rfl)]
        exact sf_ret (rO (A1 ++ (A2 ++ ((B0 ++ (C1 ++ (Ck ++ C2))) ++ A4))) ⟨[.int .i64 k.first.wide, c, ed, p, s], rfl, b0⟩)
      have e := e0
      simp only [Bool.not_eq_false'] at e
      repeat first | refine R1 ?_ | refine R2 fun _ => ?_
      refine sf_if (fun h6 => ?_) fun h6 => ?_
      · repeat first | refine R1 ?_ | refine R2 fun _ => ?_
        rw [hN (by rw [htw, e, Bool.true_and]; exact decide_eq_false (by omega))]
        exact sf_ret (rO (A1 ++ (A2 ++ ((B0 ++ (C1 ++ (Ck ++ C2))) ++ A4))) ⟨[.int .i64 k.first.wide, c, ed, p, s], rfl, b0⟩)
      have hln : w.lights.length = ownCnt (manyOf k.first).toNat k.parts.length (i + 1) := by omega
      rw [if_pos ⟨h4, by rw [htw, e, Bool.true_and]; exact decide_eq_true hln⟩]
      repeat first | refine R1 ?_ | refine R2 fun _ => ?_
      refine Sd [[],[0],[],[2],[2,3],[],[5],[],[7],[7,8],[5,6,7,8,9],[0,1,2,3,4,5,6,7,8,9,10],[0,1,2,3,4,5,6,7,8,9,10,11]] 11 [Nn 0,Nn 1,Nn 2,Nn 3,Nn 4,Nn 5,Nn 6,Nn 7,Nn 8,Yy 9,Nn 10] ?_
      refine Da ?_
      refine Yc (cloneInts_f _ _ _ sw2 hw) fun l2 AL gl => ?_
      have ol2 := gl.one
      refine Da ?_
      refine Ae ?_
      simp only [ez]
      repeat first | refine R1 ?_ | refine R2 fun _ => ?_
      refine Xg gq fun D0 ys ey ly _ g5 => ?_
      have oall := oset AL ⟨[.bool true, .int .i64 w.ver, l2], rfl⟩ ⟨true, w.ver, w.lights⟩ (partO_mk (p := ⟨true, w.ver, w.lights⟩) gl (by simp only; omega))
      have g3' : GrR (partR τ) (D0 ++ (C1 ++ (AL ++ C2))) p 35 (setPart k i ⟨true, w.ver, w.lights⟩).parts := ⟨D0, _, rfl, ys, g5, by rw [ey]; exact oall, by simp [setPart]; omega⟩
      have hl' : (setPart k i ⟨true, w.ver, w.lights⟩).parts.length = k.parts.length := by simp [setPart]
      obtain ⟨f1, f2, f3⟩ := pub_first (setPart k i ⟨true, w.ver, w.lights⟩)
      repeat first | refine R1 ?_ | refine R2 fun _ => ?_
      refine fp (y_call (lendF (A1 ++ (D0 ++ (C1 ++ (AL ++ C2)))) fun h' l' inb => keepPublished_f h' c ed p s (setPart k i ⟨true, w.ver, w.lights⟩) A4 (g1.lent l1 (inb_l inb)) o2 (g3'.lent (inb_r inb)) g4 hk.grid (by omega) (by omega) (pl_set hpl i ⟨true, w.ver, w.lights⟩ (fun _ => hln)) hsh) (by rfl) ?_)
      rintro u _ ⟨A', rfl, s', rfl, gs'⟩
      have o9 := gs'.one
      repeat first | refine R1 ?_ | refine R2 fun _ => ?_
      refine sf_ret (rO (A1 ++ (A2 ++ ((D0 ++ (C1 ++ (AL ++ C2))) ++ A'))) ⟨[.int .i64 k.first.wide, c, ed, p, s'], rfl, ?_⟩)
      have := keeperO_mk (τ := τ) (k := published (setPart k i ⟨true, w.ver, w.lights⟩)) (c := c) (e := ed) (p := p) (s := s') (A1 := A1) (A2 := A2) (A3 := D0 ++ (C1 ++ (AL ++ C2))) (A4 := A') (by rw [f1]; exact g1) (by rw [f1]; exact l1) (by rw [f2]; exact g2) (by rw [f2]; exact le2) (by rw [f3]; exact g3') gs'
      rw [f1] at this
      exact this
    · rw [if_neg (fun x => h4 x.1)]
      repeat first | refine R1 ?_ | refine R2 fun _ => ?_
      exact sf_ret (rO (A1 ++ (A2 ++ ((B0 ++ (C1 ++ (Ck ++ C2))) ++ A4))) ⟨[.int .i64 k.first.wide, c, ed, p, s], rfl, b0⟩)
theorem keepHear_f [al : Alone Tryz.prog M] (h : PHeap) [BAt h 0 errObj] (ca : List Value) (k : Keeper) (b : (keeperR τ).B h ca k) (hs : szKeeperN k ≤ 1048576) (cw : List Value) (w : Word) (bw : (wordR τ).B h cw w) (hw : w.lights.length ≤ 1048576) : CallF Tryz.prog M 30 [.agg ca.toArray, .agg cw.toArray] [] h fun u A => ∃ cs, u = .agg cs.toArray ∧ (keeperR τ).O A cs (keepHear k w) := by
  have b0 := b
  have bw0 := bw
  obtain ⟨c, ed, p, s, rfl, s1, s2, s3, s4⟩ := keeperB b
  have o1 := s1.one
  have o2 := s2.one
  have o3 := s3.one
  have o4 := s4.one
  obtain ⟨wc, wl, rfl, sw1, sw2⟩ := wordB bw
  have o5 := sw1.one
  have o6 := sw2.one
  refine Cs Tryz.func30 Tryz.ntmps30 ?_
  repeat first | refine R1 ?_ | refine R2 fun _ => ?_
  refine Xv (keepOk_v _ _ k b0) ?_
  repeat first | refine R1 ?_ | refine R2 fun _ => ?_
  refine sf_cond (by rfl) (fun h1 => ?_) fun h1 => ?_
  · simp only [Bool.not_eq_true'] at h1
    repeat first | refine R1 ?_ | refine R2 fun _ => ?_
    rw [show keepHear k w = noKeeper by rw [keepHear, if_neg (by simp [h1])]]
    exact sf_ret (rO [] ⟨[.int .i64 0, .slice none 0 0, .slice none 0 0, .slice none 0 0, .slice none 0 0], rfl, noKeeperO⟩)
  simp only [Bool.not_eq_false'] at h1
  rw [show keepHear k w = heard k w by rw [keepHear, if_pos h1]]
  repeat first | refine R1 ?_ | refine R2 fun _ => ?_
  refine Sd [[],[0],[],[0,1,2],[0,1,2,3]] 3 [Nn 0,Nn 2,Yy 1] ?_
  refine Da ?_
  refine Yc (keepCopy_f _ _ k b0 hs) ?_
  rintro _ AC ⟨cc, rfl, q⟩
  refine Da ?_
  refine Ae ?_
  refine fp (y_call (keepHeard_f _ AC cc k q h1 hs _ w bw0 hw) (by rfl) ?_)
  rintro _ AE ⟨ce, rfl, q2⟩
  have q2' := q2
  obtain ⟨x1, x2, x3, x4, rfl, p1, p2, p3, p4⟩ := keeperO_one q2
  repeat first | refine R1 ?_ | refine R2 fun _ => ?_
  exact sf_ret (rO AE ⟨_, rfl, q2'⟩)
structure DrawnW (cs : List Value) (w : Word) (A : Own) : Prop where
  own : (wordR τ).O A cs w
  few : w.lights.length ≤ 31
  grid : w.grid = noGrid
  frm0 : 0 ≤ w.frm
  frm4 : w.frm ≤ 4
theorem DrawnW.size {cs : List Value} {w : Word} {A : Own} (d : DrawnW cs w A) : szWordN w ≤ 31 := by
  have := d.few
  rw [szWordN, d.grid]; simp [noGrid]; omega
theorem drawnW_mk {w : Word} {c l : Value} {A : Own} (hc : w.grid = noGrid) (e : c = .slice none 0 0) (g : Gr A l 3 intF w.lights) (hf : w.lights.length ≤ 31) (f0 : 0 ≤ w.frm) (f4 : w.frm ≤ 4) : DrawnW (wordCs w c l) w A := by
  subst e
  exact ⟨wordO_mk (A1 := []) (A2 := A) (w := w) (by rw [hc]; exact Gr.nil _ _) (by rw [hc]; decide) g (by omega), hf, hc, f0, f4⟩
theorem drawKeepHear_f (h : PHeap) (v : Value) (xs : List (Fin 256)) (s : Sl h v u8F xs) : CallF Tryz.prog M 29 [v] [] h fun u A => ∃ k cs w cw A1 A2, u = .tuple #[.agg cs.toArray, .agg cw.toArray] ∧ A = A1 ++ A2 ∧ DrawnK cs k A1 ∧ DrawnW cw w A2 := by
  have o1 := s.one
  refine Cs Tryz.func29 Tryz.ntmps29 ?_
  repeat first | refine R1 ?_ | refine R2 fun _ => ?_
  refine fp (y_call (l6Open_f _ v xs s) (by rfl) ?_)
  rintro _ _ ⟨br, v', xs', rfl, rfl, s', hs'⟩
  have o2 := s'.one
  repeat first | refine R1 ?_ | refine R2 fun _ => ?_
  refine fp (y_call (l72Keeper_f _ br v' xs' s' hs' 0 (by omega)) (by rfl) ?_)
  rintro _ _ ⟨k, cs, A', q, rfl, rfl, dk, hq⟩
  have dk0 := dk
  obtain ⟨⟨c, x1, x2, x3, x4, x5, x6, rfl, u1⟩, ln, -, n1, n3, e100, -⟩ := dk
  repeat first | refine R1 ?_ | refine R2 fun _ => ?_
  refine fp (y_call (pick_f _ br v' xs' s' hs' q (k.parts.length : Int) (by omega) (by omega) (by omega)) (by rfl) ?_)
  rintro _ _ ⟨m, rfl, m0, m1, rfl⟩
  repeat first | refine R1 ?_ | refine R2 fun _ => ?_
  rename_i b2 b3 b5
  apply viaT
  · intro tail
    refine sf_draw (by kernel_rfl) (regX_own (rdA br v' (q + 1)) (regX_split 5 8 (by rfl) ?_ ?_))
    case' refine_1 =>
      refine Sw [[],[],[1],[1,2],[],[4],[1,2,3,4,5],[0,1,2,3,4,5,6],[4,5],[0,1,2,3,4,5,6,7,8]] 9 [Nn 0,Nn 1,Nn 2,Nn 3,Nn 4,Yy 5,Nn 6,Nn 7,Yy 8] ?_
      refine Da ?_
      refine Yc (pick_f _ br v' xs' s' hs' (q + 1) 3 (by omega) (by omega) (by omega)) ?_
      rintro _ _ ⟨m2, rfl, m20, m21, rfl⟩
      refine Da ?_
      refine Yl fun b7 => ?_
      refine Da ?_
      refine Ae ?_
    case' refine_2 =>
      refine Sw [[],[],[1],[1,2],[],[4,8],[1,2,3,4,5,8],[0,1,2,3,4,5,6,8],[],[0,1,2,3,4,5,6,7,8]] 9 [Nn 0,Nn 1,Nn 2,Nn 3,Nn 4,Yy 8,Yy 5,Nn 6,Nn 7] ?_
      refine Da ?_
      refine Yl fun b7 => ?_
      refine Da ?_
      refine Yc (pick_f _ br v' xs' s' hs' (q + 1) 3 (by omega) (by omega) (by omega)) ?_
      rintro _ _ ⟨m2, rfl, m20, m21, rfl⟩
      refine Da ?_
      refine Ae ?_
    all_goals
      refine R1 ?_
      refine R1 ?_
      refine sf_keep [2, 3, 4, 5, 6, 7] ?_
      refine sf_own (A' ++ (rdA br v' (q + 1 + 1) ++ [(b7, .cells #[.int .i64 3, .int .i64 0, .int .i64 (1 + m), .int .i64 ((k.edits.length : Int) - m2), .int .i64 0, .slice none 0 0, .int .i64 0, .int .i64 0, .int .i64 0, .slice none 0 0] 50), (b5, .cells #[.int .i64 k.first.wide, c, .slice x1 k.edits.length x2, .slice x3 k.parts.length x4, .slice x5 k.shown.length x6] 30), (b3, .cells #[.int .i64 0, .int .i64 0, .int .i64 0, .int .i64 0, .int .i64 0, .slice none 0 0, .int .i64 0, .int .i64 0, .int .i64 0, .slice none 0 0] 50), (b2, .cells #[.int .i64 0, .slice none 0 0, .slice none 0 0, .slice none 0 0, .slice none 0 0] 30)])) ?_
      revert b7; revert m21; revert m20; revert m2
      exact tail.out
  intro m2 m20 m21 b7
  obtain ⟨id, hid⟩ : ∃ id : Nat, 1 + m = id := ⟨(1 + m).toNat, by omega⟩
  rw [hid]
  have id1 : 1 ≤ id := by omega
  have id2 : id ≤ k.parts.length := by omega
  clear hid m1 m0
  repeat first | refine R1 ?_ | refine R2 fun _ => ?_
  refine fp (y_lendV A' (fun h' l' i => sKeepOk_v h' _ k (ln h' i)) (by rfl) ?_)
  generalize hv0 : (k.edits.length : Int) - m2 = v0
  apply viaT
  · intro tail
    by_cases hok : keepOk k = true
    · rw [hok]
      repeat first | refine R1 ?_ | refine R2 fun _ => ?_
      by_cases hv : v0 ≥ 0
      · rw [decide_eq_true hv]
        repeat first | refine R1 ?_ | refine R2 fun _ => ?_
        refine sf_cond (by rfl) (fun _ => ?_) fun z => by cases z
        repeat first | refine R1 ?_ | refine R2 fun _ => ?_
        refine fp (y_lend A' (fun h' l' i => l22Own_f h' _ k (ln h' i) (keepOk_head hok) id id1 id2 v0 (verOk_iff.2 (by omega))) (by rfl) ?_)
        rintro l A5 g5
        have hfew := partLights_le (keepOk_head hok) id v0
        have ol := g5.one
        repeat first | refine R1o ?_ | refine R2 fun _ => ?_
        refine sf_nil ?_
        show Code.sf _ _ _ _ _ _ _ _
        refine sf_keep [2, 3, 4, 5, 6, 7] ?_
        refine sf_own (A' ++ (A5 ++ (rdA br v' (q + 1 + 1) ++ [(b7, .cells #[.int .i64 3, .int .i64 0, .int .i64 id, .int .i64 v0, .int .i64 0, .slice none 0 0, .int .i64 0, .int .i64 0, .int .i64 0, l] 50), (b5, .cells #[.int .i64 k.first.wide, c, .slice x1 k.edits.length x2, .slice x3 k.parts.length x4, .slice x5 k.shown.length x6] 30), (b3, .cells #[.int .i64 0, .int .i64 0, .int .i64 0, .int .i64 0, .int .i64 0, .slice none 0 0, .int .i64 0, .int .i64 0, .int .i64 0, .slice none 0 0] 50), (b2, .cells #[.int .i64 0, .slice none 0 0, .slice none 0 0, .slice none 0 0, .slice none 0 0] 30)]))) ?_
        clear ol
        revert hfew; revert g5; generalize partLights k id v0 = ls; revert ls; revert A5; revert l
        exact tail.out
      · rw [decide_eq_false hv]
        repeat first | refine R1 ?_ | refine R2 fun _ => ?_
        refine sf_cond (by rfl) (fun z => by cases z) fun _ => ?_
        refine sf_skip ?_
        show Code.sf _ _ _ _ _ _ _ _
        refine sf_keep [2, 3, 4, 5, 6, 7] ?_
        refine sf_own (A' ++ ([] ++ (rdA br v' (q + 1 + 1) ++ [(b7, .cells #[.int .i64 3, .int .i64 0, .int .i64 id, .int .i64 v0, .int .i64 0, .slice none 0 0, .int .i64 0, .int .i64 0, .int .i64 0, .slice none 0 0] 50), (b5, .cells #[.int .i64 k.first.wide, c, .slice x1 k.edits.length x2, .slice x3 k.parts.length x4, .slice x5 k.shown.length x6] 30), (b3, .cells #[.int .i64 0, .int .i64 0, .int .i64 0, .int .i64 0, .int .i64 0, .slice none 0 0, .int .i64 0, .int .i64 0, .int .i64 0, .slice none 0 0] 50), (b2, .cells #[.int .i64 0, .slice none 0 0, .slice none 0 0, .slice none 0 0, .slice none 0 0] 30)]))) ?_
        exact tail.out _ _ [] (Gr.nil _ _) (by decide)
    · rw [Bool.not_eq_true] at hok
      rw [hok]
      repeat first | refine R1 ?_ | refine R2 fun _ => ?_
      refine sf_cond (by rfl) (fun z => by cases z) fun _ => ?_
      refine sf_skip ?_
      show Code.sf _ _ _ _ _ _ _ _
      refine sf_keep [2, 3, 4, 5, 6, 7] ?_
      refine sf_own (A' ++ ([] ++ (rdA br v' (q + 1 + 1) ++ [(b7, .cells #[.int .i64 3, .int .i64 0, .int .i64 id, .int .i64 v0, .int .i64 0, .slice none 0 0, .int .i64 0, .int .i64 0, .int .i64 0, .slice none 0 0] 50), (b5, .cells #[.int .i64 k.first.wide, c, .slice x1 k.edits.length x2, .slice x3 k.parts.length x4, .slice x5 k.shown.length x6] 30), (b3, .cells #[.int .i64 0, .int .i64 0, .int .i64 0, .int .i64 0, .int .i64 0, .slice none 0 0, .int .i64 0, .int .i64 0, .int .i64 0, .slice none 0 0] 50), (b2, .cells #[.int .i64 0, .slice none 0 0, .slice none 0 0, .slice none 0 0, .slice none 0 0] 30)]))) ?_
      exact tail.out _ _ [] (Gr.nil _ _) (by decide)
  intro l A5 ls g5 hls
  have ol := g5.one
  repeat first | refine R1 ?_ | refine R2 fun _ => ?_
  refine fp (y_call (pick_f _ br v' xs' s' hs' (q + 1 + 1) 12 (by omega) (by omega) (by omega)) (by rfl) ?_)
  rintro _ _ ⟨m3, rfl, m30, m31, rfl⟩
  repeat first | refine R1 ?_ | refine R2 fun _ => ?_
  apply viaT
  · intro tail
    refine sf_if (fun e0 => ?_) fun e0 => ?_
    case' refine_2 =>
      repeat first | refine R1 ?_ | refine R2 fun _ => ?_
      refine sf_if (fun e1 => ?_) fun e1 => ?_
      · repeat first | refine R1 ?_ | refine R2 fun _ => ?_
        refine fp (y_call (pick_f _ br v' xs' s' hs' (q + 1 + 1 + 1) 6 (by omega) (by omega) (by omega)) (by rfl) ?_)
        rintro _ _ ⟨m4, rfl, m40, m41, rfl⟩
        repeat first | refine R1o ?_ | refine R2 fun _ => ?_
        refine sf_nil ?_
        show Code.sf _ _ _ _ _ _ _ _
        refine sf_keep [2, 3, 5, 7] ?_
        refine sf_own (A' ++ (A5 ++ [(b7, .cells #[.int .i64 m4, .int .i64 0, .int .i64 id, .int .i64 v0, .int .i64 0, .slice none 0 0, .int .i64 0, .int .i64 0, .int .i64 0, l] 50), (b5, .cells #[.int .i64 k.first.wide, c, .slice x1 k.edits.length x2, .slice x3 k.parts.length x4, .slice x5 k.shown.length x6] 30), (b3, .cells #[.int .i64 0, .int .i64 0, .int .i64 0, .int .i64 0, .int .i64 0, .slice none 0 0, .int .i64 0, .int .i64 0, .int .i64 0, .slice none 0 0] 50), (b2, .cells #[.int .i64 0, .slice none 0 0, .slice none 0 0, .slice none 0 0, .slice none 0 0] 30)])) ?_
        have hh : ls.length ≤ 31 := by omega
        have g6 := g5
        have f0 : 0 ≤ (id : Int) := by omega
        have f4 : (id : Int) ≤ 4 := by omega
        revert f4; revert f0; revert hh; revert g6
        generalize ls = ls6; revert ls6
        generalize A5 = A6; revert A6
        generalize l = l6; revert l6
        generalize v0 = vr; revert vr
        generalize (id : Int) = fr; revert fr
        generalize m4 = kd; revert kd
        exact tail.out
      repeat first | refine R1 ?_ | refine R2 fun _ => ?_
      refine sf_if (fun e2 => ?_) fun e2 => ?_
      · repeat first | refine R1 ?_ | refine R2 fun _ => ?_
        refine fp (y_call (pick_f _ br v' xs' s' hs' (q + 1 + 1 + 1) 5 (by omega) (by omega) (by omega)) (by rfl) ?_)
        rintro _ _ ⟨m4, rfl, m40, m41, rfl⟩
        repeat first | refine R1o ?_ | refine R2 fun _ => ?_
        refine sf_nil ?_
        show Code.sf _ _ _ _ _ _ _ _
        refine sf_keep [2, 3, 5, 7] ?_
        refine sf_own (A' ++ (A5 ++ [(b7, .cells #[.int .i64 3, .int .i64 0, .int .i64 m4, .int .i64 v0, .int .i64 0, .slice none 0 0, .int .i64 0, .int .i64 0, .int .i64 0, l] 50), (b5, .cells #[.int .i64 k.first.wide, c, .slice x1 k.edits.length x2, .slice x3 k.parts.length x4, .slice x5 k.shown.length x6] 30), (b3, .cells #[.int .i64 0, .int .i64 0, .int .i64 0, .int .i64 0, .int .i64 0, .slice none 0 0, .int .i64 0, .int .i64 0, .int .i64 0, .slice none 0 0] 50), (b2, .cells #[.int .i64 0, .slice none 0 0, .slice none 0 0, .slice none 0 0, .slice none 0 0] 30)])) ?_
        exact tail.out _ _ _ _ _ _ g5 (by omega) (by omega) (by omega)
      repeat first | refine R1 ?_ | refine R2 fun _ => ?_
      refine sf_if (fun e3 => ?_) fun e3 => ?_
      · repeat first | refine R1 ?_ | refine R2 fun _ => ?_
        refine Xb fun u Au gu => ?_
        have ou := gu.one
        refine Xa g5 gu fun l7 A7 g7 => ?_
        have ol7 := g7.one
        repeat first | refine R1o ?_ | refine R2 fun _ => ?_
        refine sf_nil ?_
        show Code.sf _ _ _ _ _ _ _ _
        refine sf_keep [2, 3, 5, 7] ?_
        refine sf_own (A' ++ (A7 ++ [(b7, .cells #[.int .i64 3, .int .i64 0, .int .i64 id, .int .i64 v0, .int .i64 0, .slice none 0 0, .int .i64 0, .int .i64 0, .int .i64 0, l7] 50), (b5, .cells #[.int .i64 k.first.wide, c, .slice x1 k.edits.length x2, .slice x3 k.parts.length x4, .slice x5 k.shown.length x6] 30), (b3, .cells #[.int .i64 0, .int .i64 0, .int .i64 0, .int .i64 0, .int .i64 0, .slice none 0 0, .int .i64 0, .int .i64 0, .int .i64 0, .slice none 0 0] 50), (b2, .cells #[.int .i64 0, .slice none 0 0, .slice none 0 0, .slice none 0 0, .slice none 0 0] 30)])) ?_
        exact tail.out _ _ _ _ _ _ g7 (by simp; omega) (by omega) (by omega)
      refine sf_skip ?_
      show Code.sf _ _ _ _ _ _ _ _
      refine sf_keep [2, 3, 5, 7] ?_
      refine sf_own (A' ++ (A5 ++ [(b7, .cells #[.int .i64 3, .int .i64 0, .int .i64 id, .int .i64 v0, .int .i64 0, .slice none 0 0, .int .i64 0, .int .i64 0, .int .i64 0, l] 50), (b5, .cells #[.int .i64 k.first.wide, c, .slice x1 k.edits.length x2, .slice x3 k.parts.length x4, .slice x5 k.shown.length x6] 30), (b3, .cells #[.int .i64 0, .int .i64 0, .int .i64 0, .int .i64 0, .int .i64 0, .slice none 0 0, .int .i64 0, .int .i64 0, .int .i64 0, .slice none 0 0] 50), (b2, .cells #[.int .i64 0, .slice none 0 0, .slice none 0 0, .slice none 0 0, .slice none 0 0] 30)])) ?_
      exact tail.out _ _ _ _ _ _ g5 (by omega) (by omega) (by omega)
    case' refine_1 =>
      refine sf_reg ?_
      repeat first | refine R1o ?_ | refine R2 fun _ => ?_
      refine sf_nil ?_
      show Code.sf _ _ _ _ _ _ _ _
      refine sf_keep [2, 3, 5, 7] ?_
      refine sf_own (A' ++ ([] ++ [(b7, .cells #[.int .i64 4, .int .i64 0, .int .i64 id, .int .i64 0, .int .i64 0, .slice none 0 0, .int .i64 0, .int .i64 0, .int .i64 0, .slice none 0 0] 50), (b5, .cells #[.int .i64 k.first.wide, c, .slice x1 k.edits.length x2, .slice x3 k.parts.length x4, .slice x5 k.shown.length x6] 30), (b3, .cells #[.int .i64 0, .int .i64 0, .int .i64 0, .int .i64 0, .int .i64 0, .slice none 0 0, .int .i64 0, .int .i64 0, .int .i64 0, .slice none 0 0] 50), (b2, .cells #[.int .i64 0, .slice none 0 0, .slice none 0 0, .slice none 0 0, .slice none 0 0] 30)])) ?_
      exact tail.out _ _ _ _ _ _ (Gr.nil _ _ : Gr [] _ 3 intF []) (by decide) (by omega) (by omega)
  intro kd fr vr l6 A6 ls6 g6 h6 f0 f4
  have ol6 := g6.one
  repeat first | refine R1 ?_ | refine R2 fun _ => ?_
  refine sf_draw (by kernel_rfl) (regX_own ([(b2, .cells #[.int .i64 0, .slice none 0 0, .slice none 0 0, .slice none 0 0, .slice none 0 0] 30)]) (Sw [[],[],[0],[0,1,2]] 3 [Nn 0,Nn 1,Yy 2] ?_))
  refine Da ?_
  refine a_store (by rfl) (by rfl) (by rfl) (.inl rfl) ?_
  refine Da ?_
  refine Ae ?_
  repeat first | refine R1 ?_ | refine R2 fun _ => ?_
  exact sf_ret (rt (A' ++ A6) (resV_two rfl (yr_cell rfl) (yr_cell rfl)) ⟨k, _, ⟨kd, 0, fr, vr, noGrid, noEdit, ls6⟩, _, A', A6, rfl, rfl, dk0, drawnW_mk (w := ⟨kd, 0, fr, vr, noGrid, noEdit, ls6⟩) (c := .slice none 0 0) rfl rfl g6 h6 f0 f4⟩)
theorem noWordO : (wordR τ).O [] (wordCs noWord (.slice none 0 0) (.slice none 0 0)) noWord := wordO_mk (w := noWord) (Gr.nil _ _) (by decide) (Gr.nil _ _) (by decide)
theorem keepTold_f (h : PHeap) (ca : List Value) (k : Keeper) (b : (keeperR τ).B h ca k) (ok : keepOk k = true) (z : Int) : CallF Tryz.prog M 63 [.agg ca.toArray, .int .i64 z] [] h fun u A => ∃ cs e, u = .tuple #[.agg cs.toArray, e] ∧ ErrIs e (!(decide (1 ≤ z) && decide (z ≤ k.parts.length))) ∧ (wordR τ).O A cs (if 1 ≤ z ∧ z ≤ k.parts.length then toldTo k z else noWord) := by
  have b0 := b
  have hk := keepOk_head ok
  obtain ⟨c, ed, p, s, rfl, s1, s2, s3, s4⟩ := keeperB b
  have o1 := s1.one
  have o2 := s2.one
  have o3 := s3.one
  have o4 := s4.one
  have hs2 := s2.small
  have h60 := hk.e60
  have n3 := hk.n3
  obtain ⟨rp, sp, bp⟩ := s3
  have lp := bp.len
  have hsm := sp.small
  refine Cs Tryz.func63 Tryz.ntmps63 ?_
  repeat first | refine R1 ?_ | refine R2 fun _ => ?_
  refine f_split (fun h1 => ?_) fun h1 => ?_
  · repeat first | refine R1 ?_ | refine R2 fun _ => ?_
    refine sf_T rfl ?_
    repeat first | refine R1 ?_ | refine R2 fun _ => ?_
    rw [if_neg (by omega)]
    exact sf_ret (rO [] ⟨wordCs noWord _ _, _, rfl, .inr ⟨_, rfl, by simp; omega⟩, noWordO⟩)
  repeat first | refine R1 ?_ | refine R2 fun _ => ?_
  refine sf_if (fun h2 => ?_) fun h2 => ?_
  · repeat first | refine R1 ?_ | refine R2 fun _ => ?_
    rw [if_neg (by omega)]
    exact sf_ret (rO [] ⟨wordCs noWord _ _, _, rfl, .inr ⟨_, rfl, by simp; omega⟩, noWordO⟩)
  rw [if_pos (by omega)]
  obtain ⟨i, hi, hz⟩ : ∃ i : Nat, i < k.parts.length ∧ z = i + 1 := ⟨(z - 1).toNat, by omega, by omega⟩
  obtain ⟨l, ex, sl⟩ := partB (bp.at hi)
  have ol := sl.one
  have hsl := sl.small
  have hi' : i < rp.length := by omega
  have hpo := keepOk_part ok hi
  have ez : (z - 1).toNat = i := by omega
  have hT := toldTo.eq_1 k z
  rw [ez] at hT
  generalize hpt : gt k.parts i = pt at *
  have hver := partOk_ver hpo
  haveI : FlatV (rawF (partR τ).sz) (gt rp (z - 1).toNat) [.bool pt.has, .int .i64 pt.ver, l] := ⟨by rw [ez]; exact ex⟩
  have heB : ErrIs Value.nilIface (!(decide (1 ≤ z) && decide (z ≤ k.parts.length))) := .inl ⟨rfl, by simp; omega⟩
  have hgr : pt.has = false ∨ ¬ (1 ≤ (k.edits.length : Int) - pt.ver ∧ (k.edits.length : Int) - pt.ver ≤ 2) → toldTo k z = ⟨1, z, 0, k.edits.length, gridAt k k.edits.length, noEdit, []⟩ := fun x => by
    rw [hT]
    rcases x with x | x
    · rw [if_neg (fun y => by rw [x] at y; exact absurd y.1 (by decide))]
    · rw [if_neg (fun y => x y.2)]
  repeat first | refine R1 ?_ | refine R2 fun _ => ?_
  refine f_splitB (fun e => ?_) fun e => ?_
  · have hv := hver e
    repeat first | refine R1 ?_ | refine R2 fun _ => ?_
    refine f_split (fun h3 => ?_) fun h3 => ?_
    · repeat first | refine R1 ?_ | refine R2 fun _ => ?_
      refine sf_if (fun h4 => ?_) fun h4 => ?_
      · rw [if_pos ⟨e, by omega, by omega⟩] at hT
        repeat first | refine R1 ?_ | refine R2 fun _ => ?_
        refine Sd [[],[],[1],[1,2],[],[4],[],[6],[4,5,6,7],[4,5,6,7,8],[0,1,2,3,4,5,6,7,8,9],[0,1,2,3,4,5,6,7,8,9,10],[0,1,2,3,4,5,6,7,8,9,10,11]] 10 [Nn 0,Nn 1,Nn 2,Nn 3,Nn 4,Nn 5,Nn 6,Nn 7,Nn 8,Nn 9] ?_
        refine Da ?_
        refine Ae ?_
        rw [hT]
        repeat first | refine R1 ?_ | refine R2 fun _ => ?_
        exact sf_ret (rO [] ⟨wordCs ⟨2, z, 0, pt.ver + 1, noGrid, gt k.edits pt.ver.toNat, []⟩ _ _, _, rfl, heB, wordO_mk (w := ⟨2, z, 0, pt.ver + 1, noGrid, gt k.edits pt.ver.toNat, []⟩) (A1 := []) (A2 := []) (Gr.nil _ _) (Nat.zero_le _) (Gr.nil _ _) (Nat.zero_le _)⟩)
      · rw [hgr (.inr (by omega))]
        repeat first | refine R1 ?_ | refine R2 fun _ => ?_
        refine fp (y_call (keepGridOf_f _ _ k b0 hk _ (verOk_all k)) (by rfl) ?_)
        rintro _ A1 ⟨cs, rfl, q⟩
        obtain ⟨c2, rfl, g1, l1⟩ := gridO q
        have o5 := g1.one
        repeat first | refine R1 ?_ | refine R2 fun _ => ?_
        exact sf_ret (rO A1 ⟨wordCs ⟨1, z, 0, k.edits.length, gridAt k k.edits.length, noEdit, []⟩ _ _, _, rfl, heB, by have := wordO_mk (τ := τ) (w := ⟨1, z, 0, k.edits.length, gridAt k k.edits.length, noEdit, []⟩) (A1 := A1) (A2 := []) g1 l1 (Gr.nil _ _) (Nat.zero_le _); rwa [List.append_nil] at this⟩)
    · rw [hgr (.inr (by omega))]
      repeat first | refine R1 ?_ | refine R2 fun _ => ?_
      refine sf_N (by first | rfl | (simp; omega)) ?_
      repeat first | refine R1 ?_ | refine R2 fun _ => ?_
      refine fp (y_call (keepGridOf_f _ _ k b0 hk _ (verOk_all k)) (by rfl) ?_)
      rintro _ A1 ⟨cs, rfl, q⟩
      obtain ⟨c2, rfl, g1, l1⟩ := gridO q
      have o5 := g1.one
      repeat first | refine R1 ?_ | refine R2 fun _ => ?_
      exact sf_ret (rO A1 ⟨wordCs ⟨1, z, 0, k.edits.length, gridAt k k.edits.length, noEdit, []⟩ _ _, _, rfl, heB, by have := wordO_mk (τ := τ) (w := ⟨1, z, 0, k.edits.length, gridAt k k.edits.length, noEdit, []⟩) (A1 := A1) (A2 := []) g1 l1 (Gr.nil _ _) (Nat.zero_le _); rwa [List.append_nil] at this⟩)
  · rw [hgr (.inl (by simpa using e))]
    repeat first | refine R1 ?_ | refine R2 fun _ => ?_
    refine sf_N (by first | rfl | (simp; omega)) ?_
    repeat first | refine R1 ?_ | refine R2 fun _ => ?_
    refine fp (y_call (keepGridOf_f _ _ k b0 hk _ (verOk_all k)) (by rfl) ?_)
    rintro _ A1 ⟨cs, rfl, q⟩
    obtain ⟨c2, rfl, g1, l1⟩ := gridO q
    have o5 := g1.one
    repeat first | refine R1 ?_ | refine R2 fun _ => ?_
    exact sf_ret (rO A1 ⟨wordCs ⟨1, z, 0, k.edits.length, gridAt k k.edits.length, noEdit, []⟩ _ _, _, rfl, heB, by have := wordO_mk (τ := τ) (w := ⟨1, z, 0, k.edits.length, gridAt k k.edits.length, noEdit, []⟩) (A1 := A1) (A2 := []) g1 l1 (Gr.nil _ _) (Nat.zero_le _); rwa [List.append_nil] at this⟩)
theorem keepTell_f [al : Alone Tryz.prog M] (h : PHeap) [BAt h 0 errObj] (ca : List Value) (k : Keeper) (b : (keeperR τ).B h ca k) (z : Int) : CallF Tryz.prog M 23 [.agg ca.toArray, .int .i64 z] [] h fun u A => ∃ cs, u = .tuple #[.agg cs.toArray, .bool (keepTell k z).2] ∧ (wordR τ).O A cs (keepTell k z).1 := by
  have b0 := b
  obtain ⟨c, ed, p, s, rfl, s1, s2, s3, s4⟩ := keeperB b
  have o1 := s1.one
  have o2 := s2.one
  have o3 := s3.one
  have o4 := s4.one
  refine Cs Tryz.func23 Tryz.ntmps23 ?_
  repeat first | refine R1 ?_ | refine R2 fun _ => ?_
  refine Xv (keepOk_v _ _ k b0) ?_
  repeat first | refine R1 ?_ | refine R2 fun _ => ?_
  refine sf_cond (by rfl) (fun h1 => ?_) fun h1 => ?_
  · simp only [Bool.not_eq_true'] at h1
    repeat first | refine R1 ?_ | refine R2 fun _ => ?_
    rw [show keepTell k z = (noWord, false) by rw [keepTell, if_neg (by simp [h1])]]
    exact sf_ret (rO [] ⟨wordCs noWord _ _, rfl, noWordO⟩)
  simp only [Bool.not_eq_false'] at h1
  repeat first | refine R1 ?_ | refine R2 fun _ => ?_
  refine fp (y_call (keepTold_f _ _ k b0 h1 z) (by rfl) ?_)
  rintro _ A1 ⟨cs, e, rfl, he, q⟩
  have oe := he.one
  have q' := q
  obtain ⟨c5, l5, A2, A3, rfl, rfl, ⟨g5, lg⟩, ⟨g6, lg6⟩⟩ := wordO q
  have o5 := g5.one
  have o6 := g6.one
  repeat first | refine R1 ?_ | refine R2 fun _ => ?_
  have e2 : (decide (1 ≤ z) && decide (z ≤ (k.parts.length : Int))) = (keepTell k z).2 ∧ (if 1 ≤ z ∧ z ≤ (k.parts.length : Int) then toldTo k z else noWord) = (keepTell k z).1 := by
    unfold keepTell
    by_cases hz : 1 ≤ z ∧ z ≤ (k.parts.length : Int)
    · rw [if_pos hz, if_pos ⟨h1, hz⟩]; simp [hz.1, hz.2]
    · rw [if_neg hz, if_neg (fun x => hz x.2)]; refine ⟨?_, rfl⟩; simp; omega
  rw [e2.1] at he
  rw [e2.2] at q' ⊢
  repeat first | refine R1 ?_ | refine R2 fun _ => ?_
  rename_i b2 b4 b6
  refine sf_draw (by kernel_rfl) (regX_own ([(b4, .cells #[.int .i64 0, .int .i64 0, .int .i64 0, .int .i64 0, .int .i64 0, .slice none 0 0, .int .i64 0, .int .i64 0, .int .i64 0, .slice none 0 0] 50)]) (Sw [[],[],[1],[1,2],[0,1,2],[0,1,2,3,4]] 5 [Nn 0,Nn 1,Yy 2,Nn 3,Yy 4] ?_))
  refine Da ?_
  refine Yv (refused_v _ _ _ he) ?_
  refine Da ?_
  refine a_store (by rfl) (by rfl) (by rfl) (.inl rfl) ?_
  refine Ae ?_
  simp only [Bool.not_not]
  repeat first | refine R1 ?_ | refine R2 fun _ => ?_
  exact sf_ret (rO (A2 ++ A3) ⟨wordCs _ c5 l5, rfl, q'⟩)
end Go.Proofs.YtcpkcmgjfcbnpaaGreatDoor

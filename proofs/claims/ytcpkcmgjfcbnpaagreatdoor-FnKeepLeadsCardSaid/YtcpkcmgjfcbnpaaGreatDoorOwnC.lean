/- Walks of the seat: N1 N2 N3 Y1 K1 K2 LA LB SA SB SC SD SG SF SH SI. -/
import Derived.Test.YtcpkcmgjfcbnpaaGreatDoorOwnA
import Derived.Test.YtcpkcmgjfcbnpaaGreatDoorLibH
import Derived.Test.YtcpkcmgjfcbnpaaGreatDoorSmZ
import Derived.Test.YtcpkcmgjfcbnpaaGreatDoorLibD
import Derived.Test.YtcpkcmgjfcbnpaaGreatDoorLibC
import Derived.Test.YtcpkcmgjfcbnpaaGreatDoorLibE
import Derived.Test.YtcpkcmgjfcbnpaaGreatDoorLibF
set_option linter.unusedVariables false
set_option linter.unusedSimpArgs false
set_option linter.unusedSectionVars false
namespace Go.Proofs.YtcpkcmgjfcbnpaaGreatDoor
open Go Go.Sl
set_option maxRecDepth 100000
set_option maxHeartbeats 4000000
attribute [local irreducible] Go.Code.sf sfOps Opq opo retF Do1 anyO
variable {M:Jdg→Prop} [IsCl Tryz.prog M]
theorem pick_f (h:PHeap) (br:Nat) (v:Value) (xs:List (Fin 256)) (s:Sl h v u8F xs) (hs:xs.length ≤ 2000) (p:Nat) (n:Int) (hp1:p ≤ 1000000) (hn:1 ≤ n) (hn1:n ≤ 1000):CallF Tryz.prog M 56 [.pointer (some ⟨br,0,none⟩),.int .i64 n] [(br,.cells #[v,.int .i64 (p:Int)] 129)] h fun u A=>∃ m,u = .int .i64 m∧0 ≤ m∧m < n∧A = [(br,.cells #[v,.int .i64 ((p + 1:Nat):Int)] 129)]:=by
 have o1:=s.one
 refine Cs Tryz.func56 Tryz.ntmps56 ?_
 refine Wo ?_
 refine f_split (fun h1=>?_) fun h1=>?_
 ·omega
 refine Wo ?_
 refine sf_if (fun h2=>?_) fun h2=>?_
 ·refine Wo ?_
  exact sf_ret (rO [(br,.cells #[v,.int .i64 ((p:Int) + 1)] 129)] ⟨0,rfl,by omega,by omega,rfl⟩)
 refine Wo ?_
 rw [show (p:Int) + 1 - 1 = p by omega]
 refine sf_if (fun h3=>?_) fun h3=>?_
 ·refine Wo ?_
  exact sf_ret (rt [(br,.cells #[v,.int .i64 ((p:Int) + 1)] 129)] (resV_one rfl (res_tmp rfl)) ⟨_,rfl,Int.emod_nonneg _ (by omega),Int.emod_lt_of_pos _ (by omega),rfl⟩)
 refine Wo ?_
 have hl:0 < xs.length:=by omega
 have m1:p % xs.length < xs.length:=Nat.mod_lt _ hl
 have m2:(p * 7 + 3) % xs.length < xs.length:=Nat.mod_lt _ hl
 have m3:=Int.emod_nonneg ((p:Int) * 7 + 3) (show (xs.length:Int) ≠ 0 by omega)
 have m4:=Int.emod_lt_of_pos ((p:Int) * 7 + 3) (show 0 < (xs.length:Int) by omega)
 have b1:=(gt xs ((p:Int) % (xs.length:Int)).toNat).isLt
 have b2:=(gt xs (((p:Int) * 7 + 3) % (xs.length:Int)).toNat).isLt
 have d1:=Int.ediv_nonneg (a:=(p:Int)) (b:=(xs.length:Int)) (by omega) (by omega)
 have d2:=Int.ediv_le_self (a:=(p:Int)) (xs.length:Int) (by omega)
 refine Sd [[],[0],[0,1],[0,1,2],[],[],[5],[5,6],[5,6,7],[5,6,7,8],[4,5,6,7,8,9],[0,1,2,3,4,5,6,7,8,9,10],[0,1,2,3,4,5,6,7,8,9,10,11],[0,1,2,3,4,5,6,7,8,9,10,11,12],[0,1,2,3,4,5,6,7,8,9,10,11,12,13],[],[15],[15,16],[15,16,17],[],[19],[19,20],[],[22],[22,23],[22,23,24],[22,23,24,25],[19,20,21,22,23,24,25,26],[15,16,17,18,19,20,21,22,23,24,25,26,27],[15,16,17,18,19,20,21,22,23,24,25,26,27,28],[15,16,17,18,19,20,21,22,23,24,25,26,27,28,29],[15,16,17,18,19,20,21,22,23,24,25,26,27,28,29,30],[0,1,2,3,4,5,6,7,8,9,10,11,12,13,14,15,16,17,18,19,20,21,22,23,24,25,26,27,28,29,30,31],[],[33],[0,1,2,3,4,5,6,7,8,9,10,11,12,13,14,15,16,17,18,19,20,21,22,23,24,25,26,27,28,29,30,31,32,33,34],[],[],[37],[37,38],[37,38,39],[37,38,39,40],[36,37,38,39,40,41],[36,37,38,39,40,41,42],[0,1,2,3,4,5,6,7,8,9,10,11,12,13,14,15,16,17,18,19,20,21,22,23,24,25,26,27,28,29,30,31,32,33,34,35,36,37,38,39,40,41,42,43],[0,1,2,3,4,5,6,7,8,9,10,11,12,13,14,15,16,17,18,19,20,21,22,23,24,25,26,27,28,29,30,31,32,33,34,35,36,37,38,39,40,41,42,43,44]] 44 [Nn 0,Nn 1,Nn 2,Nn 3,Nn 4,Nn 5,Nn 6,Nn 7,Nn 8,Nn 9,Nn 10,Nn 11,Nn 12,Nn 13,Nn 14,Nn 15,Nn 16,Nn 17,Nn 18,Nn 19,Nn 20,Nn 21,Nn 22,Nn 23,Nn 24,Nn 25,Nn 26,Nn 27,Nn 28,Nn 29,Nn 30,Nn 31,Nn 32,Nn 33,Nn 34,Nn 35,Nn 36,Nn 37,Nn 38,Nn 39,Nn 40,Nn 41,Nn 42,Nn 43] ?_
 refine Da ?_
 refine Ae ?_
 refine Wo ?_
 exact sf_ret (rt [(br,.cells #[v,.int .i64 ((p:Int) + 1)] 129)] (resV_one rfl (res_tmp rfl)) ⟨_,rfl,Int.tmod_nonneg _ (xorN_nonneg _ _),Int.tmod_lt_of_pos _ (by omega),rfl⟩)
abbrev rdA (br:Nat) (v:Value) (p:Nat):Own:=[(br,.cells #[v,.int .i64 (p:Int)] 129)]
theorem l71Cell_f (h:PHeap) (br:Nat) (v:Value) (xs:List (Fin 256)) (s:Sl h v u8F xs) (hs:xs.length ≤ 2000) (p:Nat) (hp1:p ≤ 999990):CallF Tryz.prog M 99 [.pointer (some ⟨br,0,none⟩)] (rdA br v p) h fun u A=>∃ (c:Cell) (q:Nat),u = .agg #[.int .i64 c.kind,.int .i64 c.light]∧q ≤ p + 2∧A = rdA br v q∧cellOk c = true:=by
 have o1:=s.one
 refine Cs Tryz.func99 Tryz.ntmps99 ?_
 repeat first|refine R1 ?_|refine R2 fun _=>?_
 refine fp (y_call (pick_f _ br v xs s hs p 12 (by omega) (by omega) (by omega)) (by rfl) ?_)
 rintro _ A1 ⟨m,rfl,m0,m1,rfl⟩
 repeat first|refine R1 ?_|refine R2 fun _=>?_
 refine sf_if (fun e0=>?_) fun e0=>?_
 ·repeat first|refine R1 ?_|refine R2 fun _=>?_
  exact sf_ret (rO (rdA br v (p + 1)) ⟨⟨1,0⟩,p + 1,rfl,by omega,rfl,by decide⟩)
 repeat first|refine R1 ?_|refine R2 fun _=>?_
 refine sf_if (fun e1=>?_) fun e1=>?_
 ·repeat first|refine R1 ?_|refine R2 fun _=>?_
  refine sf_if (fun e2=>?_) fun e2=>?_
  ·repeat first|refine R1 ?_|refine R2 fun _=>?_
   exact sf_ret (rO (rdA br v (p + 1)) ⟨⟨2,0⟩,p + 1,rfl,by omega,rfl,by decide⟩)
  ·exact absurd e1 e2
 repeat first|refine R1 ?_|refine R2 fun _=>?_
 refine sf_if (fun e2=>?_) fun e2=>?_
 ·repeat first|refine R1 ?_|refine R2 fun _=>?_
  exact sf_ret (rO (rdA br v (p + 1)) ⟨⟨2,0⟩,p + 1,rfl,by omega,rfl,by decide⟩)
 repeat first|refine R1 ?_|refine R2 fun _=>?_
 refine sf_if (fun e3=>?_) fun e3=>?_
 ·repeat first|refine R1 ?_|refine R2 fun _=>?_
  refine sf_if (fun e4=>?_) fun e4=>?_
  ·repeat first|refine R1 ?_|refine R2 fun _=>?_
   exact sf_ret (rO (rdA br v (p + 1)) ⟨⟨3,0⟩,p + 1,rfl,by omega,rfl,by decide⟩)
  ·exact absurd e3 e4
 repeat first|refine R1 ?_|refine R2 fun _=>?_
 refine sf_if (fun e4=>?_) fun e4=>?_
 ·repeat first|refine R1 ?_|refine R2 fun _=>?_
  exact sf_ret (rO (rdA br v (p + 1)) ⟨⟨3,0⟩,p + 1,rfl,by omega,rfl,by decide⟩)
 repeat first|refine R1 ?_|refine R2 fun _=>?_
 refine sf_if (fun e5=>?_) fun e5=>?_
 ·repeat first|refine R1 ?_|refine R2 fun _=>?_
  exact sf_ret (rO (rdA br v (p + 1)) ⟨⟨4,0⟩,p + 1,rfl,by omega,rfl,by decide⟩)
 repeat first|refine R1 ?_|refine R2 fun _=>?_
 refine sf_if (fun e6=>?_) fun e6=>?_
 ·repeat first|refine R1 ?_|refine R2 fun _=>?_
  exact sf_ret (rO (rdA br v (p + 1)) ⟨⟨5,0⟩,p + 1,rfl,by omega,rfl,by decide⟩)
 repeat first|refine R1 ?_|refine R2 fun _=>?_
 refine sf_if (fun e7=>?_) fun e7=>?_
 ·repeat first|refine R1 ?_|refine R2 fun _=>?_
  exact sf_ret (rO (rdA br v (p + 1)) ⟨⟨6,0⟩,p + 1,rfl,by omega,rfl,by decide⟩)
 repeat first|refine R1 ?_|refine R2 fun _=>?_
 refine sf_if (fun e8=>?_) fun e8=>?_
 ·repeat first|refine R1 ?_|refine R2 fun _=>?_
  refine fp (y_call (pick_f _ br v xs s hs (p + 1) 9 (by omega) (by omega) (by omega)) (by rfl) ?_)
  rintro _ A2 ⟨m2,rfl,m20,m21,rfl⟩
  repeat first|refine R1 ?_|refine R2 fun _=>?_
  exact sf_ret (rO (rdA br v (p + 1 + 1)) ⟨⟨7,1 + m2⟩,p + 1 + 1,rfl,by omega,rfl,by simp [cellOk]; omega⟩)
 repeat first|refine R1 ?_|refine R2 fun _=>?_
 exact sf_ret (rO (rdA br v (p + 1)) ⟨⟨0,0⟩,p + 1,rfl,by omega,rfl,by decide⟩)
theorem l71Off_f (h:PHeap) (br:Nat) (v:Value) (xs:List (Fin 256)) (s:Sl h v u8F xs) (hs:xs.length ≤ 2000) (p:Nat) (hp1:p ≤ 999990):CallF Tryz.prog M 100 [.pointer (some ⟨br,0,none⟩)] (rdA br v p) h fun u A=>∃ (c:Cell) (q:Nat),u = .agg #[.int .i64 c.kind,.int .i64 c.light]∧q ≤ p + 2∧A = rdA br v q:=by
 have o1:=s.one
 refine Cs Tryz.func100 Tryz.ntmps100 ?_
 repeat first|refine R1 ?_|refine R2 fun _=>?_
 refine Xb fun w Aw gw=>?_
 repeat first|refine R1 ?_|refine R2 fun _=>?_
 refine fp (y_call (pick_f _ br v xs s hs p 6 (by omega) (by omega) (by omega)) (by rfl) ?_)
 rintro _ A1 ⟨m,rfl,m0,m1,rfl⟩
 obtain ⟨m,rfl⟩:∃ k:Nat,m = k:=⟨m.toNat,by omega⟩
 repeat first|refine R1 ?_|refine R2 fun _=>?_
 refine fp (Rq ?_ (z_indexG (by rfl) (by rfl) gw (by simp; omega)))
 repeat first|refine R1 ?_|refine R2 fun _=>?_
 refine fp (Rq ?_ (z_loadG (by rfl) gw (by simp; omega) (by rfl)))
 repeat first|refine R1 ?_|refine R2 fun _=>?_
 exact sf_ret (rt (rdA br v (p + 1)) (resV_one rfl (yr_cell rfl)) ⟨_,p + 1,rfl,by omega,rfl⟩)
theorem l71Grid_f (h:PHeap) (br:Nat) (v:Value) (xs:List (Fin 256)) (s:Sl h v u8F xs) (hs:xs.length ≤ 2000) (p:Nat) (hp1:p ≤ 999000):CallF Tryz.prog M 124 [.pointer (some ⟨br,0,none⟩)] (rdA br v p) h fun u A=>∃ (g:Grid) (c:Value) (A':Own) (q:Nat),u = .agg #[.int .i64 g.wide,c]∧Gr A' c 46 cellF g.cells∧1 ≤ g.wide∧g.wide ≤ 5∧1 ≤ g.cells.length∧g.cells.length ≤ 25∧q ≤ p + 60∧A = rdA br v q++A'∧gridOk g = true:=by
 have o1:=s.one
 refine Cs Tryz.func124 Tryz.ntmps124 ?_
 repeat first|refine R1 ?_|refine R2 fun _=>?_
 refine fp (y_call (pick_f _ br v xs s hs p 5 (by omega) (by omega) (by omega)) (by rfl) ?_)
 rintro _ A1 ⟨m,rfl,m0,m1,rfl⟩
 repeat first|refine R1 ?_|refine R2 fun _=>?_
 refine sf_draw (by kernel_rfl) (regX_own (rdA br v (p + 1)) (Sw [[],[0],[],[2],[2,3],[0,1,2,3,4],[0,1,2,3,4,5]] 5 [Nn 0,Nn 1,Nn 2,Yy 3,Nn 4] ?_))
 refine Da ?_
 refine Yc (pick_f _ br v xs s hs (p + 1) 5 (by omega) (by omega) (by omega)) ?_
 rintro _ A2 ⟨m2,rfl,m20,m21,rfl⟩
 have hm1:1 ≤ (1 + m) * (1 + m2):=Int.mul_pos (by omega) (by omega)
 have hm2:(1 + m) * (1 + m2) ≤ 5 * 5:=Int.mul_le_mul (by omega) (by omega) (by omega) (by omega)
 refine Da ?_
 refine Ae ?_
 repeat first|refine R1 ?_|refine R2 fun _=>?_
 obtain ⟨N,hN⟩:∃ N:Nat,(1 + m) * (1 + m2) = N:=⟨((1 + m) * (1 + m2)).toNat,by omega⟩
 rw [hN] at hm1 hm2 ⊢
 rename_i b2 b3
 refine sf_lp (ι:=Nat) [0,2,3] (fun k=>[(4,.int .i64 (k:Int))]) (fun k O=>k ≤ N∧∃ c q A',O = rdA br v q++((b3,.cells #[.int .i64 (1 + m),c] 25) :: (A'++[(b2,.cells #[.int .i64 0,.slice none 0 0] 25)]))∧∃ ys,Gr A' c 46 cellF ys∧ys.length = N - k∧q + 2 * k ≤ p + 2 + 2 * N∧ys.all cellOk = true) (fun k=>k) N (rdA br v (p + 1 + 1)++((b3,.cells #[.int .i64 (1 + m),.slice none 0 0] 25) :: ([]++[(b2,.cells #[.int .i64 0,.slice none 0 0] 25)]))) ⟨by omega,_,_,[],rfl,[],Gr.nil _ _,by simp,by omega,rfl⟩ ?_
 rintro k O ⟨hk,c,q,A',rfl,ys,gr,hy,hq,hall⟩
 have oc:=gr.one
 repeat first|refine R1 ?_|refine R2 fun _=>?_
 refine sf_if (fun e=>?_) fun e=>?_
 ·obtain ⟨k,rfl⟩:∃ k':Nat,k = k' + 1:=⟨k - 1,by omega⟩
  repeat first|refine R1 ?_|refine R2 fun _=>?_
  refine sf_draw (by kernel_rfl) (regX_own (rdA br v q) (Sw [[],[0],[],[2],[2,3],[0,1,2,3,4],[0,1,2,3,4,5],[0,1,2,3,4,5,6]] 5 [Nn 0,Nn 1,Nn 2,Yy 3,Yy 4] ?_))
  refine Da ?_
  refine Yc (l71Cell_f _ br v xs s hs q (by omega)) ?_
  rintro _ A3 ⟨cc,q2,rfl,hq2,rfl,hcc⟩
  refine Da ?_
  refine Yb fun w Aw gw=>?_
  refine Ae ?_
  refine Xa gr gw fun c2 A4 g4=>?_
  have oc2:=g4.one
  repeat first|refine R1 ?_|refine R2 fun _=>?_
  rw [show ((k + 1:Nat):Int) - 1 = (k:Int) by omega]
  exact ⟨k,by omega,⟨rfl,trivial⟩,rfl,rdA br v q2++((b3,.cells #[.int .i64 (1 + m),c2] 25) :: (A4++[(b2,.cells #[.int .i64 0,.slice none 0 0] 25)])),_,inferInstance,by omega,c2,q2,A4,rfl,_,g4,by simp; omega,by omega,by simp only [List.all_append,hall,Bool.true_and]; simp [hcc]⟩
 ·refine sf_exit ?_
  repeat first|refine R1 ?_|refine R2 fun _=>?_
  exact sf_ret (rt (rdA br v q++A') (resV_one rfl (yr_cell rfl)) ⟨⟨1 + m,ys⟩,c,A',q,rfl,gr,by simp only; omega,by simp only; omega,by simp only; omega,by simp only; omega,by omega,rfl,(gridOk_iff _).2 ⟨by simp only; omega,by simp only; omega,by simp only; have:=Int.mul_le_mul_of_nonneg_left (show 1 + m2 ≤ 5 by omega) (show 0 ≤ 1 + m by omega); omega,by simp only; rw [show (ys.length:Int) = (1 + m) * (1 + m2) by omega]; exact Int.mul_emod_right _ _,hall⟩⟩)
theorem l71Place_f (h:PHeap) (br:Nat) (v:Value) (xs:List (Fin 256)) (s:Sl h v u8F xs) (hs:xs.length ≤ 2000) (p:Nat) (hp1:p ≤ 999000) (cg:List Value) (g:Grid) (bg:(gridR τ).B h cg g) (hg:g.cells.length ≤ 1000):CallF Tryz.prog M 101 [.pointer (some ⟨br,0,none⟩),.agg cg.toArray] (rdA br v p) h fun u A=>∃ (z:Int) (q:Nat),u = .int .i64 z∧q ≤ p + 3∧A = rdA br v q:=by
 obtain ⟨c,rfl,sg⟩:=gridB bg
 have o1:=s.one
 have o2:=sg.one
 refine Cs Tryz.func101 Tryz.ntmps101 ?_
 repeat first|refine R1 ?_|refine R2 fun _=>?_
 refine f_split (fun h1=>?_) fun h1=>?_
 ·repeat first|refine R1 ?_|refine R2 fun _=>?_
  refine sf_T rfl ?_
  repeat first|refine R1 ?_|refine R2 fun _=>?_
  refine sf_draw (by kernel_rfl) (regX_own (rdA br v (p)) (regX_split 3 5 (by rfl) ?_ ?_))
  case' refine_1=>
   refine Sw [[],[0],[0,1],[0,1,2],[],[0,1,2,3,4],[0,1,2,3,4,5],[0,1,2,3,4,5,6],[0,1,2,3,4,5,6,7]] 5 [Nn 0,Nn 1,Nn 2,Nn 4,Yy 3] ?_
   refine Da ?_
   refine Yb fun w Aw gw=>?_
   have ow:=gw.one
   refine Da ?_
   refine Ae ?_
   refine fp (y_call (pick_f _ br v xs s hs (p) 3 (by omega) (by omega) (by omega)) (by rfl) ?_)
   rintro _ _ ⟨m,rfl,m0,m1,rfl⟩
   obtain ⟨m,rfl⟩:∃ k:Nat,m = k:=⟨m.toNat,by omega⟩
  case' refine_2=>
   refine Sw [[],[0],[0,1],[0,1,2,4,5],[],[4],[0,1,2,3,4,5],[0,1,2,3,4,5,6],[0,1,2,3,4,5,6,7]] 6 [Nn 0,Nn 1,Nn 2,Nn 4,Yy 5,Yy 3] ?_
   refine Da ?_
   refine Yc (pick_f _ br v xs s hs (p) 3 (by omega) (by omega) (by omega)) ?_
   rintro _ _ ⟨m,rfl,m0,m1,rfl⟩
   obtain ⟨m,rfl⟩:∃ k:Nat,m = k:=⟨m.toNat,by omega⟩
   refine Da ?_
   refine Yb fun w Aw gw=>?_
   have ow:=gw.one
   refine Da ?_
   refine Ae ?_
  all_goals
   refine fp (Rq ?_ (z_indexG (by rfl) (by rfl) gw (by simp; omega)))
   repeat first|refine R1 ?_|refine R2 fun _=>?_
   refine fp (Rq ?_ (z_loadG (by rfl) gw (by simp; omega) (by rfl)))
   repeat first|refine R1 ?_|refine R2 fun _=>?_
   exact sf_ret (rt (rdA br v (p + 1)) (resV_one rfl (res_tmp rfl)) ⟨_,p + 1,rfl,by omega,rfl⟩)
 ·repeat first|refine R1 ?_|refine R2 fun _=>?_
  refine fp (y_call (pick_f _ br v xs s hs p 24 (by omega) (by omega) (by omega)) (by rfl) ?_)
  rintro _ _ ⟨m,rfl,m0,m1,rfl⟩
  repeat first|refine R1 ?_|refine R2 fun _=>?_
  refine sf_if (fun h2=>?_) fun h2=>?_
  ·repeat first|refine R1 ?_|refine R2 fun _=>?_
   refine sf_draw (by kernel_rfl) (regX_own (rdA br v (p + 1)) (regX_split 3 5 (by rfl) ?_ ?_))
   case' refine_1=>
    refine Sw [[],[0],[0,1],[0,1,2],[],[0,1,2,3,4],[0,1,2,3,4,5],[0,1,2,3,4,5,6],[0,1,2,3,4,5,6,7]] 5 [Nn 0,Nn 1,Nn 2,Nn 4,Yy 3] ?_
    refine Da ?_
    refine Yb fun w Aw gw=>?_
    have ow:=gw.one
    refine Da ?_
    refine Ae ?_
    refine fp (y_call (pick_f _ br v xs s hs (p + 1) 3 (by omega) (by omega) (by omega)) (by rfl) ?_)
    rintro _ _ ⟨m,rfl,m0,m1,rfl⟩
    obtain ⟨m,rfl⟩:∃ k:Nat,m = k:=⟨m.toNat,by omega⟩
   case' refine_2=>
    refine Sw [[],[0],[0,1],[0,1,2,4,5],[],[4],[0,1,2,3,4,5],[0,1,2,3,4,5,6],[0,1,2,3,4,5,6,7]] 6 [Nn 0,Nn 1,Nn 2,Nn 4,Yy 5,Yy 3] ?_
    refine Da ?_
    refine Yc (pick_f _ br v xs s hs (p + 1) 3 (by omega) (by omega) (by omega)) ?_
    rintro _ _ ⟨m,rfl,m0,m1,rfl⟩
    obtain ⟨m,rfl⟩:∃ k:Nat,m = k:=⟨m.toNat,by omega⟩
    refine Da ?_
    refine Yb fun w Aw gw=>?_
    have ow:=gw.one
    refine Da ?_
    refine Ae ?_
   all_goals
    refine fp (Rq ?_ (z_indexG (by rfl) (by rfl) gw (by simp; omega)))
    repeat first|refine R1 ?_|refine R2 fun _=>?_
    refine fp (Rq ?_ (z_loadG (by rfl) gw (by simp; omega) (by rfl)))
    repeat first|refine R1 ?_|refine R2 fun _=>?_
    exact sf_ret (rt (rdA br v (p + 1 + 1)) (resV_one rfl (res_tmp rfl)) ⟨_,p + 1 + 1,rfl,by omega,rfl⟩)
  ·repeat first|refine R1 ?_|refine R2 fun _=>?_
   refine fp (y_call (pick_f _ br v xs s hs (p + 1) (g.cells.length:Int) (by omega) (by omega) (by omega)) (by rfl) ?_)
   rintro _ _ ⟨m2,rfl,m20,m21,rfl⟩
   repeat first|refine R1 ?_|refine R2 fun _=>?_
   exact sf_ret (rt (rdA br v (p + 1 + 1)) (resV_one rfl (res_tmp rfl)) ⟨_,p + 1 + 1,rfl,by omega,rfl⟩)
theorem l71Edit_f (h:PHeap) (br:Nat) (v:Value) (xs:List (Fin 256)) (s:Sl h v u8F xs) (hs:xs.length ≤ 2000) (p:Nat) (hp1:p ≤ 990000) (cg:List Value) (g:Grid) (bg:(gridR τ).B h cg g) (hg:g.cells.length ≤ 1000):CallF Tryz.prog M 64 [.pointer (some ⟨br,0,none⟩),.agg cg.toArray] (rdA br v p) h fun u A=>∃ (e:Edit) (q:Nat),u = .agg #[.int .i64 e.at',.int .i64 e.cell.kind,.int .i64 e.cell.light]∧q ≤ p + 10∧A = rdA br v q:=by
 have bg0:=bg
 obtain ⟨c,rfl,sg⟩:=gridB bg
 have o1:=s.one
 have o2:=sg.one
 refine Cs Tryz.func64 Tryz.ntmps64 ?_
 repeat first|refine R1 ?_|refine R2 fun _=>?_
 refine fp (y_call (l71Cell_f _ br v xs s hs p (by omega)) (by rfl) ?_)
 rintro _ _ ⟨cc,q,rfl,hq,rfl,-⟩
 repeat first|refine R1 ?_|refine R2 fun _=>?_
 refine fp (y_call (pick_f _ br v xs s hs q 30 (by omega) (by omega) (by omega)) (by rfl) ?_)
 rintro _ _ ⟨m,rfl,m0,m1,rfl⟩
 repeat first|refine R1 ?_|refine R2 fun _=>?_
 refine sf_if (fun h2=>?_) fun h2=>?_
 ·repeat first|refine R1 ?_|refine R2 fun _=>?_
  refine fp (y_call (l71Off_f _ br v xs s hs (q + 1) (by omega)) (by rfl) ?_)
  rintro _ _ ⟨c2,q2,rfl,hq2,rfl⟩
  repeat first|refine R1 ?_|refine R2 fun _=>?_
  refine sf_draw (by kernel_rfl) (regX_own (rdA br v q2) (Sw [[],[],[0,1],[],[0,1,2,3],[0,1,2,3,4]] 4 [Nn 0,Nn 1,Nn 3,Yy 2] ?_))
  refine Da ?_
  refine Yc (l71Place_f _ br v xs s hs q2 (by omega) _ g bg0 hg) ?_
  rintro _ _ ⟨z,q3,rfl,hq3,rfl⟩
  refine Da ?_
  refine Ae ?_
  repeat first|refine R1 ?_|refine R2 fun _=>?_
  exact sf_ret (rt (rdA br v q3) (resV_one rfl (yr_cell rfl)) ⟨⟨z,c2⟩,q3,rfl,by omega,rfl⟩)
 ·repeat first|refine R1 ?_|refine R2 fun _=>?_
  refine sf_draw (by kernel_rfl) (regX_own (rdA br v (q + 1)) (Sw [[],[],[0,1],[],[0,1,2,3],[0,1,2,3,4]] 4 [Nn 0,Nn 1,Nn 3,Yy 2] ?_))
  refine Da ?_
  refine Yc (l71Place_f _ br v xs s hs (q + 1) (by omega) _ g bg0 hg) ?_
  rintro _ _ ⟨z,q3,rfl,hq3,rfl⟩
  refine Da ?_
  refine Ae ?_
  repeat first|refine R1 ?_|refine R2 fun _=>?_
  exact sf_ret (rt (rdA br v q3) (resV_one rfl (yr_cell rfl)) ⟨⟨z,cc⟩,q3,rfl,by omega,rfl⟩)
theorem l1Copy_f (h:PHeap) (ca:List Value) (g:Grid) (b:(gridR τ).B h ca g) (hs:g.cells.length ≤ 1048576):CallF Tryz.prog M 94 [.agg ca.toArray] [] h fun v A=>∃ cs,v = .agg cs.toArray∧(gridR τ).O A cs g:=by
 obtain ⟨c,rfl,s⟩:=gridB b
 have o1:=s.one
 refine Cs Tryz.func94 Tryz.ntmps94 ?_
 repeat first|refine R1 ?_|refine R2 fun _=>?_
 refine Sd [[],[0],[],[],[3],[2,3,4],[0,1,2,3,4,5],[0,1,2,3,4,5,6]] 6 [Nn 0,Nn 1,Nn 3,Nn 4,Yy 2,Yy 5] ?_
 refine Da ?_
 refine Yb fun w A gw=>?_
 refine Ys gw s fun w2 A2 g2=>?_
 have o2:=g2.one
 refine Ae ?_
 repeat first|refine R1 ?_|refine R2 fun _=>?_
 exact sf_ret (rO A2 ⟨_,rfl,gridO_mk g2 (by omega)⟩)
theorem sKeepNew_f (h:PHeap) (ca:List Value) (g:Grid) (many:Int) (b:(gridR τ).B h ca g) (hs:g.cells.length ≤ 1048576):CallF Tryz.prog M 79 [.agg ca.toArray,.int .i64 many] [] h fun v A=>∃ cs,v = .tuple #[.agg cs.toArray,.bool (keepNew g many).2]∧(keeperR τ).O A cs (keepNew g many).1:=by
 obtain ⟨c,rfl,s⟩:=gridB b
 have o1:=s.one
 refine Cs Tryz.func79 Tryz.ntmps79 ?_
 repeat first|refine R1 ?_|refine R2 fun _=>?_
 refine Xv (sGridOk_v _ _ g ⟨c,rfl,s⟩) ?_
 repeat first|refine R1 ?_|refine R2 fun _=>?_
 refine f_splitB (fun h1=>?_) fun h1=>?_
 ·repeat first|refine R1 ?_|refine R2 fun _=>?_
  refine sf_T rfl ?_
  repeat first|refine R1 ?_|refine R2 fun _=>?_
  have e:keepNew g many = (noKeeper,false):=by unfold keepNew; simp at h1; simp [h1]
  rw [e]
  exact sf_ret (rO [] ⟨_,rfl,noKeeperO⟩)
 ·repeat first|refine R1 ?_|refine R2 fun _=>?_
  refine Xv (l6In_v _ _ _ _) ?_
  repeat first|refine R1 ?_|refine R2 fun _=>?_
  refine sf_cond (by rfl) (fun h2=>?_) fun h2=>?_
  ·repeat first|refine R1 ?_|refine R2 fun _=>?_
   have e:keepNew g many = (noKeeper,false):=by unfold keepNew; simp only [Bool.not_eq_true'] at h2; simp [h2]
   rw [e]
   exact sf_ret (rO [] ⟨_,rfl,noKeeperO⟩)
  ·have hm:1 ≤ many∧many ≤ 3:=by simpa using h2
   have e:keepNew g many = (⟨g,[],List.replicate many.toNat noPart,[]⟩,true):=by
    unfold keepNew; simp at h1; simp [h1,hm]
   rw [e]
   repeat first|refine R1 ?_|refine R2 fun _=>?_
   refine fp (y_call (l1Copy_f _ _ _ b hs) (by rfl) ?_)
   rintro _ A1 ⟨_,rfl,q⟩
   obtain ⟨c2,rfl,g1,l1⟩:=gridO q
   have o2:=g1.one
   repeat first|refine R1 ?_|refine R2 fun _=>?_
   refine Xb fun e1 A2 g2=>?_
   have o3:=g2.one
   repeat first|refine R1 ?_|refine R2 fun _=>?_
   refine Xb fun s1 A4 g4=>?_
   have o4:=g4.one
   repeat first|refine R1 ?_|refine R2 fun _=>?_
   rename_i b2 b4 b6
   obtain ⟨n,rfl⟩:∃ n:Nat,many = n:=⟨many.toNat,by omega⟩
   refine sf_lp [1,4,6] (fun i:Nat=>[(7,.int .i64 (i:Int))]) (fun i O=>i ≤ n∧∃ p A0 A3,O = (b6,.cells #[.int .i64 g.wide,c2,e1,p,s1] 30) :: (A0++A3++(A4++(A2++(A1++[(b4,.cells #[.int .i64 0,.slice none 0 0,.slice none 0 0,.slice none 0 0,.slice none 0 0] 30)]))))∧∃ rs:List (Raw (partR τ).sz),rs.length = i∧Gr A0 p 35 (rawF (partR τ).sz) rs∧OAll (partR τ) A3 rs (List.replicate i noPart)) (fun i=>n - i) 0 ((b6,.cells #[.int .i64 g.wide,c2,e1,.slice none 0 0,s1] 30) :: ([]++[]++(A4++(A2++(A1++[(b4,.cells #[.int .i64 0,.slice none 0 0,.slice none 0 0,.slice none 0 0,.slice none 0 0] 30)]))))) ⟨by omega,_,[],[],rfl,[],rfl,Gr.nil _ _,.nil⟩ ?_
   rintro i O ⟨hi,p,A0,A3,rfl,rs,hr,g3,oa⟩
   have o5:=g3.one
   repeat first|refine R1 ?_|refine R2 fun _=>?_
   refine sf_if (fun h4=>?_) fun h4=>?_
   ·repeat first|refine R1 ?_|refine R2 fun _=>?_
    refine Xb fun l1 Al gl=>?_
    have ol:=gl.one
    repeat first|refine R1 ?_|refine R2 fun _=>?_
    refine Xb fun u Au gu=>?_
    repeat first|refine R1 ?_|refine R2 fun _=>?_
    refine fp (y_append (by rfl) (by rfl) g3 gu (by intro y hy; simp at hy; subst hy; exact (inferInstance:AllOne [Value.bool false,.int .i64 0,l1]).is) (by rfl) (by rfl) (by simp; omega) (by simp; omega) fun p2 A5 g5=>?_)
    have o6:=g5.one
    repeat first|refine R1 ?_|refine R2 fun _=>?_
    refine ⟨i + 1,by omega,⟨rfl,trivial⟩,rfl,(b6,.cells #[.int .i64 g.wide,c2,e1,p2,s1] 30) :: (A5++(A3++Al)++(A4++(A2++(A1++[(b4,.cells #[.int .i64 0,.slice none 0 0,.slice none 0 0,.slice none 0 0,.slice none 0 0] 30)])))),_,inferInstance,by omega,p2,A5,A3++Al,rfl,_,by simp [hr],g5,?_⟩
    rw [List.replicate_succ']
    exact oa.snoc (partO_mk (p:=noPart) gl (by decide))
   ·refine sf_exit ?_
    repeat first|refine R1 ?_|refine R2 fun _=>?_
    have:i = n:=by omega
    subst this
    refine sf_ret (rO (A1++(A2++((A0++A3)++A4))) ⟨_,rfl,?_⟩)
    simp only [Int.toNat_natCast]
    exact keeperO_mk (k:=⟨g,[],List.replicate i noPart,[]⟩) g1 l1 g2 (Nat.zero_le _) ⟨A0,A3,rfl,rs,g3,oa,by simp; omega⟩ (GrR.of_gr g4)
def typedV (c:Cell):Value:=
 if c.kind = 7 then .iface 211 (.agg #[.int .i64 c.light])
 else if cellOk c then
  if c.kind = 0 then .iface 212 (.agg #[]) else if c.kind = 1 then .iface 213 (.agg #[]) else if c.kind = 2 then .iface 214 (.agg #[]) else if c.kind = 3 then .iface 215 (.agg #[])
  else if c.kind = 4 then .iface 216 (.agg #[]) else if c.kind = 5 then .iface 217 (.agg #[]) else .iface 218 (.agg #[])
 else .nilIface
theorem cellTyped_v (h:PHeap) (c:Cell):CallV Tryz.prog M 97 [.agg #[.int .i64 c.kind,.int .i64 c.light]] h (.tuple #[typedV c,.bool (cellOk c)]):=by
 obtain ⟨k,l⟩:=c
 refine Cs Tryz.func97 Tryz.ntmps97 ?_
 repeat first|refine R1 ?_|refine R2 fun _=>?_
 refine sf_if (fun h1=>?_) fun h1=>?_
 ·by_cases h2:l ≥ 1 <;>
  ·repeat first|refine R1 ?_|refine R2 fun _=>?_
   refine Sd [[],[0],[0,1],[0,1,2],[],[4],[4,5],[4,5,6],[4,5,6,7],[4,5,6,7,8],[4,5,6,7,8,9],[4,5,6,7,8,9,10],[0,1,2,3,4,5,6,7],[0,1,2,3,4,5,6,7,8,9,10,11,12]] 13 [Nn 0,Nn 1,Nn 2,Nn 3,Nn 4,Nn 5,Nn 6,Nn 7,Nn 8,Nn 9,Nn 10,Nn 11,Nn 12] ?_
   refine Da ?_
   refine Ae ?_
   repeat first|refine R1 ?_|refine R2 fun _=>?_
   refine sf_ret (rV ?_)
   simp [typedV,cellOk,h1,h2]
 ·repeat first|refine R1 ?_|refine R2 fun _=>?_
  refine f_split (fun h2=>?_) fun h2=>?_
  ·repeat first|refine R1 ?_|refine R2 fun _=>?_
   refine sf_T rfl ?_
   repeat first|refine R1 ?_|refine R2 fun _=>?_
   refine sf_ret (rV ?_)
   simp [typedV,cellOk,h1,show ¬ 0 ≤ k by omega]
  ·repeat first|refine R1 ?_|refine R2 fun _=>?_
   refine f_split (fun h3=>?_) fun h3=>?_
   ·repeat first|refine R1 ?_|refine R2 fun _=>?_
    refine sf_T rfl ?_
    repeat first|refine R1 ?_|refine R2 fun _=>?_
    refine sf_ret (rV ?_)
    simp [typedV,cellOk,h1,show ¬ k ≤ 6 by omega]
   ·repeat first|refine R1 ?_|refine R2 fun _=>?_
    refine sf_if (fun h4=>?_) fun h4=>?_
    ·repeat first|refine R1 ?_|refine R2 fun _=>?_
     refine sf_ret (rV ?_)
     simp [typedV,cellOk,h1,h4]
    ·obtain ⟨n,rfl⟩:∃ n:Nat,k = n:=⟨k.toNat,by omega⟩
     have hn:n = 0 ∨ n = 1 ∨ n = 2 ∨ n = 3 ∨ n = 4 ∨ n = 5 ∨ n = 6:=by omega
     repeat first|refine R1 ?_|refine R2 fun _=>?_
     rcases hn with rfl | rfl | rfl | rfl | rfl | rfl | rfl <;>
     ·repeat first|refine R1 ?_|refine R2 fun _=>?_
      refine sf_ret (rV ?_)
      simp at h4
      simp [typedV,cellOk,h4]
theorem cellOk_v (h:PHeap) (c:Cell):CallV Tryz.prog M 60 [.agg #[.int .i64 c.kind,.int .i64 c.light]] h (.bool (cellOk c)):=by
 refine Cs Tryz.func60 Tryz.ntmps60 ?_
 repeat first|refine R1 ?_|refine R2 fun _=>?_
 refine Xv (cellTyped_v _ c) ?_
 repeat first|refine R1 ?_|refine R2 fun _=>?_
 exact sf_ret (rV rfl)
theorem gridOk_v (h:PHeap) (ca:List Value) (g:Grid) (b:(gridR τ).B h ca g):CallV Tryz.prog M 59 [.agg ca.toArray] h (.bool (gridOk g)):=by
 obtain ⟨c,rfl,s⟩:=gridB b
 have o1:=s.one
 have hs:=s.small
 refine Cs Tryz.func59 Tryz.ntmps59 ?_
 repeat first|refine R1 ?_|refine R2 fun _=>?_
 refine f_split (fun h1=>?_) fun h1=>?_
 ·repeat first|refine R1 ?_|refine R2 fun _=>?_
  refine sf_T rfl ?_
  repeat first|refine R1 ?_|refine R2 fun _=>?_
  exact sf_ret (rV (by rw [gridOk_F (by omega)]))
 ·repeat first|refine R1 ?_|refine R2 fun _=>?_
  refine sf_if (fun h2=>?_) fun h2=>?_
  ·repeat first|refine R1 ?_|refine R2 fun _=>?_
   exact sf_ret (rV (by rw [gridOk_F (by omega)]))
  ·repeat first|refine R1 ?_|refine R2 fun _=>?_
   refine f_split (fun h3=>?_) fun h3=>?_
   ·repeat first|refine R1 ?_|refine R2 fun _=>?_
    refine sf_T rfl ?_
    repeat first|refine R1 ?_|refine R2 fun _=>?_
    exact sf_ret (rV (by rw [gridOk_F (by omega)]))
   ·repeat first|refine R1 ?_|refine R2 fun _=>?_
    refine f_split (fun h4=>?_) fun h4=>?_
    ·repeat first|refine R1 ?_|refine R2 fun _=>?_
     refine sf_T rfl ?_
     repeat first|refine R1 ?_|refine R2 fun _=>?_
     exact sf_ret (rV (by rw [gridOk_F (by omega)]))
    ·repeat first|refine R1 ?_|refine R2 fun _=>?_
     refine sf_if (fun h5=>?_) fun h5=>?_
     ·repeat first|refine R1 ?_|refine R2 fun _=>?_
      exact sf_ret (rV (by rw [gridOk_F (by omega)]))
     ·repeat first|refine R1 ?_|refine R2 fun _=>?_
      refine sf_rd [36,37] 38 g.cells.length 0 (fun k=>(g.cells.take k).all cellOk = true) (by omega) rfl (fun k hk hi=>?_)
      repeat first|refine R1 ?_|refine R2 fun _=>?_
      refine sf_if (fun h6=>?_) fun h6=>?_
      ·have hk4:k < g.cells.length:=by omega
       repeat first|refine R1 ?_|refine R2 fun _=>?_
       refine Xv (cellOk_v _ (gt g.cells k)) ?_
       repeat first|refine R1 ?_|refine R2 fun _=>?_
       refine sf_cond (by rfl) (fun h7=>?_) fun h7=>?_
       ·repeat first|refine R1 ?_|refine R2 fun _=>?_
        simp only [Bool.not_eq_true'] at h7
        refine sf_ret (rV ?_)
        simp [gridOk,all_false hk4 h7]
       ·repeat first|refine R1 ?_|refine R2 fun _=>?_
        refine ⟨⟨hk4,?_⟩,rfl,rfl,_,inferInstance⟩
        rw [all_take hk4,hi]; simpa using h7
      ·refine sf_exit ?_
       repeat first|refine R1 ?_|refine R2 fun _=>?_
       rw [take_ge hk (by omega)] at hi
       exact sf_ret (rV (by rw [(gridOk_iff g).2 ⟨⟨by omega,by omega⟩,by omega,by omega,by omega,hi⟩]))
theorem cloneCells_f (h:PHeap) (v:Value) (xs:List Cell) (s:Sl h v cellF xs) (hs:xs.length ≤ 1048576):CallF Tryz.prog M 98 [v] [] h fun v' A=>Gr A v' 46 cellF xs:=by
 have o1:=s.one
 refine Cs Tryz.func98 Tryz.ntmps98 ?_
 refine Wo ?_
 refine fp (Rq ?_ (q_eqNil (by infer_instance) (by rfl) (by rfl) s))
 refine Wo ?_
 refine sf_cond (by rfl) (fun h1=>?_) fun h1=>?_
 ·obtain ⟨rfl,rfl⟩:=isNilS_nil s h1
  refine Wo ?_
  exact sf_ret (rO [] (Gr.nil _ _))
 ·refine Wo ?_
  refine Xb fun w A gw=>?_
  refine Wo ?_
  refine Xs gw s fun w2 A2 g2=>?_
  refine Wo ?_
  exact sf_ret (rO A2 g2)
theorem gridCopy_f (h:PHeap) (ca:List Value) (g:Grid) (b:(gridR τ).B h ca g) (hs:g.cells.length ≤ 1048576):CallF Tryz.prog M 61 [.agg ca.toArray] [] h fun v A=>∃ cs,v = .agg cs.toArray∧(gridR τ).O A cs g:=by
 obtain ⟨c,rfl,s⟩:=gridB b
 have o1:=s.one
 refine Cs Tryz.func61 Tryz.ntmps61 ?_
 repeat first|refine R1 ?_|refine R2 fun _=>?_
 refine Sd [[],[0],[],[2],[2,3],[0,1,2,3,4],[0,1,2,3,4,5]] 5 [Nn 0,Nn 1,Nn 2,Nn 3,Yy 4] ?_
 refine Da ?_
 refine Yc (cloneCells_f _ _ _ s hs) fun w A g2=>?_
 have o2:=g2.one
 refine Ae ?_
 repeat first|refine R1 ?_|refine R2 fun _=>?_
 exact sf_ret (rO A ⟨_,rfl,gridO_mk g2 (by omega)⟩)
instance:ElemF Tryz.prog 155 visitF:=⟨trivial⟩
instance:ElemF Tryz.prog 117 endF:=⟨trivial⟩
instance:ElemF Tryz.prog 151 rayF:=⟨trivial⟩
instance:ElemF Tryz.prog 157 beamF:=⟨trivial⟩
instance:ElemF Tryz.prog 4 boolF:=⟨trivial⟩
instance:EqFl Tryz.prog 151 rayF:=eqFl_ray inferInstance (inferInstance:Ty Tryz.prog 3 _ 1 _ _) (by kernel_rfl)
theorem rowsOf_v (h:PHeap) (c:Value) (g:Grid) (s:Sl h c cellF g.cells) (hw:1 ≤ g.wide):CallV Tryz.prog M 108 [.agg #[.int .i64 g.wide,c]] h (.int .i64 (rowsOf g)):=by
 have o1:=s.one
 have hs:=s.small
 refine Cs Tryz.func108 Tryz.ntmps108 ?_
 repeat first|refine R1 ?_|refine R2 fun _=>?_
 exact sf_ret (rV rfl)
theorem dirOk_v (h:PHeap) (d:Int):CallV Tryz.prog M 148 [.int .i64 d] h (.bool (decide (0 ≤ d) && decide (d ≤ 3))):=by
 refine Cs Tryz.func148 Tryz.ntmps148 ?_
 refine Wo ?_
 refine f_split (fun h1=>?_) fun h1=>?_ <;>
 ·refine Wo ?_
  refine sf_ret (rV ?_)
  simp [h1]
theorem dirOpposite_v (h:PHeap) (d:Int) (h0:0 ≤ d) (h1:d ≤ 3):CallV Tryz.prog M 186 [.int .i64 d] h (.int .i64 ((d + 2) % 4)):=by
 refine Cs Tryz.func186 Tryz.ntmps186 ?_
 refine Wo ?_
 exact sf_ret (rV rfl)
section
variable (h:PHeap) (c:Value) (g:Grid) (a:Int) (s:Sl h c cellF g.cells) (hw:1 ≤ g.wide∧g.wide ≤ 5) (ha:0 ≤ a∧a < 1000)
include s hw ha
theorem up_v:CallV Tryz.prog M 182 [.agg #[.int .i64 g.wide,c,.int .i64 a]] h (.tuple #[.int .i64 (a - g.wide),.bool (decide (g.wide ≤ a))]):=by
 have o1:=s.one
 refine Cs Tryz.func182 Tryz.ntmps182 ?_
 repeat first|refine R1 ?_|refine R2 fun _=>?_
 refine Sd [[],[0],[],[2],[2,3],[0,1,2,3,4],[],[6],[],[8],[8,9],[6,7,8,9,10],[0,1,2,3,4,5],[0,1,2,3,4,5,6,7,8,9,10,11,12]] 13 [Nn 0,Nn 1,Nn 2,Nn 3,Nn 4,Nn 5,Nn 6,Nn 7,Nn 8,Nn 9,Nn 10,Nn 11,Nn 12] ?_
 refine Da ?_
 refine Ae ?_
 repeat first|refine R1 ?_|refine R2 fun _=>?_
 exact sf_ret (rV rfl)
theorem right_v:CallV Tryz.prog M 183 [.agg #[.int .i64 g.wide,c,.int .i64 a]] h (.tuple #[.int .i64 (a + 1),.bool (decide (a % g.wide ≠ g.wide - 1))]):=by
 have o1:=s.one
 refine Cs Tryz.func183 Tryz.ntmps183 ?_
 repeat first|refine R1 ?_|refine R2 fun _=>?_
 refine Sd [[],[0],[0,1],[],[3],[],[5],[5,6],[3,4,5,6,7],[],[9],[9,10],[9,10,11],[3,4,5,6,7,8,9,10,11,12],[0,1,2],[0,1,2,3,4,5,6,7,8,9,10,11,12,13,14]] 15 [Nn 0,Nn 1,Nn 2,Nn 3,Nn 4,Nn 5,Nn 6,Nn 7,Nn 8,Nn 9,Nn 10,Nn 11,Nn 12,Nn 13,Nn 14] ?_
 refine Da ?_
 refine Ae ?_
 repeat first|refine R1 ?_|refine R2 fun _=>?_
 exact sf_ret (rV rfl)
theorem down_v:CallV Tryz.prog M 184 [.agg #[.int .i64 g.wide,c,.int .i64 a]] h (.tuple #[.int .i64 (a + g.wide),.bool (decide (a + g.wide < g.cells.length))]):=by
 have o1:=s.one
 refine Cs Tryz.func184 Tryz.ntmps184 ?_
 repeat first|refine R1 ?_|refine R2 fun _=>?_
 refine Sd [[],[0],[],[2],[2,3],[0,1,2,3,4],[],[6],[],[8],[8,9],[6,7,8,9,10],[],[12],[12,13],[12,13,14],[6,7,8,9,10,11,12,13,14,15],[0,1,2,3,4,5],[0,1,2,3,4,5,6,7,8,9,10,11,12,13,14,15,16,17]] 18 [Nn 0,Nn 1,Nn 2,Nn 3,Nn 4,Nn 5,Nn 6,Nn 7,Nn 8,Nn 9,Nn 10,Nn 11,Nn 12,Nn 13,Nn 14,Nn 15,Nn 16,Nn 17] ?_
 refine Da ?_
 refine Ae ?_
 repeat first|refine R1 ?_|refine R2 fun _=>?_
 exact sf_ret (rV rfl)
theorem left_v:CallV Tryz.prog M 185 [.agg #[.int .i64 g.wide,c,.int .i64 a]] h (.tuple #[.int .i64 (a - 1),.bool (decide (a % g.wide ≠ 0))]):=by
 have o1:=s.one
 refine Cs Tryz.func185 Tryz.ntmps185 ?_
 repeat first|refine R1 ?_|refine R2 fun _=>?_
 refine Sd [[],[0],[0,1],[],[3],[],[5],[5,6],[3,4,5,6,7],[3,4,5,6,7,8],[0,1,2],[0,1,2,3,4,5,6,7,8,9,10]] 11 [Nn 0,Nn 1,Nn 2,Nn 3,Nn 4,Nn 5,Nn 6,Nn 7,Nn 8,Nn 9,Nn 10] ?_
 refine Da ?_
 refine Ae ?_
 repeat first|refine R1 ?_|refine R2 fun _=>?_
 exact sf_ret (rV rfl)
end
def stepV (g:Grid) (a d:Int):Value:=match nextAt g a d with
 | some b=>.tuple #[.agg #[.int .i64 b,.int .i64 d],.bool true]
 | none=>.tuple #[.agg #[.int .i64 0,.int .i64 0],.bool false]
theorem rayStep_v (h:PHeap) (c:Value) (g:Grid) (a d:Int) (s:Sl h c cellF g.cells) (hw:1 ≤ g.wide∧g.wide ≤ 5) (ha:0 ≤ a∧a < 1000) (hd:0 ≤ d∧d ≤ 3):CallV Tryz.prog M 146 [.agg #[.int .i64 g.wide,c],.int .i64 a,.int .i64 d] h (stepV g a d):=by
 have o1:=s.one
 obtain ⟨n,rfl⟩:∃ n:Nat,d = n:=⟨d.toNat,by omega⟩
 have hn:n = 0 ∨ n = 1 ∨ n = 2 ∨ n = 3:=by omega
 refine Cs Tryz.func146 Tryz.ntmps146 ?_
 repeat first|refine R1 ?_|refine R2 fun _=>?_
 rcases hn with rfl | rfl | rfl | rfl
 ·refine Sd [[],[0],[0,1],[],[],[3,4],[0,1,2,3,4,5],[0,1,2,3,4,5,6],[0,1,2,3,4,5,6,7],[0,1,2,3,4,5,6,7],[0,1,2,3,4,5,6,7,8],[0,1,2,3,4,5,6,7,8,9,10]] 11 [Nn 0,Nn 1,Nn 2,Nn 3,Nn 4,Nn 5,Yy 6,Nn 7,Nn 8,Nn 9,Nn 10] ?_
  refine Da ?_
  refine a_callC (by rfl) (by rfl) (by rfl) (by exact up_v h c g a s hw ha) (.inl rfl) ?_
  rintro _ _ ⟨rfl,rfl⟩
  refine Da ?_
  refine Ae ?_
  repeat first|refine R1 ?_|refine R2 fun _=>?_
  refine sf_ifn (fun e=>?_) fun e=>?_
  ·repeat first|refine R1 ?_|refine R2 fun _=>?_
   refine sf_ret (rV ?_)
   simp [stepV,nextAt,e]
  ·repeat first|refine R1 ?_|refine R2 fun _=>?_
   refine sf_ret (rV ?_)
   simp [stepV,nextAt,e]
 ·refine Sd [[],[0],[0,1],[],[],[3,4],[0,1,2,3,4,5],[0,1,2,3,4,5,6],[0,1,2,3,4,5,6,7],[0,1,2,3,4,5,6,7],[0,1,2,3,4,5,6,7,8],[0,1,2,3,4,5,6,7,8,9,10]] 11 [Nn 0,Nn 1,Nn 2,Nn 3,Nn 4,Nn 5,Yy 6,Nn 7,Nn 8,Nn 9,Nn 10] ?_
  refine Da ?_
  refine a_callC (by rfl) (by rfl) (by rfl) (by exact right_v h c g a s hw ha) (.inl rfl) ?_
  rintro _ _ ⟨rfl,rfl⟩
  refine Da ?_
  refine Ae ?_
  repeat first|refine R1 ?_|refine R2 fun _=>?_
  refine sf_ifn (fun e=>?_) fun e=>?_
  ·repeat first|refine R1 ?_|refine R2 fun _=>?_
   refine sf_ret (rV ?_)
   simp [stepV,nextAt,e]
  ·repeat first|refine R1 ?_|refine R2 fun _=>?_
   refine sf_ret (rV ?_)
   simp [stepV,nextAt,e]
 ·refine Sd [[],[0],[0,1],[],[],[3,4],[0,1,2,3,4,5],[0,1,2,3,4,5,6],[0,1,2,3,4,5,6,7],[0,1,2,3,4,5,6,7],[0,1,2,3,4,5,6,7,8],[0,1,2,3,4,5,6,7,8,9,10]] 11 [Nn 0,Nn 1,Nn 2,Nn 3,Nn 4,Nn 5,Yy 6,Nn 7,Nn 8,Nn 9,Nn 10] ?_
  refine Da ?_
  refine a_callC (by rfl) (by rfl) (by rfl) (by exact down_v h c g a s hw ha) (.inl rfl) ?_
  rintro _ _ ⟨rfl,rfl⟩
  refine Da ?_
  refine Ae ?_
  repeat first|refine R1 ?_|refine R2 fun _=>?_
  refine sf_ifn (fun e=>?_) fun e=>?_
  ·repeat first|refine R1 ?_|refine R2 fun _=>?_
   refine sf_ret (rV ?_)
   simp [stepV,nextAt,e]
  ·repeat first|refine R1 ?_|refine R2 fun _=>?_
   refine sf_ret (rV ?_)
   simp [stepV,nextAt,e]
 ·refine Sd [[],[0],[0,1],[],[],[3,4],[0,1,2,3,4,5],[0,1,2,3,4,5,6],[0,1,2,3,4,5,6,7],[0,1,2,3,4,5,6,7],[0,1,2,3,4,5,6,7,8],[0,1,2,3,4,5,6,7,8,9,10]] 11 [Nn 0,Nn 1,Nn 2,Nn 3,Nn 4,Nn 5,Yy 6,Nn 7,Nn 8,Nn 9,Nn 10] ?_
  refine Da ?_
  refine a_callC (by rfl) (by rfl) (by rfl) (by exact left_v h c g a s hw ha) (.inl rfl) ?_
  rintro _ _ ⟨rfl,rfl⟩
  refine Da ?_
  refine Ae ?_
  repeat first|refine R1 ?_|refine R2 fun _=>?_
  refine sf_ifn (fun e=>?_) fun e=>?_
  ·repeat first|refine R1 ?_|refine R2 fun _=>?_
   refine sf_ret (rV ?_)
   simp [stepV,nextAt,e]
  ·repeat first|refine R1 ?_|refine R2 fun _=>?_
   refine sf_ret (rV ?_)
   simp [stepV,nextAt,e]
theorem dirTurn_v (h:PHeap) (k d:Int) (hd:0 ≤ d∧d ≤ 3):CallV Tryz.prog M 113 [.int .i64 k,.int .i64 d] h (.int .i64 (dirTurn k d)):=by
 obtain ⟨n,rfl⟩:∃ n:Nat,d = n:=⟨d.toNat,by omega⟩
 have hn:n = 0 ∨ n = 1 ∨ n = 2 ∨ n = 3:=by omega
 refine Cs Tryz.func113 Tryz.ntmps113 ?_
 refine Wo ?_
 refine Xv (dirOk_v _ _) ?_
 refine Wo ?_
 refine sf_cond (by rfl) (fun e=>by simp at e; omega) fun _=>?_
 refine Wo ?_
 rcases hn with rfl | rfl | rfl | rfl <;>
 ·refine sf_if (fun e1=>?_) fun e1=>?_
  ·refine Wo ?_
   refine sf_if (fun _=>?_) fun e=>absurd e1 e
   refine Wo ?_
   refine fp (Rq ?_ (q_index (by infer_instance) (by infer_instance) (by rfl) (by rfl) (by decide) (by decide) (by rfl)))
   refine Wo ?_
   refine sf_ret (rV ?_)
   simp [dirTurn,e1]
  ·refine Wo ?_
   refine sf_if (fun e2=>?_) fun e2=>?_
   ·refine Wo ?_
    refine fp (Rq ?_ (q_index (by infer_instance) (by infer_instance) (by rfl) (by rfl) (by decide) (by decide) (by rfl)))
    refine Wo ?_
    refine sf_ret (rV ?_)
    simp [dirTurn,e2]
   ·refine Wo ?_
    refine sf_if (fun e3=>?_) fun e3=>?_
    ·refine Wo ?_
     refine sf_if (fun _=>?_) fun e=>absurd e3 e
     refine Wo ?_
     refine fp (Rq ?_ (q_index (by infer_instance) (by infer_instance) (by rfl) (by rfl) (by decide) (by decide) (by rfl)))
     refine Wo ?_
     refine sf_ret (rV ?_)
     simp [dirTurn,e3]
    ·refine Wo ?_
     refine sf_if (fun e4=>?_) fun e4=>?_
     ·refine Wo ?_
      refine fp (Rq ?_ (q_index (by infer_instance) (by infer_instance) (by rfl) (by rfl) (by decide) (by decide) (by rfl)))
      refine Wo ?_
      refine sf_ret (rV ?_)
      simp [dirTurn,e4]
     ·refine Wo ?_
      refine sf_ret (rV ?_)
      simp [dirTurn,e1,e2,e3,e4]
theorem sidesToldR_f (h : PHeap) (c : Value) (g : Grid) (s : Sl h c cellF g.cells) (hw : 1 ≤ g.wide ∧ g.wide ≤ 5) (rw' : Nat) (ww : Nat) (ew : g.wide = ww) (er : rowsOf g = rw') (hl : g.cells.length = rw' * ww) (hr : 1 ≤ rw' ∧ rw' ≤ 5) (f : FuncId) [Fun Tryz.prog f] (cap : Array Value) (St : Nat → Own) (val : Nat → Ray)
  (C:∀ k,k < 2 * (ww + rw')→CallF Tryz.prog M f ([.int .i64 (k:Int),.agg #[.int .i64 (rayAt g (k:Nat)).at',.int .i64 (rayAt g (k:Nat)).dir]]++cap.toList) (St k) h fun v A=>v = .agg #[.int .i64 (val k).at',.int .i64 (val k).dir]∧A = St (k + 1)) :
  CallF Tryz.prog M 139 [.agg #[.int .i64 g.wide,c],.func (.func f) #[] cap] (St 0) h fun v A=>∃ A',A = St (2 * (ww + rw'))++A'∧Gr A' v 151 rayF ((List.range (2 * (ww + rw'))).map val):=by
 have o1:=s.one
 have ray:∀ (k:Nat),k < 2 * (ww + rw')→∀ x y,rayAt g (k:Nat) = ⟨x,y⟩→CallF Tryz.prog M f (#[].toList++[.int .i64 (k:Int),.agg #[.int .i64 x,.int .i64 y]]++cap.toList) (St k) h fun v A=>v = .agg #[.int .i64 (val k).at',.int .i64 (val k).dir]∧A = St (k + 1):=fun k hk x y e=>by
  have:=C k hk
  rw [e] at this; exact this
 have step:∀ (k:Nat) (xs:List Ray),xs.length = k→xs = (List.range k).map val→xs++[val k] = (List.range (k + 1)).map val:=fun k xs _ e=>by rw [List.range_succ,List.map_append,e]; rfl
 refine Cs Tryz.func139 Tryz.ntmps139 ?_
 repeat first|refine R1 ?_|refine R2 fun _=>?_
 refine Sd [[],[0],[],[2],[0,1,2,3],[0,1,2,3,4]] 4 [Nn 0,Nn 1,Nn 2,Yy 3] ?_
 refine Da ?_
 refine Yv (rowsOf_v h c g s hw.1) ?_
 rw [er]
 refine Da ?_
 refine Ae ?_
 repeat first|refine R1 ?_|refine R2 fun _=>?_
 obtain ⟨N,hN⟩:∃ N:Nat,2 * (g.wide + (rw':Int)) = N:=⟨2 * (ww + rw'),by omega⟩
 rw [hN]
 refine fp (y_make0 (by rfl) (by rfl) (by rfl) (by decide) (by omega) fun w A g0=>?_)
 repeat first|refine R1 ?_|refine R2 fun _=>?_
 rename_i b2
 refine sf_lp (ι:=Nat × Value) [1,5,6,21] (fun x=>[(22,.int .i64 (x.1:Int)),(7,x.2)]) (fun x O=>x.1 ≤ ww∧∃ A',O = St x.1++(A'++[(b2,.cells #[.int .i64 g.wide,c] 25)])∧∃ xs,xs.length = x.1∧xs = (List.range x.1).map val∧Gr A' x.2 151 rayF xs) (fun x=>ww - x.1) (0,w) (St 0++(A++[(b2,.cells #[.int .i64 g.wide,c] 25)])) ⟨by omega,A,rfl,[],rfl,rfl,g0⟩ ?_
 rintro ⟨j,v⟩ O ⟨hj,A',rfl,xs,hx,ex,gr⟩
 simp only at hj hx ex gr ⊢
 subst hx
 have o2:=gr.one
 repeat first|refine R1 ?_|refine R2 fun _=>?_
 refine sf_if (fun e=>?_) fun e=>?_
 ·repeat first|refine R1 ?_|refine R2 fun _=>?_
  refine fp (y_callC2 (by rfl) (by rfl) (by exact ray xs.length (by omega) xs.length 2 (by unfold rayAt; rw [if_pos (by omega)])) ?_)
  rintro _ _ ⟨rfl,rfl⟩
  repeat first|refine R1 ?_|refine R2 fun _=>?_
  refine Xb fun u Au gu=>?_
  repeat first|refine R1 ?_|refine R2 fun _=>?_
  refine Xa gr gu fun v2 A2 g2=>?_
  repeat first|refine R1 ?_|refine R2 fun _=>?_
  exact ⟨(xs.length + 1,v2),by simp only; omega,⟨rfl,rfl,trivial⟩,rfl,St (xs.length + 1)++(A2++[(b2,.cells #[.int .i64 g.wide,c] 25)]),_,inferInstance,by simp only; omega,A2,rfl,_,by simp,step _ xs rfl ex,g2⟩
 refine sf_exit ?_
 obtain rfl:ww = xs.length:=by omega
 clear g0 w A e hj
 repeat first|refine R1 ?_|refine R2 fun _=>?_
 refine sf_lp (ι:=Nat × Value) [1,5,6,35] (fun x=>[(36,.int .i64 (x.1:Int)),(7,x.2)]) (fun x O=>x.1 ≤ rw'∧∃ A',O = St (xs.length + x.1)++(A'++[(b2,.cells #[.int .i64 g.wide,c] 25)])∧∃ ys,ys.length = xs.length + x.1∧ys = (List.range (xs.length + x.1)).map val∧Gr A' x.2 151 rayF ys) (fun x=>rw' - x.1) (0,v) (St xs.length++(A'++[(b2,.cells #[.int .i64 g.wide,c] 25)])) ⟨by omega,A',rfl,xs,rfl,ex,gr⟩ ?_
 rintro ⟨j,v⟩ O ⟨hj,A',rfl,ys,hx,ey,gr⟩
 simp only at hj hx ey gr ⊢
 have o2:=gr.one
 repeat first|refine R1 ?_|refine R2 fun _=>?_
 refine sf_if (fun e=>?_) fun e=>?_
 ·have hm:0 ≤ (j:Int) * g.wide∧(j:Int) * g.wide ≤ 4 * 5:=⟨Int.mul_nonneg (by omega) (by omega),Int.mul_le_mul (by omega) (by omega) (by omega) (by omega)⟩
  repeat first|refine R1 ?_|refine R2 fun _=>?_
  rw [← hx]
  refine fp (y_callC2 (by rfl) (by rfl) (by exact ray ys.length (by omega) _ 3 (by unfold rayAt; rw [if_neg (by omega),if_pos (by omega)]; exact ray_ext (by rw [show ((ys.length:Nat):Int) - g.wide = j by omega]) rfl)) ?_)
  rintro _ _ ⟨rfl,rfl⟩
  repeat first|refine R1 ?_|refine R2 fun _=>?_
  refine Xb fun u Au gu=>?_
  repeat first|refine R1 ?_|refine R2 fun _=>?_
  refine Xa gr gu fun v2 A2 g2=>?_
  repeat first|refine R1 ?_|refine R2 fun _=>?_
  exact ⟨(j + 1,v2),by simp only; omega,⟨rfl,rfl,trivial⟩,rfl,St (ys.length + 1)++(A2++[(b2,.cells #[.int .i64 g.wide,c] 25)]),_,inferInstance,by simp only; omega,A2,by simp only [hx]; rfl,_,by simp; omega,by rw [step _ ys rfl (by rw [hx]; exact ey),hx]; rfl,g2⟩
 refine sf_exit ?_
 obtain rfl:rw' = j:=by omega
 clear e hj
 have gr':=gr
 clear gr
 have hl':(g.cells.length:Int) = (rw':Int) * g.wide:=by rw [ew,hl,Int.natCast_mul]
 have hm0:0 ≤ (rw':Int) * g.wide∧(rw':Int) * g.wide ≤ 5 * 5:=⟨Int.mul_nonneg (by omega) (by omega),Int.mul_le_mul (by omega) (by omega) (by omega) (by omega)⟩
 repeat first|refine R1 ?_|refine R2 fun _=>?_
 refine sf_lp (ι:=Nat × Value) [1,5,6,54] (fun x=>[(55,.int .i64 (x.1:Int)),(7,x.2)]) (fun x O=>x.1 ≤ xs.length∧∃ A',O = St (xs.length + rw' + x.1)++(A'++[(b2,.cells #[.int .i64 g.wide,c] 25)])∧∃ ys,ys.length = xs.length + rw' + x.1∧ys = (List.range (xs.length + rw' + x.1)).map val∧Gr A' x.2 151 rayF ys) (fun x=>xs.length - x.1) (0,v) (St (xs.length + rw')++(A'++[(b2,.cells #[.int .i64 g.wide,c] 25)])) ⟨by omega,A',rfl,ys,hx,ey,gr'⟩ ?_
 clear gr' ey hx o2 ys
 rintro ⟨j,v⟩ O ⟨hj,A',rfl,ys,hx,ey,gr⟩
 simp only at hj hx ey gr ⊢
 have o2:=gr.one
 repeat first|refine R1 ?_|refine R2 fun _=>?_
 refine sf_if (fun e=>?_) fun e=>?_
 ·repeat first|refine R1 ?_|refine R2 fun _=>?_
  rw [← hx]
  refine fp (y_callC2 (by rfl) (by rfl) (by exact ray ys.length (by omega) _ 0 (by unfold rayAt; rw [if_neg (by omega),if_neg (by omega),if_pos (by omega)]; exact ray_ext (by omega) rfl)) ?_)
  rintro _ _ ⟨rfl,rfl⟩
  repeat first|refine R1 ?_|refine R2 fun _=>?_
  refine Xb fun u Au gu=>?_
  repeat first|refine R1 ?_|refine R2 fun _=>?_
  refine Xa gr gu fun v2 A2 g2=>?_
  repeat first|refine R1 ?_|refine R2 fun _=>?_
  exact ⟨(j + 1,v2),by simp only; omega,⟨rfl,rfl,trivial⟩,rfl,St (ys.length + 1)++(A2++[(b2,.cells #[.int .i64 g.wide,c] 25)]),_,inferInstance,by simp only; omega,A2,by simp only [hx]; rfl,_,by simp; omega,by rw [step _ ys rfl (by rw [hx]; exact ey),hx]; rfl,g2⟩
 refine sf_exit ?_
 obtain rfl:xs.length = j:=by omega
 clear e hj
 repeat first|refine R1 ?_|refine R2 fun _=>?_
 refine sf_lp (ι:=Nat × Value) [1,5,6,73] (fun x=>[(74,.int .i64 (x.1:Int)),(7,x.2)]) (fun x O=>x.1 ≤ rw'∧∃ A',O = St (xs.length + rw' + xs.length + x.1)++(A'++[(b2,.cells #[.int .i64 g.wide,c] 25)])∧∃ ys,ys.length = xs.length + rw' + xs.length + x.1∧ys = (List.range (xs.length + rw' + xs.length + x.1)).map val∧Gr A' x.2 151 rayF ys) (fun x=>rw' - x.1) (0,v) (St (xs.length + rw' + xs.length)++(A'++[(b2,.cells #[.int .i64 g.wide,c] 25)])) ⟨by omega,A',rfl,ys,hx,ey,gr⟩ ?_
 clear gr ey hx o2 ys
 rintro ⟨j,v⟩ O ⟨hj,A',rfl,ys,hx,ey,gr⟩
 simp only at hj hx ey gr ⊢
 have o2:=gr.one
 repeat first|refine R1 ?_|refine R2 fun _=>?_
 refine sf_if (fun e=>?_) fun e=>?_
 ·have hm:0 ≤ ((rw':Int) - 1 - j) * g.wide∧((rw':Int) - 1 - j) * g.wide ≤ 4 * 5:=⟨Int.mul_nonneg (by omega) (by omega),Int.mul_le_mul (by omega) (by omega) (by omega) (by omega)⟩
  have hq:((rw':Int) - 1 - j) * g.wide = (rw':Int) * g.wide - g.wide - (j:Int) * g.wide:=by rw [Int.sub_mul,Int.sub_mul,Int.one_mul]
  repeat first|refine R1 ?_|refine R2 fun _=>?_
  rw [← hx]
  refine fp (y_callC2 (by rfl) (by rfl) (by exact ray ys.length (by omega) _ 1 (by unfold rayAt; rw [if_neg (by omega),if_neg (by omega),if_neg (by omega)]; exact ray_ext (by rw [hl',hq,show ((ys.length:Nat):Int) - g.wide - rowsOf g - g.wide = j by omega]) rfl)) ?_)
  rintro _ _ ⟨rfl,rfl⟩
  repeat first|refine R1 ?_|refine R2 fun _=>?_
  refine Xb fun u Au gu=>?_
  repeat first|refine R1 ?_|refine R2 fun _=>?_
  refine Xa gr gu fun v2 A2 g2=>?_
  repeat first|refine R1 ?_|refine R2 fun _=>?_
  exact ⟨(j + 1,v2),by simp only; omega,⟨rfl,rfl,trivial⟩,rfl,St (ys.length + 1)++(A2++[(b2,.cells #[.int .i64 g.wide,c] 25)]),_,inferInstance,by simp only; omega,A2,by simp only [hx]; rfl,_,by simp; omega,by rw [step _ ys rfl (by rw [hx]; exact ey),hx]; rfl,g2⟩
 refine sf_exit ?_
 obtain rfl:rw' = j:=by omega
 repeat first|refine R1 ?_|refine R2 fun _=>?_
 have eN:2 * (xs.length + rw') = xs.length + rw' + xs.length + rw':=by omega
 exact sf_ret (rO (St (xs.length + rw' + xs.length + rw')++A') ⟨A',by rw [eN],by rw [eN,← ey]; exact gr⟩)
theorem sidesToldB_f (h : PHeap) (c : Value) (g : Grid) (s : Sl h c cellF g.cells) (hw : 1 ≤ g.wide ∧ g.wide ≤ 5) (rw' : Nat) (ww : Nat) (ew : g.wide = ww) (er : rowsOf g = rw') (hl : g.cells.length = rw' * ww) (hr : 1 ≤ rw' ∧ rw' ≤ 5) (f : FuncId) [Fun Tryz.prog f] (cap : Array Value) (St : Nat → Own) (val : Nat → Bool)
  (C:∀ k,k < 2 * (ww + rw')→CallF Tryz.prog M f ([.int .i64 (k:Int),.agg #[.int .i64 (rayAt g (k:Nat)).at',.int .i64 (rayAt g (k:Nat)).dir]]++cap.toList) (St k) h fun v A=>v = .bool (val k)∧A = St (k + 1)) :
  CallF Tryz.prog M 187 [.agg #[.int .i64 g.wide,c],.func (.func f) #[] cap] (St 0) h fun v A=>∃ A',A = St (2 * (ww + rw'))++A'∧Gr A' v 4 boolF ((List.range (2 * (ww + rw'))).map val):=by
 have o1:=s.one
 have ray:∀ (k:Nat),k < 2 * (ww + rw')→∀ x y,rayAt g (k:Nat) = ⟨x,y⟩→CallF Tryz.prog M f (#[].toList++[.int .i64 (k:Int),.agg #[.int .i64 x,.int .i64 y]]++cap.toList) (St k) h fun v A=>v = .bool (val k)∧A = St (k + 1):=fun k hk x y e=>by
  have:=C k hk
  rw [e] at this; exact this
 have step:∀ (k:Nat) (xs:List Bool),xs.length = k→xs = (List.range k).map val→xs++[val k] = (List.range (k + 1)).map val:=fun k xs _ e=>by rw [List.range_succ,List.map_append,e]; rfl
 refine Cs Tryz.func187 Tryz.ntmps187 ?_
 repeat first|refine R1 ?_|refine R2 fun _=>?_
 refine Sd [[],[0],[],[2],[0,1,2,3],[0,1,2,3,4]] 4 [Nn 0,Nn 1,Nn 2,Yy 3] ?_
 refine Da ?_
 refine Yv (rowsOf_v h c g s hw.1) ?_
 rw [er]
 refine Da ?_
 refine Ae ?_
 repeat first|refine R1 ?_|refine R2 fun _=>?_
 obtain ⟨N,hN⟩:∃ N:Nat,2 * (g.wide + (rw':Int)) = N:=⟨2 * (ww + rw'),by omega⟩
 rw [hN]
 refine fp (y_make0 (by rfl) (by rfl) (by rfl) (by decide) (by omega) fun w A g0=>?_)
 repeat first|refine R1 ?_|refine R2 fun _=>?_
 rename_i b2
 refine sf_lp (ι:=Nat × Value) [1,5,6,21] (fun x=>[(22,.int .i64 (x.1:Int)),(7,x.2)]) (fun x O=>x.1 ≤ ww∧∃ A',O = St x.1++(A'++[(b2,.cells #[.int .i64 g.wide,c] 25)])∧∃ xs,xs.length = x.1∧xs = (List.range x.1).map val∧Gr A' x.2 4 boolF xs) (fun x=>ww - x.1) (0,w) (St 0++(A++[(b2,.cells #[.int .i64 g.wide,c] 25)])) ⟨by omega,A,rfl,[],rfl,rfl,g0⟩ ?_
 rintro ⟨j,v⟩ O ⟨hj,A',rfl,xs,hx,ex,gr⟩
 simp only at hj hx ex gr ⊢
 subst hx
 have o2:=gr.one
 repeat first|refine R1 ?_|refine R2 fun _=>?_
 refine sf_if (fun e=>?_) fun e=>?_
 ·repeat first|refine R1 ?_|refine R2 fun _=>?_
  refine fp (y_callC2 (by rfl) (by rfl) (by exact ray xs.length (by omega) xs.length 2 (by unfold rayAt; rw [if_pos (by omega)])) ?_)
  rintro _ _ ⟨rfl,rfl⟩
  repeat first|refine R1 ?_|refine R2 fun _=>?_
  refine Xb fun u Au gu=>?_
  repeat first|refine R1 ?_|refine R2 fun _=>?_
  refine Xa gr gu fun v2 A2 g2=>?_
  repeat first|refine R1 ?_|refine R2 fun _=>?_
  exact ⟨(xs.length + 1,v2),by simp only; omega,⟨rfl,rfl,trivial⟩,rfl,St (xs.length + 1)++(A2++[(b2,.cells #[.int .i64 g.wide,c] 25)]),_,inferInstance,by simp only; omega,A2,rfl,_,by simp,step _ xs rfl ex,g2⟩
 refine sf_exit ?_
 obtain rfl:ww = xs.length:=by omega
 clear g0 w A e hj
 repeat first|refine R1 ?_|refine R2 fun _=>?_
 refine sf_lp (ι:=Nat × Value) [1,5,6,35] (fun x=>[(36,.int .i64 (x.1:Int)),(7,x.2)]) (fun x O=>x.1 ≤ rw'∧∃ A',O = St (xs.length + x.1)++(A'++[(b2,.cells #[.int .i64 g.wide,c] 25)])∧∃ ys,ys.length = xs.length + x.1∧ys = (List.range (xs.length + x.1)).map val∧Gr A' x.2 4 boolF ys) (fun x=>rw' - x.1) (0,v) (St xs.length++(A'++[(b2,.cells #[.int .i64 g.wide,c] 25)])) ⟨by omega,A',rfl,xs,rfl,ex,gr⟩ ?_
 rintro ⟨j,v⟩ O ⟨hj,A',rfl,ys,hx,ey,gr⟩
 simp only at hj hx ey gr ⊢
 have o2:=gr.one
 repeat first|refine R1 ?_|refine R2 fun _=>?_
 refine sf_if (fun e=>?_) fun e=>?_
 ·have hm:0 ≤ (j:Int) * g.wide∧(j:Int) * g.wide ≤ 4 * 5:=⟨Int.mul_nonneg (by omega) (by omega),Int.mul_le_mul (by omega) (by omega) (by omega) (by omega)⟩
  repeat first|refine R1 ?_|refine R2 fun _=>?_
  rw [← hx]
  refine fp (y_callC2 (by rfl) (by rfl) (by exact ray ys.length (by omega) _ 3 (by unfold rayAt; rw [if_neg (by omega),if_pos (by omega)]; exact ray_ext (by rw [show ((ys.length:Nat):Int) - g.wide = j by omega]) rfl)) ?_)
  rintro _ _ ⟨rfl,rfl⟩
  repeat first|refine R1 ?_|refine R2 fun _=>?_
  refine Xb fun u Au gu=>?_
  repeat first|refine R1 ?_|refine R2 fun _=>?_
  refine Xa gr gu fun v2 A2 g2=>?_
  repeat first|refine R1 ?_|refine R2 fun _=>?_
  exact ⟨(j + 1,v2),by simp only; omega,⟨rfl,rfl,trivial⟩,rfl,St (ys.length + 1)++(A2++[(b2,.cells #[.int .i64 g.wide,c] 25)]),_,inferInstance,by simp only; omega,A2,by simp only [hx]; rfl,_,by simp; omega,by rw [step _ ys rfl (by rw [hx]; exact ey),hx]; rfl,g2⟩
 refine sf_exit ?_
 obtain rfl:rw' = j:=by omega
 clear e hj
 have gr':=gr
 clear gr
 have hl':(g.cells.length:Int) = (rw':Int) * g.wide:=by rw [ew,hl,Int.natCast_mul]
 have hm0:0 ≤ (rw':Int) * g.wide∧(rw':Int) * g.wide ≤ 5 * 5:=⟨Int.mul_nonneg (by omega) (by omega),Int.mul_le_mul (by omega) (by omega) (by omega) (by omega)⟩
 repeat first|refine R1 ?_|refine R2 fun _=>?_
 refine sf_lp (ι:=Nat × Value) [1,5,6,54] (fun x=>[(55,.int .i64 (x.1:Int)),(7,x.2)]) (fun x O=>x.1 ≤ xs.length∧∃ A',O = St (xs.length + rw' + x.1)++(A'++[(b2,.cells #[.int .i64 g.wide,c] 25)])∧∃ ys,ys.length = xs.length + rw' + x.1∧ys = (List.range (xs.length + rw' + x.1)).map val∧Gr A' x.2 4 boolF ys) (fun x=>xs.length - x.1) (0,v) (St (xs.length + rw')++(A'++[(b2,.cells #[.int .i64 g.wide,c] 25)])) ⟨by omega,A',rfl,ys,hx,ey,gr'⟩ ?_
 clear gr' ey hx o2 ys
 rintro ⟨j,v⟩ O ⟨hj,A',rfl,ys,hx,ey,gr⟩
 simp only at hj hx ey gr ⊢
 have o2:=gr.one
 repeat first|refine R1 ?_|refine R2 fun _=>?_
 refine sf_if (fun e=>?_) fun e=>?_
 ·repeat first|refine R1 ?_|refine R2 fun _=>?_
  rw [← hx]
  refine fp (y_callC2 (by rfl) (by rfl) (by exact ray ys.length (by omega) _ 0 (by unfold rayAt; rw [if_neg (by omega),if_neg (by omega),if_pos (by omega)]; exact ray_ext (by omega) rfl)) ?_)
  rintro _ _ ⟨rfl,rfl⟩
  repeat first|refine R1 ?_|refine R2 fun _=>?_
  refine Xb fun u Au gu=>?_
  repeat first|refine R1 ?_|refine R2 fun _=>?_
  refine Xa gr gu fun v2 A2 g2=>?_
  repeat first|refine R1 ?_|refine R2 fun _=>?_
  exact ⟨(j + 1,v2),by simp only; omega,⟨rfl,rfl,trivial⟩,rfl,St (ys.length + 1)++(A2++[(b2,.cells #[.int .i64 g.wide,c] 25)]),_,inferInstance,by simp only; omega,A2,by simp only [hx]; rfl,_,by simp; omega,by rw [step _ ys rfl (by rw [hx]; exact ey),hx]; rfl,g2⟩
 refine sf_exit ?_
 obtain rfl:xs.length = j:=by omega
 clear e hj
 repeat first|refine R1 ?_|refine R2 fun _=>?_
 refine sf_lp (ι:=Nat × Value) [1,5,6,73] (fun x=>[(74,.int .i64 (x.1:Int)),(7,x.2)]) (fun x O=>x.1 ≤ rw'∧∃ A',O = St (xs.length + rw' + xs.length + x.1)++(A'++[(b2,.cells #[.int .i64 g.wide,c] 25)])∧∃ ys,ys.length = xs.length + rw' + xs.length + x.1∧ys = (List.range (xs.length + rw' + xs.length + x.1)).map val∧Gr A' x.2 4 boolF ys) (fun x=>rw' - x.1) (0,v) (St (xs.length + rw' + xs.length)++(A'++[(b2,.cells #[.int .i64 g.wide,c] 25)])) ⟨by omega,A',rfl,ys,hx,ey,gr⟩ ?_
 clear gr ey hx o2 ys
 rintro ⟨j,v⟩ O ⟨hj,A',rfl,ys,hx,ey,gr⟩
 simp only at hj hx ey gr ⊢
 have o2:=gr.one
 repeat first|refine R1 ?_|refine R2 fun _=>?_
 refine sf_if (fun e=>?_) fun e=>?_
 ·have hm:0 ≤ ((rw':Int) - 1 - j) * g.wide∧((rw':Int) - 1 - j) * g.wide ≤ 4 * 5:=⟨Int.mul_nonneg (by omega) (by omega),Int.mul_le_mul (by omega) (by omega) (by omega) (by omega)⟩
  have hq:((rw':Int) - 1 - j) * g.wide = (rw':Int) * g.wide - g.wide - (j:Int) * g.wide:=by rw [Int.sub_mul,Int.sub_mul,Int.one_mul]
  repeat first|refine R1 ?_|refine R2 fun _=>?_
  rw [← hx]
  refine fp (y_callC2 (by rfl) (by rfl) (by exact ray ys.length (by omega) _ 1 (by unfold rayAt; rw [if_neg (by omega),if_neg (by omega),if_neg (by omega)]; exact ray_ext (by rw [hl',hq,show ((ys.length:Nat):Int) - g.wide - rowsOf g - g.wide = j by omega]) rfl)) ?_)
  rintro _ _ ⟨rfl,rfl⟩
  repeat first|refine R1 ?_|refine R2 fun _=>?_
  refine Xb fun u Au gu=>?_
  repeat first|refine R1 ?_|refine R2 fun _=>?_
  refine Xa gr gu fun v2 A2 g2=>?_
  repeat first|refine R1 ?_|refine R2 fun _=>?_
  exact ⟨(j + 1,v2),by simp only; omega,⟨rfl,rfl,trivial⟩,rfl,St (ys.length + 1)++(A2++[(b2,.cells #[.int .i64 g.wide,c] 25)]),_,inferInstance,by simp only; omega,A2,by simp only [hx]; rfl,_,by simp; omega,by rw [step _ ys rfl (by rw [hx]; exact ey),hx]; rfl,g2⟩
 refine sf_exit ?_
 obtain rfl:rw' = j:=by omega
 repeat first|refine R1 ?_|refine R2 fun _=>?_
 have eN:2 * (xs.length + rw') = xs.length + rw' + xs.length + rw':=by omega
 exact sf_ret (rO (St (xs.length + rw' + xs.length + rw')++A') ⟨A',by rw [eN],by rw [eN,← ey]; exact gr⟩)
def sightMany (g:Grid):Int:=if gridOk g = true then manyOf g else 0
theorem sightMany_v (h:PHeap) (ca:List Value) (g:Grid) (b:(gridR τ).B h ca g):CallV Tryz.prog M 72 [.agg ca.toArray] h (.int .i64 (sightMany g)):=by
 obtain ⟨c,rfl,s⟩:=gridB b
 have o1:=s.one
 refine Cs Tryz.func72 Tryz.ntmps72 ?_
 repeat first|refine R1 ?_|refine R2 fun _=>?_
 refine Xv (gridOk_v _ _ g b) ?_
 repeat first|refine R1 ?_|refine R2 fun _=>?_
 refine sf_cond (by rfl) (fun e=>?_) fun e=>?_
 ·repeat first|refine R1 ?_|refine R2 fun _=>?_
  simp only [Bool.not_eq_true'] at e
  refine sf_ret (rV ?_)
  simp [sightMany,e]
 ·simp only [Bool.not_eq_false'] at e
  have k:=gok e
  have h1:=k.w1; have h2:=k.w5; have h3:=k.r1; have h4:=k.r5
  repeat first|refine R1 ?_|refine R2 fun _=>?_
  refine Sd [[],[0],[],[2],[0,1,2,3],[0,1,2,3,4],[0,1,2,3,4,5]] 4 [Nn 0,Nn 1,Nn 2,Yy 3] ?_
  refine Da ?_
  refine Yv (rowsOf_v h c g s h1) ?_
  refine Da ?_
  refine Ae ?_
  repeat first|refine R1 ?_|refine R2 fun _=>?_
  refine sf_ret (rV ?_)
  simp [sightMany,e,manyOf]
def sightRayV (g:Grid) (k:Int):Value:=if 0 ≤ k∧k < sightMany g then .tuple #[.agg #[.int .i64 (rayAt g k).at',.int .i64 (rayAt g k).dir],.bool true] else .tuple #[.agg #[.int .i64 0,.int .i64 0],.bool false]
theorem sightRay1_v (h:PHeap) (k a d:Int):CallV Tryz.prog M 140 [.int .i64 k,.agg #[.int .i64 a,.int .i64 d]] h (.agg #[.int .i64 a,.int .i64 d]):=by
 refine Cs Tryz.func140 Tryz.ntmps140 ?_
 repeat first|refine R1 ?_|refine R2 fun _=>?_
 exact sf_ret (rV rfl)
theorem sightRay_v (h:PHeap) (ca:List Value) (g:Grid) (b:(gridR τ).B h ca g) (k:Int):CallV Tryz.prog M 109 [.agg ca.toArray,.int .i64 k] h (sightRayV g k):=by
 obtain ⟨c,rfl,s⟩:=gridB b
 have o1:=s.one
 refine Cs Tryz.func109 Tryz.ntmps109 ?_
 repeat first|refine R1 ?_|refine R2 fun _=>?_
 refine f_split (fun h1=>?_) fun h1=>?_
 ·repeat first|refine R1 ?_|refine R2 fun _=>?_
  refine sf_T rfl ?_
  repeat first|refine R1 ?_|refine R2 fun _=>?_
  refine sf_ret (rV ?_)
  rw [sightRayV,if_neg (by omega)]
 repeat first|refine R1 ?_|refine R2 fun _=>?_
 refine Xv (sightMany_v _ _ g b) ?_
 repeat first|refine R1 ?_|refine R2 fun _=>?_
 refine sf_if (fun h2=>?_) fun h2=>?_
 ·repeat first|refine R1 ?_|refine R2 fun _=>?_
  refine sf_ret (rV ?_)
  rw [sightRayV,if_neg (by omega)]
 have hk:0 ≤ k∧k < sightMany g:=by omega
 obtain ⟨n,rfl⟩:∃ n:Nat,k = n:=⟨k.toNat,by omega⟩
 have e:gridOk g = true:=by
  cases e:gridOk g with
  | true=>rfl
  | false=>simp [sightMany,e] at hk; omega
 have kg:=gok e
 have w1:=kg.w1; have w5:=kg.w5; have r1:=kg.r1; have r5:=kg.r5
 have em:sightMany g = manyOf g:=by rw [sightMany,if_pos e]
 obtain ⟨ww,ew⟩:∃ ww:Nat,g.wide = ww:=⟨g.wide.toNat,by omega⟩
 obtain ⟨rr,er⟩:∃ rr:Nat,rowsOf g = rr:=⟨(rowsOf g).toNat,by omega⟩
 have hl:g.cells.length = rr * ww:=by
  have:=kg.len
  rw [er,ew] at this
  exact_mod_cast this
 have hm:n < 2 * (ww + rr):=by
  rw [em,manyOf,er,ew] at hk; omega
 repeat first|refine R1 ?_|refine R2 fun _=>?_
 refine fp (y_call (sidesToldR_f h c g s ⟨w1,w5⟩ rr ww ew er hl ⟨by omega,by omega⟩ 140 #[] (fun _=>[]) (fun k:Nat=>rayAt g (k:Nat)) (fun k hk=>sightRay1_v h _ _ _)) (by rfl) ?_)
 rintro v _ ⟨A',rfl,gr⟩
 have gx:gt ((List.range (2 * (ww + rr))).map fun k:Nat=>rayAt g (k:Nat)) n = rayAt g n:=by
  rw [gt_eq (by simp; omega)]; simp
 have lx:((List.range (2 * (ww + rr))).map fun k:Nat=>rayAt g (k:Nat)).length = 2 * (ww + rr):=by simp
 generalize ((List.range (2 * (ww + rr))).map fun k:Nat=>rayAt g (k:Nat)) = xs at gr gx lx
 have o2:=gr.one
 repeat first|refine R1 ?_|refine R2 fun _=>?_
 refine sf_ret (rV ?_)
 rw [gx,sightRayV,if_pos hk]
def foundAt (p:Nat→Bool):Nat→Int
 | 0=>-1
 | k + 1=>if p k = true then k else foundAt p k
theorem foundAt_is {g:Grid} {R:Int} (k:Gok g R) {a d:Int} (N:Nat) (hN:manyOf g = N):foundAt (fun k=>decide (rayAt g (k:Nat) = ⟨a,(d + 2) % 4⟩)) N = sightOf g a d:=by
 have key:∀ n:Nat,n ≤ N→((∃ i:Nat,i < n∧rayAt g (i:Nat) = ⟨a,(d + 2) % 4⟩∧foundAt (fun k=>decide (rayAt g (k:Nat) = ⟨a,(d + 2) % 4⟩)) n = i) ∨ ((∀ i:Nat,i < n→rayAt g (i:Nat) ≠ ⟨a,(d + 2) % 4⟩)∧foundAt (fun k=>decide (rayAt g (k:Nat) = ⟨a,(d + 2) % 4⟩)) n = -1)):=by
  intro n
  induction n with
  | zero=>intro _; exact .inr ⟨fun i hi=>absurd hi (by omega),rfl⟩
  | succ n ih=>
   intro hn
   by_cases e:rayAt g (n:Nat) = ⟨a,(d + 2) % 4⟩
   ·exact .inl ⟨n,by omega,e,by simp [foundAt,e]⟩
   ·rcases ih (by omega) with ⟨i,h1,h2,h3⟩ | ⟨h1,h2⟩
    ·exact .inl ⟨i,by omega,h2,by simp only [foundAt,e,decide_false,Bool.false_eq_true,if_false]; exact h3⟩
    ·refine .inr ⟨fun i hi=>?_,by simp only [foundAt,e,decide_false,Bool.false_eq_true,if_false]; exact h2⟩
     rcases Nat.lt_or_ge i n with h | h
     ·exact h1 i h
     ·obtain rfl:i = n:=by omega
      exact e
 rcases key N (Nat.le_refl _) with ⟨i,h1,h2,h3⟩ | ⟨h1,h2⟩
 ·rw [h3,sightOf_some k (by omega) (by omega) h2]
 ·rw [h2,sightOf_none fun i i0 i1=>?_]
  have:=h1 i.toNat (by omega)
  rwa [Int.toNat_of_nonneg i0] at this
theorem sightOf1_f (h:PHeap) (k a d x y f:Int) (b1 b2:Nat):CallF Tryz.prog M 188 [.int .i64 k,.agg #[.int .i64 a,.int .i64 d],.pointer (some ⟨b1,0,none⟩),.pointer (some ⟨b2,0,none⟩)] [(b1,.cells #[.int .i64 x,.int .i64 y] 151),(b2,.cells #[.int .i64 f] 3)] h fun v A=>v = .bool (decide ((⟨a,d⟩:Ray) = ⟨x,y⟩))∧A = [(b1,.cells #[.int .i64 x,.int .i64 y] 151),(b2,.cells #[.int .i64 (if (⟨a,d⟩:Ray) = ⟨x,y⟩ then k else f)] 3)]:=by
 refine Cs Tryz.func188 Tryz.ntmps188 ?_
 repeat first|refine R1 ?_|refine R2 fun _=>?_
 refine fp (Rq ?_ (q_eqS (E:=rayF) (a:=⟨a,d⟩) (b:=⟨x,y⟩) inferInstance (by rfl) (by rfl)))
 repeat first|refine R1 ?_|refine R2 fun _=>?_
 refine sf_if (fun e=>?_) fun e=>?_
 ·repeat first|refine R1 ?_|refine R2 fun _=>?_
  refine fp (Rq ?_ (q_eqS (E:=rayF) (a:=⟨a,d⟩) (b:=⟨x,y⟩) inferInstance (by rfl) (by rfl)))
  repeat first|refine R1 ?_|refine R2 fun _=>?_
  exact sf_ret (rO [(b1,.cells #[.int .i64 x,.int .i64 y] 151),(b2,.cells #[.int .i64 k] 3)] ⟨rfl,by rw [if_pos e]⟩)
 ·repeat first|refine R1 ?_|refine R2 fun _=>?_
  refine fp (Rq ?_ (q_eqS (E:=rayF) (a:=⟨a,d⟩) (b:=⟨x,y⟩) inferInstance (by rfl) (by rfl)))
  repeat first|refine R1 ?_|refine R2 fun _=>?_
  exact sf_ret (rO [(b1,.cells #[.int .i64 x,.int .i64 y] 151),(b2,.cells #[.int .i64 f] 3)] ⟨rfl,by rw [if_neg e]⟩)
theorem sightOf_v (h:PHeap) (ca:List Value) (g:Grid) (b:(gridR τ).B h ca g) (e:gridOk g = true) (a d:Int) (hd:0 ≤ d∧d ≤ 3):CallV Tryz.prog M 147 [.agg ca.toArray,.int .i64 a,.int .i64 d] h (.int .i64 (sightOf g a d)):=by
 obtain ⟨c,rfl,s⟩:=gridB b
 have o1:=s.one
 have kg:=gok e
 have w1:=kg.w1; have w5:=kg.w5; have r1:=kg.r1; have r5:=kg.r5
 obtain ⟨ww,ew⟩:∃ ww:Nat,g.wide = ww:=⟨g.wide.toNat,by omega⟩
 obtain ⟨rr,er⟩:∃ rr:Nat,rowsOf g = rr:=⟨(rowsOf g).toNat,by omega⟩
 have hl:g.cells.length = rr * ww:=by
  have:=kg.len
  rw [er,ew] at this
  exact_mod_cast this
 have hN:manyOf g = (2 * (ww + rr):Nat):=by
  rw [manyOf,er,ew]; omega
 refine Cs Tryz.func147 Tryz.ntmps147 ?_
 repeat first|refine R1 ?_|refine R2 fun _=>?_
 refine Xv (gridOk_v _ _ g b) ?_
 rw [e]
 repeat first|refine R1 ?_|refine R2 fun _=>?_
 refine Xv (dirOk_v _ _) ?_
 rw [show (decide (0 ≤ d) && decide (d ≤ 3)) = true by simp; omega]
 repeat first|refine R1 ?_|refine R2 fun _=>?_
 refine sf_cond (by rfl) (fun e=>by cases e) fun z1=>?_
 clear z1
 repeat first|refine R1 ?_|refine R2 fun _=>?_
 refine Xv (dirOpposite_v _ _ hd.1 hd.2) ?_
 repeat first|refine R1 ?_|refine R2 fun _=>?_
 rename_i b1 b2 b3
 refine fp (y_call (A:=[(b2,.cells #[.int .i64 a,.int .i64 ((d + 2) % 4)] 151),(b3,.cells #[.int .i64 (-1)] 3)]) (sidesToldB_f h c g s ⟨w1,w5⟩ rr ww ew er hl ⟨by omega,by omega⟩ 188 #[.pointer (some ⟨b2,0,none⟩),.pointer (some ⟨b3,0,none⟩)] (fun k=>[(b2,.cells #[.int .i64 a,.int .i64 ((d + 2) % 4)] 151),(b3,.cells #[.int .i64 (foundAt (fun k=>decide (rayAt g (k:Nat) = ⟨a,(d + 2) % 4⟩)) k)] 3)]) (fun k=>decide (rayAt g (k:Nat) = ⟨a,(d + 2) % 4⟩)) (fun k hk=>(sightOf1_f h _ _ _ a ((d + 2) % 4) _ b2 b3).to ?_)) (by rfl) ?_)
 ·rintro v O ⟨rfl,rfl⟩
  refine ⟨rfl,?_⟩
  simp only [foundAt,decide_eq_true_eq]
 rintro v _ ⟨A',rfl,gr⟩
 rw [foundAt_is kg _ hN]
 repeat first|refine R1 ?_|refine R2 fun _=>?_
 exact sf_ret (rV rfl)
theorem l1High_v (h:PHeap) (c:Value) (g:Grid) (s:Sl h c cellF g.cells) (hw:1 ≤ g.wide):CallV Tryz.prog M 131 [.agg #[.int .i64 g.wide,c]] h (.int .i64 (rowsOf g)):=by
 have o1:=s.one
 have hs:=s.small
 refine Cs Tryz.func131 Tryz.ntmps131 ?_
 repeat first|refine R1 ?_|refine R2 fun _=>?_
 exact sf_ret (rV rfl)
theorem l2Back_v (h:PHeap) (d:Int) (h0:0 ≤ d) (h1:d ≤ 3):CallV Tryz.prog M 217 [.int .i64 d] h (.int .i64 ((d + 2) % 4)):=by
 refine Cs Tryz.func217 Tryz.ntmps217 ?_
 refine Wo ?_
 exact sf_ret (rV rfl)
theorem l3Many_v (h:PHeap) (c:Value) (g:Grid) (s:Sl h c cellF g.cells) {R:Int} (k:Gok g R):CallV Tryz.prog M 91 [.agg #[.int .i64 g.wide,c]] h (.int .i64 (manyOf g)):=by
 have o1:=s.one
 have h1:=k.w1; have h2:=k.w5; have h3:=k.r1; have h4:=k.r5; have h5:=k.rows
 refine Cs Tryz.func91 Tryz.ntmps91 ?_
 repeat first|refine R1 ?_|refine R2 fun _=>?_
 refine Sd [[],[0],[],[2],[0,1,2,3],[0,1,2,3,4],[0,1,2,3,4,5]] 4 [Nn 0,Nn 1,Nn 2,Yy 3] ?_
 refine Da ?_
 refine Yv (l1High_v h c g s h1) ?_
 refine Da ?_
 refine Ae ?_
 repeat first|refine R1 ?_|refine R2 fun _=>?_
 exact sf_ret (rV rfl)
theorem sDirTurn_v (h:PHeap) (k d:Int) (hd:0 ≤ d∧d ≤ 3):CallV Tryz.prog M 162 [.int .i64 k,.int .i64 d] h (.int .i64 (dirTurn k d)):=by
 obtain ⟨n,rfl⟩:∃ n:Nat,d = n:=⟨d.toNat,by omega⟩
 have hn:n = 0 ∨ n = 1 ∨ n = 2 ∨ n = 3:=by omega
 refine Cs Tryz.func162 Tryz.ntmps162 ?_
 refine Wo ?_
 refine Xv (l6In_v _ _ _ _) ?_
 refine Wo ?_
 refine sf_cond (by rfl) (fun e=>by simp at e; omega) fun _=>?_
 refine Wo ?_
 rcases hn with rfl | rfl | rfl | rfl <;>
 ·refine sf_if (fun e1=>?_) fun e1=>?_
  ·refine Wo ?_
   refine sf_if (fun _=>?_) fun e=>absurd e1 e
   refine Wo ?_
   refine sf_ret (rV ?_)
   simp [dirTurn,e1,xorN]
  ·refine Wo ?_
   refine sf_if (fun e2=>?_) fun e2=>?_
   ·refine Wo ?_
    refine sf_ret (rV ?_)
    simp [dirTurn,e2,xorN]
   ·refine Wo ?_
    refine sf_if (fun e3=>?_) fun e3=>?_
    ·refine Wo ?_
     refine sf_if (fun _=>?_) fun e=>absurd e3 e
     refine Wo ?_
     refine sf_ret (rV ?_)
     simp [dirTurn,e3]
    ·refine Wo ?_
     refine sf_if (fun e4=>?_) fun e4=>?_
     ·refine Wo ?_
      refine sf_ret (rV ?_)
      simp [dirTurn,e4]
     ·refine Wo ?_
      refine sf_ret (rV ?_)
      simp [dirTurn,e1,e2,e3,e4]
theorem next_rc {g : Grid} {R : Int} (k : Gok g R) {a d : Int} (h0 : 0 ≤ a) (h1 : a < g.cells.length) (dr dc : Int) (hd : (d = 0 ∧ dr = -1 ∧ dc = 0) ∨ (d = 1 ∧ dr = 0 ∧ dc = 1) ∨ (d = 2 ∧ dr = 1 ∧ dc = 0) ∨ (d = 3 ∧ dr = 0 ∧ dc = -1)) :
  nextAt g a d = if (0 ≤ a / g.wide + dr∧a / g.wide + dr ≤ rowsOf g - 1)∧0 ≤ a % g.wide + dc∧a % g.wide + dc ≤ g.wide - 1 then some ((a / g.wide + dr) * g.wide + (a % g.wide + dc)) else none:=by
 have h5:=k.len; have h6:=k.r1; have h7:=k.r5; have h8:=k.rows
 unfold nextAt
 rw [h8]
 rcases k.wides with e | e | e | e | e <;> simp only [e] at h5 ⊢ <;> rcases hd with ⟨rfl,rfl,rfl⟩ | ⟨rfl,rfl,rfl⟩ | ⟨rfl,rfl,rfl⟩ | ⟨rfl,rfl,rfl⟩ <;> simp only [if_true,if_false,show ¬ (1:Int) = 0 by decide,show ¬ (2:Int) = 0 by decide,show ¬ (2:Int) = 1 by decide,show ¬ (3:Int) = 0 by decide,show ¬ (3:Int) = 1 by decide,show ¬ (3:Int) = 2 by decide] <;> (split <;> split) <;> first|rfl | (exfalso; omega) | (congr 1; omega)
theorem l2Next_v (h:PHeap) (c:Value) (g:Grid) (s:Sl h c cellF g.cells) {R:Int} (k:Gok g R) (a d:Int) (ha:0 ≤ a∧a < g.cells.length) (hd:0 ≤ d∧d ≤ 3):CallV Tryz.prog M 197 [.agg #[.int .i64 g.wide,c],.int .i64 a,.int .i64 d] h (stepV g a d):=by
 have o1:=s.one
 have h1:=k.w1; have h2:=k.w5; have h3:=k.r1; have h4:=k.r5; have h5:=k.rows
 have hsm:=k.small
 obtain ⟨n,rfl⟩:∃ n:Nat,d = n:=⟨d.toNat,by omega⟩
 have q0:=Int.ediv_nonneg ha.1 (show 0 ≤ g.wide by omega)
 have q1:=Int.ediv_le_self g.wide ha.1
 have q2:=Int.emod_nonneg a (show g.wide ≠ 0 by omega)
 have q3:=Int.emod_lt_of_pos a (show 0 < g.wide by omega)
 have key:∀ dr dc:Int,gt ([-1,0,1,0]:List Int) n = dr→gt ([0,1,0,-1]:List Int) n = dc→nextAt g a (n:Int) = if (0 ≤ a / g.wide + dr∧a / g.wide + dr ≤ rowsOf g - 1)∧0 ≤ a % g.wide + dc∧a % g.wide + dc ≤ g.wide - 1 then some ((a / g.wide + dr) * g.wide + (a % g.wide + dc)) else none:=by
  intro dr dc e1 e2
  have hn:n = 0 ∨ n = 1 ∨ n = 2 ∨ n = 3:=by omega
  refine next_rc k ha.1 ha.2 dr dc ?_
  rcases hn with rfl | rfl | rfl | rfl <;> subst e1 e2 <;> simp [gt]
 have b1:-1 ≤ gt ([-1,0,1,0]:List Int) n∧gt ([-1,0,1,0]:List Int) n ≤ 1:=by
  have hn:n = 0 ∨ n = 1 ∨ n = 2 ∨ n = 3:=by omega
  rcases hn with rfl | rfl | rfl | rfl <;> simp [gt]
 have b2:-1 ≤ gt ([0,1,0,-1]:List Int) n∧gt ([0,1,0,-1]:List Int) n ≤ 1:=by
  have hn:n = 0 ∨ n = 1 ∨ n = 2 ∨ n = 3:=by omega
  rcases hn with rfl | rfl | rfl | rfl <;> simp [gt]
 refine Cs Tryz.func197 Tryz.ntmps197 ?_
 repeat first|refine R1 ?_|refine R2 fun _=>?_
 generalize hX:([-1,0,1,0]:List Int) = xs at *
 generalize hY:([0,1,0,-1]:List Int) = ys at *
 have lx:xs.length = 4:=by rw [← hX]; rfl
 have ly:ys.length = 4:=by rw [← hY]; rfl
 refine Sd [[],[],[1],[0,1,2],[],[],[4,5],[4,5,6],[0,1,2,3,4,5,6,7],[0,1,2,3,4,5,6,7,8]] 8 [Nn 0,Nn 1,Nn 2,Nn 3,Nn 5,Yy 4,Nn 6,Yy 7] ?_
 refine Da ?_
 refine Yb fun w Aw gw=>?_
 rw [hX] at gw
 refine Da ?_
 refine Yw (by rfl) (z_loadG (by rfl) gw (by omega) (by rfl)) ?_
 refine Da ?_
 refine Ae ?_
 repeat first|refine R1 ?_|refine R2 fun _=>?_
 refine Sd [[],[],[1],[0,1,2],[],[],[4,5],[4,5,6],[0,1,2,3,4,5,6,7],[0,1,2,3,4,5,6,7,8]] 8 [Nn 0,Nn 1,Nn 2,Nn 3,Nn 5,Yy 4,Nn 6,Yy 7] ?_
 refine Da ?_
 refine Yb fun u Au gu=>?_
 rw [hY] at gu
 refine Da ?_
 refine Yw (by rfl) (z_loadG (by rfl) gu (by omega) (by rfl)) ?_
 refine Da ?_
 refine Ae ?_
 have key':=key _ _ rfl rfl
 clear key
 repeat first|refine R1 ?_|refine R2 fun _=>?_
 refine Xv (l1High_v h c g s h1) ?_
 repeat first|refine R1 ?_|refine R2 fun _=>?_
 refine Xv (l6In_v _ _ _ _) ?_
 repeat first|refine R1 ?_|refine R2 fun _=>?_
 refine f_splitB (fun e1=>?_) fun e1=>?_
 ·repeat first|refine R1 ?_|refine R2 fun _=>?_
  refine sf_T rfl ?_
  repeat first|refine R1 ?_|refine R2 fun _=>?_
  refine sf_ret (rV ?_)
  rw [stepV,key',if_neg (by simp at e1; omega)]
 ·repeat first|refine R1 ?_|refine R2 fun _=>?_
  refine Xv (l6In_v _ _ _ _) ?_
  repeat first|refine R1 ?_|refine R2 fun _=>?_
  refine sf_cond (by rfl) (fun e2=>?_) fun e2=>?_
  ·repeat first|refine R1 ?_|refine R2 fun _=>?_
   refine sf_ret (rV ?_)
   rw [stepV,key',if_neg (by simp at e2; omega)]
  ·have f1:0 ≤ a / g.wide + gt xs n∧a / g.wide + gt xs n ≤ rowsOf g - 1:=by simp at e1; omega
   have f2:0 ≤ a % g.wide + gt ys n∧a % g.wide + gt ys n ≤ g.wide - 1:=by simp at e2; omega
   have f3:0 ≤ (a / g.wide + gt xs n) * g.wide∧(a / g.wide + gt xs n) * g.wide ≤ 5 * 5:=⟨Int.mul_nonneg (by omega) (by omega),Int.mul_le_mul (by omega) (by omega) (by omega) (by omega)⟩
   repeat first|refine R1 ?_|refine R2 fun _=>?_
   refine sf_ret (rV ?_)
   rw [stepV,key',if_pos ⟨f1,f2⟩]
theorem l3Ray_v (h:PHeap) (c:Value) (g:Grid) (s:Sl h c cellF g.cells) {R:Int} (k:Gok g R) (j:Int) (h0:0 ≤ j) (hm:j < manyOf g):CallV Tryz.prog M 132 [.agg #[.int .i64 g.wide,c],.int .i64 j] h (.agg #[.int .i64 (rayAt g j).at',.int .i64 (rayAt g j).dir]):=by
 have o1:=s.one
 have h1:=k.w1; have h2:=k.w5; have h3:=k.r1; have h4:=k.r5; have h5:=k.rows
 have hsm:=k.small
 unfold manyOf at hm
 refine Cs Tryz.func132 Tryz.ntmps132 ?_
 repeat first|refine R1 ?_|refine R2 fun _=>?_
 refine Xv (l1High_v h c g s h1) ?_
 repeat first|refine R1 ?_|refine R2 fun _=>?_
 refine sf_if (fun e1=>?_) fun e1=>?_
 ·repeat first|refine R1 ?_|refine R2 fun _=>?_
  refine sf_ret (rV ?_)
  rw [rayAt,if_pos e1]
 repeat first|refine R1 ?_|refine R2 fun _=>?_
 refine sf_if (fun e2=>?_) fun e2=>?_
 ·have f3:0 ≤ (j - g.wide) * g.wide∧(j - g.wide) * g.wide ≤ 5 * 5:=⟨Int.mul_nonneg (by omega) (by omega),Int.mul_le_mul (by omega) (by omega) (by omega) (by omega)⟩
  repeat first|refine R1 ?_|refine R2 fun _=>?_
  refine sf_ret (rV ?_)
  rw [rayAt,if_neg e1,if_pos e2]
 repeat first|refine R1 ?_|refine R2 fun _=>?_
 refine sf_if (fun e3=>?_) fun e3=>?_
 ·repeat first|refine R1 ?_|refine R2 fun _=>?_
  refine sf_ret (rV ?_)
  rw [rayAt,if_neg e1,if_neg e2,if_pos e3]
 have f3:0 ≤ (j - g.wide - rowsOf g - g.wide) * g.wide∧(j - g.wide - rowsOf g - g.wide) * g.wide ≤ 5 * 5:=⟨Int.mul_nonneg (by omega) (by omega),Int.mul_le_mul (by omega) (by omega) (by omega) (by omega)⟩
 repeat first|refine R1 ?_|refine R2 fun _=>?_
 refine sf_ret (rV ?_)
 rw [rayAt,if_neg e1,if_neg e2,if_neg e3]
 simp only [show (g.cells.length:Int) - 1 - g.wide + 1 - (j - g.wide - rowsOf g - g.wide) * g.wide = g.cells.length - g.wide - (j - g.wide - rowsOf g - g.wide) * g.wide by omega]
theorem l3Of_v (h:PHeap) (c:Value) (g:Grid) (s:Sl h c cellF g.cells) {R:Int} (k:Gok g R) (a d:Int) (hd:0 ≤ d∧d ≤ 3):CallV Tryz.prog M 198 [.agg #[.int .i64 g.wide,c],.int .i64 a,.int .i64 d] h (.int .i64 (sightOf g a d)):=by
 have o1:=s.one
 have hmm:=k.many
 obtain ⟨N,hN⟩:∃ N:Nat,manyOf g = N:=⟨(manyOf g).toNat,by omega⟩
 refine Cs Tryz.func198 Tryz.ntmps198 ?_
 repeat first|refine R1 ?_|refine R2 fun _=>?_
 refine sf_rd [1,2,3] 7 N 0 (fun j=>∀ i:Int,0 ≤ i→i < j→rayAt g i ≠ ⟨a,(d + 2) % 4⟩) (by omega) (fun i _ _=>by omega) (fun j hj hi=>?_)
 repeat first|refine R1 ?_|refine R2 fun _=>?_
 refine Xv (l3Many_v h c g s k) ?_
 rw [hN]
 repeat first|refine R1 ?_|refine R2 fun _=>?_
 refine sf_if (fun h4=>?_) fun h4=>?_
 ·obtain ⟨⟨r0,r1⟩,r2,r3⟩:=rayAt_ok k (j:=(j:Int)) (by omega) (by omega)
  repeat first|refine R1 ?_|refine R2 fun _=>?_
  refine Xv (l3Ray_v h c g s k (j:Int) (by omega) (by omega)) ?_
  repeat first|refine R1 ?_|refine R2 fun _=>?_
  refine f_split (fun e1=>?_) fun e1=>?_
  ·repeat first|refine R1 ?_|refine R2 fun _=>?_
   refine Xv (l2Back_v _ _ r2 r3) ?_
   repeat first|refine R1 ?_|refine R2 fun _=>?_
   refine sf_if (fun e2=>?_) fun e2=>?_
   ·repeat first|refine R1 ?_|refine R2 fun _=>?_
    refine sf_ret (rV ?_)
    rw [sightOf_some k (i:=(j:Int)) (by omega) (by omega) (ray_eq e1 (by omega))]
   ·repeat first|refine R1 ?_|refine R2 fun _=>?_
    refine ⟨⟨by omega,fun i i0 i1=>?_⟩,rfl,rfl,_,inferInstance⟩
    rcases Int.lt_or_le i j with h | h
    ·exact hi i i0 h
    ·obtain rfl:i = j:=by omega
     intro e; rw [e] at e2; simp only at e2; omega
  ·repeat first|refine R1 ?_|refine R2 fun _=>?_
   refine sf_N rfl ?_
   repeat first|refine R1 ?_|refine R2 fun _=>?_
   refine ⟨⟨by omega,fun i i0 i1=>?_⟩,rfl,rfl,_,inferInstance⟩
   rcases Int.lt_or_le i j with h | h
   ·exact hi i i0 h
   ·obtain rfl:i = j:=by omega
    intro e; rw [e] at e1; exact e1 rfl
 ·refine sf_exit ?_
  repeat first|refine R1 ?_|refine R2 fun _=>?_
  refine sf_ret (rV ?_)
  rw [sightOf_none fun i i0 i1=>hi i i0 (by omega)]
theorem sEnd_f (h : PHeap) (b : Nat) (w c vv ev : Value) (ow : Sl.One w) (oc : Sl.One c) (ov : Sl.One vv) (AE : Own) (es : List LEnd) (gr : Gr AE ev 117 endF es) (hl : es.length ≤ 200000) (kind a n : Int) :
  CallF Tryz.prog M 160 [.pointer (some ⟨b,0,none⟩),.int .i64 kind,.int .i64 a,.int .i64 n] ((b,.cells #[w,c,vv,ev] 136) :: AE) h fun _ A=>∃ ev' AE',A = (b,.cells #[w,c,vv,ev'] 136) :: AE'∧Gr AE' ev' 117 endF (es++endIf kind a n):=by
 have o1:=gr.one
 refine Cs Tryz.func160 Tryz.ntmps160 ?_
 refine Wo ?_
 refine sf_if (fun e=>?_) fun e=>?_
 ·refine Wo ?_
  refine Xb fun u Au gu=>?_
  refine Wo ?_
  refine Xa gr gu fun ev2 A2 g2=>?_
  have o2:=g2.one
  refine Wo ?_
  exact nO ((b,.cells #[w,c,vv,ev2] 136) :: A2) ⟨ev2,A2,rfl,by rw [endIf,if_pos e]; exact g2⟩
 ·refine Wo ?_
  exact nO ((b,.cells #[w,c,vv,ev] 136) :: AE) ⟨ev,AE,rfl,by rw [endIf,if_neg e,List.append_nil]; exact gr⟩
def WalkO (b:Nat) (g:Grid) (c:Value) (A:Own) (V:List Visit) (E:List LEnd):Prop:=∃ vv ev AV AE,A = (b,.cells #[.int .i64 g.wide,c,vv,ev] 136) :: (AV++AE)∧Gr AV vv 155 visitF V∧Gr AE ev 117 endF E
def GoesOn (M:Jdg→Prop) (h:PHeap) (b:Nat) (g:Grid) (c:Value) (f:FuncId) (a d w:Int) (r:Sl.Lit):Prop:=
 ∀ (A:Own) (V:List Visit) (E:List LEnd),WalkO b g c A V E→V.length + r.1 ≤ 50000→E.length + 2 * r.1 ≤ 100000 →
  CallF Tryz.prog M f [.pointer (some ⟨b,0,none⟩),.int .i64 a,.int .i64 d,.int .i64 w] A h fun _ A'=>WalkO b g c A' (V++r.2.1) (E++r.2.2)
theorem sLeave_f (h : PHeap) (b : Nat) (c : Value) (g : Grid) (s : Sl h c cellF g.cells) {R : Int} (k : Gok g R) (n : Nat) (a d w : Int) (ha : 0 ≤ a ∧ a < g.cells.length) (hd : 0 ≤ d ∧ d ≤ 3) (hw : 1 ≤ w ∧ w ≤ 64) (r : Sl.Lit) (hr : leaveF g (comeF g n) a d w = some r)
  (ih:∀ (a d w:Int) (r:Sl.Lit),(0 ≤ a∧a < g.cells.length)→(0 ≤ d∧d ≤ 3)→(1 ≤ w∧w ≤ 64)→comeF g n a d w = some r→GoesOn M h b g c 133 a d w r):GoesOn M h b g c 163 a d w r:=by
 rintro A V E ⟨vv,ev,AV,AE,rfl,gv,ge⟩ hV hE
 have o1:=s.one
 have o2:=gv.one
 have o3:=ge.one
 have hsm:=k.small
 unfold leaveF at hr
 rw [if_neg (by omega)] at hr
 refine Cs Tryz.func163 Tryz.ntmps163 ?_
 repeat first|refine R1 ?_|refine R2 fun _=>?_
 refine Xv (l2Next_v h c g s k a d ha hd) ?_
 unfold stepV
 cases en:nextAt g a d with
 | some b2=>
  rw [en] at hr
  simp only at hr ⊢
  repeat first|refine R1 ?_|refine R2 fun _=>?_
  refine sf_T rfl ?_
  repeat first|refine R1 ?_|refine R2 fun _=>?_
  refine fp (y_call (ih b2 d w r (nextAt_ok k ha.1 ha.2 en) hd hw hr _ V E ⟨vv,ev,AV,AE,rfl,gv,ge⟩ hV hE) (by rfl) ?_)
  rintro _ A2 q
  repeat first|refine R1 ?_|refine R2 fun _=>?_
  exact sf_ret (rO A2 q)
 | none=>
  rw [en] at hr
  simp only [Option.some.injEq] at hr ⊢
  subst hr
  repeat first|refine R1 ?_|refine R2 fun _=>?_
  refine sf_N rfl ?_
  repeat first|refine R1 ?_|refine R2 fun _=>?_
  refine Xv (l3Of_v h c g s k a d hd) ?_
  repeat first|refine R1 ?_|refine R2 fun _=>?_
  refine fp (y_call (sEnd_f h b (.int .i64 g.wide) c vv ev inferInstance o1 o2 AE E ge (by simp only at hE; omega) 0 (sightOf g a d) w) (by rfl) ?_)
  rintro _ _ ⟨ev2,AE2,rfl,ge2⟩
  rw [endIf,if_pos (by omega)] at ge2
  repeat first|refine R1 ?_|refine R2 fun _=>?_
  exact nO ((b,.cells #[.int .i64 g.wide,c,vv,ev2] 136) :: (AV++AE2)) ⟨vv,ev2,AV,AE2,rfl,by simpa using gv,ge2⟩
theorem sHalf_f (h : PHeap) (b : Nat) (c : Value) (g : Grid) (s : Sl h c cellF g.cells) {R : Int} (k : Gok g R) (n : Nat) (a d w : Int) (ha : 0 ≤ a ∧ a < g.cells.length) (hd : 0 ≤ d ∧ d ≤ 3) (hw : 0 ≤ w ∧ w ≤ 64) (r : Sl.Lit) (hr : leaveF g (comeF g n) a d w = some r)
  (ih:∀ (a d w:Int) (r:Sl.Lit),(0 ≤ a∧a < g.cells.length)→(0 ≤ d∧d ≤ 3)→(1 ≤ w∧w ≤ 64)→comeF g n a d w = some r→GoesOn M h b g c 133 a d w r):GoesOn M h b g c 161 a d w r:=by
 intro A V E hA hV hE
 refine Cs Tryz.func161 Tryz.ntmps161 ?_
 refine Wo ?_
 refine sf_if (fun e=>?_) fun e=>?_
 ·refine Wo ?_
  refine fp (y_call (sLeave_f h b c g s k n a d w ha hd ⟨by omega,hw.2⟩ r hr ih A V E hA hV hE) (by rfl) ?_)
  rintro _ A2 q
  refine Wo ?_
  exact nO A2 q
 ·obtain rfl:w = 0:=by omega
  cases hr
  refine Wo ?_
  exact nO A (by simpa using hA)
theorem lenOf_come {g:Grid} {R:Int} (k:Gok g R) {n:Nat} {a d w:Int} (ha:0 ≤ a∧a < g.cells.length) (hd:0 ≤ d∧d ≤ 3) (hw:w ≤ 64∧0 ≤ w) {n1:Nat} {v1:List Visit} {e1:List LEnd} (h:leaveF g (comeF g n) a d w = some (n1,v1,e1)):v1.length ≤ n1∧e1.length ≤ 2 * n1:=by
 unfold leaveF at h
 split at h
 ·cases h; simp
 ·split at h
  ·cases h; simp
  ·rename_i b hn
   have hb:=nextAt_ok k ha.1 ha.2 hn
   have:=comeF_ok k _ _ _ _ _ hb.1 hb.2 hd.1 hd.2 (by omega) h
   exact ⟨this.lv,this.le⟩
theorem sCome_f (h:PHeap) (b:Nat) (c:Value) (g:Grid) (s:Sl h c cellF g.cells) {R:Int} (k:Gok g R):∀ (n:Nat) (a d w:Int) (r:Sl.Lit),(0 ≤ a∧a < g.cells.length)→(0 ≤ d∧d ≤ 3)→(1 ≤ w∧w ≤ 64)→comeF g n a d w = some r→GoesOn M h b g c 133 a d w r
 | 0,_,_,_,_,_,_,_,hr=>by cases hr
 | n + 1,a,d,w,r,ha,hd,hw,hr=>by
  obtain ⟨n1,v1,e1,n2,v2,e2,q1,q2,rfl⟩:=comeF_inv hr
  have ih:=sCome_f h b c g s k n
  rintro A V E ⟨vv,ev,AV,AE,rfl,gv,ge⟩ hV hE
  have o1:=s.one
  have o2:=gv.one
  have o3:=ge.one
  have hsm:=k.small
  have hkd:=k.kind ha.1 ha.2
  have hdt:=dirTurn_ok (kind:=(gt g.cells a.toNat).kind) hd.1 hd.2
  have hsp:=spread_le (kind:=(gt g.cells a.toNat).kind) hw.1
  obtain ⟨a,rfl⟩:∃ a':Nat,a = a':=⟨a.toNat,by omega⟩
  simp only at hV hE
  have hh:w / 2 ≤ 64∧0 ≤ w / 2:=by omega
  have zr:∀ {x:Int} {r:Sl.Lit},leaveF g (comeF g n) a x 0 = some r→r = (1,[],[]):=fun e=>by cases e; rfl
  refine Cs Tryz.func133 Tryz.ntmps133 ?_
  refine Wo ?_
  refine sf_if (fun e0=>?_) fun e0=>?_
  ·omega
  refine Wo ?_
  refine Xb fun u Au gu=>?_
  refine Wo ?_
  refine Xa gv gu fun vv2 AV2 gv2=>?_
  have o4:=gv2.one
  refine Wo ?_
  simp only [Int.toNat_natCast] at hkd hdt hsp q1 q2
  generalize hkk:(gt g.cells a).kind = kd at *
  have hH:hereF g (a:Int) w = endIf (if kd = 7 then 2 else 1) a (spread kd w).stop++endIf 3 a (spread kd w).lost:=by subst hkk; unfold hereF; simp only [Int.toNat_natCast]
  rw [hH]
  clear hr hH
  refine sf_if (fun k1=>?_) fun k1=>?_
  ·subst k1
   have z1:=zr q1
   have z2:=zr q2
   simp only [Prod.mk.injEq] at z1 z2
   obtain ⟨rfl,rfl,rfl⟩:=z1
   obtain ⟨rfl,rfl,rfl⟩:=z2
   refine Wo ?_
   refine fp (y_call (sEnd_f h b (.int .i64 g.wide) c vv2 ev inferInstance o1 o4 AE E ge (by omega) 1 a w) (by rfl) ?_)
   rintro _ _ ⟨ev2,AE2,rfl,ge2⟩
   refine Wo ?_
   exact nO ((b,.cells #[.int .i64 g.wide,c,vv2,ev2] 136) :: (AV2++AE2)) ⟨vv2,ev2,AV2,AE2,rfl,by simpa using gv2,by simpa [spread,endIf] using ge2⟩
  refine Wo ?_
  refine sf_if (fun k7=>?_) fun k7=>?_
  ·subst k7
   have z1:=zr q1
   have z2:=zr q2
   simp only [Prod.mk.injEq] at z1 z2
   obtain ⟨rfl,rfl,rfl⟩:=z1
   obtain ⟨rfl,rfl,rfl⟩:=z2
   refine Wo ?_
   refine fp (y_call (sEnd_f h b (.int .i64 g.wide) c vv2 ev inferInstance o1 o4 AE E ge (by omega) 2 a w) (by rfl) ?_)
   rintro _ _ ⟨ev2,AE2,rfl,ge2⟩
   refine Wo ?_
   exact nO ((b,.cells #[.int .i64 g.wide,c,vv2,ev2] 136) :: (AV2++AE2)) ⟨vv2,ev2,AV2,AE2,rfl,by simpa using gv2,by simpa [spread,endIf] using ge2⟩
  refine Wo ?_
  refine sf_if (fun k6=>?_) fun k6=>?_
  ·subst k6
   have z2:=zr q2
   simp only [Prod.mk.injEq] at z2
   obtain ⟨rfl,rfl,rfl⟩:=z2
   refine Wo ?_
   refine fp (y_call (sEnd_f h b (.int .i64 g.wide) c vv2 ev inferInstance o1 o4 AE E ge (by omega) 3 a (w - w / 2)) (by rfl) ?_)
   rintro _ _ ⟨ev2,AE2,rfl,ge2⟩
   have hel:=endIf_len 3 a (w - w / 2)
   refine Wo ?_
   refine fp (y_call (sHalf_f h b c g s k n a d (w / 2) ha hd ⟨hh.2,hh.1⟩ _ q1 ih _ _ _ ⟨vv2,ev2,AV2,AE2,rfl,gv2,ge2⟩ (by simp; omega) (by simp only [List.length_append]; omega)) (by rfl) ?_)
   rintro _ A3 q
   refine Wo ?_
   exact nO A3 (by simpa [spread,endIf] using q)
  refine Wo ?_
  by_cases k45:kd = 4 ∨ kd = 5
  ·have es:spread kd w = ⟨w / 2,w / 2,w - w / 2 - w / 2,0⟩:=by unfold spread; rw [if_neg (by omega),if_neg (by omega),if_pos k45]
   have k7':kd ≠ 7:=by omega
   simp only [es] at q1 q2 ⊢
   have ew:w - 2 * (w / 2) = w - w / 2 - w / 2:=by omega
   refine sf_if (fun k4=>?_) fun k4=>?_
   ·refine Wo ?_
    refine sf_if (fun _=>?_) fun e=>absurd k4 e
    refine Wo ?_
    rw [ew]
    refine fp (y_call (sEnd_f h b (.int .i64 g.wide) c vv2 ev inferInstance o1 o4 AE E ge (by omega) 3 a (w - w / 2 - w / 2)) (by rfl) ?_)
    rintro _ _ ⟨ev2,AE2,rfl,ge2⟩
    have hel:=endIf_len 3 a (w - w / 2 - w / 2)
    refine Wo ?_
    refine fp (y_call (sHalf_f h b c g s k n a d (w / 2) ha hd ⟨hh.2,hh.1⟩ _ q1 ih _ _ _ ⟨vv2,ev2,AV2,AE2,rfl,gv2,ge2⟩ (by simp; omega) (by simp only [List.length_append]; omega)) (by rfl) ?_)
    rintro _ A3 q
    refine Wo ?_
    refine Xv (sDirTurn_v h kd d hd) ?_
    refine Wo ?_
    have l1:=lenOf_come k ha hd hh q1
    refine fp (y_call (sHalf_f h b c g s k n a (dirTurn kd d) (w / 2) ha hdt ⟨hh.2,hh.1⟩ _ q2 ih _ _ _ q (by simp only [List.length_append,List.length_cons,List.length_nil]; omega) (by simp only [List.length_append]; omega)) (by rfl) ?_)
    rintro _ A4 q'
    refine Wo ?_
    exact nO A4 (by simpa [k7',endIf] using q')
   ·refine Wo ?_
    have k5:kd = 5:=by omega
    refine sf_if (fun _=>?_) fun e=>absurd k5 e
    refine Wo ?_
    rw [ew]
    refine fp (y_call (sEnd_f h b (.int .i64 g.wide) c vv2 ev inferInstance o1 o4 AE E ge (by omega) 3 a (w - w / 2 - w / 2)) (by rfl) ?_)
    rintro _ _ ⟨ev2,AE2,rfl,ge2⟩
    have hel:=endIf_len 3 a (w - w / 2 - w / 2)
    refine Wo ?_
    refine fp (y_call (sHalf_f h b c g s k n a d (w / 2) ha hd ⟨hh.2,hh.1⟩ _ q1 ih _ _ _ ⟨vv2,ev2,AV2,AE2,rfl,gv2,ge2⟩ (by simp; omega) (by simp only [List.length_append]; omega)) (by rfl) ?_)
    rintro _ A3 q
    refine Wo ?_
    refine Xv (sDirTurn_v h kd d hd) ?_
    refine Wo ?_
    have l1:=lenOf_come k ha hd hh q1
    refine fp (y_call (sHalf_f h b c g s k n a (dirTurn kd d) (w / 2) ha hdt ⟨hh.2,hh.1⟩ _ q2 ih _ _ _ q (by simp only [List.length_append,List.length_cons,List.length_nil]; omega) (by simp only [List.length_append]; omega)) (by rfl) ?_)
    rintro _ A4 q'
    refine Wo ?_
    exact nO A4 (by simpa [k7',endIf] using q')
  ·have k7':kd ≠ 7:=k7
   have k4:¬ kd = 4:=by omega
   have k5:¬ kd = 5:=by omega
   refine sf_if (fun e=>absurd e k4) fun _=>?_
   refine Wo ?_
   refine sf_if (fun e=>absurd e k5) fun _=>?_
   refine Wo ?_
   refine Xv (sDirTurn_v h kd d hd) ?_
   refine Wo ?_
   have k023:kd = 0 ∨ (kd = 2 ∨ kd = 3):=by omega
   rcases k023 with k0 | k23
   ·have es:spread kd w = ⟨w,0,0,0⟩:=by unfold spread; rw [if_pos k0]
    simp only [es] at q1 q2 ⊢
    have z2:=zr q2
    simp only [Prod.mk.injEq] at z2
    obtain ⟨rfl,rfl,rfl⟩:=z2
    rw [show dirTurn kd d = d by rw [k0]; rfl]
    refine fp (y_call (sLeave_f h b c g s k n a d w ha hd hw _ q1 ih _ _ _ ⟨vv2,ev,AV2,AE,rfl,gv2,ge⟩ (by simp; omega) (by omega)) (by rfl) ?_)
    rintro _ A3 q
    refine Wo ?_
    exact nO A3 (by simpa [k7',endIf] using q)
   ·have es:spread kd w = ⟨0,w,0,0⟩:=by unfold spread; rw [if_neg (by omega),if_pos k23]
    simp only [es] at q1 q2 ⊢
    have z1:=zr q1
    simp only [Prod.mk.injEq] at z1
    obtain ⟨rfl,rfl,rfl⟩:=z1
    refine fp (y_call (sLeave_f h b c g s k n a (dirTurn kd d) w ha hdt hw _ q2 ih _ _ _ ⟨vv2,ev,AV2,AE,rfl,gv2,ge⟩ (by simp; omega) (by omega)) (by rfl) ?_)
    rintro _ A3 q
    refine Wo ?_
    exact nO A3 (by simpa [k7',endIf] using q)
theorem l11Go_f (h:PHeap) (c:Value) (g:Grid) (s:Sl h c cellF g.cells) {R:Int} (k:Gok g R) (j:Int) (hj:0 ≤ j∧j < manyOf g):CallF Tryz.prog M 93 [.agg #[.int .i64 g.wide,c],.int .i64 j] [] h fun v A=>∃ b,v = .pointer (some ⟨b,0,none⟩)∧WalkO b g c A (goLight g j).1 (goLight g j).2:=by
 have o1:=s.one
 obtain ⟨sz,v,es,hc,hg,hsz,hok⟩:=goLight_is k hj.1 hj.2
 rw [hg]
 obtain ⟨hra,hrd⟩:=rayAt_ok k hj.1 hj.2
 refine Cs Tryz.func93 Tryz.ntmps93 ?_
 repeat first|refine R1 ?_|refine R2 fun _=>?_
 refine Xb fun vv AV gv=>?_
 have ov:=gv.one
 repeat first|refine R1 ?_|refine R2 fun _=>?_
 refine Xb fun ev AE ge=>?_
 have oe:=ge.one
 repeat first|refine R1 ?_|refine R2 fun _=>?_
 refine Xv (l3Ray_v h c g s k j hj.1 hj.2) ?_
 repeat first|refine R1 ?_|refine R2 fun _=>?_
 rename_i b2 b5 b6
 refine fp (y_call (sCome_f h b5 c g s k 6600 _ _ 64 (sz,v,es) hra hrd ⟨by decide,by decide⟩ hc ((b5,.cells #[.int .i64 g.wide,c,vv,ev] 136) :: (AV++AE)) [] [] ⟨vv,ev,AV,AE,rfl,gv,ge⟩ (by simp only [List.length_nil]; omega) (by simp only [List.length_nil]; omega)) (by rfl) ?_)
 rintro _ A2 q
 repeat first|refine R1 ?_|refine R2 fun _=>?_
 exact sf_ret (rO A2 ⟨b5,rfl,by simpa using q⟩)
theorem l11Light_v (h:PHeap) (c:Value) (g:Grid) (s:Sl h c cellF g.cells) {R:Int} (kg:Gok g R) (ev:Value) (es:List LEnd) (sl:Sl h ev endF es) (hes:∀ e ∈ es,EndOk g 64 e) (hle:es.length ≤ 100000):CallV Tryz.prog M 92 [.agg #[.int .i64 g.wide,c],ev] h (.int .i64 (lightOf g es)):=by
 have o1:=s.one
 have o2:=sl.one
 refine Cs Tryz.func92 Tryz.ntmps92 ?_
 repeat first|refine R1 ?_|refine R2 fun _=>?_
 rename_i b2
 refine sf_lp (ι:=Nat) [1,2] (fun k=>[(5,.int .i64 (sumF (endLight g) (es.take k))),(6,.int .i64 (k:Int))]) (fun k O=>k ≤ es.length∧O = [(b2,.cells #[.int .i64 g.wide,c] 25)]) (fun k=>es.length - k) 0 [(b2,.cells #[.int .i64 g.wide,c] 25)] ⟨by omega,rfl⟩ ?_
 rintro j O ⟨hj,rfl⟩
 have hsum:=lightOf_bd kg hes j hle
 repeat first|refine R1 ?_|refine R2 fun _=>?_
 refine sf_if (fun e1=>?_) fun e1=>?_
 ·have hj1:j < es.length:=by omega
  have ek:=hes (gt es j) (by rw [gt_eq hj1]; exact List.getElem_mem _)
  have hst:=sumF_step (f:=endLight g) hj1
  have hbd:=endLight_bd kg ek
  repeat first|refine R1 ?_|refine R2 fun _=>?_
  refine sf_if (fun e2=>?_) fun e2=>?_
  ·have hcl:=ek.cell (by omega)
   rw [endLight,if_pos e2] at hst hbd
   repeat first|refine R1 ?_|refine R2 fun _=>?_
   refine Sd [[],[],[],[1,2],[1,2,3],[1,2,3,4],[],[6],[],[],[8,9],[8,9,10],[8,9,10,11],[6,7,8,9,10,11,12],[6,7,8,9,10,11,12,13],[6,7,8,9,10,11,12,13,14],[1,2,3,4,5,6,7,8,9,10,11,12,13,14,15],[0,1,2,3,4,5,6,7,8,9,10,11,12,13,14,15,16],[0,1,2,3,4,5,6,7,8,9,10,11,12,13,14,15,16,17]] 17 [Nn 0,Nn 1,Nn 2,Nn 3,Nn 4,Nn 5,Nn 6,Nn 7,Nn 8,Nn 9,Nn 10,Nn 11,Nn 12,Nn 13,Nn 14,Nn 15,Nn 16] ?_
   refine Da ?_
   refine Ae ?_
   repeat first|refine R1 ?_|refine R2 fun _=>?_
   exact ⟨j + 1,by omega,⟨by rw [hst]; rfl,rfl,trivial⟩,rfl,_,_,inferInstance,by omega,rfl⟩
  ·rw [endLight,if_neg e2,Int.add_zero] at hst
   repeat first|refine R1 ?_|refine R2 fun _=>?_
   exact ⟨j + 1,by omega,⟨by rw [hst]; rfl,rfl,trivial⟩,rfl,_,_,inferInstance,by omega,rfl⟩
 ·refine sf_exit ?_
  repeat first|refine R1 ?_|refine R2 fun _=>?_
  refine sf_ret (rV ?_)
  rw [lightOf,List.take_of_length_le (by omega)]
theorem l12Pic_f (h:PHeap) (c:Value) (g:Grid) (s:Sl h c cellF g.cells) {R:Int} (k:Gok g R):CallF Tryz.prog M 53 [.agg #[.int .i64 g.wide,c]] [] h fun v A=>Gr A v 3 intF (picOf g):=by
 have o1:=s.one
 have hmm:=k.many
 obtain ⟨N,hN⟩:∃ N:Nat,manyOf g = N:=⟨(manyOf g).toNat,by omega⟩
 have hP:picOf g = (List.range N).map fun j=>trailLight g (j:Nat):=by rw [picOf,hN]; rfl
 rw [hP]
 refine Cs Tryz.func53 Tryz.ntmps53 ?_
 repeat first|refine R1 ?_|refine R2 fun _=>?_
 refine Xb fun w A g0=>?_
 repeat first|refine R1 ?_|refine R2 fun _=>?_
 rename_i b1
 refine sf_lp (ι:=Nat × Value) [1] (fun x=>[(4,.int .i64 (x.1:Int)),(3,x.2)]) (fun x O=>x.1 ≤ N∧∃ A',O = A'++[(b1,.cells #[.int .i64 g.wide,c] 25)]∧∃ xs,xs.length = x.1∧xs = ((List.range x.1).map fun j=>trailLight g (j:Nat))∧Gr A' x.2 3 intF xs) (fun x=>N - x.1) (0,w) (A++[(b1,.cells #[.int .i64 g.wide,c] 25)]) ⟨by omega,A,rfl,[],rfl,rfl,g0⟩ ?_
 rintro ⟨j,v⟩ O ⟨hj,A',rfl,xs,lx,ex,gr⟩
 simp only at hj lx ex gr ⊢
 have o2:=gr.one
 repeat first|refine R1 ?_|refine R2 fun _=>?_
 refine Xv (l3Many_v h c g s k) ?_
 rw [hN]
 repeat first|refine R1 ?_|refine R2 fun _=>?_
 refine sf_if (fun e1=>?_) fun e1=>?_
 ·obtain ⟨sz,vs,es,hc,hg,hsz,hok⟩:=goLight_is k (j:=(j:Int)) (by omega) (by omega)
  have hes:∀ e ∈ es,EndOk g 64 e:=hok.es
  have hle:=hok.le
  simp only at hle
  have eT:trailLight g (j:Nat) = lightOf g es:=by rw [trailLight,hg]
  repeat first|refine R1 ?_|refine R2 fun _=>?_
  refine Sd [[],[],[],[],[2,3],[2,3,4],[2,3,4,5],[2,3,4,5,6],[1,2,3,4,5,6,7],[1,2,3,4,5,6,7,8],[0,1,2,3,4,5,6,7,8,9],[0,1,2,3,4,5,6,7,8,9,10]] 10 [Nn 0,Nn 1,Nn 2,Nn 3,Yy 4,Nn 5,Nn 6,Yy 7,Yy 8,Yy 9] ?_
  refine Da ?_
  refine Yc (l11Go_f h c g s k (j:Int) ⟨by omega,by omega⟩) ?_
  rintro _ _ ⟨b3,rfl,vv,ev,AV,AE,rfl,gv,ge⟩
  rw [hg] at gv ge
  have ov:=gv.one
  have oe:=ge.one
  refine Da ?_
  refine Yw (by rfl) (z_load (by rfl)) ?_
  refine Yc (lendV AE fun h' l' i=>l11Light_v h' c g (s.le l'.le) k ev es (ge.lent (by simp only; omega) i) hes (by omega)) ?_
  rintro _ _ ⟨rfl,rfl⟩
  refine Da ?_
  refine Yb fun u Au gu=>?_
  refine Da ?_
  refine Ae ?_
  refine Xa gr gu fun v2 A2 g2=>?_
  repeat first|refine R1 ?_|refine R2 fun _=>?_
  exact ⟨(j + 1,v2),by simp only; omega,⟨rfl,rfl,trivial⟩,rfl,A2++[(b1,.cells #[.int .i64 g.wide,c] 25)],_,inferInstance,by simp only; omega,A2,rfl,_,by simp; omega,by rw [List.range_succ,List.map_append,ex]; simp [eT],g2⟩
 ·refine sf_exit ?_
  obtain rfl:j = N:=by omega
  repeat first|refine R1 ?_|refine R2 fun _=>?_
  exact sf_ret (rO A' (by rw [← ex]; exact gr))
theorem l13Same_v (h:PHeap) (a b:Value) (xs ys:List Int) (sx:Sl h a intF xs) (sy:Sl h b intF ys):CallV Tryz.prog M 51 [a,b] h (.bool (decide (xs = ys))):=by
 have o1:=sx.one
 have o2:=sy.one
 have hx:=sx.small
 have hy:=sy.small
 refine Cs Tryz.func51 Tryz.ntmps51 ?_
 refine Wo ?_
 refine sf_if (fun e0=>?_) fun e0=>?_
 ·refine Wo ?_
  exact sf_ret (rV (bF fun e=>e0 (by rw [e])))
 have hl:xs.length = ys.length:=by omega
 refine Wo ?_
 refine sf_rd [0,1] 5 xs.length 0 (fun k=>xs.take k = ys.take k) (by omega) rfl (fun k hk hi=>?_)
 refine Wo ?_
 refine sf_if (fun h4=>?_) fun h4=>?_
 ·have hk4:k < xs.length:=by omega
  have hk5:k < ys.length:=by omega
  refine Wo ?_
  refine Sd [[],[],[0,1],[0,1,2],[],[],[4,5],[4,5,6],[0,1,2,3,4,5,6,7]] 8 [Nn 0,Nn 1,Nn 2,Nn 3,Nn 4,Nn 5,Nn 6,Nn 7] ?_
  refine Da ?_
  refine Ae ?_
  refine Wo ?_
  refine sf_if (fun e1=>?_) fun e1=>?_
  ·refine Wo ?_
   exact sf_ret (rV (bF (eq_at e1)))
  ·refine Wo ?_
   exact ⟨⟨hk4,eq_step hk4 hk5 hi (by simpa using e1)⟩,rfl,rfl,_,inferInstance⟩
 ·refine sf_exit ?_
  refine Wo ?_
  exact sf_ret (rV (bT (eq_end hl (by omega) hi)))
theorem l13Edits_v (h:PHeap) (c:Value) (g:Grid) (s:Sl h c cellF g.cells) (v:Value) (es:List Edit) (s2:Sl h v editF es):CallV Tryz.prog M 65 [.agg #[.int .i64 g.wide,c],v] h (.bool (decide (es.length ≤ 20) && editsOk g es)):=by
 have o1:=s.one
 have o2:=s2.one
 have hs:=s2.small
 have hs1:=s.small
 refine Cs Tryz.func65 Tryz.ntmps65 ?_
 repeat first|refine R1 ?_|refine R2 fun _=>?_
 refine sf_if (fun e0=>?_) fun e0=>?_
 ·repeat first|refine R1 ?_|refine R2 fun _=>?_
  refine sf_ret (rV ?_)
  simp; intros; omega
 have h20:decide (es.length ≤ 20) = true:=decide_eq_true (by omega)
 rw [h20,Bool.true_and]
 repeat first|refine R1 ?_|refine R2 fun _=>?_
 refine sf_rd [1,2] 5 es.length 0 (fun k=>editsOk g (es.take k) = true) (by omega) rfl (fun k hk hi=>?_)
 repeat first|refine R1 ?_|refine R2 fun _=>?_
 refine sf_if (fun h4=>?_) fun h4=>?_
 ·have hk4:k < es.length:=by omega
  have hstep:editsOk g (es.take (k + 1)) = editOk g (gt es k):=by
   rw [editsOk,all_take hk4]
   rw [editsOk] at hi
   rw [hi,Bool.true_and]
  have hF:editOk g (gt es k) = false→editsOk g es = false:=fun e=>by rw [editsOk,all_false hk4 e]
  repeat first|refine R1 ?_|refine R2 fun _=>?_
  refine Sd [[],[],[0,1],[0,1,2],[0,1,2,3],[0,1,2,3,4],[0,1,2,3,4,5],[0,1,2,3,4,5,6],[0,1,2,3,4,5,6,7],[0,1,2,3,4,5,6,7],[0,1,2,3,4,5,6,7,8,9],[0,1,2,3,4,5,6,7,8,9,10],[0,1,2,3,4,5,6,7,8,9,10,11],[0,1,2,3,4,5,6,7],[0,1,2,3,4,5,6,7,13],[0,1,2,3,4,5,6,7,13,14],[0,1,2,3,4,5,6,7,13,14,15],[0,1,2,3,4,5,6,7,8,9,10,11,12,13,14,15,16],[0,1,2,3,4,5,6,7,8,9,10,11,12,13,14,15,16,17],[0,1,2,3,4,5,6,7,8,9,10,11,12,13,14,15,16,17,18]] 17 [Nn 0,Nn 1,Nn 2,Nn 3,Nn 4,Yy 5,Nn 6,Nn 7,Nn 8,Nn 9,Nn 10,Nn 11,Nn 12,Nn 13,Nn 14,Nn 15,Nn 16] ?_
  refine Da ?_
  refine Yv (sCellOk_v _ (gt es k).cell) ?_
  cases hc:cellOk (gt es k).cell with
  | false=>
   refine Da ?_
   refine Ae ?_
   repeat first|refine R1 ?_|refine R2 fun _=>?_
   refine sf_T rfl ?_
   repeat first|refine R1 ?_|refine R2 fun _=>?_
   refine sf_ret (rV ?_)
   rw [hF (by simp [editOk,hc])]
  | true=>
   refine Da ?_
   refine Ae ?_
   refine Xv (l6In_v _ _ _ _) ?_
   repeat first|refine R1 ?_|refine R2 fun _=>?_
   refine sf_cond (by rfl) (fun h5=>?_) fun h5=>?_
   ·repeat first|refine R1 ?_|refine R2 fun _=>?_
    refine sf_ret (rV ?_)
    rw [hF (by simp at h5; simp [editOk,hc]; intros; omega)]
   ·repeat first|refine R1 ?_|refine R2 fun _=>?_
    refine ⟨⟨hk4,?_⟩,rfl,rfl,_,inferInstance⟩
    rw [hstep]; simp at h5; simp [editOk,hc]; omega
 ·refine sf_exit ?_
  repeat first|refine R1 ?_|refine R2 fun _=>?_
  rw [take_ge hk (by omega)] at hi
  exact sf_ret (rV (by rw [hi]))
theorem l22Edits_v (h:PHeap) (ca:List Value) (k:Keeper) (b:(keeperR τ).B h ca k):CallV Tryz.prog M 50 [.agg ca.toArray] h (.bool (decide (k.edits.length ≤ 60) && editsOk k.first k.edits)):=by
 obtain ⟨c,e,p,s,rfl,s1,s2,s3,s4⟩:=keeperB b
 have o1:=s1.one
 have o2:=s2.one
 have o3:=s3.one
 have o4:=s4.one
 have hs:=s2.small
 generalize hes:k.edits = es at *
 refine Cs Tryz.func50 Tryz.ntmps50 ?_
 repeat first|refine R1 ?_|refine R2 fun _=>?_
 refine sf_if (fun e0=>?_) fun e0=>?_
 ·repeat first|refine R1 ?_|refine R2 fun _=>?_
  refine sf_ret (rV ?_)
  simp; intros; omega
 have h60:decide (es.length ≤ 60) = true:=decide_eq_true (by omega)
 rw [h60,Bool.true_and]
 repeat first|refine R1 ?_|refine R2 fun _=>?_
 refine sf_rd [1] 3 es.length 0 (fun j=>editsOk k.first (es.take j) = true) (by omega) rfl (fun j hj hi=>?_)
 repeat first|refine R1 ?_|refine R2 fun _=>?_
 refine sf_if (fun h4=>?_) fun h4=>?_
 ·have hk4:j < es.length:=by omega
  obtain ⟨v',sv,op⟩:=s2.mid (l:=j) (u:=j + 1) (by omega) (by omega)
  have ov:=sv.one
  have e1:(es.take (j + 1)).drop j = [gt es j]:=by
   rw [take_succ_gt hk4,List.drop_append_of_le_length (by rw [List.length_take]; omega),List.drop_of_length_le (by rw [List.length_take]; omega),List.nil_append]
  rw [e1] at sv
  have hstep:editsOk k.first (es.take (j + 1)) = editOk k.first (gt es j):=by
   rw [editsOk,all_take hk4]
   rw [editsOk] at hi
   rw [hi,Bool.true_and]
  repeat first|refine R1 ?_|refine R2 fun _=>?_
  refine Sd [[],[0],[],[2],[],[],[5],[2,3,4,5,6],[0,1,2,3,4,5,6,7],[0,1,2,3,4,5,6,7,8]] 8 [Nn 0,Nn 1,Nn 2,Nn 3,Nn 4,Nn 5,Nn 6,Nn 7] ?_
  refine Da ?_
  refine Yq (by rfl) (fun X h' [_]=>op (by infer_instance) (by infer_instance) (by rfl) (by rfl) (by rfl)) ?_
  refine Da ?_
  refine Ae ?_
  refine Xv (l13Edits_v _ c k.first s1 v' _ sv) ?_
  rw [show (decide ([gt es j].length ≤ 20) && editsOk k.first [gt es j]) = editOk k.first (gt es j) by simp [editsOk]]
  repeat first|refine R1 ?_|refine R2 fun _=>?_
  refine sf_cond (by rfl) (fun h5=>?_) fun h5=>?_
  ·simp only [Bool.not_eq_true'] at h5
   repeat first|refine R1 ?_|refine R2 fun _=>?_
   exact sf_ret (rV (by rw [editsOk,all_false hk4 h5]))
  ·simp only [Bool.not_eq_false'] at h5
   repeat first|refine R1 ?_|refine R2 fun _=>?_
   exact ⟨⟨hk4,by rw [hstep]; exact h5⟩,rfl,rfl,_,inferInstance⟩
 ·refine sf_exit ?_
  repeat first|refine R1 ?_|refine R2 fun _=>?_
  rw [take_ge hj (by omega)] at hi
  exact sf_ret (rV (by rw [hi]))
theorem l22Grid_f (h:PHeap) (ca:List Value) (k:Keeper) (b:(keeperR τ).B h ca k) (hk:HeadOk k) (v:Int) (hv:verOk k v = true):CallF Tryz.prog M 54 [.agg ca.toArray,.int .i64 v] [] h fun u A=>∃ cs,u = .agg cs.toArray∧(gridR τ).O A cs (gridAt k v):=by
 obtain ⟨c,e,p,s,rfl,s1,s2,s3,s4⟩:=keeperB b
 have o1:=s1.one
 have o2:=s2.one
 have o3:=s3.one
 have o4:=s4.one
 have hsm:=(gok hk.grid).small
 have h60:=hk.e60
 have hed:=hk.edits
 simp only [verOk,Bool.and_eq_true,decide_eq_true_eq] at hv
 obtain ⟨n,rfl⟩:∃ n:Nat,v = n:=⟨v.toNat,by omega⟩
 rw [show gridAt k (n:Nat) = gridAfter k.first (k.edits.take n) from rfl]
 have hn:n ≤ k.edits.length:=by omega
 generalize k.edits = es at *
 refine Cs Tryz.func54 Tryz.ntmps54 ?_
 repeat first|refine R1 ?_|refine R2 fun _=>?_
 refine fp (y_call (l1Copy_f _ _ k.first (gridB_mk s1) (by omega)) (by rfl) ?_)
 rintro _ A1 ⟨_,rfl,q⟩
 obtain ⟨c2,rfl,g1,l1⟩:=gridO q
 have o5:=g1.one
 repeat first|refine R1 ?_|refine R2 fun _=>?_
 rename_i b2 b4 b5
 refine sf_lp (ι:=Nat) [1,2,4,5] (fun i=>[(6,.int .i64 (i:Int))]) (fun i O=>i ≤ n∧∃ A',O = (b5,.cells #[.int .i64 k.first.wide,c2] 25) :: (A'++[(b4,.cells #[.int .i64 0,.slice none 0 0] 25),(b2,.cells #[.int .i64 k.first.wide,c,e,p,s] 30)])∧∃ cs,cs = (gridAfter k.first (es.take i)).cells∧cs.length = k.first.cells.length∧Gr A' c2 46 cellF cs) (fun i=>n - i) 0 ((b5,.cells #[.int .i64 k.first.wide,c2] 25) :: (A1++[(b4,.cells #[.int .i64 0,.slice none 0 0] 25),(b2,.cells #[.int .i64 k.first.wide,c,e,p,s] 30)])) ⟨by omega,_,rfl,_,rfl,rfl,g1⟩ ?_
 rintro i O ⟨hi,A',rfl,cs,ecs,lcs,gr⟩
 have o6:=gr.one
 repeat first|refine R1 ?_|refine R2 fun _=>?_
 refine sf_if (fun h4=>?_) fun h4=>?_
 ·have hi4:i < es.length:=by omega
  obtain ⟨e1,e2,e3⟩:=editOk_is (editsOk_at hed hi4)
  obtain ⟨a,ha⟩:∃ a:Nat,(gt es i).at' = a:=⟨(gt es i).at'.toNat,by omega⟩
  repeat first|refine R1 ?_|refine R2 fun _=>?_
  refine Sd [[],[0],[],[2],[],[2,3,4],[2,3,4,5],[2,3,4,5,6],[],[8],[],[8,9,10],[8,9,10,11],[8,9,10,11,12],[0,1,2,3,4,5,6,7,8,9,10,11,12,13],[0,1,2,3,4,5,6,7,8,9,10,11,12,13,14]] 14 [Nn 0,Nn 1,Nn 2,Nn 3,Nn 4,Nn 5,Nn 6,Nn 7,Nn 8,Nn 9,Nn 10,Nn 11,Nn 12,Nn 13] ?_
  refine Da ?_
  refine Ae ?_
  simp only [ha]
  repeat first|refine R1 ?_|refine R2 fun _=>?_
  refine Xg gr fun A2 cs2 ec lc _ g2=>?_
  repeat first|refine R1 ?_|refine R2 fun _=>?_
  refine ⟨i + 1,by omega,⟨rfl,trivial⟩,rfl,(b5,.cells #[.int .i64 k.first.wide,c2] 25) :: (A2++[(b4,.cells #[.int .i64 0,.slice none 0 0] 25),(b2,.cells #[.int .i64 k.first.wide,c,e,p,s] 30)]),_,inferInstance,by omega,A2,rfl,cs2,?_,by omega,g2⟩
  rw [gridAfter_step hi4,putCell,ec,ecs,ha]; rfl
 ·refine sf_exit ?_
  obtain rfl:i = n:=by omega
  repeat first|refine R1 ?_|refine R2 fun _=>?_
  refine sf_ret (rO A' ⟨_,rfl,?_⟩)
  have:=gridO_mk (τ:=τ) (g:=gridAfter k.first (es.take i)) (c:=c2) (A:=A') (by rw [← ecs]; exact gr) (by rw [← ecs]; omega)
  rw [(gridAfter_same (es.take i) k.first).1] at this
  exact this
theorem l21Own_f (h:PHeap) (c:Value) (g:Grid) (s:Sl h c cellF g.cells) {R:Int} (kg:Gok g R) (id many:Nat) (h1:1 ≤ id) (h2:id ≤ many) (h3:many ≤ 3):CallF Tryz.prog M 90 [.agg #[.int .i64 g.wide,c],.int .i64 (id:Int),.int .i64 (many:Int)] [] h fun u A=>Gr A u 3 intF (ownList (manyOf g).toNat many id):=by
 have o1:=s.one
 have hm:=kg.many
 obtain ⟨S,hS⟩:∃ S:Nat,manyOf g = S:=⟨(manyOf g).toNat,by omega⟩
 rw [hS] at hm ⊢
 simp only [Int.toNat_natCast]
 have hc:∀ j,j < ownCnt S many id ↔ id - 1 + j * many < S:=fun j=>ownCnt_lt h1 h2 h3
 refine Cs Tryz.func90 Tryz.ntmps90 ?_
 repeat first|refine R1 ?_|refine R2 fun _=>?_
 refine Xb fun w A0 g0=>?_
 repeat first|refine R1 ?_|refine R2 fun _=>?_
 rename_i b3
 rw [show (id:Int) - 1 = ((id - 1 + 0 * many:Nat):Int) by omega]
 refine sf_lp (ι:=Nat × Value) [2,3] (fun x=>[(8,.int .i64 ((id - 1 + x.1 * many:Nat):Int)),(7,x.2)]) (fun x O=>x.1 ≤ ownCnt S many id∧∃ A',O = A'++[(b3,.cells #[.int .i64 g.wide,c] 25)]∧∃ xs,xs.length = x.1∧xs = ((List.range x.1).map fun j=>((id - 1 + j * many:Nat):Int))∧Gr A' x.2 3 intF xs) (fun x=>ownCnt S many id - x.1) (0,w) (A0++[(b3,.cells #[.int .i64 g.wide,c] 25)]) ⟨by omega,A0,rfl,[],rfl,rfl,g0⟩ ?_
 rintro ⟨j,v⟩ O ⟨hj,A',rfl,xs,lx,ex,gr⟩
 simp only at hj lx ex gr ⊢
 have o2:=gr.one
 repeat first|refine R1 ?_|refine R2 fun _=>?_
 refine Xv (l3Many_v h c g s kg) ?_
 rw [hS]
 have hjm:j * many ≤ 20 * 3∧j ≤ 20:=by
  rcases Nat.eq_zero_or_pos j with rfl | hj0
  ·omega
  ·have:=(hc (j - 1)).1 (by omega)
   have h4:(j - 1) * many ≤ 20 * 3:=by omega
   have h5:j * many = (j - 1) * many + many:=by
    obtain ⟨k,rfl⟩:∃ k,j = k + 1:=⟨j - 1,by omega⟩
    rw [Nat.add_sub_cancel,Nat.add_mul,Nat.one_mul]
   have h6:j ≤ 20:=by
    have:(j - 1) * 1 ≤ (j - 1) * many:=Nat.mul_le_mul_left _ (by omega)
    omega
   exact ⟨Nat.mul_le_mul h6 h3,h6⟩
 repeat first|refine R1 ?_|refine R2 fun _=>?_
 refine sf_if (fun h4=>?_) fun h4=>?_
 ·have hj4:j < ownCnt S many id:=(hc j).2 (by omega)
  repeat first|refine R1 ?_|refine R2 fun _=>?_
  refine Xb fun u Au gu=>?_
  repeat first|refine R1 ?_|refine R2 fun _=>?_
  refine Xa gr gu fun v2 A2 g2=>?_
  repeat first|refine R1 ?_|refine R2 fun _=>?_
  refine ⟨(j + 1,v2),by simp only; omega,⟨?_,rfl,trivial⟩,rfl,A2++[(b3,.cells #[.int .i64 g.wide,c] 25)],_,inferInstance,by simp only; omega,A2,rfl,_,by simp; omega,by rw [ownList_step,ex],g2⟩
  rw [show ((id - 1 + (j + 1) * many:Nat):Int) = ((id - 1 + j * many:Nat):Int) + (many:Int) by rw [Nat.add_mul,Nat.one_mul]; omega]
  rfl
 ·refine sf_exit ?_
  have:j = ownCnt S many id:=by
   rcases Nat.lt_or_ge j (ownCnt S many id) with h | h
   ·have:=(hc j).1 h; omega
   ·omega
  repeat first|refine R1 ?_|refine R2 fun _=>?_
  refine sf_ret (rO A' ?_)
  rw [ownList,← this,← ex]; exact gr
theorem l22Own_f (h:PHeap) (ca:List Value) (k:Keeper) (b:(keeperR τ).B h ca k) (hk:HeadOk k) (id:Nat) (h1:1 ≤ id) (h2:id ≤ k.parts.length) (v:Int) (hv:verOk k v = true):CallF Tryz.prog M 52 [.agg ca.toArray,.int .i64 (id:Int),.int .i64 v] [] h fun u A=>Gr A u 3 intF (partLights k id v):=by
 have b0:=b
 obtain ⟨c,e,p,s,rfl,s1,s2,s3,s4⟩:=keeperB b
 have o1:=s1.one
 have o2:=s2.one
 have o3:=s3.one
 have o4:=s4.one
 obtain ⟨rp,sp,bp⟩:=s3
 have lp:=bp.len
 have n3:=hk.n3
 have gok':=gridAt_ok hk.grid hk.edits v
 have kg:=gok gok'
 have hmm:=kg.many
 have hmy:=gridAt_many k v
 have hpl:(picOf (gridAt k v)).length = (manyOf (gridAt k v)).toNat:=picOf_len _
 refine Cs Tryz.func52 Tryz.ntmps52 ?_
 repeat first|refine R1 ?_|refine R2 fun _=>?_
 refine fp (y_call (l22Grid_f _ _ k b0 hk v hv) (by rfl) ?_)
 rintro _ A1 ⟨cs,rfl,q⟩
 obtain ⟨c2,rfl,g1,l1⟩:=gridO q
 have o5:=g1.one
 repeat first|refine R1 ?_|refine R2 fun _=>?_
 refine fp (y_lend A1 (fun h' _ i=>l12Pic_f h' c2 _ (g1.lent (by omega) i) kg) (by rfl) ?_)
 intro v2 A2 g2
 have o6:=g2.one
 repeat first|refine R1 ?_|refine R2 fun _=>?_
 refine fp (y_lend A1 (fun h' _ i=>l21Own_f h' c2 _ (g1.lent (by omega) i) kg id rp.length h1 (by omega) (by omega)) (by rfl) ?_)
 intro v3 A3 g3
 have o7:=g3.one
 rw [lp,hmy] at g3
 rw [hmy] at hpl hmm
 repeat first|refine R1 ?_|refine R2 fun _=>?_
 refine Xb fun w A4 g4=>?_
 repeat first|refine R1 ?_|refine R2 fun _=>?_
 obtain ⟨S,hS⟩:∃ S:Nat,manyOf k.first = S:=⟨(manyOf k.first).toNat,by omega⟩
 have hP:partLights k id v = ownLights (picOf (gridAt k v)) S k.parts.length id:=by rw [partLights,hS]; rfl
 rw [hP]
 rw [hS] at g3 hpl hmm
 simp only [Int.toNat_natCast] at g3 hpl
 have hl:=ownList_len S k.parts.length id
 have hc:∀ j,j < ownCnt S k.parts.length id ↔ id - 1 + j * k.parts.length < S:=fun j=>ownCnt_lt h1 h2 n3
 have hat:∀ j,j < ownCnt S k.parts.length id→gt (ownList S k.parts.length id) j = ((id - 1 + j * k.parts.length:Nat):Int):=fun j hj=>ownList_at hj
 have hcn:ownCnt S k.parts.length id ≤ S + k.parts.length - id:=Nat.div_le_self _ _
 clear hP
 rw [ownLights]
 generalize hxs:ownList S k.parts.length id = xs at *
 generalize hpc:picOf (gridAt k v) = pc at *
 rename_i b3 b7
 refine sf_lp (ι:=Nat × Value) [8,9] (fun x=>[(11,.int .i64 (x.1:Int)),(10,x.2)]) (fun x O=>x.1 ≤ xs.length∧∃ A',O = A'++(A2++A3)∧Gr A' x.2 3 intF ((xs.take x.1).map fun k=>gt pc k.toNat)) (fun x=>xs.length - x.1) (0,w) (A4++(A2++A3)) ⟨by omega,A4,rfl,g4⟩ ?_
 rintro ⟨j,u⟩ O ⟨hj,A',rfl,gr⟩
 simp only at hj gr ⊢
 have o8:=gr.one
 have hlt:((xs.take j).map fun k=>gt pc k.toNat).length = j:=by rw [List.length_map,List.length_take]; omega
 repeat first|refine R1 ?_|refine R2 fun _=>?_
 refine sf_if (fun h4=>?_) fun h4=>?_
 ·have hj4:j < ownCnt S k.parts.length id:=by omega
  have ha:=hat j hj4
  have hb:=(hc j).1 hj4
  have hstep:((xs.take (j + 1)).map fun k=>gt pc k.toNat) = ((xs.take j).map fun k=>gt pc k.toNat)++[gt pc (id - 1 + j * k.parts.length)]:=by
   rw [take_succ_gt (by omega),List.map_append,ha]; rfl
  have hj5:j < xs.length:=by omega
  have hj6:id - 1 + j * k.parts.length < pc.length:=by omega
  repeat first|refine R1 ?_|refine R2 fun _=>?_
  simp only [ha]
  repeat first|refine R1 ?_|refine R2 fun _=>?_
  refine Xb fun w2 Au gu=>?_
  repeat first|refine R1 ?_|refine R2 fun _=>?_
  refine Xa gr gu fun u2 A5 g5=>?_
  repeat first|refine R1 ?_|refine R2 fun _=>?_
  exact ⟨(j + 1,u2),by simp only; omega,⟨rfl,rfl,trivial⟩,rfl,A5++(A2++A3),_,inferInstance,by simp only; omega,A5,rfl,by rw [hstep]; exact g5⟩
 ·refine sf_exit ?_
  repeat first|refine R1 ?_|refine R2 fun _=>?_
  refine sf_ret (rO A' ?_)
  rw [← take_ge (xs:=xs) hj (by omega)]; exact gr
theorem sKeepOk_v (h:PHeap) (ca:List Value) (k:Keeper) (b:(keeperR τ).B h ca k):CallV Tryz.prog M 14 [.agg ca.toArray] h (.bool (keepOk k)):=by
 have b0:=b
 obtain ⟨c,ed,p,s,rfl,s1,s2,s3,s4⟩:=keeperB b
 have o1:=s1.one
 have o2:=s2.one
 have o3:=s3.one
 have o4:=s4.one
 obtain ⟨rp,sp,bp⟩:=s3
 obtain ⟨rs,ss,bs⟩:=s4
 have lp:=bp.len
 have ls:=bs.len
 have hsp:=sp.small
 have hss:=ss.small
 have hs2:=s2.small
 have hN:keepHead k = false→keepOk k = false:=fun e=>by simp [keepOk,e]
 refine Cs Tryz.func14 Tryz.ntmps14 ?_
 repeat first|refine R1 ?_|refine R2 fun _=>?_
 refine Xv (sGridOk_v _ _ k.first ⟨c,rfl,s1⟩) ?_
 repeat first|refine R1 ?_|refine R2 fun _=>?_
 refine f_splitB (fun g0=>?_) fun g0=>?_
 ·have g0':=g0
  simp only [Bool.not_eq_true'] at g0'
  repeat first|refine R1 ?_|refine R2 fun _=>?_
  refine sf_T rfl ?_
  repeat first|refine R1 ?_|refine R2 fun _=>?_
  exact sf_ret (rV (by rw [hN (by simp [keepHead,g0'])]))
 have g0':=g0
 simp only [Bool.not_eq_false'] at g0'
 repeat first|refine R1 ?_|refine R2 fun _=>?_
 refine Xv (l6In_v _ _ _ _) ?_
 repeat first|refine R1 ?_|refine R2 fun _=>?_
 refine f_splitB (fun g1=>?_) fun g1=>?_
 ·repeat first|refine R1 ?_|refine R2 fun _=>?_
  refine sf_T rfl ?_
  repeat first|refine R1 ?_|refine R2 fun _=>?_
  exact sf_ret (rV (by rw [hN (by simp at g1; simp [keepHead]; intros; omega)]))
 repeat first|refine R1 ?_|refine R2 fun _=>?_
 refine Xv (l22Edits_v _ _ k b0) ?_
 repeat first|refine R1 ?_|refine R2 fun _=>?_
 refine sf_cond (by rfl) (fun g4=>?_) fun g4=>?_
 ·repeat first|refine R1 ?_|refine R2 fun _=>?_
  exact sf_ret (rV (by rw [hN (by simp at g4; simp [keepHead]; intros; rcases g4 with h | h <;> first|exact h | (exfalso; omega))]))
 have hk:HeadOk k:=by
  simp at g1 g4
  exact ⟨g0',by omega,by omega,g4.1,g4.2⟩
 have hK:=hk.is
 have hF:∀ {b:Bool},(partsOk k k.parts.length && shownsOk k k.shown.length) = b→keepOk k = b:=fun e=>by rw [keepOk,hK,Bool.true_and]; exact e
 have n3:=hk.n3
 clear hN g0 g1 g4
 repeat first|refine R1 ?_|refine R2 fun _=>?_
 rename_i b1
 refine sf_lp (ι:=Nat) [1,3] (fun i=>[(4,.int .i64 (i:Int))]) (fun i O=>(i ≤ rp.length∧partsOk k i = true)∧O = [(b1,.cells #[.int .i64 k.first.wide,c,ed,p,s] 30)]) (fun i=>rp.length - i) 0 [(b1,.cells #[.int .i64 k.first.wide,c,ed,p,s] 30)] ⟨⟨by omega,rfl⟩,rfl⟩ ?_
 rintro i O ⟨⟨hi,hpi⟩,rfl⟩
 repeat first|refine R1 ?_|refine R2 fun _=>?_
 refine sf_if (fun e1=>?_) fun e1=>?_
 ·have hi1:i < k.parts.length:=by omega
  have hi2:i < rp.length:=by omega
  obtain ⟨l,ex,sl⟩:=partB (bp.at hi1)
  have ol:=sl.one
  have hsl:=sl.small
  have hG:partOk k (i + 1) (gt k.parts i) = false→keepOk k = false:=fun e=>hF (by rw [partsOk_F hi1 e]; rfl)
  have hS:partsOk k (i + 1) = partOk k (i + 1) (gt k.parts i):=by rw [partsOk_step,hpi,Bool.true_and]
  have hpo:partOk k (i + 1) (gt k.parts i) = if (gt k.parts i).has = true then verOk k (gt k.parts i).ver && decide ((gt k.parts i).lights = partLights k (i + 1) (gt k.parts i).ver) else decide ((gt k.parts i).ver = 0) && decide ((gt k.parts i).lights.length = 0):=rfl
  haveI:FlatV (rawF (partR τ).sz) (gt rp i) [.bool (gt k.parts i).has,.int .i64 (gt k.parts i).ver,l]:=⟨ex⟩
  repeat first|refine R1 ?_|refine R2 fun _=>?_
  refine sf_keep [1,3,4,5] ?_
  cases hh:(gt k.parts i).has with
  | false=>
   rw [hh] at hpo
   simp only [Bool.false_eq_true,if_false] at hpo
   by_cases h2:(gt k.parts i).ver ≠ 0
   ·refine Sd [[],[0],[0,1],[0,1,2],[0,1,2,3],[0,1,2,3,4],[0,1,2,3,4,5],[0,1,2,3,4,5,6],[0,1,2,3,4,5,6,7],[0,1,2,3,4,5,6,7,8],[0,1,2,3,4,5,6,7,8,9],[0,1,2,3,4,5,6,7,8,9,10],[0,1,2,3,4,5,6,7,8,9,10,11],[0,1,2,3,4,5,6,7,8,9,10,11,12],[0,1,2,3,4,5,6,7,8,9,10,11,12,13],[0,1,2,3,4,5,6,7,8,9,10,11,12,13,14],[0,1,2,3,4,5,6,7,8,9,10,11,12,13,14,15],[0,1,2,3,4,5,6,7,8,9,10,11,12,13,14,15,16],[0,1,2,3,4,5,6,7,8,9,10,11,12,13,14,15,16,17],[0,1,2,3,4,5,6,7,8,9,10,11,12,13,14,15,16,17,18],[0,1,2,3,4,5,6,7,8,9,10,11,12,13,14,15,16,17],[0,1,2,3,4,5,6,7,8,9,10,11,12,13,14,15,16,17,18,19,20],[0,1,2,3,4,5,6,7,8,9,10,11,12,13,14,15,16,17,18,19,20,21],[0,1,2,3,4,5,6,7,8,9,10,11,12,13,14,15,16,17,18,19,20,21,22],[0,1,2,3,4,5,6,7,8,9,10,11,12,13,14,15,16,17,18,19,20,21,22,23],[0,1,2,3,4,5,6,7,8,9,10,11,12,13,14,15,16,17,18,19,20,21,22,23,24],[0,1,2,3,4,5,6,7,8,9,10,11,12,13,14,15,16,17,18,19,20,21,22,23],[0,1,2,3,4,5,6,7,8,9,10,11,12,13,14,15,16,17,18,19,20,21,22,23],[0,1,2,3,4,5,6,7,8,9,10,11,12,13,14,15,16,17,18,19,20,21,22,23,27],[0,1,2,3,4,5,6,7,8,9,10,11,12,13,14,15,16,17,18,19,20,21,22,23],[0,1,2,3,4,5,6,7,8,9,10,11,12,13,14,15,16,17,18,19,20,21,22,23,29],[0,1,2,3,4,5,6,7,8,9,10,11,12,13,14,15,16,17,18,19,20,21,22,23,26,27,28,29,30],[0,1,2,3,4,5,6,7,8,9,10,11,12,13,14,15,16,17,18,19,20,21,22,23,24,25,26,27,28,29,30,31],[0,1,2,3,4,5,6,7,8,9,10,11,12,13,14,15,16,17,18,19,20,21,22,23,24,25,26,27,28,29,30,31,32],[0,1,2,3,4,5,6,7,8,9,10,11,12,13,14,15,16,17,18,19,20,21,22,23,24,25,26,27,28,29,30,31,32,33],[0,1,2,3,4,5,6,7,8,9,10,11,12,13,14,15,16,17,18,19,20,21,22,23,24,25,26,27,28,29,30,31,32,33,34],[0,1,2,3,4,5,6,7,8,9,10,11,12,13,14,15,16,17,18,19,20,21,22,23,24,25,26,27,28,29,30,31,32,33,34,35]] 32 [Nn 0,Nn 1,Nn 2,Nn 3,Nn 4,Nn 5,Nn 6,Nn 7,Nn 8,Nn 9,Nn 10,Nn 11,Nn 12,Nn 13,Nn 14,Nn 15,Nn 16,Nn 17,Nn 18,Nn 19,Nn 20,Nn 21,Nn 22,Nn 23,Nn 24,Nn 25,Nn 26,Nn 27,Nn 28,Nn 29,Nn 30,Nn 31] ?_
    refine Da ?_
    refine Ae ?_
    repeat first|refine R1 ?_|refine R2 fun _=>?_
    refine sf_T rfl ?_
    repeat first|refine R1 ?_|refine R2 fun _=>?_
    exact sf_ret (rV (by rw [hG (by rw [hpo]; simp [h2])]))
   ·by_cases h3:((gt k.parts i).lights.length:Int) > 0
    ·refine Sd [[],[0],[0,1],[0,1,2],[0,1,2,3],[0,1,2,3,4],[0,1,2,3,4,5],[0,1,2,3,4,5,6],[0,1,2,3,4,5,6,7],[0,1,2,3,4,5,6,7,8],[0,1,2,3,4,5,6,7,8,9],[0,1,2,3,4,5,6,7,8,9,10],[0,1,2,3,4,5,6,7,8,9,10,11],[0,1,2,3,4,5,6,7,8,9,10,11,12],[0,1,2,3,4,5,6,7,8,9,10,11,12,13],[0,1,2,3,4,5,6,7,8,9,10,11,12,13,14],[0,1,2,3,4,5,6,7,8,9,10,11,12,13,14,15],[0,1,2,3,4,5,6,7,8,9,10,11,12,13,14,15,16],[0,1,2,3,4,5,6,7,8,9,10,11,12,13,14,15,16,17],[0,1,2,3,4,5,6,7,8,9,10,11,12,13,14,15,16,17,18],[0,1,2,3,4,5,6,7,8,9,10,11,12,13,14,15,16,17],[0,1,2,3,4,5,6,7,8,9,10,11,12,13,14,15,16,17,18,19,20],[0,1,2,3,4,5,6,7,8,9,10,11,12,13,14,15,16,17,18,19,20,21],[0,1,2,3,4,5,6,7,8,9,10,11,12,13,14,15,16,17,18,19,20,21,22],[0,1,2,3,4,5,6,7,8,9,10,11,12,13,14,15,16,17,18,19,20,21,22,23],[0,1,2,3,4,5,6,7,8,9,10,11,12,13,14,15,16,17,18,19,20,21,22,23,24],[0,1,2,3,4,5,6,7,8,9,10,11,12,13,14,15,16,17,18,19,20,21,22,23],[0,1,2,3,4,5,6,7,8,9,10,11,12,13,14,15,16,17,18,19,20,21,22,23],[0,1,2,3,4,5,6,7,8,9,10,11,12,13,14,15,16,17,18,19,20,21,22,23,27],[0,1,2,3,4,5,6,7,8,9,10,11,12,13,14,15,16,17,18,19,20,21,22,23],[0,1,2,3,4,5,6,7,8,9,10,11,12,13,14,15,16,17,18,19,20,21,22,23,29],[0,1,2,3,4,5,6,7,8,9,10,11,12,13,14,15,16,17,18,19,20,21,22,23,26,27,28,29,30],[0,1,2,3,4,5,6,7,8,9,10,11,12,13,14,15,16,17,18,19,20,21,22,23,24,25,26,27,28,29,30,31],[0,1,2,3,4,5,6,7,8,9,10,11,12,13,14,15,16,17,18,19,20,21,22,23,24,25,26,27,28,29,30,31,32],[0,1,2,3,4,5,6,7,8,9,10,11,12,13,14,15,16,17,18,19,20,21,22,23,24,25,26,27,28,29,30,31,32,33],[0,1,2,3,4,5,6,7,8,9,10,11,12,13,14,15,16,17,18,19,20,21,22,23,24,25,26,27,28,29,30,31,32,33,34],[0,1,2,3,4,5,6,7,8,9,10,11,12,13,14,15,16,17,18,19,20,21,22,23,24,25,26,27,28,29,30,31,32,33,34,35]] 32 [Nn 0,Nn 1,Nn 2,Nn 3,Nn 4,Nn 5,Nn 6,Nn 7,Nn 8,Nn 9,Nn 10,Nn 11,Nn 12,Nn 13,Nn 14,Nn 15,Nn 16,Nn 17,Nn 18,Nn 19,Nn 20,Nn 21,Nn 22,Nn 23,Nn 24,Nn 25,Nn 26,Nn 27,Nn 28,Nn 29,Nn 30,Nn 31] ?_
     refine Da ?_
     refine Ae ?_
     repeat first|refine R1 ?_|refine R2 fun _=>?_
     refine sf_T rfl ?_
     repeat first|refine R1 ?_|refine R2 fun _=>?_
     exact sf_ret (rV (by rw [hG (by rw [hpo,decide_eq_false (p:=(gt k.parts i).lights.length = 0) (by omega)]; simp)]))
    ·refine Sd [[],[0],[0,1],[0,1,2],[0,1,2,3],[0,1,2,3,4],[0,1,2,3,4,5],[0,1,2,3,4,5,6],[0,1,2,3,4,5,6,7],[0,1,2,3,4,5,6,7,8],[0,1,2,3,4,5,6,7,8,9],[0,1,2,3,4,5,6,7,8,9,10],[0,1,2,3,4,5,6,7,8,9,10,11],[0,1,2,3,4,5,6,7,8,9,10,11,12],[0,1,2,3,4,5,6,7,8,9,10,11,12,13],[0,1,2,3,4,5,6,7,8,9,10,11,12,13,14],[0,1,2,3,4,5,6,7,8,9,10,11,12,13,14,15],[0,1,2,3,4,5,6,7,8,9,10,11,12,13,14,15,16],[0,1,2,3,4,5,6,7,8,9,10,11,12,13,14,15,16,17],[0,1,2,3,4,5,6,7,8,9,10,11,12,13,14,15,16,17,18],[0,1,2,3,4,5,6,7,8,9,10,11,12,13,14,15,16,17],[0,1,2,3,4,5,6,7,8,9,10,11,12,13,14,15,16,17,18,19,20],[0,1,2,3,4,5,6,7,8,9,10,11,12,13,14,15,16,17,18,19,20,21],[0,1,2,3,4,5,6,7,8,9,10,11,12,13,14,15,16,17,18,19,20,21,22],[0,1,2,3,4,5,6,7,8,9,10,11,12,13,14,15,16,17,18,19,20,21,22,23],[0,1,2,3,4,5,6,7,8,9,10,11,12,13,14,15,16,17,18,19,20,21,22,23,24],[0,1,2,3,4,5,6,7,8,9,10,11,12,13,14,15,16,17,18,19,20,21,22,23],[0,1,2,3,4,5,6,7,8,9,10,11,12,13,14,15,16,17,18,19,20,21,22,23],[0,1,2,3,4,5,6,7,8,9,10,11,12,13,14,15,16,17,18,19,20,21,22,23,27],[0,1,2,3,4,5,6,7,8,9,10,11,12,13,14,15,16,17,18,19,20,21,22,23],[0,1,2,3,4,5,6,7,8,9,10,11,12,13,14,15,16,17,18,19,20,21,22,23,29],[0,1,2,3,4,5,6,7,8,9,10,11,12,13,14,15,16,17,18,19,20,21,22,23,26,27,28,29,30],[0,1,2,3,4,5,6,7,8,9,10,11,12,13,14,15,16,17,18,19,20,21,22,23,24,25,26,27,28,29,30,31],[0,1,2,3,4,5,6,7,8,9,10,11,12,13,14,15,16,17,18,19,20,21,22,23,24,25,26,27,28,29,30,31,32],[0,1,2,3,4,5,6,7,8,9,10,11,12,13,14,15,16,17,18,19,20,21,22,23,24,25,26,27,28,29,30,31,32,33],[0,1,2,3,4,5,6,7,8,9,10,11,12,13,14,15,16,17,18,19,20,21,22,23,24,25,26,27,28,29,30,31,32,33,34],[0,1,2,3,4,5,6,7,8,9,10,11,12,13,14,15,16,17,18,19,20,21,22,23,24,25,26,27,28,29,30,31,32,33,34,35]] 32 [Nn 0,Nn 1,Nn 2,Nn 3,Nn 4,Nn 5,Nn 6,Nn 7,Nn 8,Nn 9,Nn 10,Nn 11,Nn 12,Nn 13,Nn 14,Nn 15,Nn 16,Nn 17,Nn 18,Nn 19,Nn 20,Nn 21,Nn 22,Nn 23,Nn 24,Nn 25,Nn 26,Nn 27,Nn 28,Nn 29,Nn 30,Nn 31] ?_
     refine Da ?_
     refine Ae ?_
     repeat first|refine R1 ?_|refine R2 fun _=>?_
     refine sf_N rfl ?_
     repeat first|refine R1 ?_|refine R2 fun _=>?_
     exact ⟨i + 1,by omega,⟨rfl,trivial⟩,rfl,_,_,inferInstance,⟨by omega,by rw [hS,hpo,decide_eq_true (p:=(gt k.parts i).lights.length = 0) (by omega),decide_eq_true (p:=(gt k.parts i).ver = 0) (by omega)]; rfl⟩,rfl⟩
  | true=>
   rw [hh] at hpo
   simp only [if_true] at hpo
   have c21:∀ h,CallV Tryz.prog M 49 [.int .i64 (gt k.parts i).ver,.int .i64 0,.int .i64 k.edits.length] h (.bool (verOk k (gt k.parts i).ver)):=fun h=>l6In_v h _ _ _
   cases hv:verOk k (gt k.parts i).ver with
   | false=>
    rw [hv] at c21 hpo
    refine Sd [[],[0],[0,1],[0,1,2],[0,1,2,3],[0,1,2,3,4],[0,1,2,3,4,5],[0,1,2,3,4,5,6],[0,1,2,3,4,5,6,7],[0,1,2,3,4,5,6,7,8],[0,1,2,3,4,5,6,7,8,9],[0,1,2,3,4,5,6,7,8,9,10],[0,1,2,3,4,5,6,7,8,9,10,11],[0,1,2,3,4,5,6,7,8,9,10,11,12],[0,1,2,3,4,5,6,7,8,9,10,11,12,13],[0,1,2,3,4,5,6,7,8,9,10,11,12,13,14],[0,1,2,3,4,5,6,7,8,9,10,11,12,13,14,15],[0,1,2,3,4,5,6,7,8,9,10,11,12,13,14,15,16],[0,1,2,3,4,5,6,7,8,9,10,11,12,13,14,15,16,17],[0,1,2,3,4,5,6,7,8,9,10,11,12,13,14,15,16,17,18],[0,1,2,3,4,5,6,7,8,9,10,11,12,13,14,15,16,17],[0,1,2,3,4,5,6,7,8,9,10,11,12,13,14,15,16,17,18,19,20],[0,1,2,3,4,5,6,7,8,9,10,11,12,13,14,15,16,17,18,19,20,21],[0,1,2,3,4,5,6,7,8,9,10,11,12,13,14,15,16,17,18,19,20,21,22],[0,1,2,3,4,5,6,7,8,9,10,11,12,13,14,15,16,17,18,19,20,21,22,23],[0,1,2,3,4,5,6,7,8,9,10,11,12,13,14,15,16,17,18,19,20,21,22,23,24],[0,1,2,3,4,5,6,7,8,9,10,11,12,13,14,15,16,17,18,19,20,21,22,23],[0,1,2,3,4,5,6,7,8,9,10,11,12,13,14,15,16,17,18,19,20,21,22,23],[0,1,2,3,4,5,6,7,8,9,10,11,12,13,14,15,16,17,18,19,20,21,22,23,27],[0,1,2,3,4,5,6,7,8,9,10,11,12,13,14,15,16,17,18,19,20,21,22,23],[0,1,2,3,4,5,6,7,8,9,10,11,12,13,14,15,16,17,18,19,20,21,22,23,29],[0,1,2,3,4,5,6,7,8,9,10,11,12,13,14,15,16,17,18,19,20,21,22,23,26,27,28,29,30],[0,1,2,3,4,5,6,7,8,9,10,11,12,13,14,15,16,17,18,19,20,21,22,23,24,25,26,27,28,29,30,31],[0,1,2,3,4,5,6,7,8,9,10,11,12,13,14,15,16,17,18,19,20,21,22,23,24,25,26,27,28,29,30,31,32],[0,1,2,3,4,5,6,7,8,9,10,11,12,13,14,15,16,17,18,19,20,21,22,23,24,25,26,27,28,29,30,31,32,33],[0,1,2,3,4,5,6,7,8,9,10,11,12,13,14,15,16,17,18,19,20,21,22,23,24,25,26,27,28,29,30,31,32,33,34],[0,1,2,3,4,5,6,7,8,9,10,11,12,13,14,15,16,17,18,19,20,21,22,23,24,25,26,27,28,29,30,31,32,33,34,35]] 32 [Nn 0,Nn 1,Nn 2,Nn 3,Nn 4,Nn 5,Nn 6,Nn 7,Nn 8,Nn 9,Nn 10,Nn 11,Nn 12,Nn 13,Nn 14,Nn 15,Nn 16,Nn 17,Nn 18,Nn 19,Nn 20,Yy 21,Nn 22,Nn 23,Nn 24,Nn 25,Nn 26,Nn 27,Nn 28,Nn 29,Nn 30,Nn 31] ?_
    refine Da ?_
    refine Yv (c21 h) ?_
    refine Da ?_
    refine Ae ?_
    repeat first|refine R1 ?_|refine R2 fun _=>?_
    refine sf_T rfl ?_
    repeat first|refine R1 ?_|refine R2 fun _=>?_
    exact sf_ret (rV (by rw [hG (by rw [hpo]; rfl)]))
   | true=>
    rw [hv] at c21 hpo
    rw [Bool.true_and] at hpo
    refine Sd [[],[0],[0,1],[0,1,2],[0,1,2,3],[0,1,2,3,4],[0,1,2,3,4,5],[0,1,2,3,4,5,6],[0,1,2,3,4,5,6,7],[0,1,2,3,4,5,6,7,8],[0,1,2,3,4,5,6,7,8,9],[0,1,2,3,4,5,6,7,8,9,10],[0,1,2,3,4,5,6,7,8,9,10,11],[0,1,2,3,4,5,6,7,8,9,10,11,12],[0,1,2,3,4,5,6,7,8,9,10,11,12,13],[0,1,2,3,4,5,6,7,8,9,10,11,12,13,14],[0,1,2,3,4,5,6,7,8,9,10,11,12,13,14,15],[0,1,2,3,4,5,6,7,8,9,10,11,12,13,14,15,16],[0,1,2,3,4,5,6,7,8,9,10,11,12,13,14,15,16,17],[0,1,2,3,4,5,6,7,8,9,10,11,12,13,14,15,16,17,18],[0,1,2,3,4,5,6,7,8,9,10,11,12,13,14,15,16,17],[0,1,2,3,4,5,6,7,8,9,10,11,12,13,14,15,16,17,18,19,20],[0,1,2,3,4,5,6,7,8,9,10,11,12,13,14,15,16,17,18,19,20,21],[0,1,2,3,4,5,6,7,8,9,10,11,12,13,14,15,16,17,18,19,20,21,22],[0,1,2,3,4,5,6,7,8,9,10,11,12,13,14,15,16,17,18,19,20,21,22,23],[0,1,2,3,4,5,6,7,8,9,10,11,12,13,14,15,16,17,18,19,20,21,22,23,24],[0,1,2,3,4,5,6,7,8,9,10,11,12,13,14,15,16,17,18,19,20,21,22,23],[0,1,2,3,4,5,6,7,8,9,10,11,12,13,14,15,16,17,18,19,20,21,22,23],[0,1,2,3,4,5,6,7,8,9,10,11,12,13,14,15,16,17,18,19,20,21,22,23,27],[0,1,2,3,4,5,6,7,8,9,10,11,12,13,14,15,16,17,18,19,20,21,22,23],[0,1,2,3,4,5,6,7,8,9,10,11,12,13,14,15,16,17,18,19,20,21,22,23,29],[0,1,2,3,4,5,6,7,8,9,10,11,12,13,14,15,16,17,18,19,20,21,22,23,26,27,28,29,30],[0,1,2,3,4,5,6,7,8,9,10,11,12,13,14,15,16,17,18,19,20,21,22,23,24,25,26,27,28,29,30,31],[0,1,2,3,4,5,6,7,8,9,10,11,12,13,14,15,16,17,18,19,20,21,22,23,24,25,26,27,28,29,30,31,32],[0,1,2,3,4,5,6,7,8,9,10,11,12,13,14,15,16,17,18,19,20,21,22,23,24,25,26,27,28,29,30,31,32,33],[0,1,2,3,4,5,6,7,8,9,10,11,12,13,14,15,16,17,18,19,20,21,22,23,24,25,26,27,28,29,30,31,32,33,34],[0,1,2,3,4,5,6,7,8,9,10,11,12,13,14,15,16,17,18,19,20,21,22,23,24,25,26,27,28,29,30,31,32,33,34,35]] 32 [Nn 0,Nn 1,Nn 2,Nn 3,Nn 4,Nn 5,Nn 6,Nn 7,Nn 8,Nn 9,Nn 10,Nn 11,Nn 12,Nn 13,Nn 14,Nn 15,Nn 16,Nn 17,Nn 18,Nn 19,Nn 20,Yy 21,Nn 22,Nn 23,Nn 24,Nn 25,Nn 26,Nn 27,Nn 28,Nn 29,Nn 30,Yy 31] ?_
    refine Da ?_
    refine Yv (c21 h) ?_
    refine Da ?_
    refine Yc (l22Own_f h _ k b0 hk (i + 1) (by omega) (by omega) (gt k.parts i).ver hv) ?_
    intro v2 A2 g2
    have o6:=g2.one
    refine Da ?_
    refine Ae ?_
    refine fp (y_lendV A2 (fun h' l' inb=>l13Same_v h' _ _ _ _ (sl.le l'.le) (g2.lent (by have:=partLights_le hk (i + 1) (gt k.parts i).ver; omega) inb)) (by rfl) ?_)
    repeat first|refine R1 ?_|refine R2 fun _=>?_
    refine sf_cond (by rfl) (fun h5=>?_) fun h5=>?_
    ·simp only [Bool.not_eq_true'] at h5
     repeat first|refine R1 ?_|refine R2 fun _=>?_
     exact sf_ret (rV (by rw [hG (by rw [hpo,h5])]))
    ·simp only [Bool.not_eq_false'] at h5
     repeat first|refine R1 ?_|refine R2 fun _=>?_
     exact ⟨i + 1,by omega,⟨rfl,trivial⟩,rfl,[(b1,.cells #[.int .i64 k.first.wide,c,ed,p,s] 30)],_,inferInstance,⟨by omega,by rw [hS,hpo,h5]⟩,rfl⟩
 ·refine sf_exit ?_
  have hpo:partsOk k k.parts.length = true:=by rw [show k.parts.length = i by omega]; exact hpi
  clear hpi hi e1
  repeat first|refine R1 ?_|refine R2 fun _=>?_
  refine sf_lp (ι:=Nat) [1,3] (fun i=>[(6,.int .i64 (i:Int))]) (fun i O=>(i ≤ rs.length∧shownsOk k i = true)∧O = [(b1,.cells #[.int .i64 k.first.wide,c,ed,p,s] 30)]) (fun i=>rs.length - i) 0 [(b1,.cells #[.int .i64 k.first.wide,c,ed,p,s] 30)] ⟨⟨by omega,rfl⟩,rfl⟩ ?_
  rintro j O ⟨⟨hi,hpi⟩,rfl⟩
  repeat first|refine R1 ?_|refine R2 fun _=>?_
  refine sf_if (fun e2=>?_) fun e2=>?_
  ·have hi1:j < k.shown.length:=by omega
   have hi2:j < rs.length:=by omega
   obtain ⟨l,ex,sl⟩:=shownB (bs.at hi1)
   have ol:=sl.one
   have hsl:=sl.small
   haveI:FlatV (rawF (shownR τ).sz) (gt rs j) [.int .i64 (gt k.shown j).ver,l]:=⟨ex⟩
   have hG:shownOk k j = false→keepOk k = false:=fun e=>hF (by rw [shownsOk_F hi1 e]; simp)
   have hS:shownsOk k (j + 1) = shownOk k j:=by rw [shownsOk_step,hpi,Bool.true_and]
   have c3:∀ h,CallV Tryz.prog M 49 [.int .i64 (gt k.shown j).ver,.int .i64 0,.int .i64 k.edits.length] h (.bool (verOk k (gt k.shown j).ver)):=fun h=>l6In_v h _ _ _
   repeat first|refine R1 ?_|refine R2 fun _=>?_
   refine sf_keep [1,3,6,7] ?_
   cases hv:verOk k (gt k.shown j).ver with
   | false=>
    rw [hv] at c3
    refine Sd [[],[0],[],[0,1,2],[0,1,2,3],[0,1,2,3,4],[0,1,2,3,4,5],[0,1,2,3,4,5,6],[0,1,2,3,4,5,6,7],[0,1,2,3,4,5,6,7,8],[0,1,2,3,4,5,6,7,8,9],[0,1,2,3,4,5,6,7,8],[0,1,2,3,4,5,6,7,8,11],[0,1,2,3,4,5,6,7,8,9,10,11,12],[0,1,2,3,4,5,6,7,8,9,10,11,12,13],[0,1,2,3,4,5,6,7,8,9,10,11,12,13,14],[0,1,2,3,4,5,6,7,8],[0,1,2,3,4,5,6,7,8,16],[0,1,2,3,4,5,6,7,8,9,10,11,12,13,14,15,16,17],[0,1,2,3,4,5,6,7,8,9,10,11,12,13,14,15,16,17,18],[0,1,2,3,4,5,6,7,8,9,10,11,12,13,14,15,16,17,18,19],[0,1,2,3,4,5,6,7,8,9,10,11,12,13,14,15,16,17,18,19,20],[0,1,2,3,4,5,6,7,8,9,10,11,12,13,14,15,16,17,18,19,20,21],[0,1,2,3,4,5,6,7,8,9,10,11,12,13,14,15,16,17,18,19,20,21,22],[0,1,2,3,4,5,6,7,8,9,10,11,12,13,14,15,16,17,18,19,20,21],[0,1,2,3,4,5,6,7,8,9,10,11,12,13,14,15,16,17,18,19,20,21],[0,1,2,3,4,5,6,7,8,9,10,11,12,13,14,15,16,17,18,19,20,21,25],[0,1,2,3,4,5,6,7,8,9,10,11,12,13,14,15,16,17,18,19,20,21,24,25,26],[0,1,2,3,4,5,6,7,8,9,10,11,12,13,14,15,16,17,18,19,20,21,24,25,26,27],[0,1,2,3,4,5,6,7,8,9,10,11,12,13,14,15,16,17,18,19,20,21,22,23,24,25,26,27,28],[0,1,2,3,4,5,6,7,8,9,10,11,12,13,14,15,16,17,18,19,20,21,22,23,24,25,26,27,28,29],[0,1,2,3,4,5,6,7,8,9,10,11,12,13,14,15,16,17,18,19,20,21,22,23,24,25,26,27,28,29,30]] 29 [Nn 0,Nn 1,Nn 2,Yy 3,Nn 4,Nn 5,Nn 6,Nn 7,Nn 8,Nn 9,Nn 10,Nn 11,Nn 12,Nn 13,Nn 14,Nn 15,Nn 16,Nn 17,Nn 18,Nn 19,Nn 20,Nn 21,Nn 22,Nn 23,Nn 24,Nn 25,Nn 26,Nn 27,Nn 28] ?_
    refine Da ?_
    refine Yv (c3 h) ?_
    refine Da ?_
    refine Ae ?_
    repeat first|refine R1 ?_|refine R2 fun _=>?_
    refine sf_T rfl ?_
    repeat first|refine R1 ?_|refine R2 fun _=>?_
    exact sf_ret (rV (by rw [hG (by rw [shownOk,hv]; rfl)]))
   | true=>
    rw [hv] at c3
    have hv':=hv
    simp only [verOk,Bool.and_eq_true,decide_eq_true_eq] at hv'
    have gok':=gridAt_ok hk.grid hk.edits (gt k.shown j).ver
    rcases Nat.eq_zero_or_pos j with rfl | hj0
    ·have hpv:prevVer k 0 < (gt k.shown 0).ver:=by simp only [prevVer,if_true]; omega
     have hn0:¬ (((0:Nat):Int) > 0):=by omega
     refine Sd [[],[0],[],[0,1,2],[0,1,2,3],[0,1,2,3,4],[0,1,2,3,4,5],[0,1,2,3,4,5,6],[0,1,2,3,4,5,6,7],[0,1,2,3,4,5,6,7,8],[0,1,2,3,4,5,6,7,8,9],[0,1,2,3,4,5,6,7,8],[0,1,2,3,4,5,6,7,8,11],[0,1,2,3,4,5,6,7,8,9,10,11,12],[0,1,2,3,4,5,6,7,8,9,10,11,12,13],[0,1,2,3,4,5,6,7,8,9,10,11,12,13,14],[0,1,2,3,4,5,6,7,8],[0,1,2,3,4,5,6,7,8,16],[0,1,2,3,4,5,6,7,8,9,10,11,12,13,14,15,16,17],[0,1,2,3,4,5,6,7,8,9,10,11,12,13,14,15,16,17,18],[0,1,2,3,4,5,6,7,8,9,10,11,12,13,14,15,16,17,18,19],[0,1,2,3,4,5,6,7,8,9,10,11,12,13,14,15,16,17,18,19,20],[0,1,2,3,4,5,6,7,8,9,10,11,12,13,14,15,16,17,18,19,20,21],[0,1,2,3,4,5,6,7,8,9,10,11,12,13,14,15,16,17,18,19,20,21,22],[0,1,2,3,4,5,6,7,8,9,10,11,12,13,14,15,16,17,18,19,20,21],[0,1,2,3,4,5,6,7,8,9,10,11,12,13,14,15,16,17,18,19,20,21],[0,1,2,3,4,5,6,7,8,9,10,11,12,13,14,15,16,17,18,19,20,21,25],[0,1,2,3,4,5,6,7,8,9,10,11,12,13,14,15,16,17,18,19,20,21,24,25,26],[0,1,2,3,4,5,6,7,8,9,10,11,12,13,14,15,16,17,18,19,20,21,24,25,26,27],[0,1,2,3,4,5,6,7,8,9,10,11,12,13,14,15,16,17,18,19,20,21,22,23,24,25,26,27,28],[0,1,2,3,4,5,6,7,8,9,10,11,12,13,14,15,16,17,18,19,20,21,22,23,24,25,26,27,28,29],[0,1,2,3,4,5,6,7,8,9,10,11,12,13,14,15,16,17,18,19,20,21,22,23,24,25,26,27,28,29,30]] 29 [Nn 0,Nn 1,Nn 2,Yy 3,Nn 4,Nn 5,Nn 6,Nn 7,Nn 8,Nn 9,Nn 10,Nn 11,Nn 12,Nn 13,Nn 14,Nn 15,Nn 16,Nn 17,Nn 18,Nn 19,Nn 20,Nn 21,Nn 22,Nn 23,Nn 24,Nn 25,Nn 26,Yy 27,Yy 28] ?_
     refine Da ?_
     refine Yv (c3 h) ?_
     refine Da ?_
     refine Yc (l22Grid_f h _ k b0 hk (gt k.shown 0).ver hv) ?_
     rintro _ A1 ⟨cs,rfl,q⟩
     obtain ⟨c2,rfl,g1,l1⟩:=gridO q
     have o5:=g1.one
     refine Yc (lendF A1 fun h' _ inb=>l12Pic_f h' c2 _ (g1.lent (by omega) inb) (gok gok')) ?_
     rintro v2 _ ⟨A2,rfl,g2⟩
     have o6:=g2.one
     refine Da ?_
     refine Ae ?_
     refine fp (y_lendV A2 (fun h' l' inb=>l13Same_v h' _ _ _ _ (sl.le l'.le) (g2.lent (by rw [picOf_len]; have:=(gok gok').many; omega) inb)) (by rfl) ?_)
     repeat first|refine R1 ?_|refine R2 fun _=>?_
     refine sf_cond (by rfl) (fun h5=>?_) fun h5=>?_
     ·simp only [Bool.not_eq_true'] at h5
      repeat first|refine R1 ?_|refine R2 fun _=>?_
      exact sf_ret (rV (by rw [hG (by rw [shownOk,hv,h5]; simp)]))
     ·simp only [Bool.not_eq_false'] at h5
      repeat first|refine R1 ?_|refine R2 fun _=>?_
      exact ⟨0 + 1,by omega,⟨rfl,trivial⟩,rfl,[(b1,.cells #[.int .i64 k.first.wide,c,ed,p,s] 30)],_,inferInstance,⟨by omega,by rw [hS,shownOk,hv,h5,decide_eq_true hpv]; rfl⟩,rfl⟩
    ·have hn1:(j:Int) > 0:=by omega
     have hpe:prevVer k j = (gt k.shown (j - 1)).ver:=by rw [prevVer,if_neg (by omega)]
     obtain ⟨l2,ex2,sl2⟩:=shownB (bs.at (show j - 1 < k.shown.length by omega))
     have ej:((j:Int) - 1).toNat = j - 1:=by omega
     haveI:FlatV (rawF (shownR τ).sz) (gt rs (j - 1)) [.int .i64 (gt k.shown (j - 1)).ver,l2]:=⟨ex2⟩
     have ej2:(j:Int) - 1 = ((j - 1:Nat):Int):=by omega
     by_cases hpv:prevVer k j < (gt k.shown j).ver
     ·have hn2:¬ ((gt k.shown (j - 1)).ver ≥ (gt k.shown j).ver):=by omega
      refine Sd [[],[0],[],[0,1,2],[0,1,2,3],[0,1,2,3,4],[0,1,2,3,4,5],[0,1,2,3,4,5,6],[0,1,2,3,4,5,6,7],[0,1,2,3,4,5,6,7,8],[0,1,2,3,4,5,6,7,8,9],[0,1,2,3,4,5,6,7,8],[0,1,2,3,4,5,6,7,8,11],[0,1,2,3,4,5,6,7,8,9,10,11,12],[0,1,2,3,4,5,6,7,8,9,10,11,12,13],[0,1,2,3,4,5,6,7,8,9,10,11,12,13,14],[0,1,2,3,4,5,6,7,8],[0,1,2,3,4,5,6,7,8,16],[0,1,2,3,4,5,6,7,8,9,10,11,12,13,14,15,16,17],[0,1,2,3,4,5,6,7,8,9,10,11,12,13,14,15,16,17,18],[0,1,2,3,4,5,6,7,8,9,10,11,12,13,14,15,16,17,18,19],[0,1,2,3,4,5,6,7,8,9,10,11,12,13,14,15,16,17,18,19,20],[0,1,2,3,4,5,6,7,8,9,10,11,12,13,14,15,16,17,18,19,20,21],[0,1,2,3,4,5,6,7,8,9,10,11,12,13,14,15,16,17,18,19,20,21,22],[0,1,2,3,4,5,6,7,8,9,10,11,12,13,14,15,16,17,18,19,20,21],[0,1,2,3,4,5,6,7,8,9,10,11,12,13,14,15,16,17,18,19,20,21],[0,1,2,3,4,5,6,7,8,9,10,11,12,13,14,15,16,17,18,19,20,21,25],[0,1,2,3,4,5,6,7,8,9,10,11,12,13,14,15,16,17,18,19,20,21,24,25,26],[0,1,2,3,4,5,6,7,8,9,10,11,12,13,14,15,16,17,18,19,20,21,24,25,26,27],[0,1,2,3,4,5,6,7,8,9,10,11,12,13,14,15,16,17,18,19,20,21,22,23,24,25,26,27,28],[0,1,2,3,4,5,6,7,8,9,10,11,12,13,14,15,16,17,18,19,20,21,22,23,24,25,26,27,28,29],[0,1,2,3,4,5,6,7,8,9,10,11,12,13,14,15,16,17,18,19,20,21,22,23,24,25,26,27,28,29,30]] 29 [Nn 0,Nn 1,Nn 2,Yy 3,Nn 4,Nn 5,Nn 6,Nn 7,Nn 8,Nn 9,Nn 10,Nn 11,Nn 12,Nn 13,Nn 14,Nn 15,Nn 16,Nn 17,Nn 18,Nn 19,Nn 20,Nn 21,Nn 22,Nn 23,Nn 24,Nn 25,Nn 26,Yy 27,Yy 28] ?_
      refine Da ?_
      refine Yv (c3 h) ?_
      iterate 9 (refine Da1 ?_)
      rw [ej2]
      refine Da ?_
      refine a_call (l22Grid_f h _ k b0 hk (gt k.shown j).ver hv) (by rfl) (by rfl) (.inr ⟨_,_,_,_,rfl,by rfl,by rfl,decide_eq_false hn2⟩) ?_
      rintro _ A1 ⟨cs,rfl,q⟩
      obtain ⟨c2,rfl,g1,l1⟩:=gridO q
      have o5:=g1.one
      refine a_call (lendF A1 fun h' _ inb=>l12Pic_f h' c2 _ (g1.lent (by omega) inb) (gok gok')) (by rfl) (by rfl) (.inr ⟨_,_,_,_,rfl,by rfl,by rfl,decide_eq_false hn2⟩) ?_
      rintro v2 _ ⟨A2,rfl,g2⟩
      have o6:=g2.one
      refine Da ?_
      refine Ae ?_
      refine fp (y_lendV A2 (fun h' l' inb=>l13Same_v h' _ _ _ _ (sl.le l'.le) (g2.lent (by rw [picOf_len]; have:=(gok gok').many; omega) inb)) (by rfl) ?_)
      repeat first|refine R1 ?_|refine R2 fun _=>?_
      refine sf_cond (by rfl) (fun h5=>?_) fun h5=>?_
      ·simp only [Bool.not_eq_true'] at h5
       repeat first|refine R1 ?_|refine R2 fun _=>?_
       exact sf_ret (rV (by rw [hG (by rw [shownOk,hv,h5]; simp)]))
      ·simp only [Bool.not_eq_false'] at h5
       repeat first|refine R1 ?_|refine R2 fun _=>?_
       exact ⟨j + 1,by omega,⟨rfl,trivial⟩,rfl,[(b1,.cells #[.int .i64 k.first.wide,c,ed,p,s] 30)],_,inferInstance,⟨by omega,by rw [hS,shownOk,hv,h5,decide_eq_true hpv]; rfl⟩,rfl⟩
     ·have hn2:(gt k.shown (j - 1)).ver ≥ (gt k.shown j).ver:=by omega
      refine Sd [[],[0],[],[0,1,2],[0,1,2,3],[0,1,2,3,4],[0,1,2,3,4,5],[0,1,2,3,4,5,6],[0,1,2,3,4,5,6,7],[0,1,2,3,4,5,6,7,8],[0,1,2,3,4,5,6,7,8,9],[0,1,2,3,4,5,6,7,8],[0,1,2,3,4,5,6,7,8,11],[0,1,2,3,4,5,6,7,8,9,10,11,12],[0,1,2,3,4,5,6,7,8,9,10,11,12,13],[0,1,2,3,4,5,6,7,8,9,10,11,12,13,14],[0,1,2,3,4,5,6,7,8],[0,1,2,3,4,5,6,7,8,16],[0,1,2,3,4,5,6,7,8,9,10,11,12,13,14,15,16,17],[0,1,2,3,4,5,6,7,8,9,10,11,12,13,14,15,16,17,18],[0,1,2,3,4,5,6,7,8,9,10,11,12,13,14,15,16,17,18,19],[0,1,2,3,4,5,6,7,8,9,10,11,12,13,14,15,16,17,18,19,20],[0,1,2,3,4,5,6,7,8,9,10,11,12,13,14,15,16,17,18,19,20,21],[0,1,2,3,4,5,6,7,8,9,10,11,12,13,14,15,16,17,18,19,20,21,22],[0,1,2,3,4,5,6,7,8,9,10,11,12,13,14,15,16,17,18,19,20,21],[0,1,2,3,4,5,6,7,8,9,10,11,12,13,14,15,16,17,18,19,20,21],[0,1,2,3,4,5,6,7,8,9,10,11,12,13,14,15,16,17,18,19,20,21,25],[0,1,2,3,4,5,6,7,8,9,10,11,12,13,14,15,16,17,18,19,20,21,24,25,26],[0,1,2,3,4,5,6,7,8,9,10,11,12,13,14,15,16,17,18,19,20,21,24,25,26,27],[0,1,2,3,4,5,6,7,8,9,10,11,12,13,14,15,16,17,18,19,20,21,22,23,24,25,26,27,28],[0,1,2,3,4,5,6,7,8,9,10,11,12,13,14,15,16,17,18,19,20,21,22,23,24,25,26,27,28,29],[0,1,2,3,4,5,6,7,8,9,10,11,12,13,14,15,16,17,18,19,20,21,22,23,24,25,26,27,28,29,30]] 29 [Nn 0,Nn 1,Nn 2,Yy 3,Nn 4,Nn 5,Nn 6,Nn 7,Nn 8,Nn 9,Nn 10,Nn 11,Nn 12,Nn 13,Nn 14,Nn 15,Nn 16,Nn 17,Nn 18,Nn 19,Nn 20,Nn 21,Nn 22,Nn 23,Nn 24,Nn 25,Nn 26,Nn 27,Nn 28] ?_
      refine Da ?_
      refine Yv (c3 h) ?_
      iterate 9 (refine Da1 ?_)
      rw [ej2]
      refine Da ?_
      refine Ae ?_
      repeat first|refine R1 ?_|refine R2 fun _=>?_
      refine sf_T rfl ?_
      repeat first|refine R1 ?_|refine R2 fun _=>?_
      exact sf_ret (rV (by rw [hG (by rw [shownOk,hv,decide_eq_false hpv]; rfl)]))
  ·refine sf_exit ?_
   repeat first|refine R1 ?_|refine R2 fun _=>?_
   exact sf_ret (rV (by rw [hF (b:=true) (by rw [hpo,show k.shown.length = j by omega,hpi]; rfl)]))
structure Later (G:Prop):Prop where
 get:G
theorem viaL {A G:Prop} (h:Later G→A) (t:G):A:=h ⟨t⟩
theorem l22Show_f (h : PHeap) (c ed p sv : Value) (k : Keeper) (A4 : Own) (s1 : Sl h c cellF k.first.cells) (o2 : Sl.One ed) (s3 : SlR (partR τ) h p k.parts) (g4 : GrR (shownR τ) A4 sv 37 k.shown) (kg : gridOk k.first = true) (n1 : 1 ≤ k.parts.length) (n3 : k.parts.length ≤ 3)
  (pl:∀ i,i < k.parts.length→(gt k.parts i).has = true→(gt k.parts i).lights.length = ownCnt (manyOf k.first).toNat k.parts.length (i + 1)) (hsh:k.shown.length ≤ 1048576):CallF Tryz.prog M 107 [.agg #[.int .i64 k.first.wide,c,ed,p,sv]] A4 h fun u A'=>∃ s',u = .agg #[.int .i64 k.first.wide,c,ed,p,s']∧GrR (shownR τ) A' s' 37 (published k).shown:=by
 have g40:=g4
 have o1:=s1.one
 have o3:=s3.one
 have o4:=g4.one
 obtain ⟨rp,sp,bp⟩:=s3
 have lp:=bp.len
 have hsm:=sp.small
 obtain ⟨B0,B1,rfl,rs,gs,oa,hs4⟩:=g4
 have ls:=oa.len
 have hm:=(gok kg).many
 obtain ⟨S,hS⟩:∃ S:Nat,manyOf k.first = S:=⟨(manyOf k.first).toNat,by omega⟩
 have hSn:(manyOf k.first).toNat = S:=by rw [hS]; rfl
 rw [hS] at hm
 simp only [hSn] at pl
 obtain ⟨l0,ex0,sl0⟩:=partB (bp.at n1)
 have ol0:=sl0.one
 haveI i0:FlatV (rawF (partR τ).sz) (gt rp 0) [.bool (gt k.parts 0).has,.int .i64 (gt k.parts 0).ver,l0]:=⟨ex0⟩
 have hrp:0 < rp.length:=by omega
 have hNo:partsSame k k.parts.length = false ∨ shownNewer k = false→(published k).shown = k.shown:=fun x=>by
  unfold published
  rcases x with x | x <;> simp [x]
 refine Cs Tryz.func107 Tryz.ntmps107 ?_
 repeat first|refine R1 ?_|refine R2 fun _=>?_
 rename_i b1 b2
 refine sf_lp (ι:=Nat) [1,2,3] (fun i=>[(4,.int .i64 (i:Int))]) (fun i O=>i ≤ k.parts.length∧partsSame k i = true∧O = (B0++(B1++[(b2,.cells #[.int .i64 0,.slice none 0 0,.slice none 0 0,.slice none 0 0,.slice none 0 0] 30),(b1,.cells #[.int .i64 k.first.wide,c,ed,p,sv] 30)]))) (fun i=>k.parts.length - i) 0 (B0++(B1++[(b2,.cells #[.int .i64 0,.slice none 0 0,.slice none 0 0,.slice none 0 0,.slice none 0 0] 30),(b1,.cells #[.int .i64 k.first.wide,c,ed,p,sv] 30)])) ⟨by omega,rfl,rfl⟩ ?_
 rintro i O ⟨hi,hpi,rfl⟩
 repeat first|refine R1 ?_|refine R2 fun _=>?_
 refine sf_if (fun h4=>?_) fun h4=>?_
 ·have hi4:i < k.parts.length:=by omega
  have hi5:i < rp.length:=by omega
  obtain ⟨l,ex,sl⟩:=partB (bp.at hi4)
  have ol:=sl.one
  haveI:FlatV (rawF (partR τ).sz) (gt rp i) [.bool (gt k.parts i).has,.int .i64 (gt k.parts i).ver,l]:=⟨ex⟩
  have hret:((gt k.parts i).has && decide ((gt k.parts i).ver = (gt k.parts 0).ver)) = false→(published k).shown = k.shown:=fun x=>hNo (.inl (partsSame_F hi4 x))
  repeat first|refine R1 ?_|refine R2 fun _=>?_
  refine f_splitB (fun e0=>?_) fun e0=>?_
  ·have e:=e0
   simp only [Bool.not_eq_true'] at e
   repeat first|refine R1 ?_|refine R2 fun _=>?_
   refine sf_T rfl ?_
   repeat first|refine R1 ?_|refine R2 fun _=>?_
   exact sf_ret (rO (B0++B1) ⟨sv,rfl,by rw [hret (by rw [e]; rfl)]; exact g40⟩)
  have e:=e0
  simp only [Bool.not_eq_false'] at e
  repeat first|refine R1 ?_|refine R2 fun _=>?_
  refine sf_if (fun h6=>?_) fun h6=>?_
  ·repeat first|refine R1 ?_|refine R2 fun _=>?_
   exact sf_ret (rO (B0++B1) ⟨sv,rfl,by rw [hret (by rw [e,decide_eq_false h6]; rfl)]; exact g40⟩)
  repeat first|refine R1 ?_|refine R2 fun _=>?_
  refine ⟨i + 1,by omega,⟨rfl,trivial⟩,rfl,(B0++(B1++[(b2,.cells #[.int .i64 0,.slice none 0 0,.slice none 0 0,.slice none 0 0,.slice none 0 0] 30),(b1,.cells #[.int .i64 k.first.wide,c,ed,p,sv] 30)])),_,inferInstance,by omega,?_,rfl⟩
  rw [partsSame_step,hpi,e]
  simpa using h6
 ·refine sf_exit ?_
  obtain rfl:i = k.parts.length:=by omega
  have hall:∀ j,j < k.parts.length→(gt k.parts j).has = true:=fun j hj=>by
   have:=List.all_eq_true.1 hpi j (List.mem_range.2 hj)
   simp only [Bool.and_eq_true] at this
   exact this.1
  have hYes:shownNewer k = true→(published k).shown = k.shown++[⟨(gt k.parts 0).ver,pubPic k⟩]:=fun x=>by
   unfold published
   rw [hpi,x]; rfl
  repeat first|refine R1 ?_|refine R2 fun _=>?_
  apply viaL
  ·intro tail
   by_cases h0:k.shown.length = 0
   ·refine f_split (fun h8=>?_) fun h8=>?_
    ·omega
    repeat first|refine R1 ?_|refine R2 fun _=>?_
    refine sf_N (by first|rfl | (simp; omega)) ?_
    refine R1 ?_
    refine sf_keep [1,2,3] ?_
    refine sf_own (B0++(B1++[(b2,.cells #[.int .i64 0,.slice none 0 0,.slice none 0 0,.slice none 0 0,.slice none 0 0] 30),(b1,.cells #[.int .i64 k.first.wide,c,ed,p,sv] 30)])) ?_
    have hn:shownNewer k = true:=by simp [shownNewer,h0]
    revert hn
    exact tail.get
   ·obtain ⟨m,hm'⟩:∃ m:Nat,k.shown.length = m + 1:=⟨k.shown.length - 1,by omega⟩
    have hrm:rs.length = m + 1:=by omega
    obtain ⟨_,_,_,-,qk,-⟩:=oa.at (k:=m) (by omega)
    obtain ⟨lm,exm,gm⟩:=shownO qk
    have olm:Sl.One lm:=by first|exact gm.1.one | exact gm.one
    have hix:((rs.length:Int) - 1) = (m:Int):=by omega
    have hm5:m < rs.length:=by omega
    haveI:FlatV (rawF (shownR τ).sz) (gt rs m) [.int .i64 (gt k.shown m).ver,lm]:=⟨exm⟩
    have hnw:shownNewer k = decide ((gt k.shown m).ver < (gt k.parts 0).ver):=by
     rw [shownNewer,hm',Nat.add_sub_cancel]; simp
    refine f_split (fun h8=>?_) fun h8=>?_
    ·repeat first|refine R1 ?_|refine R2 fun _=>?_
     simp only [hix]
     repeat first|refine R1 ?_|refine R2 fun _=>?_
     refine sf_if (fun h9=>?_) fun h9=>?_
     ·rw [hNo (.inr (by rw [hnw]; simp; omega))]
      repeat first|refine R1 ?_|refine R2 fun _=>?_
      exact sf_ret (rO (B0++B1) ⟨sv,rfl,g40⟩)
     ·refine R1 ?_
      refine sf_keep [1,2,3] ?_
      refine sf_own (B0++(B1++[(b2,.cells #[.int .i64 0,.slice none 0 0,.slice none 0 0,.slice none 0 0,.slice none 0 0] 30),(b1,.cells #[.int .i64 k.first.wide,c,ed,p,sv] 30)])) ?_
      have hn:shownNewer k = true:=by rw [hnw]; simp; omega
      revert hn
      exact tail.get
    ·omega
  intro hn
  rw [hYes hn]
  repeat first|refine R1 ?_|refine R2 fun _=>?_
  refine Xb fun w A0 g0=>?_
  have ow:=g0.one
  repeat first|refine R1 ?_|refine R2 fun _=>?_
  refine sf_lp (ι:=Nat × Value) [1,2,3] (fun x=>[(6,.int .i64 (x.1:Int)),(5,x.2)]) (fun x O=>x.1 ≤ S∧∃ A',O = A'++(B0++(B1++[(b2,.cells #[.int .i64 0,.slice none 0 0,.slice none 0 0,.slice none 0 0,.slice none 0 0] 30),(b1,.cells #[.int .i64 k.first.wide,c,ed,p,sv] 30)]))∧Gr A' x.2 3 intF ((List.range x.1).map fun s=>gt (gt k.parts (s % k.parts.length)).lights (s / k.parts.length))) (fun x=>S - x.1) (0,w) (A0++(B0++(B1++[(b2,.cells #[.int .i64 0,.slice none 0 0,.slice none 0 0,.slice none 0 0,.slice none 0 0] 30),(b1,.cells #[.int .i64 k.first.wide,c,ed,p,sv] 30)]))) ⟨by simp only; omega,A0,rfl,g0⟩ ?_
  rintro ⟨j,u⟩ O ⟨hj,A',rfl,gr⟩
  simp only at hj gr ⊢
  have ou:=gr.one
  repeat first|refine R1 ?_|refine R2 fun _=>?_
  refine Xv (l3Many_v _ c k.first s1 (gok kg)) ?_
  rw [hS]
  repeat first|refine R1 ?_|refine R2 fun _=>?_
  refine sf_if (fun h4=>?_) fun h4=>?_
  ·have hj4:j < S:=by omega
   obtain ⟨q,hq⟩:∃ q,j % k.parts.length = q:=⟨_,rfl⟩
   have hq1:q < k.parts.length:=by rw [← hq]; exact Nat.mod_lt _ (by omega)
   obtain ⟨d,hd⟩:∃ d,j / k.parts.length = d:=⟨_,rfl⟩
   have hqd:q + d * k.parts.length = j:=by rw [← hq,← hd,Nat.mul_comm]; exact Nat.mod_add_div j _
   have hmod:(j:Int) % (rp.length:Int) = (q:Int):=by rw [lp,← hq]; rfl
   have hdiv:(j:Int) / (rp.length:Int) = (d:Int):=by rw [lp,← hd]; rfl
   have hq5:q < rp.length:=by omega
   obtain ⟨l,ex,sl⟩:=partB (bp.at hq1)
   have ol:=sl.one
   haveI:FlatV (rawF (partR τ).sz) (gt rp q) [.bool (gt k.parts q).has,.int .i64 (gt k.parts q).ver,l]:=⟨ex⟩
   have hdl:d < (gt k.parts q).lights.length:=by
    rw [pl q hq1 (hall q hq1),ownCnt_lt (by omega) (by omega) n3]
    omega
   repeat first|refine R1 ?_|refine R2 fun _=>?_
   refine Sd [[],[],[1],[],[],[4],[4,5],[3,4,5,6],[1,2,3,4,5,6,7],[1,2,3,4,5,6,7,8],[1,2,3,4,5,6,7,8,9],[],[],[12],[12,13],[11,12,13,14],[1,2,3,4,5,6,7,8,9,10,11,12,13,14,15],[1,2,3,4,5,6,7,8,9,10,11,12,13,14,15,16],[1,2,3,4,5,6,7,8,9,10,11,12,13,14,15,16,17],[0,1,2,3,4,5,6,7,8,9,10,11,12,13,14,15,16,17,18],[0,1,2,3,4,5,6,7,8,9,10,11,12,13,14,15,16,17,18,19]] 19 [Nn 0,Nn 1,Nn 2,Nn 3,Nn 4,Nn 5,Nn 6,Nn 7,Nn 8,Nn 9,Nn 10,Nn 11,Nn 12,Nn 13,Nn 14,Nn 15,Nn 16,Nn 17,Yy 18] ?_
   refine Da ?_
   simp only [hmod,hdiv,Int.toNat_natCast]
   refine Da ?_
   simp only [hmod,hdiv,Int.toNat_natCast]
   refine Da ?_
   refine Yb fun u1 Au gu=>?_
   refine Da ?_
   refine Ae ?_
   repeat first|refine R1 ?_|refine R2 fun _=>?_
   refine Xa gr gu fun u2 A2 g2=>?_
   have ou2:=g2.one
   repeat first|refine R1 ?_|refine R2 fun _=>?_
   refine ⟨(j + 1,u2),by simp only; omega,⟨rfl,rfl,trivial⟩,rfl,A2++(B0++(B1++[(b2,.cells #[.int .i64 0,.slice none 0 0,.slice none 0 0,.slice none 0 0,.slice none 0 0] 30),(b1,.cells #[.int .i64 k.first.wide,c,ed,p,sv] 30)])),_,inferInstance,by simp only; omega,A2,rfl,?_⟩
   simp only [List.range_succ,List.map_append,List.map_cons,List.map_nil]
   rw [lp] at g2
   rw [hq]
   exact g2
  ·refine sf_exit ?_
   obtain rfl:j = S:=by omega
   have hpp:(pubPic k).length = j:=by simp [pubPic,hSn]
   have gp:Gr A' u 3 intF (pubPic k):=by rw [pubPic,hSn]; exact gr
   repeat first|refine R1 ?_|refine R2 fun _=>?_
   refine Xb fun u3 Au gu=>?_
   repeat first|refine R1 ?_|refine R2 fun _=>?_
   refine fp (y_append (by rfl) (by rfl) gs gu (by intro y hy; simp at hy; subst hy; exact (inferInstance:AllOne [Value.int .i64 (gt k.parts 0).ver,u]).is) (by rfl) (by rfl) (by simp; omega) (by simp; omega) fun s2 A5 g5=>?_)
   have o9:=g5.one
   repeat first|refine R1 ?_|refine R2 fun _=>?_
   exact sf_ret (rO (A5++(B1++A')) ⟨s2,rfl,⟨A5,B1++A',rfl,_,g5,oa.snoc (shownO_mk (p:=⟨(gt k.parts 0).ver,pubPic k⟩) gp (by simp only; omega)),by simp; omega⟩⟩)
theorem sPl_of {k:Keeper} (ok:keepOk k = true):∀ i,i < k.parts.length→(gt k.parts i).has = true→(gt k.parts i).lights.length = ownCnt (manyOf k.first).toNat k.parts.length (i + 1):=fun i hi hh=>by
 have:=keepOk_part ok hi
 unfold partOk at this
 rw [if_pos hh] at this
 simp only [Bool.and_eq_true,decide_eq_true_eq] at this
 rw [this.2,partLights,ownLights_len]
theorem sSetPart_at (k:Keeper) (i j:Nat) (p:Part) (hj:j < k.parts.length):gt (setPart k i p).parts j = if i = j then p else gt k.parts j:=by
 rw [gt_eq (by simpa [setPart] using hj),gt_eq hj]
 simp only [setPart,List.getElem_set]
theorem sPub_first (k:Keeper):(published k).first = k.first∧(published k).edits = k.edits∧(published k).parts = k.parts:=by
 unfold published; split <;> exact ⟨rfl,rfl,rfl⟩
theorem sPl_set {k : Keeper} (pl : ∀ i, i < k.parts.length → (gt k.parts i).has = true → (gt k.parts i).lights.length = ownCnt (manyOf k.first).toNat k.parts.length (i + 1)) (i : Nat) (q : Part) (hq : q.has = true → q.lights.length = ownCnt (manyOf k.first).toNat k.parts.length (i + 1)) :
  ∀ j,j < (setPart k i q).parts.length→(gt (setPart k i q).parts j).has = true→(gt (setPart k i q).parts j).lights.length = ownCnt (manyOf (setPart k i q).first).toNat (setPart k i q).parts.length (j + 1):=fun j hj hh=>by
 have hl:(setPart k i q).parts.length = k.parts.length:=by simp [setPart]
 have hj':j < k.parts.length:=by omega
 rw [sSetPart_at _ _ _ _ hj'] at hh ⊢
 rw [hl]
 by_cases e:i = j
 ·subst e
  rw [if_pos rfl] at hh ⊢
  exact hq hh
 ·rw [if_neg e] at hh ⊢
  exact pl j hj' hh
theorem l22Hear_f (h:PHeap) (A:Own) (ca:List Value) (k:Keeper) (b:(keeperR τ).O A ca k) (ok:keepOk k = true) (hs:szKeeperN k ≤ 1048576) (cw:List Value) (w:Word) (bw:(wordR τ).B h cw w) (hw:w.lights.length ≤ 1048576):CallF Tryz.prog M 70 [.agg ca.toArray,.agg cw.toArray] A h fun u A'=>∃ cs,u = .agg cs.toArray∧(keeperR τ).O A' cs (heard k w):=by
 have b0:=b
 obtain ⟨z1,z2,z3,z4⟩:=szKeeper_parts hs
 have hz4:szShownSN k.shown = k.shown.length + sizeL szShownN k.shown:=rfl
 have hk:=keepOk_head ok
 have n1:=hk.n1
 have n3:=hk.n3
 have h60:=hk.e60
 obtain ⟨c,ed,p,s,A1,A2,A3,A4,rfl,rfl,⟨g1,l1⟩,⟨g2,le2⟩,g3,g4⟩:=keeperO b
 have o1:=g1.one
 have o2:=g2.one
 have o3:=g3.one
 have o4:=g4.one
 obtain ⟨wc,wl,rfl,sw1,sw2⟩:=wordB bw
 have o5:=sw1.one
 have o6:=sw2.one
 obtain ⟨B0,B1,rfl,rs,gq,oa,hq4⟩:=g3
 have lq:=oa.len
 have hsh:k.shown.length ≤ 1048576:=by omega
 refine Cs Tryz.func70 Tryz.ntmps70 ?_
 repeat first|refine R1 ?_|refine R2 fun _=>?_
 refine Xv (l6In_v _ _ _ _) ?_
 repeat first|refine R1 ?_|refine R2 fun _=>?_
 refine sf_cond (by rfl) (fun h1=>?_) fun h1=>?_
 ·repeat first|refine R1 ?_|refine R2 fun _=>?_
  rw [heard,if_neg (by intro y; simp at h1; omega)]
  exact sf_ret (rO (A1++(A2++((B0++B1)++A4))) ⟨[.int .i64 k.first.wide,c,ed,p,s],rfl,b0⟩)
 have hr:1 ≤ w.frm∧w.frm ≤ k.parts.length:=by simp at h1; omega
 rw [heard,if_pos hr]
 obtain ⟨i,hi,hz⟩:∃ i:Nat,i < k.parts.length∧w.frm = i + 1:=⟨(w.frm - 1).toNat,by omega,by omega⟩
 have ei:w.frm.toNat - 1 = i:=by omega
 have ez:w.frm - 1 = (i:Int):=by omega
 rw [ei]
 have hi5:i < rs.length:=by omega
 obtain ⟨C1,Ck,C2,rfl,qk,oset⟩:=oa.at hi
 obtain ⟨lk0,exk,gk,lk1⟩:=partO qk
 have olk:=gk.one
 haveI:FlatV (rawF (partR τ).sz) (gt rs i) [.bool (gt k.parts i).has,.int .i64 (gt k.parts i).ver,lk0]:=⟨exk⟩
 have hpl:=sPl_of ok
 repeat first|refine R1 ?_|refine R2 fun _=>?_
 refine sf_if (fun h3=>?_) fun h3=>?_
 ·rw [if_pos h3]
  repeat first|refine R1 ?_|refine R2 fun _=>?_
  simp only [ez]
  repeat first|refine R1 ?_|refine R2 fun _=>?_
  refine Xb fun w0 Aw gw=>?_
  have ow:=gw.one
  repeat first|refine R1 ?_|refine R2 fun _=>?_
  refine Xg gq fun D0 ys ey ly _ g5=>?_
  have oall:=oset Aw ⟨[.bool false,.int .i64 0,w0],rfl⟩ noPart (partO_mk (p:=noPart) gw (by decide))
  have g3':GrR (partR τ) (D0++(C1++(Aw++C2))) p 35 (setPart k i noPart).parts:=⟨D0,_,rfl,ys,g5,by rw [ey]; exact oall,by simp [setPart]; omega⟩
  repeat first|refine R1 ?_|refine R2 fun _=>?_
  exact sf_ret (rO (A1++(A2++((D0++(C1++(Aw++C2)))++A4))) ⟨[.int .i64 k.first.wide,c,ed,p,s],rfl,keeperO_mk (k:=setPart k i noPart) g1 l1 g2 le2 g3' g4⟩)
 rw [if_neg h3]
 have hN:takesWord k w = false→(if w.kind = 3∧takesWord k w = true then published (setPart k i ⟨true,w.ver,w.lights⟩) else k) = k:=fun x=>by rw [if_neg (fun y=>by rw [x] at y; cases y.2)]
 have htw:takesWord k w = (verOk k w.ver && decide (w.lights.length = ownCnt (manyOf k.first).toNat k.parts.length (i + 1))):=by rw [takesWord,hz]; rfl
 have c21:∀ h,CallV Tryz.prog M 49 [.int .i64 w.ver,.int .i64 0,.int .i64 k.edits.length] h (.bool (verOk k w.ver)):=fun h=>l6In_v h _ _ _
 repeat first|refine R1 ?_|refine R2 fun _=>?_
 by_cases h4:w.kind = 3
 ·have h4':¬ (w.kind ≠ 3):=fun x=>x h4
  cases hv:verOk k w.ver with
  | false=>
   rw [hv] at c21
   refine Sd [[],[0],[0,1],[0,1,2],[0,1,2,3],[0,1,2,3,4],[0,1,2,3],[0,1,2,3,6],[0,1,2,3,6,7],[0,1,2,3,4,5,6,7,8],[0,1,2,3,4,5,6,7,8,9],[0,1,2,3,4,5,6,7,8,9,10],[0,1,2,3,4,5,6,7,8,9,10,11],[0,1,2,3,4,5,6,7,8,9,10,11,12],[0,1,2,3,4,5,6,7,8,9,10,11,12,13],[0,1,2,3,4,5,6,7,8,9,10,11,12,13,14],[0,1,2,3,4,5,6,7,8,9,10,11,12],[0,1,2,3,4,5,6,7,8,9,10,11,12,16],[0,1,2,3,4,5,6,7,8,9,10,11,12],[0,1,2,3,4,5,6,7,8,9,10,11,12,18],[0,1,2,3,4,5,6,7,8,9,10,11,12],[0,1,2,3,4,5,6,7,8,9,10,11,12,20],[0,1,2,3,4,5,6,7,8,9,10,11,12,20,21],[0,1,2,3,4,5,6,7,8,9,10,11,12,16,17,18,19,20,21,22],[0,1,2,3,4,5,6,7,8,9,10,11,12,16,17,18,19,20,21,22,23],[0,1,2,3,4,5,6,7,8,9,10,11,12,13,14,15,16,17,18,19,20,21,22,23,24],[0,1,2,3,4,5,6,7,8,9,10,11,12,13,14,15,16,17,18,19,20,21,22,23,24,25]] 25 [Nn 0,Nn 1,Nn 2,Nn 3,Nn 4,Nn 5,Nn 6,Nn 7,Nn 8,Yy 9,Nn 10,Nn 11,Nn 12,Nn 13,Nn 14,Nn 15,Nn 16,Nn 17,Nn 18,Nn 19,Nn 20,Nn 21,Nn 22,Nn 23,Nn 24] ?_
   refine Da ?_
   refine a_callV (c21 h) (by rfl) (by rfl) (.inr ⟨_,_,_,_,rfl,by rfl,by rfl,decide_eq_false h4'⟩) ?_
   refine Da ?_
   refine Ae ?_
   repeat first|refine R1 ?_|refine R2 fun _=>?_
   refine sf_T rfl ?_
   repeat first|refine R1 ?_|refine R2 fun _=>?_
   rw [hN (by rw [htw,hv]; rfl)]
   exact sf_ret (rO (A1++(A2++((B0++(C1++(Ck++C2)))++A4))) ⟨[.int .i64 k.first.wide,c,ed,p,s],rfl,b0⟩)
  | true=>
   rw [hv] at c21
   refine sf_draw (by kernel_rfl) (regX_own (A1) (Sw [[],[0],[0,1],[0,1,2],[0,1,2,3],[0,1,2,3,4],[0,1,2,3],[0,1,2,3,6],[0,1,2,3,6,7],[0,1,2,3,4,5,6,7,8],[0,1,2,3,4,5,6,7,8,9],[0,1,2,3,4,5,6,7,8,9,10],[0,1,2,3,4,5,6,7,8,9,10,11],[0,1,2,3,4,5,6,7,8,9,10,11,12],[0,1,2,3,4,5,6,7,8,9,10,11,12,13],[0,1,2,3,4,5,6,7,8,9,10,11,12,13,14],[0,1,2,3,4,5,6,7,8,9,10,11,12],[0,1,2,3,4,5,6,7,8,9,10,11,12,16],[0,1,2,3,4,5,6,7,8,9,10,11,12],[0,1,2,3,4,5,6,7,8,9,10,11,12,18],[0,1,2,3,4,5,6,7,8,9,10,11,12],[0,1,2,3,4,5,6,7,8,9,10,11,12,20],[0,1,2,3,4,5,6,7,8,9,10,11,12,20,21],[0,1,2,3,4,5,6,7,8,9,10,11,12,16,17,18,19,20,21,22],[0,1,2,3,4,5,6,7,8,9,10,11,12,16,17,18,19,20,21,22,23],[0,1,2,3,4,5,6,7,8,9,10,11,12,13,14,15,16,17,18,19,20,21,22,23,24],[0,1,2,3,4,5,6,7,8,9,10,11,12,13,14,15,16,17,18,19,20,21,22,23,24,25]] 25 [Nn 0,Nn 1,Nn 2,Nn 3,Nn 4,Nn 5,Nn 6,Nn 7,Nn 8,Yy 9,Nn 10,Nn 11,Nn 12,Nn 13,Nn 14,Nn 15,Nn 16,Nn 17,Nn 18,Nn 19,Nn 20,Nn 21,Nn 22,Yy 23,Nn 24] ?_))
   refine Da ?_
   refine a_callV (c21 h) (by rfl) (by rfl) (.inr ⟨_,_,_,_,rfl,by rfl,by rfl,decide_eq_false h4'⟩) ?_
   refine Da ?_
   rw [hz,lq]
   refine Yc (lendF A1 fun h' _ inb=>l21Own_f h' c k.first (g1.lent l1 inb) (gok hk.grid) (i + 1) k.parts.length (by omega) (by omega) n3) ?_
   rintro xv _ ⟨AX,rfl,gx⟩
   have ox:=gx.one
   have hl:=ownList_len (manyOf k.first).toNat k.parts.length (i + 1)
   refine Da ?_
   refine Ae ?_
   repeat first|refine R1 ?_|refine R2 fun _=>?_
   refine sf_if (fun h6=>?_) fun h6=>?_
   ·repeat first|refine R1 ?_|refine R2 fun _=>?_
    rw [hN (by rw [htw,hv,Bool.true_and]; exact decide_eq_false (by omega))]
    exact sf_ret (rO (A1++(A2++((B0++(C1++(Ck++C2)))++A4))) ⟨[.int .i64 k.first.wide,c,ed,p,s],rfl,b0⟩)
   have hln:w.lights.length = ownCnt (manyOf k.first).toNat k.parts.length (i + 1):=by omega
   rw [if_pos ⟨h4,by rw [htw,hv,Bool.true_and]; exact decide_eq_true hln⟩]
   repeat first|refine R1 ?_|refine R2 fun _=>?_
   refine Sd [[],[0],[],[2],[2,3],[],[5],[],[],[8],[7,8,9],[5,6,7,8,9,10],[0,1,2,3,4,5,6,7,8,9,10,11],[0,1,2,3,4,5,6,7,8,9,10,11,12]] 12 [Nn 0,Nn 1,Nn 2,Nn 3,Nn 4,Nn 5,Nn 6,Nn 8,Nn 9,Yy 7,Yy 10,Nn 11] ?_
   refine Da ?_
   refine Yb fun w0 Aw gw=>?_
   have ow:=gw.one
   refine Da ?_
   refine Ys gw sw2 fun l2 AL gl=>?_
   have ol2:=gl.one
   refine Da ?_
   refine Ae ?_
   simp only [ez]
   repeat first|refine R1 ?_|refine R2 fun _=>?_
   refine Xg gq fun D0 ys ey ly _ g5=>?_
   have oall:=oset AL ⟨[.bool true,.int .i64 w.ver,l2],rfl⟩ ⟨true,w.ver,w.lights⟩ (partO_mk (p:=⟨true,w.ver,w.lights⟩) gl (by simp only; omega))
   have g3':GrR (partR τ) (D0++(C1++(AL++C2))) p 35 (setPart k i ⟨true,w.ver,w.lights⟩).parts:=⟨D0,_,rfl,ys,g5,by rw [ey]; exact oall,by simp [setPart]; omega⟩
   have hl':(setPart k i ⟨true,w.ver,w.lights⟩).parts.length = k.parts.length:=by simp [setPart]
   obtain ⟨f1,f2,f3⟩:=sPub_first (setPart k i ⟨true,w.ver,w.lights⟩)
   repeat first|refine R1 ?_|refine R2 fun _=>?_
   refine fp (y_call (lendF (A1++(D0++(C1++(AL++C2)))) fun h' l' inb=>l22Show_f h' c ed p s (setPart k i ⟨true,w.ver,w.lights⟩) A4 (g1.lent l1 (inb_l inb)) o2 (g3'.lent (inb_r inb)) g4 hk.grid (by omega) (by omega) (sPl_set hpl i ⟨true,w.ver,w.lights⟩ (fun _=>hln)) hsh) (by rfl) ?_)
   rintro u _ ⟨A',rfl,s',rfl,gs'⟩
   have o9:=gs'.one
   repeat first|refine R1 ?_|refine R2 fun _=>?_
   refine sf_ret (rO (A1++(A2++((D0++(C1++(AL++C2)))++A'))) ⟨[.int .i64 k.first.wide,c,ed,p,s'],rfl,?_⟩)
   have:=keeperO_mk (τ:=τ) (k:=published (setPart k i ⟨true,w.ver,w.lights⟩)) (c:=c) (e:=ed) (p:=p) (s:=s') (A1:=A1) (A2:=A2) (A3:=D0++(C1++(AL++C2))) (A4:=A') (by rw [f1]; exact g1) (by rw [f1]; exact l1) (by rw [f2]; exact g2) (by rw [f2]; exact le2) (by rw [f3]; exact g3') gs'
   rw [f1] at this
   exact this
 ·rw [if_neg (fun x=>h4 x.1)]
  have h4':w.kind ≠ 3:=h4
  refine Sd [[],[0],[0,1],[0,1,2],[0,1,2,3],[0,1,2,3,4],[0,1,2,3],[0,1,2,3,6],[0,1,2,3,6,7],[0,1,2,3,4,5,6,7,8],[0,1,2,3,4,5,6,7,8,9],[0,1,2,3,4,5,6,7,8,9,10],[0,1,2,3,4,5,6,7,8,9,10,11],[0,1,2,3,4,5,6,7,8,9,10,11,12],[0,1,2,3,4,5,6,7,8,9,10,11,12,13],[0,1,2,3,4,5,6,7,8,9,10,11,12,13,14],[0,1,2,3,4,5,6,7,8,9,10,11,12],[0,1,2,3,4,5,6,7,8,9,10,11,12,16],[0,1,2,3,4,5,6,7,8,9,10,11,12],[0,1,2,3,4,5,6,7,8,9,10,11,12,18],[0,1,2,3,4,5,6,7,8,9,10,11,12],[0,1,2,3,4,5,6,7,8,9,10,11,12,20],[0,1,2,3,4,5,6,7,8,9,10,11,12,20,21],[0,1,2,3,4,5,6,7,8,9,10,11,12,16,17,18,19,20,21,22],[0,1,2,3,4,5,6,7,8,9,10,11,12,16,17,18,19,20,21,22,23],[0,1,2,3,4,5,6,7,8,9,10,11,12,13,14,15,16,17,18,19,20,21,22,23,24],[0,1,2,3,4,5,6,7,8,9,10,11,12,13,14,15,16,17,18,19,20,21,22,23,24,25]] 25 [Nn 0,Nn 1,Nn 2,Nn 3,Nn 4,Nn 5,Nn 6,Nn 7,Nn 8,Nn 9,Nn 10,Nn 11,Nn 12,Nn 13,Nn 14,Nn 15,Nn 16,Nn 17,Nn 18,Nn 19,Nn 20,Nn 21,Nn 22,Nn 23,Nn 24] ?_
  refine Da ?_
  refine Ae ?_
  repeat first|refine R1 ?_|refine R2 fun _=>?_
  refine sf_T rfl ?_
  repeat first|refine R1 ?_|refine R2 fun _=>?_
  exact sf_ret (rO (A1++(A2++((B0++(C1++(Ck++C2)))++A4))) ⟨[.int .i64 k.first.wide,c,ed,p,s],rfl,b0⟩)
instance:ElemF Tryz.prog 4 boolF:=⟨trivial⟩
theorem l11Foot_f (h:PHeap) (c:Value) (g:Grid) (s:Sl h c cellF g.cells) {R:Int} (kg:Gok g R) (vv:Value) (vs:List Visit) (sv:Sl h vv visitF vs) (hvs:∀ v ∈ vs,0 ≤ v.at'∧v.at' < g.cells.length):CallF Tryz.prog M 230 [.agg #[.int .i64 g.wide,c],vv] [] h fun u A=>Gr A u 3 intF (footIs g vs):=by
 have o1:=s.one
 have o2:=sv.one
 have hsm:=kg.small
 have hvl:=sv.small
 refine Cs Tryz.func230 Tryz.ntmps230 ?_
 repeat first|refine R1 ?_|refine R2 fun _=>?_
 rename_i b2
 refine Xm fun v A gr=>?_
 have o3:=gr.one
 repeat first|refine R1 ?_|refine R2 fun _=>?_
 refine sf_lp (ι:=Nat × List Bool) [1,5] (fun x=>[(6,.int .i64 (x.1:Int))]) (fun x O=>x.1 ≤ vs.length∧∃ A',O = A'++[(b2,.cells #[.int .i64 g.wide,c] 25)]∧Gr A' v 4 boolF x.2∧x.2.length = g.cells.length∧∀ a,a < g.cells.length→gt x.2 a = (vs.take x.1).any fun w=>decide (w.at' = (a:Nat))) (fun x=>vs.length - x.1) (0,List.replicate g.cells.length false) (A++[(b2,.cells #[.int .i64 g.wide,c] 25)]) ⟨by simp only; omega,A,rfl,gr,by simp,fun a ha=>by simp [gt,ha]⟩ ?_
 rintro ⟨j,bs⟩ O ⟨hj,A',rfl,gb,hbl,hb⟩
 simp only at hj gb hbl hb ⊢
 repeat first|refine R1 ?_|refine R2 fun _=>?_
 refine sf_if (fun h4=>?_) fun h4=>?_
 ·have hj4:j < vs.length:=by omega
  have hv:=hvs (gt vs j) (by rw [gt_eq hj4]; exact List.getElem_mem _)
  repeat first|refine R1 ?_|refine R2 fun _=>?_|refine fp (Rq ?_ (z_indexGI (by rfl) (by rfl) (by assumption) (by omega) (by omega)))
  refine Xg gb fun A2 ys hy hl fv g2=>?_
  repeat first|refine R1 ?_|refine R2 fun _=>?_
  refine ⟨(j + 1,ys),by simp only; omega,⟨rfl,trivial⟩,rfl,A2++[(b2,.cells #[.int .i64 g.wide,c] 25)],_,inferInstance,by simp only; omega,A2,rfl,g2,by simp only; omega,fun a ha=>?_⟩
  simp only
  rw [hy,take_succ_gt hj4,List.any_append]
  simp only [List.any_cons,List.any_nil,Bool.or_false]
  by_cases e:(gt vs j).at'.toNat = a
  ·subst e
   rw [gt_set (by omega)]
   have:(gt vs j).at' = (((gt vs j).at'.toNat:Nat):Int):=by omega
   simp [← this]
  ·rw [gt_set_ne e,hb a ha]
   have:¬ (gt vs j).at' = ((a:Nat):Int):=by omega
   simp [this]
 ·refine sf_exit ?_
  obtain rfl:j = vs.length:=by omega
  rw [List.take_of_length_le (Nat.le_refl _)] at hb
  repeat first|refine R1 ?_|refine R2 fun _=>?_
  refine Xb fun w AW gw=>?_
  repeat first|refine R1 ?_|refine R2 fun _=>?_
  refine sf_lp (ι:=Nat × Value) [5] (fun x=>[(7,x.2),(8,.int .i64 (x.1:Int))]) (fun x O=>x.1 ≤ g.cells.length∧∃ AW xs,O = AW++(A'++[(b2,.cells #[.int .i64 g.wide,c] 25)])∧xs.length ≤ x.1∧xs = (((List.range x.1).filter fun i=>vs.any fun v=>decide (v.at' = (i:Nat))).map fun i=>((i:Nat):Int))∧Gr AW x.2 3 intF xs) (fun x=>g.cells.length - x.1) (0,w) (AW++(A'++[(b2,.cells #[.int .i64 g.wide,c] 25)])) ⟨by simp only; omega,AW,[],rfl,by simp,rfl,gw⟩ ?_
  rintro ⟨i,w⟩ O ⟨hi,AW,xs,rfl,hxl,hxs,gx⟩
  simp only at hi hxl hxs gx ⊢
  have ow:=gx.one
  repeat first|refine R1 ?_|refine R2 fun _=>?_
  refine sf_if (fun h5=>?_) fun h5=>?_
  ·have hi4:i < g.cells.length:=by omega
   repeat first|refine R1 ?_|refine R2 fun _=>?_|refine fp (Rq ?_ (z_indexGI (by rfl) (by rfl) (by assumption) (by omega) (by omega)))
   rw [hb i hi4]
   refine sf_cond (by rfl) (fun e=>?_) fun e=>?_
   ·repeat first|refine R1 ?_|refine R2 fun _=>?_
    refine Xb fun u Au gu=>?_
    repeat first|refine R1 ?_|refine R2 fun _=>?_
    refine Xa gx gu fun w2 A2 g2=>?_
    repeat first|refine R1 ?_|refine R2 fun _=>?_
    exact ⟨(i + 1,w2),by simp only; omega,⟨rfl,rfl,trivial⟩,rfl,A2++(A'++[(b2,.cells #[.int .i64 g.wide,c] 25)]),_,inferInstance,by simp only; omega,A2,_,rfl,by simp; omega,by simp only; rw [List.range_succ,List.filter_append,List.map_append,← hxs]; simp only [List.filter_cons,e,if_true,List.filter_nil,List.map_cons,List.map_nil],g2⟩
   ·repeat first|refine R1 ?_|refine R2 fun _=>?_
    exact ⟨(i + 1,w),by simp only; omega,⟨rfl,rfl,trivial⟩,rfl,AW++(A'++[(b2,.cells #[.int .i64 g.wide,c] 25)]),_,inferInstance,by simp only; omega,AW,xs,rfl,by simp only; omega,by simp only; rw [List.range_succ,List.filter_append,List.map_append,← hxs]; simp only [List.filter_cons,e,Bool.false_eq_true,if_false,List.filter_nil,List.map_nil,List.append_nil],gx⟩
  ·refine sf_exit ?_
   obtain rfl:i = g.cells.length:=by omega
   repeat first|refine R1 ?_|refine R2 fun _=>?_
   refine sf_ret (rO AW ?_)
   rw [footIs,← hxs]; exact gx
end Go.Proofs.YtcpkcmgjfcbnpaaGreatDoor

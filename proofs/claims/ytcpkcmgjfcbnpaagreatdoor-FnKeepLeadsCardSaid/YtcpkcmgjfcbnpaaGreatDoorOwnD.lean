/- Walks of the seat: SJ TA TB SK TC SE TD TE TF Y2 W1 Y3 Y4 N4 N5 Y5 Y6 LC LD. -/
import Derived.Test.YtcpkcmgjfcbnpaaGreatDoorOwnC
import Derived.Test.YtcpkcmgjfcbnpaaGreatDoorLibG
import Derived.Test.YtcpkcmgjfcbnpaaGreatDoorLibC
import Derived.Test.YtcpkcmgjfcbnpaaGreatDoorLibI
import Derived.Test.YtcpkcmgjfcbnpaaGreatDoorSmW
import Derived.Test.YtcpkcmgjfcbnpaaGreatDoorLibH
import Derived.Test.YtcpkcmgjfcbnpaaGreatDoorSmYe
set_option linter.unusedVariables false
set_option linter.unusedSimpArgs false
set_option linter.unusedSectionVars false
namespace Go.Proofs.YtcpkcmgjfcbnpaaGreatDoor
open Go Go.Sl
set_option maxRecDepth 100000
set_option maxHeartbeats 4000000
attribute [local irreducible] Go.Code.sf sfOps Opq opo retF Do1 anyO
variable {M:Jdg→Prop} [IsCl Tryz.prog M]
instance elemF_ints_SJ:ElemF Tryz.prog 33 (rawF (intSR τ).sz):=⟨trivial⟩
theorem l13Look_f (h : PHeap) (c : Value) (g : Grid) (s : Sl h c cellF g.cells) (e : gridOk g = true) (l f : Value) (A2 A3 : Own) (ls : List Int) (fs : List (List Int)) (gl : Gr A2 l 3 intF ls) (gf : GrR (intSR τ) A3 f 33 fs) (k : Nat) (hk : (k : Int) < manyOf g) (hl : k < ls.length) (hf : k < fs.length) :
  CallF Tryz.prog M 228 [.agg #[.int .i64 g.wide,c,l,f],.int .i64 (k:Int)] (A2++A3) h fun u A=>∃ A2' A3',u = .agg #[.int .i64 g.wide,c,l,f]∧A = A2'++A3'∧Gr A2' l 3 intF (ls.set k (trailLight g k))∧GrR (intSR τ) A3' f 33 (fs.set k (footOf g k)):=by
 have o1:=s.one
 have o2:=gl.one
 have o3:=gf.one
 have kg:=gok e
 have hsm:=kg.small
 obtain ⟨sz,vs,es,hc,hg,hsz,hok⟩:=goLight_is kg (j:=(k:Int)) (by omega) hk
 have hle:=hok.le
 have hlv:=hok.lv
 have hes:∀ e ∈ es,EndOk g 64 e:=hok.es
 have hvs:∀ v ∈ vs,0 ≤ v.at'∧v.at' < g.cells.length:=fun v hv=>⟨(hok.vs v hv).a0,(hok.vs v hv).a1⟩
 simp only at hle hlv
 obtain ⟨F0,F1,rfl,rs,gr,oa,hb⟩:=gf
 have hr:=oa.len
 refine Cs Tryz.func228 Tryz.ntmps228 ?_
 repeat first|refine R1 ?_|refine R2 fun _=>?_
 rename_i b2 b4
 refine fp (y_call (l11Go_f (M:=M) _ c g s kg (k:Int) ⟨by omega,hk⟩) (by rfl) ?_)
 rintro _ _ ⟨b5,rfl,vv,ev,AV,AE,rfl,gv,ge⟩
 rw [hg] at gv ge
 simp only at gv ge
 have o4:=gv.one
 have o5:=ge.one
 have htl:trailLight g (k:Int) = lightOf g es:=by rw [trailLight,hg]
 have hft:footOf g (k:Int) = footIs g vs:=by rw [footOf,hg]
 rw [htl,hft]
 clear hc hg
 repeat first|refine R1 ?_|refine R2 fun _=>?_
 refine sf_draw (by kernel_rfl) (regX_own (AE) (Sw [[],[0],[],[],[3],[],[5],[5,6],[5,6,7],[3,4,5,6,7,8],[0,1,2,3,4,5,6,7,8,9],[0,1,2,3,4,5,6,7,8,9,10]] 10 [Nn 0,Nn 1,Nn 2,Nn 3,Nn 4,Nn 5,Nn 6,Nn 7,Nn 8,Yy 9] ?_))
 refine Da ?_
 refine Yc (lendV AE fun h' l i=>l11Light_v (M:=M) h' c g (s.le l.le) kg ev es (ge.lent (by omega) i) hes (by omega)) ?_
 rintro _ _ ⟨rfl,rfl⟩
 refine Da ?_
 refine Ae ?_
 repeat first|refine R1 ?_|refine R2 fun _=>?_
 refine Xg gl fun A5 ys hy hly fv g5=>?_
 repeat first|refine R1 ?_|refine R2 fun _=>?_
 refine sf_draw (by kernel_rfl) (regX_own (AV) (Sw [[],[0],[],[],[3],[],[5],[5,6],[5,6,7],[3,4,5,6,7,8],[0,1,2,3,4,5,6,7,8,9],[0,1,2,3,4,5,6,7,8,9,10]] 10 [Nn 0,Nn 1,Nn 2,Nn 3,Nn 4,Nn 5,Nn 6,Nn 7,Nn 8,Yy 9] ?_))
 refine Da ?_
 refine Yc (lendF AV fun h' l i=>l11Foot_f (M:=M) h' c g (s.le l.le) kg vv vs (gv.lent (by omega) i) hvs) ?_
 rintro w _ ⟨AW,rfl,gw⟩
 have o6:=gw.one
 refine Da ?_
 refine Ae ?_
 repeat first|refine R1 ?_|refine R2 fun _=>?_
 refine Xg gr fun A6 zs hz hlz fz g6=>?_
 repeat first|refine R1 ?_|refine R2 fun _=>?_
 obtain ⟨B1,Bk,B2,rfl,q1,q2⟩:=oa.at hf
 have q3:=q2 AW ⟨[w],rfl⟩ (footIs g vs) ⟨w,rfl,gw,by have:=footIs_len g vs; omega⟩
 rw [hy] at g5
 rw [hz] at g6
 exact sf_ret (rO (A5++(A6++(B1++(AW++B2)))) ⟨A5,A6++(B1++(AW++B2)),rfl,rfl,g5,A6,_,rfl,_,g6,q3,by simp; omega⟩)
theorem scene_step {xs:List (List Int)} {k:Nat} (h:k < xs.length):(xs.take k++List.replicate (xs.length - k) []).set k (gt xs k) = xs.take (k + 1)++List.replicate (xs.length - (k + 1)) []:=set_step h
theorem nils_all (n:Nat):OAll (intSR τ) [] (List.replicate n ⟨[.slice none 0 0],rfl⟩) (List.replicate n []):=by
 induction n with
 | zero=>exact .nil
 | succ n ih=>exact .cons (A:=[]) ⟨_,rfl,Gr.nil _ _,by simp⟩ ih
theorem sSceneNew_f (h:PHeap) (ca:List Value) (g:Grid) (b:(gridR τ).B h ca g):CallF Tryz.prog M 224 [.agg ca.toArray] [] h fun u A=>∃ cs,u = .tuple #[.agg cs.toArray,.bool (sceneNew g).2]∧(sceneR τ).O A cs (sceneNew g).1:=by
 have b0:=b
 obtain ⟨c,rfl,s⟩:=gridB b
 have o1:=s.one
 have hN:(sceneR τ).O [] [.int .i64 0,.slice none 0 0,.slice none 0 0,.slice none 0 0] noScene:=sceneO_mk (s:=noScene) (Gr.nil _ _) (by decide) (Gr.nil _ _) (by decide) (GrR.nil)
 refine Cs Tryz.func224 Tryz.ntmps224 ?_
 repeat first|refine R1 ?_|refine R2 fun _=>?_
 refine Xv (sGridOk_v _ _ g ⟨c,rfl,s⟩) ?_
 repeat first|refine R1 ?_|refine R2 fun _=>?_
 refine sf_cond (by rfl) (fun e=>?_) fun e=>?_
 ·simp only [Bool.not_eq_true'] at e
  repeat first|refine R1 ?_|refine R2 fun _=>?_
  rw [sceneNew,if_neg (by rw [e]; decide)]
  exact sf_ret (rO [] ⟨_,rfl,hN⟩)
 simp only [Bool.not_eq_false'] at e
 rw [sceneNew,if_pos e]
 clear hN
 have kg:=gok e
 have hm:=kg.many
 have hsm:=kg.small
 obtain ⟨N,hN⟩:∃ N:Nat,manyOf g = N:=⟨(manyOf g).toNat,by omega⟩
 have lp:(picOf g).length = N:=by rw [picOf_len,hN]; simp
 have lf:(feetOf g).length = N:=by rw [feetOf_len,hN]; simp
 repeat first|refine R1 ?_|refine R2 fun _=>?_
 refine Xv (l3Many_v (M:=M) _ c g s kg) ?_
 rw [hN]
 repeat first|refine R1 ?_|refine R2 fun _=>?_
 rename_i b1 b2
 apply viaT (G:=∀ (c2 l f:Value) (AC AL AF:Own) (b5:Nat),Gr AC c2 46 cellF g.cells→Gr AL l 3 intF (List.replicate N 0)→Gr AF f 33 (rawF (intSR τ).sz) (List.replicate N ⟨[.slice none 0 0],rfl⟩)→_)
 ·intro tail
  refine sf_draw (by kernel_rfl) (regX_split 1 3 (by rfl) (regX_split 1 5 (by rfl) (regX_split 1 7 (by rfl) (regX_split 3 5 (by rfl) (regX_split 3 7 (by rfl) (regX_split 5 7 (by rfl) ?_ ?_) ?_) (regX_split 3 7 (by rfl) ?_ (regX_split 5 7 (by rfl) ?_ ?_))) (regX_split 3 5 (by rfl) ?_ ?_)) (regX_split 1 7 (by rfl) (regX_split 3 7 (by rfl) ?_ ?_) (regX_split 5 7 (by rfl) ?_ ?_))) (regX_split 1 5 (by rfl) (regX_split 1 7 (by rfl) (regX_split 5 7 (by rfl) ?_ ?_) (regX_split 3 7 (by rfl) ?_ ?_)) (regX_split 1 7 (by rfl) (regX_split 3 5 (by rfl) ?_ ?_) (regX_split 3 5 (by rfl) (regX_split 3 7 (by rfl) (regX_split 5 7 (by rfl) ?_ ?_) ?_) (regX_split 3 7 (by rfl) ?_ (regX_split 5 7 (by rfl) ?_ ?_))))))
  case' refine_1=>
   refine Sr [[],[0],[],[0,1,2],[],[0,1,2,3,4],[0,1,2,3,4,5],[0,1,2,3,4,5],[0,1,2,3,4,5,6,7]] 8 [Nn 0,Nn 2,Nn 4,Yy 1,Yy 3,Yy 5,Nn 6,Yy 7] ?_
   refine Da ?_
   refine Yc (l1Copy_f (M:=M) _ _ g (gridB_mk s) (by omega)) ?_
   rintro _ AC ⟨_,rfl,q⟩
   obtain ⟨c2,rfl,g1,l1⟩:=gridO q
   have o5:=g1.one
   refine Da ?_
   refine Ym fun l AL g2=>?_
   have o6:=g2.one
   refine Da ?_
   refine Ym fun f AF g3=>?_
   have o7:=g3.one
   refine Da ?_
   refine Yl fun b5=>?_
   refine Da ?_
   refine Ae ?_
   repeat first|refine R1 ?_|refine R2 fun _=>?_
   refine sf_keep [2,4,5,6] ?_
   refine sf_own ((b5,.cells #[.int .i64 g.wide,c2,l,f] 68) :: (AC++(AL++(AF++[(b2,.cells #[.int .i64 0,.slice none 0 0,.slice none 0 0,.slice none 0 0] 68),(b1,.cells #[.int .i64 g.wide,c] 25)])))) ?_
   exact tail.out c2 l f AC AL AF b5 g1 g2 g3
  case' refine_2=>
   refine Sr [[],[0],[],[0,1,2],[],[0,1,2,3,4,7],[0,1,2,3,4,5,7],[0,1,2,3],[0,1,2,3,4,5,6,7]] 8 [Nn 0,Nn 2,Nn 4,Yy 1,Yy 3,Yy 7,Yy 5,Nn 6] ?_
   refine Da ?_
   refine Yc (l1Copy_f (M:=M) _ _ g (gridB_mk s) (by omega)) ?_
   rintro _ AC ⟨_,rfl,q⟩
   obtain ⟨c2,rfl,g1,l1⟩:=gridO q
   have o5:=g1.one
   refine Da ?_
   refine Ym fun l AL g2=>?_
   have o6:=g2.one
   refine Da ?_
   refine Yl fun b5=>?_
   refine Da ?_
   refine Ym fun f AF g3=>?_
   have o7:=g3.one
   refine Da ?_
   refine Ae ?_
   repeat first|refine R1 ?_|refine R2 fun _=>?_
   refine sf_keep [2,4,5,6] ?_
   refine sf_own ((b5,.cells #[.int .i64 g.wide,c2,l,f] 68) :: (AC++(AL++(AF++[(b2,.cells #[.int .i64 0,.slice none 0 0,.slice none 0 0,.slice none 0 0] 68),(b1,.cells #[.int .i64 g.wide,c] 25)])))) ?_
   exact tail.out c2 l f AC AL AF b5 g1 g2 g3
  case' refine_3=>
   refine Sr [[],[0],[],[0,1,2,7],[],[0,1,2,3,4,7],[0,1,2,3,4,5,7],[0,1],[0,1,2,3,4,5,6,7]] 8 [Nn 0,Nn 2,Nn 4,Yy 1,Yy 7,Yy 3,Yy 5,Nn 6] ?_
   refine Da ?_
   refine Yc (l1Copy_f (M:=M) _ _ g (gridB_mk s) (by omega)) ?_
   rintro _ AC ⟨_,rfl,q⟩
   obtain ⟨c2,rfl,g1,l1⟩:=gridO q
   have o5:=g1.one
   refine Da ?_
   refine Yl fun b5=>?_
   refine Da ?_
   refine Ym fun l AL g2=>?_
   have o6:=g2.one
   refine Da ?_
   refine Ym fun f AF g3=>?_
   have o7:=g3.one
   refine Da ?_
   refine Ae ?_
   repeat first|refine R1 ?_|refine R2 fun _=>?_
   refine sf_keep [2,4,5,6] ?_
   refine sf_own ((b5,.cells #[.int .i64 g.wide,c2,l,f] 68) :: (AC++(AL++(AF++[(b2,.cells #[.int .i64 0,.slice none 0 0,.slice none 0 0,.slice none 0 0] 68),(b1,.cells #[.int .i64 g.wide,c] 25)])))) ?_
   exact tail.out c2 l f AC AL AF b5 g1 g2 g3
  case' refine_4=>
   refine Sr [[],[0],[],[0,1,2,4,5],[],[0,1,4],[0,1,2,3,4,5],[0,1,2,3,4,5],[0,1,2,3,4,5,6,7]] 8 [Nn 0,Nn 2,Nn 4,Yy 1,Yy 5,Yy 3,Nn 6,Yy 7] ?_
   refine Da ?_
   refine Yc (l1Copy_f (M:=M) _ _ g (gridB_mk s) (by omega)) ?_
   rintro _ AC ⟨_,rfl,q⟩
   obtain ⟨c2,rfl,g1,l1⟩:=gridO q
   have o5:=g1.one
   refine Da ?_
   refine Ym fun f AF g3=>?_
   have o7:=g3.one
   refine Da ?_
   refine Ym fun l AL g2=>?_
   have o6:=g2.one
   refine Da ?_
   refine Yl fun b5=>?_
   refine Da ?_
   refine Ae ?_
   repeat first|refine R1 ?_|refine R2 fun _=>?_
   refine sf_keep [2,4,5,6] ?_
   refine sf_own ((b5,.cells #[.int .i64 g.wide,c2,l,f] 68) :: (AC++(AL++(AF++[(b2,.cells #[.int .i64 0,.slice none 0 0,.slice none 0 0,.slice none 0 0] 68),(b1,.cells #[.int .i64 g.wide,c] 25)])))) ?_
   exact tail.out c2 l f AC AL AF b5 g1 g2 g3
  case' refine_5=>
   refine Sr [[],[0],[],[0,1,2,4,5,7],[],[0,1,4],[0,1,2,3,4,5,7],[0,1,4,5],[0,1,2,3,4,5,6,7]] 8 [Nn 0,Nn 2,Nn 4,Yy 1,Yy 5,Yy 7,Yy 3,Nn 6] ?_
   refine Da ?_
   refine Yc (l1Copy_f (M:=M) _ _ g (gridB_mk s) (by omega)) ?_
   rintro _ AC ⟨_,rfl,q⟩
   obtain ⟨c2,rfl,g1,l1⟩:=gridO q
   have o5:=g1.one
   refine Da ?_
   refine Ym fun f AF g3=>?_
   have o7:=g3.one
   refine Da ?_
   refine Yl fun b5=>?_
   refine Da ?_
   refine Ym fun l AL g2=>?_
   have o6:=g2.one
   refine Da ?_
   refine Ae ?_
   repeat first|refine R1 ?_|refine R2 fun _=>?_
   refine sf_keep [2,4,5,6] ?_
   refine sf_own ((b5,.cells #[.int .i64 g.wide,c2,l,f] 68) :: (AC++(AL++(AF++[(b2,.cells #[.int .i64 0,.slice none 0 0,.slice none 0 0,.slice none 0 0] 68),(b1,.cells #[.int .i64 g.wide,c] 25)])))) ?_
   exact tail.out c2 l f AC AL AF b5 g1 g2 g3
  case' refine_6=>
   refine Sr [[],[0],[],[0,1,2,4,5,7],[],[0,1,4,7],[0,1,2,3,4,5,7],[0,1],[0,1,2,3,4,5,6,7]] 8 [Nn 0,Nn 2,Nn 4,Yy 1,Yy 7,Yy 5,Yy 3,Nn 6] ?_
   refine Da ?_
   refine Yc (l1Copy_f (M:=M) _ _ g (gridB_mk s) (by omega)) ?_
   rintro _ AC ⟨_,rfl,q⟩
   obtain ⟨c2,rfl,g1,l1⟩:=gridO q
   have o5:=g1.one
   refine Da ?_
   refine Yl fun b5=>?_
   refine Da ?_
   refine Ym fun f AF g3=>?_
   have o7:=g3.one
   refine Da ?_
   refine Ym fun l AL g2=>?_
   have o6:=g2.one
   refine Da ?_
   refine Ae ?_
   repeat first|refine R1 ?_|refine R2 fun _=>?_
   refine sf_keep [2,4,5,6] ?_
   refine sf_own ((b5,.cells #[.int .i64 g.wide,c2,l,f] 68) :: (AC++(AL++(AF++[(b2,.cells #[.int .i64 0,.slice none 0 0,.slice none 0 0,.slice none 0 0] 68),(b1,.cells #[.int .i64 g.wide,c] 25)])))) ?_
   exact tail.out c2 l f AC AL AF b5 g1 g2 g3
  case' refine_7=>
   refine Sr [[],[0,7],[],[0,1,2,7],[],[0,1,2,3,4,7],[0,1,2,3,4,5,7],[],[0,1,2,3,4,5,6,7]] 8 [Nn 0,Nn 2,Nn 4,Yy 7,Yy 1,Yy 3,Yy 5,Nn 6] ?_
   refine Da ?_
   refine Yl fun b5=>?_
   refine Da ?_
   refine Yc (l1Copy_f (M:=M) _ _ g (gridB_mk s) (by omega)) ?_
   rintro _ AC ⟨_,rfl,q⟩
   obtain ⟨c2,rfl,g1,l1⟩:=gridO q
   have o5:=g1.one
   refine Da ?_
   refine Ym fun l AL g2=>?_
   have o6:=g2.one
   refine Da ?_
   refine Ym fun f AF g3=>?_
   have o7:=g3.one
   refine Da ?_
   refine Ae ?_
   repeat first|refine R1 ?_|refine R2 fun _=>?_
   refine sf_keep [2,4,5,6] ?_
   refine sf_own ((b5,.cells #[.int .i64 g.wide,c2,l,f] 68) :: (AC++(AL++(AF++[(b2,.cells #[.int .i64 0,.slice none 0 0,.slice none 0 0,.slice none 0 0] 68),(b1,.cells #[.int .i64 g.wide,c] 25)])))) ?_
   exact tail.out c2 l f AC AL AF b5 g1 g2 g3
  case' refine_8=>
   refine Sr [[],[0,7],[],[0,1,2,4,5,7],[],[0,1,4,7],[0,1,2,3,4,5,7],[],[0,1,2,3,4,5,6,7]] 8 [Nn 0,Nn 2,Nn 4,Yy 7,Yy 1,Yy 5,Yy 3,Nn 6] ?_
   refine Da ?_
   refine Yl fun b5=>?_
   refine Da ?_
   refine Yc (l1Copy_f (M:=M) _ _ g (gridB_mk s) (by omega)) ?_
   rintro _ AC ⟨_,rfl,q⟩
   obtain ⟨c2,rfl,g1,l1⟩:=gridO q
   have o5:=g1.one
   refine Da ?_
   refine Ym fun f AF g3=>?_
   have o7:=g3.one
   refine Da ?_
   refine Ym fun l AL g2=>?_
   have o6:=g2.one
   refine Da ?_
   refine Ae ?_
   repeat first|refine R1 ?_|refine R2 fun _=>?_
   refine sf_keep [2,4,5,6] ?_
   refine sf_own ((b5,.cells #[.int .i64 g.wide,c2,l,f] 68) :: (AC++(AL++(AF++[(b2,.cells #[.int .i64 0,.slice none 0 0,.slice none 0 0,.slice none 0 0] 68),(b1,.cells #[.int .i64 g.wide,c] 25)])))) ?_
   exact tail.out c2 l f AC AL AF b5 g1 g2 g3
  case' refine_9=>
   refine Sr [[],[0,4,5],[],[0,1,2,4,5],[],[4],[0,1,2,3,4,5],[0,1,2,3,4,5],[0,1,2,3,4,5,6,7]] 8 [Nn 0,Nn 2,Nn 4,Yy 5,Yy 1,Yy 3,Nn 6,Yy 7] ?_
   refine Da ?_
   refine Ym fun f AF g3=>?_
   have o7:=g3.one
   refine Da ?_
   refine Yc (l1Copy_f (M:=M) _ _ g (gridB_mk s) (by omega)) ?_
   rintro _ AC ⟨_,rfl,q⟩
   obtain ⟨c2,rfl,g1,l1⟩:=gridO q
   have o5:=g1.one
   refine Da ?_
   refine Ym fun l AL g2=>?_
   have o6:=g2.one
   refine Da ?_
   refine Yl fun b5=>?_
   refine Da ?_
   refine Ae ?_
   repeat first|refine R1 ?_|refine R2 fun _=>?_
   refine sf_keep [2,4,5,6] ?_
   refine sf_own ((b5,.cells #[.int .i64 g.wide,c2,l,f] 68) :: (AC++(AL++(AF++[(b2,.cells #[.int .i64 0,.slice none 0 0,.slice none 0 0,.slice none 0 0] 68),(b1,.cells #[.int .i64 g.wide,c] 25)])))) ?_
   exact tail.out c2 l f AC AL AF b5 g1 g2 g3
  case' refine_10=>
   refine Sr [[],[0,4,5],[],[0,1,2,4,5,7],[],[4],[0,1,2,3,4,5,7],[0,1,4,5],[0,1,2,3,4,5,6,7]] 8 [Nn 0,Nn 2,Nn 4,Yy 5,Yy 1,Yy 7,Yy 3,Nn 6] ?_
   refine Da ?_
   refine Ym fun f AF g3=>?_
   have o7:=g3.one
   refine Da ?_
   refine Yc (l1Copy_f (M:=M) _ _ g (gridB_mk s) (by omega)) ?_
   rintro _ AC ⟨_,rfl,q⟩
   obtain ⟨c2,rfl,g1,l1⟩:=gridO q
   have o5:=g1.one
   refine Da ?_
   refine Yl fun b5=>?_
   refine Da ?_
   refine Ym fun l AL g2=>?_
   have o6:=g2.one
   refine Da ?_
   refine Ae ?_
   repeat first|refine R1 ?_|refine R2 fun _=>?_
   refine sf_keep [2,4,5,6] ?_
   refine sf_own ((b5,.cells #[.int .i64 g.wide,c2,l,f] 68) :: (AC++(AL++(AF++[(b2,.cells #[.int .i64 0,.slice none 0 0,.slice none 0 0,.slice none 0 0] 68),(b1,.cells #[.int .i64 g.wide,c] 25)])))) ?_
   exact tail.out c2 l f AC AL AF b5 g1 g2 g3
  case' refine_11=>
   refine Sr [[],[0,4,5,7],[],[0,1,2,4,5,7],[],[4],[0,1,2,3,4,5,7],[4,5],[0,1,2,3,4,5,6,7]] 8 [Nn 0,Nn 2,Nn 4,Yy 5,Yy 7,Yy 1,Yy 3,Nn 6] ?_
   refine Da ?_
   refine Ym fun f AF g3=>?_
   have o7:=g3.one
   refine Da ?_
   refine Yl fun b5=>?_
   refine Da ?_
   refine Yc (l1Copy_f (M:=M) _ _ g (gridB_mk s) (by omega)) ?_
   rintro _ AC ⟨_,rfl,q⟩
   obtain ⟨c2,rfl,g1,l1⟩:=gridO q
   have o5:=g1.one
   refine Da ?_
   refine Ym fun l AL g2=>?_
   have o6:=g2.one
   refine Da ?_
   refine Ae ?_
   repeat first|refine R1 ?_|refine R2 fun _=>?_
   refine sf_keep [2,4,5,6] ?_
   refine sf_own ((b5,.cells #[.int .i64 g.wide,c2,l,f] 68) :: (AC++(AL++(AF++[(b2,.cells #[.int .i64 0,.slice none 0 0,.slice none 0 0,.slice none 0 0] 68),(b1,.cells #[.int .i64 g.wide,c] 25)])))) ?_
   exact tail.out c2 l f AC AL AF b5 g1 g2 g3
  case' refine_12=>
   refine Sr [[],[0,4,5,7],[],[0,1,2,4,5,7],[],[4,7],[0,1,2,3,4,5,7],[],[0,1,2,3,4,5,6,7]] 8 [Nn 0,Nn 2,Nn 4,Yy 7,Yy 5,Yy 1,Yy 3,Nn 6] ?_
   refine Da ?_
   refine Yl fun b5=>?_
   refine Da ?_
   refine Ym fun f AF g3=>?_
   have o7:=g3.one
   refine Da ?_
   refine Yc (l1Copy_f (M:=M) _ _ g (gridB_mk s) (by omega)) ?_
   rintro _ AC ⟨_,rfl,q⟩
   obtain ⟨c2,rfl,g1,l1⟩:=gridO q
   have o5:=g1.one
   refine Da ?_
   refine Ym fun l AL g2=>?_
   have o6:=g2.one
   refine Da ?_
   refine Ae ?_
   repeat first|refine R1 ?_|refine R2 fun _=>?_
   refine sf_keep [2,4,5,6] ?_
   refine sf_own ((b5,.cells #[.int .i64 g.wide,c2,l,f] 68) :: (AC++(AL++(AF++[(b2,.cells #[.int .i64 0,.slice none 0 0,.slice none 0 0,.slice none 0 0] 68),(b1,.cells #[.int .i64 g.wide,c] 25)])))) ?_
   exact tail.out c2 l f AC AL AF b5 g1 g2 g3
  case' refine_13=>
   refine Sr [[],[0,2,3],[],[2],[],[0,1,2,3,4],[0,1,2,3,4,5],[0,1,2,3,4,5],[0,1,2,3,4,5,6,7]] 8 [Nn 0,Nn 2,Nn 4,Yy 3,Yy 1,Yy 5,Nn 6,Yy 7] ?_
   refine Da ?_
   refine Ym fun l AL g2=>?_
   have o6:=g2.one
   refine Da ?_
   refine Yc (l1Copy_f (M:=M) _ _ g (gridB_mk s) (by omega)) ?_
   rintro _ AC ⟨_,rfl,q⟩
   obtain ⟨c2,rfl,g1,l1⟩:=gridO q
   have o5:=g1.one
   refine Da ?_
   refine Ym fun f AF g3=>?_
   have o7:=g3.one
   refine Da ?_
   refine Yl fun b5=>?_
   refine Da ?_
   refine Ae ?_
   repeat first|refine R1 ?_|refine R2 fun _=>?_
   refine sf_keep [2,4,5,6] ?_
   refine sf_own ((b5,.cells #[.int .i64 g.wide,c2,l,f] 68) :: (AC++(AL++(AF++[(b2,.cells #[.int .i64 0,.slice none 0 0,.slice none 0 0,.slice none 0 0] 68),(b1,.cells #[.int .i64 g.wide,c] 25)])))) ?_
   exact tail.out c2 l f AC AL AF b5 g1 g2 g3
  case' refine_14=>
   refine Sr [[],[0,2,3],[],[2],[],[0,1,2,3,4,7],[0,1,2,3,4,5,7],[0,1,2,3],[0,1,2,3,4,5,6,7]] 8 [Nn 0,Nn 2,Nn 4,Yy 3,Yy 1,Yy 7,Yy 5,Nn 6] ?_
   refine Da ?_
   refine Ym fun l AL g2=>?_
   have o6:=g2.one
   refine Da ?_
   refine Yc (l1Copy_f (M:=M) _ _ g (gridB_mk s) (by omega)) ?_
   rintro _ AC ⟨_,rfl,q⟩
   obtain ⟨c2,rfl,g1,l1⟩:=gridO q
   have o5:=g1.one
   refine Da ?_
   refine Yl fun b5=>?_
   refine Da ?_
   refine Ym fun f AF g3=>?_
   have o7:=g3.one
   refine Da ?_
   refine Ae ?_
   repeat first|refine R1 ?_|refine R2 fun _=>?_
   refine sf_keep [2,4,5,6] ?_
   refine sf_own ((b5,.cells #[.int .i64 g.wide,c2,l,f] 68) :: (AC++(AL++(AF++[(b2,.cells #[.int .i64 0,.slice none 0 0,.slice none 0 0,.slice none 0 0] 68),(b1,.cells #[.int .i64 g.wide,c] 25)])))) ?_
   exact tail.out c2 l f AC AL AF b5 g1 g2 g3
  case' refine_15=>
   refine Sr [[],[0,2,3,7],[],[2],[],[0,1,2,3,4,7],[0,1,2,3,4,5,7],[2,3],[0,1,2,3,4,5,6,7]] 8 [Nn 0,Nn 2,Nn 4,Yy 3,Yy 7,Yy 1,Yy 5,Nn 6] ?_
   refine Da ?_
   refine Ym fun l AL g2=>?_
   have o6:=g2.one
   refine Da ?_
   refine Yl fun b5=>?_
   refine Da ?_
   refine Yc (l1Copy_f (M:=M) _ _ g (gridB_mk s) (by omega)) ?_
   rintro _ AC ⟨_,rfl,q⟩
   obtain ⟨c2,rfl,g1,l1⟩:=gridO q
   have o5:=g1.one
   refine Da ?_
   refine Ym fun f AF g3=>?_
   have o7:=g3.one
   refine Da ?_
   refine Ae ?_
   repeat first|refine R1 ?_|refine R2 fun _=>?_
   refine sf_keep [2,4,5,6] ?_
   refine sf_own ((b5,.cells #[.int .i64 g.wide,c2,l,f] 68) :: (AC++(AL++(AF++[(b2,.cells #[.int .i64 0,.slice none 0 0,.slice none 0 0,.slice none 0 0] 68),(b1,.cells #[.int .i64 g.wide,c] 25)])))) ?_
   exact tail.out c2 l f AC AL AF b5 g1 g2 g3
  case' refine_16=>
   refine Sr [[],[0,2,3,7],[],[2,7],[],[0,1,2,3,4,7],[0,1,2,3,4,5,7],[],[0,1,2,3,4,5,6,7]] 8 [Nn 0,Nn 2,Nn 4,Yy 7,Yy 3,Yy 1,Yy 5,Nn 6] ?_
   refine Da ?_
   refine Yl fun b5=>?_
   refine Da ?_
   refine Ym fun l AL g2=>?_
   have o6:=g2.one
   refine Da ?_
   refine Yc (l1Copy_f (M:=M) _ _ g (gridB_mk s) (by omega)) ?_
   rintro _ AC ⟨_,rfl,q⟩
   obtain ⟨c2,rfl,g1,l1⟩:=gridO q
   have o5:=g1.one
   refine Da ?_
   refine Ym fun f AF g3=>?_
   have o7:=g3.one
   refine Da ?_
   refine Ae ?_
   repeat first|refine R1 ?_|refine R2 fun _=>?_
   refine sf_keep [2,4,5,6] ?_
   refine sf_own ((b5,.cells #[.int .i64 g.wide,c2,l,f] 68) :: (AC++(AL++(AF++[(b2,.cells #[.int .i64 0,.slice none 0 0,.slice none 0 0,.slice none 0 0] 68),(b1,.cells #[.int .i64 g.wide,c] 25)])))) ?_
   exact tail.out c2 l f AC AL AF b5 g1 g2 g3
  case' refine_17=>
   refine Sr [[],[0,2,3,4,5],[],[2],[],[2,3,4],[0,1,2,3,4,5],[0,1,2,3,4,5],[0,1,2,3,4,5,6,7]] 8 [Nn 0,Nn 2,Nn 4,Yy 3,Yy 5,Yy 1,Nn 6,Yy 7] ?_
   refine Da ?_
   refine Ym fun l AL g2=>?_
   have o6:=g2.one
   refine Da ?_
   refine Ym fun f AF g3=>?_
   have o7:=g3.one
   refine Da ?_
   refine Yc (l1Copy_f (M:=M) _ _ g (gridB_mk s) (by omega)) ?_
   rintro _ AC ⟨_,rfl,q⟩
   obtain ⟨c2,rfl,g1,l1⟩:=gridO q
   have o5:=g1.one
   refine Da ?_
   refine Yl fun b5=>?_
   refine Da ?_
   refine Ae ?_
   repeat first|refine R1 ?_|refine R2 fun _=>?_
   refine sf_keep [2,4,5,6] ?_
   refine sf_own ((b5,.cells #[.int .i64 g.wide,c2,l,f] 68) :: (AC++(AL++(AF++[(b2,.cells #[.int .i64 0,.slice none 0 0,.slice none 0 0,.slice none 0 0] 68),(b1,.cells #[.int .i64 g.wide,c] 25)])))) ?_
   exact tail.out c2 l f AC AL AF b5 g1 g2 g3
  case' refine_18=>
   refine Sr [[],[0,2,3,4,5],[],[2,4,5],[],[4],[0,1,2,3,4,5],[0,1,2,3,4,5],[0,1,2,3,4,5,6,7]] 8 [Nn 0,Nn 2,Nn 4,Yy 5,Yy 3,Yy 1,Nn 6,Yy 7] ?_
   refine Da ?_
   refine Ym fun f AF g3=>?_
   have o7:=g3.one
   refine Da ?_
   refine Ym fun l AL g2=>?_
   have o6:=g2.one
   refine Da ?_
   refine Yc (l1Copy_f (M:=M) _ _ g (gridB_mk s) (by omega)) ?_
   rintro _ AC ⟨_,rfl,q⟩
   obtain ⟨c2,rfl,g1,l1⟩:=gridO q
   have o5:=g1.one
   refine Da ?_
   refine Yl fun b5=>?_
   refine Da ?_
   refine Ae ?_
   repeat first|refine R1 ?_|refine R2 fun _=>?_
   refine sf_keep [2,4,5,6] ?_
   refine sf_own ((b5,.cells #[.int .i64 g.wide,c2,l,f] 68) :: (AC++(AL++(AF++[(b2,.cells #[.int .i64 0,.slice none 0 0,.slice none 0 0,.slice none 0 0] 68),(b1,.cells #[.int .i64 g.wide,c] 25)])))) ?_
   exact tail.out c2 l f AC AL AF b5 g1 g2 g3
  case' refine_19=>
   refine Sr [[],[0,2,3,4,5,7],[],[2],[],[2,3,4],[0,1,2,3,4,5,7],[2,3,4,5],[0,1,2,3,4,5,6,7]] 8 [Nn 0,Nn 2,Nn 4,Yy 3,Yy 5,Yy 7,Yy 1,Nn 6] ?_
   refine Da ?_
   refine Ym fun l AL g2=>?_
   have o6:=g2.one
   refine Da ?_
   refine Ym fun f AF g3=>?_
   have o7:=g3.one
   refine Da ?_
   refine Yl fun b5=>?_
   refine Da ?_
   refine Yc (l1Copy_f (M:=M) _ _ g (gridB_mk s) (by omega)) ?_
   rintro _ AC ⟨_,rfl,q⟩
   obtain ⟨c2,rfl,g1,l1⟩:=gridO q
   have o5:=g1.one
   refine Da ?_
   refine Ae ?_
   repeat first|refine R1 ?_|refine R2 fun _=>?_
   refine sf_keep [2,4,5,6] ?_
   refine sf_own ((b5,.cells #[.int .i64 g.wide,c2,l,f] 68) :: (AC++(AL++(AF++[(b2,.cells #[.int .i64 0,.slice none 0 0,.slice none 0 0,.slice none 0 0] 68),(b1,.cells #[.int .i64 g.wide,c] 25)])))) ?_
   exact tail.out c2 l f AC AL AF b5 g1 g2 g3
  case' refine_20=>
   refine Sr [[],[0,2,3,4,5,7],[],[2],[],[2,3,4,7],[0,1,2,3,4,5,7],[2,3],[0,1,2,3,4,5,6,7]] 8 [Nn 0,Nn 2,Nn 4,Yy 3,Yy 7,Yy 5,Yy 1,Nn 6] ?_
   refine Da ?_
   refine Ym fun l AL g2=>?_
   have o6:=g2.one
   refine Da ?_
   refine Yl fun b5=>?_
   refine Da ?_
   refine Ym fun f AF g3=>?_
   have o7:=g3.one
   refine Da ?_
   refine Yc (l1Copy_f (M:=M) _ _ g (gridB_mk s) (by omega)) ?_
   rintro _ AC ⟨_,rfl,q⟩
   obtain ⟨c2,rfl,g1,l1⟩:=gridO q
   have o5:=g1.one
   refine Da ?_
   refine Ae ?_
   repeat first|refine R1 ?_|refine R2 fun _=>?_
   refine sf_keep [2,4,5,6] ?_
   refine sf_own ((b5,.cells #[.int .i64 g.wide,c2,l,f] 68) :: (AC++(AL++(AF++[(b2,.cells #[.int .i64 0,.slice none 0 0,.slice none 0 0,.slice none 0 0] 68),(b1,.cells #[.int .i64 g.wide,c] 25)])))) ?_
   exact tail.out c2 l f AC AL AF b5 g1 g2 g3
  case' refine_21=>
   refine Sr [[],[0,2,3,4,5,7],[],[2,7],[],[2,3,4,7],[0,1,2,3,4,5,7],[],[0,1,2,3,4,5,6,7]] 8 [Nn 0,Nn 2,Nn 4,Yy 7,Yy 3,Yy 5,Yy 1,Nn 6] ?_
   refine Da ?_
   refine Yl fun b5=>?_
   refine Da ?_
   refine Ym fun l AL g2=>?_
   have o6:=g2.one
   refine Da ?_
   refine Ym fun f AF g3=>?_
   have o7:=g3.one
   refine Da ?_
   refine Yc (l1Copy_f (M:=M) _ _ g (gridB_mk s) (by omega)) ?_
   rintro _ AC ⟨_,rfl,q⟩
   obtain ⟨c2,rfl,g1,l1⟩:=gridO q
   have o5:=g1.one
   refine Da ?_
   refine Ae ?_
   repeat first|refine R1 ?_|refine R2 fun _=>?_
   refine sf_keep [2,4,5,6] ?_
   refine sf_own ((b5,.cells #[.int .i64 g.wide,c2,l,f] 68) :: (AC++(AL++(AF++[(b2,.cells #[.int .i64 0,.slice none 0 0,.slice none 0 0,.slice none 0 0] 68),(b1,.cells #[.int .i64 g.wide,c] 25)])))) ?_
   exact tail.out c2 l f AC AL AF b5 g1 g2 g3
  case' refine_22=>
   refine Sr [[],[0,2,3,4,5,7],[],[2,4,5],[],[4],[0,1,2,3,4,5,7],[2,3,4,5],[0,1,2,3,4,5,6,7]] 8 [Nn 0,Nn 2,Nn 4,Yy 5,Yy 3,Yy 7,Yy 1,Nn 6] ?_
   refine Da ?_
   refine Ym fun f AF g3=>?_
   have o7:=g3.one
   refine Da ?_
   refine Ym fun l AL g2=>?_
   have o6:=g2.one
   refine Da ?_
   refine Yl fun b5=>?_
   refine Da ?_
   refine Yc (l1Copy_f (M:=M) _ _ g (gridB_mk s) (by omega)) ?_
   rintro _ AC ⟨_,rfl,q⟩
   obtain ⟨c2,rfl,g1,l1⟩:=gridO q
   have o5:=g1.one
   refine Da ?_
   refine Ae ?_
   repeat first|refine R1 ?_|refine R2 fun _=>?_
   refine sf_keep [2,4,5,6] ?_
   refine sf_own ((b5,.cells #[.int .i64 g.wide,c2,l,f] 68) :: (AC++(AL++(AF++[(b2,.cells #[.int .i64 0,.slice none 0 0,.slice none 0 0,.slice none 0 0] 68),(b1,.cells #[.int .i64 g.wide,c] 25)])))) ?_
   exact tail.out c2 l f AC AL AF b5 g1 g2 g3
  case' refine_23=>
   refine Sr [[],[0,2,3,4,5,7],[],[2,4,5,7],[],[4],[0,1,2,3,4,5,7],[4,5],[0,1,2,3,4,5,6,7]] 8 [Nn 0,Nn 2,Nn 4,Yy 5,Yy 7,Yy 3,Yy 1,Nn 6] ?_
   refine Da ?_
   refine Ym fun f AF g3=>?_
   have o7:=g3.one
   refine Da ?_
   refine Yl fun b5=>?_
   refine Da ?_
   refine Ym fun l AL g2=>?_
   have o6:=g2.one
   refine Da ?_
   refine Yc (l1Copy_f (M:=M) _ _ g (gridB_mk s) (by omega)) ?_
   rintro _ AC ⟨_,rfl,q⟩
   obtain ⟨c2,rfl,g1,l1⟩:=gridO q
   have o5:=g1.one
   refine Da ?_
   refine Ae ?_
   repeat first|refine R1 ?_|refine R2 fun _=>?_
   refine sf_keep [2,4,5,6] ?_
   refine sf_own ((b5,.cells #[.int .i64 g.wide,c2,l,f] 68) :: (AC++(AL++(AF++[(b2,.cells #[.int .i64 0,.slice none 0 0,.slice none 0 0,.slice none 0 0] 68),(b1,.cells #[.int .i64 g.wide,c] 25)])))) ?_
   exact tail.out c2 l f AC AL AF b5 g1 g2 g3
  case' refine_24=>
   refine Sr [[],[0,2,3,4,5,7],[],[2,4,5,7],[],[4,7],[0,1,2,3,4,5,7],[],[0,1,2,3,4,5,6,7]] 8 [Nn 0,Nn 2,Nn 4,Yy 7,Yy 5,Yy 3,Yy 1,Nn 6] ?_
   refine Da ?_
   refine Yl fun b5=>?_
   refine Da ?_
   refine Ym fun f AF g3=>?_
   have o7:=g3.one
   refine Da ?_
   refine Ym fun l AL g2=>?_
   have o6:=g2.one
   refine Da ?_
   refine Yc (l1Copy_f (M:=M) _ _ g (gridB_mk s) (by omega)) ?_
   rintro _ AC ⟨_,rfl,q⟩
   obtain ⟨c2,rfl,g1,l1⟩:=gridO q
   have o5:=g1.one
   refine Da ?_
   refine Ae ?_
   repeat first|refine R1 ?_|refine R2 fun _=>?_
   refine sf_keep [2,4,5,6] ?_
   refine sf_own ((b5,.cells #[.int .i64 g.wide,c2,l,f] 68) :: (AC++(AL++(AF++[(b2,.cells #[.int .i64 0,.slice none 0 0,.slice none 0 0,.slice none 0 0] 68),(b1,.cells #[.int .i64 g.wide,c] 25)])))) ?_
   exact tail.out c2 l f AC AL AF b5 g1 g2 g3
 intro c2 l f AC AL AF b5 g1 g2 g3
 have o5:=g1.one
 have o6:=g2.one
 have o7:=g3.one
 repeat first|refine R1 ?_|refine R2 fun _=>?_
 refine sf_lp (ι:=Nat) [2,4,5] (fun k=>[(6,.int .i64 (k:Int))]) (fun k O=>k ≤ N∧∃ A2 A3,O = (b5,.cells #[.int .i64 g.wide,c2,l,f] 68) :: (AC++(A2++A3++[(b2,.cells #[.int .i64 0,.slice none 0 0,.slice none 0 0,.slice none 0 0] 68),(b1,.cells #[.int .i64 g.wide,c] 25)]))∧Gr A2 l 3 intF ((picOf g).take k++List.replicate ((picOf g).length - k) 0)∧GrR (intSR τ) A3 f 33 ((feetOf g).take k++List.replicate ((feetOf g).length - k) [])) (fun k=>N - k) 0 ((b5,.cells #[.int .i64 g.wide,c2,l,f] 68) :: (AC++(AL++AF++[(b2,.cells #[.int .i64 0,.slice none 0 0,.slice none 0 0,.slice none 0 0] 68),(b1,.cells #[.int .i64 g.wide,c] 25)]))) ⟨by omega,AL,AF,rfl,by rw [lp]; simpa using g2,AF,[],by simp,_,g3,by rw [lf]; simpa using nils_all N,by simp; omega⟩ ?_
 rintro k O ⟨hk,A2,A3,rfl,ga,gb⟩
 repeat first|refine R1 ?_|refine R2 fun _=>?_
 refine sf_if (fun h4=>?_) fun h4=>?_
 ·have hk4:k < N:=by omega
  repeat first|refine R1 ?_|refine R2 fun _=>?_
  refine fp (y_lend AC (fun h' _ i=>l13Look_f (M:=M) h' c2 g (g1.lent (by omega) i) e l f A2 A3 _ _ ga gb k (by omega) (by simp; omega) (by simp; omega)) (by rfl) ?_)
  rintro _ _ ⟨A5,A6,rfl,rfl,ga2,gb2⟩
  rw [← picOf_at (g:=g) (k:=k) (by omega),set_step (by omega)] at ga2
  rw [← feetOf_at (g:=g) (k:=k) (by omega),scene_step (by omega)] at gb2
  repeat first|refine R1 ?_|refine R2 fun _=>?_
  exact ⟨k + 1,by omega,⟨rfl,trivial⟩,rfl,(b5,.cells #[.int .i64 g.wide,c2,l,f] 68) :: (AC++(A5++A6++[(b2,.cells #[.int .i64 0,.slice none 0 0,.slice none 0 0,.slice none 0 0] 68),(b1,.cells #[.int .i64 g.wide,c] 25)])),_,inferInstance,by omega,A5,A6,rfl,ga2,gb2⟩
 ·refine sf_exit ?_
  obtain rfl:k = N:=by omega
  rw [lp,List.take_of_length_le (by omega),Nat.sub_self,List.replicate_zero,List.append_nil] at ga
  rw [lf,List.take_of_length_le (by omega),Nat.sub_self,List.replicate_zero,List.append_nil] at gb
  repeat first|refine R1 ?_|refine R2 fun _=>?_
  exact sf_ret (rO (AC++(A2++A3)) ⟨_,rfl,sceneO_mk (s:=sceneOf g) g1 (by simp only [sceneOf]; omega) ga (by simp only [sceneOf]; omega) gb⟩)
theorem l13Has_v (h:PHeap) (v:Value) (xs:List Int) (s:Sl h v intF xs) (a:Int):CallV Tryz.prog M 231 [v,.int .i64 a] h (.bool (decide (a ∈ xs))):=by
 have o1:=s.one
 have hs:=s.small
 refine Cs Tryz.func231 Tryz.ntmps231 ?_
 refine Wo ?_
 refine sf_lp (ι:=Nat) [0,1] (fun i=>[(5,.int .i64 (i:Int))]) (fun i O=>O = []∧i ≤ xs.length∧a ∉ xs.take i) (fun i=>xs.length - i) 0 [] ⟨rfl,by omega,by simp⟩ ?_
 rintro i O ⟨rfl,hi,hn⟩
 refine Wo ?_
 refine sf_if (fun h4=>?_) fun h4=>?_
 ·have hi4:i < xs.length:=by omega
  refine Wo ?_
  refine sf_if (fun h5=>?_) fun h5=>?_
  ·refine Wo ?_
   refine sf_ret (rV (bT ?_))
   rw [← h5,gt_eq hi4]; exact List.getElem_mem _
  ·refine Wo ?_
   refine ⟨i + 1,by omega,⟨rfl,trivial⟩,rfl,[],_,inferInstance,rfl,by omega,?_⟩
   rw [take_succ_gt hi4]
   simp only [List.mem_append,List.mem_singleton]
   rintro (e | e)
   ·exact hn e
   ·exact h5 e.symm
 ·refine sf_exit ?_
  refine Wo ?_
  refine sf_ret (rV (bF fun e=>hn ?_))
  rw [List.take_of_length_le (by omega)]; exact e
theorem l13Touch_f (h:PHeap) (ca:List Value) (s:Scene) (b:(sceneR τ).B h ca s) (hs:s.feet.length ≤ 1000000) (a:Int):CallF Tryz.prog M 229 [.agg ca.toArray,.int .i64 a] [] h fun u A=>Gr A u 3 intF (natsI (touched s.feet a)):=by
 obtain ⟨c,l,f,rfl,s1,s2,s3⟩:=sceneB b
 have o1:=s1.one
 have o2:=s2.one
 have o3:=s3.one
 obtain ⟨rx,s3,bx⟩:=s3
 have lx:=bx.len
 refine Cs Tryz.func229 Tryz.ntmps229 ?_
 repeat first|refine R1 ?_|refine R2 fun _=>?_
 rename_i b2
 refine Xb fun w AW gw=>?_
 repeat first|refine R1 ?_|refine R2 fun _=>?_
 refine sf_lp (ι:=Nat × Value) [1,2] (fun x=>[(5,x.2),(6,.int .i64 (x.1:Int))]) (fun x O=>x.1 ≤ s.feet.length∧∃ AW,O = AW++[(b2,.cells #[.int .i64 s.grid.wide,c,l,f] 68)]∧Gr AW x.2 3 intF (natsI (touchTo s.feet a x.1))) (fun x=>s.feet.length - x.1) (0,w) (AW++[(b2,.cells #[.int .i64 s.grid.wide,c,l,f] 68)]) ⟨by simp only; omega,AW,rfl,gw⟩ ?_
 rintro ⟨k,w⟩ O ⟨hk,AW,rfl,gx⟩
 simp only at hk gx ⊢
 have ow:=gx.one
 have hlen:=touchTo_len s.feet a k
 have hlen2:=natsI_len (touchTo s.feet a k)
 repeat first|refine R1 ?_|refine R2 fun _=>?_
 refine sf_if (fun h4=>?_) fun h4=>?_
 ·have hk4:k < s.feet.length:=by omega
  have hk5:k < rx.length:=by omega
  obtain ⟨vx,ex,sx4⟩:=bx.at hk4
  haveI:FlatV (rawF (intSR τ).sz) (gt rx k) [vx]:=⟨ex⟩
  have o4:=sx4.one
  repeat first|refine R1 ?_|refine R2 fun _=>?_
  refine Xv (l13Has_v _ _ _ sx4 a) ?_
  repeat first|refine R1 ?_|refine R2 fun _=>?_
  refine sf_if (fun h5=>?_) fun h5=>?_
  ·repeat first|refine R1 ?_|refine R2 fun _=>?_
   refine Xb fun u Au gu=>?_
   repeat first|refine R1 ?_|refine R2 fun _=>?_
   refine Xa gx gu fun w2 A2 g2=>?_
   repeat first|refine R1 ?_|refine R2 fun _=>?_
   exact ⟨(k + 1,w2),by simp only; omega,⟨rfl,rfl,trivial⟩,rfl,A2++[(b2,.cells #[.int .i64 s.grid.wide,c,l,f] 68)],_,inferInstance,by simp only; omega,A2,rfl,by simp only; rw [touchTo_step,if_pos h5,natsI_snoc]; exact g2⟩
  ·repeat first|refine R1 ?_|refine R2 fun _=>?_
   exact ⟨(k + 1,w),by simp only; omega,⟨rfl,rfl,trivial⟩,rfl,AW++[(b2,.cells #[.int .i64 s.grid.wide,c,l,f] 68)],_,inferInstance,by simp only; omega,AW,rfl,by simp only; rw [touchTo_step,if_neg h5]; exact gx⟩
 ·refine sf_exit ?_
  obtain rfl:k = s.feet.length:=by omega
  repeat first|refine R1 ?_|refine R2 fun _=>?_
  exact sf_ret (rO AW gx)
theorem l13Copy_f (h:PHeap) (ca:List Value) (s:Scene) (b:(sceneR τ).B h ca s) (hs:szSceneN s ≤ 1048576):CallF Tryz.prog M 226 [.agg ca.toArray] [] h fun u A=>∃ cs,u = .agg cs.toArray∧(sceneR τ).O A cs s:=by
 simp only [szSceneN,szIntSSN] at hs
 obtain ⟨c,l,f,rfl,s1,s2,s3⟩:=sceneB b
 have o1:=s1.one
 have o2:=s2.one
 have o3:=s3.one
 obtain ⟨rx,s3,bx⟩:=s3
 have lx:=bx.len
 refine Cs Tryz.func226 Tryz.ntmps226 ?_
 repeat first|refine R1 ?_|refine R2 fun _=>?_
 rename_i b1 b2
 apply viaT (G:=∀ (c2 l2:Value) (AC AL:Own) (b3:Nat),Gr AC c2 46 cellF s.grid.cells→Gr AL l2 3 intF s.lights→_)
 ·intro tail
  refine sf_draw (by kernel_rfl) (regX_split 2 3 (by rfl) (regX_split 2 8 (by rfl) (regX_split 3 8 (by rfl) (regX_split 6 8 (by rfl) ?_ ?_) ?_) ?_) (regX_split 2 8 (by rfl) (regX_split 6 8 (by rfl) ?_ ?_) (regX_split 3 8 (by rfl) ?_ ?_)))
  case' refine_1=>
   refine Sr [[],[0],[0,1],[0,1,2],[],[4],[0,1,2,3,4,5],[0,1,2,3,4,5,6],[0,1,2,3,4,5,6],[0,1,2,3,4,5,6,7,8]] 9 [Nn 0,Nn 1,Nn 4,Nn 5,Yy 2,Yy 3,Yy 6,Nn 7,Yy 8] ?_
   refine Da ?_
   refine Yc (l1Copy_f (M:=M) _ _ s.grid (gridB_mk s1) (by omega)) ?_
   rintro _ AC ⟨_,rfl,q⟩
   obtain ⟨c2,rfl,g1,l1⟩:=gridO q
   have o5:=g1.one
   refine Da ?_
   refine Yb fun e0 AE ge=>?_
   have o6:=ge.one
   refine Da ?_
   refine Ys ge s2 fun l2 AL g2=>?_
   have o7:=g2.one
   refine Da ?_
   refine Yl fun b3=>?_
   refine Da ?_
   refine Ae ?_
   repeat first|refine R1 ?_|refine R2 fun _=>?_
   refine sf_keep [1,2,3,4] ?_
   refine sf_own ((b3,.cells #[.int .i64 s.grid.wide,c2,l2,.slice none 0 0] 68) :: (AC++(AL++[(b2,.cells #[.int .i64 0,.slice none 0 0,.slice none 0 0,.slice none 0 0] 68),(b1,.cells #[.int .i64 s.grid.wide,c,l,f] 68)]))) ?_
   exact tail.out c2 l2 AC AL b3 g1 g2
  case' refine_2=>
   refine Sr [[],[0],[0,1],[0,1,2],[],[4],[0,1,2,3,4,5,8],[0,1,2,3,4,5,6,8],[0,1,2,3],[0,1,2,3,4,5,6,7,8]] 9 [Nn 0,Nn 1,Nn 4,Nn 5,Yy 2,Yy 3,Yy 8,Yy 6,Nn 7] ?_
   refine Da ?_
   refine Yc (l1Copy_f (M:=M) _ _ s.grid (gridB_mk s1) (by omega)) ?_
   rintro _ AC ⟨_,rfl,q⟩
   obtain ⟨c2,rfl,g1,l1⟩:=gridO q
   have o5:=g1.one
   refine Da ?_
   refine Yb fun e0 AE ge=>?_
   have o6:=ge.one
   refine Da ?_
   refine Yl fun b3=>?_
   refine Da ?_
   refine Ys ge s2 fun l2 AL g2=>?_
   have o7:=g2.one
   refine Da ?_
   refine Ae ?_
   repeat first|refine R1 ?_|refine R2 fun _=>?_
   refine sf_keep [1,2,3,4] ?_
   refine sf_own ((b3,.cells #[.int .i64 s.grid.wide,c2,l2,.slice none 0 0] 68) :: (AC++(AL++[(b2,.cells #[.int .i64 0,.slice none 0 0,.slice none 0 0,.slice none 0 0] 68),(b1,.cells #[.int .i64 s.grid.wide,c,l,f] 68)]))) ?_
   exact tail.out c2 l2 AC AL b3 g1 g2
  case' refine_3=>
   refine Sr [[],[0],[0,1],[0,1,2,8],[],[4],[0,1,2,3,4,5,8],[0,1,2,3,4,5,6,8],[0,1,2],[0,1,2,3,4,5,6,7,8]] 9 [Nn 0,Nn 1,Nn 4,Nn 5,Yy 2,Yy 8,Yy 3,Yy 6,Nn 7] ?_
   refine Da ?_
   refine Yc (l1Copy_f (M:=M) _ _ s.grid (gridB_mk s1) (by omega)) ?_
   rintro _ AC ⟨_,rfl,q⟩
   obtain ⟨c2,rfl,g1,l1⟩:=gridO q
   have o5:=g1.one
   refine Da ?_
   refine Yl fun b3=>?_
   refine Da ?_
   refine Yb fun e0 AE ge=>?_
   have o6:=ge.one
   refine Da ?_
   refine Ys ge s2 fun l2 AL g2=>?_
   have o7:=g2.one
   refine Da ?_
   refine Ae ?_
   repeat first|refine R1 ?_|refine R2 fun _=>?_
   refine sf_keep [1,2,3,4] ?_
   refine sf_own ((b3,.cells #[.int .i64 s.grid.wide,c2,l2,.slice none 0 0] 68) :: (AC++(AL++[(b2,.cells #[.int .i64 0,.slice none 0 0,.slice none 0 0,.slice none 0 0] 68),(b1,.cells #[.int .i64 s.grid.wide,c,l,f] 68)]))) ?_
   exact tail.out c2 l2 AC AL b3 g1 g2
  case' refine_4=>
   refine Sr [[],[0],[0,1,8],[0,1,2,8],[],[4],[0,1,2,3,4,5,8],[0,1,2,3,4,5,6,8],[],[0,1,2,3,4,5,6,7,8]] 9 [Nn 0,Nn 1,Nn 4,Nn 5,Yy 8,Yy 2,Yy 3,Yy 6,Nn 7] ?_
   refine Da ?_
   refine Yl fun b3=>?_
   refine Da ?_
   refine Yc (l1Copy_f (M:=M) _ _ s.grid (gridB_mk s1) (by omega)) ?_
   rintro _ AC ⟨_,rfl,q⟩
   obtain ⟨c2,rfl,g1,l1⟩:=gridO q
   have o5:=g1.one
   refine Da ?_
   refine Yb fun e0 AE ge=>?_
   have o6:=ge.one
   refine Da ?_
   refine Ys ge s2 fun l2 AL g2=>?_
   have o7:=g2.one
   refine Da ?_
   refine Ae ?_
   repeat first|refine R1 ?_|refine R2 fun _=>?_
   refine sf_keep [1,2,3,4] ?_
   refine sf_own ((b3,.cells #[.int .i64 s.grid.wide,c2,l2,.slice none 0 0] 68) :: (AC++(AL++[(b2,.cells #[.int .i64 0,.slice none 0 0,.slice none 0 0,.slice none 0 0] 68),(b1,.cells #[.int .i64 s.grid.wide,c,l,f] 68)]))) ?_
   exact tail.out c2 l2 AC AL b3 g1 g2
  case' refine_5=>
   refine Sr [[],[0],[0,1,3],[],[],[4],[0,1,2,3,4,5],[0,1,2,3,4,5,6],[0,1,2,3,4,5,6],[0,1,2,3,4,5,6,7,8]] 9 [Nn 0,Nn 1,Nn 4,Nn 5,Yy 3,Yy 2,Yy 6,Nn 7,Yy 8] ?_
   refine Da ?_
   refine Yb fun e0 AE ge=>?_
   have o6:=ge.one
   refine Da ?_
   refine Yc (l1Copy_f (M:=M) _ _ s.grid (gridB_mk s1) (by omega)) ?_
   rintro _ AC ⟨_,rfl,q⟩
   obtain ⟨c2,rfl,g1,l1⟩:=gridO q
   have o5:=g1.one
   refine Da ?_
   refine Ys ge s2 fun l2 AL g2=>?_
   have o7:=g2.one
   refine Da ?_
   refine Yl fun b3=>?_
   refine Da ?_
   refine Ae ?_
   repeat first|refine R1 ?_|refine R2 fun _=>?_
   refine sf_keep [1,2,3,4] ?_
   refine sf_own ((b3,.cells #[.int .i64 s.grid.wide,c2,l2,.slice none 0 0] 68) :: (AC++(AL++[(b2,.cells #[.int .i64 0,.slice none 0 0,.slice none 0 0,.slice none 0 0] 68),(b1,.cells #[.int .i64 s.grid.wide,c,l,f] 68)]))) ?_
   exact tail.out c2 l2 AC AL b3 g1 g2
  case' refine_6=>
   refine Sr [[],[0],[0,1,3],[],[],[4],[0,1,2,3,4,5,8],[0,1,2,3,4,5,6,8],[0,1,2,3],[0,1,2,3,4,5,6,7,8]] 9 [Nn 0,Nn 1,Nn 4,Nn 5,Yy 3,Yy 2,Yy 8,Yy 6,Nn 7] ?_
   refine Da ?_
   refine Yb fun e0 AE ge=>?_
   have o6:=ge.one
   refine Da ?_
   refine Yc (l1Copy_f (M:=M) _ _ s.grid (gridB_mk s1) (by omega)) ?_
   rintro _ AC ⟨_,rfl,q⟩
   obtain ⟨c2,rfl,g1,l1⟩:=gridO q
   have o5:=g1.one
   refine Da ?_
   refine Yl fun b3=>?_
   refine Da ?_
   refine Ys ge s2 fun l2 AL g2=>?_
   have o7:=g2.one
   refine Da ?_
   refine Ae ?_
   repeat first|refine R1 ?_|refine R2 fun _=>?_
   refine sf_keep [1,2,3,4] ?_
   refine sf_own ((b3,.cells #[.int .i64 s.grid.wide,c2,l2,.slice none 0 0] 68) :: (AC++(AL++[(b2,.cells #[.int .i64 0,.slice none 0 0,.slice none 0 0,.slice none 0 0] 68),(b1,.cells #[.int .i64 s.grid.wide,c,l,f] 68)]))) ?_
   exact tail.out c2 l2 AC AL b3 g1 g2
  case' refine_7=>
   refine Sr [[],[0],[0,1,3,8],[],[],[4],[0,1,2,3,4,5,8],[0,1,2,3,4,5,6,8],[3],[0,1,2,3,4,5,6,7,8]] 9 [Nn 0,Nn 1,Nn 4,Nn 5,Yy 3,Yy 8,Yy 2,Yy 6,Nn 7] ?_
   refine Da ?_
   refine Yb fun e0 AE ge=>?_
   have o6:=ge.one
   refine Da ?_
   refine Yl fun b3=>?_
   refine Da ?_
   refine Yc (l1Copy_f (M:=M) _ _ s.grid (gridB_mk s1) (by omega)) ?_
   rintro _ AC ⟨_,rfl,q⟩
   obtain ⟨c2,rfl,g1,l1⟩:=gridO q
   have o5:=g1.one
   refine Da ?_
   refine Ys ge s2 fun l2 AL g2=>?_
   have o7:=g2.one
   refine Da ?_
   refine Ae ?_
   repeat first|refine R1 ?_|refine R2 fun _=>?_
   refine sf_keep [1,2,3,4] ?_
   refine sf_own ((b3,.cells #[.int .i64 s.grid.wide,c2,l2,.slice none 0 0] 68) :: (AC++(AL++[(b2,.cells #[.int .i64 0,.slice none 0 0,.slice none 0 0,.slice none 0 0] 68),(b1,.cells #[.int .i64 s.grid.wide,c,l,f] 68)]))) ?_
   exact tail.out c2 l2 AC AL b3 g1 g2
  case' refine_8=>
   refine Sr [[],[0],[0,1,3,8],[8],[],[4],[0,1,2,3,4,5,8],[0,1,2,3,4,5,6,8],[],[0,1,2,3,4,5,6,7,8]] 9 [Nn 0,Nn 1,Nn 4,Nn 5,Yy 8,Yy 3,Yy 2,Yy 6,Nn 7] ?_
   refine Da ?_
   refine Yl fun b3=>?_
   refine Da ?_
   refine Yb fun e0 AE ge=>?_
   have o6:=ge.one
   refine Da ?_
   refine Yc (l1Copy_f (M:=M) _ _ s.grid (gridB_mk s1) (by omega)) ?_
   rintro _ AC ⟨_,rfl,q⟩
   obtain ⟨c2,rfl,g1,l1⟩:=gridO q
   have o5:=g1.one
   refine Da ?_
   refine Ys ge s2 fun l2 AL g2=>?_
   have o7:=g2.one
   refine Da ?_
   refine Ae ?_
   repeat first|refine R1 ?_|refine R2 fun _=>?_
   refine sf_keep [1,2,3,4] ?_
   refine sf_own ((b3,.cells #[.int .i64 s.grid.wide,c2,l2,.slice none 0 0] 68) :: (AC++(AL++[(b2,.cells #[.int .i64 0,.slice none 0 0,.slice none 0 0,.slice none 0 0] 68),(b1,.cells #[.int .i64 s.grid.wide,c,l,f] 68)]))) ?_
   exact tail.out c2 l2 AC AL b3 g1 g2
 intro c2 l2 AC AL b3 g1 g2
 have o5:=g1.one
 have o7:=g2.one
 repeat first|refine R1 ?_|refine R2 fun _=>?_
 refine sf_lp (ι:=Nat) [1,2,3] (fun k=>[(4,.int .i64 (k:Int))]) (fun k O=>k ≤ s.feet.length∧∃ fv A0 A1,O = (b3,.cells #[.int .i64 s.grid.wide,c2,l2,fv] 68) :: (A0++A1++(AC++(AL++[(b2,.cells #[.int .i64 0,.slice none 0 0,.slice none 0 0,.slice none 0 0] 68),(b1,.cells #[.int .i64 s.grid.wide,c,l,f] 68)])))∧∃ rs:List (Raw (intSR τ).sz),rs.length = k∧Gr A0 fv 33 (rawF (intSR τ).sz) rs∧OAll (intSR τ) A1 rs (s.feet.take k)) (fun k=>s.feet.length - k) 0 ((b3,.cells #[.int .i64 s.grid.wide,c2,l2,.slice none 0 0] 68) :: ([]++[]++(AC++(AL++[(b2,.cells #[.int .i64 0,.slice none 0 0,.slice none 0 0,.slice none 0 0] 68),(b1,.cells #[.int .i64 s.grid.wide,c,l,f] 68)])))) ⟨by omega,_,[],[],rfl,[],rfl,Gr.nil _ _,.nil⟩ ?_
 rintro k O ⟨hk,fv,A0,A1,rfl,rs,hr,gr,oa⟩
 have o8:=gr.one
 repeat first|refine R1 ?_|refine R2 fun _=>?_
 refine sf_if (fun h4=>?_) fun h4=>?_
 ·have hk4:k < s.feet.length:=by omega
  have hk5:k < rx.length:=by omega
  obtain ⟨vx,ex,sx4⟩:=bx.at hk4
  haveI:FlatV (rawF (intSR τ).sz) (gt rx k) [vx]:=⟨ex⟩
  have o9:=sx4.one
  have hsz:=sizeL_at (f:=List.length) hk4
  repeat first|refine R1 ?_|refine R2 fun _=>?_
  refine Sd [[],[0],[],[],[3],[],[3,4,5],[3,4,5,6],[2,3,4,5,6,7],[2,3,4,5,6,7,8],[0,1,2,3,4,5,6,7,8,9],[0,1,2,3,4,5,6,7,8,9,10],[0,1,2,3,4,5,6,7,8,9,10,11]] 10 [Nn 0,Nn 1,Nn 3,Nn 4,Nn 5,Nn 6,Nn 7,Yy 2,Yy 8,Yy 9] ?_
  refine Da ?_
  refine Yb fun e0 AE ge=>?_
  refine Da ?_
  refine Ys ge sx4 fun w AW gw=>?_
  have o10:=gw.one
  refine Da ?_
  refine Yb fun u Au gu=>?_
  refine Da ?_
  refine Ae ?_
  refine fp (y_append (by rfl) (by rfl) gr gu (by intro y hy; simp at hy; subst hy; exact (inferInstance:AllOne [w]).is) (by rfl) (by rfl) (by simp; omega) (by simp; omega) fun fv2 A5 g5=>?_)
  have o11:=g5.one
  repeat first|refine R1 ?_|refine R2 fun _=>?_
  refine ⟨k + 1,by omega,⟨rfl,trivial⟩,rfl,(b3,.cells #[.int .i64 s.grid.wide,c2,l2,fv2] 68) :: (A5++(A1++AW)++(AC++(AL++[(b2,.cells #[.int .i64 0,.slice none 0 0,.slice none 0 0,.slice none 0 0] 68),(b1,.cells #[.int .i64 s.grid.wide,c,l,f] 68)]))),_,inferInstance,by omega,fv2,A5,A1++AW,rfl,_,by simp [hr],g5,?_⟩
  rw [take_succ_gt hk4]
  exact oa.snoc ⟨w,rfl,gw,by omega⟩
 ·refine sf_exit ?_
  obtain rfl:k = s.feet.length:=by omega
  rw [List.take_of_length_le (Nat.le_refl _)] at oa
  repeat first|refine R1 ?_|refine R2 fun _=>?_
  refine sf_ret (rO (AC++(AL++(A0++A1))) ⟨_,rfl,?_⟩)
  exact sceneO_mk (s:=s) g1 (by omega) g2 (by omega) ⟨A0,A1,rfl,rs,gr,oa,by omega⟩
theorem l13Do_f (h : PHeap) (c l f v : Value) (X1 X2 X3 : Own) (s : Scene) (e : Edit) (g1 : Gr X1 c 46 cellF s.grid.cells) (g2 : Gr X2 l 3 intF s.lights) (g3 : GrR (intSR τ) X3 f 33 s.feet) (sv : Sl h v editF [e]) (hg : gridOk s.grid = true) (he : editOk s.grid e = true) (hl : (s.lights.length : Int) = manyOf s.grid) (hf : (s.feet.length : Int) = manyOf s.grid) :
  CallF Tryz.prog M 225 [.agg #[.int .i64 s.grid.wide,c,l,f],v] (X1++(X2++X3)) h fun u A=>∃ w,u = .tuple #[.agg #[.int .i64 s.grid.wide,c,l,f],w]∧(sceneR τ).O A [.int .i64 s.grid.wide,c,l,f] (editScene s e)∧Sl.One w:=by
 have kg:=gok hg
 have hm:=kg.many
 have hsm:=kg.small
 have hg':=gridOk_put hg he
 have hmp:=manyOf_put s.grid e
 have q:(sceneR τ).O (X1++(X2++X3)) [.int .i64 s.grid.wide,c,l,f] s:=sceneO_mk g1 (by omega) g2 (by omega) g3
 have o1:=g1.one
 have o2:=g2.one
 have o3:=g3.one
 have o4:=sv.one
 have hea:0 ≤ e.at'∧e.at' < s.grid.cells.length:=by simp only [editOk,Bool.and_eq_true,decide_eq_true_eq] at he; omega
 obtain ⟨N,hN⟩:∃ N,s.feet.length = N:=⟨_,rfl⟩
 obtain ⟨ks,hks⟩:∃ ks,touched s.feet e.at' = ks:=⟨_,rfl⟩
 have hkl:∀ k ∈ ks,k < N:=fun k hk=>by rw [← hks] at hk; rw [← hN]; exact touchTo_lt hk
 have hkn:ks.length ≤ N:=by rw [← hks,← hN]; exact touchTo_len _ _ _
 have eg:∀ i,i < [e].length→gt [e] i = e:=fun i hi=>by
  obtain rfl:i = 0:=by simpa using hi
  rfl
 obtain ⟨F0,F1,rfl,rs,gr,oa,hb⟩:=id g3
 have hr:=oa.len
 refine Cs Tryz.func225 Tryz.ntmps225 ?_
 repeat first|refine R1 ?_|refine R2 fun _=>?_
 rename_i b2 b4
 refine Xm fun vb AB gb=>?_
 have o5:=gb.one
 rw [show rs.length = N by omega] at gb
 repeat first|refine R1 ?_|refine R2 fun _=>?_
 refine Xb fun w7 A7 g7=>?_
 have o6:=g7.one
 repeat first|refine R1 ?_|refine R2 fun _=>?_
 refine sf_lp (ι:=Nat × List Bool) [1,2,4,6,7] (fun x=>[(8,.int .i64 (x.1:Int))]) (fun x O=>x.1 ≤ 1∧∃ AB,O = AB++(A7++((b2,.cells #[.int .i64 s.grid.wide,c,l,f] 68) :: ((b4,.cells #[.int .i64 0,.slice none 0 0,.slice none 0 0,.slice none 0 0] 68) :: (X1++(X2++(F0++F1))))))∧Gr AB vb 4 boolF x.2∧x.2.length = N∧(x.1 = 0→∀ k,k < N→gt x.2 k = false)∧(x.1 = 1→∀ k,k < N→gt x.2 k = decide (k ∈ ks))) (fun x=>1 - x.1) (0,List.replicate N false) (AB++(A7++((b2,.cells #[.int .i64 s.grid.wide,c,l,f] 68) :: ((b4,.cells #[.int .i64 0,.slice none 0 0,.slice none 0 0,.slice none 0 0] 68) :: (X1++(X2++(F0++F1))))))) ⟨by simp only; omega,AB,rfl,gb,by simp,fun _ k hk=>by simp [gt,hk],fun h0=>by cases h0⟩ ?_
 clear gb
 rintro ⟨i,bs⟩ O ⟨hi,AB,rfl,gb,hbl,hb0,hb1⟩
 simp only at hi gb hbl hb0 hb1 ⊢
 repeat first|refine R1 ?_|refine R2 fun _=>?_
 refine sf_if (fun h4=>?_) fun h4=>?_
 ·have hi4:i < [e].length:=by simp only [List.length_cons,List.length_nil]; simp at h4; omega
  have ee:=eg i hi4
  obtain rfl:i = 0:=by simpa using hi4
  repeat first|refine R1 ?_|refine R2 fun _=>?_
  refine Sd [[],[],[],[1,2],[1,2,3],[1,2,3,4],[0,1,2,3,4,5],[0,1,2,3,4,5,6]] 6 [Nn 0,Nn 1,Nn 2,Nn 3,Nn 4,Nn 5] ?_
  refine Da ?_
  refine Ae ?_
  refine fp (y_lend (X1++(X2++(F0++F1))) (fun h' _ i'=>l13Touch_f (M:=M) h' _ s ((sceneR τ).lent q i') (by omega) e.at') (by rfl) ?_)
  rintro w9 AT gw
  rw [hks] at gw
  have o7:=gw.one
  repeat first|refine R1 ?_|refine R2 fun _=>?_
  refine sf_lp (ι:=Nat × List Bool) [1,2,4,6,7,8,9] (fun x=>[(10,.int .i64 (x.1:Int))]) (fun x O=>x.1 ≤ ks.length∧∃ AB,O = AB++(AT++(A7++((b2,.cells #[.int .i64 s.grid.wide,c,l,f] 68) :: ((b4,.cells #[.int .i64 0,.slice none 0 0,.slice none 0 0,.slice none 0 0] 68) :: (X1++(X2++(F0++F1)))))))∧Gr AB vb 4 boolF x.2∧x.2.length = N∧∀ k,k < N→gt x.2 k = decide (k ∈ ks.take x.1)) (fun x=>ks.length - x.1) (0,bs) (AB++(AT++(A7++((b2,.cells #[.int .i64 s.grid.wide,c,l,f] 68) :: ((b4,.cells #[.int .i64 0,.slice none 0 0,.slice none 0 0,.slice none 0 0] 68) :: (X1++(X2++(F0++F1)))))))) ⟨by simp only; omega,AB,rfl,gb,hbl,fun k hk=>by simp only [hb0 rfl k hk]; simp⟩ ?_
  clear gb hb0 hb1 hbl
  rintro ⟨j,bs⟩ O ⟨hj,AB,rfl,gb,hbl,hb⟩
  simp only at hj gb hbl hb ⊢
  have hnl:=natsI_len ks
  repeat first|refine R1 ?_|refine R2 fun _=>?_
  refine sf_if (fun h5=>?_) fun h5=>?_
  ·have hj4:j < ks.length:=by omega
   have hj5:j < (natsI ks).length:=by omega
   have hz:=natsI_at hj4
   have hz1:=hkl (gt ks j) (by rw [gt_eq hj4]; exact List.getElem_mem _)
   have hz0:0 ≤ gt (natsI ks) j:=by omega
   have hz2:gt (natsI ks) j < (bs.length:Int):=by omega
   repeat first|refine R1 ?_|refine R2 fun _=>?_|refine fp (Rq ?_ (z_indexGI (by rfl) (by rfl) (by assumption) (by omega) (by omega)))
   refine Xg gb fun A2 ys hy hly fv gy=>?_
   repeat first|refine R1 ?_|refine R2 fun _=>?_
   refine ⟨(j + 1,ys),by simp only; omega,⟨rfl,trivial⟩,rfl,A2++(AT++(A7++((b2,.cells #[.int .i64 s.grid.wide,c,l,f] 68) :: ((b4,.cells #[.int .i64 0,.slice none 0 0,.slice none 0 0,.slice none 0 0] 68) :: (X1++(X2++(F0++F1))))))),_,inferInstance,by simp only; omega,A2,rfl,gy,by simp only; omega,fun k hk=>?_⟩
   simp only
   rw [hy,take_succ_gt hj4]
   by_cases ek:(gt (natsI ks) j).toNat = k
   ·subst ek
    rw [gt_set (by omega)]
    have:(gt (natsI ks) j).toNat = gt ks j:=by omega
    simp [this]
   ·rw [gt_set_ne ek,hb k hk]
    have:¬ k = gt ks j:=by omega
    simp [this]
  ·refine sf_exit ?_
   obtain rfl:j = ks.length:=by omega
   rw [List.take_of_length_le (Nat.le_refl _)] at hb
   repeat first|refine R1 ?_|refine R2 fun _=>?_
   exact ⟨(1,bs),by simp,⟨rfl,trivial⟩,rfl,AB++(A7++((b2,.cells #[.int .i64 s.grid.wide,c,l,f] 68) :: ((b4,.cells #[.int .i64 0,.slice none 0 0,.slice none 0 0,.slice none 0 0] 68) :: (X1++(X2++(F0++F1)))))),_,inferInstance,by simp,AB,rfl,gb,hbl,fun h0=>(by cases h0),fun _=>hb⟩
 refine sf_exit ?_
 obtain rfl:i = 1:=by simp at h4; omega
 have hb:=hb1 rfl
 clear hb0 hb1
 repeat first|refine R1 ?_|refine R2 fun _=>?_
 refine sf_lp (ι:=Nat × List Cell) [1,2,4,6,7] (fun x=>[(11,.int .i64 (x.1:Int))]) (fun x O=>x.1 ≤ 1∧∃ X1,O = AB++(A7++((b2,.cells #[.int .i64 s.grid.wide,c,l,f] 68) :: ((b4,.cells #[.int .i64 0,.slice none 0 0,.slice none 0 0,.slice none 0 0] 68) :: (X1++(X2++(F0++F1))))))∧Gr X1 c 46 cellF x.2∧(x.1 = 0→x.2 = s.grid.cells)∧(x.1 = 1→x.2 = (putCell s.grid e).cells)) (fun x=>1 - x.1) (0,s.grid.cells) (AB++(A7++((b2,.cells #[.int .i64 s.grid.wide,c,l,f] 68) :: ((b4,.cells #[.int .i64 0,.slice none 0 0,.slice none 0 0,.slice none 0 0] 68) :: (X1++(X2++(F0++F1))))))) ⟨by simp,X1,rfl,g1,fun _=>rfl,fun h0=>by cases h0⟩ ?_
 clear q g1
 rintro ⟨i,cl⟩ O ⟨hi,X1,rfl,g1,hc0,hc1⟩
 simp only at hi g1 hc0 hc1 ⊢
 repeat first|refine R1 ?_|refine R2 fun _=>?_
 refine sf_if (fun h4=>?_) fun h4=>?_
 ·have hi4:i < [e].length:=by simp only [List.length_cons,List.length_nil]; simp at h4; omega
  have ee:=eg i hi4
  obtain rfl:i = 0:=by simpa using hi4
  obtain rfl:=hc0 rfl
  have ha0:0 ≤ (gt [e] 0).at':=hea.1
  have ha1:(gt [e] 0).at' < (s.grid.cells.length:Int):=hea.2
  repeat first|refine R1 ?_|refine R2 fun _=>?_
  refine Sd [[],[0],[0,1],[],[],[3,4],[3,4,5],[3,4,5,6],[],[],[8,9],[8,9,10],[8,9,10,11],[0,1,2,3,4,5,6,7,8,9,10,11,12],[0,1,2,3,4,5,6,7,8,9,10,11,12,13]] 13 [Nn 0,Nn 1,Nn 2,Nn 3,Nn 4,Nn 5,Nn 6,Nn 7,Nn 8,Nn 9,Nn 10,Nn 11,Nn 12] ?_
  refine Da ?_
  refine Ae ?_
  repeat first|refine R1 ?_|refine R2 fun _=>?_|refine fp (Rq ?_ (z_indexGI (by rfl) (by rfl) (by assumption) (by omega) (by omega)))
  refine Xg g1 fun A2 ys hy hly fv gy=>?_
  repeat first|refine R1 ?_|refine R2 fun _=>?_
  exact ⟨(1,ys),by simp,⟨rfl,trivial⟩,rfl,AB++(A7++((b2,.cells #[.int .i64 s.grid.wide,c,l,f] 68) :: ((b4,.cells #[.int .i64 0,.slice none 0 0,.slice none 0 0,.slice none 0 0] 68) :: (A2++(X2++(F0++F1)))))),_,inferInstance,by simp,A2,rfl,gy,fun h0=>(by cases h0),fun _=>hy⟩
 refine sf_exit ?_
 obtain rfl:i = 1:=by simp at h4; omega
 obtain rfl:=hc1 rfl
 clear hc0 hc1
 repeat first|refine R1 ?_|refine R2 fun _=>?_
 refine sf_lp (ι:=Nat × Value) [2,4,6] (fun x=>[(7,x.2),(12,.int .i64 (x.1:Int))]) (fun x O=>x.1 ≤ N∧∃ A2 A3 AW,O = AW++(AB++((b2,.cells #[.int .i64 s.grid.wide,c,l,f] 68) :: ((b4,.cells #[.int .i64 0,.slice none 0 0,.slice none 0 0,.slice none 0 0] 68) :: (X1++(A2++A3)))))∧Gr A2 l 3 intF (lookL (putCell s.grid e) (touchTo s.feet e.at' x.1) s.lights)∧GrR (intSR τ) A3 f 33 (lookF (putCell s.grid e) (touchTo s.feet e.at' x.1) s.feet)∧Gr AW x.2 3 intF (natsI (touchTo s.feet e.at' x.1))) (fun x=>N - x.1) (0,w7) (A7++(AB++((b2,.cells #[.int .i64 s.grid.wide,c,l,f] 68) :: ((b4,.cells #[.int .i64 0,.slice none 0 0,.slice none 0 0,.slice none 0 0] 68) :: (X1++(X2++(F0++F1))))))) ⟨by simp,X2,F0++F1,A7,rfl,g2,g3,g7⟩ ?_
 clear g2 g3 g7 gr oa
 rintro ⟨k,w7⟩ O ⟨hk,A2,A3,AW,rfl,ga,gf,gx⟩
 simp only at hk ga gf gx ⊢
 have o7:=gx.one
 have hll:=lookL_len (putCell s.grid e) (touchTo s.feet e.at' k) s.lights
 have hfl:=lookF_len (putCell s.grid e) (touchTo s.feet e.at' k) s.feet
 have htl:=touchTo_len s.feet e.at' k
 have hnl:=natsI_len (touchTo s.feet e.at' k)
 repeat first|refine R1 ?_|refine R2 fun _=>?_
 refine sf_if (fun h4=>?_) fun h4=>?_
 ·have hk4:k < N:=by omega
  have hk5:k < bs.length:=by omega
  repeat first|refine R1 ?_|refine R2 fun _=>?_
  rw [hb k hk4,← hks]
  refine sf_if (fun h5=>?_) fun h5=>?_
  ·have h6:=(mem_touched (by omega)).1 h5
   repeat first|refine R1 ?_|refine R2 fun _=>?_
   refine fp (y_lend X1 (fun h' _ i=>l13Look_f (M:=M) h' c (putCell s.grid e) (g1.lent (by rw [show (putCell s.grid e).cells.length = s.grid.cells.length by simp [putCell]]; omega) i) hg' l f A2 A3 _ _ ga gf k (by omega) (by omega) (by omega)) (by rfl) ?_)
   rintro u0 _ ⟨A5,A6,e1,rfl,ga2,gf2⟩
   have e2:u0 = .agg #[.int .i64 s.grid.wide,c,l,f]:=e1
   subst e2
   repeat first|refine R1 ?_|refine R2 fun _=>?_
   refine Xb fun u Au gu=>?_
   repeat first|refine R1 ?_|refine R2 fun _=>?_
   refine Xa gx gu fun w2 A4 g4=>?_
   repeat first|refine R1 ?_|refine R2 fun _=>?_
   refine ⟨(k + 1,w2),by simp only; omega,⟨rfl,rfl,trivial⟩,rfl,A4++(AB++((b2,.cells #[.int .i64 s.grid.wide,c,l,f] 68) :: ((b4,.cells #[.int .i64 0,.slice none 0 0,.slice none 0 0,.slice none 0 0] 68) :: (X1++(A5++A6))))),_,inferInstance,by simp only; omega,A5,A6,A4,rfl,?_,?_,?_⟩
   ·simp only; rw [touchTo_step,if_pos h6,lookL_snoc]; exact ga2
   ·simp only; rw [touchTo_step,if_pos h6,lookF_snoc]; exact gf2
   ·simp only; rw [touchTo_step,if_pos h6,natsI_snoc]; exact g4
  ·have h6:¬ e.at' ∈ gt s.feet k:=fun z=>h5 ((mem_touched (by omega)).2 z)
   repeat first|refine R1 ?_|refine R2 fun _=>?_
   refine ⟨(k + 1,w7),by simp only; omega,⟨rfl,rfl,trivial⟩,rfl,AW++(AB++((b2,.cells #[.int .i64 s.grid.wide,c,l,f] 68) :: ((b4,.cells #[.int .i64 0,.slice none 0 0,.slice none 0 0,.slice none 0 0] 68) :: (X1++(A2++A3))))),_,inferInstance,by simp only; omega,A2,A3,AW,rfl,?_,?_,?_⟩
   ·simp only; rw [touchTo_step,if_neg h6]; exact ga
   ·simp only; rw [touchTo_step,if_neg h6]; exact gf
   ·simp only; rw [touchTo_step,if_neg h6]; exact gx
 ·refine sf_exit ?_
  obtain rfl:k = N:=by omega
  subst hN
  repeat first|refine R1 ?_|refine R2 fun _=>?_
  refine sf_ret (rO (X1++(A2++A3)) ⟨_,rfl,?_,o7⟩)
  exact sceneO_mk (s:=editScene s e) g1 (by simp only [editScene,putCell,List.length_set]; omega) ga (by simp only [editScene]; rw [lookL_len]; omega) gf
theorem sNoWordO':(wordR τ).O [] (wordCs noWord (.slice none 0 0) (.slice none 0 0)) noWord:=wordO_mk (w:=noWord) (Gr.nil _ _) (by decide) (Gr.nil _ _) (by decide)
theorem l21Tell_f (h:PHeap) (ca:List Value) (p:Painter) (b:(painterR τ).B h ca p) (ok:paintOk p = true) (id many:Int) (hid:idOk id many = true):CallF Tryz.prog M 196 [.agg ca.toArray,.int .i64 id,.int .i64 many] [] h fun u A=>∃ cs,u = .tuple #[.agg cs.toArray,.bool (paintTold p id many).2]∧(wordR τ).O A cs (paintTold p id many).1:=by
 obtain ⟨c,l,f,rfl,s1,s2,s3⟩:=painterB b
 have o1:=s1.one
 have o2:=s2.one
 have o3:=s3.one
 simp only [idOk,Bool.and_eq_true,decide_eq_true_eq] at hid
 refine Cs Tryz.func196 Tryz.ntmps196 ?_
 repeat first|refine R1 ?_|refine R2 fun _=>?_
 refine sf_cond (by rfl) (fun e1=>?_) fun e1=>?_
 ·simp only [Bool.not_eq_true'] at e1
  repeat first|refine R1 ?_|refine R2 fun _=>?_
  rw [paintTold,if_pos e1]
  exact sf_ret (rO [] ⟨_,rfl,sNoWordO'⟩)
 simp only [Bool.not_eq_false'] at e1
 repeat first|refine R1 ?_|refine R2 fun _=>?_
 refine sf_cond (by rfl) (fun e2=>?_) fun e2=>?_
 ·simp only [Bool.not_eq_true'] at e2
  repeat first|refine R1 ?_|refine R2 fun _=>?_
  rw [paintTold,if_neg (by rw [e1]; decide),if_pos e2]
  exact sf_ret (rO [] ⟨wordCs ⟨4,0,id,0,noGrid,noEdit,[]⟩ (.slice none 0 0) (.slice none 0 0),rfl,wordO_mk (w:=⟨4,0,id,0,noGrid,noEdit,[]⟩) (Gr.nil _ _) (by simp [noGrid]) (Gr.nil _ _) (by simp)⟩)
 simp only [Bool.not_eq_false'] at e2
 obtain ⟨hup,hv0,hv1,hsc⟩:=paintOk_has ok e2
 obtain ⟨hg,hs⟩:=sceneOk_is hsc
 have kg:=gok hg
 have hm:=kg.many
 obtain ⟨N,hN⟩:∃ N:Nat,manyOf p.scene.grid = N:=⟨(manyOf p.scene.grid).toNat,by omega⟩
 have hll:p.scene.lights.length = N:=by rw [hs]; simp only [sceneOf]; rw [picOf_len,hN]; simp
 obtain ⟨i,rfl⟩:∃ i:Nat,id = i:=⟨id.toNat,by omega⟩
 obtain ⟨m,rfl⟩:∃ m:Nat,many = m:=⟨many.toNat,by omega⟩
 have hres:paintTold p i m = (⟨3,0,i,p.ver,noGrid,noEdit,ownLights p.scene.lights N m i⟩,true):=by
  rw [paintTold,if_neg (by rw [e1]; decide),if_neg (by rw [e2]; decide),hN]; simp
 rw [hres]
 repeat first|refine R1 ?_|refine R2 fun _=>?_
 rename_i b3 b6
 refine Xb fun lv0 AL0 gl0=>?_
 have ol0:=gl0.one
 repeat first|refine R1 ?_|refine R2 fun _=>?_
 rename_i b8
 refine fp (y_call (l21Own_f (M:=M) _ _ p.scene.grid s1 kg i m (by omega) (by omega) (by omega)) (by rfl) ?_)
 intro w AW gw
 have ow:=gw.one
 rw [hN] at gw
 simp only [Int.toNat_natCast] at gw
 have lw:=ownList_len N m i
 have hc:∀ j,j < ownCnt N m i ↔ i - 1 + j * m < N:=fun j=>ownCnt_lt (by omega) (by omega) (by omega)
 have hln:ownCnt N m i ≤ 20:=by
  rcases Nat.lt_or_ge 20 (ownCnt N m i) with h | h
  ·have:=(hc 20).1 h
   have:20 * 1 ≤ 20 * m:=Nat.mul_le_mul_left _ (by omega)
   omega
  ·exact h
 have hat:∀ j,j < ownCnt N m i→gt (ownList N m i) j = ((i - 1 + j * m:Nat):Int):=fun j hj=>ownList_at hj
 unfold ownLights
 generalize hxs:ownList N m i = xs at *
 repeat first|refine R1 ?_|refine R2 fun _=>?_
 refine sf_lp (ι:=Nat) [3,6,8,9] (fun x=>[(10,.int .i64 (x:Int))]) (fun x O=>x ≤ xs.length∧∃ lv A',O = (b8,.cells #[.int .i64 3,.int .i64 0,.int .i64 (i:Int),.int .i64 p.ver,.int .i64 0,.slice none 0 0,.int .i64 0,.int .i64 0,.int .i64 0,lv] 50) :: (A'++(AW++[(b6,.cells #[.int .i64 0,.int .i64 0,.int .i64 0,.int .i64 0,.int .i64 0,.slice none 0 0,.int .i64 0,.int .i64 0,.int .i64 0,.slice none 0 0] 50),(b3,.cells #[.bool p.up,.bool p.has,.int .i64 p.ver,.int .i64 p.scene.grid.wide,c,l,f] 70)]))∧Gr A' lv 3 intF ((xs.take x).map fun k=>gt p.scene.lights k.toNat)) (fun x=>xs.length - x) 0 ((b8,.cells #[.int .i64 3,.int .i64 0,.int .i64 (i:Int),.int .i64 p.ver,.int .i64 0,.slice none 0 0,.int .i64 0,.int .i64 0,.int .i64 0,lv0] 50) :: (AL0++(AW++[(b6,.cells #[.int .i64 0,.int .i64 0,.int .i64 0,.int .i64 0,.int .i64 0,.slice none 0 0,.int .i64 0,.int .i64 0,.int .i64 0,.slice none 0 0] 50),(b3,.cells #[.bool p.up,.bool p.has,.int .i64 p.ver,.int .i64 p.scene.grid.wide,c,l,f] 70)]))) ⟨by omega,_,AL0,rfl,gl0⟩ ?_
 rintro j O ⟨hj,lv,A',rfl,gr⟩
 have o4:=gr.one
 have hlt:((xs.take j).map fun k=>gt p.scene.lights k.toNat).length = j:=by rw [List.length_map,List.length_take]; omega
 repeat first|refine R1 ?_|refine R2 fun _=>?_
 refine sf_if (fun h4=>?_) fun h4=>?_
 ·have hj4:j < ownCnt N m i:=by omega
  have ha:=hat j hj4
  have hb:=(hc j).1 hj4
  have hstep:((xs.take (j + 1)).map fun k=>gt p.scene.lights k.toNat) = ((xs.take j).map fun k=>gt p.scene.lights k.toNat)++[gt p.scene.lights (gt xs j).toNat]:=by
   rw [take_succ_gt (by omega),List.map_append]; rfl
  have hz0:0 ≤ gt xs j:=by omega
  have hz1:(gt xs j).toNat < p.scene.lights.length:=by omega
  repeat first|refine R1 ?_|refine R2 fun _=>?_
  refine Sd [[],[0],[],[2],[2,3],[],[],[5,6],[5,6,7],[2,3,4,5,6,7,8],[2,3,4,5,6,7,8,9],[2,3,4,5,6,7,8,9,10],[0,1,2,3,4,5,6,7,8,9,10,11],[0,1,2,3,4,5,6,7,8,9,10,11,12],[0,1,2,3,4,5,6,7,8,9,10,11,12,13]] 12 [Nn 0,Nn 1,Nn 2,Nn 3,Nn 4,Nn 5,Nn 6,Nn 7,Nn 8,Nn 9,Nn 10,Yy 11] ?_
  refine Da ?_
  refine Yb fun u Au gu=>?_
  refine Da ?_
  refine Ae ?_
  refine Xa gr gu fun lv2 A2 g2=>?_
  have o5:=g2.one
  repeat first|refine R1 ?_|refine R2 fun _=>?_
  exact ⟨j + 1,by omega,⟨rfl,trivial⟩,rfl,(b8,.cells #[.int .i64 3,.int .i64 0,.int .i64 (i:Int),.int .i64 p.ver,.int .i64 0,.slice none 0 0,.int .i64 0,.int .i64 0,.int .i64 0,lv2] 50) :: (A2++(AW++[(b6,.cells #[.int .i64 0,.int .i64 0,.int .i64 0,.int .i64 0,.int .i64 0,.slice none 0 0,.int .i64 0,.int .i64 0,.int .i64 0,.slice none 0 0] 50),(b3,.cells #[.bool p.up,.bool p.has,.int .i64 p.ver,.int .i64 p.scene.grid.wide,c,l,f] 70)])),_,inferInstance,by omega,lv2,A2,rfl,by rw [hstep]; exact g2⟩
 ·refine sf_exit ?_
  repeat first|refine R1 ?_|refine R2 fun _=>?_
  rw [take_ge hj (by omega)] at gr
  refine sf_ret (rO ([]++A') ⟨wordCs ⟨3,0,i,p.ver,noGrid,noEdit,xs.map fun k=>gt p.scene.lights k.toNat⟩ (.slice none 0 0) lv,rfl,?_⟩)
  exact wordO_mk (τ:=τ) (w:=⟨3,0,i,p.ver,noGrid,noEdit,xs.map fun k=>gt p.scene.lights k.toNat⟩) (Gr.nil _ _) (by simp [noGrid]) gr (by simp; omega)
theorem painterO_sc {A:Own} {cs:List Value} {sc:Scene} (q:(sceneR τ).O A cs sc) (u hs:Bool) (v:Int):(painterR τ).O A (.bool u :: .bool hs :: .int .i64 v :: cs) ⟨u,hs,v,sc⟩:=by
 obtain ⟨c,l,f,A1,A2,A3,rfl,rfl,⟨g1,j1⟩,⟨g2,j2⟩,g3⟩:=sceneO q
 exact painterO_mk (p:=⟨u,hs,v,sc⟩) g1 j1 g2 j2 g3
theorem l21Hear_f (h : PHeap) (cb : List Value) (p : Painter) (w : Word) (c l f : Value) (X1 X2 X3 : Own) (g1 : Gr X1 c 46 cellF p.scene.grid.cells) (g2 : Gr X2 l 3 intF p.scene.lights) (g3 : GrR (intSR τ) X3 f 33 p.scene.feet) (ok : paintOk p = true) (hs : szPainterN p ≤ 1048576) (bw : (wordR τ).B h cb w) :
  CallF Tryz.prog M 216 [.agg #[.bool p.up,.bool p.has,.int .i64 p.ver,.int .i64 p.scene.grid.wide,c,l,f],.agg cb.toArray] (X1++(X2++X3)) h fun u A=>∃ cs,u = .agg cs.toArray∧(painterR τ).O A cs (paintHeard p w):=by
 have hs':=hs
 simp only [szPainterN,szSceneN,szIntSSN] at hs'
 have qs:(sceneR τ).O (X1++(X2++X3)) _ p.scene:=sceneO_mk g1 (by omega) g2 (by omega) g3
 have qp:(painterR τ).O (X1++(X2++X3)) _ p:=painterO_mk g1 (by omega) g2 (by omega) g3
 have o1:=g1.one
 have o2:=g2.one
 have o3:=g3.one
 obtain ⟨wc,wl,ecb,sw1,sw2⟩:=wordB bw
 have ecb':cb = [.int .i64 w.kind,.int .i64 w.to,.int .i64 w.frm,.int .i64 w.ver,.int .i64 w.grid.wide,wc,.int .i64 w.edit.at',.int .i64 w.edit.cell.kind,.int .i64 w.edit.cell.light,wl]:=ecb
 subst ecb'
 clear ecb
 have o4:=sw1.one
 have o5:=sw2.one
 refine Cs Tryz.func216 Tryz.ntmps216 ?_
 repeat first|refine R1 ?_|refine R2 fun _=>?_
 refine sf_cond (by rfl) (fun e=>?_) fun e=>?_
 ·simp only [Bool.not_eq_true'] at e
  repeat first|refine R1 ?_|refine R2 fun _=>?_
  rw [heard_up e]
  exact sf_ret (rO (X1++(X2++X3)) ⟨_,rfl,qp⟩)
 simp only [Bool.not_eq_false'] at e
 repeat first|refine R1 ?_|refine R2 fun _=>?_
 refine sf_if (fun e1=>?_) fun e1=>?_
 ·rw [heard1 e e1]
  repeat first|refine R1 ?_|refine R2 fun _=>?_
  refine fp (y_call (sSceneNew_f (M:=M) _ _ w.grid (gridB_mk sw1)) (by rfl) ?_)
  rintro _ A1 ⟨cs,rfl,q⟩
  by_cases eg:gridOk w.grid = true
  ·have en:sceneNew w.grid = (sceneOf w.grid,true):=by rw [sceneNew,if_pos eg]
   rw [en] at q ⊢
   obtain ⟨c2,l2,f2,Y1,Y2,Y3,rfl,rfl,⟨k1,j1⟩,⟨k2,j2⟩,k3⟩:=sceneO q
   have o6:=k1.one
   have o7:=k2.one
   have o8:=k3.one
   simp only at k1 k2 k3 j1 j2 q ⊢
   repeat first|refine R1 ?_|refine R2 fun _=>?_
   refine Xv (l6In_v _ _ _ _) ?_
   repeat first|refine R1 ?_|refine R2 fun _=>?_
   refine f_splitB (fun e2=>?_) fun e2=>?_
   ·repeat first|refine R1 ?_|refine R2 fun _=>?_
    refine f_splitB (fun e3=>?_) fun e3=>?_
    ·have e3':p.has = false:=by simpa using e3
     repeat first|refine R1 ?_|refine R2 fun _=>?_
     refine sf_cond (by rfl) (fun e4=>?_) fun e4=>?_
     ·repeat first|refine R1 ?_|refine R2 fun _=>?_
      rw [if_pos ⟨by simpa using e2,fun z=>by (rw [e3'] at z; cases z),eg⟩]
      exact sf_ret (rO (Y1++(Y2++Y3)) ⟨_,rfl,painterO_mk (p:=⟨true,true,w.ver,sceneOf w.grid⟩) k1 j1 k2 j2 k3⟩)
     ·simp [e2,e3] at e4
    ·have e3':p.has = true:=by simpa using e3
     repeat first|refine R1 ?_|refine R2 fun _=>?_
     refine sf_cond (by rfl) (fun e4=>?_) fun e4=>?_
     ·repeat first|refine R1 ?_|refine R2 fun _=>?_
      rw [if_pos ⟨by simpa using e2,fun _=>by simpa using e4,eg⟩]
      exact sf_ret (rO (Y1++(Y2++Y3)) ⟨_,rfl,painterO_mk (p:=⟨true,true,w.ver,sceneOf w.grid⟩) k1 j1 k2 j2 k3⟩)
     ·repeat first|refine R1 ?_|refine R2 fun _=>?_
      rw [if_neg (fun z=>by have:=z.2.1 e3'; simp at e4; omega)]
      exact sf_ret (rO (X1++(X2++X3)) ⟨_,rfl,qp⟩)
   ·repeat first|refine R1 ?_|refine R2 fun _=>?_
    refine sf_cond (by rfl) (fun e4=>?_) fun e4=>?_
    ·simp [e2] at e4
    repeat first|refine R1 ?_|refine R2 fun _=>?_
    rw [if_neg (fun z=>by have:=z.1; simp at e2; omega)]
    exact sf_ret (rO (X1++(X2++X3)) ⟨_,rfl,qp⟩)
  ·have en:sceneNew w.grid = (noScene,false):=by rw [sceneNew,if_neg eg]
   rw [en] at q ⊢
   obtain ⟨c2,l2,f2,Y1,Y2,Y3,rfl,rfl,⟨k1,j1⟩,⟨k2,j2⟩,k3⟩:=sceneO q
   have o6:=k1.one
   have o7:=k2.one
   have o8:=k3.one
   simp only at k1 k2 k3 j1 j2 q ⊢
   repeat first|refine R1 ?_|refine R2 fun _=>?_
   refine sf_cond (by rfl) (fun e4=>?_) fun e4=>?_
   ·simp at e4
   repeat first|refine R1 ?_|refine R2 fun _=>?_
   rw [if_neg (fun z=>eg z.2.2)]
   exact sf_ret (rO (X1++(X2++X3)) ⟨_,rfl,qp⟩)
 repeat first|refine R1 ?_|refine R2 fun _=>?_
 refine sf_if (fun e2=>?_) fun e2=>?_
 ·rw [heard2 e e2]
  repeat first|refine R1 ?_|refine R2 fun _=>?_
  refine f_splitB (fun e3=>?_) fun e3=>?_
  ·obtain ⟨-,hv0,hv1,hsc⟩:=paintOk_has ok e3
   obtain ⟨hgk,hse⟩:=sceneOk_is hsc
   repeat first|refine R1 ?_|refine R2 fun _=>?_
   refine f_split (fun e4=>?_) fun e4=>?_
   ·repeat first|refine R1 ?_|refine R2 fun _=>?_
    refine f_split (fun e5=>?_) fun e5=>?_
    ·repeat first|refine R1 ?_|refine R2 fun _=>?_
     refine Xb fun ev AE ge=>?_
     have o6:=ge.one
     repeat first|refine R1 ?_|refine R2 fun _=>?_
     refine fp (y_lendV (X1++AE) (fun h' _ i=>l13Edits_v (M:=M) h' c p.scene.grid (g1.lent (by omega) (inb_l i)) ev [w.edit] (ge.lent (by simp) (inb_r i))) (by rfl) ?_)
     rw [editsOk_one]
     repeat first|refine R1 ?_|refine R2 fun _=>?_
     refine sf_cond (by rfl) (fun e6=>?_) fun e6=>?_
     ·have e6':editOk p.scene.grid w.edit = true:=by simpa using e6
      have hfl:p.scene.feet = feetOf p.scene.grid:=congrArg Scene.feet hse
      have hll:p.scene.lights = picOf p.scene.grid:=congrArg Scene.lights hse
      have hm:=(gok hgk).many
      rw [if_pos ⟨e3,e5,by omega,e6'⟩]
      repeat first|refine R1 ?_|refine R2 fun _=>?_
      refine sf_draw (by kernel_rfl) (regX_own (X1++(X2++X3)) (regX_split 2 5 (by rfl) (regX_split 2 10 (by rfl) (regX_split 5 10 (by rfl) (regX_split 6 10 (by rfl) ?_ ?_) ?_) ?_) (regX_split 2 10 (by rfl) (regX_split 6 10 (by rfl) ?_ ?_) (regX_split 5 10 (by rfl) ?_ ?_))))
      case' refine_1=>
       refine Sw [[],[0],[0,1],[],[3],[0,1,2,3,4],[0,1,2,3,4,5],[0,1,2,3,4,5,6],[0,1,2,3,4,5,6,7],[0,1,2,3,4,5,6,7],[0,1,2,3,4,5,6],[0,1,2,3,4,5,6,7,8,10],[0,1,2,3,4,5,6,7,8,9,10,11]] 12 [Nn 0,Nn 1,Nn 3,Nn 4,Yy 2,Yy 5,Yy 6,Nn 7,Nn 8,Nn 9,Yy 10,Yy 11] ?_
       refine Da ?_
       refine Yc (lendF (X1++(X2++X3)) fun h' l' i=>l13Copy_f (M:=M) h' _ p.scene ((sceneR τ).lent qs i) hs) ?_
       rintro _ _ ⟨AX,rfl,cs,rfl,q⟩
       obtain ⟨c2,l2,f2,Y1,Y2,Y3,rfl,rfl,⟨k1,j1⟩,⟨k2,j2⟩,k3⟩:=sceneO q
       have o7:=k1.one
       have o8:=k2.one
       have o9:=k3.one
       refine Da ?_
       refine Yb fun ev AE ge=>?_
       have o10:=ge.one
       refine Da ?_
       refine Yc (lendF AE fun h' l' i=>l13Do_f (M:=M) h' c2 l2 f2 ev Y1 Y2 Y3 p.scene w.edit k1 k2 k3 (ge.lent (by simp) i) hgk e6' (by rw [hll,picOf_len]; omega) (by rw [hfl,feetOf_len]; omega)) ?_
       rintro _ _ ⟨A5,rfl,w2,rfl,q5,ow⟩
       refine Da ?_
       refine Yl fun b7=>?_
       refine Da ?_
       refine a_store (by rfl) (by rfl) (by rfl) (.inl rfl) ?_
       refine Da ?_
       refine Ae ?_
       repeat first|refine R1 ?_|refine R2 fun _=>?_
       exact sf_ret (rO A5 ⟨_,rfl,painterO_sc q5 _ _ _⟩)
      case' refine_2=>
       refine Sw [[],[0],[0,1],[],[3],[0,1,2,3,4],[0,1,2,3,4,5,10],[0,1,2,3,4,5,6,10],[0,1,2,3,4,5,6,7,10],[0,1,2,3,4,5,6,7,10],[0,1,2,3,4,5],[0,1,2,3,4,5,6,7,8,10],[0,1,2,3,4,5,6,7,8,9,10,11]] 12 [Nn 0,Nn 1,Nn 3,Nn 4,Yy 2,Yy 5,Yy 10,Yy 6,Nn 7,Nn 8,Nn 9,Yy 11] ?_
       refine Da ?_
       refine Yc (lendF (X1++(X2++X3)) fun h' l' i=>l13Copy_f (M:=M) h' _ p.scene ((sceneR τ).lent qs i) hs) ?_
       rintro _ _ ⟨AX,rfl,cs,rfl,q⟩
       obtain ⟨c2,l2,f2,Y1,Y2,Y3,rfl,rfl,⟨k1,j1⟩,⟨k2,j2⟩,k3⟩:=sceneO q
       have o7:=k1.one
       have o8:=k2.one
       have o9:=k3.one
       refine Da ?_
       refine Yb fun ev AE ge=>?_
       have o10:=ge.one
       refine Da ?_
       refine Yl fun b7=>?_
       refine Da ?_
       refine Yc (lendF AE fun h' l' i=>l13Do_f (M:=M) h' c2 l2 f2 ev Y1 Y2 Y3 p.scene w.edit k1 k2 k3 (ge.lent (by simp) i) hgk e6' (by rw [hll,picOf_len]; omega) (by rw [hfl,feetOf_len]; omega)) ?_
       rintro _ _ ⟨A5,rfl,w2,rfl,q5,ow⟩
       refine Da ?_
       refine a_store (by rfl) (by rfl) (by rfl) (.inl rfl) ?_
       refine Da ?_
       refine Ae ?_
       repeat first|refine R1 ?_|refine R2 fun _=>?_
       exact sf_ret (rO A5 ⟨_,rfl,painterO_sc q5 _ _ _⟩)
      case' refine_3=>
       refine Sw [[],[0],[0,1],[],[3],[0,1,2,3,4,10],[0,1,2,3,4,5,10],[0,1,2,3,4,5,6,10],[0,1,2,3,4,5,6,7,10],[0,1,2,3,4,5,6,7,10],[0,1,2],[0,1,2,3,4,5,6,7,8,10],[0,1,2,3,4,5,6,7,8,9,10,11]] 12 [Nn 0,Nn 1,Nn 3,Nn 4,Yy 2,Yy 10,Yy 5,Yy 6,Nn 7,Nn 8,Nn 9,Yy 11] ?_
       refine Da ?_
       refine Yc (lendF (X1++(X2++X3)) fun h' l' i=>l13Copy_f (M:=M) h' _ p.scene ((sceneR τ).lent qs i) hs) ?_
       rintro _ _ ⟨AX,rfl,cs,rfl,q⟩
       obtain ⟨c2,l2,f2,Y1,Y2,Y3,rfl,rfl,⟨k1,j1⟩,⟨k2,j2⟩,k3⟩:=sceneO q
       have o7:=k1.one
       have o8:=k2.one
       have o9:=k3.one
       refine Da ?_
       refine Yl fun b7=>?_
       refine Da ?_
       refine Yb fun ev AE ge=>?_
       have o10:=ge.one
       refine Da ?_
       refine Yc (lendF AE fun h' l' i=>l13Do_f (M:=M) h' c2 l2 f2 ev Y1 Y2 Y3 p.scene w.edit k1 k2 k3 (ge.lent (by simp) i) hgk e6' (by rw [hll,picOf_len]; omega) (by rw [hfl,feetOf_len]; omega)) ?_
       rintro _ _ ⟨A5,rfl,w2,rfl,q5,ow⟩
       refine Da ?_
       refine a_store (by rfl) (by rfl) (by rfl) (.inl rfl) ?_
       refine Da ?_
       refine Ae ?_
       repeat first|refine R1 ?_|refine R2 fun _=>?_
       exact sf_ret (rO A5 ⟨_,rfl,painterO_sc q5 _ _ _⟩)
      case' refine_4=>
       refine Sw [[],[0],[0,1,10],[],[3],[0,1,2,3,4,10],[0,1,2,3,4,5,10],[0,1,2,3,4,5,6,10],[0,1,2,3,4,5,6,7,10],[0,1,2,3,4,5,6,7,10],[],[0,1,2,3,4,5,6,7,8,10],[0,1,2,3,4,5,6,7,8,9,10,11]] 12 [Nn 0,Nn 1,Nn 3,Nn 4,Yy 10,Yy 2,Yy 5,Yy 6,Nn 7,Nn 8,Nn 9,Yy 11] ?_
       refine Da ?_
       refine Yl fun b7=>?_
       refine Da ?_
       refine Yc (lendF (X1++(X2++X3)) fun h' l' i=>l13Copy_f (M:=M) h' _ p.scene ((sceneR τ).lent qs i) hs) ?_
       rintro _ _ ⟨AX,rfl,cs,rfl,q⟩
       obtain ⟨c2,l2,f2,Y1,Y2,Y3,rfl,rfl,⟨k1,j1⟩,⟨k2,j2⟩,k3⟩:=sceneO q
       have o7:=k1.one
       have o8:=k2.one
       have o9:=k3.one
       refine Da ?_
       refine Yb fun ev AE ge=>?_
       have o10:=ge.one
       refine Da ?_
       refine Yc (lendF AE fun h' l' i=>l13Do_f (M:=M) h' c2 l2 f2 ev Y1 Y2 Y3 p.scene w.edit k1 k2 k3 (ge.lent (by simp) i) hgk e6' (by rw [hll,picOf_len]; omega) (by rw [hfl,feetOf_len]; omega)) ?_
       rintro _ _ ⟨A5,rfl,w2,rfl,q5,ow⟩
       refine Da ?_
       refine a_store (by rfl) (by rfl) (by rfl) (.inl rfl) ?_
       refine Da ?_
       refine Ae ?_
       repeat first|refine R1 ?_|refine R2 fun _=>?_
       exact sf_ret (rO A5 ⟨_,rfl,painterO_sc q5 _ _ _⟩)
      case' refine_5=>
       refine Sw [[],[0],[0,1,3,4,5],[],[3],[3,4],[0,1,2,3,4,5],[0,1,2,3,4,5,6],[0,1,2,3,4,5,6,7],[0,1,2,3,4,5,6,7],[0,1,2,3,4,5,6],[0,1,2,3,4,5,6,7,8,10],[0,1,2,3,4,5,6,7,8,9,10,11]] 12 [Nn 0,Nn 1,Nn 3,Nn 4,Yy 5,Yy 2,Yy 6,Nn 7,Nn 8,Nn 9,Yy 10,Yy 11] ?_
       refine Da ?_
       refine Yb fun ev AE ge=>?_
       have o10:=ge.one
       refine Da ?_
       refine Yc (lendF (X1++(X2++X3)) fun h' l' i=>l13Copy_f (M:=M) h' _ p.scene ((sceneR τ).lent qs i) hs) ?_
       rintro _ _ ⟨AX,rfl,cs,rfl,q⟩
       obtain ⟨c2,l2,f2,Y1,Y2,Y3,rfl,rfl,⟨k1,j1⟩,⟨k2,j2⟩,k3⟩:=sceneO q
       have o7:=k1.one
       have o8:=k2.one
       have o9:=k3.one
       refine Da ?_
       refine Yc (lendF AE fun h' l' i=>l13Do_f (M:=M) h' c2 l2 f2 ev Y1 Y2 Y3 p.scene w.edit k1 k2 k3 (ge.lent (by simp) i) hgk e6' (by rw [hll,picOf_len]; omega) (by rw [hfl,feetOf_len]; omega)) ?_
       rintro _ _ ⟨A5,rfl,w2,rfl,q5,ow⟩
       refine Da ?_
       refine Yl fun b7=>?_
       refine Da ?_
       refine a_store (by rfl) (by rfl) (by rfl) (.inl rfl) ?_
       refine Da ?_
       refine Ae ?_
       repeat first|refine R1 ?_|refine R2 fun _=>?_
       exact sf_ret (rO A5 ⟨_,rfl,painterO_sc q5 _ _ _⟩)
      case' refine_6=>
       refine Sw [[],[0],[0,1,3,4,5],[],[3],[3,4],[0,1,2,3,4,5,10],[0,1,2,3,4,5,6,10],[0,1,2,3,4,5,6,7,10],[0,1,2,3,4,5,6,7,10],[0,1,2,3,4,5],[0,1,2,3,4,5,6,7,8,10],[0,1,2,3,4,5,6,7,8,9,10,11]] 12 [Nn 0,Nn 1,Nn 3,Nn 4,Yy 5,Yy 2,Yy 10,Yy 6,Nn 7,Nn 8,Nn 9,Yy 11] ?_
       refine Da ?_
       refine Yb fun ev AE ge=>?_
       have o10:=ge.one
       refine Da ?_
       refine Yc (lendF (X1++(X2++X3)) fun h' l' i=>l13Copy_f (M:=M) h' _ p.scene ((sceneR τ).lent qs i) hs) ?_
       rintro _ _ ⟨AX,rfl,cs,rfl,q⟩
       obtain ⟨c2,l2,f2,Y1,Y2,Y3,rfl,rfl,⟨k1,j1⟩,⟨k2,j2⟩,k3⟩:=sceneO q
       have o7:=k1.one
       have o8:=k2.one
       have o9:=k3.one
       refine Da ?_
       refine Yl fun b7=>?_
       refine Da ?_
       refine Yc (lendF AE fun h' l' i=>l13Do_f (M:=M) h' c2 l2 f2 ev Y1 Y2 Y3 p.scene w.edit k1 k2 k3 (ge.lent (by simp) i) hgk e6' (by rw [hll,picOf_len]; omega) (by rw [hfl,feetOf_len]; omega)) ?_
       rintro _ _ ⟨A5,rfl,w2,rfl,q5,ow⟩
       refine Da ?_
       refine a_store (by rfl) (by rfl) (by rfl) (.inl rfl) ?_
       refine Da ?_
       refine Ae ?_
       repeat first|refine R1 ?_|refine R2 fun _=>?_
       exact sf_ret (rO A5 ⟨_,rfl,painterO_sc q5 _ _ _⟩)
      case' refine_7=>
       refine Sw [[],[0],[0,1,3,4,5,10],[],[3],[3,4],[0,1,2,3,4,5,10],[0,1,2,3,4,5,6,10],[0,1,2,3,4,5,6,7,10],[0,1,2,3,4,5,6,7,10],[3,4,5],[0,1,2,3,4,5,6,7,8,10],[0,1,2,3,4,5,6,7,8,9,10,11]] 12 [Nn 0,Nn 1,Nn 3,Nn 4,Yy 5,Yy 10,Yy 2,Yy 6,Nn 7,Nn 8,Nn 9,Yy 11] ?_
       refine Da ?_
       refine Yb fun ev AE ge=>?_
       have o10:=ge.one
       refine Da ?_
       refine Yl fun b7=>?_
       refine Da ?_
       refine Yc (lendF (X1++(X2++X3)) fun h' l' i=>l13Copy_f (M:=M) h' _ p.scene ((sceneR τ).lent qs i) hs) ?_
       rintro _ _ ⟨AX,rfl,cs,rfl,q⟩
       obtain ⟨c2,l2,f2,Y1,Y2,Y3,rfl,rfl,⟨k1,j1⟩,⟨k2,j2⟩,k3⟩:=sceneO q
       have o7:=k1.one
       have o8:=k2.one
       have o9:=k3.one
       refine Da ?_
       refine Yc (lendF AE fun h' l' i=>l13Do_f (M:=M) h' c2 l2 f2 ev Y1 Y2 Y3 p.scene w.edit k1 k2 k3 (ge.lent (by simp) i) hgk e6' (by rw [hll,picOf_len]; omega) (by rw [hfl,feetOf_len]; omega)) ?_
       rintro _ _ ⟨A5,rfl,w2,rfl,q5,ow⟩
       refine Da ?_
       refine a_store (by rfl) (by rfl) (by rfl) (.inl rfl) ?_
       refine Da ?_
       refine Ae ?_
       repeat first|refine R1 ?_|refine R2 fun _=>?_
       exact sf_ret (rO A5 ⟨_,rfl,painterO_sc q5 _ _ _⟩)
      case' refine_8=>
       refine Sw [[],[0],[0,1,3,4,5,10],[],[3],[3,4,10],[0,1,2,3,4,5,10],[0,1,2,3,4,5,6,10],[0,1,2,3,4,5,6,7,10],[0,1,2,3,4,5,6,7,10],[],[0,1,2,3,4,5,6,7,8,10],[0,1,2,3,4,5,6,7,8,9,10,11]] 12 [Nn 0,Nn 1,Nn 3,Nn 4,Yy 10,Yy 5,Yy 2,Yy 6,Nn 7,Nn 8,Nn 9,Yy 11] ?_
       refine Da ?_
       refine Yl fun b7=>?_
       refine Da ?_
       refine Yb fun ev AE ge=>?_
       have o10:=ge.one
       refine Da ?_
       refine Yc (lendF (X1++(X2++X3)) fun h' l' i=>l13Copy_f (M:=M) h' _ p.scene ((sceneR τ).lent qs i) hs) ?_
       rintro _ _ ⟨AX,rfl,cs,rfl,q⟩
       obtain ⟨c2,l2,f2,Y1,Y2,Y3,rfl,rfl,⟨k1,j1⟩,⟨k2,j2⟩,k3⟩:=sceneO q
       have o7:=k1.one
       have o8:=k2.one
       have o9:=k3.one
       refine Da ?_
       refine Yc (lendF AE fun h' l' i=>l13Do_f (M:=M) h' c2 l2 f2 ev Y1 Y2 Y3 p.scene w.edit k1 k2 k3 (ge.lent (by simp) i) hgk e6' (by rw [hll,picOf_len]; omega) (by rw [hfl,feetOf_len]; omega)) ?_
       rintro _ _ ⟨A5,rfl,w2,rfl,q5,ow⟩
       refine Da ?_
       refine a_store (by rfl) (by rfl) (by rfl) (.inl rfl) ?_
       refine Da ?_
       refine Ae ?_
       repeat first|refine R1 ?_|refine R2 fun _=>?_
       exact sf_ret (rO A5 ⟨_,rfl,painterO_sc q5 _ _ _⟩)
     ·have e6':¬ editOk p.scene.grid w.edit = true:=by simpa using e6
      repeat first|refine R1 ?_|refine R2 fun _=>?_
      rw [if_neg (fun z=>e6' z.2.2.2)]
      exact sf_ret (rO (X1++(X2++X3)) ⟨_,rfl,qp⟩)
    ·repeat first|refine R1 ?_|refine R2 fun _=>?_
     refine sf_cond (by rfl) (fun e6=>?_) fun e6=>?_
     ·simp [e5] at e6
     repeat first|refine R1 ?_|refine R2 fun _=>?_
     rw [if_neg (fun z=>e5 z.2.1)]
     exact sf_ret (rO (X1++(X2++X3)) ⟨_,rfl,qp⟩)
   ·repeat first|refine R1 ?_|refine R2 fun _=>?_
    refine sf_cond (by rfl) (fun e6=>?_) fun e6=>?_
    ·simp [e4] at e6
    repeat first|refine R1 ?_|refine R2 fun _=>?_
    rw [if_neg (fun z=>by omega)]
    exact sf_ret (rO (X1++(X2++X3)) ⟨_,rfl,qp⟩)
  ·repeat first|refine R1 ?_|refine R2 fun _=>?_
   refine sf_cond (by rfl) (fun e6=>?_) fun e6=>?_
   ·simp [e3] at e6
   repeat first|refine R1 ?_|refine R2 fun _=>?_
   rw [if_neg (fun z=>by rw [e3] at z; exact Bool.noConfusion z.1)]
   exact sf_ret (rO (X1++(X2++X3)) ⟨_,rfl,qp⟩)
 ·repeat first|refine R1 ?_|refine R2 fun _=>?_
  rw [heard0 e1 e2]
  exact sf_ret (rO (X1++(X2++X3)) ⟨_,rfl,qp⟩)
theorem sNoWordO:(wordR τ).O [] (wordCs noWord (.slice none 0 0) (.slice none 0 0)) noWord:=wordO_mk (w:=noWord) (Gr.nil _ _) (by decide) (Gr.nil _ _) (by decide)
theorem l22Tell_f (h:PHeap) (ca:List Value) (k:Keeper) (b:(keeperR τ).B h ca k) (ok:keepOk k = true) (z:Int) (hz1:1 ≤ z) (hz2:z ≤ k.parts.length):CallF Tryz.prog M 62 [.agg ca.toArray,.int .i64 z] [] h fun u A=>∃ cs,u = .agg cs.toArray∧(wordR τ).O A cs (toldTo k z):=by
 have b0:=b
 have hk:=keepOk_head ok
 obtain ⟨c,ed,p,s,rfl,s1,s2,s3,s4⟩:=keeperB b
 have o1:=s1.one
 have o2:=s2.one
 have o3:=s3.one
 have o4:=s4.one
 have hs2:=s2.small
 have h60:=hk.e60
 have n3:=hk.n3
 obtain ⟨rp,sp,bp⟩:=s3
 have lp:=bp.len
 have hsm:=sp.small
 obtain ⟨i,hi,hz⟩:∃ i:Nat,i < k.parts.length∧z = i + 1:=⟨(z - 1).toNat,by omega,by omega⟩
 obtain ⟨l,ex,sl⟩:=partB (bp.at hi)
 have ol:=sl.one
 have hsl:=sl.small
 have hi':i < rp.length:=by omega
 have hpo:=keepOk_part ok hi
 have ez:(z - 1).toNat = i:=by omega
 have hT:=toldTo.eq_1 k z
 rw [ez] at hT
 generalize hpt:gt k.parts i = pt at *
 have hver:=partOk_ver hpo
 haveI:FlatV (rawF (partR τ).sz) (gt rp (z - 1).toNat) [.bool pt.has,.int .i64 pt.ver,l]:=⟨by rw [ez]; exact ex⟩
 have hgr:pt.has = false ∨ ¬ (1 ≤ (k.edits.length:Int) - pt.ver∧(k.edits.length:Int) - pt.ver ≤ 2)→toldTo k z = ⟨1,z,0,k.edits.length,gridAt k k.edits.length,noEdit,[]⟩:=fun x=>by
  rw [hT]
  rcases x with x | x
  ·rw [if_neg (fun y=>by rw [x] at y; exact absurd y.1 (by decide))]
  ·rw [if_neg (fun y=>x y.2)]
 refine Cs Tryz.func62 Tryz.ntmps62 ?_
 repeat first|refine R1 ?_|refine R2 fun _=>?_
 refine f_splitB (fun e=>?_) fun e=>?_
 ·have hv:=hver e
  repeat first|refine R1 ?_|refine R2 fun _=>?_
  refine Xv (l6In_v _ _ _ _) ?_
  repeat first|refine R1 ?_|refine R2 fun _=>?_
  refine sf_cond (by rfl) (fun h4=>?_) fun h4=>?_
  ·simp only [Bool.and_eq_true,decide_eq_true_eq] at h4
   rw [if_pos ⟨e,by omega,by omega⟩] at hT
   rw [hT]
   repeat first|refine R1 ?_|refine R2 fun _=>?_
   refine Sd [[],[],[1],[1,2],[],[4],[],[6],[4,5,6,7],[4,5,6,7,8],[0,1,2,3,4,5,6,7,8,9],[0,1,2,3,4,5,6,7,8,9,10]] 10 [Nn 0,Nn 1,Nn 2,Nn 3,Nn 4,Nn 5,Nn 6,Nn 7,Nn 8,Nn 9] ?_
   refine Da ?_
   refine Ae ?_
   repeat first|refine R1 ?_|refine R2 fun _=>?_
   exact sf_ret (rO [] ⟨wordCs ⟨2,z,0,pt.ver + 1,noGrid,gt k.edits pt.ver.toNat,[]⟩ _ _,rfl,wordO_mk (w:=⟨2,z,0,pt.ver + 1,noGrid,gt k.edits pt.ver.toNat,[]⟩) (A1:=[]) (A2:=[]) (Gr.nil _ _) (Nat.zero_le _) (Gr.nil _ _) (Nat.zero_le _)⟩)
  ·simp only [Bool.and_eq_false_iff,decide_eq_false_iff_not] at h4
   rw [hgr (.inr (by omega))]
   repeat first|refine R1 ?_|refine R2 fun _=>?_
   refine fp (y_call (l22Grid_f _ _ k b0 hk _ (verOk_all k)) (by rfl) ?_)
   rintro _ A1 ⟨cs,rfl,q⟩
   obtain ⟨c2,rfl,g1,l1⟩:=gridO q
   have o5:=g1.one
   repeat first|refine R1 ?_|refine R2 fun _=>?_
   exact sf_ret (rO A1 ⟨wordCs ⟨1,z,0,k.edits.length,gridAt k k.edits.length,noEdit,[]⟩ _ _,rfl,by have:=wordO_mk (τ:=τ) (w:=⟨1,z,0,k.edits.length,gridAt k k.edits.length,noEdit,[]⟩) (A1:=A1) (A2:=[]) g1 l1 (Gr.nil _ _) (Nat.zero_le _); rwa [List.append_nil] at this⟩)
 ·rw [hgr (.inl (by simpa using e))]
  repeat first|refine R1 ?_|refine R2 fun _=>?_
  refine sf_N (by first|rfl | (simp; omega)) ?_
  repeat first|refine R1 ?_|refine R2 fun _=>?_
  refine fp (y_call (l22Grid_f _ _ k b0 hk _ (verOk_all k)) (by rfl) ?_)
  rintro _ A1 ⟨cs,rfl,q⟩
  obtain ⟨c2,rfl,g1,l1⟩:=gridO q
  have o5:=g1.one
  repeat first|refine R1 ?_|refine R2 fun _=>?_
  exact sf_ret (rO A1 ⟨wordCs ⟨1,z,0,k.edits.length,gridAt k k.edits.length,noEdit,[]⟩ _ _,rfl,by have:=wordO_mk (τ:=τ) (w:=⟨1,z,0,k.edits.length,gridAt k k.edits.length,noEdit,[]⟩) (A1:=A1) (A2:=[]) g1 l1 (Gr.nil _ _) (Nat.zero_le _); rwa [List.append_nil] at this⟩)
theorem sKeepTell_f (h:PHeap) (ca:List Value) (k:Keeper) (b:(keeperR τ).B h ca k) (z:Int):CallF Tryz.prog M 22 [.agg ca.toArray,.int .i64 z] [] h fun u A=>∃ cs,u = .tuple #[.agg cs.toArray,.bool (keepTell k z).2]∧(wordR τ).O A cs (keepTell k z).1:=by
 have b0:=b
 obtain ⟨c,ed,p,s,rfl,s1,s2,s3,s4⟩:=keeperB b
 have o1:=s1.one
 have o2:=s2.one
 have o3:=s3.one
 have o4:=s4.one
 obtain ⟨rp,sp,bp⟩:=s3
 have lp:=bp.len
 have hsm:=sp.small
 have eF:¬ (keepOk k = true∧1 ≤ z∧z ≤ k.parts.length)→keepTell k z = (noWord,false):=fun e=>by rw [keepTell,if_neg e]
 refine Cs Tryz.func22 Tryz.ntmps22 ?_
 repeat first|refine R1 ?_|refine R2 fun _=>?_
 refine Xv (sKeepOk_v _ _ k b0) ?_
 repeat first|refine R1 ?_|refine R2 fun _=>?_
 refine f_splitB (fun h1=>?_) fun h1=>?_
 ·have h1':=h1
  simp only [Bool.not_eq_true'] at h1'
  repeat first|refine R1 ?_|refine R2 fun _=>?_
  refine sf_T rfl ?_
  repeat first|refine R1 ?_|refine R2 fun _=>?_
  rw [eF (by simp [h1'])]
  exact sf_ret (rO [] ⟨wordCs noWord _ _,rfl,sNoWordO⟩)
 have h1':=h1
 simp only [Bool.not_eq_false'] at h1'
 repeat first|refine R1 ?_|refine R2 fun _=>?_
 refine Xv (l6In_v _ _ _ _) ?_
 repeat first|refine R1 ?_|refine R2 fun _=>?_
 refine sf_cond (by rfl) (fun h2=>?_) fun h2=>?_
 ·repeat first|refine R1 ?_|refine R2 fun _=>?_
  rw [eF (by intro y; simp at h2; omega)]
  exact sf_ret (rO [] ⟨wordCs noWord _ _,rfl,sNoWordO⟩)
 have h3:1 ≤ z∧z ≤ k.parts.length:=by simp at h2; omega
 rw [show keepTell k z = (toldTo k z,true) by rw [keepTell,if_pos ⟨h1',h3⟩]]
 repeat first|refine R1 ?_|refine R2 fun _=>?_
 refine fp (y_call (l22Tell_f _ _ k b0 h1' z h3.1 h3.2) (by rfl) ?_)
 rintro _ A1 ⟨cs,rfl,q⟩
 have q':=q
 obtain ⟨c5,l5,A2,A3,rfl,rfl,⟨g5,lg⟩,⟨g6,lg6⟩⟩:=wordO q
 have o5:=g5.one
 have o6:=g6.one
 repeat first|refine R1 ?_|refine R2 fun _=>?_
 exact sf_ret (rO (A2++A3) ⟨wordCs _ c5 l5,rfl,q'⟩)
theorem l31Put_f (h:PHeap) (A B:Own) (ca cb:List Value) (w:World') (x:Word) (bw:(worldR τ).O A ca w) (bx:(wordR τ).O B cb x):CallF Tryz.prog M 194 [.agg ca.toArray,.agg cb.toArray] (A++B) h fun u A'=>∃ cs,u = .agg cs.toArray∧(worldR τ).O A' cs (wPut w x):=by
 have bw0:=bw
 have bx0:=bx
 obtain ⟨c,e,p,s,ps,ns,AK,AP,AN,rfl,rfl,k,gp,gn,o1,o2,o3,o4⟩:=worldX bw
 have o5:=gp.one
 have o6:=gn.one
 obtain ⟨wc,wl,rfl,o7,o8⟩:=wordX bx
 obtain ⟨N0,N1,rfl,rs,g,oa,hq⟩:=gn
 have lq:=oa.len
 refine Cs Tryz.func194 Tryz.ntmps194 ?_
 repeat first|refine R1 ?_|refine R2 fun _=>?_
 refine sf_if (fun e1=>?_) fun e1=>?_
 ·repeat first|refine R1 ?_|refine R2 fun _=>?_
  refine Xb fun w0 Aw gw=>?_
  repeat first|refine R1 ?_|refine R2 fun _=>?_
  refine fp (y_append (by rfl) (by rfl) g gw (by intro y hy; simp at hy; subst hy; exact ((wordR τ).oneO bx0).is) (by rfl) (by rfl) (by simp; omega) (by simp; omega) fun n2 A5 g5=>?_)
  have o9:=g5.one
  repeat first|refine R1 ?_|refine R2 fun _=>?_
  rw [wPut,if_pos (by omega)]
  exact sf_ret (rO (AK++(AP++(A5++(N1++B)))) ⟨_,rfl,worldX_mk (w:={ w with nets:=w.nets++[x] }) k gp ⟨A5,N1++B,rfl,_,g5,oa.snoc bx0,by simp; omega⟩⟩)
 ·repeat first|refine R1 ?_|refine R2 fun _=>?_
  rw [wPut,if_neg (by omega)]
  exact sf_ret (rO (AK++(AP++(N0++N1))) ⟨_,rfl,bw0⟩)
theorem l31Take_f (h:PHeap) (z:Int) (c e p s ps ns:Value) (rs:List (Raw (wordR τ).sz)) (o1:Sl.One c) (o2:Sl.One e) (o3:Sl.One p) (o4:Sl.One s) (o5:Sl.One ps) (sl:Sl h ns (rawF (wordR τ).sz) rs) (i:Nat) (hi:i < rs.length) (hn:rs.length ≤ 1000) (one:∀ r ∈ rs,allOne r.cs = true):CallF Tryz.prog M 193 [.agg #[.int .i64 z,c,e,p,s,ps,ns],.int .i64 (i:Int)] [] h fun u A=>∃ ns',u = .agg #[.int .i64 z,c,e,p,s,ps,ns']∧Gr A ns' 50 (rawF (wordR τ).sz) (rs.take i++rs.drop (i + 1)):=by
 obtain ⟨b,off,cap,rfl,hc,s1,s2⟩:=sl.cut hi
 refine Cs Tryz.func193 Tryz.ntmps193 ?_
 repeat first|refine R1 ?_|refine R2 fun _=>?_
 refine Sd [[],[],[1],[],[1,2,3],[0,1,2,3,4],[],[6],[],[8],[6,7,8,9],[0,1,2,3,4,5,6,7,8,9,10],[0,1,2,3,4,5,6,7,8,9,10,11],[0,1,2,3,4,5,6,7,8,9,10,11,12]] 11 [Nn 1,Nn 2,Nn 3,Nn 4,Nn 6,Nn 7,Nn 8,Nn 9,Nn 10,Yy 0,Yy 5] ?_
 refine Da ?_
 refine Yq (by rfl) (fun X h' [_]=>q_sliceHi (l:=i) (by infer_instance) (by infer_instance) (by rfl) (by rfl) (by omega)) ?_
 refine Da ?_
 refine Yq (by rfl) (fun X h' [_]=>q_sliceLo (l:=i + 1) (by infer_instance) (by infer_instance) (by rfl) (by rfl) (by omega)) ?_
 refine Da ?_
 refine Yb fun w0 Aw gw=>?_
 have ow:=gw.one
 refine Da ?_
 refine a_appendS (by rfl) (by rfl) (by rfl) gw s1 (by infer_instance) (by infer_instance) (fun y hy=>one y (List.mem_of_mem_take hy)) (by rfl) (by rfl) (by simp; omega) (by simp; omega) (.inl rfl) fun n1 A1 g1=>?_
 have o6:=g1.one
 refine Da ?_
 refine Ae ?_
 refine fp (y_appendS (by rfl) (by rfl) g1 s2 (fun y hy=>one y (List.mem_of_mem_drop hy)) (by rfl) (by rfl) (by simp; omega) (by simp; omega) fun n2 A2 g2=>?_)
 have o7:=g2.one
 repeat first|refine R1 ?_|refine R2 fun _=>?_
 exact sf_ret (rO A2 ⟨_,rfl,by simpa using g2⟩)
theorem l31WordCopy_f (h:PHeap) (cb:List Value) (x:Word) (bx:(wordR τ).B h cb x) (h1:x.grid.cells.length ≤ 1048576) (h2:x.lights.length ≤ 1048576):CallF Tryz.prog M 195 [.agg cb.toArray] [] h fun u A=>∃ cs,u = .agg cs.toArray∧(wordR τ).O A cs x:=by
 obtain ⟨wc,wl,rfl,s1,s2⟩:=wordB bx
 have o1:=s1.one
 have o2:=s2.one
 refine Cs Tryz.func195 Tryz.ntmps195 ?_
 repeat first|refine R1 ?_|refine R2 fun _=>?_
 refine Sd [[],[0],[0,1],[],[],[4],[4,5],[3,4,5,6],[0,1,2,3,4,5,6,7],[0,1,2,3,4,5,6,7,8],[0,1,2,3,4,5,6,7,8,9]] 8 [Nn 0,Nn 1,Nn 2,Nn 4,Nn 5,Nn 6,Yy 3,Yy 7] ?_
 refine Da ?_
 refine Yb fun w0 Aw gw=>?_
 have ow:=gw.one
 refine Da ?_
 refine Ys gw s1 fun c1 A1 g1=>?_
 have o3:=g1.one
 refine Da ?_
 refine Ae ?_
 repeat first|refine R1 ?_|refine R2 fun _=>?_
 refine Xb fun w2 A2 g2=>?_
 repeat first|refine R1 ?_|refine R2 fun _=>?_
 refine Xs g2 s2 fun l1 A3 g3=>?_
 have o4:=g3.one
 repeat first|refine R1 ?_|refine R2 fun _=>?_
 exact sf_ret (rO (A1++A3) ⟨_,rfl,wordO_mk (w:=x) g1 (by omega) g3 (by omega)⟩)
theorem l31Bring_f (h:PHeap) (A:Own) (ca:List Value) (w:World') (bw:(worldR τ).O A ca w) (ok:WOk w) (i:Nat) (hi:i < w.nets.length):CallF Tryz.prog M 192 [.agg ca.toArray,.int .i64 (i:Int)] A h fun u A'=>∃ cs,u = .agg cs.toArray∧(worldR τ).O A' cs (wBring w i):=by
 obtain ⟨c,e,p,s,ps,ns,AK,AP,AN,rfl,rfl,k,gp,gn,o1,o2,o3,o4⟩:=worldX bw
 have o5:=gp.one
 have o6:=gn.one
 obtain ⟨N0,N1,rfl,rs,g,oa,hq⟩:=gn
 have lq:=oa.len
 have h10:=ok.nets
 have ones:=oa.ones
 obtain ⟨B1,Bx,B2,rfl,qx,oT⟩:=oa.pull hi
 have hx:=ok.ns _ (gt_mem hi)
 have szx:=sz_word ok.head hx
 have hto:=wordTrue_to hx
 rw [wBring]
 generalize gt w.nets i = x at *
 obtain ⟨wc,wl,ex,o7,o8⟩:=wordX qx
 have hi':i < rs.length:=by omega
 haveI:FlatV (rawF (wordR τ).sz) (gt rs i) [.int .i64 x.kind,.int .i64 x.to,.int .i64 x.frm,.int .i64 x.ver,.int .i64 x.grid.wide,wc,.int .i64 x.edit.at',.int .i64 x.edit.cell.kind,.int .i64 x.edit.cell.light,wl]:=⟨ex⟩
 rw [ex] at qx
 have lT:(rs.take i++rs.drop (i + 1)).length ≤ 10:=by simp; omega
 refine Cs Tryz.func192 Tryz.ntmps192 ?_
 repeat first|refine R1 ?_|refine R2 fun _=>?_
 refine fp (y_call (lendF N0 fun h' _ inb=>l31Take_f h' w.keeper.first.wide c e p s ps ns rs o1 o2 o3 o4 o5 (g.lent (by omega) inb) i hi' (by omega) ones) (by rfl) ?_)
 rintro _ _ ⟨A2,rfl,ns',rfl,g2⟩
 have o9:=g2.one
 have gn2:GrR (wordR τ) (A2++(B1++B2)) ns' τ.word (wTake w i).nets:=⟨A2,B1++B2,rfl,_,g2,oT,by have:=oT.len; simp only [wTake]; omega⟩
 repeat first|refine R1 ?_|refine R2 fun _=>?_
 refine sf_if (fun e1=>?_) fun e1=>?_
 ·rw [wHear,if_pos e1]
  repeat first|refine R1 ?_|refine R2 fun _=>?_
  refine fp (y_call (lendF Bx fun h' _ inb=>l22Hear_f h' AK _ w.keeper k ok.keep (by have:=(sz_keeper ok.keep).1; omega) _ x ((wordR τ).lent qx inb) (by omega)) (by rfl) ?_)
  rintro _ _ ⟨A3,rfl,kc,rfl,q⟩
  obtain ⟨c2,e2,p2,s2,rfl,u1,u2,u3,u4⟩:=keeperX q
  repeat first|refine R1 ?_|refine R2 fun _=>?_
  exact sf_ret (rO (A3++(AP++(A2++(B1++B2)))) ⟨_,rfl,worldX_mk (w:={ wTake w i with keeper:=heard w.keeper x }) q gp gn2⟩)
 ·rw [wHear,if_neg e1,show gt (wTake w i).painters (x.to - 1).toNat = gt w.painters (x.to - 1).toNat from rfl]
  have hj:(x.to - 1).toNat < w.painters.length:=by rw [ok.many]; omega
  obtain ⟨P0,P1,rfl,rp,gq,op,hp⟩:=gp
  have lp:=op.len
  obtain ⟨C1,Ck,C2,rfl,qk,oset⟩:=op.at hj
  have hpt:=(painterTrue_is (ok.ps _ (gt_mem hj))).2.1
  have szp:=sz_painter hpt
  generalize gt w.painters (x.to - 1).toNat = pt at *
  obtain ⟨c5,l5,f5,X1,X2,X3,ex5,rfl,⟨k1,j1⟩,⟨k2,j2⟩,k3⟩:=painterO qk
  have q1:=k1.one
  have q2:=k2.one
  have q3:=k3.one
  haveI:FlatV (rawF (painterR τ).sz) (gt rp (x.to - 1).toNat) [.bool pt.up,.bool pt.has,.int .i64 pt.ver,.int .i64 pt.scene.grid.wide,c5,l5,f5]:=⟨ex5⟩
  repeat first|refine R1 ?_|refine R2 fun _=>?_
  refine sf_draw (by kernel_rfl) (regX_own (Bx++(X1++(X2++X3))) (Sw [[],[0],[],[2],[2,3],[],[5],[],[7],[7,8],[5,6,7,8,9],[5,6,7,8,9,10],[],[5,6,7,8,9,10,11,12],[0,1,2,3,4,5,6,7,8,9,10,11,12,13],[0,1,2,3,4,5,6,7,8,9,10,11,12,13,14]] 14 [Nn 0,Nn 1,Nn 2,Nn 3,Nn 4,Nn 5,Nn 6,Nn 7,Nn 8,Nn 9,Nn 10,Nn 11,Nn 12,Yy 13] ?_))
  refine Di ?_
  refine Yc (lendF Bx fun h' _ inb=>l21Hear_f h' _ pt x c5 l5 f5 X1 X2 X3 k1 k2 k3 hpt (by omega) ((wordR τ).lent qx inb)) ?_
  rintro _ _ ⟨A3,rfl,pc,rfl,q⟩
  obtain ⟨c6,l6,f6,rfl,u1,u2,u3⟩:=painterX q
  refine Di ?_
  refine Ae ?_
  repeat first|refine R1 ?_|refine R2 fun _=>?_|refine fp (Rq ?_ (z_indexGI (by rfl) (by rfl) (by assumption) (by omega) (by omega)))
  refine Xg gq fun D0 ys ey ly _ g5=>?_
  have oall:=oset A3 ⟨_,rfl⟩ _ q
  have gp2:GrR (painterR τ) (D0++(C1++(A3++C2))) ps τ.painter (w.painters.set (x.to - 1).toNat (paintHeard pt x)):=⟨D0,_,rfl,ys,g5,by rw [ey]; exact oall,by simp; omega⟩
  repeat first|refine R1 ?_|refine R2 fun _=>?_
  exact sf_ret (rO (AK++((D0++(C1++(A3++C2)))++(A2++(B1++B2)))) ⟨_,rfl,worldX_mk (w:=setP (wTake w i) (x.to - 1).toNat (paintHeard pt x)) k gp2 gn2⟩)
abbrev eventV (e:Event'):Value:=.agg #[.int .i64 e.kind,.int .i64 e.a,.int .i64 e.edit.at',.int .i64 e.edit.cell.kind,.int .i64 e.edit.cell.light]
theorem l31Net_f (h:PHeap) (A:Own) (ca:List Value) (w:World') (bw:(worldR τ).O A ca w) (ok:WOk w) (e:Event'):CallF Tryz.prog M 155 [.agg ca.toArray,eventV e] A h fun u A'=>∃ cs,u = .agg cs.toArray∧(worldR τ).O A' cs (wNet w e):=by
 have bw0:=bw
 obtain ⟨c,ee,p,s,ps,ns,AK,AP,AN,rfl,rfl,k,gp,gn,o1,o2,o3,o4⟩:=worldX bw
 have o5:=gp.one
 have o6:=gn.one
 obtain ⟨N0,N1,rfl,rs,g,oa,hq⟩:=gn
 have lq:=oa.len
 have h10:=ok.nets
 obtain ⟨kind,a,ed⟩:=e
 simp only [eventV]
 refine Cs Tryz.func155 Tryz.ntmps155 ?_
 repeat first|refine R1 ?_|refine R2 fun _=>?_
 refine Xv (l6In_v _ _ _ _) ?_
 repeat first|refine R1 ?_|refine R2 fun _=>?_
 refine sf_cond (by rfl) (fun e1=>?_) fun e1=>?_
 ·repeat first|refine R1 ?_|refine R2 fun _=>?_
  rw [wNet,if_neg (by simp at e1; simp only; omega)]
  exact sf_ret (rO (AK++(AP++(N0++N1))) ⟨_,rfl,bw0⟩)
 have hr:0 ≤ a∧a < w.nets.length:=by simp at e1; omega
 rw [wNet,if_pos hr]
 simp only
 obtain ⟨i,rfl⟩:∃ i:Nat,a = i:=⟨a.toNat,by omega⟩
 simp only [Int.toNat_natCast]
 have hi:i < w.nets.length:=by omega
 have hi':i < rs.length:=by omega
 repeat first|refine R1 ?_|refine R2 fun _=>?_
 refine sf_if (fun e2=>?_) fun e2=>?_
 ·rw [if_pos e2]
  repeat first|refine R1 ?_|refine R2 fun _=>?_
  refine fp (y_call (l31Bring_f h _ _ w bw0 ok i hi) (by rfl) ?_)
  rintro _ A2 ⟨cs,rfl,q⟩
  obtain ⟨c1,c2,c3,c4,c5,c6,rfl,v1,v2,v3,v4,v5,v6⟩:=worldC q
  repeat first|refine R1 ?_|refine R2 fun _=>?_
  exact sf_ret (rO A2 ⟨_,rfl,q⟩)
 rw [if_neg e2]
 repeat first|refine R1 ?_|refine R2 fun _=>?_
 refine sf_if (fun e3=>?_) fun e3=>?_
 ·rw [if_pos e3]
  repeat first|refine R1 ?_|refine R2 fun _=>?_
  obtain ⟨B1,Bx,B2,rfl,qx,oT⟩:=oa.pull hi
  refine fp (y_call (lendF N0 fun h' _ inb=>l31Take_f h' w.keeper.first.wide c ee p s ps ns rs o1 o2 o3 o4 o5 (g.lent (by omega) inb) i hi' (by omega) oa.ones) (by rfl) ?_)
  rintro _ _ ⟨A2,rfl,ns',rfl,g2⟩
  have o9:=g2.one
  repeat first|refine R1 ?_|refine R2 fun _=>?_
  exact sf_ret (rO (AK++(AP++(A2++(B1++B2)))) ⟨_,rfl,worldX_mk (w:=wTake w i) k gp ⟨A2,B1++B2,rfl,_,g2,oT,by have:=oT.len; simp only [wTake]; simp at this ⊢; omega⟩⟩)
 rw [if_neg e3]
 obtain ⟨B1,Bx,B2,-,qx,-⟩:=oa.pull hi
 have szx:=sz_word ok.head (ok.ns _ (gt_mem hi))
 obtain ⟨wc,wl,ex,o7,o8⟩:=wordX qx
 clear qx
 haveI:FlatV (rawF (wordR τ).sz) (gt rs i) [.int .i64 (gt w.nets i).kind,.int .i64 (gt w.nets i).to,.int .i64 (gt w.nets i).frm,.int .i64 (gt w.nets i).ver,.int .i64 (gt w.nets i).grid.wide,wc,.int .i64 (gt w.nets i).edit.at',.int .i64 (gt w.nets i).edit.cell.kind,.int .i64 (gt w.nets i).edit.cell.light,wl]:=⟨ex⟩
 repeat first|refine R1 ?_|refine R2 fun _=>?_
 refine sf_draw (by kernel_rfl) (regX_own (AK++(AP++(N0++N1))) ?_)
 refine Sw [[],[],[1],[],[3],[1,2,3,4],[1,2,3,4,5],[1,2,3,4,5,6],[0,1,2,3,4,5,6,7],[0,1,2,3,4,5,6,7,8]] 8 [Nn 0,Nn 1,Nn 2,Nn 3,Nn 4,Nn 5,Yy 6,Yy 7] ?_
 refine Da ?_
 refine Yw (by rfl) (z_loadG (by rfl) g (by omega) (by rfl)) ?_
 refine Da ?_
 refine Yc (lendF (AK++(AP++(N0++N1))) fun h' _ inb=>l31WordCopy_f h' (wordCs (gt w.nets i) wc wl) (gt w.nets i) (by have:=(oa.lent (inb_r (inb_r (inb_r inb)))).at hi; rw [ex] at this; exact this) (by omega) (by omega)) ?_
 rintro _ _ ⟨A2,rfl,cs,rfl,q⟩
 have q0:=q
 obtain ⟨w2,l2,rfl,v1,v2⟩:=wordX q
 refine Da ?_
 refine Ae ?_
 refine fp (y_call (l31Put_f h _ _ _ _ w (gt w.nets i) bw0 q0) (by rfl) ?_)
 rintro _ A3 ⟨cs,rfl,q⟩
 obtain ⟨c1,c2,c3,c4,c5,c6,rfl,v1,v2,v3,v4,v5,v6⟩:=worldC q
 repeat first|refine R1 ?_|refine R2 fun _=>?_
 exact sf_ret (rO A3 ⟨_,rfl,q⟩)
theorem paint_upR {A:Own} {c l f:Value} {p:Painter} (q:(painterR τ).O A [.bool p.up,.bool p.has,.int .i64 p.ver,.int .i64 p.scene.grid.wide,c,l,f] p):(painterR τ).O A [.bool true,.bool p.has,.int .i64 p.ver,.int .i64 p.scene.grid.wide,c,l,f] (upP p):=by
 obtain ⟨c',l',f',A1,A2,A3,e,rfl,⟨g1,j1⟩,⟨g2,j2⟩,g3⟩:=painterO q
 simp only [List.cons.injEq,and_true,true_and] at e
 obtain ⟨rfl,rfl,rfl⟩:=e
 exact painterO_mk (p:=upP p) g1 j1 g2 j2 g3
theorem l31Painter_f (h:PHeap) (A:Own) (ca:List Value) (w:World') (bw:(worldR τ).O A ca w) (ok:WOk w) (e:Event'):CallF Tryz.prog M 156 [.agg ca.toArray,eventV e] A h fun u A'=>∃ cs,u = .agg cs.toArray∧(worldR τ).O A' cs (wOne w e):=by
 have bw0:=bw
 obtain ⟨c,ee,p,s,ps,ns,AK,AP,AN,rfl,rfl,k,gp,gn,o1,o2,o3,o4⟩:=worldX bw
 have o5:=gp.one
 have o6:=gn.one
 obtain ⟨P0,P1,rfl,rp,gq,op,hp⟩:=gp
 have lp:=op.len
 have hm:=ok.many
 have n3:=ok.head.n3
 obtain ⟨kind,a,ed⟩:=e
 simp only [eventV]
 refine Cs Tryz.func156 Tryz.ntmps156 ?_
 repeat first|refine R1 ?_|refine R2 fun _=>?_
 refine Xv (l6In_v _ _ _ _) ?_
 repeat first|refine R1 ?_|refine R2 fun _=>?_
 refine sf_cond (by rfl) (fun e1=>?_) fun e1=>?_
 ·repeat first|refine R1 ?_|refine R2 fun _=>?_
  rw [wOne,if_neg (by simp at e1; simp only; omega)]
  exact sf_ret (rO (AK++((P0++P1)++AN)) ⟨_,rfl,bw0⟩)
 have hr:1 ≤ a∧a ≤ w.painters.length:=by simp at e1; omega
 rw [wOne,if_pos hr]
 simp only
 obtain ⟨i,rfl⟩:∃ i:Nat,a = i + 1:=⟨(a - 1).toNat,by omega⟩
 rw [show ((i:Int) + 1 - 1).toNat = i by omega,wWho]
 have ei:(i:Int) + 1 - 1 = i:=by omega
 have ei':((i + 1:Nat):Int) = (i:Int) + 1:=by omega
 have hi:i < w.painters.length:=by omega
 have hi':i < rp.length:=by omega
 repeat first|refine R1 ?_|refine R2 fun _=>?_
 refine sf_if (fun e2=>?_) fun e2=>?_
 ·rw [if_pos e2,ei']
  repeat first|refine R1 ?_|refine R2 fun _=>?_
  refine sf_draw (by kernel_rfl) (regX_own (AK++((P0++P1)++AN)) (Sw [[],[],[1],[],[3],[1,2,3,4],[0,1,2,3,4,5],[0,1,2,3,4,5,6]] 6 [Nn 0,Nn 1,Nn 2,Nn 3,Nn 4,Yy 5] ?_))
  refine Da ?_
  refine Yc (lendF AK fun h' _ inb=>l22Tell_f h' _ w.keeper ((keeperR τ).lent k inb) ok.keep ((i:Int) + 1) (by omega) (by omega)) ?_
  rintro _ _ ⟨A2,rfl,cs,rfl,q⟩
  have q0:=q
  obtain ⟨w2,l2,rfl,v1,v2⟩:=wordX q
  refine Da ?_
  refine Ae ?_
  refine fp (y_call (l31Put_f h _ _ _ _ w _ bw0 q0) (by rfl) ?_)
  rintro _ A3 ⟨cs,rfl,q⟩
  obtain ⟨c1,c2,c3,c4,c5,c6,rfl,v1,v2,v3,v4,v5,v6⟩:=worldC q
  repeat first|refine R1 ?_|refine R2 fun _=>?_
  exact sf_ret (rO A3 ⟨_,rfl,q⟩)
 rw [if_neg e2]
 obtain ⟨C1,Ck,C2,rfl,qk,oset⟩:=op.at hi
 have hpt:=(painterTrue_is (ok.ps _ (gt_mem hi))).2.1
 obtain ⟨c5,l5,f5,ex5,q1,q2,q3⟩:=painterX qk
 rw [ex5] at qk
 haveI:FlatV (rawF (painterR τ).sz) (gt rp i) [.bool (gt w.painters i).up,.bool (gt w.painters i).has,.int .i64 (gt w.painters i).ver,.int .i64 (gt w.painters i).scene.grid.wide,c5,l5,f5]:=⟨ex5⟩
 repeat first|refine R1 ?_|refine R2 fun _=>?_
 refine sf_if (fun e3=>?_) fun e3=>?_
 ·rw [if_pos e3,wPaint,ei']
  repeat first|refine R1 ?_|refine R2 fun _=>?_
  have tell:∀ h',Le h h'→InB h' Ck→CallF Tryz.prog M 196 [.agg #[.bool (gt w.painters i).up,.bool (gt w.painters i).has,.int .i64 (gt w.painters i).ver,.int .i64 (gt w.painters i).scene.grid.wide,c5,l5,f5],.int .i64 ((i:Int) + 1),.int .i64 (rp.length:Int)] [] h' fun u A=>∃ cs,u = .tuple #[.agg cs.toArray,.bool (paintTold (gt w.painters i) ((i:Int) + 1) w.painters.length).2]∧(wordR τ).O A cs (paintTold (gt w.painters i) ((i:Int) + 1) w.painters.length).1:=fun h' _ inb=>by
   rw [lp]
   exact l21Tell_f h' _ _ ((painterR τ).lent qk inb) hpt ((i:Int) + 1) w.painters.length (by simp only [idOk,Bool.and_eq_true,decide_eq_true_eq]; omega)
  refine sf_draw (by kernel_rfl) (regX_own (Ck) (regX_split 12 16 (by rfl) ?_ ?_))
  case' refine_1=>
   refine Sw [[],[0],[],[2],[2,3],[0,1,2,3,4],[0,1,2,3,4,5],[],[7],[],[9],[9,10],[0,1,2,3,4,5,6,7,8,9,10,11],[0,1,2,3,4,5,6,7,8,9,10,11,12],[0,1,2,3,4,5,6,7,8,9,10,11,12,13],[0,1,2,3,4,5,6,7,8,9,10,11,12,13],[0,1,2,3,4,5,6,7,8,9,10,11,12],[0,1,2,3,4,5,6,7,8,9,10,11,12,13,14,16],[0,1,2,3,4,5,6,7,8,9,10,11,12,13,14,15,16,17]] 18 [Nn 0,Nn 1,Nn 2,Nn 3,Nn 4,Nn 5,Nn 6,Nn 7,Nn 8,Nn 9,Nn 10,Nn 11,Yy 12,Nn 13,Nn 14,Nn 15,Yy 16,Yy 17] ?_
   refine Da ?_
   try simp only [ei]
   refine Da ?_
   refine Yc (lendF Ck tell) ?_
   rintro _ _ ⟨A2,rfl,cs,rfl,q⟩
   have q0:=q
   obtain ⟨w2,l2,rfl,v1,v2⟩:=wordX q
   refine Da ?_
   try simp only [ei]
   refine Da ?_
   refine Yl fun b7=>?_
   refine Da ?_
   refine a_store (by rfl) (by rfl) (by rfl) (.inl rfl) ?_
   refine Da ?_
   refine Ae ?_
   repeat first|refine R1 ?_|refine R2 fun _=>?_
   refine sf_cond (by rfl) (fun e4=>?_) fun e4=>?_
   ·rw [if_pos e4]
    repeat first|refine R1 ?_|refine R2 fun _=>?_
    refine fp (y_call (l31Put_f h _ _ _ _ w _ bw0 q0) (by rfl) ?_)
    rintro _ A3 ⟨cs,rfl,q⟩
    obtain ⟨c1,c2,c3,c4,c5,c6,rfl,v1,v2,v3,v4,v5,v6⟩:=worldC q
    repeat first|refine R1 ?_|refine R2 fun _=>?_
    exact sf_ret (rO A3 ⟨_,rfl,q⟩)
   ·rw [if_neg (by simp [e4])]
    repeat first|refine R1 ?_|refine R2 fun _=>?_
    exact sf_ret (rO (AK++((P0++(C1++(Ck++C2)))++AN)) ⟨_,rfl,bw0⟩)
  case' refine_2=>
   refine Sw [[],[0],[],[2],[2,3],[0,1,2,3,4],[0,1,2,3,4,5],[],[7],[],[9],[9,10],[0,1,2,3,4,5,6,7,8,9,10,11,16],[0,1,2,3,4,5,6,7,8,9,10,11,12,16],[0,1,2,3,4,5,6,7,8,9,10,11,12,13,16],[0,1,2,3,4,5,6,7,8,9,10,11,12,13,16],[],[0,1,2,3,4,5,6,7,8,9,10,11,12,13,14,16],[0,1,2,3,4,5,6,7,8,9,10,11,12,13,14,15,16,17]] 18 [Nn 0,Nn 1,Nn 2,Nn 3,Nn 4,Nn 5,Nn 6,Nn 7,Nn 8,Nn 9,Nn 10,Nn 11,Yy 16,Yy 12,Nn 13,Nn 14,Nn 15,Yy 17] ?_
   refine Da ?_
   try simp only [ei]
   refine Da ?_
   refine Yl fun b7=>?_
   refine Da ?_
   try simp only [ei]
   refine Da ?_
   refine Yc (lendF Ck tell) ?_
   rintro _ _ ⟨A2,rfl,cs,rfl,q⟩
   have q0:=q
   obtain ⟨w2,l2,rfl,v1,v2⟩:=wordX q
   refine Da ?_
   refine a_store (by rfl) (by rfl) (by rfl) (.inl rfl) ?_
   refine Da ?_
   refine Ae ?_
   repeat first|refine R1 ?_|refine R2 fun _=>?_
   refine sf_cond (by rfl) (fun e4=>?_) fun e4=>?_
   ·rw [if_pos e4]
    repeat first|refine R1 ?_|refine R2 fun _=>?_
    refine fp (y_call (l31Put_f h _ _ _ _ w _ bw0 q0) (by rfl) ?_)
    rintro _ A3 ⟨cs,rfl,q⟩
    obtain ⟨c1,c2,c3,c4,c5,c6,rfl,v1,v2,v3,v4,v5,v6⟩:=worldC q
    repeat first|refine R1 ?_|refine R2 fun _=>?_
    exact sf_ret (rO A3 ⟨_,rfl,q⟩)
   ·rw [if_neg (by simp [e4])]
    repeat first|refine R1 ?_|refine R2 fun _=>?_
    exact sf_ret (rO (AK++((P0++(C1++(Ck++C2)))++AN)) ⟨_,rfl,bw0⟩)
 rw [if_neg e3]
 repeat first|refine R1 ?_|refine R2 fun _=>?_
 refine sf_if (fun e4=>?_) fun e4=>?_
 ·rw [if_pos e4]
  repeat first|refine R1 ?_|refine R2 fun _=>?_
  simp only [ei]
  repeat first|refine R1 ?_|refine R2 fun _=>?_
  refine Xg gq fun D0 ys ey ly _ g5=>?_
  have oall:=oset [] ⟨_,rfl⟩ noPainter noPainterO'
  repeat first|refine R1 ?_|refine R2 fun _=>?_
  exact sf_ret (rO (AK++((D0++(C1++([]++C2)))++AN)) ⟨_,rfl,worldX_mk (w:=setP w i noPainter) k ⟨D0,_,rfl,ys,g5,by rw [ey]; exact oall,by simp [setP]; omega⟩ gn⟩)
 rw [if_neg e4]
 repeat first|refine R1 ?_|refine R2 fun _=>?_
 refine sf_if (fun e5=>?_) fun e5=>?_
 ·rw [if_pos e5]
  repeat first|refine R1 ?_|refine R2 fun _=>?_
  simp only [ei]
  repeat first|refine R1 ?_|refine R2 fun _=>?_
  refine Xh gq fun D0 ys ey ly _ g5=>?_
  have oall:=oset Ck ⟨_,rfl⟩ (upP (gt w.painters i)) (paint_upR qk)
  repeat first|refine R1 ?_|refine R2 fun _=>?_
  exact sf_ret (rO (AK++((D0++(C1++(Ck++C2)))++AN)) ⟨_,rfl,worldX_mk (w:=setP w i (upP (gt w.painters i))) k ⟨D0,_,rfl,ys,g5,by rw [ey]; exact oall,by simp [setP]; omega⟩ gn⟩)
 rw [if_neg e5]
 repeat first|refine R1 ?_|refine R2 fun _=>?_
 exact sf_ret (rO (AK++((P0++(C1++(Ck++C2)))++AN)) ⟨_,rfl,bw0⟩)
theorem l31Do_f (h:PHeap) (A:Own) (ca:List Value) (w:World') (bw:(worldR τ).O A ca w) (ok:WOk w) (e:Event'):CallF Tryz.prog M 126 [.agg ca.toArray,eventV e] A h fun u A'=>∃ cs,u = .agg cs.toArray∧(worldR τ).O A' cs (wDo w e):=by
 have bw0:=bw
 obtain ⟨c,ee,p,s,ps,ns,AK,AP,AN,rfl,rfl,k,gp,gn,o1,o2,o3,o4⟩:=worldX bw
 have o5:=gp.one
 have o6:=gn.one
 obtain ⟨kind,a,ed⟩:=e
 simp only [eventV]
 rw [wDo]
 simp only
 refine Cs Tryz.func126 Tryz.ntmps126 ?_
 repeat first|refine R1 ?_|refine R2 fun _=>?_
 refine sf_if (fun e1=>?_) fun e1=>?_
 ·rw [if_pos e1]
  obtain ⟨c',e',p',s',K1,K2,K3,K4,ec,rfl,⟨g1,l1⟩,⟨g2,l2⟩,g3,g4⟩:=keeperO k
  simp only [List.cons.injEq,and_true,true_and] at ec
  obtain ⟨rfl,rfl,rfl,rfl⟩:=ec
  repeat first|refine R1 ?_|refine R2 fun _=>?_
  refine f_split (fun e2=>?_) fun e2=>?_
  ·repeat first|refine R1 ?_|refine R2 fun _=>?_
   refine Xb fun ev AE ge=>?_
   have oe:=ge.one
   repeat first|refine R1 ?_|refine R2 fun _=>?_
   refine fp (y_lendV (K1++AE) (fun h' _ i=>l13Edits_v h' c w.keeper.first (g1.lent l1 (inb_l i)) ev [ed] (ge.lent (by simp) (inb_r i))) (by rfl) ?_)
   rw [editsOk_one]
   repeat first|refine R1 ?_|refine R2 fun _=>?_
   refine sf_cond (by rfl) (fun e3=>?_) fun e3=>?_
   ·rw [if_pos (by simp [canEdit] at e3 ⊢; exact ⟨by omega,e3⟩)]
    repeat first|refine R1 ?_|refine R2 fun _=>?_
    refine Xb fun u Au gu=>?_
    repeat first|refine R1 ?_|refine R2 fun _=>?_
    refine Xa g2 gu fun v2 A2 g5=>?_
    have o7:=g5.one
    repeat first|refine R1 ?_|refine R2 fun _=>?_
    exact sf_ret (rO ((K1++(A2++(K3++K4)))++(AP++AN)) ⟨_,rfl,worldX_mk (w:={ w with keeper:=withEdit w.keeper ed }) (keeperO_mk (k:=withEdit w.keeper ed) g1 l1 g5 (by simp [withEdit]; omega) g3 g4) gp gn⟩)
   ·rw [if_neg (by simp [canEdit] at e3 ⊢; intro _; exact e3)]
    repeat first|refine R1 ?_|refine R2 fun _=>?_
    exact sf_ret (rO ((K1++(K2++(K3++K4)))++(AP++AN)) ⟨_,rfl,bw0⟩)
  ·rw [if_neg (by simp [canEdit]; intro z; omega)]
   repeat first|refine R1 ?_|refine R2 fun _=>?_
   refine sf_cond (by rfl) (fun e=>by cases e) fun _=>?_
   repeat first|refine R1 ?_|refine R2 fun _=>?_
   exact sf_ret (rO ((K1++(K2++(K3++K4)))++(AP++AN)) ⟨_,rfl,bw0⟩)
 rw [if_neg e1]
 by_cases e2:4 ≤ kind∧kind ≤ 6
 ·rw [if_pos e2]
  have net:=l31Net_f (M:=M) h _ _ w bw0 ok ⟨kind,a,ed⟩
  have fin:∀ {X:Prop} (_:X),X:=fun x=>x
  repeat first|refine R1 ?_|refine R2 fun _=>?_
  refine sf_if (fun e3=>?_) fun e3=>?_
  ·repeat first|refine R1 ?_|refine R2 fun _=>?_
   refine sf_if (fun _=>?_) fun z=>absurd (by assumption) z
   repeat first|refine R1 ?_|refine R2 fun _=>?_
   refine fp (y_call net (by rfl) ?_)
   rintro _ A2 ⟨cs,rfl,q⟩
   obtain ⟨c1,c2,c3,c4,c5,c6,rfl,v1,v2,v3,v4,v5,v6⟩:=worldC q
   repeat first|refine R1 ?_|refine R2 fun _=>?_
   exact sf_ret (rO A2 ⟨_,rfl,q⟩)
  repeat first|refine R1 ?_|refine R2 fun _=>?_
  refine sf_if (fun e4=>?_) fun e4=>?_
  ·repeat first|refine R1 ?_|refine R2 fun _=>?_
   refine sf_if (fun _=>?_) fun z=>absurd (by assumption) z
   repeat first|refine R1 ?_|refine R2 fun _=>?_
   refine fp (y_call net (by rfl) ?_)
   rintro _ A2 ⟨cs,rfl,q⟩
   obtain ⟨c1,c2,c3,c4,c5,c6,rfl,v1,v2,v3,v4,v5,v6⟩:=worldC q
   repeat first|refine R1 ?_|refine R2 fun _=>?_
   exact sf_ret (rO A2 ⟨_,rfl,q⟩)
  have e5:kind = 6:=by omega
  repeat first|refine R1 ?_|refine R2 fun _=>?_
  refine sf_if (fun _=>?_) fun e6=>absurd e5 e6
  repeat first|refine R1 ?_|refine R2 fun _=>?_
  refine fp (y_call net (by rfl) ?_)
  rintro _ A2 ⟨cs,rfl,q⟩
  obtain ⟨c1,c2,c3,c4,c5,c6,rfl,v1,v2,v3,v4,v5,v6⟩:=worldC q
  repeat first|refine R1 ?_|refine R2 fun _=>?_
  exact sf_ret (rO A2 ⟨_,rfl,q⟩)
 ·rw [if_neg e2]
  repeat first|refine R1 ?_|refine R2 fun _=>?_
  refine sf_if (fun e3=>?_) fun e3=>?_
  ·omega
  repeat first|refine R1 ?_|refine R2 fun _=>?_
  refine sf_if (fun e4=>?_) fun e4=>?_
  ·omega
  repeat first|refine R1 ?_|refine R2 fun _=>?_
  refine sf_if (fun e5=>?_) fun e5=>?_
  ·omega
  repeat first|refine R1 ?_|refine R2 fun _=>?_
  refine fp (y_call (l31Painter_f (M:=M) h _ _ w bw0 ok ⟨kind,a,ed⟩) (by rfl) ?_)
  rintro _ A2 ⟨cs,rfl,q⟩
  obtain ⟨c1,c2,c3,c4,c5,c6,rfl,v1,v2,v3,v4,v5,v6⟩:=worldC q
  repeat first|refine R1 ?_|refine R2 fun _=>?_
  exact sf_ret (rO A2 ⟨_,rfl,q⟩)
instance:ElemF Tryz.prog 176 eventF:=⟨trivial⟩
theorem l72Event_f (h:PHeap) (br:Nat) (v:Value) (xs:List (Fin 256)) (s:Sl h v u8F xs) (hs:xs.length ≤ 2000) (p:Nat) (hp1:p ≤ 980000) (ca:List Value) (w:World') (b:(worldR τ).B h ca w) (hn:w.nets.length ≤ 900) (h1:1 ≤ w.painters.length) (h3:w.painters.length ≤ 900) (hg:w.keeper.first.cells.length ≤ 1000):CallF Tryz.prog M 125 [.pointer (some ⟨br,0,none⟩),.agg ca.toArray] (rdA br v p) h fun u A=>∃ (e:Event') (q:Nat),u = eventV e∧q ≤ p + 20∧A = rdA br v q:=by
 have o0:=s.one
 obtain ⟨c,ed,pt,sh,ps,ns,rfl,s1,s2,s3,s4,s5,s6⟩:=worldB b
 have o1:=s1.one
 have o2:=s2.one
 have o3:=s3.one
 have o4:=s4.one
 have o5:=s5.one
 have o6:=s6.one
 obtain ⟨rp,sp,bp⟩:=s5
 obtain ⟨rn,sn,bn⟩:=s6
 have lp:=bp.len
 have ln:=bn.len
 have bg:(gridR τ).B h [.int .i64 w.keeper.first.wide,c] w.keeper.first:=gridB_mk s1
 refine Cs Tryz.func125 Tryz.ntmps125 ?_
 repeat first|refine R1 ?_|refine R2 fun _=>?_
 refine fp (y_call (pick_f _ br v xs s hs p (rp.length:Int) (by omega) (by omega) (by omega)) (by rfl) ?_)
 rintro _ _ ⟨m,rfl,m0,m1,rfl⟩
 repeat first|refine R1 ?_|refine R2 fun _=>?_
 refine f_split (fun g1=>?_) fun g1=>?_
 ·repeat first|refine R1 ?_|refine R2 fun _=>?_
  refine fp (y_call (pick_f _ br v xs s hs (p + 1) 3 (by omega) (by omega) (by omega)) (by rfl) ?_)
  rintro _ _ ⟨m2,rfl,-,-,rfl⟩
  repeat first|refine R1 ?_|refine R2 fun _=>?_
  refine sf_if (fun g2=>?_) fun g2=>?_
  ·repeat first|refine R1 ?_|refine R2 fun _=>?_
   refine fp (y_call (pick_f _ br v xs s hs (p + 1 + 1) (rn.length:Int) (by omega) (by omega) (by omega)) (by rfl) ?_)
   rintro _ _ ⟨m3,rfl,-,-,rfl⟩
   repeat first|refine R1 ?_|refine R2 fun _=>?_
   exact sf_ret (rt (rdA br v (p + 1 + 1 + 1)) (resV_one rfl (yr_cell rfl)) ⟨⟨4,m3,noEdit⟩,_,rfl,by omega,rfl⟩)
  repeat first|refine R1 ?_|refine R2 fun _=>?_
  refine fp (y_call (pick_f _ br v xs s hs (p + 1 + 1) 14 (by omega) (by omega) (by omega)) (by rfl) ?_)
  rintro _ _ ⟨n,rfl,-,-,rfl⟩
  repeat first|refine R1 ?_|refine R2 fun _=>?_
  refine sf_if (fun z=>?_) fun z=>?_
  ·repeat first|refine R1 ?_|refine R2 fun _=>?_
   refine sf_if (fun _=>?_) fun y=>absurd z y
   repeat first|refine R1 ?_|refine R2 fun _=>?_
   refine fp (y_call (l71Edit_f _ br v xs s hs (p + 1 + 1 + 1) (by omega) _ _ bg hg) (by rfl) ?_)
   rintro _ _ ⟨e,q,rfl,hq,rfl⟩
   repeat first|refine R1 ?_|refine R2 fun _=>?_
   exact sf_ret (rt (rdA br v q) (resV_one rfl (yr_cell rfl)) ⟨⟨1,0,e⟩,_,rfl,by omega,rfl⟩)
  repeat first|refine R1 ?_|refine R2 fun _=>?_
  refine sf_if (fun z=>?_) fun z=>?_
  ·repeat first|refine R1 ?_|refine R2 fun _=>?_
   refine sf_if (fun _=>?_) fun y=>absurd z y
   repeat first|refine R1 ?_|refine R2 fun _=>?_
   refine fp (y_call (l71Edit_f _ br v xs s hs (p + 1 + 1 + 1) (by omega) _ _ bg hg) (by rfl) ?_)
   rintro _ _ ⟨e,q,rfl,hq,rfl⟩
   repeat first|refine R1 ?_|refine R2 fun _=>?_
   exact sf_ret (rt (rdA br v q) (resV_one rfl (yr_cell rfl)) ⟨⟨1,0,e⟩,_,rfl,by omega,rfl⟩)
  repeat first|refine R1 ?_|refine R2 fun _=>?_
  refine sf_if (fun z=>?_) fun z=>?_
  ·repeat first|refine R1 ?_|refine R2 fun _=>?_
   refine fp (y_call (l71Edit_f _ br v xs s hs (p + 1 + 1 + 1) (by omega) _ _ bg hg) (by rfl) ?_)
   rintro _ _ ⟨e,q,rfl,hq,rfl⟩
   repeat first|refine R1 ?_|refine R2 fun _=>?_
   exact sf_ret (rt (rdA br v q) (resV_one rfl (yr_cell rfl)) ⟨⟨1,0,e⟩,_,rfl,by omega,rfl⟩)
  repeat first|refine R1 ?_|refine R2 fun _=>?_
  refine sf_if (fun z=>?_) fun z=>?_
  ·repeat first|refine R1 ?_|refine R2 fun _=>?_
   refine sf_if (fun _=>?_) fun y=>absurd z y
   repeat first|refine R1 ?_|refine R2 fun _=>?_
   exact sf_ret (rt (rdA br v (p + 1 + 1 + 1)) (resV_one rfl (yr_cell rfl)) ⟨⟨2,1 + m,noEdit⟩,_,rfl,by omega,rfl⟩)
  repeat first|refine R1 ?_|refine R2 fun _=>?_
  refine sf_if (fun z=>?_) fun z=>?_
  ·repeat first|refine R1 ?_|refine R2 fun _=>?_
   refine sf_if (fun _=>?_) fun y=>absurd z y
   repeat first|refine R1 ?_|refine R2 fun _=>?_
   exact sf_ret (rt (rdA br v (p + 1 + 1 + 1)) (resV_one rfl (yr_cell rfl)) ⟨⟨2,1 + m,noEdit⟩,_,rfl,by omega,rfl⟩)
  repeat first|refine R1 ?_|refine R2 fun _=>?_
  refine sf_if (fun z=>?_) fun z=>?_
  ·repeat first|refine R1 ?_|refine R2 fun _=>?_
   exact sf_ret (rt (rdA br v (p + 1 + 1 + 1)) (resV_one rfl (yr_cell rfl)) ⟨⟨2,1 + m,noEdit⟩,_,rfl,by omega,rfl⟩)
  repeat first|refine R1 ?_|refine R2 fun _=>?_
  refine sf_if (fun z=>?_) fun z=>?_
  ·repeat first|refine R1 ?_|refine R2 fun _=>?_
   refine sf_if (fun _=>?_) fun y=>absurd z y
   repeat first|refine R1 ?_|refine R2 fun _=>?_
   exact sf_ret (rt (rdA br v (p + 1 + 1 + 1)) (resV_one rfl (yr_cell rfl)) ⟨⟨3,1 + m,noEdit⟩,_,rfl,by omega,rfl⟩)
  repeat first|refine R1 ?_|refine R2 fun _=>?_
  refine sf_if (fun z=>?_) fun z=>?_
  ·repeat first|refine R1 ?_|refine R2 fun _=>?_
   refine sf_if (fun _=>?_) fun y=>absurd z y
   repeat first|refine R1 ?_|refine R2 fun _=>?_
   exact sf_ret (rt (rdA br v (p + 1 + 1 + 1)) (resV_one rfl (yr_cell rfl)) ⟨⟨3,1 + m,noEdit⟩,_,rfl,by omega,rfl⟩)
  repeat first|refine R1 ?_|refine R2 fun _=>?_
  refine sf_if (fun z=>?_) fun z=>?_
  ·repeat first|refine R1 ?_|refine R2 fun _=>?_
   exact sf_ret (rt (rdA br v (p + 1 + 1 + 1)) (resV_one rfl (yr_cell rfl)) ⟨⟨3,1 + m,noEdit⟩,_,rfl,by omega,rfl⟩)
  repeat first|refine R1 ?_|refine R2 fun _=>?_
  refine sf_if (fun z=>?_) fun z=>?_
  ·repeat first|refine R1 ?_|refine R2 fun _=>?_
   refine fp (y_call (pick_f _ br v xs s hs (p + 1 + 1 + 1) ((rn.length:Int) + 1) (by omega) (by omega) (by omega)) (by rfl) ?_)
   rintro _ _ ⟨m4,rfl,-,-,rfl⟩
   repeat first|refine R1 ?_|refine R2 fun _=>?_
   exact sf_ret (rt (rdA br v (p + 1 + 1 + 1 + 1)) (resV_one rfl (yr_cell rfl)) ⟨⟨4,m4,noEdit⟩,_,rfl,by omega,rfl⟩)
  repeat first|refine R1 ?_|refine R2 fun _=>?_
  refine sf_if (fun z=>?_) fun z=>?_
  ·repeat first|refine R1 ?_|refine R2 fun _=>?_
   refine fp (y_call (pick_f _ br v xs s hs (p + 1 + 1 + 1) ((rn.length:Int) + 1) (by omega) (by omega) (by omega)) (by rfl) ?_)
   rintro _ _ ⟨m4,rfl,-,-,rfl⟩
   repeat first|refine R1 ?_|refine R2 fun _=>?_
   exact sf_ret (rt (rdA br v (p + 1 + 1 + 1 + 1)) (resV_one rfl (yr_cell rfl)) ⟨⟨5,m4,noEdit⟩,_,rfl,by omega,rfl⟩)
  repeat first|refine R1 ?_|refine R2 fun _=>?_
  refine sf_if (fun z=>?_) fun z=>?_
  ·repeat first|refine R1 ?_|refine R2 fun _=>?_
   refine fp (y_call (pick_f _ br v xs s hs (p + 1 + 1 + 1) ((rn.length:Int) + 1) (by omega) (by omega) (by omega)) (by rfl) ?_)
   rintro _ _ ⟨m4,rfl,-,-,rfl⟩
   repeat first|refine R1 ?_|refine R2 fun _=>?_
   exact sf_ret (rt (rdA br v (p + 1 + 1 + 1 + 1)) (resV_one rfl (yr_cell rfl)) ⟨⟨6,m4,noEdit⟩,_,rfl,by omega,rfl⟩)
  repeat first|refine R1 ?_|refine R2 fun _=>?_
  refine sf_if (fun z=>?_) fun z=>?_
  ·repeat first|refine R1 ?_|refine R2 fun _=>?_
   exact sf_ret (rt (rdA br v (p + 1 + 1 + 1)) (resV_one rfl (yr_cell rfl)) ⟨⟨7,1 + m,noEdit⟩,_,rfl,by omega,rfl⟩)
  repeat first|refine R1 ?_|refine R2 fun _=>?_
  exact sf_ret (rt (rdA br v (p + 1 + 1 + 1)) (resV_one rfl (yr_cell rfl)) ⟨⟨8,1 + m,noEdit⟩,_,rfl,by omega,rfl⟩)
 ·repeat first|refine R1 ?_|refine R2 fun _=>?_
  refine sf_cond (by rfl) (fun z=>by simp [g1] at z) fun _=>?_
  repeat first|refine R1 ?_|refine R2 fun _=>?_
  refine fp (y_call (pick_f _ br v xs s hs (p + 1) 14 (by omega) (by omega) (by omega)) (by rfl) ?_)
  rintro _ _ ⟨n,rfl,-,-,rfl⟩
  repeat first|refine R1 ?_|refine R2 fun _=>?_
  refine sf_if (fun z=>?_) fun z=>?_
  ·repeat first|refine R1 ?_|refine R2 fun _=>?_
   refine sf_if (fun _=>?_) fun y=>absurd z y
   repeat first|refine R1 ?_|refine R2 fun _=>?_
   refine fp (y_call (l71Edit_f _ br v xs s hs (p + 1 + 1) (by omega) _ _ bg hg) (by rfl) ?_)
   rintro _ _ ⟨e,q,rfl,hq,rfl⟩
   repeat first|refine R1 ?_|refine R2 fun _=>?_
   exact sf_ret (rt (rdA br v q) (resV_one rfl (yr_cell rfl)) ⟨⟨1,0,e⟩,_,rfl,by omega,rfl⟩)
  repeat first|refine R1 ?_|refine R2 fun _=>?_
  refine sf_if (fun z=>?_) fun z=>?_
  ·repeat first|refine R1 ?_|refine R2 fun _=>?_
   refine sf_if (fun _=>?_) fun y=>absurd z y
   repeat first|refine R1 ?_|refine R2 fun _=>?_
   refine fp (y_call (l71Edit_f _ br v xs s hs (p + 1 + 1) (by omega) _ _ bg hg) (by rfl) ?_)
   rintro _ _ ⟨e,q,rfl,hq,rfl⟩
   repeat first|refine R1 ?_|refine R2 fun _=>?_
   exact sf_ret (rt (rdA br v q) (resV_one rfl (yr_cell rfl)) ⟨⟨1,0,e⟩,_,rfl,by omega,rfl⟩)
  repeat first|refine R1 ?_|refine R2 fun _=>?_
  refine sf_if (fun z=>?_) fun z=>?_
  ·repeat first|refine R1 ?_|refine R2 fun _=>?_
   refine fp (y_call (l71Edit_f _ br v xs s hs (p + 1 + 1) (by omega) _ _ bg hg) (by rfl) ?_)
   rintro _ _ ⟨e,q,rfl,hq,rfl⟩
   repeat first|refine R1 ?_|refine R2 fun _=>?_
   exact sf_ret (rt (rdA br v q) (resV_one rfl (yr_cell rfl)) ⟨⟨1,0,e⟩,_,rfl,by omega,rfl⟩)
  repeat first|refine R1 ?_|refine R2 fun _=>?_
  refine sf_if (fun z=>?_) fun z=>?_
  ·repeat first|refine R1 ?_|refine R2 fun _=>?_
   refine sf_if (fun _=>?_) fun y=>absurd z y
   repeat first|refine R1 ?_|refine R2 fun _=>?_
   exact sf_ret (rt (rdA br v (p + 1 + 1)) (resV_one rfl (yr_cell rfl)) ⟨⟨2,1 + m,noEdit⟩,_,rfl,by omega,rfl⟩)
  repeat first|refine R1 ?_|refine R2 fun _=>?_
  refine sf_if (fun z=>?_) fun z=>?_
  ·repeat first|refine R1 ?_|refine R2 fun _=>?_
   refine sf_if (fun _=>?_) fun y=>absurd z y
   repeat first|refine R1 ?_|refine R2 fun _=>?_
   exact sf_ret (rt (rdA br v (p + 1 + 1)) (resV_one rfl (yr_cell rfl)) ⟨⟨2,1 + m,noEdit⟩,_,rfl,by omega,rfl⟩)
  repeat first|refine R1 ?_|refine R2 fun _=>?_
  refine sf_if (fun z=>?_) fun z=>?_
  ·repeat first|refine R1 ?_|refine R2 fun _=>?_
   exact sf_ret (rt (rdA br v (p + 1 + 1)) (resV_one rfl (yr_cell rfl)) ⟨⟨2,1 + m,noEdit⟩,_,rfl,by omega,rfl⟩)
  repeat first|refine R1 ?_|refine R2 fun _=>?_
  refine sf_if (fun z=>?_) fun z=>?_
  ·repeat first|refine R1 ?_|refine R2 fun _=>?_
   refine sf_if (fun _=>?_) fun y=>absurd z y
   repeat first|refine R1 ?_|refine R2 fun _=>?_
   exact sf_ret (rt (rdA br v (p + 1 + 1)) (resV_one rfl (yr_cell rfl)) ⟨⟨3,1 + m,noEdit⟩,_,rfl,by omega,rfl⟩)
  repeat first|refine R1 ?_|refine R2 fun _=>?_
  refine sf_if (fun z=>?_) fun z=>?_
  ·repeat first|refine R1 ?_|refine R2 fun _=>?_
   refine sf_if (fun _=>?_) fun y=>absurd z y
   repeat first|refine R1 ?_|refine R2 fun _=>?_
   exact sf_ret (rt (rdA br v (p + 1 + 1)) (resV_one rfl (yr_cell rfl)) ⟨⟨3,1 + m,noEdit⟩,_,rfl,by omega,rfl⟩)
  repeat first|refine R1 ?_|refine R2 fun _=>?_
  refine sf_if (fun z=>?_) fun z=>?_
  ·repeat first|refine R1 ?_|refine R2 fun _=>?_
   exact sf_ret (rt (rdA br v (p + 1 + 1)) (resV_one rfl (yr_cell rfl)) ⟨⟨3,1 + m,noEdit⟩,_,rfl,by omega,rfl⟩)
  repeat first|refine R1 ?_|refine R2 fun _=>?_
  refine sf_if (fun z=>?_) fun z=>?_
  ·repeat first|refine R1 ?_|refine R2 fun _=>?_
   refine fp (y_call (pick_f _ br v xs s hs (p + 1 + 1) ((rn.length:Int) + 1) (by omega) (by omega) (by omega)) (by rfl) ?_)
   rintro _ _ ⟨m4,rfl,-,-,rfl⟩
   repeat first|refine R1 ?_|refine R2 fun _=>?_
   exact sf_ret (rt (rdA br v (p + 1 + 1 + 1)) (resV_one rfl (yr_cell rfl)) ⟨⟨4,m4,noEdit⟩,_,rfl,by omega,rfl⟩)
  repeat first|refine R1 ?_|refine R2 fun _=>?_
  refine sf_if (fun z=>?_) fun z=>?_
  ·repeat first|refine R1 ?_|refine R2 fun _=>?_
   refine fp (y_call (pick_f _ br v xs s hs (p + 1 + 1) ((rn.length:Int) + 1) (by omega) (by omega) (by omega)) (by rfl) ?_)
   rintro _ _ ⟨m4,rfl,-,-,rfl⟩
   repeat first|refine R1 ?_|refine R2 fun _=>?_
   exact sf_ret (rt (rdA br v (p + 1 + 1 + 1)) (resV_one rfl (yr_cell rfl)) ⟨⟨5,m4,noEdit⟩,_,rfl,by omega,rfl⟩)
  repeat first|refine R1 ?_|refine R2 fun _=>?_
  refine sf_if (fun z=>?_) fun z=>?_
  ·repeat first|refine R1 ?_|refine R2 fun _=>?_
   refine fp (y_call (pick_f _ br v xs s hs (p + 1 + 1) ((rn.length:Int) + 1) (by omega) (by omega) (by omega)) (by rfl) ?_)
   rintro _ _ ⟨m4,rfl,-,-,rfl⟩
   repeat first|refine R1 ?_|refine R2 fun _=>?_
   exact sf_ret (rt (rdA br v (p + 1 + 1 + 1)) (resV_one rfl (yr_cell rfl)) ⟨⟨6,m4,noEdit⟩,_,rfl,by omega,rfl⟩)
  repeat first|refine R1 ?_|refine R2 fun _=>?_
  refine sf_if (fun z=>?_) fun z=>?_
  ·repeat first|refine R1 ?_|refine R2 fun _=>?_
   exact sf_ret (rt (rdA br v (p + 1 + 1)) (resV_one rfl (yr_cell rfl)) ⟨⟨7,1 + m,noEdit⟩,_,rfl,by omega,rfl⟩)
  repeat first|refine R1 ?_|refine R2 fun _=>?_
  exact sf_ret (rt (rdA br v (p + 1 + 1)) (resV_one rfl (yr_cell rfl)) ⟨⟨8,1 + m,noEdit⟩,_,rfl,by omega,rfl⟩)
theorem painters0 {A:Own} {v:Value} {n:Nat} (g:Gr A v 70 (rawF (painterR τ).sz) (List.replicate n ⟨[.bool true,.bool false,.int .i64 0,.int .i64 0,.slice none 0 0,.slice none 0 0,.slice none 0 0],rfl⟩)) (hn:n ≤ 281474976710656):GrR (painterR τ) A v 70 (List.replicate n freshPainter):=by
 refine ⟨A,[],by simp,_,g,?_,by simpa using hn⟩
 clear g hn
 induction n with
 | zero=>exact .nil
 | succ n ih=>rw [List.replicate_succ,List.replicate_succ]; exact .cons (A:=[]) freshPainterO ih
theorem sWorldNew_f (h:PHeap) (ca:List Value) (g:Grid) (many:Int) (b:(gridR τ).B h ca g) (hs:g.cells.length ≤ 1048576):CallF Tryz.prog M 40 [.agg ca.toArray,.int .i64 many] [] h fun v A=>∃ cs,v = .tuple #[.agg cs.toArray,.bool (worldNew g many).2]∧(worldR τ).O A cs (worldNew g many).1:=by
 obtain ⟨c,rfl,s⟩:=gridB b
 have o1:=s.one
 refine Cs Tryz.func40 Tryz.ntmps40 ?_
 repeat first|refine R1 ?_|refine R2 fun _=>?_
 refine fp (y_call (sKeepNew_f _ _ g many b hs) (by rfl) ?_)
 rintro _ A1 ⟨_,rfl,q⟩
 obtain ⟨x1,x2,x3,x4,K1,K2,K3,K4,rfl,rfl,⟨r1,l1⟩,⟨r2,l2⟩,r3,r4⟩:=keeperO q
 have p1:=r1.one
 have p2:=r2.one
 have p3:=r3.one
 have p4:=r4.one
 repeat first|refine R1 ?_|refine R2 fun _=>?_
 refine sf_cond (by rfl) (fun h2=>?_) fun h2=>?_
 ·rw [worldNew_F (by simpa using h2)]
  repeat first|refine R1 ?_|refine R2 fun _=>?_
  exact sf_ret (rO [] ⟨_,rfl,noWorldO⟩)
 ·have h3:(keepNew g many).2 = true:=by simpa using h2
  have hm:=keepNew_many h3
  rw [worldNew_T h3]
  generalize keepNew g many = kn at *
  repeat first|refine R1 ?_|refine R2 fun _=>?_
  refine Xb fun e1 A2 g2=>?_
  have o2:=g2.one
  repeat first|refine R1 ?_|refine R2 fun _=>?_
  rename_i b2 b4 b6 b8
  obtain ⟨n,rfl⟩:∃ n:Nat,many = n:=⟨many.toNat,by omega⟩
  refine sf_lp [1,4,8] (fun i:Nat=>[(9,.int .i64 (i:Int))]) (fun i O=>i ≤ n∧∃ p A0,O = (b8,.cells #[.int .i64 kn.1.first.wide,x1,x2,x3,x4,p,e1] 80) :: (A0++(A2++(K1++(K2++(K3++K4))++[(b4,.cells #[.int .i64 0,.slice none 0 0,.slice none 0 0,.slice none 0 0,.slice none 0 0,.slice none 0 0,.slice none 0 0] 80)])))∧Gr A0 p 70 (rawF (painterR τ).sz) (List.replicate i ⟨[.bool true,.bool false,.int .i64 0,.int .i64 0,.slice none 0 0,.slice none 0 0,.slice none 0 0],rfl⟩)) (fun i=>n - i) 0 ((b8,.cells #[.int .i64 kn.1.first.wide,x1,x2,x3,x4,.slice none 0 0,e1] 80) :: ([]++(A2++(K1++(K2++(K3++K4))++[(b4,.cells #[.int .i64 0,.slice none 0 0,.slice none 0 0,.slice none 0 0,.slice none 0 0,.slice none 0 0,.slice none 0 0] 80)])))) ⟨by omega,_,[],rfl,Gr.nil _ _⟩ ?_
  rintro i O ⟨hi,p,A0,rfl,g3⟩
  have o5:=g3.one
  repeat first|refine R1 ?_|refine R2 fun _=>?_
  refine sf_if (fun h4=>?_) fun h4=>?_
  ·repeat first|refine R1 ?_|refine R2 fun _=>?_
   refine Xb fun u Au gu=>?_
   repeat first|refine R1 ?_|refine R2 fun _=>?_
   refine fp (y_append (by rfl) (by rfl) g3 gu (by intro y hy; simp at hy; subst hy; exact (inferInstance:AllOne [Value.bool true,.bool false,.int .i64 0,.int .i64 0,.slice none 0 0,.slice none 0 0,.slice none 0 0]).is) (by rfl) (by rfl) (by simp; omega) (by simp; omega) fun p2 A5 g5=>?_)
   have o6:=g5.one
   repeat first|refine R1 ?_|refine R2 fun _=>?_
   refine ⟨i + 1,by omega,⟨rfl,trivial⟩,rfl,(b8,.cells #[.int .i64 kn.1.first.wide,x1,x2,x3,x4,p2,e1] 80) :: (A5++(A2++(K1++(K2++(K3++K4))++[(b4,.cells #[.int .i64 0,.slice none 0 0,.slice none 0 0,.slice none 0 0,.slice none 0 0,.slice none 0 0,.slice none 0 0] 80)]))),_,inferInstance,by omega,p2,A5,rfl,?_⟩
   rw [List.replicate_succ']
   exact g5
  ·refine sf_exit ?_
   repeat first|refine R1 ?_|refine R2 fun _=>?_
   have:i = n:=by omega
   subst this
   refine sf_ret (rO (K1++(K2++(K3++(K4++(A0++A2))))) ⟨_,rfl,?_⟩)
   simp only [Int.toNat_natCast]
   exact worldO_mk (w:=⟨kn.1,List.replicate i freshPainter,[]⟩) r1 l1 r2 l2 r3 r4 (painters0 g3 (by omega)) (GrR.of_gr g2)
theorem l72Play_f (h:PHeap) (br:Nat) (v:Value) (xs:List (Fin 256)) (s:Sl h v u8F xs) (hs:xs.length ≤ 2000) (p:Nat) (hp1:p ≤ 900000):CallF Tryz.prog M 84 [.pointer (some ⟨br,0,none⟩)] (rdA br v p) h fun u A=>∃ (g:Grid) (c ev:Value) (many:Int) (es:List Event') (w:World') (cs:List Value) (AG AE AW:Own) (q:Nat),u = .tuple #[.agg #[.int .i64 g.wide,c],.int .i64 many,ev,.agg cs.toArray]∧A = rdA br v q++(AG++(AE++AW))∧Gr AG c 46 cellF g.cells∧gridOk g = true∧Gr AE ev 176 eventF es∧(worldR τ).O AW cs w∧WOk w∧q ≤ p + 2000∧es.length ≤ 53∧1 ≤ many∧many ≤ 3∧w = wDos (worldNew g many).1 es:=by
 have o0:=s.one
 refine Cs Tryz.func84 Tryz.ntmps84 ?_
 repeat first|refine R1 ?_|refine R2 fun _=>?_
 refine fp (y_call (l71Grid_f _ br v xs s hs p (by omega)) (by rfl) ?_)
 rintro _ _ ⟨g,c,AG,q,rfl,gg,-,-,-,g25,hq,rfl,gok'⟩
 have o1:=gg.one
 repeat first|refine R1 ?_|refine R2 fun _=>?_
 refine fp (y_call (pick_f _ br v xs s hs q 3 (by omega) (by omega) (by omega)) (by rfl) ?_)
 rintro _ _ ⟨m,rfl,m0,m1,rfl⟩
 have hw:(worldNew g (1 + m)).2 = true:=by
  have hk:(keepNew g (1 + m)).2 = true:=by
   unfold keepNew
   rw [if_pos (by simp only [Bool.and_eq_true,decide_eq_true_eq]; exact ⟨gok',by omega,by omega⟩)]
  rw [worldNew_T hk]
 obtain ⟨ok0,hmn,-,-,-⟩:=worldNew_ok hw
 repeat first|refine R1 ?_|refine R2 fun _=>?_
 refine fp (y_call (lendF AG fun h' l' inb=>sWorldNew_f h' _ g (1 + m) (gridB_mk (gg.lent (by omega) inb)) (by omega)) (by rfl) ?_)
 rintro _ _ ⟨A2,rfl,cs,rfl,q2⟩
 have q0:=q2
 obtain ⟨c1,c2,c3,c4,c5,c6,rfl,u1,u2,u3,u4,u5,u6⟩:=worldC q2
 repeat first|refine R1 ?_|refine R2 fun _=>?_
 refine Xb fun ev0 AE0 ge0=>?_
 have oe:=ge0.one
 repeat first|refine R1 ?_|refine R2 fun _=>?_
 refine fp (y_call (pick_f _ br v xs s hs (q + 1) 54 (by omega) (by omega) (by omega)) (by rfl) ?_)
 rintro _ _ ⟨n,rfl,n0,n1,rfl⟩
 obtain ⟨n,rfl⟩:∃ k:Nat,n = k:=⟨n.toNat,by omega⟩
 repeat first|refine R1 ?_|refine R2 fun _=>?_
 rename_i b2 b5 b6 b8
 refine sf_lp (ι:=Nat × Value) [0,2,5,6,7,8] (fun x=>[(11,.int .i64 (x.1:Int)),(10,x.2)]) (fun x O=>x.1 ≤ n∧∃ cs q' AE AW es,O = rdA br v q'++((b8,.cells cs.toArray 80) :: (AE++(AW++(AG++[(b6,.cells #[.int .i64 g.wide,c] 25),(b5,.cells #[.int .i64 0,.slice none 0 0,.slice none 0 0,.slice none 0 0,.slice none 0 0,.slice none 0 0,.slice none 0 0] 80),(b2,.cells #[.int .i64 0,.slice none 0 0] 25)]))))∧Gr AE x.2 176 eventF es∧es.length = n - x.1∧(worldR τ).O AW cs (wDos (worldNew g (1 + m)).1 es)∧q' + 20 * x.1 ≤ q + 2 + 20 * n) (fun x=>x.1) (n,ev0) (rdA br v (q + 1 + 1)++((b8,.cells #[.int .i64 (worldNew g (1 + m)).1.keeper.first.wide,c1,c2,c3,c4,c5,c6] 80) :: (AE0++(A2++(AG++[(b6,.cells #[.int .i64 g.wide,c] 25),(b5,.cells #[.int .i64 0,.slice none 0 0,.slice none 0 0,.slice none 0 0,.slice none 0 0,.slice none 0 0,.slice none 0 0] 80),(b2,.cells #[.int .i64 0,.slice none 0 0] 25)]))))) ⟨by simp only; omega,_,_,AE0,A2,[],rfl,ge0,by simp,q0,by simp only; omega⟩ ?_
 clear ge0 oe q0 q2 u1 u2 u3 u4 u5 u6
 rintro ⟨k,ev⟩ O ⟨hk,cs,q',AE,AW,es,rfl,ge,he,qw,hq'⟩
 simp only at hk ge he hq' ⊢
 have oe:=ge.one
 have okw:=ok0.dos es
 have hes:es.length ≤ 53:=by omega
 generalize hwd:wDos (worldNew g (1 + m)).1 es = w at *
 have q0:=qw
 obtain ⟨c1,c2,c3,c4,c5,c6,rfl,u1,u2,u3,u4,u5,u6⟩:=worldC qw
 have hmw:=okw.many
 have hw1:=okw.head.n1
 have hw3:=okw.head.n3
 have hw10:=okw.nets
 have hwg:=(gok okw.head.grid).small
 repeat first|refine R1 ?_|refine R2 fun _=>?_
 refine sf_if (fun e=>?_) fun e=>?_
 ·obtain ⟨k,rfl⟩:∃ k':Nat,k = k' + 1:=⟨k - 1,by omega⟩
  repeat first|refine R1 ?_|refine R2 fun _=>?_
  refine fp (y_call (lendF AW fun h' l' inb=>l72Event_f h' br v xs (s.le l'.le) hs q' (by omega) _ w ((worldR τ).lent q0 inb) (by omega) (by omega) (by omega) (by omega)) (by rfl) ?_)
  rintro _ _ ⟨_,rfl,e',q3,rfl,hq3,rfl⟩
  simp only [eventV]
  repeat first|refine R1 ?_|refine R2 fun _=>?_
  refine Xb fun u Au gu=>?_
  repeat first|refine R1 ?_|refine R2 fun _=>?_
  refine Xa ge gu fun ev2 A5 g5=>?_
  have oe2:=g5.one
  repeat first|refine R1 ?_|refine R2 fun _=>?_
  refine fp (y_call (l31Do_f h _ _ w q0 okw e') (by rfl) ?_)
  rintro _ A6 ⟨cs,rfl,q6⟩
  have q7:=q6
  obtain ⟨d1,d2,d3,d4,d5,d6,rfl,w1,w2,w3,w4,w5,w6⟩:=worldC q6
  repeat first|refine R1 ?_|refine R2 fun _=>?_
  rw [show ((k + 1:Nat):Int) - 1 = (k:Int) by omega]
  refine ⟨(k,ev2),by simp only; omega,⟨rfl,rfl,trivial⟩,rfl,rdA br v q3++((b8,.cells #[.int .i64 (wDo w e').keeper.first.wide,d1,d2,d3,d4,d5,d6] 80) :: (A5++(A6++(AG++[(b6,.cells #[.int .i64 g.wide,c] 25),(b5,.cells #[.int .i64 0,.slice none 0 0,.slice none 0 0,.slice none 0 0,.slice none 0 0,.slice none 0 0,.slice none 0 0] 80),(b2,.cells #[.int .i64 0,.slice none 0 0] 25)])))),_,inferInstance,by simp only; omega,_,q3,A5,A6,es++[e'],rfl,g5,by simp; omega,?_,by simp only; omega⟩
  rw [show wDos (worldNew g (1 + m)).1 (es++[e']) = wDo w e' by rw [← hwd]; simp [wDos]]
  exact q7
 ·refine sf_exit ?_
  repeat first|refine R1 ?_|refine R2 fun _=>?_
  refine sf_draw (by kernel_rfl) (regX_own ([(b2,.cells #[.int .i64 0,.slice none 0 0] 25),(b5,.cells #[.int .i64 0,.slice none 0 0,.slice none 0 0,.slice none 0 0,.slice none 0 0,.slice none 0 0,.slice none 0 0] 80)]) (Sw [[],[],[],[],[0],[0,1,4],[0,1,2,4,5],[0,1,2,3,4,5,6]] 7 [Nn 0,Nn 1,Nn 2,Nn 3,Yy 4,Nn 5,Nn 6] ?_))
  refine Da ?_
  refine a_store (by rfl) (by rfl) (by rfl) (.inl rfl) ?_
  refine Da ?_
  refine Ae ?_
  repeat first|refine R1 ?_|refine R2 fun _=>?_
  exact sf_ret (rt (rdA br v q'++(AG++(AE++AW))) (resV_four rfl (yr_cell rfl) (res_tmp rfl) (res_tmp rfl) (yr_cell rfl)) ⟨g,c,ev,1 + m,es,w,_,AG,AE,AW,q',rfl,rfl,gg,gok',ge,q0,okw,by omega,hes,by omega,by omega,hwd.symm⟩)
structure DrawnK (cs:List Value) (k:Keeper) (A:Own):Prop where
 cells:∃ c b1 c1 b2 c2 b3 c3,cs = [.int .i64 k.first.wide,c,.slice b1 k.edits.length c1,.slice b2 k.parts.length c2,.slice b3 k.shown.length c3]∧Sl.One c
 lent:∀ h',InB h' A→(keeperR τ).B h' cs k
 size:szKeeperN k ≤ 200000
 n1:1 ≤ k.parts.length
 n3:k.parts.length ≤ 3
 e100:k.edits.length ≤ 100
 c25:k.first.cells.length ≤ 25
theorem grR_len {α:Type} {R:Rep α} {A:Own} {v:Value} {T:TypeId} {xs:List α} (g:GrR R A v T xs):∃ b c,v = .slice b xs.length c:=by
 obtain ⟨_,_,_,rs,g,o,_⟩:=g
 rw [← o.len]; exact g.len
theorem keeperS {A:Own} {cs:List Value} {k:Keeper} (b:(keeperR τ).O A cs k):∃ c b1 c1 b2 c2 b3 c3,cs = [.int .i64 k.first.wide,c,.slice b1 k.edits.length c1,.slice b2 k.parts.length c2,.slice b3 k.shown.length c3]∧Sl.One c:=by
 obtain ⟨c,e,p,s,_,_,_,_,rfl,-,⟨g1,-⟩,⟨g2,-⟩,g3,g4⟩:=keeperO b
 obtain ⟨b1,c1,rfl⟩:=g2.len
 obtain ⟨b2,c2,rfl⟩:=grR_len g3
 obtain ⟨b3,c3,rfl⟩:=grR_len g4
 exact ⟨c,_,_,_,_,_,_,rfl,g1.one⟩
theorem DrawnK.grid {k:Keeper} {A:Own} {z c x1 x2 x3:Value} (d:DrawnK [z,c,x1,x2,x3] k A) {h':PHeap} (i:InB h' A):(gridR τ).B h' [z,c] k.first:=by
 obtain ⟨c',e,p,s,ec,s1,-⟩:=keeperB (d.lent h' i)
 simp only [List.cons.injEq,and_true] at ec
 obtain ⟨rfl,rfl,-⟩:=ec
 exact gridB_mk s1
theorem drawnK_O {A:Own} {cs:List Value} {k:Keeper} (b:(keeperR τ).O A cs k) (h1:szKeeperN k ≤ 200000) (h2:1 ≤ k.parts.length) (h3:k.parts.length ≤ 3) (h4:k.edits.length ≤ 100) (h5:k.first.cells.length ≤ 25):DrawnK cs k A:=⟨keeperS b,fun h' i=>(keeperR τ).lent b i,h1,h2,h3,h4,h5⟩
theorem l72Keeper_f (h:PHeap) (br:Nat) (v:Value) (xs:List (Fin 256)) (s:Sl h v u8F xs) (hs:xs.length ≤ 2000) (p:Nat) (hp1:p ≤ 800000):CallF Tryz.prog M 44 [.pointer (some ⟨br,0,none⟩)] (rdA br v p) h fun u A=>∃ (k:Keeper) (cs:List Value) (A':Own) (q:Nat),u = .agg cs.toArray∧A = rdA br v q++A'∧DrawnK cs k A'∧q ≤ p + 2010:=by
 have o0:=s.one
 refine Cs Tryz.func44 Tryz.ntmps44 ?_
 repeat first|refine R1 ?_|refine R2 fun _=>?_
 refine fp (y_call (l72Play_f _ br v xs s hs p (by omega)) (by rfl) ?_)
 rintro _ _ ⟨g,c,ev,many,es,w,cs,AG,AE,AW,q,rfl,rfl,gg,gok',ge,qw,okw,hq,-,-,-,-⟩
 obtain ⟨c1,e1,p1,s1,ps1,ns1,AK,AP,AN,rfl,rfl,qk,gp,gn,o1,o2,o3,o4⟩:=worldX qw
 have o5:=gp.one
 have o6:=gn.one
 have o7:=gg.one
 have o8:=ge.one
 have ok:=okw.keep
 clear gg ge qw okw gp gn
 generalize w.keeper = k at *
 have qk0:=qk
 have sz:=(sz_keeper ok).1
 have hd:=keepOk_head ok
 have n1:=hd.n1
 have n3:=hd.n3
 have e60:=hd.e60
 have c25:=(gok hd.grid).small
 obtain ⟨c',e',p',s',K1,K2,K3,K4,ec,rfl,⟨g1,l1⟩,⟨g2,l2⟩,g3,g4⟩:=keeperO qk
 simp only [List.cons.injEq,and_true,true_and] at ec
 obtain ⟨rfl,rfl,rfl,rfl⟩:=ec
 have g30:=g3
 have g40:=g4
 obtain ⟨D0,D1,rfl,rp,gq,op,hp⟩:=g3
 obtain ⟨E0,E1,rfl,rs,gs,os,hss⟩:=g4
 have lp:=op.len
 have ls:=os.len
 have hz:szKeeperN k = k.first.cells.length + k.edits.length + (k.parts.length + sizeL szPartN k.parts) + (k.shown.length + sizeL szShownN k.shown):=rfl
 obtain ⟨C1,Ck,C2,rfl,qp,oset⟩:=op.at (k:=0) (by omega)
 obtain ⟨l,ex,gl,ll⟩:=partO qp
 have ol:=gl.one
 have hpt:=part_small ok (i:=0) (by omega)
 haveI:FlatV (rawF (partR τ).sz) (gt rp 0) [.bool (gt k.parts 0).has,.int .i64 (gt k.parts 0).ver,l]:=⟨ex⟩
 haveI:FlatV (rawF (partR τ).sz) (gt rp (0:Int).toNat) [.bool (gt k.parts 0).has,.int .i64 (gt k.parts 0).ver,l]:=⟨ex⟩
 repeat first|refine R1 ?_|refine R2 fun _=>?_
 refine fp (y_call (pick_f _ br v xs s hs q 36 (by omega) (by omega) (by omega)) (by rfl) ?_)
 rintro _ _ ⟨m,rfl,-,-,rfl⟩
 repeat first|refine R1 ?_|refine R2 fun _=>?_
 refine sf_if (fun z0=>?_) fun z0=>?_
 ·repeat first|refine R1 ?_|refine R2 fun _=>?_
  refine sf_draw (by kernel_rfl) (regX_own (rdA br v (q + 1)) (Sw [[],[0],[],[2],[2,3],[2,3,4],[2,3,4,5],[],[7],[2,3,4,5,6,7,8],[2,3,4,5,6,7,8,9],[0,1,2,3,4,5,6,7,8,9,10],[0,1,2,3,4,5,6,7,8,9,10,11],[0,1,2,3,4,5,6,7,8,9,10,11,12]] 11 [Nn 0,Nn 1,Nn 2,Nn 3,Nn 4,Nn 5,Nn 6,Nn 7,Yy 8,Nn 9,Nn 10] ?_))
  refine Di ?_
  refine Yc (pick_f _ br v xs s hs (q + 1) 3 (by omega) (by omega) (by omega)) ?_
  rintro _ _ ⟨m2,rfl,m20,m21,rfl⟩
  refine Di ?_
  refine Ae ?_
  repeat first|refine R1 ?_|refine R2 fun _=>?_|refine fp (Rq ?_ (z_indexGI (by rfl) (by rfl) (by assumption) (by omega) (by omega)))
  refine Xh gq fun D5 ys ey ly _ g5=>?_
  have oall:=oset Ck ⟨_,rfl⟩ ⟨(gt k.parts 0).has,(gt k.parts 0).ver + m2 - 1,(gt k.parts 0).lights⟩ (partO_mk (p:=⟨(gt k.parts 0).has,(gt k.parts 0).ver + m2 - 1,(gt k.parts 0).lights⟩) gl ll)
  have hsz:=sizeL_set (f:=szPartN) k.parts 0 ⟨(gt k.parts 0).has,(gt k.parts 0).ver + m2 - 1,(gt k.parts 0).lights⟩
  repeat first|refine R1 ?_|refine R2 fun _=>?_
  exact sf_ret (rt (rdA br v (q + 1 + 1)++(K1++(K2++((D5++(C1++(Ck++C2)))++(E0++E1))))) (resV_one rfl (yr_cell rfl)) ⟨setPart k 0 _,_,_,q + 1 + 1,rfl,rfl,drawnK_O (keeperO_mk (k:=setPart k 0 ⟨(gt k.parts 0).has,(gt k.parts 0).ver + m2 - 1,(gt k.parts 0).lights⟩) g1 l1 g2 l2 ⟨D5,_,rfl,ys,g5,by rw [ey]; exact oall,by simp [setPart]; omega⟩ g40) (by simp only [szKeeperN,szPartSN,szShownSN,setPart,List.length_set]; simp only [szPartN] at hsz ⊢; omega) (by simp [setPart]; omega) (by simp [setPart]; omega) (by simp [setPart]; omega) (by simp [setPart]; omega),by omega⟩)
 repeat first|refine R1 ?_|refine R2 fun _=>?_
 refine sf_if (fun z1=>?_) fun z1=>?_
 ·repeat first|refine R1 ?_|refine R2 fun _=>?_
  refine Sd [[],[0],[],[2],[2,3],[2,3,4],[2,3,4,5],[2,3,4,5,6],[0,1,2,3,4,5,6,7],[0,1,2,3,4,5,6,7,8],[0,1,2,3,4,5,6,7,8,9]] 8 [Nn 0,Nn 1,Nn 2,Nn 3,Nn 4,Nn 5,Nn 6,Nn 7] ?_
  refine Di ?_
  refine Ae ?_
  repeat first|refine R1 ?_|refine R2 fun _=>?_|refine fp (Rq ?_ (z_indexGI (by rfl) (by rfl) (by assumption) (by omega) (by omega)))
  refine Xh gq fun D5 ys ey ly _ g5=>?_
  have oall:=oset Ck ⟨_,rfl⟩ ⟨!(gt k.parts 0).has,(gt k.parts 0).ver,(gt k.parts 0).lights⟩ (partO_mk (p:=⟨!(gt k.parts 0).has,(gt k.parts 0).ver,(gt k.parts 0).lights⟩) gl ll)
  have hsz:=sizeL_set (f:=szPartN) k.parts 0 ⟨!(gt k.parts 0).has,(gt k.parts 0).ver,(gt k.parts 0).lights⟩
  repeat first|refine R1 ?_|refine R2 fun _=>?_
  exact sf_ret (rt (rdA br v (q + 1)++(K1++(K2++((D5++(C1++(Ck++C2)))++(E0++E1))))) (resV_one rfl (yr_cell rfl)) ⟨setPart k 0 _,_,_,q + 1,rfl,rfl,drawnK_O (keeperO_mk (k:=setPart k 0 ⟨!(gt k.parts 0).has,(gt k.parts 0).ver,(gt k.parts 0).lights⟩) g1 l1 g2 l2 ⟨D5,_,rfl,ys,g5,by rw [ey]; exact oall,by simp [setPart]; omega⟩ g40) (by simp only [szKeeperN,szPartSN,szShownSN,setPart,List.length_set]; simp only [szPartN] at hsz ⊢; omega) (by simp [setPart]; omega) (by simp [setPart]; omega) (by simp [setPart]; omega) (by simp [setPart]; omega),by omega⟩)
 repeat first|refine R1 ?_|refine R2 fun _=>?_
 refine sf_if (fun z2=>?_) fun z2=>?_
 ·repeat first|refine R1 ?_|refine R2 fun _=>?_
  refine sf_if (fun y1=>?_) fun y1=>?_
  ·have h0:0 < k.shown.length:=by omega
   obtain ⟨F1,Fk,F2,-,qs,-⟩:=os.at (k:=0) h0
   obtain ⟨l3,ex3,gl3,ll3⟩:=shownO qs
   have ol3:=gl3.one
   have h61:=(sz_keeper ok).2
   have hpl:=pic_long ok h0
   haveI:FlatV (rawF (shownR τ).sz) (gt rs 0) [.int .i64 (gt k.shown 0).ver,l3]:=⟨ex3⟩
   haveI:FlatV (rawF (shownR τ).sz) (gt rs (0:Int).toNat) [.int .i64 (gt k.shown 0).ver,l3]:=⟨ex3⟩
   repeat first|refine R1 ?_|refine R2 fun _=>?_
   refine Sd [[],[0],[],[2],[2,3],[2,3,4],[2,3,4,5],[0,1,2,3,4,5,6],[0,1,2,3,4,5,6,7],[0,1,2,3,4,5,6,7,8]] 7 [Nn 0,Nn 1,Nn 2,Nn 3,Nn 4,Nn 5,Yy 6] ?_
   refine Di ?_
   refine Yb fun u Au gu=>?_
   refine Di ?_
   refine Ae ?_
   refine fp (y_append (by rfl) (by rfl) gs gu (by intro y hy; simp at hy; subst hy; exact (inferInstance:AllOne [Value.int .i64 (gt k.shown 0).ver,l3]).is) (by rfl) (by rfl) (by simp; omega) (by simp; omega) fun s2 A5 g5=>?_)
   have o9:=g5.one
   have hsz:=sizeL_snoc (f:=szShownN) (x:=gt k.shown 0) k.shown
   repeat first|refine R1 ?_|refine R2 fun _=>?_
   exact sf_ret (rt (rdA br v (q + 1)++(K1++(K2++((D0++(C1++(Ck++C2)))++(A5++E1))))) (resV_one rfl (yr_cell rfl)) ⟨{ k with shown:=k.shown++[gt k.shown 0] },_,_,q + 1,rfl,rfl,⟨by obtain ⟨b3,c3,e3⟩:=g5.len; obtain ⟨b1,c4,e4⟩:=g2.len; obtain ⟨b2,c5,e5⟩:=grR_len g30; exact ⟨c1,b1,c4,b2,c5,b3,c3,by rw [e3,e4,e5]; simp only [List.length_append,List.length_cons,List.length_nil,ls],o1⟩,fun h' i=>keeperB_mk (k:={ k with shown:=k.shown++[gt k.shown 0] }) (g1.lent l1 (inb_l i)) (g2.lent l2 (inb_l (inb_r i))) (g30.lent (inb_l (inb_r (inb_r i)))) ⟨_,g5.lent (by simp; omega) (inb_l (inb_r (inb_r (inb_r i)))),(os.lent (inb_r (inb_r (inb_r (inb_r i))))).snoc (by have:=(os.lent (inb_r (inb_r (inb_r (inb_r i))))).at h0; rw [ex3] at this; exact this)⟩,by simp only [szKeeperN,szPartSN,szShownSN,List.length_append,List.length_cons,List.length_nil]; rw [hsz]; simp only [szShownN]; omega,n1,n3,by simp only; omega,by simp only; omega⟩,by omega⟩)
  ·repeat first|refine R1 ?_|refine R2 fun _=>?_
   exact sf_ret (rt (rdA br v (q + 1)++(K1++(K2++((D0++(C1++(Ck++C2)))++(E0++E1))))) (resV_one rfl (yr_cell rfl)) ⟨k,_,_,q + 1,rfl,rfl,drawnK_O qk0 (by omega) n1 n3 (by omega) (by omega),by omega⟩)
 repeat first|refine R1 ?_|refine R2 fun _=>?_
 refine sf_if (fun z3=>?_) fun z3=>?_
 ·repeat first|refine R1 ?_|refine R2 fun _=>?_
  refine sf_if (fun y1=>?_) fun y1=>?_
  ·have h0:0 < k.shown.length:=by omega
   obtain ⟨F1,Fk,F2,rfl,qs,osets⟩:=os.at (k:=0) h0
   obtain ⟨l3,ex3,gl3,ll3⟩:=shownO qs
   have ol3:=gl3.one
   have hpl:=pic_long ok h0
   have h61:=(sz_keeper ok).2
   haveI:FlatV (rawF (shownR τ).sz) (gt rs 0) [.int .i64 (gt k.shown 0).ver,l3]:=⟨ex3⟩
   haveI:FlatV (rawF (shownR τ).sz) (gt rs (0:Int).toNat) [.int .i64 (gt k.shown 0).ver,l3]:=⟨ex3⟩
   repeat first|refine R1 ?_|refine R2 fun _=>?_|refine fp (Rq ?_ (z_indexGI (by rfl) (by rfl) (by assumption) (by omega) (by omega)))
   refine Xg gl3 fun F5 ys ey ly _ g5=>?_
   have hset:rs.set 0 (gt rs 0) = rs:=set_self (by omega)
   have oall:=osets F5 (gt rs 0) ⟨(gt k.shown 0).ver,ys⟩ (by rw [ex3]; exact shownO_mk (p:=⟨(gt k.shown 0).ver,ys⟩) g5 (by simp only; omega))
   rw [hset] at oall
   have hsz:=sizeL_set (f:=szShownN) k.shown 0 ⟨(gt k.shown 0).ver,ys⟩
   repeat first|refine R1 ?_|refine R2 fun _=>?_
   exact sf_ret (rt (rdA br v (q + 1)++(K1++(K2++((D0++(C1++(Ck++C2)))++(E0++(F1++(F5++F2))))))) (resV_one rfl (yr_cell rfl)) ⟨{ k with shown:=k.shown.set 0 ⟨(gt k.shown 0).ver,ys⟩ },_,_,q + 1,rfl,rfl,drawnK_O (keeperO_mk (k:={ k with shown:=k.shown.set 0 ⟨(gt k.shown 0).ver,ys⟩ }) g1 l1 g2 l2 g30 ⟨E0,_,rfl,rs,gs,oall,by simp only [List.length_set]; omega⟩) (by simp only [szKeeperN,szPartSN,szShownSN,List.length_set]; simp only [szShownN] at hsz ⊢; omega) n1 n3 (by simp only; omega) (by simp only; omega),by omega⟩)
  ·repeat first|refine R1 ?_|refine R2 fun _=>?_
   exact sf_ret (rt (rdA br v (q + 1)++(K1++(K2++((D0++(C1++(Ck++C2)))++(E0++E1))))) (resV_one rfl (yr_cell rfl)) ⟨k,_,_,q + 1,rfl,rfl,drawnK_O qk0 (by omega) n1 n3 (by omega) (by omega),by omega⟩)
 repeat first|refine R1 ?_|refine R2 fun _=>?_
 refine sf_if (fun z4=>?_) fun z4=>?_
 ·repeat first|refine R1 ?_|refine R2 fun _=>?_
  refine Xb fun u Au gu=>?_
  repeat first|refine R1 ?_|refine R2 fun _=>?_
  refine Xa g2 gu fun e2 A5 g5=>?_
  have o9:=g5.one
  repeat first|refine R1 ?_|refine R2 fun _=>?_
  exact sf_ret (rt (rdA br v (q + 1)++(K1++(A5++((D0++(C1++(Ck++C2)))++(E0++E1))))) (resV_one rfl (yr_cell rfl)) ⟨{ k with edits:=k.edits++[⟨25,⟨0,0⟩⟩] },_,_,q + 1,rfl,rfl,drawnK_O (keeperO_mk (k:={ k with edits:=k.edits++[⟨25,⟨0,0⟩⟩] }) g1 l1 g5 (by simp; omega) g30 g40) (by simp only [szKeeperN,szPartSN,szShownSN,List.length_append,List.length_cons,List.length_nil]; omega) n1 n3 (by simp; omega) (by simp only; omega),by omega⟩)
 repeat first|refine R1 ?_|refine R2 fun _=>?_
 refine sf_if (fun z5=>?_) fun z5=>?_
 ·repeat first|refine R1 ?_|refine R2 fun _=>?_
  rename_i b2 f1 b3 b6 b7
  refine sf_lp (ι:=List Edit) [0,2,7] (fun _=>[]) (fun zs O=>zs.length ≤ 61∧∃ e A2,O = rdA br v (q + 1)++((b7,.cells #[.int .i64 k.first.wide,c1,e,p1,s1] 30) :: (A2++(K1++((D0++(C1++(Ck++C2)))++((E0++E1)++[(b2,.cells #[.int .i64 0,.slice none 0 0,.slice none 0 0,.slice none 0 0,.slice none 0 0] 30)])))))∧Gr A2 e 48 editF zs) (fun zs=>61 - zs.length) k.edits (rdA br v (q + 1)++((b7,.cells #[.int .i64 k.first.wide,c1,e1,p1,s1] 30) :: (K2++(K1++((D0++(C1++(Ck++C2)))++((E0++E1)++[(b2,.cells #[.int .i64 0,.slice none 0 0,.slice none 0 0,.slice none 0 0,.slice none 0 0] 30)])))))) ⟨by omega,_,_,rfl,g2⟩ ?_
  clear g2 o2 qk0
  rintro zs O ⟨hz1,e,A2,rfl,g2⟩
  have o2:=g2.one
  repeat first|refine R1 ?_|refine R2 fun _=>?_
  refine sf_if (fun y=>?_) fun y=>?_
  ·repeat first|refine R1 ?_|refine R2 fun _=>?_
   refine Xb fun u Au gu=>?_
   repeat first|refine R1 ?_|refine R2 fun _=>?_
   refine Xa g2 gu fun e2 A5 g5=>?_
   have o9:=g5.one
   repeat first|refine R1 ?_|refine R2 fun _=>?_
   exact ⟨zs++[⟨0,⟨0,0⟩⟩],by simp; omega,trivial,rfl,rdA br v (q + 1)++((b7,.cells #[.int .i64 k.first.wide,c1,e2,p1,s1] 30) :: (A5++(K1++((D0++(C1++(Ck++C2)))++((E0++E1)++[(b2,.cells #[.int .i64 0,.slice none 0 0,.slice none 0 0,.slice none 0 0,.slice none 0 0] 30)]))))),_,inferInstance,by simp; omega,e2,A5,rfl,g5⟩
  ·refine sf_exit ?_
   have hzl:zs.length = 61:=by omega
   obtain ⟨bb,cap,rfl,hc,cut⟩:=g2.cut (by omega)
   repeat first|refine R1 ?_|refine R2 fun _=>?_
   refine sf_draw (by kernel_rfl) (regX_own (rdA br v (q + 1)) (Sw [[],[0],[],[2],[2,3],[0,1,2,3,4],[0,1,2,3,4,5],[0,1,2,3,4,5,6]] 5 [Nn 0,Nn 1,Nn 2,Yy 3,Nn 4] ?_))
   refine Da ?_
   refine Yc (pick_f _ br v xs s hs (q + 1) 2 (by omega) (by omega) (by omega)) ?_
   rintro _ _ ⟨m2,rfl,m20,m21,rfl⟩
   obtain ⟨j,rfl⟩:∃ j:Nat,m2 = j:=⟨m2.toNat,by omega⟩
   have ej:60 + (j:Int) = ((60 + j:Nat):Int):=by omega
   refine Da ?_
   try simp only [ej]
   refine Da ?_
   refine Ae ?_
   try simp only [ej]
   refine fp (Rq ?_ (q_sliceHi (l:=60 + j) (by infer_instance) (by infer_instance) (by rfl) (by rfl) (by omega)))
   repeat first|refine R1 ?_|refine R2 fun _=>?_
   have gc:=cut (60 + j) (by omega)
   exact sf_ret (rt (rdA br v (q + 1 + 1)++(K1++(A2++((D0++(C1++(Ck++C2)))++(E0++E1))))) (resV_one rfl (yr_cell rfl)) ⟨{ k with edits:=zs.take (60 + j) },_,_,q + 1 + 1,rfl,rfl,drawnK_O (keeperO_mk (k:={ k with edits:=zs.take (60 + j) }) g1 l1 gc (by simp; omega) g30 g40) (by simp only [szKeeperN,szPartSN,szShownSN,List.length_take]; omega) n1 n3 (by simp; omega) (by simp only; omega),by omega⟩)
 ·repeat first|refine R1 ?_|refine R2 fun _=>?_
  exact sf_ret (rt (rdA br v (q + 1)++(K1++(K2++((D0++(C1++(Ck++C2)))++(E0++E1))))) (resV_one rfl (yr_cell rfl)) ⟨k,_,_,q + 1,rfl,rfl,drawnK_O qk0 (by omega) n1 n3 (by omega) (by omega),by omega⟩)
theorem l6Open_f (h:PHeap) (v:Value) (xs:List (Fin 256)) (s:Sl h v u8F xs):CallF Tryz.prog M 45 [v] [] h fun u A=>∃ br v' xs',u = .pointer (some ⟨br,0,none⟩)∧A = rdA br v' 0∧Sl h v' u8F xs'∧xs'.length ≤ 2000:=by
 have o1:=s.one
 have hs:=s.small
 refine Cs Tryz.func45 Tryz.ntmps45 ?_
 repeat first|refine R1 ?_|refine R2 fun _=>?_
 refine sf_if (fun e=>?_) fun e=>?_
 ·obtain ⟨cap,hv,hc,s2⟩:=s.front (l:=2000) (by omega) (by omega)
  rw [hv]
  repeat first|refine R1 ?_|refine R2 fun _=>?_
  refine fp (Rq ?_ (q_sliceHi (l:=2000) (by infer_instance) (by infer_instance) (by rfl) (by rfl) (by omega)))
  repeat first|refine R1 ?_|refine R2 fun _=>?_
  rename_i br
  exact sf_ret (rt (rdA br (.slice (some ⟨vb v,vo v,none⟩) 2000 cap) 0) (resV_one rfl (res_tmp rfl)) ⟨br,_,_,rfl,rfl,s2,by simp; omega⟩)
 ·repeat first|refine R1 ?_|refine R2 fun _=>?_
  rename_i br
  exact sf_ret (rt (rdA br v 0) (resV_one rfl (res_tmp rfl)) ⟨br,v,xs,rfl,rfl,s,by omega⟩)
theorem drawKeepOk_f (h:PHeap) (v:Value) (xs:List (Fin 256)) (s:Sl h v u8F xs):CallF Tryz.prog M 12 [v] [] h fun u A=>∃ k cs,u = .agg cs.toArray∧DrawnK cs k A:=by
 have o1:=s.one
 refine Cs Tryz.func12 Tryz.ntmps12 ?_
 repeat first|refine R1 ?_|refine R2 fun _=>?_
 refine fp (y_call (l6Open_f _ v xs s) (by rfl) ?_)
 rintro _ _ ⟨br,v',xs',rfl,rfl,s',hs'⟩
 have o2:=s'.one
 repeat first|refine R1 ?_|refine R2 fun _=>?_
 refine fp (y_call (l72Keeper_f _ br v' xs' s' hs' 0 (by omega)) (by rfl) ?_)
 rintro _ _ ⟨k,cs,A',q,rfl,rfl,dk,hq⟩
 have dk0:=dk
 obtain ⟨⟨c,x1,x2,x3,x4,x5,x6,rfl,u1⟩⟩:=dk
 repeat first|refine R1 ?_|refine R2 fun _=>?_
 exact sf_ret (rt A' (resV_one rfl (yr_cell rfl)) ⟨k,_,rfl,dk0⟩)
theorem drawKeepGrid_f (h:PHeap) (v:Value) (xs:List (Fin 256)) (s:Sl h v u8F xs):CallF Tryz.prog M 16 [v] [] h fun u A=>∃ k cs z,u = .tuple #[.agg cs.toArray,.int .i64 z]∧DrawnK cs k A∧-1 ≤ z∧z ≤ 1000:=by
 have o1:=s.one
 refine Cs Tryz.func16 Tryz.ntmps16 ?_
 repeat first|refine R1 ?_|refine R2 fun _=>?_
 refine fp (y_call (l6Open_f _ v xs s) (by rfl) ?_)
 rintro _ _ ⟨br,v',xs',rfl,rfl,s',hs'⟩
 have o2:=s'.one
 repeat first|refine R1 ?_|refine R2 fun _=>?_
 refine fp (y_call (l72Keeper_f _ br v' xs' s' hs' 0 (by omega)) (by rfl) ?_)
 rintro _ _ ⟨k,cs,A',q,rfl,rfl,dk,hq⟩
 have dk0:=dk
 obtain ⟨⟨c,x1,x2,x3,x4,x5,x6,rfl,u1⟩,ln,-,-,-,e100,-⟩:=dk
 repeat first|refine R1 ?_|refine R2 fun _=>?_
 rename_i b2 b5
 refine sf_draw (by kernel_rfl) (regX_own (rdA br v' q++[(b2,.cells #[.int .i64 0,.slice none 0 0,.slice none 0 0,.slice none 0 0,.slice none 0 0] 30)]) (Sw [[],[],[],[2],[2,3],[2,3,4],[1,2,3,4,5],[],[1,2,3,4,5,6,7],[1,2,3,4,5,6,7,8],[1,2,3,4,5,6,7,8,9],[0,1,2,3,4,5,6,7,8],[0,1,2,3,4,5,6,7,8,9,10,11]] 12 [Nn 0,Nn 1,Nn 2,Nn 3,Nn 4,Nn 5,Nn 7,Yy 6,Yy 8,Nn 9,Nn 10,Yy 11] ?_))
 refine Da ?_
 refine Yc (pick_f _ br v' xs' s' hs' q ((k.edits.length:Int) + 2) (by omega) (by omega) (by omega)) ?_
 rintro _ _ ⟨m,rfl,m0,m1,rfl⟩
 refine Da ?_
 refine Yc (pick_f _ br v' xs' s' hs' (q + 1) 12 (by omega) (by omega) (by omega)) ?_
 rintro _ _ ⟨m2,rfl,m20,m21,rfl⟩
 refine Da ?_
 refine a_store (by rfl) (by rfl) (by rfl) (.inl rfl) ?_
 refine Da ?_
 refine Ae ?_
 repeat first|refine R1 ?_|refine R2 fun _=>?_
 exact sf_ret (rt A' (resV_two rfl (yr_cell rfl) (res_tmp rfl)) ⟨k,_,_,rfl,dk0,by omega,by omega⟩)
theorem drawKeepTell_f (h:PHeap) (v:Value) (xs:List (Fin 256)) (s:Sl h v u8F xs):CallF Tryz.prog M 21 [v] [] h fun u A=>∃ k cs z,u = .tuple #[.agg cs.toArray,.int .i64 z]∧DrawnK cs k A∧-1 ≤ z∧z ≤ 1000:=by
 have o1:=s.one
 refine Cs Tryz.func21 Tryz.ntmps21 ?_
 repeat first|refine R1 ?_|refine R2 fun _=>?_
 refine fp (y_call (l6Open_f _ v xs s) (by rfl) ?_)
 rintro _ _ ⟨br,v',xs',rfl,rfl,s',hs'⟩
 have o2:=s'.one
 repeat first|refine R1 ?_|refine R2 fun _=>?_
 refine fp (y_call (l72Keeper_f _ br v' xs' s' hs' 0 (by omega)) (by rfl) ?_)
 rintro _ _ ⟨k,cs,A',q,rfl,rfl,dk,hq⟩
 have dk0:=dk
 obtain ⟨⟨c,x1,x2,x3,x4,x5,x6,rfl,u1⟩,ln,-,n1,n3,e100,-⟩:=dk
 repeat first|refine R1 ?_|refine R2 fun _=>?_
 rename_i b2 b5
 refine sf_draw (by kernel_rfl) (regX_own (rdA br v' q++[(b2,.cells #[.int .i64 0,.slice none 0 0,.slice none 0 0,.slice none 0 0,.slice none 0 0] 30)]) (Sw [[],[],[],[2],[2,3],[1,2,3,4],[1,2,3,4,5],[],[1,2,3,4,5,7],[1,2,3,4,5,7,8],[1,2,3,4,5,6,7,8,9],[],[1,2,3,4,5,7,8,11],[1,2,3,4,5,7,8,11,12],[1,2,3,4,5,6,7,8,9,10,11,12,13],[0,1,2,3,4,5,7,8,11,12],[0,1,2,3,4,5,6,7,8,9,10,11,12,13,14,15]] 16 [Nn 0,Nn 1,Nn 2,Nn 3,Nn 4,Nn 7,Nn 11,Yy 5,Nn 6,Yy 8,Nn 9,Nn 10,Yy 12,Nn 13,Nn 14,Yy 15] ?_))
 refine Da ?_
 refine Yc (pick_f _ br v' xs' s' hs' q (k.parts.length:Int) (by omega) (by omega) (by omega)) ?_
 rintro _ _ ⟨m,rfl,m0,m1,rfl⟩
 refine Da ?_
 refine Yc (pick_f _ br v' xs' s' hs' (q + 1) 24 (by omega) (by omega) (by omega)) ?_
 rintro _ _ ⟨m2,rfl,m20,m21,rfl⟩
 refine Da ?_
 refine Yc (pick_f _ br v' xs' s' hs' (q + 1 + 1) 24 (by omega) (by omega) (by omega)) ?_
 rintro _ _ ⟨m3,rfl,m30,m31,rfl⟩
 refine Da ?_
 refine a_store (by rfl) (by rfl) (by rfl) (.inl rfl) ?_
 refine Da ?_
 refine Ae ?_
 repeat first|refine R1 ?_|refine R2 fun _=>?_
 exact sf_ret (rt A' (resV_two rfl (yr_cell rfl) (res_tmp rfl)) ⟨k,_,_,rfl,dk0,by omega,by omega⟩)
instance eqFl_cell_Y6:EqFl Tryz.prog 46 cellF:=eqFl_cell inferInstance (inferInstance:Ty Tryz.prog 3 _ 1 _ _) (by kernel_rfl)
instance eqFl_edit_Y6:EqFl Tryz.prog 48 editF:=eqFl_edit inferInstance (inferInstance:Ty Tryz.prog 3 _ 1 _ _) (inferInstance:Ty Tryz.prog 46 _ 2 _ _) (by kernel_rfl) (by kernel_rfl)
theorem llGrid_v (h:PHeap) (ca cb:List Value) (x y:Grid) (bx:(gridR τ).B h ca x) (by':(gridR τ).B h cb y):CallV Tryz.prog M 19 [.agg ca.toArray,.agg cb.toArray] h (.bool (decide (x = y))):=by
 obtain ⟨c1,rfl,s1⟩:=gridB bx
 obtain ⟨c2,rfl,s2⟩:=gridB by'
 have o1:=s1.one
 have o2:=s2.one
 have h1:=s1.small
 have h2:=s2.small
 refine Cs Tryz.func19 Tryz.ntmps19 ?_
 repeat first|refine R1 ?_|refine R2 fun _=>?_
 refine f_split (fun e=>?_) fun e=>?_
 ·repeat first|refine R1 ?_|refine R2 fun _=>?_
  refine sf_T rfl ?_
  repeat first|refine R1 ?_|refine R2 fun _=>?_
  exact sf_ret (rV (bF fun z=>e (by rw [z])))
 repeat first|refine R1 ?_|refine R2 fun _=>?_
 refine sf_if (fun e0=>?_) fun e0=>?_
 ·repeat first|refine R1 ?_|refine R2 fun _=>?_
  exact sf_ret (rV (bF fun z=>e0 (by rw [z])))
 have hl:x.cells.length = y.cells.length:=by omega
 repeat first|refine R1 ?_|refine R2 fun _=>?_
 refine sf_rd [2,3] 5 x.cells.length 0 (fun k=>x.cells.take k = y.cells.take k) (by omega) rfl (fun k hk hi=>?_)
 repeat first|refine R1 ?_|refine R2 fun _=>?_
 refine sf_if (fun h4=>?_) fun h4=>?_
 ·have hk4:k < x.cells.length:=by omega
  have hk5:k < y.cells.length:=by omega
  repeat first|refine R1 ?_|refine R2 fun _=>?_
  refine Sd [[],[0],[],[0,1,2],[0,1,2,3],[],[5],[],[5,6,7],[5,6,7,8],[0,1,2,3,4,5,6,7,8,9]] 10 [Nn 0,Nn 1,Nn 2,Nn 3,Nn 4,Nn 5,Nn 6,Nn 7,Nn 8,Nn 9] ?_
  refine Da ?_
  refine Ae ?_
  refine fp (Rq ?_ (q_neqS (E:=cellF) (a:=gt x.cells k) (b:=gt y.cells k) inferInstance (by rfl) (by rfl)))
  repeat first|refine R1 ?_|refine R2 fun _=>?_
  refine sf_ifn (fun e1=>?_) fun e1=>?_
  ·repeat first|refine R1 ?_|refine R2 fun _=>?_
   exact sf_ret (rV (bF fun z=>eq_at e1 (by rw [z])))
  ·repeat first|refine R1 ?_|refine R2 fun _=>?_
   exact ⟨⟨hk4,eq_step hk4 hk5 hi e1⟩,rfl,rfl,_,inferInstance⟩
 ·refine sf_exit ?_
  repeat first|refine R1 ?_|refine R2 fun _=>?_
  have hc:=eq_end hl (by omega) hi
  refine sf_ret (rV (bT ?_))
  cases x; cases y; simp_all
theorem llInts_v (h:PHeap) (a b:Value) (xs ys:List Int) (sx:Sl h a intF xs) (sy:Sl h b intF ys):CallV Tryz.prog M 32 [a,b] h (.bool (decide (xs = ys))):=by
 have o1:=sx.one
 have o2:=sy.one
 have hx:=sx.small
 have hy:=sy.small
 refine Cs Tryz.func32 Tryz.ntmps32 ?_
 refine Wo ?_
 refine sf_if (fun e0=>?_) fun e0=>?_
 ·refine Wo ?_
  exact sf_ret (rV (bF fun e=>e0 (by rw [e])))
 have hl:xs.length = ys.length:=by omega
 refine Wo ?_
 refine sf_rd [0,1] 5 xs.length 0 (fun k=>xs.take k = ys.take k) (by omega) rfl (fun k hk hi=>?_)
 refine Wo ?_
 refine sf_if (fun h4=>?_) fun h4=>?_
 ·have hk4:k < xs.length:=by omega
  have hk5:k < ys.length:=by omega
  refine Wo ?_
  refine Sd [[],[],[0,1],[0,1,2],[],[],[4,5],[4,5,6],[0,1,2,3,4,5,6,7]] 8 [Nn 0,Nn 1,Nn 2,Nn 3,Nn 4,Nn 5,Nn 6,Nn 7] ?_
  refine Da ?_
  refine Ae ?_
  refine Wo ?_
  refine sf_if (fun e1=>?_) fun e1=>?_
  ·refine Wo ?_
   exact sf_ret (rV (bF (eq_at e1)))
  ·refine Wo ?_
   exact ⟨⟨hk4,eq_step hk4 hk5 hi (by simpa using e1)⟩,rfl,rfl,_,inferInstance⟩
 ·refine sf_exit ?_
  refine Wo ?_
  exact sf_ret (rV (bT (eq_end hl (by omega) hi)))
theorem spreadPass_v (h:PHeap) (w:Int):CallV Tryz.prog M 141 [.int .i64 w] h (.agg #[.int .i64 w,.int .i64 0,.int .i64 0,.int .i64 0]):=by
 refine Cs Tryz.func141 Tryz.ntmps141 ?_
 repeat first|refine R1 ?_|refine R2 fun _=>?_
 exact sf_ret (rV rfl)
theorem spreadTurn_v (h:PHeap) (w:Int):CallV Tryz.prog M 142 [.int .i64 w] h (.agg #[.int .i64 0,.int .i64 w,.int .i64 0,.int .i64 0]):=by
 refine Cs Tryz.func142 Tryz.ntmps142 ?_
 repeat first|refine R1 ?_|refine R2 fun _=>?_
 exact sf_ret (rV rfl)
theorem spreadStop_v (h:PHeap) (w:Int):CallV Tryz.prog M 143 [.int .i64 w] h (.agg #[.int .i64 0,.int .i64 0,.int .i64 0,.int .i64 w]):=by
 refine Cs Tryz.func143 Tryz.ntmps143 ?_
 repeat first|refine R1 ?_|refine R2 fun _=>?_
 exact sf_ret (rV rfl)
theorem spreadSplit_v (h:PHeap) (w:Int) (hw:0 ≤ w∧w ≤ 64):CallV Tryz.prog M 144 [.int .i64 w] h (.agg #[.int .i64 (w / 2),.int .i64 (w / 2),.int .i64 (w - w / 2 - w / 2),.int .i64 0]):=by
 refine Cs Tryz.func144 Tryz.ntmps144 ?_
 repeat first|refine R1 ?_|refine R2 fun _=>?_
 exact sf_ret (rV rfl)
theorem spreadDim_v (h:PHeap) (w:Int) (hw:0 ≤ w∧w ≤ 64):CallV Tryz.prog M 145 [.int .i64 w] h (.agg #[.int .i64 (w / 2),.int .i64 0,.int .i64 (w - w / 2),.int .i64 0]):=by
 refine Cs Tryz.func145 Tryz.ntmps145 ?_
 repeat first|refine R1 ?_|refine R2 fun _=>?_
 exact sf_ret (rV rfl)
def spreadV (s:Spread):Value:=.agg #[.int .i64 s.pass,.int .i64 s.turn,.int .i64 s.lost,.int .i64 s.stop]
theorem spreadOf_v (h:PHeap) (k w:Int) (hk:0 ≤ k∧k ≤ 7) (hw:0 ≤ w∧w ≤ 64):CallV Tryz.prog M 111 [.int .i64 k,.int .i64 w] h (spreadV (spread k w)):=by
 obtain ⟨n,rfl⟩:∃ n:Nat,k = n:=⟨k.toNat,by omega⟩
 have hn:n = 0 ∨ n = 1 ∨ n = 2 ∨ n = 3 ∨ n = 4 ∨ n = 5 ∨ n = 6 ∨ n = 7:=by omega
 refine Cs Tryz.func111 Tryz.ntmps111 ?_
 repeat first|refine R1 ?_|refine R2 fun _=>?_
 rcases hn with rfl | rfl | rfl | rfl | rfl | rfl | rfl | rfl
 ·repeat first|refine R1 ?_|refine R2 fun _=>?_
  refine fp (y_callC2 (by rfl) (by rfl) (by exact spreadPass_v h w) ?_)
  rintro _ _ ⟨rfl,rfl⟩
  repeat first|refine R1 ?_|refine R2 fun _=>?_
  exact sf_ret (rV rfl)
 ·repeat first|refine R1 ?_|refine R2 fun _=>?_
  refine fp (y_callC2 (by rfl) (by rfl) (by exact spreadStop_v h w) ?_)
  rintro _ _ ⟨rfl,rfl⟩
  repeat first|refine R1 ?_|refine R2 fun _=>?_
  exact sf_ret (rV rfl)
 ·repeat first|refine R1 ?_|refine R2 fun _=>?_
  refine fp (y_callC2 (by rfl) (by rfl) (by exact spreadTurn_v h w) ?_)
  rintro _ _ ⟨rfl,rfl⟩
  repeat first|refine R1 ?_|refine R2 fun _=>?_
  exact sf_ret (rV rfl)
 ·repeat first|refine R1 ?_|refine R2 fun _=>?_
  refine fp (y_callC2 (by rfl) (by rfl) (by exact spreadTurn_v h w) ?_)
  rintro _ _ ⟨rfl,rfl⟩
  repeat first|refine R1 ?_|refine R2 fun _=>?_
  exact sf_ret (rV rfl)
 ·repeat first|refine R1 ?_|refine R2 fun _=>?_
  refine fp (y_callC2 (by rfl) (by rfl) (by exact spreadSplit_v h w hw) ?_)
  rintro _ _ ⟨rfl,rfl⟩
  repeat first|refine R1 ?_|refine R2 fun _=>?_
  exact sf_ret (rV rfl)
 ·repeat first|refine R1 ?_|refine R2 fun _=>?_
  refine fp (y_callC2 (by rfl) (by rfl) (by exact spreadSplit_v h w hw) ?_)
  rintro _ _ ⟨rfl,rfl⟩
  repeat first|refine R1 ?_|refine R2 fun _=>?_
  exact sf_ret (rV rfl)
 ·repeat first|refine R1 ?_|refine R2 fun _=>?_
  refine fp (y_callC2 (by rfl) (by rfl) (by exact spreadDim_v h w hw) ?_)
  rintro _ _ ⟨rfl,rfl⟩
  repeat first|refine R1 ?_|refine R2 fun _=>?_
  exact sf_ret (rV rfl)
 ·repeat first|refine R1 ?_|refine R2 fun _=>?_
  refine fp (y_callC2 (by rfl) (by rfl) (by exact spreadStop_v h w) ?_)
  rintro _ _ ⟨rfl,rfl⟩
  repeat first|refine R1 ?_|refine R2 fun _=>?_
  exact sf_ret (rV rfl)
theorem beamFrom_v (h:PHeap) (c:Value) (g:Grid) (s:Sl h c cellF g.cells) (e:gridOk g = true) (a d w:Int) (ha:0 ≤ a∧a < 1000) (hd:0 ≤ d∧d ≤ 3):CallV Tryz.prog M 112 [.agg #[.int .i64 g.wide,c],.int .i64 a,.int .i64 d,.int .i64 w] h (.agg #[.int .i64 (beamFrom g a d w).at',.int .i64 (beamFrom g a d w).dir,.int .i64 (beamFrom g a d w).weight,.int .i64 (beamFrom g a d w).out]):=by
 have o1:=s.one
 have kg:=gok e
 refine Cs Tryz.func112 Tryz.ntmps112 ?_
 repeat first|refine R1 ?_|refine R2 fun _=>?_
 refine Xv (rayStep_v h c g a d s ⟨kg.w1,kg.w5⟩ ha hd) ?_
 unfold stepV
 cases en:nextAt g a d with
 | some b=>
  simp only
  repeat first|refine R1 ?_|refine R2 fun _=>?_
  refine sf_cond (by rfl) (fun e=>by cases e) fun z1=>?_
  clear z1
  repeat first|refine R1 ?_|refine R2 fun _=>?_
  refine sf_ret (rV ?_)
  simp only [beamFrom,en]
 | none=>
  simp only
  repeat first|refine R1 ?_|refine R2 fun _=>?_
  refine sf_cond (by rfl) (fun _=>?_) fun e=>by cases e
  repeat first|refine R1 ?_|refine R2 fun _=>?_
  refine Xv (sightOf_v h _ g (gridB_mk s) e a d hd) ?_
  repeat first|refine R1 ?_|refine R2 fun _=>?_
  refine sf_ret (rV ?_)
  simp only [beamFrom,en]
theorem endOf_f (h : PHeap) (b : Nat) (vv ev : Value) (ov : Sl.One vv) (AE : Own) (es : List LEnd) (gr : Gr AE ev 117 endF es) (hl : es.length ≤ 200000) (kind a w : Int) :
  CallF Tryz.prog M 110 [.pointer (some ⟨b,0,none⟩),.int .i64 kind,.int .i64 a,.int .i64 w] ((b,.cells #[vv,ev] 114) :: AE) h fun _ A=>∃ ev' AE',A = (b,.cells #[vv,ev'] 114) :: AE'∧Gr AE' ev' 117 endF (es++endIf kind a w):=by
 have o1:=gr.one
 refine Cs Tryz.func110 Tryz.ntmps110 ?_
 refine Wo ?_
 refine sf_if (fun e=>?_) fun e=>?_
 ·refine Wo ?_
  refine Xb fun u Au gu=>?_
  refine Wo ?_
  refine Xa gr gu fun ev2 A2 g2=>?_
  have o2:=g2.one
  refine Wo ?_
  exact nO ((b,.cells #[vv,ev2] 114) :: A2) ⟨ev2,A2,rfl,by rw [endIf,if_pos e]; exact g2⟩
 ·refine Wo ?_
  exact nO ((b,.cells #[vv,ev] 114) :: AE) ⟨ev,AE,rfl,by rw [endIf,if_neg e,List.append_nil]; exact gr⟩
theorem trailOf_f (h:PHeap) (c:Value) (g:Grid) (s:Sl h c cellF g.cells) (e:gridOk g = true) (k:Int) (hk:0 ≤ k∧k < manyOf g):CallF Tryz.prog M 73 [.agg #[.int .i64 g.wide,c],.int .i64 k] [] h fun v A=>∃ vv ev AV AE,v = .agg #[vv,ev]∧A = AV++AE∧Gr AV vv 155 visitF (goLight g k).1∧Gr AE ev 117 endF (goLight g k).2:=by
 have o1:=s.one
 have kg:=gok e
 have hm:=kg.small
 obtain ⟨sz,v,es,hc,hg,hsz,hok⟩:=goLight_is kg hk.1 hk.2
 rw [hg]
 have er:sightRayV g k = .tuple #[.agg #[.int .i64 (rayAt g k).at',.int .i64 (rayAt g k).dir],.bool true]:=by
  rw [sightRayV,sightMany,if_pos e,if_pos hk]
 obtain ⟨⟨ra0,ra1⟩,rd0,rd1⟩:=rayAt_ok kg hk.1 hk.2
 refine Cs Tryz.func73 Tryz.ntmps73 ?_
 repeat first|refine R1 ?_|refine R2 fun _=>?_
 refine Xv (sightRay_v h _ g (gridB_mk s) k) ?_
 rw [er]
 repeat first|refine R1 ?_|refine R2 fun _=>?_
 refine sf_cond (by rfl) (fun e=>by cases e) fun z1=>?_
 clear z1
 repeat first|refine R1 ?_|refine R2 fun _=>?_
 refine Xb fun w Aw gw=>?_
 repeat first|refine R1 ?_|refine R2 fun _=>?_
 rename_i b2 b4 b5 b6
 have t0:Todo g [(⟨(rayAt g k).at',(rayAt g k).dir,64,-1⟩:Beam)] (sz + 0) (v++[]) (es++[]):=.cons (.inr (.inr ⟨by simp,by simp,⟨ra0,ra1⟩,⟨rd0,rd1⟩,6600,hc⟩)) (by simp) hok.n1 .nil
 have hlv:=hok.lv
 have hle:=hok.le
 simp only at hlv hle
 refine sf_lp (ι:=Nat × Value) [2,4,5] (fun x=>[(8,x.2)]) (fun x O=>∃ vv ev AS AV AE,O = (b5,.cells #[vv,ev] 114) :: (AS++(AV++(AE++[(b6,.cells #[.int .i64 (rayAt g k).at',.int .i64 (rayAt g k).dir] 151),(b4,.cells #[.slice none 0 0,.slice none 0 0] 114),(b2,.cells #[.int .i64 g.wide,c] 25)])))∧∃ st V E v' e',Gr AS x.2 157 beamF st∧Gr AV vv 155 visitF V∧Gr AE ev 117 endF E∧Todo g st.reverse x.1 v' e'∧v = V++v'∧es = E++e'∧x.1 ≤ 26000) (fun x=>x.1) (sz,w) ((b5,.cells #[.slice none 0 0,.slice none 0 0] 114) :: (Aw++([]++([]++[(b6,.cells #[.int .i64 (rayAt g k).at',.int .i64 (rayAt g k).dir] 151),(b4,.cells #[.slice none 0 0,.slice none 0 0] 114),(b2,.cells #[.int .i64 g.wide,c] 25)])))) ⟨_,_,Aw,[],[],rfl,_,[],[],v,es,gw,Gr.nil _ _,Gr.nil _ _,by simpa using t0,rfl,rfl,hsz⟩ ?_
 rintro ⟨m,sv⟩ O ⟨vv,ev,AS,AV,AE,rfl,st,V,E,v',e',gs,gv,ge,td,hv,he,hm26⟩
 simp only at gs td hm26 ⊢
 have lvv:V.length ≤ 26000:=by have:=congrArg List.length hv; simp only [List.length_append] at this; omega
 have lee:E.length ≤ 52000:=by have:=congrArg List.length he; simp only [List.length_append] at this; omega
 have os:=gs.one
 have ovv:=gv.one
 have oev:=ge.one
 have lst:=td.len
 rw [List.length_reverse] at lst
 repeat first|refine R1 ?_|refine R2 fun _=>?_
 refine sf_if (fun e1=>?_) fun e1=>?_
 ·obtain ⟨s',b,rfl⟩:=snoc_of (xs:=st) (by omega)
  have hlen:(s'++[b]).length = s'.length + 1:=by simp
  haveI:FlatV beamF (gt (s'++[b]) s'.length) [.int .i64 b.at',.int .i64 b.dir,.int .i64 b.weight,.int .i64 b.out]:=⟨by rw [gt_snoc]; rfl⟩
  obtain ⟨bb,cap,rfl,hcap,cut⟩:=gs.cut (by omega)
  have gs2:=cut s'.length (by omega)
  rw [List.take_left'  rfl] at gs2
  rw [List.reverse_append,List.reverse_singleton,List.singleton_append] at td
  cases td with
  | @cons _ _ n m v1 v2 ea eb hb hbw hn t=>
  clear cut
  have hl1:(((s'++[b]).length:Nat):Int) - 1 = ((s'.length:Nat):Int):=by omega
  repeat first|refine R1 ?_|refine R2 fun _=>?_
  rw [hl1]
  repeat first|refine R1 ?_|refine R2 fun _=>?_
  rw [hl1]
  refine fp (Rq ?_ (q_sliceHi (l:=s'.length) (by infer_instance) (by infer_instance) (by rfl) (by rfl) (by omega)))
  repeat first|refine R1 ?_|refine R2 fun _=>?_
  rename_i b9 b10
  refine sf_if (fun e2=>?_) fun e2=>?_
  ·have hz : (n, v1, ea) = (1, [], []) := by
    rcases hb with ⟨_,q⟩ | ⟨q,_⟩ | ⟨q,_⟩
    ·exact q
    ·exact absurd e2 q
    ·exact absurd e2 q
   simp only [Prod.mk.injEq] at hz
   obtain ⟨rfl,rfl,rfl⟩:=hz
   refine sf_exit ?_
   exact ⟨(m,.slice (some ⟨bb,0,none⟩) s'.length cap),by simp only; omega,⟨rfl,trivial⟩,rfl,(b5,.cells #[vv,ev] 114) :: (AS++(AV++(AE++[(b6,.cells #[.int .i64 (rayAt g k).at',.int .i64 (rayAt g k).dir] 151),(b4,.cells #[.slice none 0 0,.slice none 0 0] 114),(b2,.cells #[.int .i64 g.wide,c] 25)]))),_,inferInstance,vv,ev,AS,AV,AE,rfl,s',V,E,v2,eb,gs2,gv,ge,t,hv,he,by simp only; omega⟩
  repeat first|refine R1 ?_|refine R2 fun _=>?_
  refine sf_if (fun e3=>?_) fun e3=>?_
  ·have hz : (n, v1, ea) = (1, [], [⟨0, b.out, b.weight⟩]) := by
    rcases hb with ⟨q,_⟩ | ⟨_,_,q⟩ | ⟨_,q,_⟩
    ·exact absurd q e2
    ·exact q
    ·omega
   simp only [Prod.mk.injEq] at hz
   obtain ⟨rfl,rfl,rfl⟩:=hz
   repeat first|refine R1 ?_|refine R2 fun _=>?_
   refine fp (y_call (endOf_f h b5 vv ev ovv AE E ge (by omega) 0 b.out b.weight) (by rfl) ?_)
   rintro _ _ ⟨ev2,AE2,rfl,ge2⟩
   rw [endIf,if_pos (by omega)] at ge2
   repeat first|refine R1 ?_|refine R2 fun _=>?_
   refine sf_exit ?_
   exact ⟨(m,.slice (some ⟨bb,0,none⟩) s'.length cap),by simp only; omega,⟨rfl,trivial⟩,rfl,(b5,.cells #[vv,ev2] 114) :: (AS++(AV++(AE2++[(b6,.cells #[.int .i64 (rayAt g k).at',.int .i64 (rayAt g k).dir] 151),(b4,.cells #[.slice none 0 0,.slice none 0 0] 114),(b2,.cells #[.int .i64 g.wide,c] 25)]))),_,inferInstance,vv,ev2,AS,AV,AE2,rfl,s',V,_,v2,eb,gs2,gv,ge2,t,hv,by rw [he]; simp,by simp only; omega⟩
  obtain ⟨ha,hd',nn,hcm⟩:(0 ≤ b.at'∧b.at' < g.cells.length)∧(0 ≤ b.dir∧b.dir ≤ 3)∧∃ n',comeF g n' b.at' b.dir b.weight = some (n,v1,ea):=by
   rcases hb with ⟨q,_⟩ | ⟨_,q,_⟩ | ⟨_,_,q⟩
   ·exact absurd q e2
   ·omega
   ·exact q
  have ha':0 ≤ b.at'∧b.at' < 1000:=by omega
  obtain ⟨n',v1',e1'',hr,td2⟩:=todo_two kg ha.1 ha.2 hd'.1 hd'.2 (by omega) hbw.2 hcm t
  simp only [Prod.mk.injEq] at hr
  obtain ⟨rfl,rfl,rfl⟩:=hr
  have ls':s'.length ≤ 26000:=by omega
  clear lst hn
  have hkd:=kg.kind ha.1 ha.2
  clear hb hcm t hc
  repeat first|refine R1 ?_|refine R2 fun _=>?_
  refine Xb fun u Au gu=>?_
  repeat first|refine R1 ?_|refine R2 fun _=>?_
  refine Xa gv gu fun vv2 AV2 gv2=>?_
  have ov2:=gv2.one
  repeat first|refine R1 ?_|refine R2 fun _=>?_
  have csp:=spreadOf_v (M:=M) h (gt g.cells b.at'.toNat).kind b.weight ⟨hkd.1,hkd.2.1⟩ hbw
  unfold spreadV at csp
  refine Xv (csp) ?_
  repeat first|refine R1 ?_|refine R2 fun _=>?_
  refine sf_if (fun e7=>?_) fun e7=>?_
  ·repeat first|refine R1 ?_|refine R2 fun _=>?_
   refine fp (y_call (endOf_f h b5 vv2 ev ov2 AE E ge (by omega) 2 b.at' (spread (gt g.cells b.at'.toNat).kind b.weight).stop) (by rfl) ?_)
   rintro _ _ ⟨ev2,AE2,rfl,ge2⟩
   have oe2:=ge2.one
   repeat first|refine R1 ?_|refine R2 fun _=>?_
   refine fp (y_call (endOf_f h b5 vv2 ev2 ov2 AE2 _ ge2 (by simp only [List.length_append]; have:=endIf_len 2 b.at' (spread (gt g.cells b.at'.toNat).kind b.weight).stop; omega) 3 b.at' (spread (gt g.cells b.at'.toNat).kind b.weight).lost) (by rfl) ?_)
   rintro _ _ ⟨ev3,AE3,rfl,ge3⟩
   have oe3:=ge3.one
   have hH:hereF g b.at' b.weight = endIf 2 b.at' (spread (gt g.cells b.at'.toNat).kind b.weight).stop++endIf 3 b.at' (spread (gt g.cells b.at'.toNat).kind b.weight).lost:=by
    unfold hereF; simp [e7]
   repeat first|refine R1 ?_|refine R2 fun _=>?_
   refine Sd [[],[],[],[2],[],[4],[],[6],[4,5,6,7],[],[9],[1,2,3,4,5,6,7,8,9,10],[],[],[13],[],[15],[],[17],[1,2,3,4,5,6,7,8,9,10,11,12,13,14,15,16,17,18],[1,2,3,4,5,6,7,8,9,10,11,12,13,14,15,16,17,18,19],[0,1,2,3,4,5,6,7,8,9,10,11,12,13,14,15,16,17,18,19,20],[0,1,2,3,4,5,6,7,8,9,10,11,12,13,14,15,16,17,18,19,20,21]] 21 [Nn 0,Nn 1,Nn 2,Nn 3,Nn 4,Nn 5,Nn 6,Nn 7,Nn 9,Nn 10,Nn 12,Nn 13,Nn 14,Nn 15,Nn 16,Nn 17,Nn 18,Yy 8,Yy 11,Yy 19,Yy 20] ?_
   refine Da ?_
   refine Yv (dirTurn_v h (gt g.cells b.at'.toNat).kind b.dir hd') ?_
   refine Da ?_
   refine Yv (beamFrom_v h c g s e b.at' (dirTurn (gt g.cells b.at'.toNat).kind b.dir) (spread (gt g.cells b.at'.toNat).kind b.weight).turn ha' (dirTurn_ok hd'.1 hd'.2)) ?_
   refine Da ?_
   refine Yv (beamFrom_v h c g s e b.at' b.dir (spread (gt g.cells b.at'.toNat).kind b.weight).pass ha' hd') ?_
   refine Da ?_
   refine Yb fun w3 Aw3 gw3=>?_
   refine Da ?_
   refine Ae ?_
   refine Xa gs2 gw3 fun sv4 AS4 gs4=>?_
   have os4:=gs4.one
   repeat first|refine R1 ?_|refine R2 fun _=>?_
   exact ⟨(n' + m,sv4),by simp only; omega,⟨rfl,trivial⟩,rfl,(b5,.cells #[vv2,ev3] 114) :: (AS4++(AV2++(AE3++[(b6,.cells #[.int .i64 (rayAt g k).at',.int .i64 (rayAt g k).dir] 151),(b4,.cells #[.slice none 0 0,.slice none 0 0] 114),(b2,.cells #[.int .i64 g.wide,c] 25)]))),_,inferInstance,vv2,ev3,AS4,AV2,AE3,rfl,_,_,_,v1'++v2,e1''++eb,gs4,gv2,ge3,by simpa using td2,by rw [hv]; simp,by rw [he,hH]; simp,by simp only; omega⟩
  ·repeat first|refine R1 ?_|refine R2 fun _=>?_
   refine fp (y_call (endOf_f h b5 vv2 ev ov2 AE E ge (by omega) 1 b.at' (spread (gt g.cells b.at'.toNat).kind b.weight).stop) (by rfl) ?_)
   rintro _ _ ⟨ev2,AE2,rfl,ge2⟩
   have oe2:=ge2.one
   repeat first|refine R1 ?_|refine R2 fun _=>?_
   refine fp (y_call (endOf_f h b5 vv2 ev2 ov2 AE2 _ ge2 (by simp only [List.length_append]; have:=endIf_len 1 b.at' (spread (gt g.cells b.at'.toNat).kind b.weight).stop; omega) 3 b.at' (spread (gt g.cells b.at'.toNat).kind b.weight).lost) (by rfl) ?_)
   rintro _ _ ⟨ev3,AE3,rfl,ge3⟩
   have oe3:=ge3.one
   have hH:hereF g b.at' b.weight = endIf 1 b.at' (spread (gt g.cells b.at'.toNat).kind b.weight).stop++endIf 3 b.at' (spread (gt g.cells b.at'.toNat).kind b.weight).lost:=by
    unfold hereF; simp [e7]
   repeat first|refine R1 ?_|refine R2 fun _=>?_
   refine Sd [[],[],[],[2],[],[4],[],[6],[4,5,6,7],[],[9],[1,2,3,4,5,6,7,8,9,10],[],[],[13],[],[15],[],[17],[1,2,3,4,5,6,7,8,9,10,11,12,13,14,15,16,17,18],[1,2,3,4,5,6,7,8,9,10,11,12,13,14,15,16,17,18,19],[0,1,2,3,4,5,6,7,8,9,10,11,12,13,14,15,16,17,18,19,20],[0,1,2,3,4,5,6,7,8,9,10,11,12,13,14,15,16,17,18,19,20,21]] 21 [Nn 0,Nn 1,Nn 2,Nn 3,Nn 4,Nn 5,Nn 6,Nn 7,Nn 9,Nn 10,Nn 12,Nn 13,Nn 14,Nn 15,Nn 16,Nn 17,Nn 18,Yy 8,Yy 11,Yy 19,Yy 20] ?_
   refine Da ?_
   refine Yv (dirTurn_v h (gt g.cells b.at'.toNat).kind b.dir hd') ?_
   refine Da ?_
   refine Yv (beamFrom_v h c g s e b.at' (dirTurn (gt g.cells b.at'.toNat).kind b.dir) (spread (gt g.cells b.at'.toNat).kind b.weight).turn ha' (dirTurn_ok hd'.1 hd'.2)) ?_
   refine Da ?_
   refine Yv (beamFrom_v h c g s e b.at' b.dir (spread (gt g.cells b.at'.toNat).kind b.weight).pass ha' hd') ?_
   refine Da ?_
   refine Yb fun w3 Aw3 gw3=>?_
   refine Da ?_
   refine Ae ?_
   refine Xa gs2 gw3 fun sv4 AS4 gs4=>?_
   have os4:=gs4.one
   repeat first|refine R1 ?_|refine R2 fun _=>?_
   exact ⟨(n' + m,sv4),by simp only; omega,⟨rfl,trivial⟩,rfl,(b5,.cells #[vv2,ev3] 114) :: (AS4++(AV2++(AE3++[(b6,.cells #[.int .i64 (rayAt g k).at',.int .i64 (rayAt g k).dir] 151),(b4,.cells #[.slice none 0 0,.slice none 0 0] 114),(b2,.cells #[.int .i64 g.wide,c] 25)]))),_,inferInstance,vv2,ev3,AS4,AV2,AE3,rfl,_,_,_,v1'++v2,e1''++eb,gs4,gv2,ge3,by simpa using td2,by rw [hv]; simp,by rw [he,hH]; simp,by simp only; omega⟩
 ·refine sf_exit ?_
  obtain rfl:st = []:=List.eq_nil_of_length_eq_zero (by omega)
  cases td
  repeat first|refine R1 ?_|refine R2 fun _=>?_
  exact sf_ret (rO (AV++AE) ⟨vv,ev,AV,AE,rfl,rfl,by rw [hv,List.append_nil]; exact gv,by rw [he,List.append_nil]; exact ge⟩)
theorem trailLight_v (h:PHeap) (c:Value) (g:Grid) (s:Sl h c cellF g.cells) (e:gridOk g = true) (k:Int) (hk:0 ≤ k∧k < manyOf g):CallV Tryz.prog M 35 [.agg #[.int .i64 g.wide,c],.int .i64 k] h (.int .i64 (trailLight g k)):=by
 have o1:=s.one
 have kg:=gok e
 obtain ⟨sz,v,es,hc,hg,hsz,hok⟩:=goLight_is kg hk.1 hk.2
 have hle:=hok.le
 have hes:∀ e ∈ es,EndOk g 64 e:=hok.es
 simp only at hle
 refine Cs Tryz.func35 Tryz.ntmps35 ?_
 repeat first|refine R1 ?_|refine R2 fun _=>?_
 refine fp (y_call (trailOf_f h c g s e k hk) (by rfl) ?_)
 rintro _ _ ⟨vv,ev,AV,AE,rfl,rfl,gv,ge⟩
 rw [hg] at gv ge
 have ov:=gv.one
 have oe:=ge.one
 simp only at ge gv
 have hg':=hg
 clear hc hg
 repeat first|refine R1 ?_|refine R2 fun _=>?_
 rename_i b2
 refine sf_lp (ι:=Nat) [2,11,12] (fun k=>[(5,.int .i64 (sumF (endLight g) (es.take k))),(13,.int .i64 (k:Int))]) (fun k O=>k ≤ es.length∧O = AV++(AE++[(b2,.cells #[.int .i64 g.wide,c] 25)])) (fun k=>es.length - k) 0 (AV++(AE++[(b2,.cells #[.int .i64 g.wide,c] 25)])) ⟨by omega,rfl⟩ ?_
 rintro j O ⟨hj,rfl⟩
 have hsum:=lightOf_bd kg hes j (by omega)
 repeat first|refine R1 ?_|refine R2 fun _=>?_
 refine sf_if (fun e1=>?_) fun e1=>?_
 ·have hj1:j < es.length:=by omega
  have ek:=hes (gt es j) (by rw [gt_eq hj1]; exact List.getElem_mem _)
  have hst:=sumF_step (f:=endLight g) hj1
  have hbd:=endLight_bd kg ek
  repeat first|refine R1 ?_|refine R2 fun _=>?_
  refine sf_if (fun e2=>?_) fun e2=>?_
  ·have hcl:=ek.cell (by omega)
   rw [endLight,if_pos e2] at hst hbd
   repeat first|refine R1 ?_|refine R2 fun _=>?_
   refine Sd [[],[],[1],[],[3],[],[5],[3,4,5,6],[3,4,5,6,7],[3,4,5,6,7,8],[1,2,3,4,5,6,7,8,9],[0,1,2,3,4,5,6,7,8,9,10],[0,1,2,3,4,5,6,7,8,9,10,11]] 11 [Nn 0,Nn 1,Nn 2,Nn 3,Nn 4,Nn 5,Nn 6,Nn 7,Nn 8,Nn 9,Nn 10] ?_
   refine Da ?_
   refine Ae ?_
   repeat first|refine R1 ?_|refine R2 fun _=>?_
   exact ⟨j + 1,by omega,⟨by rw [hst]; rfl,rfl,trivial⟩,rfl,_,_,inferInstance,by omega,rfl⟩
  ·rw [endLight,if_neg e2,Int.add_zero] at hst
   repeat first|refine R1 ?_|refine R2 fun _=>?_
   exact ⟨j + 1,by omega,⟨by rw [hst]; rfl,rfl,trivial⟩,rfl,_,_,inferInstance,by omega,rfl⟩
 ·refine sf_exit ?_
  repeat first|refine R1 ?_|refine R2 fun _=>?_
  refine sf_ret (rV ?_)
  rw [trailLight,lightOf,hg',List.take_of_length_le (by omega)]
end Go.Proofs.YtcpkcmgjfcbnpaaGreatDoor

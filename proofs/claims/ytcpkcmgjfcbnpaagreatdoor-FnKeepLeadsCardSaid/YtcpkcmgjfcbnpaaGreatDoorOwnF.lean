/- Walks of the seat: QF QG KH PA PB PC PD PE PF PG PH Z8 R8u. -/
import Derived.Test.YtcpkcmgjfcbnpaaGreatDoorOwnE
import Derived.Test.YtcpkcmgjfcbnpaaGreatDoorLibC
import Derived.Test.YtcpkcmgjfcbnpaaGreatDoorLibD
import Derived.Test.YtcpkcmgjfcbnpaaGreatDoorLibE
import Derived.Test.YtcpkcmgjfcbnpaaGreatDoorLibF
import Derived.Test.YtcpkcmgjfcbnpaaGreatDoorLibG
import Derived.Test.YtcpkcmgjfcbnpaaGreatDoorOwnD
import Derived.Test.YtcpkcmgjfcbnpaaGreatDoorLibI
import Derived.Test.YtcpkcmgjfcbnpaaGreatDoorSmZ
import Derived.Test.YtcpkcmgjfcbnpaaGreatDoorOwnB
import Derived.Test.YtcpkcmgjfcbnpaaGreatDoorSmM
set_option linter.unusedVariables false
set_option linter.unusedSimpArgs false
set_option linter.unusedSectionVars false
namespace Go.Proofs.YtcpkcmgjfcbnpaaGreatDoor
open Go Go.Sl Go.Sort
set_option maxRecDepth 100000
set_option maxHeartbeats 4000000
attribute [local irreducible] Go.Code.sf sfOps Opq opo retF Do1 anyO
variable {M:Jdg→Prop} [IsCl Tryz.prog M]
theorem pdqsort_f (m : Nat) : ∀ (h : PHeap) (v : Value) (A : Own) (d : Array Int) (_ : Gr A v 3 intF d.toList) (a b : Nat) (l : Int) (_ : b ≤ d.size) (_ : d.size ≤ 1000000) (_ : a ≤ b) (_ : 0 ≤ l ∧ l ≤ 1000) (_ : Below ltInt a b d) (_ : b - a = m),
  CallF Tryz.prog M 189 [v,.int .i64 (a:Int),.int .i64 (b:Int),.int .i64 l] A h fun u A'=>u = .tuple #[]∧∃ d':Array Int,Gr A' v 3 intF d'.toList∧PermIn a b d d'∧SortedIn ltInt a b d':=by
 induction m using Nat.strongRecOn with
 | _ m ih=>
 intro h v A d g a b l hb hs hab hl hB hm
 have o:=g.one
 refine Cs Tryz.func189 Tryz.ntmps189 ?_
 refine Wo ?_
 refine sf_lp (ι:=Nat × Nat × Int × Bool × Bool × Array Int) [0] (fun x=>[(1,.int .i64 (x.1:Int)),(2,.int .i64 (x.2.1:Int)),(3,.int .i64 x.2.2.1),(8,.bool x.2.2.2.1),(9,.bool x.2.2.2.2.1)])
  (fun x O=>Gr O v 3 intF x.2.2.2.2.2.toList∧x.2.2.2.2.2.size = d.size∧x.1 ≤ x.2.1∧x.2.1 ≤ d.size∧(0 ≤ x.2.2.1∧x.2.2.1 ≤ 1000)∧Below ltInt x.1 x.2.1 x.2.2.2.2.2∧x.2.1 - x.1 ≤ m∧∀ R,PermIn x.1 x.2.1 x.2.2.2.2.2 R→SortedIn ltInt x.1 x.2.1 R→PermIn a b d R∧SortedIn ltInt a b R)
  (fun x=>x.2.1 - x.1) (a,b,l,true,true,d) A ⟨g,rfl,hab,hb,hl,hB,by simp only; omega,fun R r1 r2=>⟨r1,r2⟩⟩ ?_
 rintro ⟨a1,b1,l1,wb,wp,f⟩ O ⟨gf,fsz,hab1,hb1,hl1,hB1,hm1,hT⟩
 simp only at gf fsz hab1 hb1 hl1 hB1 hm1 hT ⊢
 clear hB hl g
 refine Wo ?_
 refine sf_if (fun h1=>?_) fun h1=>?_
 ·refine Wo ?_
  refine fp (y_call (insertionSort_f (M:=M) _ v O f gf a1 b1 (by omega) (by omega) hab1) (by rfl) ?_)
  rintro _ A1 ⟨rfl,g1⟩
  refine Wo ?_
  obtain ⟨p1,p2⟩:=insertionSort_holds (lt:=ltInt) swo_ltInt f a1 b1 hab1 (by omega)
  obtain ⟨q1,q2⟩:=hT _ p1 p2
  exact sf_ret (rO A1 ⟨rfl,_,g1,q1,q2⟩)
 refine Wo ?_
 refine sf_if (fun h2=>?_) fun h2=>?_
 ·refine Wo ?_
  refine fp (y_call (heapSort_f (M:=M) _ v O f gf a1 b1 (by omega) (by omega) (by omega)) (by rfl) ?_)
  rintro _ A1 ⟨rfl,g1⟩
  refine Wo ?_
  obtain ⟨p1,p2⟩:=heapSort_holds (lt:=ltInt) swo_ltInt f a1 b1 hab1 (by omega)
  obtain ⟨q1,q2⟩:=hT _ p1 p2
  exact sf_ret (rO A1 ⟨rfl,_,g1,q1,q2⟩)
 refine Wo ?_
 apply viaT (G:=∀ (B:Own) (f1:Array Int) (l2:Int),(0 ≤ l2∧l2 ≤ 1000)→Gr B v 3 intF f1.toList→PermIn a1 b1 f f1→_)
 ·intro tail
  refine sf_cond (by rfl) (fun e=>?_) fun e=>?_
  ·refine Wo ?_
   refine fp (y_call (breakPatterns_f (M:=M) _ v O f gf a1 b1 (by omega) (by omega) (by omega)) (by rfl) ?_)
   rintro _ A1 ⟨rfl,f1,g1,p1⟩
   refine Wo ?_
   obtain ⟨l2,hl2⟩:∃ l2,l2 = l1 - 1:=⟨_,rfl⟩
   rw [← hl2]
   refine fops_keep [0,1,2,3,8,9,10,43,44,45] ?_
   refine fops_own A1 ?_
   exact tail.out A1 f1 l2 (by omega) g1 p1
  ·refine Wo ?_
   refine fops_keep [0,1,2,3,8,9,10,43,44,45] ?_
   exact tail.out O f l1 hl1 gf (Sort.permIn_refl _ _ _)
 intro B1 f1 l2 hl2 g1 p1
 have hs1:f1.size = d.size:=p1.1.trans fsz
 have hl1:f1.toList.length = f1.size:=by simp
 have B1':Below ltInt a1 b1 f1:=hB1.perm (by omega) p1
 have hT1:∀ R,PermIn a1 b1 f1 R→SortedIn ltInt a1 b1 R→PermIn a b d R∧SortedIn ltInt a b R:=fun R r1 r2=>hT R (Sort.permIn_trans _ _ _ _ _ p1 r1) r2
 clear hB1 hT gf fsz p1
 refine fp (y_lend B1 (fun h' _ i=>choosePivot_f (M:=M) h' v f1.toList (g1.lent (by omega) i) a1 b1 (by omega) (by omega) (by omega)) (by rfl) ?_)
 rintro _ _ ⟨p,z,rfl,hp,rfl⟩
 refine Wo ?_
 apply viaT (G:=∀ (B:Own) (f2:Array Int) (p:Nat) (z:Int),(a1 ≤ p∧p < b1)→Gr B v 3 intF f2.toList→PermIn a1 b1 f1 f2→_)
 ·intro tail
  refine sf_if (fun h3=>?_) fun h3=>?_
  rotate_left
  ·refine Wo ?_
   refine fops_keep [0,1,2,3,8,9,10,11,12,61,62] ?_
   refine fops_own B1 ?_
   obtain ⟨Bc,hBc⟩:∃ x,x = B1:=⟨_,rfl⟩
   obtain ⟨fc,hfc⟩:∃ x,x = f1:=⟨_,rfl⟩
   obtain ⟨pc,hpc⟩:∃ x,x = p:=⟨_,rfl⟩
   obtain ⟨zc,hzc⟩:∃ x,x = z:=⟨_,rfl⟩
   rw [← hBc,← hpc,← hzc]
   exact tail.out Bc fc pc zc (by omega) (by rw [hBc,hfc]; exact g1) (by rw [hfc]; exact Sort.permIn_refl _ _ _)
  ·refine Wo ?_
   refine fp (y_call (reverseRange_f (M:=M) _ v B1 f1 g1 a1 b1 (by omega) (by omega) (by omega)) (by rfl) ?_)
   rintro _ A1 ⟨rfl,g2⟩
   refine Wo ?_
   rw [show (b1:Int) - 1 - ((p:Int) - (a1:Int)) = ((b1 - 1 - (p - a1):Nat):Int) by omega]
   refine fops_keep [0,1,2,3,8,9,10,11,12,61,62] ?_
   refine fops_own A1 ?_
   exact tail.out A1 _ (b1 - 1 - (p - a1)) 1 (by omega) g2 (reverseRange_holds _ _ _ (by omega) (by omega))
 intro B2 f2 p z hp g2 p2
 have hs2:f2.size = d.size:=p2.1.trans hs1
 have B2':Below ltInt a1 b1 f2:=B1'.perm (by omega) p2
 have hT2:∀ R,PermIn a1 b1 f2 R→SortedIn ltInt a1 b1 R→PermIn a b d R∧SortedIn ltInt a b R:=fun R r1 r2=>hT1 R (Sort.permIn_trans _ _ _ _ _ p2 r1) r2
 clear B1' hT1 g1 p2
 clear hs1 hl1
 apply viaT (G:=∀ (B:Own) (f3:Array Int),Gr B v 3 intF f3.toList→PermIn a1 b1 f2 f3→_)
 ·intro tail
  refine f_splitB (fun w1=>?_) fun w1=>?_
  rotate_left
  ·refine Wo ?_
   refine sf_cond (by rfl) (fun e=>by cases e) fun z1=>?_
   clear z1
   refine Wo ?_
   refine sf_keep [0,1,2,3,8,9,10,11] ?_
   obtain ⟨Bc,hBc⟩:∃ x,x = B2:=⟨_,rfl⟩
   obtain ⟨fc,hfc⟩:∃ x,x = f2:=⟨_,rfl⟩
   rw [← hBc]
   exact tail.out Bc fc (by rw [hBc,hfc]; exact g2) (by rw [hfc]; exact Sort.permIn_refl _ _ _)
  ·refine Wo ?_
   refine f_splitB (fun w2=>?_) fun w2=>?_
   rotate_left
   ·refine Wo ?_
    refine sf_cond (by rfl) (fun e=>by cases e) fun z1=>?_
    clear z1
    refine Wo ?_
    refine sf_keep [0,1,2,3,8,9,10,11] ?_
    exact tail.out B2 f2 g2 (Sort.permIn_refl _ _ _)
   ·refine Wo ?_
    refine sf_if (fun h4=>?_) fun h4=>?_
    rotate_left
    ·refine Wo ?_
     refine sf_keep [0,1,2,3,8,9,10,11] ?_
     exact tail.out B2 f2 g2 (Sort.permIn_refl _ _ _)
    ·refine Wo ?_
     refine fp (y_call (partialInsertionSort_f (M:=M) _ v B2 f2 g2 a1 b1 (by omega) (by omega) (by omega)) (by rfl) ?_)
     rintro _ A1 ⟨rfl,g3⟩
     refine Wo ?_
     obtain ⟨p3,s3⟩:=partialInsertionSort_holds (lt:=ltInt) swo_ltInt f2 a1 b1 (by omega) (by omega) B2'
     refine sf_cond (by rfl) (fun e=>?_) fun e=>?_
     ·refine Wo ?_
      obtain ⟨q1,q2⟩:=hT2 _ p3 (s3 e)
      exact sf_ret (rO A1 ⟨rfl,_,g3,q1,q2⟩)
     ·refine Wo ?_
      refine sf_keep [0,1,2,3,8,9,10,11] ?_
      refine sf_own A1 ?_
      exact tail.out A1 _ g3 p3
 intro B3 f3 g3 p3
 have hs3:f3.size = d.size:=p3.1.trans hs2
 have B3':Below ltInt a1 b1 f3:=B2'.perm (by omega) p3
 have hT3:∀ R,PermIn a1 b1 f3 R→SortedIn ltInt a1 b1 R→PermIn a b d R∧SortedIn ltInt a b R:=fun R r1 r2=>hT2 R (Sort.permIn_trans _ _ _ _ _ p3 r1) r2
 have hl3:f3.toList.length = f3.size:=by simp
 clear B2' hT2 g2 p3 hs2
 apply viaT
 ·intro tail
  by_cases h5:0 < a1
  ·have h6:(a1:Int) > 0:=by omega
   have u1:gt f3.toList ((a1:Int) - 1).toNat = f3[a1 - 1]!:=gt_arr' (by omega) (by omega)
   have u2:gt f3.toList p = f3[p]!:=gt_arr (by omega)
   refine Sd [[],[0],[0,1],[0,1,2],[0,1,2],[0,1,2,4],[0,1,2,3,4,5],[0,1,2,3,4,5,6],[0,1,2],[0,1,2],[0,1,2,8,9],[0,1,2,8,9,10],[0,1,2,3,4,5,6,7,8,9,10,11],[0,1,2,3,4,5,6,7,8,9,10,11,12],[0,1,2,3,4,5,6,7,8,9,10,11,12,13]] 12 [Nn 0,Nn 1,Nn 2,Nn 3,Nn 4,Nn 5,Nn 6,Nn 7,Nn 8,Nn 9,Nn 10,Nn 11] ?_
   refine Di ?_
   refine Ae ?_
   refine Xv (less_v _ _ _) ?_
   refine Wo ?_
   rw [u1,u2]
   refine sf_ifn (fun h7=>?_) fun h7=>?_
   ·refine Wo ?_
    refine fp (y_call (partitionEqual_f (M:=M) _ v B3 f3 g3 a1 b1 p (by omega) (by omega) (by omega) hp) (by rfl) ?_)
    rintro _ A1 ⟨rfl,g4⟩
    refine Wo ?_
    refine sf_exit ?_
    obtain ⟨k1,k2,k3,k4,k5⟩:=round_eq swo_ltInt (partitionEqual_holds ltInt) h5 hp.1 hp.2 (by omega) B3' (by rw [ltInt_is]; exact decide_eq_false h7) (show partitionEqual ltInt f3 a1 b1 p = ((partitionEqual ltInt f3 a1 b1 p).1,(partitionEqual ltInt f3 a1 b1 p).2) from rfl)
    exact ⟨((partitionEqual ltInt f3 a1 b1 p).1,b1,l2,wb,wp,(partitionEqual ltInt f3 a1 b1 p).2),by simp only; omega,⟨rfl,rfl,rfl,rfl,rfl,trivial⟩,rfl,A1,_,inferInstance,g4,k3.trans hs3,k2,hb1,hl2,k4,by simp only; omega,fun R r1 r2=>by obtain ⟨q1,q2⟩:=k5 R r1 r2; exact hT3 R q1 q2⟩
   ·refine Wo ?_
    refine fops_keep [0,1,2,3,8,9,10,11,95,96,97,98] ?_
    exact tail.out
  ·have h6:¬ (a1:Int) > 0:=by omega
   refine Sd [[],[0],[0,1],[0,1,2],[0,1,2],[0,1,2,4],[0,1,2,3,4,5],[0,1,2,3,4,5,6],[0,1,2],[0,1,2],[0,1,2,8,9],[0,1,2,8,9,10],[0,1,2,3,4,5,6,7,8,9,10,11],[0,1,2,3,4,5,6,7,8,9,10,11,12],[0,1,2,3,4,5,6,7,8,9,10,11,12,13]] 12 [Nn 0,Nn 1,Nn 2,Nn 3,Nn 4,Nn 5,Nn 6,Nn 7,Nn 8,Nn 9,Nn 10,Nn 11] ?_
   refine Di ?_
   refine Ae ?_
   refine Wo ?_
   refine sf_cond (by rfl) (fun e=>by cases e) fun z1=>?_
   clear z1
   refine Wo ?_
   refine fops_keep [0,1,2,3,8,9,10,11,95,96,97,98] ?_
   exact tail.out
 refine fp (y_call (partition_f (M:=M) _ v B3 f3 g3 a1 b1 p (by omega) (by omega) (by omega) hp) (by rfl) ?_)
 obtain ⟨mid,ap,d4,hx⟩:∃ mid ap d4,Sort.partition ltInt f3 a1 b1 p = (mid,ap,d4):=⟨_,_,_,rfl⟩
 rw [hx]
 rintro _ A1 ⟨rfl,g4⟩
 simp only at g4
 obtain ⟨k1,k2,k3,k4,k5,k6,k7⟩:=round_part swo_ltInt (partition_holds ltInt) hp.1 hp.2 (by omega) B3' hx
 refine Wo ?_
 refine sf_if (fun h7=>?_) fun h7=>?_
 ·refine Wo ?_
  refine fp (y_call (ih (mid - a1) (by omega) _ v A1 d4 g4 a1 mid l2 (by omega) (by omega) k1 hl2 k4 rfl) (by rfl) ?_)
  rintro _ A2 ⟨rfl,d5,g5,p5,s5⟩
  obtain ⟨j1,j2⟩:=k6 d5 p5 s5
  refine Wo ?_
  exact ⟨(mid + 1,b1,l2,_,ap,d5),by simp only; omega,⟨rfl,rfl,rfl,rfl,rfl,trivial⟩,rfl,A2,_,inferInstance,g5,(p5.1.trans k3).trans hs3,by simp only; omega,hb1,hl2,j1,by simp only; omega,fun R r1 r2=>by obtain ⟨q1,q2⟩:=j2 R r1 r2; exact hT3 R q1 q2⟩
 ·refine Wo ?_
  refine fp (y_call (ih (b1 - (mid + 1)) (by omega) _ v A1 d4 g4 (mid + 1) b1 l2 (by omega) (by omega) (by omega) hl2 k5 rfl) (by rfl) ?_)
  rintro _ A2 ⟨rfl,d5,g5,p5,s5⟩
  obtain ⟨j1,j2⟩:=k7 d5 p5 s5
  refine Wo ?_
  exact ⟨(a1,mid,l2,_,ap,d5),by simp only; omega,⟨rfl,rfl,rfl,rfl,rfl,trivial⟩,rfl,A2,_,inferInstance,g5,(p5.1.trans k3).trans hs3,by simp only; omega,by simp only; omega,hl2,j1,by simp only; omega,fun R r1 r2=>by obtain ⟨q1,q2⟩:=j2 R r1 r2; exact hT3 R q1 q2⟩
theorem sort_f (h:PHeap) (v:Value) (A:Own) (xs:List Int) (g:Gr A v 3 intF xs) (hs:xs.length ≤ 1000000):CallF Tryz.prog M 149 [v] A h fun u A'=>u = .tuple #[]∧Gr A' v 3 intF (sortF xs):=by
 have o:=g.one
 refine Cs Tryz.func149 Tryz.ntmps149 ?_
 refine Wo ?_
 rw [IntKind.wrap_u64,show ((xs.length:Nat):Int) % 18446744073709551616 = ((xs.length:Nat):Int) by omega]
 refine fp (y_call (len_f (M:=M) _ xs.length hs) (by rfl) ?_)
 rintro _ _ ⟨rfl,L,rfl,k1,k2⟩
 refine Wo ?_
 refine fp (y_call (pdqsort_f (M:=M) xs.length _ v A xs.toArray g 0 xs.length (L:Int) (by simp) (by simpa using hs) (by omega) (by omega) (.inl rfl) (by omega)) (by rfl) ?_)
 rintro _ A2 ⟨rfl,d',g',p',s'⟩
 refine Wo ?_
 refine nO A2 ⟨rfl,?_⟩
 have e:=sorted_unique_holds (lt:=ltInt) swo_ltInt (fun x y h1 h2=>by simp only [ltInt_is,decide_eq_false_iff_not] at h1 h2; omega) xs.toArray d' (by simpa using p') (by simpa using s')
 have e2:d'.toList = sortF xs:=by
  rw [e]; unfold sortF
  congr 1
  funext x y
  simp only [ltInt_is]
  by_cases h:y < x
  ·simp [h] <;> omega
  ·simp [h] <;> omega
 rw [← e2]; exact g'
end Go.Proofs.YtcpkcmgjfcbnpaaGreatDoor
namespace Go.Proofs.YtcpkcmgjfcbnpaaGreatDoor
open Go Go.Sl
set_option maxRecDepth 100000
set_option maxHeartbeats 4000000
attribute [local irreducible] Go.Code.sf sfOps Opq opo retF Do1 anyO
variable {M:Jdg→Prop} [IsCl Tryz.prog M]
theorem compact_f (h:PHeap) (v:Value) (A:Own) (xs:List Int) (g:Gr A v 3 intF xs) (hs:xs.length ≤ 1000000):CallF Tryz.prog M 150 [v] A h fun u A'=>Gr A' u 3 intF (compactF xs):=by
 have o:=g.one
 refine Cs Tryz.func150 Tryz.ntmps150 ?_
 refine Wo ?_
 refine sf_if (fun h1=>?_) fun h1=>?_
 ·refine Wo ?_
  refine sf_ret (rO A ?_)
  match xs,h1 with
  | [],_=>exact g
  | [x],_=>exact g
  | x :: y :: l,h1=>simp at h1; omega
 refine Wo ?_
 refine sf_lp (ι:=Nat) [0] (fun x=>[(3,.int .i64 (x:Int))]) (fun x O=>O = A∧1 ≤ x∧x ≤ xs.length∧compactF (xs.take x) = xs.take x) (fun x=>xs.length - x) 1 A ⟨rfl,by omega,by omega,by rw [take_succ_gt (by omega:0 < xs.length)]; rfl⟩ ?_
 rintro k O0 ⟨rfl,hk1,hk2,hinv⟩
 refine Wo ?_
 refine sf_if (fun h2=>?_) fun h2=>?_
 ·have q1:gt xs ((k:Int) - 1).toNat = gt xs (k - 1):=by congr 1; omega
  have hst:=compactF_step (xs:=xs) (j:=k - 1) (by omega)
  rw [show k - 1 + 2 = k + 1 by omega,show k - 1 + 1 = k by omega] at hst
  refine Wo ?_
  refine Sd [[],[],[0,1],[0,1,2],[],[],[5],[4,5,6],[4,5,6,7],[0,1,2,3,4,5,6,7,8]] 9 [Nn 0,Nn 1,Nn 2,Nn 3,Nn 4,Nn 5,Nn 6,Nn 7,Nn 8] ?_
  refine Di ?_
  refine Ae ?_
  refine Wo ?_
  rw [q1]
  refine sf_if (fun h3=>?_) fun h3=>?_
  ·rw [if_pos h3,hinv] at hst
   obtain ⟨b,cap,rfl,hcap⟩:=g.shape (by omega)
   refine Wo ?_
   refine fp (Rq ?_ (q_sliceLo (l:=k) (by infer_instance) (by infer_instance) (by rfl) (by rfl) (by omega)))
   rw [if_neg (by omega:¬ cap = k)]
   refine Wo ?_
   refine sf_lp (ι:=Nat × Nat × List Int) [0,4] (fun x=>[(3,.int .i64 (x.1:Int)),(5,.int .i64 (x.2.1:Int))]) (fun x O=>Gr O (.slice (some ⟨b,0,none⟩) xs.length cap) 3 intF x.2.2∧x.2.2.length = xs.length∧1 ≤ x.2.1∧x.2.1 ≤ xs.length - k∧1 ≤ x.1∧x.1 + 1 ≤ k + x.2.1∧x.2.2.take x.1 = compactF (xs.take (k + x.2.1))∧∀ i,k + x.2.1 ≤ i + 1→gt x.2.2 i = gt xs i) (fun x=>xs.length - x.2.1) (k,1,xs) _ ⟨g,rfl,by simp only; omega,by simp only; omega,hk1,by simp only; omega,hst.symm,fun _ _=>rfl⟩ ?_
   rintro ⟨j,m,ys⟩ O ⟨gy,hly,hm1,hm2,hj1,hj2,hy1,hy2⟩
   simp only at gy hly hm1 hm2 hj1 hj2 hy1 hy2 ⊢
   clear hinv q1
   refine Wo ?_
   refine sf_if (fun h4=>?_) fun h4=>?_
   ·have u1:gt ys (k + ((m:Int)).toNat) = gt xs (k + m):=by rw [Int.toNat_natCast]; exact hy2 _ (by omega)
    have u2:gt ys (k + ((m:Int) - 1).toNat) = gt xs (k + m - 1):=by rw [show k + ((m:Int) - 1).toNat = k + m - 1 by omega]; exact hy2 _ (by omega)
    have hs2:=compactF_step (xs:=xs) (j:=k + m - 1) (by omega)
    rw [show k + m - 1 + 2 = k + (m + 1) by omega,show k + m - 1 + 1 = k + m by omega,← hy1] at hs2
    refine Wo ?_
    refine Sd [[],[],[0,1],[0,1,2],[],[],[5],[4,5,6],[4,5,6,7],[0,1,2,3,4,5,6,7,8]] 9 [Nn 0,Nn 1,Nn 2,Nn 3,Nn 4,Nn 5,Nn 6,Nn 7,Nn 8] ?_
    refine Da ?_
    refine Yq (by rfl) (fun X h' [_]=>z_indexT (k:=k) (size:=1) (by rfl) (by rfl) (.slice (some ⟨b,0,none⟩) xs.length cap) ⟨rfl,rfl⟩ (by omega) (by omega) (by omega) (by infer_instance) (by infer_instance)) ?_
    refine Da ?_
    refine Yq (by rfl) (fun X h' [_]=>z_indexT (k:=k) (size:=1) (by rfl) (by rfl) (.slice (some ⟨b,0,none⟩) xs.length cap) ⟨rfl,rfl⟩ (by omega) (by omega) (by omega) (by infer_instance) (by infer_instance)) ?_
    refine Da ?_
    refine Ae ?_
    refine Wo ?_
    rw [u1,u2]
    refine sf_if (fun h5=>?_) fun h5=>?_
    ·refine Wo ?_
     rw [if_neg h5] at hs2
     refine fp (Rq ?_ (z_indexT (k:=k) (size:=1) (by rfl) (by rfl) (.slice (some ⟨b,0,none⟩) xs.length cap) ⟨rfl,rfl⟩ (by omega) (by omega) (by omega) (by infer_instance) (by infer_instance)))
     refine Wo ?_
     refine Xg gy fun A2 zs hz hlz fz gz=>?_
     refine Wo ?_
     rw [u1] at hz
     refine ⟨(j + 1,m + 1,zs),by simp only; omega,⟨rfl,rfl,trivial⟩,rfl,A2,_,inferInstance,gz,by simp only; omega,by simp only; omega,by simp only; omega,by simp only; omega,by simp only; omega,?_,?_⟩
     ·simp only
      rw [hs2,hz,take_succ_gt (by simp; omega),gt_set (by omega),List.take_set_of_le (by omega)]
     ·intro i hi
      simp only at hi ⊢
      rw [hz,gt_set_ne (by omega)]
      exact hy2 i (by omega)
    ·rw [if_pos (by omega)] at hs2
     refine Wo ?_
     refine ⟨(j,m + 1,ys),by simp only; omega,⟨rfl,rfl,trivial⟩,rfl,O,_,inferInstance,gy,hly,by simp only; omega,by simp only; omega,hj1,by simp only; omega,hs2.symm,fun i hi=>hy2 i (by simp only at hi; omega)⟩
   ·refine sf_exit ?_
    have hm:k + m = xs.length:=by omega
    rw [hm,List.take_of_length_le (Nat.le_refl _)] at hy1
    refine Wo ?_
    refine fp (Rq ?_ (q_sliceLo (l:=j) (by infer_instance) (by infer_instance) (by rfl) (by rfl) (by omega)))
    rw [if_neg (by omega:¬ cap = j)]
    refine fp (y_clearT (k:=j) (size:=1) (by rfl) (by rfl) gy ⟨rfl,rfl⟩ (by omega) (by omega) (by omega) (by infer_instance) (by infer_instance) (by infer_instance) (by infer_instance) (by exact FlatOne.one _) (by rfl) (by decide) fun A2 gz=>?_)
    refine Wo ?_
    refine fp (Rq ?_ (q_sliceHi (l:=j) (by infer_instance) (by infer_instance) (by rfl) (by rfl) (by omega)))
    refine Wo ?_
    obtain ⟨b2,cap2,e2,hc2,cut⟩:=gz.cut (by simp; omega)
    have hcut:=cut j (by simp; omega)
    rw [Value.slice.injEq] at e2
    obtain ⟨e3,_,rfl⟩:=e2
    simp only [Option.some.injEq,Addr.mk.injEq] at e3
    obtain rfl:=e3.1
    refine sf_ret (rO A2 ?_)
    rw [← hy1]
    rw [List.take_left' (by rw [List.length_take]; omega)] at hcut
    exact hcut
  ·refine Wo ?_
   rw [if_neg h3,hinv] at hst
   exact ⟨k + 1,by omega,⟨rfl,trivial⟩,rfl,_,_,inferInstance,rfl,by omega,by omega,by rw [hst,take_succ_gt (by omega:k < xs.length)]⟩
 ·refine sf_exit ?_
  refine Wo ?_
  refine sf_ret (rO O0 ?_)
  rw [List.take_of_length_le (by omega)] at hinv
  rw [hinv]; exact g
theorem cloneInts_f (h:PHeap) (v:Value) (xs:List Int) (s:Sl h v intF xs) (hs:xs.length ≤ 1048576):CallF Tryz.prog M 105 [v] [] h fun v' A=>Gr A v' 3 intF xs:=by
 have o1:=s.one
 refine Cs Tryz.func105 Tryz.ntmps105 ?_
 refine Wo ?_
 refine fp (Rq ?_ (q_eqNil (by infer_instance) (by rfl) (by rfl) s))
 refine Wo ?_
 refine sf_cond (by rfl) (fun h1=>?_) fun h1=>?_
 ·obtain ⟨rfl,rfl⟩:=isNilS_nil s h1
  refine Wo ?_
  exact sf_ret (rO [] (Gr.nil _ _))
 ·refine Wo ?_
  refine Xb fun w A gw=>?_
  refine Wo ?_
  refine Xs gw s fun w2 A2 g2=>?_
  refine Wo ?_
  exact sf_ret (rO A2 g2)
theorem trailFoot_f (h:PHeap) (c:Value) (g:Grid) (s:Sl h c cellF g.cells) (e:gridOk g = true) (k:Int) (hk:0 ≤ k∧k < manyOf g):CallF Tryz.prog M 114 [.agg #[.int .i64 g.wide,c],.int .i64 k] [] h fun u A=>Gr A u 3 intF (footOf g k):=by
 have o1:=s.one
 have kg:=gok e
 obtain ⟨sz,vs,es,hc,hg,hsz,hok⟩:=goLight_is kg hk.1 hk.2
 have hlv:=hok.lv
 have hvs:∀ v ∈ vs,0 ≤ v.at'∧v.at' < g.cells.length:=fun v hv=>⟨(hok.vs v hv).a0,(hok.vs v hv).a1⟩
 simp only at hlv
 refine Cs Tryz.func114 Tryz.ntmps114 ?_
 repeat first|refine R1 ?_|refine R2 fun _=>?_
 refine fp (y_call (trailOf_f h c g s e k hk) (by rfl) ?_)
 rintro _ _ ⟨vv,ev,AV,AE,rfl,rfl,gv,ge⟩
 rw [hg] at gv ge
 have ov:=gv.one
 have oe:=ge.one
 simp only at ge gv
 have hfoot:compactF (sortF (vs.map Visit.at')) = footOf g k:=by rw [foot_sorted g vs hvs,footOf,hg]
 clear hc hg
 repeat first|refine R1 ?_|refine R2 fun _=>?_
 rename_i b2
 refine sf_lp (ι:=Nat × Value) [11,12] (fun x=>[(5,x.2),(13,.int .i64 (x.1:Int))]) (fun x O=>x.1 ≤ vs.length∧∃ A xs,O = A++(AV++(AE++[(b2,.cells #[.int .i64 g.wide,c] 25)]))∧xs = (vs.take x.1).map Visit.at'∧Gr A x.2 3 intF xs) (fun x=>vs.length - x.1) (0,.slice none 0 0) ([]++(AV++(AE++[(b2,.cells #[.int .i64 g.wide,c] 25)]))) ⟨by simp only; omega,[],[],rfl,rfl,Gr.nil _ _⟩ ?_
 rintro ⟨j,w⟩ O ⟨hj,A,xs,rfl,hxs,gx⟩
 simp only at hj hxs gx ⊢
 have lx:xs.length = j:=by rw [hxs]; simp; omega
 have ow:=gx.one
 repeat first|refine R1 ?_|refine R2 fun _=>?_
 refine sf_if (fun e1=>?_) fun e1=>?_
 ·have hj1:j < vs.length:=by omega
  repeat first|refine R1 ?_|refine R2 fun _=>?_
  rename_i b7
  refine Xb fun u Au gu=>?_
  repeat first|refine R1 ?_|refine R2 fun _=>?_
  refine Xa gx gu fun w2 A2 g2=>?_
  repeat first|refine R1 ?_|refine R2 fun _=>?_
  exact ⟨(j + 1,w2),by simp only; omega,⟨rfl,rfl,trivial⟩,rfl,A2++(AV++(AE++[(b2,.cells #[.int .i64 g.wide,c] 25)])),_,inferInstance,by simp only; omega,A2,_,rfl,by simp only; rw [take_succ_gt hj1,List.map_append,← hxs]; rfl,g2⟩
 ·refine sf_exit ?_
  obtain rfl:j = vs.length:=by omega
  rw [List.take_of_length_le (Nat.le_refl _)] at hxs
  repeat first|refine R1 ?_|refine R2 fun _=>?_
  refine fp (y_call (sort_f (M:=M) _ w A xs gx (by omega)) (by rfl) ?_)
  rintro _ A2 ⟨rfl,g2⟩
  repeat first|refine R1 ?_|refine R2 fun _=>?_
  refine fp (y_call (compact_f (M:=M) _ w A2 _ g2 (by rw [sortF_len]; omega)) (by rfl) ?_)
  intro w3 A3 g3
  repeat first|refine R1 ?_|refine R2 fun _=>?_
  refine sf_ret (rO A3 ?_)
  rw [← hfoot,← hxs]; exact g3
instance:EqFl Tryz.prog 46 cellF:=eqFl_cell inferInstance (inferInstance:Ty Tryz.prog 3 _ 1 _ _) (by kernel_rfl)
theorem cellsEqual_v (h:PHeap) (a b:Value) (xs ys:List Cell) (sx:Sl h a cellF xs) (sy:Sl h b cellF ys):CallV Tryz.prog M 154 [a,b] h (.bool (decide (xs = ys))):=by
 have o1:=sx.one
 have o2:=sy.one
 have hx:=sx.small
 have hy:=sy.small
 refine Cs Tryz.func154 Tryz.ntmps154 ?_
 refine Wo ?_
 refine sf_if (fun e0=>?_) fun e0=>?_
 ·refine Wo ?_
  exact sf_ret (rV (bF fun e=>e0 (by rw [e])))
 have hl:xs.length = ys.length:=by omega
 refine Wo ?_
 refine sf_rd [0,1,12] 13 xs.length 0 (fun k=>xs.take k = ys.take k) (by omega) rfl (fun k hk hi=>?_)
 refine Wo ?_
 refine sf_if (fun h4=>?_) fun h4=>?_
 ·have hk4:k < xs.length:=by omega
  have hk5:k < ys.length:=by omega
  refine Wo ?_
  refine Sd [[],[],[0,1],[0,1,2],[],[],[4,5],[4,5,6],[0,1,2,3,4,5,6,7]] 8 [Nn 0,Nn 1,Nn 2,Nn 3,Nn 4,Nn 5,Nn 6,Nn 7] ?_
  refine Da ?_
  refine Ae ?_
  refine fp (Rq ?_ (q_neqS (E:=cellF) (a:=gt xs k) (b:=gt ys k) inferInstance (by rfl) (by rfl)))
  refine Wo ?_
  refine sf_ifn (fun e1=>?_) fun e1=>?_
  ·refine Wo ?_
   exact sf_ret (rV (bF (eq_at e1)))
  ·refine Wo ?_
   exact ⟨⟨hk4,eq_step hk4 hk5 hi e1⟩,rfl,rfl,_,inferInstance⟩
 ·refine sf_exit ?_
  refine Wo ?_
  exact sf_ret (rV (bT (eq_end hl (by omega) hi)))
theorem equalFunc_v (h:PHeap) (a b:Value) (xs ys:List (List Int)) (sx:SlR (intSR τ) h a xs) (sy:SlR (intSR τ) h b ys):CallV Tryz.prog M 151 [a,b,.func (.func 88) #[] #[]] h (.bool (decide (xs = ys))):=by
 have o1:=sx.one
 have o2:=sy.one
 obtain ⟨rx,sx,bx⟩:=sx
 obtain ⟨ry,sy,by'⟩:=sy
 have lx:=bx.len
 have ly:=by'.len
 have hx:=sx.small
 have hy:=sy.small
 refine Cs Tryz.func151 Tryz.ntmps151 ?_
 refine Wo ?_
 refine sf_if (fun e0=>?_) fun e0=>?_
 ·refine Wo ?_
  exact sf_ret (rV (bF fun e=>e0 (by rw [lx,ly,e])))
 have hl:xs.length = ys.length:=by omega
 refine Wo ?_
 refine sf_rd [0,1,2,15,16] 17 xs.length 0 (fun k=>xs.take k = ys.take k) (by omega) rfl (fun k hk hi=>?_)
 refine Wo ?_
 refine sf_if (fun h4=>?_) fun h4=>?_
 ·have hk4:k < xs.length:=by omega
  have hk5:k < ys.length:=by omega
  have bx4:=bx.at hk4
  have by4:=by'.at hk5
  have hk6:k < rx.length:=by omega
  have hk7:k < ry.length:=by omega
  obtain ⟨vx,ex,sx4⟩:=bx4
  obtain ⟨vy,ey,sy4⟩:=by4
  haveI:FlatV (rawF (intSR τ).sz) (gt rx k) [vx]:=⟨ex⟩
  haveI:FlatV (rawF (intSR τ).sz) (gt ry k) [vy]:=⟨ey⟩
  have o3:=sx4.one
  have o4:=sy4.one
  refine Wo ?_
  refine fp (y_callCV (first:=#[]) (captured:=#[]) (vs:=[vx,vy]) (by simpa using intsEqual_v (M:=M) _ _ _ _ _ sx4 sy4) (by rfl) (by rfl) ?_)
  refine Wo ?_
  refine sf_ifn (fun e1=>?_) fun e1=>?_
  ·refine Wo ?_
   exact sf_ret (rV (bF (eq_at e1)))
  ·refine Wo ?_
   exact ⟨⟨hk4,eq_step hk4 hk5 hi (by exact e1)⟩,rfl,rfl,_,inferInstance⟩
 ·refine sf_exit ?_
  refine Wo ?_
  exact sf_ret (rV (bT (eq_end hl (by omega) hi)))
theorem gridSame_v (h:PHeap) (ca cb:List Value) (x y:Grid) (bx:(gridR τ).B h ca x) (by':(gridR τ).B h cb y):CallV Tryz.prog M 121 [.agg ca.toArray,.agg cb.toArray] h (.bool (decide (x = y))):=by
 obtain ⟨c1,rfl,s1⟩:=gridB bx
 obtain ⟨c2,rfl,s2⟩:=gridB by'
 have o1:=s1.one
 have o2:=s2.one
 refine Cs Tryz.func121 Tryz.ntmps121 ?_
 repeat first|refine R1 ?_|refine R2 fun _=>?_
 refine f_split (fun e1=>?_) fun e1=>?_
 ·repeat first|refine R1 ?_|refine R2 fun _=>?_
  refine Xv (cellsEqual_v _ _ _ _ _ s1 s2) ?_
  repeat first|refine R1 ?_|refine R2 fun _=>?_
  refine sf_ret (rV ?_)
  congr 1
  cases x; cases y; simp_all
 ·repeat first|refine R1 ?_|refine R2 fun _=>?_
  refine sf_ret (rV ?_)
  congr 1
  cases x; cases y; simp_all
theorem sceneSame_v (h:PHeap) (ca cb:List Value) (x y:Scene) (bx:(sceneR τ).B h ca x) (by':(sceneR τ).B h cb y):CallV Tryz.prog M 116 [.agg ca.toArray,.agg cb.toArray] h (.bool (decide (x = y))):=by
 obtain ⟨c1,l1,f1,rfl,s1,t1,u1⟩:=sceneB bx
 obtain ⟨c2,l2,f2,rfl,s2,t2,u2⟩:=sceneB by'
 have o1:=s1.one
 have o2:=s2.one
 have o3:=t1.one
 have o4:=t2.one
 have o5:=u1.one
 have o6:=u2.one
 refine Cs Tryz.func116 Tryz.ntmps116 ?_
 repeat first|refine R1 ?_|refine R2 fun _=>?_
 refine Xv (gridSame_v _ _ _ x.grid y.grid (gridB_mk s1) (gridB_mk s2)) ?_
 repeat first|refine R1 ?_|refine R2 fun _=>?_
 refine f_split (fun e1=>?_) fun e1=>?_
 ·repeat first|refine R1 ?_|refine R2 fun _=>?_
  refine Xv (intsEqual_v _ _ _ _ _ t1 t2) ?_
  repeat first|refine R1 ?_|refine R2 fun _=>?_
  refine f_split (fun e2=>?_) fun e2=>?_
  ·repeat first|refine R1 ?_|refine R2 fun _=>?_
   refine Xv (equalFunc_v _ _ _ _ _ u1 u2) ?_
   repeat first|refine R1 ?_|refine R2 fun _=>?_
   refine sf_ret (rV ?_)
   congr 1
   cases x; cases y; simp_all
  ·repeat first|refine R1 ?_|refine R2 fun _=>?_
   refine sf_ret (rV ?_)
   congr 1
   cases x; cases y; simp_all
 ·repeat first|refine R1 ?_|refine R2 fun _=>?_
  refine sf_ret (rV ?_)
  congr 1
  cases x; cases y; simp_all
instance:ElemF Tryz.prog 33 (rawF (intSR τ).sz):=⟨trivial⟩
theorem sceneOf_f [al:Alone Tryz.prog M] (h:PHeap) (ca:List Value) (g:Grid) (b:(gridR τ).B h ca g) (e:gridOk g = true):CallF Tryz.prog M 74 [.agg ca.toArray] [] h fun u A=>∃ cs,u = .agg cs.toArray∧(sceneR τ).O A cs (sceneOf g):=by
 obtain ⟨c,rfl,s⟩:=gridB b
 have o1:=s.one
 have kg:=gok e
 have hm:=kg.many
 have hsm:=kg.small
 obtain ⟨N,hN⟩:∃ N:Nat,manyOf g = N:=⟨(manyOf g).toNat,by omega⟩
 have hf:feetOf g = (List.range N).map fun k=>footOf g (k:Nat):=by rw [feetOf,hN]; rfl
 refine Cs Tryz.func74 Tryz.ntmps74 ?_
 repeat first|refine R1 ?_|refine R2 fun _=>?_
 rename_i b1 b2
 apply viaT (G:=∀ (c2 p2:Value) (AC AP:Own) (b3:Nat),Gr AC c2 46 cellF g.cells→Gr AP p2 3 intF (picOf g)→_)
 ·intro tail
  refine sf_draw (by kernel_rfl) (regX_split 1 5 (by rfl) (regX_split 3 5 (by rfl) ?_ ?_) ?_)
  case' refine_1=>
   refine Sr [[],[0],[],[0,1,2],[0,1,2,3],[0,1,2,3],[0,1,2,3,4,5]] 6 [Nn 0,Nn 2,Yy 1,Yy 3,Nn 4,Yy 5] ?_
   refine Da ?_
   refine Yc (gridCopy_f _ _ g (gridB_mk s) (by omega)) ?_
   rintro _ AC ⟨_,rfl,q⟩
   obtain ⟨c2,rfl,g1,l1⟩:=gridO q
   have o5:=g1.one
   refine Da ?_
   refine Yc (picOf_f (M:=M) _ _ g (gridB_mk s) e) ?_
   intro p2 AP gp
   have o6:=gp.one
   refine Da ?_
   refine Yl fun b3=>?_
   refine Da ?_
   refine Ae ?_
   repeat first|refine R1 ?_|refine R2 fun _=>?_
   refine fops_keep [1,2,3,10] ?_
   refine fops_own ((b3,.cells #[.int .i64 g.wide,c2,p2,.slice none 0 0] 68) :: (AC++(AP++[(b2,.cells #[.int .i64 0,.slice none 0 0,.slice none 0 0,.slice none 0 0] 68),(b1,.cells #[.int .i64 g.wide,c] 25)]))) ?_
   exact tail.out c2 p2 AC AP b3 g1 gp
  case' refine_2=>
   refine Sr [[],[0],[],[0,1,2,5],[0,1,2,3,5],[0,1],[0,1,2,3,4,5]] 6 [Nn 0,Nn 2,Yy 1,Yy 5,Yy 3,Nn 4] ?_
   refine Da ?_
   refine Yc (gridCopy_f _ _ g (gridB_mk s) (by omega)) ?_
   rintro _ AC ⟨_,rfl,q⟩
   obtain ⟨c2,rfl,g1,l1⟩:=gridO q
   have o5:=g1.one
   refine Da ?_
   refine Yl fun b3=>?_
   refine Da ?_
   refine Yc (picOf_f (M:=M) _ _ g (gridB_mk s) e) ?_
   intro p2 AP gp
   have o6:=gp.one
   refine Da ?_
   refine Ae ?_
   repeat first|refine R1 ?_|refine R2 fun _=>?_
   refine fops_keep [1,2,3,10] ?_
   refine fops_own ((b3,.cells #[.int .i64 g.wide,c2,p2,.slice none 0 0] 68) :: (AC++(AP++[(b2,.cells #[.int .i64 0,.slice none 0 0,.slice none 0 0,.slice none 0 0] 68),(b1,.cells #[.int .i64 g.wide,c] 25)]))) ?_
   exact tail.out c2 p2 AC AP b3 g1 gp
  case' refine_3=>
   refine Sr [[],[0,5],[],[0,1,2,5],[0,1,2,3,5],[],[0,1,2,3,4,5]] 6 [Nn 0,Nn 2,Yy 5,Yy 1,Yy 3,Nn 4] ?_
   refine Da ?_
   refine Yl fun b3=>?_
   refine Da ?_
   refine Yc (gridCopy_f _ _ g (gridB_mk s) (by omega)) ?_
   rintro _ AC ⟨_,rfl,q⟩
   obtain ⟨c2,rfl,g1,l1⟩:=gridO q
   have o5:=g1.one
   refine Da ?_
   refine Yc (picOf_f (M:=M) _ _ g (gridB_mk s) e) ?_
   intro p2 AP gp
   have o6:=gp.one
   refine Da ?_
   refine Ae ?_
   repeat first|refine R1 ?_|refine R2 fun _=>?_
   refine fops_keep [1,2,3,10] ?_
   refine fops_own ((b3,.cells #[.int .i64 g.wide,c2,p2,.slice none 0 0] 68) :: (AC++(AP++[(b2,.cells #[.int .i64 0,.slice none 0 0,.slice none 0 0,.slice none 0 0] 68),(b1,.cells #[.int .i64 g.wide,c] 25)]))) ?_
   exact tail.out c2 p2 AC AP b3 g1 gp
 intro c2 p2 AC AP b3 g1 gp
 have o5:=g1.one
 have o6:=gp.one
 refine Xv (sightMany_v _ _ g (gridB_mk s)) ?_
 rw [sightMany_ok e,hN]
 repeat first|refine R1 ?_|refine R2 fun _=>?_
 refine sf_lp (ι:=Nat) [1,2,3,11] (fun k=>[(12,.int .i64 (k:Int))]) (fun k O=>k ≤ N∧∃ fv A0 A1,O = (b3,.cells #[.int .i64 g.wide,c2,p2,fv] 68) :: (A0++A1++(AC++(AP++[(b2,.cells #[.int .i64 0,.slice none 0 0,.slice none 0 0,.slice none 0 0] 68),(b1,.cells #[.int .i64 g.wide,c] 25)])))∧∃ rs:List (Raw (intSR τ).sz),rs.length = k∧Gr A0 fv 33 (rawF (intSR τ).sz) rs∧OAll (intSR τ) A1 rs ((List.range k).map fun j=>footOf g (j:Nat))) (fun k=>N - k) 0 ((b3,.cells #[.int .i64 g.wide,c2,p2,.slice none 0 0] 68) :: ([]++[]++(AC++(AP++[(b2,.cells #[.int .i64 0,.slice none 0 0,.slice none 0 0,.slice none 0 0] 68),(b1,.cells #[.int .i64 g.wide,c] 25)])))) ⟨by omega,_,[],[],rfl,[],rfl,Gr.nil _ _,.nil⟩ ?_
 rintro k O ⟨hk,fv,A0,A1,rfl,rs,hr,gr,oa⟩
 have o7:=gr.one
 repeat first|refine R1 ?_|refine R2 fun _=>?_
 refine sf_if (fun h4=>?_) fun h4=>?_
 ·have hk4:k < N:=by omega
  repeat first|refine R1 ?_|refine R2 fun _=>?_
  refine Sd [[],[0],[],[],[2,3],[2,3,4],[0,1,2,3,4,5],[0,1,2,3,4,5,6],[0,1,2,3,4,5,6,7]] 6 [Nn 0,Nn 1,Nn 2,Nn 3,Yy 4,Yy 5] ?_
  refine Da ?_
  refine Yc (trailFoot_f (M:=M) _ c g s e (k:Int) (by omega)) ?_
  intro w AW gw
  have o8:=gw.one
  refine Da ?_
  refine Yb fun u Au gu=>?_
  refine Da ?_
  refine Ae ?_
  refine fp (y_append (by rfl) (by rfl) gr gu (by intro y hy; simp at hy; subst hy; exact (inferInstance:AllOne [w]).is) (by rfl) (by rfl) (by simp; omega) (by simp; omega) fun fv2 A5 g5=>?_)
  have o9:=g5.one
  repeat first|refine R1 ?_|refine R2 fun _=>?_
  refine ⟨k + 1,by omega,⟨rfl,trivial⟩,rfl,(b3,.cells #[.int .i64 g.wide,c2,p2,fv2] 68) :: (A5++(A1++AW)++(AC++(AP++[(b2,.cells #[.int .i64 0,.slice none 0 0,.slice none 0 0,.slice none 0 0] 68),(b1,.cells #[.int .i64 g.wide,c] 25)]))),_,inferInstance,by omega,fv2,A5,A1++AW,rfl,_,by simp [hr],g5,?_⟩
  rw [List.range_succ,List.map_append]
  exact oa.snoc ⟨w,rfl,gw,by show (footOf g (k:Int)).length ≤ _; unfold footOf; have:=footIs_len g (goLight g (k:Int)).1; omega⟩
 ·refine sf_exit ?_
  obtain rfl:k = N:=by omega
  repeat first|refine R1 ?_|refine R2 fun _=>?_
  refine sf_ret (rO (AC++(AP++(A0++A1))) ⟨_,rfl,?_⟩)
  exact sceneO_mk (s:=sceneOf g) g1 (by simp only [sceneOf]; omega) gp (by simp only [sceneOf]; rw [picOf_len,hN]; simp; omega) ⟨A0,A1,rfl,rs,gr,by simp only [sceneOf]; rw [hf]; exact oa,by simp only [sceneOf]; rw [hf]; simp; omega⟩
theorem sceneOk_v [al:Alone Tryz.prog M] (h:PHeap) (ca:List Value) (s:Scene) (b:(sceneR τ).B h ca s):CallV Tryz.prog M 115 [.agg ca.toArray] h (.bool (sceneOk s)):=by
 obtain ⟨c,l,f,rfl,s1,s2,s3⟩:=sceneB b
 have o1:=s1.one
 have o2:=s2.one
 have o3:=s3.one
 have b0:=b
 refine Cs Tryz.func115 Tryz.ntmps115 ?_
 repeat first|refine R1 ?_|refine R2 fun _=>?_
 by_cases e:gridOk s.grid = true
 ·have hg1:=gridOk_v (M:=M) h _ s.grid (gridB_mk (τ:=τ) s1)
  rw [e] at hg1
  refine Sd [[],[0],[0,1],[0,1,2],[0,1,2,3],[0,1,2,3],[0,1,2,3,5],[0,1,2,3,5,6],[0,1,2,3,4,5,6,7],[0,1,2,3,4,5,6,7,8],[0,1,2,3,4,5,6,7,8,9]] 8 [Nn 0,Nn 1,Yy 2,Nn 3,Nn 4,Nn 5,Nn 6,Yy 7] ?_
  refine Da ?_
  refine Yv hg1 ?_
  refine Da ?_
  refine a_call (sceneOf_f (M:=M) _ _ s.grid (gridB_mk s1) e) (by rfl) (by rfl) (.inr ⟨_,_,_,_,rfl,by rfl,by rfl,rfl⟩) ?_
  rintro _ A1 ⟨cs,rfl,q⟩
  have q0:=q
  obtain ⟨c2,l2,f2,X1,X2,X3,rfl,rfl,⟨g1,_⟩,⟨g2,_⟩,g3⟩:=sceneO q
  have o4:=g1.one
  have o5:=g2.one
  have o6:=g3.one
  refine Da ?_
  refine Ae ?_
  refine fp (y_lendV (X1++(X2++X3)) (fun h' l i=>sceneSame_v (M:=M) h' _ _ s (sceneOf s.grid) ((sceneR τ).up l b0) ((sceneR τ).lent q0 i)) (by rfl) ?_)
  repeat first|refine R1 ?_|refine R2 fun _=>?_
  refine sf_ret (rV ?_)
  rw [sceneOk,e]; rfl
 ·have e':gridOk s.grid = false:=by simpa using e
  have hg1:=gridOk_v (M:=M) h _ s.grid (gridB_mk (τ:=τ) s1)
  rw [e'] at hg1
  refine Sd [[],[0],[0,1],[0,1,2],[0,1,2,3],[0,1,2,3],[0,1,2,3,5],[0,1,2,3,5,6],[0,1,2,3,4,5,6,7],[0,1,2,3,4,5,6,7,8],[0,1,2,3,4,5,6,7,8,9]] 8 [Nn 0,Nn 1,Yy 2,Nn 3,Nn 4,Nn 5,Nn 6,Nn 7] ?_
  refine Da ?_
  refine Yv hg1 ?_
  refine Da ?_
  refine Ae ?_
  repeat first|refine R1 ?_|refine R2 fun _=>?_
  refine sf_ret (rV ?_)
  rw [sceneOk,e']; rfl
theorem sceneNew_f [al:Alone Tryz.prog M] (h:PHeap) (ca:List Value) (g:Grid) (b:(gridR τ).B h ca g):CallF Tryz.prog M 36 [.agg ca.toArray] [] h fun u A=>∃ cs,u = .tuple #[.agg cs.toArray,.bool (sceneNew g).2]∧(sceneR τ).O A cs (sceneNew g).1:=by
 obtain ⟨c,rfl,s⟩:=gridB b
 have o1:=s.one
 have b0:=b
 have hN:(sceneR τ).O [] [.int .i64 0,.slice none 0 0,.slice none 0 0,.slice none 0 0] noScene:=sceneO_mk (s:=noScene) (Gr.nil _ _) (by decide) (Gr.nil _ _) (by decide) (GrR.nil)
 refine Cs Tryz.func36 Tryz.ntmps36 ?_
 repeat first|refine R1 ?_|refine R2 fun _=>?_
 refine Xv (gridOk_v _ _ g b0) ?_
 repeat first|refine R1 ?_|refine R2 fun _=>?_
 refine sf_cond (by rfl) (fun e=>?_) fun e=>?_
 ·simp only [Bool.not_eq_true'] at e
  repeat first|refine R1 ?_|refine R2 fun _=>?_
  rw [sceneNew,if_neg (by rw [e]; decide)]
  exact sf_ret (rO [] ⟨_,rfl,hN⟩)
 ·simp only [Bool.not_eq_false'] at e
  repeat first|refine R1 ?_|refine R2 fun _=>?_
  refine fp (y_call (sceneOf_f (M:=M) _ _ g b0 e) (by rfl) ?_)
  rintro _ A1 ⟨cs,rfl,q⟩
  have q0:=q
  obtain ⟨c2,l2,f2,X1,X2,X3,rfl,rfl,⟨g1,_⟩,⟨g2,_⟩,g3⟩:=sceneO q
  have o4:=g1.one
  have o5:=g2.one
  have o6:=g3.one
  repeat first|refine R1 ?_|refine R2 fun _=>?_
  rw [sceneNew,if_pos e]
  exact sf_ret (rO (X1++(X2++X3)) ⟨_,rfl,q0⟩)
theorem noSceneB (h:PHeap):(sceneR τ).B h [.int .i64 0,.slice none 0 0,.slice none 0 0,.slice none 0 0] noScene:=sceneB_mk (s:=noScene) (Sl.nil _ _) (Sl.nil _ _) SlR.nil
theorem paintOk_v [al:Alone Tryz.prog M] (h:PHeap) (ca:List Value) (p:Painter) (b:(painterR τ).B h ca p):CallV Tryz.prog M 75 [.agg ca.toArray] h (.bool (paintOk p)):=by
 obtain ⟨c,l,f,rfl,s1,s2,s3⟩:=painterB b
 have o1:=s1.one
 have o2:=s2.one
 have o3:=s3.one
 have bs:(sceneR τ).B h [.int .i64 p.scene.grid.wide,c,l,f] p.scene:=sceneB_mk s1 s2 s3
 refine Cs Tryz.func75 Tryz.ntmps75 ?_
 repeat first|refine R1 ?_|refine R2 fun _=>?_
 refine sf_cond (by rfl) (fun e1=>?_) fun e1=>?_
 ·have ep:paintOk p = (p.up && (decide (0 ≤ p.ver) && decide (p.ver ≤ 60)) && sceneOk p.scene):=by rw [paintOk,if_pos e1]
  rw [ep]
  repeat first|refine R1 ?_|refine R2 fun _=>?_
  refine f_splitB (fun e2=>?_) fun e2=>?_
  ·repeat first|refine R1 ?_|refine R2 fun _=>?_
   refine f_split (fun e3=>?_) fun e3=>?_
   ·repeat first|refine R1 ?_|refine R2 fun _=>?_
    refine f_split (fun e4=>?_) fun e4=>?_
    ·repeat first|refine R1 ?_|refine R2 fun _=>?_
     refine Xv (sceneOk_v (M:=M) _ _ p.scene bs) ?_
     repeat first|refine R1 ?_|refine R2 fun _=>?_
     refine sf_ret (rV ?_)
     simp [e2]; omega
    ·repeat first|refine R1 ?_|refine R2 fun _=>?_
     refine sf_ret (rV ?_)
     simp [e4]
   ·repeat first|refine R1 ?_|refine R2 fun _=>?_
    refine sf_ret (rV ?_)
    simp; omega
  ·repeat first|refine R1 ?_|refine R2 fun _=>?_
   refine sf_ret (rV ?_)
   simp [e2]
 ·have ep:paintOk p = (decide (p.ver = 0) && decide (p.scene = noScene)):=by rw [paintOk,if_neg (by rw [e1]; decide)]
  rw [ep]
  repeat first|refine R1 ?_|refine R2 fun _=>?_
  refine f_split (fun e2=>?_) fun e2=>?_
  ·repeat first|refine R1 ?_|refine R2 fun _=>?_
   refine Xv (sceneSame_v (M:=M) _ _ _ p.scene noScene bs (noSceneB _)) ?_
   repeat first|refine R1 ?_|refine R2 fun _=>?_
   refine sf_ret (rV ?_)
   simp [e2]
  ·repeat first|refine R1 ?_|refine R2 fun _=>?_
   refine sf_ret (rV ?_)
   simp [e2]
theorem sceneCopy_f (h:PHeap) (ca:List Value) (s:Scene) (b:(sceneR τ).B h ca s) (hs:szSceneN s ≤ 1048576):CallF Tryz.prog M 152 [.agg ca.toArray] [] h fun u A=>∃ cs,u = .agg cs.toArray∧(sceneR τ).O A cs s:=by
 simp only [szSceneN,szIntSSN] at hs
 obtain ⟨c,l,f,rfl,s1,s2,s3⟩:=sceneB b
 have o1:=s1.one
 have o2:=s2.one
 have o3:=s3.one
 obtain ⟨rx,s3,bx⟩:=s3
 have lx:=bx.len
 refine Cs Tryz.func152 Tryz.ntmps152 ?_
 repeat first|refine R1 ?_|refine R2 fun _=>?_
 rename_i b1 b2
 apply viaT (G:=∀ (c2 l2:Value) (AC AL:Own) (b3:Nat),Gr AC c2 46 cellF s.grid.cells→Gr AL l2 3 intF s.lights→_)
 ·intro tail
  refine sf_draw (by kernel_rfl) (regX_split 2 7 (by rfl) (regX_split 5 7 (by rfl) ?_ ?_) ?_)
  case' refine_1=>
   refine Sr [[],[0],[0,1],[],[3],[0,1,2,3,4],[0,1,2,3,4,5],[0,1,2,3,4,5],[0,1,2,3,4,5,6,7]] 8 [Nn 0,Nn 1,Nn 3,Nn 4,Yy 2,Yy 5,Nn 6,Yy 7] ?_
   refine Da ?_
   refine Yc (gridCopy_f (M:=M) _ _ s.grid (gridB_mk s1) (by omega)) ?_
   rintro _ AC ⟨_,rfl,q⟩
   obtain ⟨c2,rfl,g1,l1⟩:=gridO q
   have o5:=g1.one
   refine Da ?_
   refine Yc (cloneInts_f (M:=M) _ _ _ s2 (by omega)) fun l2 AL g2=>?_
   have o7:=g2.one
   refine Da ?_
   refine Yl fun b3=>?_
   refine Da ?_
   refine Ae ?_
   repeat first|refine R1 ?_|refine R2 fun _=>?_
   refine sf_keep [2,3,14,15,16] ?_
   refine sf_own ((b3,.cells #[.int .i64 s.grid.wide,c2,l2,.slice none 0 0] 68) :: (AC++(AL++[(b2,.cells #[.int .i64 0,.slice none 0 0,.slice none 0 0,.slice none 0 0] 68),(b1,.cells #[.int .i64 s.grid.wide,c,l,f] 68)]))) ?_
   exact tail.out c2 l2 AC AL b3 g1 g2
  case' refine_2=>
   refine Sr [[],[0],[0,1],[],[3],[0,1,2,3,4,7],[0,1,2,3,4,5,7],[0,1,2],[0,1,2,3,4,5,6,7]] 8 [Nn 0,Nn 1,Nn 3,Nn 4,Yy 2,Yy 7,Yy 5,Nn 6] ?_
   refine Da ?_
   refine Yc (gridCopy_f (M:=M) _ _ s.grid (gridB_mk s1) (by omega)) ?_
   rintro _ AC ⟨_,rfl,q⟩
   obtain ⟨c2,rfl,g1,l1⟩:=gridO q
   have o5:=g1.one
   refine Da ?_
   refine Yl fun b3=>?_
   refine Da ?_
   refine Yc (cloneInts_f (M:=M) _ _ _ s2 (by omega)) fun l2 AL g2=>?_
   have o7:=g2.one
   refine Da ?_
   refine Ae ?_
   repeat first|refine R1 ?_|refine R2 fun _=>?_
   refine sf_keep [2,3,14,15,16] ?_
   refine sf_own ((b3,.cells #[.int .i64 s.grid.wide,c2,l2,.slice none 0 0] 68) :: (AC++(AL++[(b2,.cells #[.int .i64 0,.slice none 0 0,.slice none 0 0,.slice none 0 0] 68),(b1,.cells #[.int .i64 s.grid.wide,c,l,f] 68)]))) ?_
   exact tail.out c2 l2 AC AL b3 g1 g2
  case' refine_3=>
   refine Sr [[],[0],[0,1,7],[],[3],[0,1,2,3,4,7],[0,1,2,3,4,5,7],[],[0,1,2,3,4,5,6,7]] 8 [Nn 0,Nn 1,Nn 3,Nn 4,Yy 7,Yy 2,Yy 5,Nn 6] ?_
   refine Da ?_
   refine Yl fun b3=>?_
   refine Da ?_
   refine Yc (gridCopy_f (M:=M) _ _ s.grid (gridB_mk s1) (by omega)) ?_
   rintro _ AC ⟨_,rfl,q⟩
   obtain ⟨c2,rfl,g1,l1⟩:=gridO q
   have o5:=g1.one
   refine Da ?_
   refine Yc (cloneInts_f (M:=M) _ _ _ s2 (by omega)) fun l2 AL g2=>?_
   have o7:=g2.one
   refine Da ?_
   refine Ae ?_
   repeat first|refine R1 ?_|refine R2 fun _=>?_
   refine sf_keep [2,3,14,15,16] ?_
   refine sf_own ((b3,.cells #[.int .i64 s.grid.wide,c2,l2,.slice none 0 0] 68) :: (AC++(AL++[(b2,.cells #[.int .i64 0,.slice none 0 0,.slice none 0 0,.slice none 0 0] 68),(b1,.cells #[.int .i64 s.grid.wide,c,l,f] 68)]))) ?_
   exact tail.out c2 l2 AC AL b3 g1 g2
 intro c2 l2 AC AL b3 g1 g2
 have o5:=g1.one
 have o7:=g2.one
 repeat first|refine R1 ?_|refine R2 fun _=>?_
 refine sf_lp (ι:=Nat) [2,3,14,15] (fun k=>[(16,.int .i64 (k:Int))]) (fun k O=>k ≤ s.feet.length∧∃ fv A0 A1,O = (b3,.cells #[.int .i64 s.grid.wide,c2,l2,fv] 68) :: (A0++A1++(AC++(AL++[(b2,.cells #[.int .i64 0,.slice none 0 0,.slice none 0 0,.slice none 0 0] 68),(b1,.cells #[.int .i64 s.grid.wide,c,l,f] 68)])))∧∃ rs:List (Raw (intSR τ).sz),rs.length = k∧Gr A0 fv 33 (rawF (intSR τ).sz) rs∧OAll (intSR τ) A1 rs (s.feet.take k)) (fun k=>s.feet.length - k) 0 ((b3,.cells #[.int .i64 s.grid.wide,c2,l2,.slice none 0 0] 68) :: ([]++[]++(AC++(AL++[(b2,.cells #[.int .i64 0,.slice none 0 0,.slice none 0 0,.slice none 0 0] 68),(b1,.cells #[.int .i64 s.grid.wide,c,l,f] 68)])))) ⟨by omega,_,[],[],rfl,[],rfl,Gr.nil _ _,.nil⟩ ?_
 rintro k O ⟨hk,fv,A0,A1,rfl,rs,hr,gr,oa⟩
 have o8:=gr.one
 repeat first|refine R1 ?_|refine R2 fun _=>?_
 refine sf_if (fun h4=>?_) fun h4=>?_
 ·have hk4:k < s.feet.length:=by omega
  have hk5:k < rx.length:=by omega
  obtain ⟨vx,ex,sx4⟩:=bx.at hk4
  haveI:FlatV (rawF (intSR τ).sz) (gt rx k) [vx]:=⟨ex⟩
  have o9:=sx4.one
  have hsz:=sizeL_at (f:=List.length) hk4
  repeat first|refine R1 ?_|refine R2 fun _=>?_
  refine Sd [[],[0],[],[2],[2,3],[0,1,2,3,4],[0,1,2,3,4,5],[0,1,2,3,4,5,6]] 5 [Nn 0,Nn 1,Nn 2,Yy 3,Yy 4] ?_
  refine Da ?_
  refine Yc (cloneInts_f (M:=M) _ _ _ sx4 (by omega)) fun w AW gw=>?_
  have o10:=gw.one
  refine Da ?_
  refine Yb fun u Au gu=>?_
  refine Da ?_
  refine Ae ?_
  refine fp (y_append (by rfl) (by rfl) gr gu (by intro y hy; simp at hy; subst hy; exact (inferInstance:AllOne [w]).is) (by rfl) (by rfl) (by simp; omega) (by simp; omega) fun fv2 A5 g5=>?_)
  have o11:=g5.one
  repeat first|refine R1 ?_|refine R2 fun _=>?_
  refine ⟨k + 1,by omega,⟨rfl,trivial⟩,rfl,(b3,.cells #[.int .i64 s.grid.wide,c2,l2,fv2] 68) :: (A5++(A1++AW)++(AC++(AL++[(b2,.cells #[.int .i64 0,.slice none 0 0,.slice none 0 0,.slice none 0 0] 68),(b1,.cells #[.int .i64 s.grid.wide,c,l,f] 68)]))),_,inferInstance,by omega,fv2,A5,A1++AW,rfl,_,by simp [hr],g5,?_⟩
  rw [take_succ_gt hk4]
  exact oa.snoc ⟨w,rfl,gw,by omega⟩
 ·refine sf_exit ?_
  obtain rfl:k = s.feet.length:=by omega
  rw [List.take_of_length_le (Nat.le_refl _)] at oa
  repeat first|refine R1 ?_|refine R2 fun _=>?_
  refine sf_ret (rO (AC++(AL++(A0++A1))) ⟨_,rfl,?_⟩)
  exact sceneO_mk (s:=s) g1 (by omega) g2 (by omega) ⟨A0,A1,rfl,rs,gr,oa,by omega⟩
theorem painterCopy_f (h:PHeap) (ca:List Value) (p:Painter) (b:(painterR τ).B h ca p) (hs:szPainterN p ≤ 1048576):CallF Tryz.prog M 117 [.agg ca.toArray] [] h fun u A=>∃ cs,u = .agg cs.toArray∧(painterR τ).O A cs p:=by
 obtain ⟨c,l,f,rfl,s1,s2,s3⟩:=painterB b
 have o1:=s1.one
 have o2:=s2.one
 have o3:=s3.one
 refine Cs Tryz.func117 Tryz.ntmps117 ?_
 repeat first|refine R1 ?_|refine R2 fun _=>?_
 refine fp (y_call (sceneCopy_f (M:=M) _ _ p.scene (sceneB_mk s1 s2 s3) hs) (by rfl) ?_)
 rintro _ A1 ⟨cs,rfl,q⟩
 obtain ⟨c2,l2,f2,X1,X2,X3,rfl,rfl,⟨g1,k1⟩,⟨g2,k2⟩,g3⟩:=sceneO q
 have o4:=g1.one
 have o5:=g2.one
 have o6:=g3.one
 repeat first|refine R1 ?_|refine R2 fun _=>?_
 exact sf_ret (rO (X1++(X2++X3)) ⟨_,rfl,painterO_mk g1 k1 g2 k2 g3⟩)
theorem nodup_take {xs:List Int} {j:Nat} (h:xs.Nodup) (hj:j < xs.length):gt xs j ∉ xs.take j:=by
 intro hm
 rw [gt_eq hj] at hm
 obtain ⟨i,hi,e⟩:=List.getElem_of_mem hm
 rw [List.getElem_take] at e
 rw [List.length_take] at hi
 exact List.pairwise_iff_getElem.1 h i j (by omega) hj (by omega) e
theorem sightsOf_f (h:PHeap) (ca:List Value) (s:Scene) (b:(sceneR τ).B h ca s) (hs:s.feet.length ≤ 1000000) (hn:∀ k,k < s.feet.length→(gt s.feet k).Nodup):CallF Tryz.prog M 215 [.agg ca.toArray] [] h fun u A=>∃ b o A',u = .map (some b)∧A = (b,o) :: A'∧SMap 3 A' o fun a=>natsI (touched s.feet a):=by
 obtain ⟨c,l,f,rfl,s1,s2,s3⟩:=sceneB b
 have o1:=s1.one
 have o2:=s2.one
 have o3:=s3.one
 obtain ⟨rx,s3,bx⟩:=s3
 have lx:=bx.len
 refine Cs Tryz.func215 Tryz.ntmps215 ?_
 repeat first|refine R1 ?_|refine R2 fun _=>?_
 rename_i b1
 refine fp (y_makeMap fun b3 o hm=>?_)
 repeat first|refine R1 ?_|refine R2 fun _=>?_
 refine sf_lp (ι:=Nat) [3,10,11] (fun k=>[(12,.int .i64 (k:Int))]) (fun k O=>k ≤ s.feet.length∧∃ o A,O = (b3,o) :: (A++[(b1,.cells #[.int .i64 s.grid.wide,c,l,f] 68)])∧SMap 3 A o fun a=>natsI (touchTo s.feet a k)) (fun k=>s.feet.length - k) 0 ((b3,o) :: ([]++[(b1,.cells #[.int .i64 s.grid.wide,c,l,f] 68)])) ⟨by omega,o,[],rfl,(SMap.nil hm).congr fun a=>rfl⟩ ?_
 clear hm o
 rintro k O ⟨hk,o,A,rfl,sm⟩
 repeat first|refine R1 ?_|refine R2 fun _=>?_
 refine sf_if (fun h4=>?_) fun h4=>?_
 ·have hk4:k < s.feet.length:=by omega
  have hk5:k < rx.length:=by omega
  obtain ⟨vx,ex,sx4⟩:=bx.at hk4
  haveI:FlatV (rawF (intSR τ).sz) (gt rx k) [vx]:=⟨ex⟩
  have o4:=sx4.one
  have hnk:=hn k hk4
  have hss:=sx4.small
  repeat first|refine R1 ?_|refine R2 fun _=>?_
  refine sf_lp (ι:=Nat) [3,4,10,11,12,17,18] (fun j=>[(19,.int .i64 (j:Int))]) (fun j O=>j ≤ (gt s.feet k).length∧∃ o A,O = (b3,o) :: (A++[(b1,.cells #[.int .i64 s.grid.wide,c,l,f] 68)])∧SMap 3 A o fun a=>natsI (touchTo s.feet a k)++(if a ∈ (gt s.feet k).take j then [(k:Int)] else [])) (fun j=>(gt s.feet k).length - j) 0 ((b3,o) :: (A++[(b1,.cells #[.int .i64 s.grid.wide,c,l,f] 68)])) ⟨by omega,o,A,rfl,sm.congr fun a=>by simp⟩ ?_
  clear sm
  rintro j O ⟨hj,o,A,rfl,sm⟩
  repeat first|refine R1 ?_|refine R2 fun _=>?_
  refine sf_if (fun h5=>?_) fun h5=>?_
  ·have hj4:j < (gt s.feet k).length:=by omega
   obtain ⟨m,hm,B1,Bk,B2,v,rfl,hv,gk,put⟩:=sm.at (gt (gt s.feet k) j)
   have hx:=nodup_take hnk hj4
   rw [if_neg hx,List.append_nil] at gk
   have o5:=gk.one
   have htl:=touchTo_len s.feet (gt (gt s.feet k) j) k
   have hnl:(natsI (touchTo s.feet (gt (gt s.feet k) j) k)).length = (touchTo s.feet (gt (gt s.feet k) j) k).length:=by simp [natsI]
   repeat first|refine R1 ?_|refine R2 fun _=>?_
   refine fp (Rq ?_ (z_lookupV (by rfl) (by rfl) (by infer_instance) (by infer_instance) (by infer_instance) (by simp) hm hv))
   repeat first|refine R1 ?_|refine R2 fun _=>?_
   refine Xb fun u Au gu=>?_
   repeat first|refine R1 ?_|refine R2 fun _=>?_
   refine Xa gk gu fun w2 A2 g2=>?_
   have o6:=g2.one
   repeat first|refine R1 ?_|refine R2 fun _=>?_
   refine fp (y_mapUpdate (by rfl) (by rfl) (by rfl) (by infer_instance) (by infer_instance) hm fun o' ho'=>?_)
   repeat first|refine R1 ?_|refine R2 fun _=>?_
   refine ⟨j + 1,by omega,⟨rfl,trivial⟩,rfl,(b3,o') :: ((B1++(A2++B2))++[(b1,.cells #[.int .i64 s.grid.wide,c,l,f] 68)]),_,inferInstance,by omega,o',B1++(A2++B2),rfl,(put A2 w2 _ o' ho' g2).congr fun a=>?_⟩
   rw [take_succ_gt hj4]
   by_cases ea:a = gt (gt s.feet k) j
   ·subst ea; simp
   ·simp [ea]
  ·refine sf_exit ?_
   obtain rfl:j = (gt s.feet k).length:=by omega
   repeat first|refine R1 ?_|refine R2 fun _=>?_
   refine ⟨k + 1,by omega,⟨rfl,trivial⟩,rfl,(b3,o) :: (A++[(b1,.cells #[.int .i64 s.grid.wide,c,l,f] 68)]),_,inferInstance,by omega,o,A,rfl,sm.congr fun a=>?_⟩
   rw [List.take_of_length_le (Nat.le_refl _),touchTo_step]
   split
   ·simp [natsI]
   ·simp
 ·refine sf_exit ?_
  obtain rfl:k = s.feet.length:=by omega
  repeat first|refine R1 ?_|refine R2 fun _=>?_
  exact sf_ret (rO ((b3,o) :: A) ⟨b3,o,A,rfl,rfl,sm⟩)
theorem sceneMany_f [al : Alone Tryz.prog M] (h : PHeap) (ca : List Value) (s : Scene) (b : (sceneR τ).B h ca s) (ok : sceneOk s = true) (hs : szSceneN s ≤ 1048576) (v : Value) (e : Edit) (sv : Sl h v editF [e]) :
  CallF Tryz.prog M 191 [.agg ca.toArray,v] [] h fun u A=>∃ cs w,u = .tuple #[.agg cs.toArray,w,.bool (editOk s.grid e)]∧Sl.One w∧(sceneR τ).O A cs (if editOk s.grid e = true then editScene s e else noScene):=by
 have b0:=b
 obtain ⟨c,l,f,rfl,s1,s2,s3⟩:=sceneB b
 have o1:=s1.one
 have o2:=s2.one
 have o3:=s3.one
 have o4:=sv.one
 obtain ⟨hgk,hse⟩:=sceneOk_is ok
 have hll:s.lights.length = (picOf s.grid).length:=congrArg (fun x=>x.lights.length) hse
 have hff:s.feet = feetOf s.grid:=congrArg Scene.feet hse
 have hfl:s.feet.length = (feetOf s.grid).length:=by rw [hff]
 rw [picOf_len] at hll
 rw [feetOf_len] at hfl
 have kg:=gok hgk
 have hm:=kg.many
 have hsm:=kg.small
 have hmp:=manyOf_put s.grid e
 have eg:∀ i,i < [e].length→gt [e] i = e:=fun i hi=>by
  obtain rfl:i = 0:=by simpa using hi
  rfl
 refine Cs Tryz.func191 Tryz.ntmps191 ?_
 repeat first|refine R1 ?_|refine R2 fun _=>?_
 refine Xv (sceneOk_v (M:=M) _ _ s b0) ?_
 rw [ok]
 repeat first|refine R1 ?_|refine R2 fun _=>?_
 refine f_split (fun h1=>?_) fun h1=>?_
 ·simp at h1
 repeat first|refine R1 ?_|refine R2 fun _=>?_
 refine Xv (editsOk_v (M:=M) _ c s.grid s1 v [e] sv) ?_
 rw [editsOk_one]
 repeat first|refine R1 ?_|refine R2 fun _=>?_
 refine sf_cond (by rfl) (fun e1=>?_) fun e1=>?_
 ·have e1':editOk s.grid e = false:=by simpa using e1
  rw [e1']
  repeat first|refine R1 ?_|refine R2 fun _=>?_
  exact sf_ret (rO [] ⟨_,_,rfl,inferInstance,sceneO_mk (s:=noScene) (Gr.nil _ _) (by decide) (Gr.nil _ _) (by decide) GrR.nil⟩)
 have he:editOk s.grid e = true:=by simpa using e1
 rw [he,if_pos rfl]
 have hg':=gridOk_put hgk he
 have hea:0 ≤ e.at'∧e.at' < s.grid.cells.length:=by
  have:=he
  simp only [editOk,Bool.and_eq_true,decide_eq_true_eq] at this; omega
 obtain ⟨ks,hks⟩:∃ ks,touched s.feet e.at' = ks:=⟨_,rfl⟩
 have hkl:∀ k ∈ ks,k < s.feet.length:=fun k hk=>by rw [← hks] at hk; exact touchTo_lt hk
 have hkn:ks.length ≤ s.feet.length:=by rw [← hks]; exact touchTo_len _ _ _
 have hka:Asc (natsI ks):=by rw [← hks]; exact touched_asc _ _ _
 have hnl:=natsI_len ks
 repeat first|refine R1 ?_|refine R2 fun _=>?_
 rename_i b2 b4
 refine fp (y_call (sceneCopy_f (M:=M) _ _ s b0 hs) (by rfl) ?_)
 rintro _ A1 ⟨cs,rfl,q⟩
 obtain ⟨c2,l2,f2,X1,X2,X3,rfl,rfl,⟨g1,k1⟩,⟨g2,k2⟩,g3⟩:=sceneO q
 have o5:=g1.one
 have o6:=g2.one
 have o7:=g3.one
 obtain ⟨F0,F1,rfl,rs,gr,oa,hb⟩:=g3
 have hr:=oa.len
 clear q
 repeat first|refine R1 ?_|refine R2 fun _=>?_
 rename_i b7
 refine fp (y_call (sightsOf_f (M:=M) _ _ s b0 (by omega) (fun k hk=>by rw [hff] at hk ⊢; exact feetOf_nodup hk)) (by rfl) ?_)
 rintro _ _ ⟨bm,om,AM,rfl,rfl,sm⟩
 repeat first|refine R1 ?_|refine R2 fun _=>?_
 refine sf_lp (ι:=Nat × Value) [4,7,8,34,35] (fun x=>[(9,x.2),(36,.int .i64 (x.1:Int))]) (fun x O=>x.1 ≤ 1∧(x.1 = 0→x.2 = .slice none 0 0∧O = (bm,om) :: (AM++((b7,.cells #[.int .i64 s.grid.wide,c2,l2,f2] 68) :: (X1++(X2++(F0++(F1++[(b4,.cells #[.int .i64 0,.slice none 0 0,.slice none 0 0,.slice none 0 0] 68)])))))))∧(x.1 = 1→∃ X1 AW,O = AW++((b7,.cells #[.int .i64 s.grid.wide,c2,l2,f2] 68) :: (X1++(X2++(F0++(F1++[(b4,.cells #[.int .i64 0,.slice none 0 0,.slice none 0 0,.slice none 0 0] 68)])))))∧Gr X1 c2 46 cellF (putCell s.grid e).cells∧Gr AW x.2 3 intF (natsI ks))) (fun x=>1 - x.1) (0,.slice none 0 0) ((bm,om) :: (AM++((b7,.cells #[.int .i64 s.grid.wide,c2,l2,f2] 68) :: (X1++(X2++(F0++(F1++[(b4,.cells #[.int .i64 0,.slice none 0 0,.slice none 0 0,.slice none 0 0] 68)]))))))) ⟨by simp,fun _=>⟨rfl,rfl⟩,fun h0=>by cases h0⟩ ?_
 rintro ⟨i,w⟩ O ⟨hi,hi0,hi1⟩
 simp only at hi hi0 hi1 ⊢
 have hi3:i = 0 ∨ i = 1:=by omega
 rcases hi3 with rfl | rfl
 ·obtain ⟨rfl,rfl⟩:=hi0 rfl
  clear hi0 hi1
  repeat first|refine R1 ?_|refine R2 fun _=>?_
  refine sf_if (fun h4=>?_) fun h4=>?_
  rotate_left
  ·simp at h4
  have hi4:0 < [e].length:=by simp
  have ha0:0 ≤ (gt [e] 0).at':=hea.1
  have ha1:(gt [e] 0).at' < (s.grid.cells.length:Int):=hea.2
  obtain ⟨m,hmo,M1,Mk,M2,mv,rfl,hmv,gk,-⟩:=sm.at (gt [e] 0).at'
  have gk':Gr Mk mv 3 intF (natsI ks):=by rw [← hks]; exact gk
  have o8:=gk'.one
  repeat first|refine R1 ?_|refine R2 fun _=>?_|refine fp (Rq ?_ (z_indexGI (by rfl) (by rfl) (by assumption) (by omega) (by omega)))
  refine Xg g1 fun A2 ys hy hly fv gy=>?_
  repeat first|refine R1 ?_|refine R2 fun _=>?_
  refine fp (Rq ?_ (z_lookupV (by rfl) (by rfl) (by infer_instance) (by infer_instance) (by infer_instance) (by simp) hmo hmv))
  repeat first|refine R1 ?_|refine R2 fun _=>?_
  refine fp (y_append (by rfl) (by rfl) (Gr.nil _ _) gk' (fun y _=>FlatOne.one y) (by rfl) (by rfl) (by simp; omega) (by simp; omega) fun w2 AW gw=>?_)
  have o9:=gw.one
  repeat first|refine R1 ?_|refine R2 fun _=>?_
  exact ⟨(1,w2),by simp,⟨rfl,rfl,trivial⟩,rfl,AW++((b7,.cells #[.int .i64 s.grid.wide,c2,l2,f2] 68) :: (A2++(X2++(F0++(F1++[(b4,.cells #[.int .i64 0,.slice none 0 0,.slice none 0 0,.slice none 0 0] 68)]))))),_,inferInstance,by simp,fun h0=>(by cases h0),fun _=>⟨A2,AW,rfl,(by rw [hy] at gy; exact gy),gw⟩⟩
 obtain ⟨X1,AW,rfl,g1,gw⟩:=hi1 rfl
 clear hi0 hi1 sm
 have o8:=gw.one
 repeat first|refine R1 ?_|refine R2 fun _=>?_
 refine sf_if (fun h4=>?_) fun h4=>?_
 ·simp at h4
 refine sf_exit ?_
 repeat first|refine R1 ?_|refine R2 fun _=>?_
 refine fp (y_call (sort_f (M:=M) _ _ AW _ gw (by omega)) (by rfl) ?_)
 rintro _ A5 ⟨rfl,gw2⟩
 rw [sortF_id hka] at gw2
 repeat first|refine R1 ?_|refine R2 fun _=>?_
 refine Xc (compact_f (M:=M) _ _ A5 _ gw2 (by omega)) fun w3 A6 gw3=>?_
 rw [compactF_id hka] at gw3
 have o9:=gw3.one
 repeat first|refine R1 ?_|refine R2 fun _=>?_
 refine sf_lp (ι:=Nat) [4,7,9,59,60] (fun j=>[(61,.int .i64 (j:Int))]) (fun j O=>j ≤ ks.length∧∃ X2 F0 F1 rs,O = A6++((b7,.cells #[.int .i64 s.grid.wide,c2,l2,f2] 68) :: (X1++(X2++(F0++(F1++[(b4,.cells #[.int .i64 0,.slice none 0 0,.slice none 0 0,.slice none 0 0] 68)])))))∧Gr X2 l2 3 intF (lookL (putCell s.grid e) (ks.take j) s.lights)∧Gr F0 f2 33 (rawF (intSR τ).sz) rs∧OAll (intSR τ) F1 rs (lookF (putCell s.grid e) (ks.take j) s.feet)) (fun j=>ks.length - j) 0 (A6++((b7,.cells #[.int .i64 s.grid.wide,c2,l2,f2] 68) :: (X1++(X2++(F0++(F1++[(b4,.cells #[.int .i64 0,.slice none 0 0,.slice none 0 0,.slice none 0 0] 68)])))))) ⟨by omega,X2,F0,F1,rs,rfl,g2,gr,oa⟩ ?_
 clear gw gw2 gr oa g2 hr hb rs F0 F1 X2
 rintro j O ⟨hj,X2,F0,F1,rs,rfl,g2,gr,oa⟩
 have hr:=oa.len
 have hll2:=lookL_len (putCell s.grid e) (ks.take j) s.lights
 have hfl2:=lookF_len (putCell s.grid e) (ks.take j) s.feet
 repeat first|refine R1 ?_|refine R2 fun _=>?_
 refine sf_if (fun h4=>?_) fun h4=>?_
 ·have hj4:j < ks.length:=by omega
  have hj5:j < (natsI ks).length:=by omega
  have hz:=natsI_at hj4
  have hkj:=hkl (gt ks j) (by rw [gt_eq hj4]; exact List.getElem_mem _)
  have htk:=take_succ_gt hj4
  generalize gt ks j = k at hz hkj htk
  have hkl2:k < (lookL (putCell s.grid e) (ks.take j) s.lights).length:=by omega
  have hkf2:k < rs.length:=by omega
  have hkm:0 ≤ (k:Int)∧(k:Int) < manyOf (putCell s.grid e):=by omega
  have hcl:(putCell s.grid e).cells.length = s.grid.cells.length:=by simp [putCell]
  repeat first|refine R1 ?_|refine R2 fun _=>?_
  rw [hz]
  repeat first|refine R1 ?_|refine R2 fun _=>?_
  refine sf_draw (by kernel_rfl) (regX_own (X1) (Sw [[],[0],[],[],[3],[],[3,4,5],[0,1,2,3,4,5,6],[0,1,2,3,4,5,6,7]] 7 [Nn 0,Nn 1,Nn 2,Nn 3,Nn 4,Nn 5,Yy 6] ?_))
  refine Da ?_
  refine Yc (lendV X1 fun h' l' i'=>trailLight_v (M:=M) h' c2 (putCell s.grid e) (g1.lent (by omega) i') hg' (k:Int) hkm) ?_
  rintro _ A9 ⟨rfl,e9⟩
  rw [e9]
  clear e9 A9
  refine Da ?_
  refine Ae ?_
  repeat first|refine R1 ?_|refine R2 fun _=>?_
  refine Xg g2 fun A7 ys hy hly fv g4=>?_
  repeat first|refine R1 ?_|refine R2 fun _=>?_
  refine sf_draw (by kernel_rfl) (regX_own (X1) (Sw [[],[0],[],[],[3],[],[3,4,5],[0,1,2,3,4,5,6],[0,1,2,3,4,5,6,7]] 7 [Nn 0,Nn 1,Nn 2,Nn 3,Nn 4,Nn 5,Yy 6] ?_))
  refine Da ?_
  refine Yc (lendF X1 fun h' l' i'=>trailFoot_f (M:=M) h' c2 (putCell s.grid e) (g1.lent (by omega) i') hg' (k:Int) hkm) ?_
  rintro w4 _ ⟨AT,rfl,gt4⟩
  have p1:=gt4.one
  refine Da ?_
  refine Ae ?_
  repeat first|refine R1 ?_|refine R2 fun _=>?_
  refine Xg gr fun A8 zs hzs hlz fz g5=>?_
  obtain ⟨C1,Ck,C2,rfl,-,put⟩:=oa.at (show k < (lookF (putCell s.grid e) (ks.take j) s.feet).length by omega)
  have q3:=put AT ⟨[w4],rfl⟩ (footOf (putCell s.grid e) (k:Int)) ⟨w4,rfl,gt4,by show (footOf (putCell s.grid e) (k:Int)).length ≤ _; unfold footOf; have:=footIs_len (putCell s.grid e) (goLight (putCell s.grid e) (k:Int)).1; omega⟩
  rw [hy,← lookL_snoc,← htk] at g4
  rw [hzs] at g5
  rw [← lookF_snoc,← htk] at q3
  repeat first|refine R1 ?_|refine R2 fun _=>?_
  exact ⟨j + 1,by omega,⟨rfl,trivial⟩,rfl,A6++((b7,.cells #[.int .i64 s.grid.wide,c2,l2,f2] 68) :: (X1++(A7++(A8++((C1++(AT++C2))++[(b4,.cells #[.int .i64 0,.slice none 0 0,.slice none 0 0,.slice none 0 0] 68)]))))),_,inferInstance,by omega,A7,A8,C1++(AT++C2),_,rfl,g4,g5,q3⟩
 ·refine sf_exit ?_
  obtain rfl:j = ks.length:=by omega
  rw [List.take_of_length_le (Nat.le_refl _)] at g2 oa
  subst hks
  repeat first|refine R1 ?_|refine R2 fun _=>?_
  refine sf_ret (rO (X1++(X2++(F0++F1))) ⟨_,_,rfl,o9,?_⟩)
  exact sceneO_mk (s:=editScene s e) g1 (by simp only [editScene,putCell,List.length_set]; omega) g2 (by simp only [editScene]; rw [lookL_len]; omega) ⟨F0,F1,rfl,rs,gr,oa,by simp only [editScene]; rw [lookF_len]; omega⟩
theorem sceneEdit_f [al : Alone Tryz.prog M] (h : PHeap) (ca : List Value) (s : Scene) (b : (sceneR τ).B h ca s) (ok : sceneOk s = true) (hs : szSceneN s ≤ 1048576) (e : Edit) :
  CallF Tryz.prog M 153 [.agg ca.toArray,.agg #[.int .i64 e.at',.int .i64 e.cell.kind,.int .i64 e.cell.light]] [] h fun u A=>∃ cs w,u = .tuple #[.agg cs.toArray,w,.bool (editOk s.grid e)]∧Sl.One w∧(sceneR τ).O A cs (if editOk s.grid e = true then editScene s e else noScene):=by
 have b0:=b
 obtain ⟨c,l,f,rfl,s1,s2,s3⟩:=sceneB b
 have o1:=s1.one
 have o2:=s2.one
 have o3:=s3.one
 refine Cs Tryz.func153 Tryz.ntmps153 ?_
 repeat first|refine R1 ?_|refine R2 fun _=>?_
 refine Xb fun v AE ge=>?_
 have o4:=ge.one
 repeat first|refine R1 ?_|refine R2 fun _=>?_
 refine fp (y_lend AE (fun h' l i=>sceneMany_f (M:=M) h' _ s ((sceneR τ).up l b0) ok hs v e (ge.lent (by simp) i)) (by rfl) ?_)
 rintro _ A1 ⟨cs,w,rfl,ow,q⟩
 have q0:=q
 obtain ⟨c2,l2,f2,X1,X2,X3,rfl,rfl,⟨g1,k1⟩,⟨g2,k2⟩,g3⟩:=sceneO q
 have o5:=g1.one
 have o6:=g2.one
 have o7:=g3.one
 repeat first|refine R1 ?_|refine R2 fun _=>?_
 exact sf_ret (rO (X1++(X2++X3)) ⟨_,w,rfl,ow,q0⟩)
theorem painterO_of {A:Own} {cs:List Value} {sc:Scene} (q:(sceneR τ).O A cs sc) (u hs:Bool) (v:Int):(painterR τ).O A (.bool u :: .bool hs :: .int .i64 v :: cs) ⟨u,hs,v,sc⟩:=by
 obtain ⟨c,l,f,A1,A2,A3,rfl,rfl,⟨g1,j1⟩,⟨g2,j2⟩,g3⟩:=sceneO q
 exact painterO_mk (p:=⟨u,hs,v,sc⟩) g1 j1 g2 j2 g3
theorem hearWhole_f [al : Alone Tryz.prog M] (h : PHeap) (cb : List Value) (p : Painter) (w : Word) (c l f : Value) (X1 X2 X3 : Own) (g1 : Gr X1 c 46 cellF p.scene.grid.cells) (g2 : Gr X2 l 3 intF p.scene.lights) (g3 : GrR (intSR τ) X3 f 33 p.scene.feet) (hs : szPainterN p ≤ 1048576) (bw : (wordR τ).B h cb w) (e : p.up = true) (e1 : w.kind = 1) :
  CallF Tryz.prog M 118 [.agg #[.bool p.up,.bool p.has,.int .i64 p.ver,.int .i64 p.scene.grid.wide,c,l,f],.agg cb.toArray] (X1++(X2++X3)) h fun u A=>∃ cs,u = .agg cs.toArray∧(painterR τ).O A cs (paintHeard p w):=by
 have hs':=hs
 simp only [szPainterN,szSceneN,szIntSSN] at hs'
 have qs:(sceneR τ).O (X1++(X2++X3)) _ p.scene:=sceneO_mk g1 (by omega) g2 (by omega) g3
 have qp:(painterR τ).O (X1++(X2++X3)) _ p:=painterO_mk g1 (by omega) g2 (by omega) g3
 have o1:=g1.one
 have o2:=g2.one
 have o3:=g3.one
 obtain ⟨wc,wl,ecb,sw1,sw2⟩:=wordB bw
 have ecb':cb = [.int .i64 w.kind,.int .i64 w.to,.int .i64 w.frm,.int .i64 w.ver,.int .i64 w.grid.wide,wc,.int .i64 w.edit.at',.int .i64 w.edit.cell.kind,.int .i64 w.edit.cell.light,wl]:=ecb
 subst ecb'
 clear ecb
 have o4:=sw1.one
 have o5:=sw2.one
 have no:paintHeard p w = p→∃ cs:List Value,(.agg #[.bool p.up,.bool p.has,.int .i64 p.ver,.int .i64 p.scene.grid.wide,c,l,f]:Value) = .agg cs.toArray∧(painterR τ).O (X1++(X2++X3)) cs (paintHeard p w):=fun z=>by rw [z]; exact ⟨_,rfl,qp⟩
 refine Cs Tryz.func118 Tryz.ntmps118 ?_
 repeat first|refine R1 ?_|refine R2 fun _=>?_
 refine f_split (fun e2=>?_) fun e2=>?_
 ·repeat first|refine R1 ?_|refine R2 fun _=>?_
  refine sf_cond (by rfl) (fun e9=>?_) fun e9=>?_
  ·repeat first|refine R1 ?_|refine R2 fun _=>?_
   exact sf_ret (rO (X1++(X2++X3)) (no (by rw [heard1 e e1,if_neg (fun z=>by omega)])))
  ·simp [e2] at e9
 repeat first|refine R1 ?_|refine R2 fun _=>?_
 refine f_split (fun e4=>?_) fun e4=>?_
 ·repeat first|refine R1 ?_|refine R2 fun _=>?_
  refine sf_cond (by rfl) (fun e9=>?_) fun e9=>?_
  ·repeat first|refine R1 ?_|refine R2 fun _=>?_
   exact sf_ret (rO (X1++(X2++X3)) (no (by rw [heard1 e e1,if_neg (fun z=>by omega)])))
  ·simp [e4] at e9
 repeat first|refine R1 ?_|refine R2 fun _=>?_
 apply viaT (G:=(p.has = true→p.ver < w.ver)→_)
 ·intro tail
  refine f_splitB (fun e5=>?_) fun e5=>?_
  ·repeat first|refine R1 ?_|refine R2 fun _=>?_
   refine sf_cond (by rfl) (fun e9=>?_) fun e9=>?_
   ·simp [e5] at e9
    repeat first|refine R1 ?_|refine R2 fun _=>?_
    exact sf_ret (rO (X1++(X2++X3)) (no (by rw [heard1 e e1,if_neg (fun z=>by have:=z.2.1 e5; omega)])))
   ·simp [e5] at e9
    repeat first|refine R1 ?_|refine R2 fun _=>?_
    refine fops_keep [3,4,5,32] ?_
    exact tail.out fun _=>by omega
  ·repeat first|refine R1 ?_|refine R2 fun _=>?_
   refine sf_cond (by rfl) (fun e9=>?_) fun e9=>?_
   ·simp [e5] at e9
   ·repeat first|refine R1 ?_|refine R2 fun _=>?_
    refine fops_keep [3,4,5,32] ?_
    exact tail.out fun z=>by rw [e5] at z; cases z
 intro e6
 refine fp (y_call (sceneNew_f (M:=M) _ _ w.grid (gridB_mk sw1)) (by rfl) ?_)
 rintro _ A1 ⟨cs,rfl,q⟩
 by_cases eg:gridOk w.grid = true
 ·have en:sceneNew w.grid = (sceneOf w.grid,true):=by rw [sceneNew,if_pos eg]
  rw [en] at q ⊢
  have q0:=q
  obtain ⟨c2,l2,f2,Y1,Y2,Y3,rfl,rfl,⟨k1,j1⟩,⟨k2,j2⟩,k3⟩:=sceneO q
  have o6:=k1.one
  have o7:=k2.one
  have o8:=k3.one
  simp only at q0 ⊢
  repeat first|refine R1 ?_|refine R2 fun _=>?_
  refine sf_N (by rfl) ?_
  repeat first|refine R1 ?_|refine R2 fun _=>?_
  rw [heard1 e e1,if_pos ⟨by omega,e6,eg⟩]
  exact sf_ret (rO (Y1++(Y2++Y3)) ⟨_,rfl,painterO_of q0 _ _ _⟩)
 ·have en:sceneNew w.grid = (noScene,false):=by rw [sceneNew,if_neg eg]
  rw [en] at q ⊢
  obtain ⟨c2,l2,f2,Y1,Y2,Y3,rfl,rfl,⟨k1,j1⟩,⟨k2,j2⟩,k3⟩:=sceneO q
  have o6:=k1.one
  have o7:=k2.one
  have o8:=k3.one
  simp only
  repeat first|refine R1 ?_|refine R2 fun _=>?_
  refine sf_cond (by rfl) (fun e9=>?_) fun e9=>?_
  ·repeat first|refine R1 ?_|refine R2 fun _=>?_
   exact sf_ret (rO (X1++(X2++X3)) (no (by rw [heard1 e e1,if_neg (fun z=>eg z.2.2)])))
  ·simp at e9
theorem hearEdit_f [al : Alone Tryz.prog M] (h : PHeap) (cb : List Value) (p : Painter) (w : Word) (c l f : Value) (X1 X2 X3 : Own) (g1 : Gr X1 c 46 cellF p.scene.grid.cells) (g2 : Gr X2 l 3 intF p.scene.lights) (g3 : GrR (intSR τ) X3 f 33 p.scene.feet) (hs : szPainterN p ≤ 1048576) (bw : (wordR τ).B h cb w) (e : p.up = true) (ok : paintOk p = true) (e1 : w.kind = 2) :
  CallF Tryz.prog M 119 [.agg #[.bool p.up,.bool p.has,.int .i64 p.ver,.int .i64 p.scene.grid.wide,c,l,f],.agg cb.toArray] (X1++(X2++X3)) h fun u A=>∃ cs,u = .agg cs.toArray∧(painterR τ).O A cs (paintHeard p w):=by
 have hs':=hs
 simp only [szPainterN,szSceneN,szIntSSN] at hs'
 have qs:(sceneR τ).O (X1++(X2++X3)) _ p.scene:=sceneO_mk g1 (by omega) g2 (by omega) g3
 have qp:(painterR τ).O (X1++(X2++X3)) _ p:=painterO_mk g1 (by omega) g2 (by omega) g3
 have o1:=g1.one
 have o2:=g2.one
 have o3:=g3.one
 obtain ⟨wc,wl,ecb,sw1,sw2⟩:=wordB bw
 have ecb':cb = [.int .i64 w.kind,.int .i64 w.to,.int .i64 w.frm,.int .i64 w.ver,.int .i64 w.grid.wide,wc,.int .i64 w.edit.at',.int .i64 w.edit.cell.kind,.int .i64 w.edit.cell.light,wl]:=ecb
 subst ecb'
 clear ecb
 have o4:=sw1.one
 have o5:=sw2.one
 have no:paintHeard p w = p→∃ cs:List Value,(.agg #[.bool p.up,.bool p.has,.int .i64 p.ver,.int .i64 p.scene.grid.wide,c,l,f]:Value) = .agg cs.toArray∧(painterR τ).O (X1++(X2++X3)) cs (paintHeard p w):=fun z=>by rw [z]; exact ⟨_,rfl,qp⟩
 refine Cs Tryz.func119 Tryz.ntmps119 ?_
 repeat first|refine R1 ?_|refine R2 fun _=>?_
 refine f_splitB (fun e2=>?_) fun e2=>?_
 ·have e2':p.has = false:=by simpa using e2
  repeat first|refine R1 ?_|refine R2 fun _=>?_
  refine sf_cond (by rfl) (fun e9=>?_) fun e9=>?_
  ·repeat first|refine R1 ?_|refine R2 fun _=>?_
   exact sf_ret (rO (X1++(X2++X3)) (no (by rw [heard2 e e1,if_neg (fun z=>by rw [e2'] at z; exact Bool.noConfusion z.1)])))
  ·simp [e2'] at e9
 have e2':p.has = true:=by simpa using e2
 obtain ⟨-,hv0,hv1,hsc⟩:=paintOk_has ok e2'
 repeat first|refine R1 ?_|refine R2 fun _=>?_
 refine f_split (fun e3=>?_) fun e3=>?_
 ·repeat first|refine R1 ?_|refine R2 fun _=>?_
  refine sf_cond (by rfl) (fun e9=>?_) fun e9=>?_
  ·repeat first|refine R1 ?_|refine R2 fun _=>?_
   exact sf_ret (rO (X1++(X2++X3)) (no (by rw [heard2 e e1,if_neg (fun z=>e3 z.2.1)])))
  ·simp [e3] at e9
 repeat first|refine R1 ?_|refine R2 fun _=>?_
 refine sf_cond (by rfl) (fun e9=>?_) fun e9=>?_
 ·repeat first|refine R1 ?_|refine R2 fun _=>?_
  exact sf_ret (rO (X1++(X2++X3)) (no (by rw [heard2 e e1,if_neg (fun z=>by have:=z.2.2.1; simp [e2',e3] at e9; omega)])))
 repeat first|refine R1 ?_|refine R2 fun _=>?_
 refine fp (y_lend (X1++(X2++X3)) (fun h' _ i=>sceneEdit_f (M:=M) h' _ p.scene ((sceneR τ).lent qs i) hsc hs w.edit) (by rfl) ?_)
 rintro _ A1 ⟨cs,w2,rfl,ow,q⟩
 by_cases eg:editOk p.scene.grid w.edit = true
 ·rw [if_pos eg] at q
  rw [eg]
  have q0:=q
  obtain ⟨c2,l2,f2,Y1,Y2,Y3,rfl,rfl,⟨k1,j1⟩,⟨k2,j2⟩,k3⟩:=sceneO q
  have o6:=k1.one
  have o7:=k2.one
  have o8:=k3.one
  repeat first|refine R1 ?_|refine R2 fun _=>?_
  refine sf_N (by rfl) ?_
  repeat first|refine R1 ?_|refine R2 fun _=>?_
  rw [heard2 e e1,if_pos ⟨e2',by simp at e3; omega,by simp [e2',e3] at e9; omega,eg⟩]
  exact sf_ret (rO (Y1++(Y2++Y3)) ⟨_,rfl,painterO_of q0 _ _ _⟩)
 ·have eg':editOk p.scene.grid w.edit = false:=by simpa using eg
  rw [if_neg eg] at q
  rw [eg']
  obtain ⟨c2,l2,f2,Y1,Y2,Y3,rfl,rfl,⟨k1,j1⟩,⟨k2,j2⟩,k3⟩:=sceneO q
  have o6:=k1.one
  have o7:=k2.one
  have o8:=k3.one
  repeat first|refine R1 ?_|refine R2 fun _=>?_
  refine sf_cond (by rfl) (fun e9=>?_) fun e9=>?_
  ·repeat first|refine R1 ?_|refine R2 fun _=>?_
   exact sf_ret (rO (X1++(X2++X3)) (no (by rw [heard2 e e1,if_neg (fun z=>eg z.2.2.2)])))
  ·simp at e9
instance:Fun Tryz.prog 118:=⟨by kernel_rfl⟩
instance:Fun Tryz.prog 119:=⟨by kernel_rfl⟩
theorem paintHeard_f [al:Alone Tryz.prog M] (h:PHeap) (ca cb:List Value) (p:Painter) (w:Word) (b:(painterR τ).B h ca p) (ok:paintOk p = true) (hs:szPainterN p ≤ 1048576) (bw:(wordR τ).B h cb w):CallF Tryz.prog M 76 [.agg ca.toArray,.agg cb.toArray] [] h fun u A=>∃ cs,u = .agg cs.toArray∧(painterR τ).O A cs (paintHeard p w):=by
 have b0:=b
 obtain ⟨c0,l0,f0,rfl,s1,s2,s3⟩:=painterB b
 have o1:=s1.one
 have o2:=s2.one
 have o3:=s3.one
 have bw0:=bw
 obtain ⟨wc,wl,ecb,sw1,sw2⟩:=wordB bw
 have ecb':cb = [.int .i64 w.kind,.int .i64 w.to,.int .i64 w.frm,.int .i64 w.ver,.int .i64 w.grid.wide,wc,.int .i64 w.edit.at',.int .i64 w.edit.cell.kind,.int .i64 w.edit.cell.light,wl]:=ecb
 subst ecb'
 clear ecb bw
 have o4:=sw1.one
 have o5:=sw2.one
 refine Cs Tryz.func76 Tryz.ntmps76 ?_
 repeat first|refine R1 ?_|refine R2 fun _=>?_
 rename_i b2 b3 b4
 refine fp (y_call (painterCopy_f (M:=M) _ _ p b0 hs) (by rfl) ?_)
 rintro _ A1 ⟨cs,rfl,q⟩
 have q0:=q
 obtain ⟨c,l,f,X1,X2,X3,rfl,rfl,⟨g1,j1⟩,⟨g2,j2⟩,g3⟩:=painterO q
 have o6:=g1.one
 have o7:=g2.one
 have o8:=g3.one
 repeat first|refine R1 ?_|refine R2 fun _=>?_
 rename_i b5
 refine fp (y_makeMap fun bm om hm=>?_)
 repeat first|refine R1 ?_|refine R2 fun _=>?_
 refine fp (y_insert (by rfl) (by rfl) (by rfl) (by infer_instance) (by infer_instance) hm fun o1' hm1=>?_)
 repeat first|refine R1 ?_|refine R2 fun _=>?_
 refine fp (y_insert (by rfl) (by rfl) (by rfl) (by infer_instance) (by infer_instance) hm1 fun o2' hm2=>?_)
 repeat first|refine R1 ?_|refine R2 fun _=>?_
 have back:paintHeard p w = p→∃ cs:List Value,(.agg #[.bool p.up,.bool p.has,.int .i64 p.ver,.int .i64 p.scene.grid.wide,c,l,f]:Value) = .agg cs.toArray∧(painterR τ).O (X1++(X2++X3)) cs (paintHeard p w):=fun z=>by rw [z]; exact ⟨_,rfl,q0⟩
 by_cases e1:w.kind = 1
 ·refine fp (Rq ?_ (z_lookup2V (v:=.tuple #[.func (.func 118) #[.agg #[.bool p.up,.bool p.has,.int .i64 p.ver,.int .i64 p.scene.grid.wide,c,l,f]] #[],.bool true]) (by rfl) (by rfl) (by infer_instance) (by infer_instance) (by infer_instance) (by simp) hm2 (by simp [valOf2,mSet,mGet,e1])))
  repeat first|refine R1 ?_|refine R2 fun _=>?_
  refine f_splitB (fun e=>?_) fun e=>?_
  ·have e':p.up = false:=by simpa using e
   repeat first|refine R1 ?_|refine R2 fun _=>?_
   refine sf_cond (by rfl) (fun e9=>?_) fun e9=>?_
   ·repeat first|refine R1 ?_|refine R2 fun _=>?_
    exact sf_ret (rO (X1++(X2++X3)) (back (heard_up e')))
   ·simp [e'] at e9
  ·have e':p.up = true:=by simpa using e
   repeat first|refine R1 ?_|refine R2 fun _=>?_
   refine sf_cond (by rfl) (fun e9=>?_) fun e9=>?_
   ·simp [e'] at e9
   repeat first|refine R1 ?_|refine R2 fun _=>?_
   refine fp (y_callC2 (by rfl) (by rfl) (by exact hearWhole_f (M:=M) _ _ p w c l f X1 X2 X3 g1 g2 g3 hs bw0 e' e1) ?_)
   rintro _ A5 ⟨cs,rfl,q5⟩
   have q6:=q5
   obtain ⟨c3,l3,f3,Z1,Z2,Z3,rfl,rfl,⟨i1,-⟩,⟨i2,-⟩,i3⟩:=painterO q5
   have p1:=i1.one
   have p2:=i2.one
   have p3:=i3.one
   repeat first|refine R1 ?_|refine R2 fun _=>?_
   exact sf_ret (rO (Z1++(Z2++Z3)) ⟨_,rfl,q6⟩)
 by_cases e2:w.kind = 2
 ·refine fp (Rq ?_ (z_lookup2V (v:=.tuple #[.func (.func 119) #[.agg #[.bool p.up,.bool p.has,.int .i64 p.ver,.int .i64 p.scene.grid.wide,c,l,f]] #[],.bool true]) (by rfl) (by rfl) (by infer_instance) (by infer_instance) (by infer_instance) (by simp) hm2 (by simp [valOf2,mSet,mGet,e2])))
  repeat first|refine R1 ?_|refine R2 fun _=>?_
  refine f_splitB (fun e=>?_) fun e=>?_
  ·have e':p.up = false:=by simpa using e
   repeat first|refine R1 ?_|refine R2 fun _=>?_
   refine sf_cond (by rfl) (fun e9=>?_) fun e9=>?_
   ·repeat first|refine R1 ?_|refine R2 fun _=>?_
    exact sf_ret (rO (X1++(X2++X3)) (back (heard_up e')))
   ·simp [e'] at e9
  ·have e':p.up = true:=by simpa using e
   repeat first|refine R1 ?_|refine R2 fun _=>?_
   refine sf_cond (by rfl) (fun e9=>?_) fun e9=>?_
   ·simp [e'] at e9
   repeat first|refine R1 ?_|refine R2 fun _=>?_
   refine fp (y_callC2 (by rfl) (by rfl) (by exact hearEdit_f (M:=M) _ _ p w c l f X1 X2 X3 g1 g2 g3 hs bw0 e' ok e2) ?_)
   rintro _ A5 ⟨cs,rfl,q5⟩
   have q6:=q5
   obtain ⟨c3,l3,f3,Z1,Z2,Z3,rfl,rfl,⟨i1,-⟩,⟨i2,-⟩,i3⟩:=painterO q5
   have p1:=i1.one
   have p2:=i2.one
   have p3:=i3.one
   repeat first|refine R1 ?_|refine R2 fun _=>?_
   exact sf_ret (rO (Z1++(Z2++Z3)) ⟨_,rfl,q6⟩)
 refine fp (Rq ?_ (z_lookup2V (v:=.tuple #[.nilFunc,.bool false]) (by rfl) (by rfl) (by infer_instance) (by infer_instance) (by infer_instance) (by simp) hm2 (by simp [valOf2,mSet,mGet,e1,e2])))
 repeat first|refine R1 ?_|refine R2 fun _=>?_
 refine f_splitB (fun e=>?_) fun e=>?_
 ·repeat first|refine R1 ?_|refine R2 fun _=>?_
  refine sf_cond (by rfl) (fun e9=>?_) fun e9=>?_
  ·repeat first|refine R1 ?_|refine R2 fun _=>?_
   exact sf_ret (rO (X1++(X2++X3)) (back (heard0 e1 e2)))
  ·simp [e] at e9
 ·repeat first|refine R1 ?_|refine R2 fun _=>?_
  refine sf_cond (by rfl) (fun e9=>?_) fun e9=>?_
  ·repeat first|refine R1 ?_|refine R2 fun _=>?_
   exact sf_ret (rO (X1++(X2++X3)) (back (heard0 e1 e2)))
  ·simp [e] at e9
theorem paintHear_f [al:Alone Tryz.prog M] (h:PHeap) (ca cb:List Value) (p:Painter) (w:Word) (b:(painterR τ).B h ca p) (hs:szPainterN p ≤ 1048576) (bw:(wordR τ).B h cb w):CallF Tryz.prog M 37 [.agg ca.toArray,.agg cb.toArray] [] h fun u A=>∃ cs,u = .agg cs.toArray∧(painterR τ).O A cs (paintHear p w):=by
 have b0:=b
 obtain ⟨c,l,f,rfl,s1,s2,s3⟩:=painterB b
 have o1:=s1.one
 have o2:=s2.one
 have o3:=s3.one
 have bw0:=bw
 obtain ⟨wc,wl,ecb,sw1,sw2⟩:=wordB bw
 have ecb':cb = [.int .i64 w.kind,.int .i64 w.to,.int .i64 w.frm,.int .i64 w.ver,.int .i64 w.grid.wide,wc,.int .i64 w.edit.at',.int .i64 w.edit.cell.kind,.int .i64 w.edit.cell.light,wl]:=ecb
 subst ecb'
 clear ecb bw
 have o4:=sw1.one
 have o5:=sw2.one
 refine Cs Tryz.func37 Tryz.ntmps37 ?_
 repeat first|refine R1 ?_|refine R2 fun _=>?_
 refine Xv (paintOk_v (M:=M) _ _ p b0) ?_
 repeat first|refine R1 ?_|refine R2 fun _=>?_
 refine sf_cond (by rfl) (fun e=>?_) fun e=>?_
 ·have e':¬ paintOk p = true:=by simpa using e
  repeat first|refine R1 ?_|refine R2 fun _=>?_
  rw [paintHear,if_neg e']
  exact sf_ret (rO [] ⟨_,rfl,painterO_mk (p:=noPainter) (Gr.nil _ _) (by decide) (Gr.nil _ _) (by decide) GrR.nil⟩)
 have e':paintOk p = true:=by simpa using e
 rw [paintHear,if_pos e']
 repeat first|refine R1 ?_|refine R2 fun _=>?_
 refine fp (y_call (paintHeard_f (M:=M) _ _ _ p w b0 e' hs bw0) (by rfl) ?_)
 rintro _ A5 ⟨cs,rfl,q5⟩
 have q6:=q5
 obtain ⟨c3,l3,f3,Z1,Z2,Z3,rfl,rfl,⟨i1,-⟩,⟨i2,-⟩,i3⟩:=painterO q5
 have p1:=i1.one
 have p2:=i2.one
 have p3:=i3.one
 repeat first|refine R1 ?_|refine R2 fun _=>?_
 exact sf_ret (rO (Z1++(Z2++Z3)) ⟨_,rfl,q6⟩)
theorem sceneX8 {A:Own} {cs:List Value} {s:Scene} (b:(sceneR τ).O A cs s):∃ c l f,cs = [.int .i64 s.grid.wide,c,l,f]∧Sl.One c∧Sl.One l∧Sl.One f:=by
 obtain ⟨c,l,f,_,_,_,e,-,⟨g1,-⟩,⟨g2,-⟩,g3⟩:=sceneO b
 exact ⟨c,l,f,e,g1.one,g2.one,g3.one⟩
theorem keepLeads_law [al:Alone Tryz.prog M] (h:PHeap) [BAt h 0 errObj] (v:Value) (xs:List (Fin 256)) (s:Sl h v u8F xs):∃ c,Tryz.f10.body = some c∧c.sf Tryz.prog M Tryz.f10.ntmps (retF Tryz.prog Tryz.f10 Tryz.f10.ntmps (fun v _=>v = .bool true) fun _ _=>False) (argsL 0 [v]) [] h:=by
 have o1:=s.one
 have hsm:=s.small
 refine ⟨_,rfl,?_⟩
 rw [Tryz.ntmps10]
 simp only [argsL,Nat.reduceAdd]
 repeat first|refine R1 ?_|refine R2 fun _=>?_
 refine sf_if (fun e=>?_) fun e=>?_
 ·repeat first|refine R1 ?_|refine R2 fun _=>?_
  exact sf_ret (rO [] rfl)
 repeat first|refine R1 ?_|refine R2 fun _=>?_
 refine fp (y_call (drawKeepTell_f _ v xs s) (by rfl) ?_)
 rintro _ A ⟨k,cs,z,rfl,dk,z0,z1⟩
 have dk0:=dk
 obtain ⟨⟨c,x1,x2,x3,x4,x5,x6,rfl,u1⟩,-,hsz,n1,n3,e100,c25⟩:=dk
 repeat first|refine R1o ?_|refine R2 fun _=>?_
 refine sf_nil ?_
 show Code.sf _ _ _ _ _ _ _ _
 refine sf_fz A fun h1 l1 i1=>?_
 have b0:=dk0.lent h1 i1
 obtain ⟨c',ed,p,sh,ec,s1,s2,s3,s4⟩:=keeperB b0
 simp only [List.cons.injEq,and_true,true_and] at ec
 obtain ⟨rfl,rfl,rfl,rfl⟩:=ec
 have o2:=s1.one
 have o3:=s2.one
 have o4:=s3.one
 have o5:=s4.one
 repeat first|refine R1 ?_|refine R2 fun _=>?_
 refine fp (y_call (sKeepTell_f _ _ k b0 z) (by rfl) ?_)
 rintro _ A1 ⟨cs1,rfl,q1⟩
 have q10:=q1
 obtain ⟨c1,l1',rfl,w1,w1'⟩:=wordX q1
 repeat first|refine R1o ?_|refine R2 fun _=>?_
 refine sf_nil ?_
 show Code.sf _ _ _ _ _ _ _ _
 refine sf_fz A1 fun h2 l2 i2=>?_
 have g10:=(wordR τ).lent q10 i2
 have b2:=(keeperR τ).up l2 b0
 repeat first|refine R1 ?_|refine R2 fun _=>?_
 refine fp (y_call (keepTell_f _ _ k b2 z) (by rfl) ?_)
 rintro _ A2 ⟨cs2,rfl,q2⟩
 have q20:=q2
 obtain ⟨c2,l2',rfl,w2,w2'⟩:=wordX q2
 repeat first|refine R1o ?_|refine R2 fun _=>?_
 refine sf_nil ?_
 show Code.sf _ _ _ _ _ _ _ _
 refine sf_fz A2 fun h3 l3 i3=>?_
 have g20:=(wordR τ).lent q20 i3
 have b3:=(keeperR τ).up l3 b2
 have g13:=(wordR τ).up l3 g10
 clear q1 q10 q2 q20 b0 b2 g10
 by_cases hk:keepOk k = true∧1 ≤ z∧z ≤ k.parts.length
 ·obtain ⟨hok,hz1,hz2⟩:=hk
  have ek:keepTell k z = (toldTo k z,true):=by rw [keepTell,if_pos ⟨hok,hz1,hz2⟩]
  rw [ek] at g13 g20 ⊢
  simp only at g13 g20 ⊢
  obtain ⟨xx,exx,okb,x1,x2,x3,x4⟩:=leads hok hz1 hz2
  have hszb:=sz_painter okb
  have hkh:=keepOk_head hok
  obtain ⟨rp,sp,bp⟩:=s3
  have lp:=bp.len
  have hsp:=sp.small
  have sp3:=(sp.le l2.le).le l3.le
  have s23:=(s2.le l2.le).le l3.le
  have hs2:=s2.small
  have hi4:(z - 1).toNat < k.parts.length:=by omega
  have hi5:(z - 1).toNat < rp.length:=by omega
  obtain ⟨l,ex,sl⟩:=partB (bp.at hi4)
  have ol:=sl.one
  have hb0:believed k z = if (gt k.parts (z - 1).toNat).has = true then ⟨true,true,(gt k.parts (z - 1).toNat).ver,sceneOf (gridAt k (gt k.parts (z - 1).toNat).ver)⟩ else ⟨true,false,0,noScene⟩:=rfl
  have hpo:=fun x=>partOk_ver (keepOk_part hok hi4) x
  generalize hpt:gt k.parts (z - 1).toNat = pt at *
  repeat first|refine R1 ?_|refine R2 fun _=>?_
  refine Xv (llWordP_s _ _ _ _ g20 g13) ?_
  repeat first|refine R1 ?_|refine R2 fun _=>?_
  refine sf_cond (by rfl) (fun z=>by cases z) fun _=>?_
  rcases Bool.eq_false_or_eq_true pt.has with hph | hph
  case' inr=>
   rw [if_neg (by rw [hph]; simp)] at hb0
   rw [hph] at ex
   haveI:FlatV (rawF (partR τ).sz) (gt rp (z - 1).toNat) [.bool false,.int .i64 pt.ver,l]:=⟨ex⟩
   repeat first|refine R1 ?_|refine R2 fun _=>?_
   refine Wj ?_
   refine fp (Rq ?_ (z_loadF (j:=(z - 1).toNat) (sz:=3) (off:=0) (by rfl) sp3 hi5 (by rfl)))
   repeat first|refine R1 ?_|refine R2 fun _=>?_
   refine sf_cond (by rfl) (fun z=>by cases z) fun _=>?_
   have bP:(painterR τ).B h3 [.bool true,.bool false,.int .i64 0,.int .i64 0,.slice none 0 0,.slice none 0 0,.slice none 0 0] (believed k z):=by
    rw [hb0]
    exact painterB_mk (p:=⟨true,false,0,noScene⟩) (Sl.nil _ _) (Sl.nil _ _) SlR.nil
   repeat first|refine R1 ?_|refine R2 fun _=>?_
   refine fp (y_call (paintHear_f (M:=M) _ _ _ (believed k z) (toldTo k z) bP (by omega) g20) (by rfl) ?_)
   rw [← exx]
   rintro _ A7 ⟨cs7,rfl,q7⟩
   have q70:=q7
   obtain ⟨c7,l7,f7,rfl,w71,w72,w73⟩:=painterX q7
   repeat first|refine R1o ?_|refine R2 fun _=>?_
   refine sf_nil ?_
   show Code.sf _ _ _ _ _ _ _ _
   refine sf_fz A7 fun h7 le7 i7=>?_
   have bx:=(painterR τ).lent q70 i7
   have b7:=(keeperR τ).up le7 b3
   clear q7 q70
   have kg:=keepGrid_f (M:=M) h7 _ k b7 xx.ver
   rw [keepGrid_ok hok x2] at kg
   repeat first|refine R1 ?_|refine R2 fun _=>?_
   refine fp (y_call kg (by rfl) ?_)
   rintro _ A8 ⟨cs8,rfl,q8⟩
   have q80:=q8
   obtain ⟨c8,rfl,t8,-⟩:=gridO q8
   have o8:=t8.one
   repeat first|refine R1o ?_|refine R2 fun _=>?_
   refine sf_nil ?_
   show Code.sf _ _ _ _ _ _ _ _
   refine sf_fz A8 fun h8 le8 i8=>?_
   have g8:=(gridR τ).lent q80 i8
   have bx8:=(painterR τ).up le8 bx
   have sn:=sceneNew_f (M:=M) h8 _ (gridAt k xx.ver) g8
   rw [show sceneNew (gridAt k xx.ver) = (sceneOf (gridAt k xx.ver),true) by rw [sceneNew,if_pos (gridAt_ok hkh.grid hkh.edits xx.ver)]] at sn
   repeat first|refine R1 ?_|refine R2 fun _=>?_
   refine fp (y_call sn (by rfl) ?_)
   rintro _ A9 ⟨cs9,rfl,q9⟩
   have q90:=q9
   obtain ⟨c9,l9,f9,rfl,w91,w92,w93⟩:=sceneX8 q9
   repeat first|refine R1o ?_|refine R2 fun _=>?_
   refine sf_nil ?_
   show Code.sf _ _ _ _ _ _ _ _
   refine sf_fz A9 fun h9 le9 i9=>?_
   obtain ⟨ca,la,fa,ec,sa1,sa2,sa3⟩:=painterB ((painterR τ).up le9 bx8)
   simp only [List.cons.injEq,and_true,true_and] at ec
   obtain ⟨rfl,rfl,rfl⟩:=ec
   repeat first|refine R1 ?_|refine R2 fun _=>?_
   refine Xv (llScene_v _ _ _ _ _ (sceneB_mk (s:=xx.scene) sa1 sa2 sa3) ((sceneR τ).lent q90 i9)) ?_
   rw [decide_eq_true x3]
   repeat first|refine R1 ?_|refine R2 fun _=>?_
   rw [x1]
   repeat first|refine R1 ?_|refine R2 fun _=>?_
   rw [hb0] at x4
   simp only at x4
   by_cases g1:xx.ver > 0
   ·rw [decide_eq_true g1]
    repeat first|refine R1 ?_|refine R2 fun _=>?_
    exact sf_ret (rO [] rfl)
   ·have g2 : k.edits.length = 0 := by
     rcases x4 with y | y | y
     ·exact absurd y g1
     ·cases y.1
     ·exact y.2
    rw [decide_eq_false g1]
    repeat first|refine R1 ?_|refine R2 fun _=>?_
    rw [decide_eq_true (show (k.edits.length:Int) = 0 by omega)]
    repeat first|refine R1 ?_|refine R2 fun _=>?_
    exact sf_ret (rO [] rfl)
  case' inl=>
   have hpo:=hpo hph
   rw [if_pos hph] at hb0
   rw [hph] at ex
   haveI:FlatV (rawF (partR τ).sz) (gt rp (z - 1).toNat) [.bool true,.int .i64 pt.ver,l]:=⟨ex⟩
   have kg3:=keepGrid_f (M:=M) h3 _ k b3 pt.ver
   rw [keepGrid_ok hok (verOk_iff.2 hpo)] at kg3
   have gk3:=gridAt_ok hkh.grid hkh.edits pt.ver
   have hsn:sceneNew (gridAt k pt.ver) = (sceneOf (gridAt k pt.ver),true):=by rw [sceneNew,if_pos gk3]
   repeat first|refine R1 ?_|refine R2 fun _=>?_
   refine Wj ?_
   refine fp (Rq ?_ (z_loadF (j:=(z - 1).toNat) (sz:=3) (off:=0) (by rfl) sp3 hi5 (by rfl)))
   repeat first|refine R1 ?_|refine R2 fun _=>?_
   refine sf_cond (by rfl) (fun _=>?_) fun z=>by cases z
   repeat first|refine R1 ?_|refine R2 fun _=>?_
   refine sf_draw (by kernel_rfl) (regX_split 8 12 (by rfl) ?_ ?_)
   case' refine_1=>
    refine Sr [[],[],[1],[],[3],[1,2,3,4],[1,2,3,4,5],[1,2,3,4,5,6],[0,1,2,3,4,5,6,7],[0,1,2,3,4,5,6,7,8],[0,1,2,3,4,5,6,7,8,9],[0,1,2,3,4,5,6,7,8,9],[0,1,2,3,4,5,6,7,8],[0,1,2,3,4,5,6,7,8,9,10,12],[0,1,2,3,4,5,6,7,8,9,10,11,12,13]] 14 [Nn 0,Nn 1,Nn 2,Nn 3,Nn 4,Nn 5,Nn 6,Nn 7,Yy 8,Nn 9,Nn 10,Nn 11,Yy 12,Yy 13] ?_
    refine Dj ?_
    refine Yc kg3 ?_
    rintro _ A5 ⟨cs5,rfl,q5⟩
    have q50:=q5
    obtain ⟨c5,rfl,t5,-⟩:=gridO q5
    have o9:=t5.one
    refine Dj ?_
    refine Yl fun b10=>?_
    refine Dj ?_
    refine a_store (by rfl) (by rfl) (by rfl) (.inl rfl) ?_
    refine Dj ?_
    refine Ae ?_
   case' refine_2=>
    refine Sr [[],[],[1],[],[3],[1,2,3,4],[1,2,3,4,5],[1,2,3,4,5,6],[0,1,2,3,4,5,6,7,12],[0,1,2,3,4,5,6,7,8,12],[0,1,2,3,4,5,6,7,8,9,12],[0,1,2,3,4,5,6,7,8,9,12],[],[0,1,2,3,4,5,6,7,8,9,10,12],[0,1,2,3,4,5,6,7,8,9,10,11,12,13]] 14 [Nn 0,Nn 1,Nn 2,Nn 3,Nn 4,Nn 5,Nn 6,Nn 7,Yy 12,Yy 8,Nn 9,Nn 10,Nn 11,Yy 13] ?_
    refine Dj ?_
    refine Yl fun b10=>?_
    refine Dj ?_
    refine Yc kg3 ?_
    rintro _ A5 ⟨cs5,rfl,q5⟩
    have q50:=q5
    obtain ⟨c5,rfl,t5,-⟩:=gridO q5
    have o9:=t5.one
    refine Dj ?_
    refine a_store (by rfl) (by rfl) (by rfl) (.inl rfl) ?_
    refine Dj ?_
    refine Ae ?_
   all_goals
    repeat first|refine R1 ?_|refine R2 fun _=>?_
    refine fp (y_call (lendF A5 fun h' l' i=>sceneNew_f (M:=M) h' _ (gridAt k pt.ver) ((gridR τ).lent q50 i)) (by rfl) ?_)
    rintro _ _ ⟨A6,rfl,cs6,rfl,q6⟩
    rw [hsn] at q6
    simp only at q6
    have q60:=q6
    obtain ⟨c6,l6,f6,rfl,w61,w62,w63⟩:=sceneX8 q6
    repeat first|refine R1 ?_|refine R2 fun _=>?_
    refine Sd [[],[0],[],[2],[0,1,2,3],[0,1,2,3,4],[0,1,2,3,4,5],[],[0,1,2,3,4,5,6,7],[0,1,2,3,4,5,6,7,8]] 8 [Nn 0,Nn 1,Nn 2,Nn 3,Nn 4,Nn 5,Nn 6,Nn 7] ?_
    refine Dj ?_
    refine Ae ?_
    repeat first|refine R1o ?_|refine R2 fun _=>?_
    refine sf_nil ?_
    show Code.sf _ _ _ _ _ _ _ _
    refine sf_fz A6 fun h4 le4 i4=>?_
    have b4:=(keeperR τ).up le4 b3
    have g24:=(wordR τ).up le4 g20
    have bP:(painterR τ).B h4 [.bool true,.bool true,.int .i64 pt.ver,.int .i64 (sceneOf (gridAt k pt.ver)).grid.wide,c6,l6,f6] (believed k z):=by
     obtain ⟨cz,lz,fz,ec,sz1,sz2,sz3⟩:=sceneB ((sceneR τ).lent q60 i4)
     simp only [List.cons.injEq,and_true,true_and] at ec
     obtain ⟨rfl,rfl,rfl⟩:=ec
     rw [hb0]
     exact painterB_mk (p:=⟨true,true,pt.ver,sceneOf (gridAt k pt.ver)⟩) sz1 sz2 sz3
    repeat first|refine R1 ?_|refine R2 fun _=>?_
    refine fp (y_call (paintHear_f (M:=M) _ _ _ (believed k z) (toldTo k z) bP (by omega) g24) (by rfl) ?_)
    rw [← exx]
    rintro _ A7 ⟨cs7,rfl,q7⟩
    have q70:=q7
    obtain ⟨c7,l7,f7,rfl,w71,w72,w73⟩:=painterX q7
    repeat first|refine R1o ?_|refine R2 fun _=>?_
    refine sf_nil ?_
    show Code.sf _ _ _ _ _ _ _ _
    refine sf_fz A7 fun h7 le7 i7=>?_
    have bx:=(painterR τ).lent q70 i7
    have b7:=(keeperR τ).up le7 b4
    clear q7 q70
    have kg:=keepGrid_f (M:=M) h7 _ k b7 xx.ver
    rw [keepGrid_ok hok x2] at kg
    repeat first|refine R1 ?_|refine R2 fun _=>?_
    refine fp (y_call kg (by rfl) ?_)
    rintro _ A8 ⟨cs8,rfl,q8⟩
    have q80:=q8
    obtain ⟨c8,rfl,t8,-⟩:=gridO q8
    have o8:=t8.one
    repeat first|refine R1o ?_|refine R2 fun _=>?_
    refine sf_nil ?_
    show Code.sf _ _ _ _ _ _ _ _
    refine sf_fz A8 fun h8 le8 i8=>?_
    have g8:=(gridR τ).lent q80 i8
    have bx8:=(painterR τ).up le8 bx
    have sn:=sceneNew_f (M:=M) h8 _ (gridAt k xx.ver) g8
    rw [show sceneNew (gridAt k xx.ver) = (sceneOf (gridAt k xx.ver),true) by rw [sceneNew,if_pos (gridAt_ok hkh.grid hkh.edits xx.ver)]] at sn
    repeat first|refine R1 ?_|refine R2 fun _=>?_
    refine fp (y_call sn (by rfl) ?_)
    rintro _ A9 ⟨cs9,rfl,q9⟩
    have q90:=q9
    obtain ⟨c9,l9,f9,rfl,w91,w92,w93⟩:=sceneX8 q9
    repeat first|refine R1o ?_|refine R2 fun _=>?_
    refine sf_nil ?_
    show Code.sf _ _ _ _ _ _ _ _
    refine sf_fz A9 fun h9 le9 i9=>?_
    obtain ⟨ca,la,fa,ec,sa1,sa2,sa3⟩:=painterB ((painterR τ).up le9 bx8)
    simp only [List.cons.injEq,and_true,true_and] at ec
    obtain ⟨rfl,rfl,rfl⟩:=ec
    repeat first|refine R1 ?_|refine R2 fun _=>?_
    refine Xv (llScene_v _ _ _ _ _ (sceneB_mk (s:=xx.scene) sa1 sa2 sa3) ((sceneR τ).lent q90 i9)) ?_
    rw [decide_eq_true x3]
    repeat first|refine R1 ?_|refine R2 fun _=>?_
    rw [x1]
    repeat first|refine R1 ?_|refine R2 fun _=>?_
    rw [hb0] at x4
    simp only at x4
    by_cases g1:xx.ver > pt.ver
    ·rw [decide_eq_true g1]
     repeat first|refine R1 ?_|refine R2 fun _=>?_
     exact sf_ret (rO [] rfl)
    ·have g2 : pt.ver = k.edits.length := by
      rcases x4 with y | y | y
      ·exact absurd y g1
      ·exact y.2
      ·cases y.1
     rw [decide_eq_false g1]
     repeat first|refine R1 ?_|refine R2 fun _=>?_
     rw [decide_eq_true g2]
     repeat first|refine R1 ?_|refine R2 fun _=>?_
     exact sf_ret (rO [] rfl)
 ·have hf:keepTell k z = (noWord,false):=by rw [keepTell,if_neg hk]
  rw [hf] at g13 g20 ⊢
  simp only at g13 g20 ⊢
  repeat first|refine R1 ?_|refine R2 fun _=>?_
  refine Xv (llWordP_s _ _ _ _ g20 g13) ?_
  repeat first|refine R1 ?_|refine R2 fun _=>?_
  refine sf_cond (by rfl) (fun _=>?_) fun z=>by cases z
  repeat first|refine R1 ?_|refine R2 fun _=>?_
  refine Xv (llWordP_s _ _ _ _ g20 g13) ?_
  repeat first|refine R1 ?_|refine R2 fun _=>?_
  exact sf_ret (rO [] rfl)
end Go.Proofs.YtcpkcmgjfcbnpaaGreatDoor
namespace Go.Proofs.YtcpkcmgjfcbnpaaGreatDoor
open Go Go.Sl Go.Conc Go.ChangeShapes Go.WideShapes Go.ChangeAt Go.RowKit PHeap
set_option maxRecDepth 100000 in
theorem fnKeepLeads_lifted (os : Os) (started : os.Started) (H : Type) (enc : TypeId × Value → H) :
  ReturnsInLeavingWide Rows.fnKeepLeadsRow.assume Tryz.checked os 10 .any (fun w args=>(Rows.fnKeepLeadsSpec.pre enc Tryz.prog Tryz.f10 Rows.fnKeepLeadsRow.domain false w args∧laidMetH Tryz.prog Rows.fnKeepLeadsRow.laid w)∧sizedMet enc Tryz.prog Tryz.f10 (OpenSpec.ofChange Rows.fnKeepLeadsSpec) false w args)
   (Rows.fnKeepLeadsSpec.post enc Tryz.prog Tryz.f10 false true false false):=by
 refine leavingWide_of_runs (C:=Tryz.checked) (X:=fun w _=>laidMetH Tryz.prog Rows.fnKeepLeadsRow.laid w) (fun _ _ _ hh h=>h.of_heap hh) k_own started Tryz.func10
  (ChangeSpec.witness_at (enc:=enc) (C:=Tryz.checked) (os:=os) (X:=fun w _=>laidMetH Tryz.prog Rows.fnKeepLeadsRow.laid w) false (laidWorld os) #[.slice none 0 0] 16 rfl (by kernel_rfl) (by kernel_rfl) (by kernel_rfl) (by kernel_rfl) (by kernel_rfl) (laidWorld_met os _)) ?_
 intro W base args ds gs before hval0 hW hsz0 hop hlaid
 haveI:=errAt hop hlaid
 have hval:∀ (j:Nat) t v,Tryz.f10.params[j]? = some t→args[j]? = some v→Value.okWide Tryz.prog W .any base t v:=hval0
 have hW':=hW
 obtain ⟨p,q,hA0,hV,rfl,hfz,hnd⟩:=hW
 have hA:DataW.TrodAll enc Tryz.prog W 0 (fun _=>true) true Tryz.f10.params.toList args.toList ds p:=hA0
 have hpar:Tryz.f10.params = #[22]:=rfl
 have hlt:=hW'.lt
 rw [hpar] at hA hval hsz0
 obtain ⟨v0,d0,rfl,rfl,h0⟩:=trodAll_one hA
 obtain ⟨rfl,rfl⟩:=trodVars_none hV
 have hv0:=hval 0 22 v0 rfl rfl
 have hsz1:∀ m ∈ d0.weights Tryz.prog 22,m ≤ reachBytes:=fun m hm=>by
  have:=List.all_eq_true.1 hsz0 m (DataW.weights_mem_each (j:=0) (t:=22) (d:=d0) rfl rfl m hm)
  simpa using this
 have hone0:v0.cells.toList = [v0]:=by
  simp only [Value.okWide,(Ty.und (P:=Tryz.prog) (t:=22))] at hv0
  cases v0 with
  | agg cs=>exact absurd hv0 (by simp [Cell.okWide,Cell.ok,(Ty.und (P:=Tryz.prog) (t:=22))])
  | _=>rfl
 have s0:=h0
 obtain ⟨fuel0,h0⟩:=h0
 rw [hone0] at h0
 obtain ⟨u0,x0,e0,b0⟩:=opens_slF (P:=Tryz.prog) (W:=W) (t:=22) (e:=5) (E:=u8F) rfl (by decide) (by decide) h0 hsz1
 obtain rfl:u0 = v0:=(List.cons.inj e0).1.symm
 simp only [List.append_nil,List.nil_append] at hW' hlt
 refine ⟨fun v=>v = .bool true,ends_of_body (P:=Tryz.prog) (W:=W) (R:=fun v=>v = .bool true) (f:=10) (fn:=Tryz.f10) (vs:=[u0]) (h:=allOf W) rfl (sat_allOf W) (fun _=>rfl) (by kernel_rfl) Tryz.func10 (by kernel_rfl)
  (keepLeads_law (M:=(· = Lone Tryz.prog W (fun v=>v = .bool true))) (allOf W) u0 x0 b0),fun v W' hR hk=>?_⟩
 subst hR
 refine post_of_kept (pa:=p) (pv:=[]) hW' (fun _ _ _=>trodAll_mk1 (shut_bool (P:=Tryz.prog) (Ty.und (t:=4)) true)) (fun sp hs=>?_) (fun _ _=>rfl) (by simp) hk (ok_one rfl rfl (okWide_bool_mk (P:=Tryz.prog) (Ty.und (t:=4)) true))
 have key:=trodAll_mk1 (WideElems.Trod_stays k_laidOut (by kernel_rfl) (of_decide_eq_true (by kernel_rfl)) s0 (fun x hx=>same_kept hk (hlt x (by simp [hx]))) (fun x hx=>hs x (by simp [hx])))
 skip
 exact key
theorem fnKeepLeads_inPlace:(Rows.fnKeepLeadsRow.inPlace == Tryz.prog.inPlace 10) = true:=by kernel_rfl
theorem fnKeepLeads_unfollowed:(Rows.fnKeepLeadsRow.unfollowed == Tryz.prog.unfollowed 10) = true:=by kernel_rfl
theorem fnKeepLeads_recurses:(Rows.fnKeepLeadsRow.recurses == Tryz.prog.recurses 10) = true:=by kernel_rfl
theorem fnKeepLeads_named:(Rows.fnKeepLeadsRow.named == Tryz.prog.varsNamed 10) = true:=by kernel_rfl
theorem fnKeepLeads_loops:(Rows.fnKeepLeadsRow.loops == (Tryz.f10.params.toList++Rows.fnKeepLeadsSpec.plain.varTypes Tryz.prog).any (Tryz.prog.loopsFrom ·)) = true:=by kernel_rfl
theorem fnKeepLeads_facts:joinedFacts Tryz.prog 10 Tryz.f10 Rows.fnKeepLeadsSpec Rows.fnKeepLeadsRow = true:=by
 unfold joinedFacts
 refine and_mk ?_ (by kernel_rfl)
 refine and_mk ?_ (by kernel_rfl)
 refine and_mk ?_ (by kernel_rfl)
 refine and_mk ?_ (by kernel_rfl)
 refine and_mk ?_ k_make
 refine and_mk ?_ k_lifted
 refine and_mk ?_ k_may
 refine and_mk ?_ k_heard
 refine and_mk ?_ (by kernel_rfl)
 refine and_mk ?_ k_plain
 refine and_mk ?_ (by kernel_rfl)
 refine and_mk ?_ (by kernel_rfl)
 refine and_mk ?_ (by kernel_rfl)
 refine and_mk ?_ (by kernel_rfl)
 refine and_mk ?_ (by kernel_rfl)
 refine and_mk ?_ fnKeepLeads_loops
 refine and_mk ?_ (by kernel_rfl)
 refine and_mk ?_ (by kernel_rfl)
 refine and_mk ?_ (by kernel_rfl)
 refine and_mk ?_ fnKeepLeads_named
 refine and_mk ?_ fnKeepLeads_recurses
 refine and_mk ?_ fnKeepLeads_unfollowed
 refine and_mk ?_ fnKeepLeads_inPlace
 refine and_mk ?_ k_stopKnobs
 refine and_mk ?_ (by kernel_rfl)
 refine and_mk ?_ k_stops
 refine and_mk ?_ (by kernel_rfl)
 refine and_mk ?_ (by kernel_rfl)
 refine and_mk ?_ (by kernel_rfl)
 refine and_mk ?_ k_mapsRowed
 refine and_mk ?_ k_laidOut
 kernel_rfl
theorem fnKeepLeads_row:Rows.FnKeepLeadsSaid:=
 OpenClaim.holds_of_wide_leaving 10 Tryz.f10 rfl rfl rfl rfl rfl rfl rfl ⟨rfl,rfl,rfl,rfl,rfl⟩ rfl rfl rfl rfl rfl (by kernel_rfl) Tryz.func10 fnKeepLeads_facts
  (of_decide_eq_true (by kernel_rfl)) (by unfold Func.isWrapper; rw [if_neg (of_decide_eq_false (by kernel_rfl))]; exact ⟨rfl,rfl⟩)
  (fun os started H enc _=>fnKeepLeads_lifted os started H enc)
end Go.Proofs.YtcpkcmgjfcbnpaaGreatDoor

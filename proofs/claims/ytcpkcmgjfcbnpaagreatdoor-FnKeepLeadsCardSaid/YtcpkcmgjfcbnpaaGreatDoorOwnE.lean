/- Walks of the seat: ES KE Wg FkF FkG FkH FkI FkJ FkK KF Z1 Z2 KG Y8 QA QB QC QD QE. -/
import Derived.Test.YtcpkcmgjfcbnpaaGreatDoorOwnA
import Derived.Test.YtcpkcmgjfcbnpaaGreatDoorOwnC
import Derived.Test.YtcpkcmgjfcbnpaaGreatDoorLibD
import Derived.Test.YtcpkcmgjfcbnpaaGreatDoorProg
import Derived.Conc.WgLib
import Derived.KernelRfl
import Derived.Test.YtcpkcmgjfcbnpaaGreatDoorSlK
import Derived.Test.YtcpkcmgjfcbnpaaGreatDoorLibA
import Derived.Test.YtcpkcmgjfcbnpaaGreatDoorSlGo
import Derived.Test.YtcpkcmgjfcbnpaaGreatDoorSlSw
import Derived.Test.YtcpkcmgjfcbnpaaGreatDoorSlEd
import Derived.Test.YtcpkcmgjfcbnpaaGreatDoorSmL
import Derived.Test.YtcpkcmgjfcbnpaaGreatDoorLibJ
import Derived.Test.YtcpkcmgjfcbnpaaGreatDoorOwnD
import Derived.Test.YtcpkcmgjfcbnpaaGreatDoorLibC
import Derived.Test.YtcpkcmgjfcbnpaaGreatDoorSmZ
import Derived.Test.YtcpkcmgjfcbnpaaGreatDoorLibF
import Derived.Test.YtcpkcmgjfcbnpaaGreatDoorLibE
set_option linter.unusedVariables false
set_option linter.unusedSimpArgs false
set_option linter.unusedSectionVars false
namespace Go.Proofs.YtcpkcmgjfcbnpaaGreatDoor
open Go Go.Sl
set_option maxRecDepth 100000
set_option maxHeartbeats 4000000
attribute [local irreducible] Go.Code.sf sfOps Opq opo retF Do1 anyO
variable {M:Jdg→Prop} [IsCl Tryz.prog M]
open Go.Extern
theorem asErr_f (h:PHeap) (b b2:Nat) (s s0:ByteArray):CallF Tryz.prog M 130 [.iface 131 (.agg #[.string s]),.iface 133 (.pointer (some ⟨b,0,none⟩)),.agg #[hdl 133,.pointer (some ⟨b2,0,none⟩),.int .u64 150],rty 131] [(b,.cells #[.string s0] 131),(b2,.cells #[.pointer (some ⟨b,0,none⟩)] 133)] h fun v A=>v = .bool true∧A = []:=by
 refine Cs Tryz.func130 Tryz.ntmps130 ?_
 repeat first|refine R1 ?_|refine R2 fun _=>?_
 rename_i b3
 refine sf_lp (ι:=Unit) [0,3,6] (fun _=>[]) (fun _ O=>O = [(b3,.cells #[hdl 133,.pointer (some ⟨b2,0,none⟩),.int .u64 150] 182),(b,.cells #[.string s0] 131),(b2,.cells #[.pointer (some ⟨b,0,none⟩)] 133)]) (fun _=>0) () [(b3,.cells #[hdl 133,.pointer (some ⟨b2,0,none⟩),.int .u64 150] 182),(b,.cells #[.string s0] 131),(b2,.cells #[.pointer (some ⟨b,0,none⟩)] 133)] rfl ?_
 rintro _ O rfl
 repeat first|refine R1 ?_|refine R2 fun _=>?_
 refine fp (Rq ?_ (q_ext (by infer_instance) (by rfl) fun K E H x=>by rw [show _ = _ from e_typeOf _]; exact x))
 repeat first|refine R1 ?_|refine R2 fun _=>?_
 refine fp (Rq ?_ (q_invokeX (by rfl) (by rfl) (m_assign _) (by infer_instance) fun K E H x=>by rw [show _ = _ from e_assign]; exact x))
 repeat first|refine R1 ?_|refine R2 fun _=>?_
 refine sf_T rfl ?_
 repeat first|refine R1 ?_|refine R2 fun _=>?_
 have sp0:Sp [(b3,Obj.cells #[hdl 133,.pointer (some ⟨b2,0,none⟩),.int .u64 150] 182),(b,.cells #[.string s0] 131),(b2,.cells #[.pointer (some ⟨b,0,none⟩)] 133)] [(b2,.cells #[.pointer (some ⟨b,0,none⟩)] 133)] _:=inferInstance
 refine fp (x_ext (by infer_instance) (by rfl) fun F H r=>?_)
 refine slp_elem (u:=131) (p:=⟨b,0,none⟩) (w:=.agg #[hdl 131,.pointer (some ⟨b,0,none⟩),.int .u64 409]) inferInstance (by rfl) (p_parts _) (by rw [cell_of (r.own b2 (.cells #[.pointer (some ⟨b,0,none⟩)] 133) (by simp)).1]; rfl) (fun K E H x=>by rw [e_elemOf]; exact x) (fun K E H x=>by rw [e_mk]; exact x) ⟨_,r,?_⟩
 clear r
 repeat first|refine R1 ?_|refine R2 fun _=>?_
 refine fp (x_ext (by infer_instance) (by rfl) fun F H r=>?_)
 show (ReflectliteValue.unpack (.iface 131 (.agg #[.string s]))).slp Tryz.prog _ _ H
 rw [e_unpackN]
 intro b4 hb4
 refine ⟨_,r.alloc hb4 _,?_⟩
 clear r hb4
 repeat first|refine R1 ?_|refine R2 fun _=>?_
 refine fp (x_ext (by infer_instance) (by rfl) fun F H r=>?_)
 have r':Rel F h ([(b4,Obj.cells #[.string s] 131),(b3,Obj.cells #[hdl 133,.pointer (some ⟨b2,0,none⟩),.int .u64 150] 182)]++(b,.cells #[.string s0] 131) :: [(b2,.cells #[.pointer (some ⟨b,0,none⟩)] 133)]) H:=r
 obtain ⟨o1,o2,_⟩:=r'.own b (.cells #[.string s0] 131) (by simp)
 refine slp_set (val:=.agg #[.string s]) (p_partsA _) (p_partsN _) (by rfl) (fun K E x=>slp_loadVar inferInstance (cs:=[.string s]) rfl (fun e=>by cases e) (cells_one (by rw [cell_of (r.own b4 (.cells #[.string s] 131) (by simp)).1]; rfl)) x) (fun K E H x=>by rw [e_direct]; exact x) inferInstance rfl o1 o2 (by simp [Value.cells]) (by rfl) ⟨_,r'.set _,?_⟩
 clear r r' o1 o2
 repeat first|refine R1 ?_|refine R2 fun _=>?_
 exact sf_ret (rO [] ⟨rfl,rfl⟩)
theorem errorsAs_f (h:PHeap) [BAt h 0 errObj] (b:Nat) (s s0:ByteArray):CallF Tryz.prog M 85 [.iface 131 (.agg #[.string s]),.iface 133 (.pointer (some ⟨b,0,none⟩))] [(b,.cells #[.string s0] 131)] h fun v A=>v = .bool true∧A = []:=by
 refine Cs Tryz.func85 Tryz.ntmps85 ?_
 repeat first|refine R1 ?_|refine R2 fun _=>?_
 refine fp (Rq ?_ (q_eqI (.inr ⟨_,_,rfl,rfl⟩) (by infer_instance) (by rfl)))
 repeat first|refine R1 ?_|refine R2 fun _=>?_
 refine sf_N rfl ?_
 repeat first|refine R1 ?_|refine R2 fun _=>?_
 refine fp (Rq ?_ (q_eqI (.inr ⟨_,_,rfl,rfl⟩) (by infer_instance) (by rfl)))
 repeat first|refine R1 ?_|refine R2 fun _=>?_
 refine sf_N rfl ?_
 repeat first|refine R1 ?_|refine R2 fun _=>?_
 refine fp (x_ext (by infer_instance) (by rfl) fun F H r=>?_)
 show (ReflectliteValue.unpack (.iface 133 (.pointer (some ⟨b,0,none⟩)))).slp Tryz.prog _ _ H
 rw [e_unpackP]
 intro b2 hb2
 refine ⟨_,r.alloc hb2 _,?_⟩
 clear r hb2
 repeat first|refine R1 ?_|refine R2 fun _=>?_
 refine fp (Rq ?_ (q_ext (by infer_instance) (by rfl) fun K E H x=>by rw [show _ = _ from e_type _ _]; exact x))
 repeat first|refine R1 ?_|refine R2 fun _=>?_
 refine fp (Rq ?_ (q_invokeX (by rfl) (by rfl) (m_kind _) (by infer_instance) fun K E H x=>by rw [show _ = _ from e_kindP]; exact x))
 repeat first|refine R1 ?_|refine R2 fun _=>?_
 refine fp (x_ext (by infer_instance) (by rfl) fun F H r=>?_)
 refine slp_isNil (u:=131) (p:=⟨b,0,none⟩) inferInstance (by rfl) (p_parts _) (by rw [cell_of (r.own b2 (.cells #[.pointer (some ⟨b,0,none⟩)] 133) (by simp)).1]; rfl) ⟨_,r,?_⟩
 clear r
 repeat first|refine R1 ?_|refine R2 fun _=>?_
 refine sf_N rfl ?_
 repeat first|refine R1 ?_|refine R2 fun _=>?_
 refine fp (Rq ?_ (q_invokeX (by rfl) (by rfl) (m_elem _) (by infer_instance) fun K E H x=>by rw [show _ = _ from e_elem]; exact x))
 repeat first|refine R1 ?_|refine R2 fun _=>?_
 refine fp (Rq ?_ (q_invokeX (by rfl) (by rfl) (m_kind _) (by infer_instance) fun K E H x=>by rw [show _ = _ from e_kindN]; exact x))
 repeat first|refine R1 ?_|refine R2 fun _=>?_
 refine fp (Rq ?_ (q_invokeX (by rfl) (by rfl) (m_impl _) (by infer_instance) fun K E H x=>by rw [show _ = _ from e_impl]; exact x))
 repeat first|refine R1 ?_|refine R2 fun _=>?_
 refine sf_N rfl ?_
 repeat first|refine R1 ?_|refine R2 fun _=>?_
 refine fp (y_call (asErr_f h b b2 s s0) (by rfl) ?_)
 rintro _ _ ⟨rfl,rfl⟩
 repeat first|refine R1 ?_|refine R2 fun _=>?_
 exact sf_ret (rO [] ⟨rfl,rfl⟩)
def ErrIs (v:Value) (b:Bool):Prop:=(v = .nilIface∧b = false) ∨ ∃ s,v = .iface 131 (.agg #[.string s])∧b = true
theorem ErrIs.one {v:Value} {b:Bool} (e:ErrIs v b):Sl.One v:=by
 rcases e with ⟨rfl,_⟩ | ⟨s,rfl,_⟩ <;> infer_instance
theorem errorsAs_nil' (h:PHeap) (u:TypeId) (z:Value):CallV Tryz.prog M 85 [.nilIface,.iface u z] h (.bool false):=by
 refine Cs Tryz.func85 Tryz.ntmps85 ?_
 repeat first|refine R1 ?_|refine R2 fun _=>?_
 refine fp (Rq ?_ (q_eqI (.inl ⟨rfl,rfl⟩) (by infer_instance) (by rfl)))
 repeat first|refine R1 ?_|refine R2 fun _=>?_
 refine sf_T rfl ?_
 repeat first|refine R1 ?_|refine R2 fun _=>?_
 exact sf_ret (rV rfl)
theorem refused_v (h:PHeap) [BAt h 0 errObj] (v:Value) (b:Bool) (e:ErrIs v b):CallV Tryz.prog M 46 [v] h (.bool b):=by
 have o1:=e.one
 refine Cs Tryz.func46 Tryz.ntmps46 ?_
 repeat first|refine R1 ?_|refine R2 fun _=>?_
 rename_i b1
 rcases e with ⟨rfl,rfl⟩ | ⟨s,rfl,rfl⟩
 ·refine Xv (errorsAs_nil' _ _ _) ?_
  repeat first|refine R1 ?_|refine R2 fun _=>?_
  exact sf_ret (rV rfl)
 ·refine fp (y_call (errorsAs_f h b1 s ⟨#[]⟩) (by rfl) ?_)
  rintro _ _ ⟨rfl,rfl⟩
  repeat first|refine R1 ?_|refine R2 fun _=>?_
  exact sf_ret (rV rfl)
theorem neqErr {n:Nat} {L:Locals} {O:Own} {h:PHeap} {d:Option Nat} {t' ty:TypeId} {pos:String} {af:Array Edge} {g:Option (Nat × Bool)} {x:Operand} {v:Value} {b:Bool} (e:ErrIs v b) (hx:Sl.ev L x = some v):Opq Tryz.prog n ⟨d,.binOp .neq 90 x (.const .nilIface) t',ty,pos,af,g⟩ L O h (.bool b):=by
 rcases e with ⟨rfl,rfl⟩ | ⟨s,rfl,rfl⟩
 ·exact q_neqI (.inl ⟨rfl,rfl⟩) inferInstance hx
 ·exact q_neqI (.inr ⟨_,_,rfl,rfl⟩) inferInstance hx
end Go.Proofs.YtcpkcmgjfcbnpaaGreatDoor
namespace Go.Proofs.YtcpkcmgjfcbnpaaGreatDoor
open Go Go.Sl
set_option maxRecDepth 100000
set_option maxHeartbeats 4000000
attribute [local irreducible] Go.Code.sf sfOps Opq opo retF Do1 anyO
variable {M:Jdg→Prop} [IsCl Tryz.prog M]
theorem editOk_v (h:PHeap) (c:Value) (g:Grid) (s:Sl h c cellF g.cells) (e:Edit):CallV Tryz.prog M 103 [.agg #[.int .i64 g.wide,c],.agg #[.int .i64 e.at',.int .i64 e.cell.kind,.int .i64 e.cell.light]] h (.bool (editOk g e)):=by
 have o1:=s.one
 refine Cs Tryz.func103 Tryz.ntmps103 ?_
 repeat first|refine R1 ?_|refine R2 fun _=>?_
 refine Xv (cellOk_v _ e.cell) ?_
 repeat first|refine R1 ?_|refine R2 fun _=>?_
 refine f_splitB (fun h1=>?_) fun h1=>?_
 ·repeat first|refine R1 ?_|refine R2 fun _=>?_
  refine f_split (fun h2=>?_) fun h2=>?_ <;>
  ·repeat first|refine R1 ?_|refine R2 fun _=>?_
   refine sf_ret (rV ?_)
   simp [editOk,h1,h2]
 ·repeat first|refine R1 ?_|refine R2 fun _=>?_
  refine sf_ret (rV ?_)
  simp [editOk,h1]
theorem editsOk_v (h:PHeap) (c:Value) (g:Grid) (s:Sl h c cellF g.cells) (v:Value) (es:List Edit) (s2:Sl h v editF es):CallV Tryz.prog M 86 [.agg #[.int .i64 g.wide,c],v] h (.bool (editsOk g es)):=by
 have o1:=s.one
 have o2:=s2.one
 have hs:=s2.small
 refine Cs Tryz.func86 Tryz.ntmps86 ?_
 repeat first|refine R1 ?_|refine R2 fun _=>?_
 refine sf_rd [2,7,8] 9 es.length 0 (fun k=>editsOk g (es.take k) = true) (by omega) rfl (fun k hk hi=>?_)
 repeat first|refine R1 ?_|refine R2 fun _=>?_
 refine sf_if (fun h4=>?_) fun h4=>?_
 ·have hk4:k < es.length:=by omega
  repeat first|refine R1 ?_|refine R2 fun _=>?_
  refine Xv (editOk_v _ c g s (gt es k)) ?_
  repeat first|refine R1 ?_|refine R2 fun _=>?_
  refine sf_cond (by rfl) (fun h5=>?_) fun h5=>?_
  ·repeat first|refine R1 ?_|refine R2 fun _=>?_
   simp only [Bool.not_eq_true'] at h5
   refine sf_ret (rV ?_)
   rw [editsOk,all_false hk4 h5]
  ·repeat first|refine R1 ?_|refine R2 fun _=>?_
   refine ⟨⟨hk4,?_⟩,rfl,rfl,_,inferInstance⟩
   rw [editsOk,all_take hk4]
   rw [editsOk] at hi
   rw [hi]; simpa using h5
 ·refine sf_exit ?_
  repeat first|refine R1 ?_|refine R2 fun _=>?_
  rw [take_ge hk (by omega)] at hi
  exact sf_ret (rV (by rw [hi]))
theorem paintIdOk_v (h:PHeap) (id many:Int):CallV Tryz.prog M 71 [.int .i64 id,.int .i64 many] h (.bool (decide (1 ≤ many) && decide (many ≤ 3) && decide (1 ≤ id) && decide (id ≤ many))):=by
 refine Cs Tryz.func71 Tryz.ntmps71 ?_
 refine Wo ?_
 refine f_split (fun h1=>?_) fun h1=>?_
 ·refine Wo ?_
  refine f_split (fun h2=>?_) fun h2=>?_
  ·refine Wo ?_
   refine f_split (fun h3=>?_) fun h3=>?_ <;>
   ·refine Wo ?_
    refine sf_ret (rV ?_)
    simp [h1,h2,h3]
  ·refine Wo ?_
   refine sf_ret (rV ?_)
   simp [h1,h2]
 ·refine Wo ?_
  refine sf_ret (rV ?_)
  simp [h1]
theorem keepVersion_f (h:PHeap) (ca:List Value) (k:Keeper) (b:(keeperR τ).B h ca k) (v:Int):CallF Tryz.prog M 57 [.agg ca.toArray,.int .i64 v] [] h fun u A=>ErrIs u (!verOk k v)∧A = []:=by
 obtain ⟨c,e,p,s,rfl,s1,s2,s3,s4⟩:=keeperB b
 have o1:=s1.one
 have o2:=s2.one
 have o3:=s3.one
 have o4:=s4.one
 refine Cs Tryz.func57 Tryz.ntmps57 ?_
 repeat first|refine R1 ?_|refine R2 fun _=>?_
 refine f_split (fun h1=>?_) fun h1=>?_
 ·repeat first|refine R1 ?_|refine R2 fun _=>?_
  refine sf_T rfl ?_
  repeat first|refine R1 ?_|refine R2 fun _=>?_
  exact sf_ret (rO [] ⟨.inr ⟨_,rfl,by simp [verOk]; omega⟩,rfl⟩)
 ·repeat first|refine R1 ?_|refine R2 fun _=>?_
  refine sf_if (fun h2=>?_) fun h2=>?_
  ·repeat first|refine R1 ?_|refine R2 fun _=>?_
   exact sf_ret (rO [] ⟨.inr ⟨_,rfl,by simp [verOk]; omega⟩,rfl⟩)
  ·repeat first|refine R1 ?_|refine R2 fun _=>?_
   exact sf_ret (rO [] ⟨.inl ⟨rfl,by simp [verOk]; omega⟩,rfl⟩)
theorem keepGridOf_f (h:PHeap) (ca:List Value) (k:Keeper) (b:(keeperR τ).B h ca k) (hk:HeadOk k) (v:Int) (hv:verOk k v = true):CallF Tryz.prog M 58 [.agg ca.toArray,.int .i64 v] [] h fun u A=>∃ cs,u = .agg cs.toArray∧(gridR τ).O A cs (gridAt k v):=by
 obtain ⟨c,e,p,s,rfl,s1,s2,s3,s4⟩:=keeperB b
 have o1:=s1.one
 have o2:=s2.one
 have o3:=s3.one
 have o4:=s4.one
 have hsm:=(gok hk.grid).small
 have h60:=hk.e60
 simp only [verOk,Bool.and_eq_true,decide_eq_true_eq] at hv
 obtain ⟨n,rfl⟩:∃ n:Nat,v = n:=⟨v.toNat,by omega⟩
 obtain ⟨v',sv,op⟩:=s2.upTo (l:=n) (by omega)
 have ov:=sv.one
 have hln:(k.edits.take n).length = n:=by rw [List.length_take]; omega
 have hed:=editsOk_take hk.edits n
 have hgd:gridAt k (n:Nat) = gridAfter k.first (k.edits.take n):=rfl
 rw [hgd]
 clear hgd
 refine Cs Tryz.func58 Tryz.ntmps58 ?_
 repeat first|refine R1 ?_|refine R2 fun _=>?_
 refine fp (y_call (gridCopy_f _ _ k.first (gridB_mk s1) (by omega)) (by rfl) ?_)
 rintro _ A1 ⟨_,rfl,q⟩
 obtain ⟨c2,rfl,g1,l1⟩:=gridO q
 have o5:=g1.one
 repeat first|refine R1 ?_|refine R2 fun _=>?_
 refine fp (Rq ?_ (op (by infer_instance) (by infer_instance) (by rfl) (by rfl)))
 generalize k.edits.take n = es at *
 repeat first|refine R1 ?_|refine R2 fun _=>?_
 rename_i b2 b4 b5
 refine sf_lp (ι:=Nat) [4,5,14,15] (fun i=>[(16,.int .i64 (i:Int))]) (fun i O=>i ≤ es.length∧∃ A',O = (b5,.cells #[.int .i64 k.first.wide,c2] 25) :: (A'++[(b4,.cells #[.int .i64 0,.slice none 0 0] 25)])∧∃ cs,cs = (gridAfter k.first (es.take i)).cells∧cs.length = k.first.cells.length∧Gr A' c2 46 cellF cs) (fun i=>es.length - i) 0 ((b5,.cells #[.int .i64 k.first.wide,c2] 25) :: (A1++[(b4,.cells #[.int .i64 0,.slice none 0 0] 25)])) ⟨by omega,_,rfl,_,rfl,rfl,g1⟩ ?_
 rintro i O ⟨hi,A',rfl,cs,ecs,lcs,gr⟩
 have o6:=gr.one
 repeat first|refine R1 ?_|refine R2 fun _=>?_
 refine sf_if (fun h4=>?_) fun h4=>?_
 ·have hi4:i < es.length:=by omega
  obtain ⟨e1,e2,e3⟩:=editOk_is (editsOk_at hed hi4)
  obtain ⟨a,ha⟩:∃ a:Nat,(gt es i).at' = a:=⟨(gt es i).at'.toNat,by omega⟩
  repeat first|refine R1 ?_|refine R2 fun _=>?_
  simp only [ha]
  repeat first|refine R1 ?_|refine R2 fun _=>?_
  refine Xg gr fun A2 cs2 ec lc _ g2=>?_
  repeat first|refine R1 ?_|refine R2 fun _=>?_
  refine ⟨i + 1,by omega,⟨rfl,trivial⟩,rfl,(b5,.cells #[.int .i64 k.first.wide,c2] 25) :: (A2++[(b4,.cells #[.int .i64 0,.slice none 0 0] 25)]),_,inferInstance,by omega,A2,rfl,cs2,?_,by omega,g2⟩
  rw [gridAfter_step hi4,putCell,ec,ecs,ha]; rfl
 ·refine sf_exit ?_
  repeat first|refine R1 ?_|refine R2 fun _=>?_
  rw [take_ge hi (by omega)] at ecs
  refine sf_ret (rO A' ⟨_,rfl,?_⟩)
  have:=gridO_mk (τ:=τ) (g:=gridAfter k.first es) (c:=c2) (A:=A') (by rw [← ecs]; exact gr) (by rw [← ecs]; omega)
  rw [(gridAfter_same es k.first).1] at this
  exact this
theorem sightMany_ok {g:Grid} (h:gridOk g = true):sightMany g = manyOf g:=by rw [sightMany,if_pos h]
theorem paintOwn_f (h:PHeap) (ca:List Value) (g:Grid) (b:(gridR τ).B h ca g) (e:gridOk g = true) (id many:Nat) (h1:1 ≤ id) (h2:id ≤ many) (h3:many ≤ 3):CallF Tryz.prog M 34 [.agg ca.toArray,.int .i64 (id:Int),.int .i64 (many:Int)] [] h fun u A=>Gr A u 3 intF (ownList (manyOf g).toNat many id):=by
 obtain ⟨c,rfl,s⟩:=gridB b
 have o1:=s.one
 have hm:=(gok e).many
 obtain ⟨S,hS⟩:∃ S:Nat,manyOf g = S:=⟨(manyOf g).toNat,by omega⟩
 rw [hS] at hm ⊢
 simp only [Int.toNat_natCast]
 have hc:∀ j,j < ownCnt S many id ↔ id - 1 + j * many < S:=fun j=>ownCnt_lt h1 h2 h3
 refine Cs Tryz.func34 Tryz.ntmps34 ?_
 repeat first|refine R1 ?_|refine R2 fun _=>?_
 refine Xv (paintIdOk_v _ _ _) ?_
 rw [show (decide ((1:Int) ≤ (many:Int)) && decide ((many:Int) ≤ 3) && decide (1 ≤ (id:Int)) && decide ((id:Int) ≤ (many:Int))) = true by simp; omega]
 repeat first|refine R1 ?_|refine R2 fun _=>?_
 refine sf_cond (by rfl) (fun e=>by cases e) fun z1=>?_
 clear z1
 repeat first|refine R1 ?_|refine R2 fun _=>?_
 rename_i b3
 rw [show (id:Int) - 1 = ((id - 1 + 0 * many:Nat):Int) by omega]
 refine sf_lp (ι:=Nat × Value) [2,3] (fun x=>[(8,.int .i64 ((id - 1 + x.1 * many:Nat):Int)),(7,x.2)]) (fun x O=>x.1 ≤ ownCnt S many id∧∃ A',O = A'++[(b3,.cells #[.int .i64 g.wide,c] 25)]∧∃ xs,xs.length = x.1∧xs = ((List.range x.1).map fun j=>((id - 1 + j * many:Nat):Int))∧Gr A' x.2 3 intF xs) (fun x=>ownCnt S many id - x.1) (0,.slice none 0 0) ([]++[(b3,.cells #[.int .i64 g.wide,c] 25)]) ⟨by omega,[],rfl,[],rfl,rfl,Gr.nil _ _⟩ ?_
 rintro ⟨j,v⟩ O ⟨hj,A',rfl,xs,lx,ex,gr⟩
 simp only at hj lx ex gr ⊢
 have o2:=gr.one
 repeat first|refine R1 ?_|refine R2 fun _=>?_
 refine Xv (sightMany_v _ _ g b) ?_
 rw [sightMany_ok e,hS]
 have hjm:j * many ≤ 20 * 3∧j ≤ 20:=by
  rcases Nat.eq_zero_or_pos j with rfl | hj0
  ·omega
  ·have:=(hc (j - 1)).1 (by omega)
   have h4:(j - 1) * many ≤ 20 * 3:=by omega
   have h5:j * many = (j - 1) * many + many:=by
    obtain ⟨k,rfl⟩:∃ k,j = k + 1:=⟨j - 1,by omega⟩
    rw [Nat.add_sub_cancel,Nat.add_mul,Nat.one_mul]
   have h6:j ≤ 20:=by
    have:(j - 1) * 1 ≤ (j - 1) * many:=Nat.mul_le_mul_left _ (by omega)
    omega
   exact ⟨Nat.mul_le_mul h6 h3,h6⟩
 repeat first|refine R1 ?_|refine R2 fun _=>?_
 refine sf_if (fun h4=>?_) fun h4=>?_
 ·have hj4:j < ownCnt S many id:=(hc j).2 (by omega)
  repeat first|refine R1 ?_|refine R2 fun _=>?_
  refine Xb fun u Au gu=>?_
  repeat first|refine R1 ?_|refine R2 fun _=>?_
  refine Xa gr gu fun v2 A2 g2=>?_
  repeat first|refine R1 ?_|refine R2 fun _=>?_
  refine ⟨(j + 1,v2),by simp only; omega,⟨?_,rfl,trivial⟩,rfl,A2++[(b3,.cells #[.int .i64 g.wide,c] 25)],_,inferInstance,by simp only; omega,A2,rfl,_,by simp; omega,by rw [ownList_step,ex],g2⟩
  rw [show ((id - 1 + (j + 1) * many:Nat):Int) = ((id - 1 + j * many:Nat):Int) + (many:Int) by rw [Nat.add_mul,Nat.one_mul]; omega]
  rfl
 ·refine sf_exit ?_
  have:j = ownCnt S many id:=by
   rcases Nat.lt_or_ge j (ownCnt S many id) with h | h
   ·have:=(hc j).1 h; omega
   ·omega
  repeat first|refine R1 ?_|refine R2 fun _=>?_
  refine sf_ret (rO A' ?_)
  rw [ownList,← this,← ex]; exact gr
theorem intsEqual_v (h:PHeap) (a b:Value) (xs ys:List Int) (sx:Sl h a intF xs) (sy:Sl h b intF ys):CallV Tryz.prog M 88 [a,b] h (.bool (decide (xs = ys))):=by
 have o1:=sx.one
 have o2:=sy.one
 have hx:=sx.small
 have hy:=sy.small
 refine Cs Tryz.func88 Tryz.ntmps88 ?_
 refine Wo ?_
 refine sf_if (fun e0=>?_) fun e0=>?_
 ·refine Wo ?_
  exact sf_ret (rV (bF fun e=>e0 (by rw [e])))
 have hl:xs.length = ys.length:=by omega
 refine Wo ?_
 refine sf_rd [0,1,12] 13 xs.length 0 (fun k=>xs.take k = ys.take k) (by omega) rfl (fun k hk hi=>?_)
 refine Wo ?_
 refine sf_if (fun h4=>?_) fun h4=>?_
 ·have hk4:k < xs.length:=by omega
  have hk5:k < ys.length:=by omega
  refine Wo ?_
  refine Sd [[],[],[0,1],[0,1,2],[],[],[4,5],[4,5,6],[0,1,2,3,4,5,6,7]] 8 [Nn 0,Nn 1,Nn 2,Nn 3,Nn 4,Nn 5,Nn 6,Nn 7] ?_
  refine Da ?_
  refine Ae ?_
  refine Wo ?_
  refine sf_if (fun e1=>?_) fun e1=>?_
  ·refine Wo ?_
   exact sf_ret (rV (bF (eq_at e1)))
  ·refine Wo ?_
   exact ⟨⟨hk4,eq_step hk4 hk5 hi (by simpa using e1)⟩,rfl,rfl,_,inferInstance⟩
 ·refine sf_exit ?_
  refine Wo ?_
  exact sf_ret (rV (bT (eq_end hl (by omega) hi)))
end Go.Proofs.YtcpkcmgjfcbnpaaGreatDoor
namespace Go.Proofs.YtcpkcmgjfcbnpaaGreatDoor
open Go
abbrev wgLink:Go.Conc.Lib.WgLink:={ add:=135,done:=137,wait:=138,relMerge:=164,disable:=165,enable:=166,inBubble:=167,associate:=168,fatal:=169,uOr:=170,uAdd:=171,raceRead:=172,uLoad:=173,uStore:=174,disassociate:=175,semrelease:=176,acquire:=177,isAssociated:=178,uCas:=179,raceWrite:=180,semacquire:=181,orU64:=199,addU64:=200,loadU64:=201,storeU64:=202,casU64:=203,tWgP:=250,tUP:=179,tAssoc:=252,tWg:=205,tAU:=202,tU64:=200,tUint:=256,tU32:=203,tPU32:=257,tPAU:=281,tPU64:=283,tNoCopy:=197,tANoCopy:=198,tAlign64:=199 }
theorem wgLib:Go.Conc.Lib.WgLib Tryz.prog wgLink:=
 ⟨Tryz.func135,Tryz.func137,Tryz.func138,Tryz.func164,Tryz.func165,Tryz.func166,Tryz.func167,Tryz.func168,Tryz.func169,Tryz.func170,Tryz.func171,Tryz.func172,Tryz.func173,Tryz.func174,Tryz.func175,Tryz.func176,Tryz.func177,Tryz.func178,Tryz.func179,Tryz.func180,Tryz.func181,Tryz.func199,Tryz.func200,Tryz.func201,Tryz.func202,Tryz.func203,Tryz.underlying250,Tryz.runUnderlying250,Tryz.sizeOf250,Tryz.isAgg250,Tryz.zeroValue250,Tryz.underlying179,Tryz.runUnderlying179,Tryz.sizeOf179,Tryz.isAgg179,Tryz.zeroValue179,Tryz.underlying252,Tryz.runUnderlying252,Tryz.sizeOf252,Tryz.isAgg252,Tryz.zeroValue252,Tryz.underlying205,Tryz.runUnderlying205,Tryz.sizeOf205,Tryz.isAgg205,Tryz.zeroValue205,Tryz.underlying202,Tryz.runUnderlying202,Tryz.sizeOf202,Tryz.isAgg202,Tryz.zeroValue202,Tryz.underlying200,Tryz.runUnderlying200,Tryz.sizeOf200,Tryz.isAgg200,Tryz.zeroValue200,Tryz.underlying256,Tryz.runUnderlying256,Tryz.sizeOf256,Tryz.isAgg256,Tryz.zeroValue256,Tryz.underlying203,Tryz.runUnderlying203,Tryz.sizeOf203,Tryz.isAgg203,Tryz.zeroValue203,Tryz.underlying257,Tryz.runUnderlying257,Tryz.sizeOf257,Tryz.isAgg257,Tryz.zeroValue257,Tryz.underlying281,Tryz.runUnderlying281,Tryz.sizeOf281,Tryz.isAgg281,Tryz.zeroValue281,Tryz.underlying283,Tryz.runUnderlying283,Tryz.sizeOf283,Tryz.isAgg283,Tryz.zeroValue283,Tryz.underlying0,Tryz.runUnderlying0,Tryz.sizeOf0,Tryz.isAgg0,Tryz.zeroValue0,Tryz.underlying3,Tryz.runUnderlying3,Tryz.sizeOf3,Tryz.isAgg3,Tryz.zeroValue3,Tryz.underlying4,Tryz.runUnderlying4,Tryz.sizeOf4,Tryz.isAgg4,Tryz.zeroValue4,Tryz.underlying9,Tryz.runUnderlying9,Tryz.sizeOf9,Tryz.isAgg9,Tryz.zeroValue9,Tryz.underlying20,Tryz.runUnderlying20,Tryz.sizeOf20,Tryz.isAgg20,Tryz.zeroValue20,Tryz.underlying21,Tryz.runUnderlying21,Tryz.sizeOf21,Tryz.isAgg21,Tryz.zeroValue21,(by kernel_rfl),(by kernel_rfl)⟩
end Go.Proofs.YtcpkcmgjfcbnpaaGreatDoor
namespace Go.Proofs.YtcpkcmgjfcbnpaaGreatDoor
open Go Go.Sl Go.Conc
set_option maxRecDepth 100000
noncomputable def loop52:Code:=match Tryz.f136.body with
 | some (.seq _ (.seq _ (.seq (.seq _ b) _)))=>b
 | _=>.skip
abbrev wl (bS bC bO bCh:Nat) (v:Value) (k:Nat):Locals:=[(1,.pointer (some ⟨bS,0,none⟩)),(2,.pointer (some ⟨bC,0,none⟩)),(3,.pointer (some ⟨bO,0,none⟩)),(4,.pointer (some ⟨bCh,0,none⟩)),(5,v),(6,.int .i64 (k:Int))]
section
variable {M:Jdg→Prop} [IsCl Tryz.prog M]
attribute [local irreducible] Go.Code.so soOps Opq opo retO
theorem worker_loop (B : PHeap) (Wg : Nat) (bS bC bO bCh : Nat) (st : Nat → Nat) (fn : FuncId) (Fun52 : Fun Tryz.prog fn) (first cap : Array Value) (val : Nat → Int) (j : Nat) (hj : j < 4) (s4 : ∀ i, i < 5 → st i ≤ 1048576) (mono : st j ≤ st (j + 1))
  (hS:BAt B bS (.cells #[.int .i64 (st 0),.int .i64 (st 1),.int .i64 (st 2),.int .i64 (st 3),.int .i64 (st 4)] 193 (0,0)))
  (hC:BAt B bC (.cells #[.int .i64 j] 3 (0,0))) (hO:BAt B bO (.cells #[.func (.func fn) first cap] 97 (0,0)))
  (of:∀ (B':PHeap),Le B B'→∀ k,st j ≤ k→k < st (j + 1)→CallsR Tryz.prog M fn (first.toList++[.int .i64 (k:Int)]++cap.toList) B' fun v _=>v = .int .i64 (val k)) (L:Locals)
  (hL:Locals.sub (wl bS bC bO bCh (.slice none 0 0) (st j)) L) :
  loop52.so Tryz.prog M 28 (fun e L' A h'=>e = .nrm∧∃ v,Locals.sub [(2,.pointer (some ⟨bC,0,none⟩)),(4,.pointer (some ⟨bCh,0,none⟩)),(5,v)] L'∧Gr A v 3 intF ((List.range' (st j) (st (j + 1) - st j)).map val)) L [] B:=by
 simp only [loop52,Tryz.f136]
 refine so_block ?_
 refine so_loop (ι:=Nat) (A:=fun k L O h'=>st j ≤ k∧k ≤ st (j + 1)∧∃ v,L = wl bS bC bO bCh v k∧Gr O v 3 intF ((List.range' (st j) (k - st j)).map val)) (fun k=>st (j + 1) - k) (st j) hL ⟨Nat.le_refl _,mono,_,rfl,by simpa using Gr.nil _ _⟩ ?_
 rintro k _ O h' le ⟨k1,k2,v,rfl,gr⟩
 have hk:=s4 (j + 1) (by omega)
 obtain rfl | rfl | rfl | rfl:j = 0 ∨ j = 1 ∨ j = 2 ∨ j = 3:=by omega
 ·refine so_seq ?_
  refine so_seq ?_
  refine so_reg ?_
  refine so_q (q_move (by rfl)) ?_
  refine so_q (q_loadB (by infer_instance) (by rfl) (by infer_instance) (by rfl) (by rfl)) ?_
  refine Run.go ?_
  refine so_q (q_indexP (by infer_instance) (by infer_instance) (by rfl) (by rfl) (by decide) (by decide)) ?_
  refine so_q (q_loadB (by infer_instance) (by rfl) (by infer_instance) (by rfl) (by rfl)) ?_
  refine Run.go ?_
  refine so_cond rfl (fun h1=>?_) (fun h1=>?_)
  ·have hlt:k < st 1:=by simpa using h1
   refine Run.go ?_
   refine so_q (q_loadB (by infer_instance) (by rfl) (by infer_instance) (by rfl) (by rfl)) ?_
   refine Run.go ?_
   refine op_callv Fun52 (vs:=[.int .i64 (k:Int)]) (by rfl) (of h' le k k1 hlt) (.refl ([]++O)) (by rfl) ?_
   rintro u A' h'' le2 ⟨rfl,rfl⟩
   refine Run.go ?_
   refine op_buildSlice (by infer_instance) (by infer_instance) (by rfl) (by rfl) (by rfl) (by rfl) fun b=>?_
   refine Run.go ?_
   refine op_append (ys:=[val k]) (R:=[(b,.cells [Value.int .i64 (val k)].toArray 3 (0,0))]) (by rfl) (by rfl) (by infer_instance) (by infer_instance) (by rfl) gr (List.perm_append_singleton _ _).symm rfl (src_own (by infer_instance)) (by simp [intF,allOne]; rfl) (by simp; omega) (by simp; omega) fun v' A' gr'=>?_
   refine so_drop (O':=A') (List.sublist_append_left _ _) ?_
   refine Run.go ?_
   have hw:IntKind.i64.wrap ((k:Int) + 1) = ((k + 1:Nat):Int):=by rw [IntKind.wrap_i64]; omega
   have hr:List.range' (st 0) (k + 1 - st 0) = List.range' (st 0) (k - st 0)++[k]:=by
    rw [show k + 1 - st 0 = (k - st 0) + 1 by omega,List.range'_1_concat,show st 0 + (k - st 0) = k by omega]
   refine ⟨k + 1,wl bS bC bO bCh v' (k + 1),by simp only [Nat.reduceAdd]; omega,⟨rfl,rfl,rfl,rfl,rfl,?_,trivial⟩,by omega,by simp only [Nat.reduceAdd]; omega,v',rfl,?_⟩
   ·rw [← hw]; rfl
   ·rw [hr,List.map_append]; exact gr'
  ·have hge : k = st 1 := by
    have:¬ (k < st 1):=by simpa using h1
    simp only [Nat.reduceAdd] at k2
    omega
   subst hge
   refine so_exit ?_
   exact ⟨rfl,v,⟨rfl,rfl,rfl,trivial⟩,gr⟩
 ·refine so_seq ?_
  refine so_seq ?_
  refine so_reg ?_
  refine so_q (q_move (by rfl)) ?_
  refine so_q (q_loadB (by infer_instance) (by rfl) (by infer_instance) (by rfl) (by rfl)) ?_
  refine Run.go ?_
  refine so_q (q_indexP (by infer_instance) (by infer_instance) (by rfl) (by rfl) (by decide) (by decide)) ?_
  refine so_q (q_loadB (by infer_instance) (by rfl) (by infer_instance) (by rfl) (by rfl)) ?_
  refine Run.go ?_
  refine so_cond rfl (fun h1=>?_) (fun h1=>?_)
  ·have hlt:k < st 2:=by simpa using h1
   refine Run.go ?_
   refine so_q (q_loadB (by infer_instance) (by rfl) (by infer_instance) (by rfl) (by rfl)) ?_
   refine Run.go ?_
   refine op_callv Fun52 (vs:=[.int .i64 (k:Int)]) (by rfl) (of h' le k k1 hlt) (.refl ([]++O)) (by rfl) ?_
   rintro u A' h'' le2 ⟨rfl,rfl⟩
   refine Run.go ?_
   refine op_buildSlice (by infer_instance) (by infer_instance) (by rfl) (by rfl) (by rfl) (by rfl) fun b=>?_
   refine Run.go ?_
   refine op_append (ys:=[val k]) (R:=[(b,.cells [Value.int .i64 (val k)].toArray 3 (0,0))]) (by rfl) (by rfl) (by infer_instance) (by infer_instance) (by rfl) gr (List.perm_append_singleton _ _).symm rfl (src_own (by infer_instance)) (by simp [intF,allOne]; rfl) (by simp; omega) (by simp; omega) fun v' A' gr'=>?_
   refine so_drop (O':=A') (List.sublist_append_left _ _) ?_
   refine Run.go ?_
   have hw:IntKind.i64.wrap ((k:Int) + 1) = ((k + 1:Nat):Int):=by rw [IntKind.wrap_i64]; omega
   have hr:List.range' (st 1) (k + 1 - st 1) = List.range' (st 1) (k - st 1)++[k]:=by
    rw [show k + 1 - st 1 = (k - st 1) + 1 by omega,List.range'_1_concat,show st 1 + (k - st 1) = k by omega]
   refine ⟨k + 1,wl bS bC bO bCh v' (k + 1),by simp only [Nat.reduceAdd]; omega,⟨rfl,rfl,rfl,rfl,rfl,?_,trivial⟩,by omega,by simp only [Nat.reduceAdd]; omega,v',rfl,?_⟩
   ·rw [← hw]; rfl
   ·rw [hr,List.map_append]; exact gr'
  ·have hge : k = st 2 := by
    have:¬ (k < st 2):=by simpa using h1
    simp only [Nat.reduceAdd] at k2
    omega
   subst hge
   refine so_exit ?_
   exact ⟨rfl,v,⟨rfl,rfl,rfl,trivial⟩,gr⟩
 ·refine so_seq ?_
  refine so_seq ?_
  refine so_reg ?_
  refine so_q (q_move (by rfl)) ?_
  refine so_q (q_loadB (by infer_instance) (by rfl) (by infer_instance) (by rfl) (by rfl)) ?_
  refine Run.go ?_
  refine so_q (q_indexP (by infer_instance) (by infer_instance) (by rfl) (by rfl) (by decide) (by decide)) ?_
  refine so_q (q_loadB (by infer_instance) (by rfl) (by infer_instance) (by rfl) (by rfl)) ?_
  refine Run.go ?_
  refine so_cond rfl (fun h1=>?_) (fun h1=>?_)
  ·have hlt:k < st 3:=by simpa using h1
   refine Run.go ?_
   refine so_q (q_loadB (by infer_instance) (by rfl) (by infer_instance) (by rfl) (by rfl)) ?_
   refine Run.go ?_
   refine op_callv Fun52 (vs:=[.int .i64 (k:Int)]) (by rfl) (of h' le k k1 hlt) (.refl ([]++O)) (by rfl) ?_
   rintro u A' h'' le2 ⟨rfl,rfl⟩
   refine Run.go ?_
   refine op_buildSlice (by infer_instance) (by infer_instance) (by rfl) (by rfl) (by rfl) (by rfl) fun b=>?_
   refine Run.go ?_
   refine op_append (ys:=[val k]) (R:=[(b,.cells [Value.int .i64 (val k)].toArray 3 (0,0))]) (by rfl) (by rfl) (by infer_instance) (by infer_instance) (by rfl) gr (List.perm_append_singleton _ _).symm rfl (src_own (by infer_instance)) (by simp [intF,allOne]; rfl) (by simp; omega) (by simp; omega) fun v' A' gr'=>?_
   refine so_drop (O':=A') (List.sublist_append_left _ _) ?_
   refine Run.go ?_
   have hw:IntKind.i64.wrap ((k:Int) + 1) = ((k + 1:Nat):Int):=by rw [IntKind.wrap_i64]; omega
   have hr:List.range' (st 2) (k + 1 - st 2) = List.range' (st 2) (k - st 2)++[k]:=by
    rw [show k + 1 - st 2 = (k - st 2) + 1 by omega,List.range'_1_concat,show st 2 + (k - st 2) = k by omega]
   refine ⟨k + 1,wl bS bC bO bCh v' (k + 1),by simp only [Nat.reduceAdd]; omega,⟨rfl,rfl,rfl,rfl,rfl,?_,trivial⟩,by omega,by simp only [Nat.reduceAdd]; omega,v',rfl,?_⟩
   ·rw [← hw]; rfl
   ·rw [hr,List.map_append]; exact gr'
  ·have hge : k = st 3 := by
    have:¬ (k < st 3):=by simpa using h1
    simp only [Nat.reduceAdd] at k2
    omega
   subst hge
   refine so_exit ?_
   exact ⟨rfl,v,⟨rfl,rfl,rfl,trivial⟩,gr⟩
 ·refine so_seq ?_
  refine so_seq ?_
  refine so_reg ?_
  refine so_q (q_move (by rfl)) ?_
  refine so_q (q_loadB (by infer_instance) (by rfl) (by infer_instance) (by rfl) (by rfl)) ?_
  refine Run.go ?_
  refine so_q (q_indexP (by infer_instance) (by infer_instance) (by rfl) (by rfl) (by decide) (by decide)) ?_
  refine so_q (q_loadB (by infer_instance) (by rfl) (by infer_instance) (by rfl) (by rfl)) ?_
  refine Run.go ?_
  refine so_cond rfl (fun h1=>?_) (fun h1=>?_)
  ·have hlt:k < st 4:=by simpa using h1
   refine Run.go ?_
   refine so_q (q_loadB (by infer_instance) (by rfl) (by infer_instance) (by rfl) (by rfl)) ?_
   refine Run.go ?_
   refine op_callv Fun52 (vs:=[.int .i64 (k:Int)]) (by rfl) (of h' le k k1 hlt) (.refl ([]++O)) (by rfl) ?_
   rintro u A' h'' le2 ⟨rfl,rfl⟩
   refine Run.go ?_
   refine op_buildSlice (by infer_instance) (by infer_instance) (by rfl) (by rfl) (by rfl) (by rfl) fun b=>?_
   refine Run.go ?_
   refine op_append (ys:=[val k]) (R:=[(b,.cells [Value.int .i64 (val k)].toArray 3 (0,0))]) (by rfl) (by rfl) (by infer_instance) (by infer_instance) (by rfl) gr (List.perm_append_singleton _ _).symm rfl (src_own (by infer_instance)) (by simp [intF,allOne]; rfl) (by simp; omega) (by simp; omega) fun v' A' gr'=>?_
   refine so_drop (O':=A') (List.sublist_append_left _ _) ?_
   refine Run.go ?_
   have hw:IntKind.i64.wrap ((k:Int) + 1) = ((k + 1:Nat):Int):=by rw [IntKind.wrap_i64]; omega
   have hr:List.range' (st 3) (k + 1 - st 3) = List.range' (st 3) (k - st 3)++[k]:=by
    rw [show k + 1 - st 3 = (k - st 3) + 1 by omega,List.range'_1_concat,show st 3 + (k - st 3) = k by omega]
   refine ⟨k + 1,wl bS bC bO bCh v' (k + 1),by simp only [Nat.reduceAdd]; omega,⟨rfl,rfl,rfl,rfl,rfl,?_,trivial⟩,by omega,by simp only [Nat.reduceAdd]; omega,v',rfl,?_⟩
   ·rw [← hw]; rfl
   ·rw [hr,List.map_append]; exact gr'
  ·have hge : k = st 4 := by
    have:¬ (k < st 4):=by simpa using h1
    simp only [Nat.reduceAdd] at k2
    omega
   subst hge
   refine so_exit ?_
   exact ⟨rfl,v,⟨rfl,rfl,rfl,trivial⟩,gr⟩
end
end Go.Proofs.YtcpkcmgjfcbnpaaGreatDoor
namespace Go.Proofs.YtcpkcmgjfcbnpaaGreatDoor
open Go Go.Sl Go.Conc Go.Conc.Lib
set_option maxRecDepth 100000
theorem gr_at {A:Own} {v:Value} {T:TypeId} {α:Type} {E:Flat α} {xs:List α} (g:Gr A v T E xs) (hs:xs.length ≤ 281474976710656) {S:PHeap} (h:∀ b o,(b,o) ∈ A→S.obj b = some o):Sl S v E xs:=by
 rcases g.at' with ⟨rfl,rfl,rfl⟩ | ⟨b,cap,sp,rfl,rfl,h1,h2⟩
 ·exact Sl.nil _ _
 ·refine ⟨hs,.inr ⟨cap,rfl,h2,?_⟩⟩
  refine cells_flat (fun j v e=>?_)
  rw [add_none]
  have e0:=h b _ (List.mem_singleton.2 rfl)
  simp only [vo,vb]
  rw [cell_of e0]
  have hj:j < (xs.flatMap E.f).length:=by
   rcases Nat.lt_or_ge j (xs.flatMap E.f).length with h | h
   ·exact h
   ·rw [List.getElem?_eq_none h] at e; cases e
  simp only [Nat.zero_add,List.getElem?_toArray]
  rw [List.getElem?_append_left hj]; exact e
def RowI (st:Nat→Nat) (val:Nat→Int) (i:Nat) (v:Value) (S:PHeap):Prop:=∃ sl,v = .agg #[.int .i64 (i:Int),sl]∧Sl S sl intF ((List.range' (st i) (st (i + 1) - st i)).map val)
theorem RowI.mono {st:Nat→Nat} {val:Nat→Int}:∀ i v (h h':PHeap),(∀ b o,h.obj b = some o→h'.obj b = some o)→RowI st val i v h→RowI st val i v h':=fun i v h h' l ⟨sl,e,s⟩=>⟨sl,e,s.sub l⟩
noncomputable abbrev FI (W:World) (RR:Value→Prop) (Wg Ch:Nat) (H0:PHeap) (st:Nat→Nat) (val:Nat→Int):Fk:=mkFk Tryz.prog W RR Wg Ch 205 3 H0 (RowI st val) RowI.mono
instance {W:World} {RR:Value→Prop} {Wg Ch:Nat} {H0:PHeap} {st:Nat→Nat} {val:Nat→Int} {i C:Nat} {v:Value}:IsCl Tryz.prog (· = JW (FI W RR Wg Ch H0 st val) i C v):=inferInstanceAs (IsCl (FI W RR Wg Ch H0 st val).P _)
noncomputable def body52:Code:=match Tryz.f136.body with | some c=>c | _=>.skip
noncomputable def tail52:Code:=match Tryz.f136.body with | some (.seq _ c)=>c | _=>.skip
section
variable {W:World} {RR:Value→Prop} {Wg Ch:Nat} {H0:PHeap} {st:Nat→Nat} {val:Nat→Int}
attribute [local irreducible] Go.Code.so soOps Opq opo retO Go.Code.sl slOps slList opv
theorem tail52_jw (B : PHeap) (bS bC bO bCh : Nat) (fn : FuncId) (Fun52 : Fun Tryz.prog fn) (first cap : Array Value) (j : Nat) (hj : j < 4) (s4 : ∀ i, i < 5 → st i ≤ 1048576) (mono : st j ≤ st (j + 1)) (hgh : B.gh = [0]) (hsub : ∀ b o, H0.obj b = some o → B.obj b = some o)
  (hS:BAt B bS (.cells #[.int .i64 (st 0),.int .i64 (st 1),.int .i64 (st 2),.int .i64 (st 3),.int .i64 (st 4)] 193 (0,0)))
  (hC:BAt B bC (.cells #[.int .i64 j] 3 (0,0))) (hO:BAt B bO (.cells #[.func (.func fn) first cap] 97 (0,0))) (hCh:BAt B bCh (.cells #[.chan (some Ch)] 195 (0,0)))
  (of:∀ (M:Jdg→Prop) [IsCl Tryz.prog M] (B':PHeap),Le B B'→∀ k,st j ≤ k→k < st (j + 1)→CallsR Tryz.prog M fn (first.toList++[.int .i64 (k:Int)]++cap.toList) B' fun v _=>v = .int .i64 (val k)) :
  tail52.sl Tryz.prog (· = JW (FI W RR Wg Ch H0 st val) j bC (.int .i64 j)) 28 (fun e _ h'=>match e with | .nrm=>h'.gh = [1] | _=>False) [(0,.pointer (some ⟨Wg,0,none⟩)),(1,.pointer (some ⟨bS,0,none⟩)),(2,.pointer (some ⟨bC,0,none⟩)),(3,.pointer (some ⟨bO,0,none⟩)),(4,.pointer (some ⟨bCh,0,none⟩))] B:=by
 have e0:tail52 = .seq (match tail52 with | .seq a _=>a | _=>.skip) (.seq (.seq (match tail52 with | .seq _ (.seq (.seq a _) _)=>a | _=>.skip) loop52) (match tail52 with | .seq _ (.seq _ a)=>a | _=>.skip)):=rfl
 rw [e0]
 simp only [tail52,Tryz.f136]
 refine sl_seq ?_
 refine sl_reg ?_
 refine l_q (fun _ _=>o_assign (by rfl)) ?_
 refine l_nil ?_
 refine sl_seq ?_
 refine sl_seq ?_
 refine sl_reg ?_
 refine l_q (fun _ _=>o_loadB (by rfl) hC.at' (by rfl) (by rfl)) ?_
 have hcs:takeCells #[.int .i64 (st 0),.int .i64 (st 1),.int .i64 (st 2),.int .i64 (st 3),.int .i64 (st 4)] (0 + (j:Int).toNat * 1) 1 = some [.int .i64 (st j)]:=by
  obtain rfl | rfl | rfl | rfl:j = 0 ∨ j = 1 ∨ j = 2 ∨ j = 3:=by omega
  all_goals rfl
 refine l_q (fun _ _=>o_indexAddrA (by rfl) (by rfl) (by omega) (by omega)) ?_
 refine l_q (fun _ _=>o_loadB (by rfl) hS.at' hcs (by rfl)) ?_
 refine l_q (fun _ _=>o_assign (by rfl)) ?_
 refine l_nil ?_
 refine sl_of_so (worker_loop B Wg bS bC bO bCh st fn Fun52 first cap val j hj s4 mono hS hC hO (of _) _ ⟨rfl,rfl,rfl,rfl,rfl,rfl,trivial⟩) (PHeap.le_refl _) rfl ?_
 rintro e L' A h' H' le ⟨rfl,v,⟨g2,g4,g5,_⟩,gr⟩ rel
 have hB:∀ b o,B.obj b = some o→H'.obj b = some o:=fun b o e=>(rel.base b o (le.le b o e).1).1
 refine sl_reg ?_
 refine l_q (fun _ _=>o_loadB g4 (hB _ _ hCh.at') (by rfl) (by rfl)) ?_
 refine l_q (fun _ _=>o_loadB (off:=0) (by first|exact g2 | (show Locals.get _ 2 = _; exact g2)) (hB _ _ hC.at') (by rfl) (by rfl)) ?_
 refine l_q (fun _ _=>o_move g5) ?_
 have hg':H'.gh = [0]:=(rel.gh.trans le.gh).trans hgh
 have hlen:((List.range' (st j) (st (j + 1) - st j)).map val).length ≤ 281474976710656:=by
  have:=s4 (j + 1) (by omega)
  simp; omega
 have hSl:Sl (beyond H0 (delb (ro H' [1]) bC)) v intF ((List.range' (st j) (st (j + 1) - st j)).map val):=gr_at gr hlen fun b o m=>by
  obtain ⟨o1,o2,o3,o4⟩:=rel.own b o m
  have hn:H0.obj b = none:=by
   cases z:H0.obj b with
   | none=>rfl
   | some o=>rw [(le.le b o (hsub b o z)).1] at o4; cases o4
  have hbC:b ≠ bC:=fun z=>by
   have:=(le.le bC _ hC.at').1
   rw [← z,o4] at this; cases this
  simp only [beyond,hn,Option.isSome_none,Bool.false_eq_true,if_false,delb,ro,hbC]
  exact o1
 obtain ⟨ba,cp,rfl⟩:=hSl.val
 refine l_q (fun _ _=>o_build (by infer_instance) (by infer_instance) (by rfl) (by rfl)) ?_
 refine l_send (F:=FI W RR Wg Ch H0 st val) (C:=bC) (i:=j) (v:=.int .i64 j) hg' (hB _ _ hC.at') (by rfl) (by rfl) ?_ ?_
 ·exact ⟨_,rfl,hSl⟩
 ·exact l_nil rfl
end
section
variable {W:World} {RR:Value→Prop} {Wg Ch:Nat} {H0:PHeap} {st:Nat→Nat} {val:Nat→Int}
theorem worker_jw (B : PHeap) (bS bC bO bCh : Nat) (fn : FuncId) (Fun52 : Fun Tryz.prog fn) (first cap : Array Value) (j : Nat) (hj : j < 4) (s4 : ∀ i, i < 5 → st i ≤ 1048576) (mono : st j ≤ st (j + 1)) (hgh : B.gh = [0]) (hsub : ∀ b o, H0.obj b = some o → B.obj b = some o)
  (hS:BAt B bS (.cells #[.int .i64 (st 0),.int .i64 (st 1),.int .i64 (st 2),.int .i64 (st 3),.int .i64 (st 4)] 193 (0,0)))
  (hC:BAt B bC (.cells #[.int .i64 j] 3 (0,0))) (hO:BAt B bO (.cells #[.func (.func fn) first cap] 97 (0,0))) (hCh:BAt B bCh (.cells #[.chan (some Ch)] 195 (0,0)))
  (of:∀ (M:Jdg→Prop) [IsCl Tryz.prog M] (B':PHeap),Le B B'→∀ k,st j ≤ k→k < st (j + 1)→CallsR Tryz.prog M fn (first.toList++[.int .i64 (k:Int)]++cap.toList) B' fun v _=>v = .int .i64 (val k))
  (tm:Array Value) (ha:Agree 28 [(0,.pointer (some ⟨Wg,0,none⟩)),(1,.pointer (some ⟨bS,0,none⟩)),(2,.pointer (some ⟨bC,0,none⟩)),(3,.pointer (some ⟨bO,0,none⟩)),(4,.pointer (some ⟨bCh,0,none⟩))] tm) :
  JW (FI W RR Wg Ch H0 st val) j bC (.int .i64 j) B (G ((baseD 136).at ⟨tm,[]⟩ [.code body52]) [bot Tryz.prog]):=by
 have Qu:∀ {g g':Goroutine} {h:PHeap},g.status = .running→(∀ main w,stepG Tryz.prog main g w = .go g' w)→JW (FI W RR Wg Ch H0 st val) j bC (.int .i64 j) h g'→JW (FI W RR Wg Ch H0 st val) j bC (.int .i64 j) h g:=fun {g g' h} hr hs x=>quiet (P:=Tryz.prog) (M:=(· = JW (FI W RR Wg Ch H0 st val) j bC (.int .i64 j))) rfl hr hs x
 have e0:body52 = .seq (match body52 with | .seq a _=>a | _=>.skip) tail52:=rfl
 have e1 : (match body52 with | .seq a _ => a | _ => .skip) = Code.region 0 #[⟨none, .defer { callee := .value (.func 137), args := #[.tmp 0], argTypes := #[205] }, 0, "l12_pic.go:29", #[], none⟩] false := rfl
 rw [e0,e1]
 refine Qu rfl (fun _ _=>stepG_seq) ?_
 refine Qu rfl (fun _ _=>stepG_region) ?_
 refine Qu rfl (fun _ _ => stepG_defer (o := ⟨none, .defer { callee := .value (.func 137), args := #[.tmp 0], argTypes := #[205] }, 0, "l12_pic.go:29", #[], none⟩) rfl rfl (by simp [baseD]) rfl) ?_
 refine Qu rfl (fun _ _=>stepG_region_end) ?_
 have hd:(#[Operand.tmp 0]:Array Operand).map (Act.mk tm []).eval = #[.pointer (some ⟨Wg,0,none⟩)]:=by simp [Agree.ev (a:=⟨tm,[]⟩) ha (o:=.tmp 0) rfl]
 simp only [hd,Act.put]
 refine sl_app (tail52_jw B bS bC bO bCh fn Fun52 first cap j hj s4 mono hgh hsub hS hC hO hCh of) rfl (baseD 136) [] [bot Tryz.prog] [dcall 137 #[.pointer (some ⟨Wg,0,none⟩)]] tm (by simp [baseD]) ha (ends_nrm fun L1 h1 tm1 q1 ha1=>?_)
 refine Qu rfl (fun _ _=>stepG_end) ?_
 exact jw_out (F:=FI W RR Wg Ch H0 st val) (Wl:=wgLink) wgLib rfl Tryz.func136 rfl q1
end
noncomputable def fork43:Code:=match Tryz.f95.body with | some (.seq _ (.seq _ (.seq _ (.seq _ (.seq c _)))))=>c | _=>.skip
noncomputable def join43:Code:=match Tryz.f95.body with | some (.seq _ (.seq _ (.seq _ (.seq _ (.seq _ (.seq c _))))))=>c | _=>.skip
instance {W:World} {RR:Value→Prop} {Wg Ch:Nat} {H0:PHeap} {st:Nat→Nat} {val:Nat→Int}:IsCl Tryz.prog (· = JM (FI W RR Wg Ch H0 st val)):=inferInstanceAs (IsCl (FI W RR Wg Ch H0 st val).P _)
abbrev ml (bO bS bCh Wg j:Nat):Locals:=[(3,.pointer (some ⟨bO,0,none⟩)),(5,.pointer (some ⟨bS,0,none⟩)),(6,.pointer (some ⟨bCh,0,none⟩)),(7,.pointer (some ⟨Wg,0,none⟩)),(17,.int .i64 (j:Int))]
section
variable {W:World} {RR:Value→Prop} {Wg Ch:Nat} {H0:PHeap} {st:Nat→Nat} {val:Nat→Int}
attribute [local irreducible] Go.Code.sl slOps slList opv
theorem join43_jm (bO bS bCh : Nat) (h : PHeap) (hgh : h.gh = [0, 4]) (K : Locals → PHeap → Prop) (L : Locals) (hL : Locals.sub (ml bO bS bCh Wg 4) L) (hK : ∀ v, K (setL (some 23) v L) (stay h [10])) :
  join43.sl Tryz.prog (· = JM (FI W RR Wg Ch H0 st val)) 43 (fun e L' h'=>match e with | .nrm=>K L' h' | _=>False) L h:=by
 simp only [join43,Tryz.f95]
 refine sl_reg ?_
 refine l_call (F:=FI W RR Wg Ch H0 st val) wgLib.f_wait rfl rfl (vs:=[.pointer (some ⟨Wg,0,none⟩)]) (by show evAll L [.tmp 7] = _; simp only [evAll,ev,hL.2.2.2.1]) (wait_jm (F:=FI W RR Wg Ch H0 st val) wgLib hgh) ?_
 rintro v _ rfl
 exact l_nil (hK v)
end
section
variable {W:World} {RR:Value→Prop} {Wg Ch:Nat} {H0:PHeap} {st:Nat→Nat} {val:Nat→Int}
attribute [local irreducible] Go.Code.sl slOps slList opv
theorem fork43_jm (bS bO bCh : Nat) (fn : FuncId) (Fun52 : Fun Tryz.prog fn) (first cap : Array Value) (s4 : ∀ i, i < 5 → st i ≤ 1048576) (mono : ∀ j, j < 4 → st j ≤ st (j + 1))
  (hS:H0.obj bS = some (.cells #[.int .i64 (st 0),.int .i64 (st 1),.int .i64 (st 2),.int .i64 (st 3),.int .i64 (st 4)] 193 (0,0))) (hO:H0.obj bO = some (.cells #[.func (.func fn) first cap] 97 (0,0))) (hCh:H0.obj bCh = some (.cells #[.chan (some Ch)] 195 (0,0)))
  (of:∀ (M:Jdg→Prop) [IsCl Tryz.prog M] (B':PHeap),(∀ b o,H0.obj b = some o→B'.obj b = some o)→∀ k,k < st 4→CallsR Tryz.prog M fn (first.toList++[.int .i64 (k:Int)]++cap.toList) B' fun v _=>v = .int .i64 (val k)) (m4:∀ j,j < 4→st (j + 1) ≤ st 4) (h:PHeap) (hgh:h.gh = [0,0]) (ro0:∀ b o,H0.obj b = some o→h.obj b = some o∧h.wr b = false) (L:Locals)
  (hL:Locals.sub [(3,.pointer (some ⟨bO,0,none⟩)),(5,.pointer (some ⟨bS,0,none⟩)),(6,.pointer (some ⟨bCh,0,none⟩)),(7,.pointer (some ⟨Wg,0,none⟩))] L) :
  fork43.sl Tryz.prog (· = JM (FI W RR Wg Ch H0 st val)) 43 (fun e L' h'=>match e with | .nrm=>h'.gh = [0,4]∧(∀ b o,H0.obj b = some o→h'.obj b = some o∧h'.wr b = false)∧Locals.sub (ml bO bS bCh Wg 4) L' | _=>False) L h:=by
 simp only [fork43,Tryz.f95]
 refine sl_seq ?_
 refine sl_reg ?_
 refine l_q (fun _ _=>o_move (by rfl)) ?_
 refine l_nil ?_
 refine sl_block ?_
 refine sl_loop (ι:=Nat) (Lo:=fun j=>ml bO bS bCh Wg j) (A:=fun j h'=>j ≤ 4∧h'.gh = [0,j]∧∀ b o,H0.obj b = some o→h'.obj b = some o∧h'.wr b = false) (μ:=fun j=>4 - j) 0 ⟨hL.1,hL.2.1,hL.2.2.1,hL.2.2.2.1,rfl,trivial⟩ ⟨by decide,hgh,ro0⟩ ?_
 rintro j h1 ⟨hj,hg1,ro1⟩
 refine sl_seq ?_
 refine sl_reg ?_
 refine l_q (x_num (by rfl) (by rfl) (by rfl)) ?_
 refine l_nil ?_
 refine sl_seq ?_
 refine sl_cond (by rfl) (fun c1=>?_) (fun c1=>?_)
 ·have hlt : j < 4 := by
   have:=of_decide_eq_true c1
   omega
  refine sl_skip ?_
  refine sl_seq ?_
  refine sl_block ?_
  refine sl_seq ?_
  refine sl_reg ?_
  refine l_q (fun _ _=>o_move (by rfl)) ?_
  refine l_plain rfl (by rfl) (o_alloc fun C hCn=>?_)
  refine l_plain rfl (by rfl) (o_store (v:=.int .i64 (j:Int)) (b:=C) (off:=0) (by rfl) (by rfl) (obj_put _ _ _) (wr_put _ _ _) (by rfl) (by show 1 ≤ 1; decide) (by rfl) ?_)
  refine l_nil ?_
  refine sl_seq ?_
  refine sl_reg ?_
  refine l_call (F:=FI W RR Wg Ch H0 st val) wgLib.f_add rfl rfl (vs:=[.pointer (some ⟨Wg,0,none⟩),.int .i64 1]) (by rfl) (add_jm (F:=FI W RR Wg Ch H0 st val) wgLib (j:=j) hj hg1) ?_
  rintro v _ rfl
  refine l_nil ?_
  refine sl_reg ?_
  refine l_q (fun _ _=>o_makeFunc (vs:=[]) (us:=[.pointer (some ⟨Wg,0,none⟩),.pointer (some ⟨bS,0,none⟩),.pointer (some ⟨C,0,none⟩),.pointer (some ⟨bO,0,none⟩),.pointer (some ⟨bCh,0,none⟩)]) (by rfl) (by rfl)) ?_
  have hC0:H0.obj C = none:=by
   cases z:H0.obj C with
   | none=>rfl
   | some o=>rw [(ro1 C o z).1] at hCn; cases hCn
  have hne:∀ b o,H0.obj b = some o→b ≠ C:=fun b o z e=>by rw [e,hC0] at z; cases z
  have hob:∀ b o,H0.obj b = some o→(stay ((h1.put C (.cells (Value.int .i64 0).cells 3)).put C (.cells (setCells (Value.int .i64 0).cells 0 (Value.int .i64 (j:Int)).cells.toList) 3)) [3,j]).obj b = some o:=fun b o z=>by
   simp only [stay,PHeap.put,hne b o z,if_false]; exact (ro1 b o z).1
  refine l_go (F:=FI W RR Wg Ch H0 st val) (vs:=[.pointer (some ⟨Wg,0,none⟩),.pointer (some ⟨bS,0,none⟩),.pointer (some ⟨C,0,none⟩),.pointer (some ⟨bO,0,none⟩),.pointer (some ⟨bCh,0,none⟩)]) (C:=C) (v:=.int .i64 (j:Int)) (j:=j) (f:=136) (nf:=28) rfl hlt (by rfl) Tryz.func136 rfl rfl rfl (show 5 ≤ 28 by decide) ?_ ?_ hC0 (fun tm ha=>?_) ?_
  ·simp [stay,PHeap.put]; exact ⟨rfl,rfl⟩
  ·simp [stay,PHeap.put]
  ·refine worker_jw (H0:=H0) (ro _ [0]) bS C bO bCh fn Fun52 first cap j hlt s4 (mono j hlt) rfl (fun b o z=>hob b o z) ⟨hob _ _ hS⟩ ⟨?_⟩ ⟨hob _ _ hO⟩ ⟨hob _ _ hCh⟩ (fun M _ B' le k k1 k2=>of M B' (fun b o z=>(le.le b o (hob b o z)).1) k (Nat.lt_of_lt_of_le k2 (m4 j hlt))) tm ha
   simp [ro,stay,PHeap.put]; rfl
  ·refine l_nil ?_
   refine sl_reg ?_
   refine l_q (x_num (by rfl) (by rfl) (by rfl)) ?_
   refine l_q (fun _ _=>o_move (by rfl)) ?_
   refine l_nil ?_
   have hw:IntKind.i64.wrap ((j:Int) + 1) = ((j + 1:Nat):Int):=by rw [IntKind.wrap_i64]; omega
   refine ⟨j + 1,by show 4 - (j + 1) < 4 - j; omega,⟨rfl,rfl,rfl,rfl,?_,trivial⟩,by omega,rfl,fun b o z=>⟨?_,rfl⟩⟩
   ·rw [← hw]; rfl
   ·simp only [delb,hne b o z,if_false]; exact hob b o z
 ·have : j = 4 := by
   have:=of_decide_eq_false c1
   omega
  subst this
  refine sl_exit ?_
  exact ⟨hg1,ro1,⟨rfl,rfl,rfl,rfl,rfl,trivial⟩⟩
end
end Go.Proofs.YtcpkcmgjfcbnpaaGreatDoor
namespace Go.Proofs.YtcpkcmgjfcbnpaaGreatDoor
open Go Go.Sl
set_option maxRecDepth 100000
set_option maxHeartbeats 4000000
attribute [local irreducible] Go.Code.sf sfOps Opq opo retF Do1 anyO
variable {M:Jdg→Prop} [IsCl Tryz.prog M]
theorem gridRows_v (h:PHeap) (ca:List Value) (g:Grid) (b:(gridR τ).B h ca g) (hw:0 < g.wide):CallV Tryz.prog M 108 [.agg ca.toArray] h (.int .i64 ((g.cells.length:Int) / g.wide)):=by
 obtain ⟨c,rfl,s⟩:=gridB b
 have o1:=s.one
 have hs:=s.small
 refine Cs Tryz.func108 Tryz.ntmps108 ?_
 repeat first|refine R1 ?_|refine R2 fun _=>?_
 exact sf_ret (rV rfl)
theorem sideStarts_v (h:PHeap) (ca:List Value) (g:Grid) (b:(gridR τ).B h ca g) (w r:Nat) (hw:g.wide = w) (h1:1 ≤ w) (h5:w ≤ 5) (hr:(g.cells.length:Int) / g.wide = r) (hr5:r ≤ 5):CallV Tryz.prog M 134 [.agg ca.toArray] h (.agg #[.int .i64 (stOf w r 0:Nat),.int .i64 (stOf w r 1:Nat),.int .i64 (stOf w r 2:Nat),.int .i64 (stOf w r 3:Nat),.int .i64 (stOf w r 4:Nat)]):=by
 obtain ⟨c,rfl,s⟩:=gridB b
 have o1:=s.one
 refine Cs Tryz.func134 Tryz.ntmps134 ?_
 repeat first|refine R1 ?_|refine R2 fun _=>?_
 refine Xv (gridRows_v _ _ g b (by omega)) ?_
 rw [hr]
 obtain ⟨gw,gc⟩:=g
 simp only at hw hr
 subst hw
 repeat first|refine R1 ?_|refine R2 fun _=>?_
 refine sf_ret (rV ?_)
 simp only [stOf,IntKind.wrap_i64,Value.agg.injEq]
 simp
 omega
noncomputable def tail43:Code:=match Tryz.f95.body with | some (.seq _ (.seq _ (.seq _ (.seq _ c))))=>c | _=>.skip
noncomputable def rest43:Code:=match Tryz.f95.body with | some (.seq _ (.seq _ (.seq _ (.seq _ (.seq _ (.seq _ c))))))=>c | _=>.skip
theorem hide4 {P:Program} {M:Jdg→Prop} {n:Nat} {Q:Qf} {L:Locals} {O:Own} {h:PHeap} {c0 c1 c2 c3 t t':Code} (e:t' = t) (x:(Code.seq c0 (.seq c1 (.seq c2 (.seq c3 t')))).sf P M n Q L O h):(Code.seq c0 (.seq c1 (.seq c2 (.seq c3 t)))).sf P M n Q L O h:=e ▸ x
def SideI (h:PHeap) (w r:Nat) (val:Nat→Int) (i:Nat) (v:Value):Prop:=Sl h v intF ((List.range' (stOf w r i) (stOf w r (i + 1) - stOf w r i)).map val)
theorem sidesInt_f [al : Alone Tryz.prog M] (h : PHeap) (ca : List Value) (g : Grid) (b : (gridR τ).B h ca g) (w r : Nat) (hw : g.wide = w) (h1 : 1 ≤ w) (h5 : w ≤ 5) (hr : (g.cells.length : Int) / g.wide = r) (hr5 : r ≤ 5) (fn : FuncId) [Fu : Fun Tryz.prog fn] (first cap : Array Value) (val : Nat → Int)
  (of:∀ (M:Jdg→Prop) [IsCl Tryz.prog M] (h':PHeap),(∀ b o,h.obj b = some o→h'.obj b = some o)→∀ k,k < stOf w r 4→CallV Tryz.prog M fn (first.toList++[.int .i64 (k:Int)]++cap.toList) h' (.int .i64 (val k))) :
  CallF Tryz.prog M 95 [.agg ca.toArray,.func (.func fn) first cap] [] h fun v A=>Gr A v 3 intF ((List.range (stOf w r 4)).map val):=by
 obtain ⟨W,RR,rfl⟩:=al.is
 have b0:=b
 obtain ⟨c,rfl,s⟩:=gridB b
 have o1:=s.one
 refine Cs Tryz.func95 Tryz.ntmps95 ?_
 obtain ⟨t',et⟩:∃ t',t' = tail43:=⟨_,rfl⟩
 refine hide4 (et.trans rfl) ?_
 repeat first|refine R1 ?_|refine R2 fun _=>?_
 refine Xv (sideStarts_v _ _ g b0 w r hw h1 h5 hr hr5) ?_
 repeat first|refine R1 ?_|refine R2 fun _=>?_
 refine f_makeChan (by rfl) (by rfl) fun Ch=>?_
 repeat first|refine R1 ?_|refine R2 fun _=>?_
 rename_i b2 b3 b5 b6 b7
 subst et
 show (Code.seq fork43 (Code.seq join43 rest43)).sf _ _ _ _ _ _ _
 refine sf_fork (Wg:=b7) (Ch:=Ch) (ty:=205) (it:=3) (RowI (stOf w r) val) RowI.mono (fun L'=>Locals.sub (ml b3 b5 b6 b7 4) L') (R:=[(b6,.cells #[.chan (some Ch)] 195),(b5,.cells #[.int .i64 (stOf w r 0:Nat),.int .i64 (stOf w r 1:Nat),.int .i64 (stOf w r 2:Nat),.int .i64 (stOf w r 3:Nat),.int .i64 (stOf w r 4:Nat)] 193),(b3,.cells #[.func (.func fn) first cap] 97),(b2,.cells #[.int .i64 g.wide,c] 25)]) ?_ (fun H0 hle hR hWg hCh=>?_) fun L' h2 rows hle hL hp hrow=>?_
 ·exact (List.Perm.refl _).cons _ |>.trans ((List.Perm.swap _ _ _).cons _)
 ·refine sl_mono (fork43_jm (Wg:=b7) (Ch:=Ch) (H0:=H0) (W:=W) (RR:=RR) (st:=stOf w r) (val:=val) b5 b3 b6 fn Fu first cap (fun i _=>Nat.le_trans (stOf_le h5 hr5 i) (by decide)) (stOf_mono) (hR _ _ (by simp)) (hR _ _ (by simp)) (hR _ _ (by simp)) (fun M _ B' hB k hk=>callsR_of (of M B' (fun b o z=>hB b o (hle b o z).1) k hk)) ?_ (ro H0 [0,0]) rfl (fun b o z=>⟨z,rfl⟩) _ ⟨rfl,rfl,rfl,rfl,trivial⟩) ?_
  ·intro j hj
   obtain rfl | rfl | rfl | rfl:j = 0 ∨ j = 1 ∨ j = 2 ∨ j = 3:=by omega
   all_goals simp only [stOf]; omega
  ·rintro e L1 h1' q
   cases e with
   | nrm=>
    obtain ⟨q1,q2,q3⟩:=q
    exact join43_jm b3 b5 b6 h1' q1 (fun L' h'=>h'.gh = [10]∧(∀ b o,H0.obj b = some o→h'.obj b = some o∧h'.wr b = false)∧Locals.sub (ml b3 b5 b6 b7 4) L') L1 q3 fun v=>⟨rfl,fun b o z=>q2 b o z,⟨q3.1,q3.2.1,q3.2.2.1,q3.2.2.2.1,q3.2.2.2.2.1,trivial⟩⟩
   | _=>exact q.elim
 ·simp only [rest43]
  refine sf_sub (ml b3 b5 b6 b7 4) hL ?_
  repeat first|refine R1 ?_|refine R2 fun _=>?_
  refine f_close (by rfl) ?_
  repeat first|refine R1 ?_|refine R2 fun _=>?_
  rename_i b9
  refine sf_lp (ι:=List (Nat × Value) × Value × Value × Value × Value) [9,25] (fun _=>[]) (fun x O=>∃ rc,O = [(b9,.cells #[x.2.1,x.2.2.1,x.2.2.2.1,x.2.2.2.2] 209),(Ch,.chan 4 (x.1.map Prod.snd).toArray true 4 rc false)]∧(∀ p ∈ x.1,p.1 < 4∧RowI (stOf w r) val p.1 p.2 h2)∧(Sl.One x.2.1∧Sl.One x.2.2.1∧Sl.One x.2.2.2.1∧Sl.One x.2.2.2.2)∧(0 ∈ x.1.map Prod.fst ∨ SideI h2 w r val 0 x.2.1)∧(1 ∈ x.1.map Prod.fst ∨ SideI h2 w r val 1 x.2.2.1)∧(2 ∈ x.1.map Prod.fst ∨ SideI h2 w r val 2 x.2.2.2.1)∧(3 ∈ x.1.map Prod.fst ∨ SideI h2 w r val 3 x.2.2.2.2)) (fun x=>x.1.length) (rows,.slice none 0 0,.slice none 0 0,.slice none 0 0,.slice none 0 0) [(b9,.cells #[.slice none 0 0,.slice none 0 0,.slice none 0 0,.slice none 0 0] 209),(Ch,.chan 4 (rows.map Prod.snd).toArray true 4 0 false)] ⟨0,rfl,fun p hp'=>⟨?_,hrow p hp'⟩,⟨inferInstance,inferInstance,inferInstance,inferInstance⟩,.inl ?_,.inl ?_,.inl ?_,.inl ?_⟩ ?_
  ·have:=hp.mem_iff.1 (List.mem_map.2 ⟨p,hp',rfl⟩)
   simp at this; omega
  ·exact hp.mem_iff.2 (by simp)
  ·exact hp.mem_iff.2 (by simp)
  ·exact hp.mem_iff.2 (by simp)
  ·exact hp.mem_iff.2 (by simp)
  clear hrow hp hL hle b b0 of
  rintro ⟨rs,v0,v1,v2,v3⟩ O ⟨rc,rfl,hrow,⟨p0,p1,p2,p3⟩,s0,s1,s2,s3⟩
  simp only at hrow p0 p1 p2 p3 s0 s1 s2 s3 ⊢
  match rs,hrow,s0,s1,s2,s3 with
  | [],hrow,s0,s1,s2,s3=>
   simp only [List.map_nil,List.not_mem_nil,false_or] at s0 s1 s2 s3 ⊢
   repeat first|refine R1 ?_|refine R2 fun _=>?_
   refine f_shut (by rfl) ?_
   repeat first|refine R1 ?_|refine R2 fun _=>?_
   refine sf_cond (by rfl) (fun e=>by cases e) fun _=>?_
   refine sf_exit ?_
   repeat first|refine R1 ?_|refine R2 fun _=>?_
   have t0:=stOf_le (w:=w) (r:=r) h5 hr5 0
   have t1:=stOf_le (w:=w) (r:=r) h5 hr5 1
   have t2:=stOf_le (w:=w) (r:=r) h5 hr5 2
   have t3:=stOf_le (w:=w) (r:=r) h5 hr5 3
   have t4:=stOf_le (w:=w) (r:=r) h5 hr5 4
   refine sf_lp (ι:=Nat × Value) [34] (fun x=>[(35,.int .i64 (x.1:Int)),(11,x.2)]) (fun x O=>x.1 ≤ 4∧Gr O x.2 3 intF ((List.range (stOf w r x.1)).map val)) (fun x=>4 - x.1) (0,.slice none 0 0) [] ⟨by decide,by simpa [stOf] using Gr.nil _ _⟩ ?_
   rintro ⟨k,v⟩ O ⟨hk,g3⟩
   simp only at hk g3 ⊢
   have o5:=g3.one
   repeat first|refine R1 ?_|refine R2 fun _=>?_
   refine sf_if (fun h4=>?_) fun h4=>?_
   ·have hk4:k = 0 ∨ k = 1 ∨ k = 2 ∨ k = 3:=by omega
    have hrng:∀ j,j < 4→(List.range (stOf w r j)).map val++(List.range' (stOf w r j) (stOf w r (j + 1) - stOf w r j)).map val = (List.range (stOf w r (j + 1))).map val:=fun j hj=>by
     rw [← List.map_append]
     congr 1
     rw [List.range_eq_range',List.range_eq_range',show stOf w r (j + 1) = stOf w r j + (stOf w r (j + 1) - stOf w r j) by have:=stOf_mono (w:=w) (r:=r) j hj; omega,← List.range'_append_1]
     simp
    rcases hk4 with rfl | rfl | rfl | rfl
    ·repeat first|refine R1 ?_|refine R2 fun _=>?_
     refine fp (Rq ?_ (q_index (by infer_instance) (by infer_instance) (by rfl) (by rfl) (by decide) (by decide) (by rfl)))
     repeat first|refine R1 ?_|refine R2 fun _=>?_
     refine Xs g3 s0 fun v' A' g4=>?_
     repeat first|refine R1 ?_|refine R2 fun _=>?_
     exact ⟨(1,v'),by simp only; omega,⟨rfl,rfl,trivial⟩,rfl,A',_,inferInstance,by simp only; omega,by rw [← hrng 0 (by decide)]; exact g4⟩
    ·repeat first|refine R1 ?_|refine R2 fun _=>?_
     refine fp (Rq ?_ (q_index (by infer_instance) (by infer_instance) (by rfl) (by rfl) (by decide) (by decide) (by rfl)))
     repeat first|refine R1 ?_|refine R2 fun _=>?_
     refine Xs g3 s1 fun v' A' g4=>?_
     repeat first|refine R1 ?_|refine R2 fun _=>?_
     exact ⟨(2,v'),by simp only; omega,⟨rfl,rfl,trivial⟩,rfl,A',_,inferInstance,by simp only; omega,by rw [← hrng 1 (by decide)]; exact g4⟩
    ·repeat first|refine R1 ?_|refine R2 fun _=>?_
     refine fp (Rq ?_ (q_index (by infer_instance) (by infer_instance) (by rfl) (by rfl) (by decide) (by decide) (by rfl)))
     repeat first|refine R1 ?_|refine R2 fun _=>?_
     refine Xs g3 s2 fun v' A' g4=>?_
     repeat first|refine R1 ?_|refine R2 fun _=>?_
     exact ⟨(3,v'),by simp only; omega,⟨rfl,rfl,trivial⟩,rfl,A',_,inferInstance,by simp only; omega,by rw [← hrng 2 (by decide)]; exact g4⟩
    ·repeat first|refine R1 ?_|refine R2 fun _=>?_
     refine fp (Rq ?_ (q_index (by infer_instance) (by infer_instance) (by rfl) (by rfl) (by decide) (by decide) (by rfl)))
     repeat first|refine R1 ?_|refine R2 fun _=>?_
     refine Xs g3 s3 fun v' A' g4=>?_
     repeat first|refine R1 ?_|refine R2 fun _=>?_
     exact ⟨(4,v'),by simp only; omega,⟨rfl,rfl,trivial⟩,rfl,A',_,inferInstance,by simp only; omega,by rw [← hrng 3 (by decide)]; exact g4⟩
   ·refine sf_exit ?_
    repeat first|refine R1 ?_|refine R2 fun _=>?_
    have:k = 4:=by omega
    subst this
    exact sf_ret (rO O g3)
  | (i,u) :: rs,hrow,s0,s1,s2,s3=>
   have hh:=hrow (i,u) (List.mem_cons_self ..)
   simp only [RowI] at hh
   obtain ⟨hi,sl,rfl,sl0⟩:=hh
   have ol:=sl0.one
   have hrow':∀ p ∈ rs,p.1 < 4∧RowI (stOf w r) val p.1 p.2 h2:=fun p hp=>hrow p (List.mem_cons_of_mem _ hp)
   simp only [List.map_cons] at s0 s1 s2 s3 ⊢
   repeat first|refine R1 ?_|refine R2 fun _=>?_
   have hi':i = 0 ∨ i = 1 ∨ i = 2 ∨ i = 3:=by omega
   refine f_recv (by rfl) ?_
   repeat first|refine R1 ?_|refine R2 fun _=>?_
   refine sf_T rfl ?_
   rcases hi' with rfl | rfl | rfl | rfl
   ·repeat first|refine R1 ?_|refine R2 fun _=>?_
    exact ⟨(rs,sl,v1,v2,v3),by simp only [List.length_cons]; omega,trivial,rfl,_,_,inferInstance,rc + 1,rfl,hrow',⟨ol,p1,p2,p3⟩,.inr sl0,by simpa using s1,by simpa using s2,by simpa using s3⟩
   ·repeat first|refine R1 ?_|refine R2 fun _=>?_
    exact ⟨(rs,v0,sl,v2,v3),by simp only [List.length_cons]; omega,trivial,rfl,_,_,inferInstance,rc + 1,rfl,hrow',⟨p0,ol,p2,p3⟩,by simpa using s0,.inr sl0,by simpa using s2,by simpa using s3⟩
   ·repeat first|refine R1 ?_|refine R2 fun _=>?_
    exact ⟨(rs,v0,v1,sl,v3),by simp only [List.length_cons]; omega,trivial,rfl,_,_,inferInstance,rc + 1,rfl,hrow',⟨p0,p1,ol,p3⟩,by simpa using s0,by simpa using s1,.inr sl0,by simpa using s3⟩
   ·repeat first|refine R1 ?_|refine R2 fun _=>?_
    exact ⟨(rs,v0,v1,v2,sl),by simp only [List.length_cons]; omega,trivial,rfl,_,_,inferInstance,rc + 1,rfl,hrow',⟨p0,p1,p2,ol⟩,by simpa using s0,by simpa using s1,by simpa using s2,.inr sl0⟩
theorem picOf1_v (h:PHeap) (c:Value) (g:Grid) (s:Sl h c cellF g.cells) (e:gridOk g = true) (b:Nat) [BAt h b (.cells #[.int .i64 g.wide,c] 25)] (k:Int) (hk:0 ≤ k∧k < manyOf g):CallV Tryz.prog M 96 [.int .i64 k,.pointer (some ⟨b,0,none⟩)] h (.int .i64 (trailLight g k)):=by
 have o1:=s.one
 refine Cs Tryz.func96 Tryz.ntmps96 ?_
 refine Wo ?_
 refine Xv (trailLight_v h c g s e k hk) ?_
 refine Wo ?_
 exact sf_ret (rV rfl)
theorem picOf_f [al:Alone Tryz.prog M] (h:PHeap) (ca:List Value) (g:Grid) (b:(gridR τ).B h ca g) (e:gridOk g = true):CallF Tryz.prog M 55 [.agg ca.toArray] [] h fun u A=>Gr A u 3 intF (picOf g):=by
 obtain ⟨c,rfl,s⟩:=gridB b
 have o1:=s.one
 have kg:=gok e
 have w1:=kg.w1; have w5:=kg.w5; have r1:=kg.r1; have r5:=kg.r5
 obtain ⟨ww,ew⟩:∃ ww:Nat,g.wide = ww:=⟨g.wide.toNat,by omega⟩
 obtain ⟨rr,er⟩:∃ rr:Nat,rowsOf g = rr:=⟨(rowsOf g).toNat,by omega⟩
 have hN:(manyOf g).toNat = stOf ww rr 4:=by
  simp only [stOf]; rw [manyOf,er,ew]; omega
 refine Cs Tryz.func55 Tryz.ntmps55 ?_
 repeat first|refine R1 ?_|refine R2 fun _=>?_
 refine Xv (gridOk_v _ _ g b) ?_
 rw [e]
 repeat first|refine R1 ?_|refine R2 fun _=>?_
 refine sf_cond (by rfl) (fun e=>by cases e) fun z1=>?_
 clear z1
 repeat first|refine R1 ?_|refine R2 fun _=>?_
 rename_i b1
 refine fp (y_lend [(b1,.cells #[.int .i64 g.wide,c] 25)] (fun h' l i=>sidesInt_f h' _ g (gridB_mk (s.le l.le)) ww rr ew (by omega) (by omega) er (by omega) 96 #[] #[.pointer (some ⟨b1,0,none⟩)] (fun k=>trailLight g (k:Nat)) (fun M _ h'' sub k hk=>?_)) (by rfl) ?_)
 ·haveI:BAt h'' b1 (.cells #[.int .i64 g.wide,c] 25):=⟨sub _ _ (i.at' _ _ (by simp))⟩
  exact picOf1_v h'' c g ((s.le l.le).sub sub) e b1 k (by omega)
 intro v A gr
 rw [← hN] at gr
 repeat first|refine R1 ?_|refine R2 fun _=>?_
 exact sf_ret (rO A gr)
theorem partOf_f (h : PHeap) (ca : List Value) (g : Grid) (b : (gridR τ).B h ca g) (e : gridOk g = true) (pv : Value) (pic : List Int) (sp : Sl h pv intF pic) (hp : pic.length = (manyOf g).toNat) (id many : Nat) (h1 : 1 ≤ id) (h2 : id ≤ many) (h3 : many ≤ 3) :
  CallF Tryz.prog M 123 [.agg ca.toArray,pv,.int .i64 (id:Int),.int .i64 (many:Int)] [] h fun u A=>Gr A u 3 intF (ownLights pic (manyOf g).toNat many id):=by
 obtain ⟨c,rfl,s⟩:=gridB b
 have o1:=s.one
 have o2:=sp.one
 have hm:=(gok e).many
 obtain ⟨S,hS⟩:∃ S:Nat,manyOf g = S:=⟨(manyOf g).toNat,by omega⟩
 have hc:∀ j,j < ownCnt S many id ↔ id - 1 + j * many < S:=fun j=>ownCnt_lt h1 h2 h3
 have hsm:=sp.small
 refine Cs Tryz.func123 Tryz.ntmps123 ?_
 repeat first|refine R1 ?_|refine R2 fun _=>?_
 refine fp (y_call (paintOwn_f _ _ g b e id many h1 h2 h3) (by rfl) ?_)
 intro v A1 g1
 rw [hS] at hm hp g1 ⊢
 simp only [Int.toNat_natCast] at hp g1 ⊢
 have o3:=g1.one
 have hl:=ownList_len S many id
 have hln:ownCnt S many id ≤ 20:=by
  rcases Nat.lt_or_ge 20 (ownCnt S many id) with h | h
  ·have:=(hc 20).1 h
   have:20 * 1 ≤ 20 * many:=Nat.mul_le_mul_left _ (by omega)
   omega
  ·exact h
 have hat:∀ j,j < ownCnt S many id→gt (ownList S many id) j = ((id - 1 + j * many:Nat):Int):=fun j hj=>ownList_at hj
 have hol:∀ n,(ownList S many id).take n = ownList S many id→True:=fun _ _=>trivial
 generalize hxs:ownList S many id = xs at *
 repeat first|refine R1 ?_|refine R2 fun _=>?_
 rename_i b3
 refine sf_lp (ι:=Nat × Value) [1,15,16] (fun x=>[(17,.int .i64 (x.1:Int)),(9,x.2)]) (fun x O=>x.1 ≤ xs.length∧∃ A',O = A'++(A1++[(b3,.cells #[.int .i64 g.wide,c] 25)])∧Gr A' x.2 3 intF ((xs.take x.1).map fun k=>gt pic k.toNat)) (fun x=>xs.length - x.1) (0,.slice none 0 0) ([]++(A1++[(b3,.cells #[.int .i64 g.wide,c] 25)])) ⟨by omega,[],rfl,Gr.nil _ _⟩ ?_
 rintro ⟨j,u⟩ O ⟨hj,A',rfl,gr⟩
 simp only at hj gr ⊢
 have o4:=gr.one
 have hlt:((xs.take j).map fun k=>gt pic k.toNat).length = j:=by rw [List.length_map,List.length_take]; omega
 repeat first|refine R1 ?_|refine R2 fun _=>?_
 refine sf_if (fun h4=>?_) fun h4=>?_
 ·have hj4:j < ownCnt S many id:=by omega
  have ha:=hat j hj4
  have hb:=(hc j).1 hj4
  have hstep:((xs.take (j + 1)).map fun k=>gt pic k.toNat) = ((xs.take j).map fun k=>gt pic k.toNat)++[gt pic (id - 1 + j * many)]:=by
   rw [take_succ_gt (by omega),List.map_append,ha]; rfl
  repeat first|refine R1 ?_|refine R2 fun _=>?_
  simp only [ha]
  repeat first|refine R1 ?_|refine R2 fun _=>?_
  refine Xb fun w Au gu=>?_
  repeat first|refine R1 ?_|refine R2 fun _=>?_
  refine Xa gr gu fun u2 A2 g2=>?_
  repeat first|refine R1 ?_|refine R2 fun _=>?_
  exact ⟨(j + 1,u2),by simp only; omega,⟨rfl,rfl,trivial⟩,rfl,A2++(A1++[(b3,.cells #[.int .i64 g.wide,c] 25)]),_,inferInstance,by simp only; omega,A2,rfl,by rw [hstep]; exact g2⟩
 ·refine sf_exit ?_
  repeat first|refine R1 ?_|refine R2 fun _=>?_
  refine sf_ret (rO A' ?_)
  rw [ownLights,hxs,← take_ge (xs:=xs) hj (by omega)]; exact gr
theorem partCheck_f [al:Alone Tryz.prog M] (h:PHeap) (ca:List Value) (k:Keeper) (b:(keeperR τ).B h ca k) (hk:HeadOk k) (z:Int) (i:Nat) (hz:z = i + 1) (hi:i < k.parts.length):CallF Tryz.prog M 87 [.agg ca.toArray,.int .i64 z] [] h fun u A=>ErrIs u (!partOk k (i + 1) (gt k.parts i))∧A = []:=by
 have b0:=b
 obtain ⟨c,ed,p,s,rfl,s1,s2,s3,s4⟩:=keeperB b
 have o1:=s1.one
 have o2:=s2.one
 have o3:=s3.one
 have o4:=s4.one
 have n3:=hk.n3
 obtain ⟨rp,sp,bp⟩:=s3
 have lp:=bp.len
 obtain ⟨l,ex,sl⟩:=partB (bp.at hi)
 have ol:=sl.one
 have hsl:=sl.small
 have hsm:=sp.small
 have hi':i < rp.length:=by omega
 generalize hpt:gt k.parts i = pt at *
 have ez:(z - 1).toNat = i:=by omega
 haveI:FlatV (rawF (partR τ).sz) (gt rp (z - 1).toNat) [.bool pt.has,.int .i64 pt.ver,l]:=⟨by rw [ez]; exact ex⟩
 refine Cs Tryz.func87 Tryz.ntmps87 ?_
 repeat first|refine R1 ?_|refine R2 fun _=>?_
 refine sf_cond (by rfl) (fun e=>?_) fun e=>?_
 ·simp only [Bool.not_eq_true'] at e
  repeat first|refine R1 ?_|refine R2 fun _=>?_
  refine f_split (fun h1=>?_) fun h1=>?_
  ·repeat first|refine R1 ?_|refine R2 fun _=>?_
   refine sf_T rfl ?_
   repeat first|refine R1 ?_|refine R2 fun _=>?_
   exact sf_ret (rO [] ⟨.inr ⟨_,rfl,by simp [partOk,e,h1]⟩,rfl⟩)
  ·repeat first|refine R1 ?_|refine R2 fun _=>?_
   refine sf_if (fun h2=>?_) fun h2=>?_
   ·repeat first|refine R1 ?_|refine R2 fun _=>?_
    exact sf_ret (rO [] ⟨.inr ⟨_,rfl,by simp [partOk,e]; exact .inr fun h=>h2 (by simp [h])⟩,rfl⟩)
   ·repeat first|refine R1 ?_|refine R2 fun _=>?_
    exact sf_ret (rO [] ⟨.inl ⟨rfl,by simp [partOk,e]; exact ⟨by omega,List.eq_nil_of_length_eq_zero (by omega)⟩⟩,rfl⟩)
 ·simp only [Bool.not_eq_false'] at e
  repeat first|refine R1 ?_|refine R2 fun _=>?_
  refine fp (y_call (keepVersion_f _ _ k b0 pt.ver) (by rfl) ?_)
  rintro u _ ⟨eu,rfl⟩
  have ou:=eu.one
  repeat first|refine R1 ?_|refine R2 fun _=>?_
  refine fp (Rq ?_ (neqErr eu (by rfl)))
  repeat first|refine R1 ?_|refine R2 fun _=>?_
  refine sf_cond (by rfl) (fun h1=>?_) fun h1=>?_
  ·rw [h1] at eu
   simp only [Bool.not_eq_true'] at h1
   repeat first|refine R1 ?_|refine R2 fun _=>?_
   exact sf_ret (rO [] ⟨by simpa [partOk,e,h1] using eu,rfl⟩)
  ·simp only [Bool.not_eq_false'] at h1
   clear eu ou
   repeat first|refine R1 ?_|refine R2 fun _=>?_
   refine fp (y_call (keepGridOf_f _ _ k b0 hk pt.ver h1) (by rfl) ?_)
   rintro _ A1 ⟨cs,rfl,q⟩
   obtain ⟨c2,rfl,g1,l1⟩:=gridO q
   have o5:=g1.one
   have gok':=gridAt_ok hk.grid hk.edits pt.ver
   have eL:partLights k (i + 1) pt.ver = ownLights (picOf (gridAt k pt.ver)) (manyOf (gridAt k pt.ver)).toNat k.parts.length (i + 1):=by rw [partLights,gridAt_many]
   rw [show z = ((i + 1:Nat):Int) by omega]
   repeat first|refine R1 ?_|refine R2 fun _=>?_
   refine sf_draw (by kernel_rfl) (regX_own (A1) (Sw [[],[0],[],[],[3],[],[],[6],[6,7],[2,3,4,5,6,7,8],[0,1,2,3,4,5,6,7,8,9],[0,1,2,3,4,5,6,7,8,9,10]] 10 [Nn 0,Nn 1,Nn 2,Nn 3,Nn 5,Nn 6,Nn 7,Nn 8,Yy 4,Yy 9] ?_))
   refine Da ?_
   refine Yc (lendF A1 fun h' _ inb=>picOf_f h' _ _ ((gridR τ).lent q inb) gok') ?_
   rintro v2 _ ⟨A2,rfl,g2⟩
   have o6:=g2.one
   refine Da ?_
   refine Yc (lendF (A1++A2) fun h' _ inb=>partOf_f h' _ _ ((gridR τ).lent q (inb_l inb)) gok' v2 _ (g2.lent (by rw [picOf_len]; have:=(gok gok').many; omega) (inb_r inb)) (picOf_len _) (i + 1) rp.length (by omega) (by omega) (by omega)) ?_
   rintro v3 _ ⟨A3,rfl,g3⟩
   have o7:=g3.one
   rw [lp,← eL] at g3
   refine Da ?_
   refine Ae ?_
   refine fp (y_lendV A3 (fun h' l' inb=>intsEqual_v h' _ _ _ _ (sl.le l'.le) (g3.lent (by have:=partLights_le hk (i + 1) pt.ver; omega) inb)) (by rfl) ?_)
   repeat first|refine R1 ?_|refine R2 fun _=>?_
   refine sf_cond (by rfl) (fun h2=>?_) fun h2=>?_
   ·repeat first|refine R1 ?_|refine R2 fun _=>?_
    exact sf_ret (rO [] ⟨.inr ⟨_,rfl,by simp only [Bool.not_eq_true'] at h2; simp [partOk,e,h2]⟩,rfl⟩)
   ·repeat first|refine R1 ?_|refine R2 fun _=>?_
    exact sf_ret (rO [] ⟨.inl ⟨rfl,by simp only [Bool.not_eq_false'] at h2; simp [partOk,e,h1,h2]⟩,rfl⟩)
theorem keepCheck_f [al:Alone Tryz.prog M] (h:PHeap) (ca:List Value) (k:Keeper) (b:(keeperR τ).B h ca k):CallF Tryz.prog M 47 [.agg ca.toArray] [] h fun u A=>ErrIs u (!keepOk k)∧A = []:=by
 have b0:=b
 obtain ⟨c,ed,p,s,rfl,s1,s2,s3,s4⟩:=keeperB b
 have o1:=s1.one
 have o2:=s2.one
 have o3:=s3.one
 have o4:=s4.one
 obtain ⟨rp,sp,bp⟩:=s3
 obtain ⟨rs,ss,bs⟩:=s4
 have lp:=bp.len
 have ls:=bs.len
 have hsp:=sp.small
 have hss:=ss.small
 have hs2:=s2.small
 have hN:keepHead k = false→keepOk k = false:=fun e=>by simp [keepOk,e]
 refine Cs Tryz.func47 Tryz.ntmps47 ?_
 repeat first|refine R1 ?_|refine R2 fun _=>?_
 refine Xv (gridOk_v _ _ k.first (gridB_mk s1)) ?_
 repeat first|refine R1 ?_|refine R2 fun _=>?_
 refine sf_cond (by rfl) (fun g0=>?_) fun g0=>?_
 ·simp only [Bool.not_eq_true'] at g0
  repeat first|refine R1 ?_|refine R2 fun _=>?_
  exact sf_ret (rO [] ⟨.inr ⟨_,rfl,by rw [hN (by simp [keepHead,g0])]; rfl⟩,rfl⟩)
 simp only [Bool.not_eq_false'] at g0
 repeat first|refine R1 ?_|refine R2 fun _=>?_
 refine f_split (fun g1=>?_) fun g1=>?_
 ·repeat first|refine R1 ?_|refine R2 fun _=>?_
  refine sf_T rfl ?_
  repeat first|refine R1 ?_|refine R2 fun _=>?_
  exact sf_ret (rO [] ⟨.inr ⟨_,rfl,by rw [hN (by simp [keepHead]; intros; omega)]; rfl⟩,rfl⟩)
 repeat first|refine R1 ?_|refine R2 fun _=>?_
 refine sf_if (fun g2=>?_) fun g2=>?_
 ·repeat first|refine R1 ?_|refine R2 fun _=>?_
  exact sf_ret (rO [] ⟨.inr ⟨_,rfl,by rw [hN (by simp [keepHead]; intros; omega)]; rfl⟩,rfl⟩)
 repeat first|refine R1 ?_|refine R2 fun _=>?_
 refine f_split (fun g3=>?_) fun g3=>?_
 ·repeat first|refine R1 ?_|refine R2 fun _=>?_
  refine sf_T rfl ?_
  repeat first|refine R1 ?_|refine R2 fun _=>?_
  exact sf_ret (rO [] ⟨.inr ⟨_,rfl,by rw [hN (by simp [keepHead]; intros; omega)]; rfl⟩,rfl⟩)
 repeat first|refine R1 ?_|refine R2 fun _=>?_
 refine Xv (editsOk_v _ c k.first s1 ed k.edits s2) ?_
 repeat first|refine R1 ?_|refine R2 fun _=>?_
 refine sf_cond (by rfl) (fun g4=>?_) fun g4=>?_
 ·simp only [Bool.not_eq_true'] at g4
  repeat first|refine R1 ?_|refine R2 fun _=>?_
  exact sf_ret (rO [] ⟨.inr ⟨_,rfl,by rw [hN (by simp [keepHead,g4])]; rfl⟩,rfl⟩)
 simp only [Bool.not_eq_false'] at g4
 have hk:HeadOk k:=⟨g0,by omega,by omega,by omega,g4⟩
 have hK:=hk.is
 have hF:∀ {b:Bool},(partsOk k k.parts.length && shownsOk k k.shown.length) = b→keepOk k = b:=fun e=>by rw [keepOk,hK,Bool.true_and]; exact e
 clear hN
 repeat first|refine R1 ?_|refine R2 fun _=>?_
 rename_i b1
 refine sf_lp (ι:=Nat) [1] (fun i=>[(3,.int .i64 ((i:Int) + 1))]) (fun i O=>(i ≤ rp.length∧partsOk k i = true)∧O = [(b1,.cells #[.int .i64 k.first.wide,c,ed,p,s] 30)]) (fun i=>rp.length - i) 0 [(b1,.cells #[.int .i64 k.first.wide,c,ed,p,s] 30)] ⟨⟨by omega,rfl⟩,rfl⟩ ?_
 rintro i O ⟨⟨hi,hpi⟩,rfl⟩
 repeat first|refine R1 ?_|refine R2 fun _=>?_
 refine sf_if (fun e1=>?_) fun e1=>?_
 ·have hi1:i < k.parts.length:=by omega
  repeat first|refine R1 ?_|refine R2 fun _=>?_
  refine fp (y_call (partCheck_f _ _ k b0 hk ((i:Int) + 1) i rfl hi1) (by rfl) ?_)
  rintro u _ ⟨eu,rfl⟩
  have ou:=eu.one
  repeat first|refine R1 ?_|refine R2 fun _=>?_
  refine fp (Rq ?_ (neqErr eu (by rfl)))
  repeat first|refine R1 ?_|refine R2 fun _=>?_
  refine sf_cond (by rfl) (fun h1=>?_) fun h1=>?_
  ·rw [h1] at eu
   simp only [Bool.not_eq_true'] at h1
   repeat first|refine R1 ?_|refine R2 fun _=>?_
   exact sf_ret (rO [] ⟨by rw [hF (b:=false) (by rw [partsOk_F hi1 h1]; rfl)]; exact eu,rfl⟩)
  ·simp only [Bool.not_eq_false'] at h1
   repeat first|refine R1 ?_|refine R2 fun _=>?_
   exact ⟨i + 1,by omega,⟨rfl,trivial⟩,rfl,_,_,inferInstance,⟨by omega,by rw [partsOk_step,hpi,h1]; rfl⟩,rfl⟩
 ·refine sf_exit ?_
  have hpo:partsOk k k.parts.length = true:=by rw [show k.parts.length = i by omega]; exact hpi
  clear hpi hi e1
  repeat first|refine R1 ?_|refine R2 fun _=>?_
  refine sf_lp (ι:=Nat) [1,55,56] (fun i=>[(5,.int .i64 (prevVer k i)),(57,.int .i64 (i:Int))]) (fun i O=>(i ≤ rs.length∧shownsOk k i = true)∧O = [(b1,.cells #[.int .i64 k.first.wide,c,ed,p,s] 30)]) (fun i=>rs.length - i) 0 [(b1,.cells #[.int .i64 k.first.wide,c,ed,p,s] 30)] ⟨⟨by omega,rfl⟩,rfl⟩ ?_
  rintro j O ⟨⟨hi,hpi⟩,rfl⟩
  repeat first|refine R1 ?_|refine R2 fun _=>?_
  refine sf_if (fun e2=>?_) fun e2=>?_
  ·have hi1:j < k.shown.length:=by omega
   have hi2:j < rs.length:=by omega
   obtain ⟨l,ex,sl⟩:=shownB (bs.at hi1)
   have ol:=sl.one
   have hsl:=sl.small
   haveI:FlatV (rawF (shownR τ).sz) (gt rs j) [.int .i64 (gt k.shown j).ver,l]:=⟨ex⟩
   repeat first|refine R1 ?_|refine R2 fun _=>?_
   refine fp (y_call (keepVersion_f _ _ k b0 (gt k.shown j).ver) (by rfl) ?_)
   rintro u _ ⟨eu,rfl⟩
   have ou:=eu.one
   repeat first|refine R1 ?_|refine R2 fun _=>?_
   refine fp (Rq ?_ (neqErr eu (by rfl)))
   repeat first|refine R1 ?_|refine R2 fun _=>?_
   refine sf_cond (by rfl) (fun h1=>?_) fun h1=>?_
   ·rw [h1] at eu
    simp only [Bool.not_eq_true'] at h1
    repeat first|refine R1 ?_|refine R2 fun _=>?_
    exact sf_ret (rO [] ⟨by rw [hF (b:=false) (by rw [shownsOk_F hi1 (by simp [shownOk,h1])]; simp)]; exact eu,rfl⟩)
   simp only [Bool.not_eq_false'] at h1
   clear eu ou
   have hvr:=h1
   simp only [verOk,Bool.and_eq_true,decide_eq_true_eq] at hvr
   by_cases h2:(gt k.shown j).ver ≤ prevVer k j
   ·repeat first|refine R1 ?_|refine R2 fun _=>?_
    refine Sd [[],[0],[],[0,1,2],[0,1,2,3],[0,1,2,3,4],[0,1,2,3,4,5],[0,1,2,3,4],[0,1,2,3,4],[0,1,2,3,4,8],[0,1,2,3,4,7,8,9],[0,1,2,3,4,7,8,9,10],[0,1,2,3,4,5,6,7,8,9,10,11],[0,1,2,3,4,5,6,7,8,9,10,11,12],[0,1,2,3,4,5,6,7,8,9,10,11,12,13]] 12 [Nn 0,Nn 1,Nn 2,Nn 3,Nn 4,Nn 5,Nn 6,Nn 7,Nn 8,Nn 9,Nn 10,Nn 11] ?_
    refine Da ?_
    refine Ae ?_
    repeat first|refine R1 ?_|refine R2 fun _=>?_
    refine sf_T rfl ?_
    repeat first|refine R1 ?_|refine R2 fun _=>?_
    exact sf_ret (rO [] ⟨.inr ⟨_,rfl,by rw [hF (b:=false) (by rw [shownsOk_F hi1 (by simp [shownOk]; intros; omega)]; simp)]; rfl⟩,rfl⟩)
   ·have gok':=gridAt_ok hk.grid hk.edits (gt k.shown j).ver
    repeat first|refine R1 ?_|refine R2 fun _=>?_
    refine Sd [[],[0],[],[0,1,2],[0,1,2,3],[0,1,2,3,4],[0,1,2,3,4,5],[0,1,2,3,4],[0,1,2,3,4],[0,1,2,3,4,8],[0,1,2,3,4,7,8,9],[0,1,2,3,4,7,8,9,10],[0,1,2,3,4,5,6,7,8,9,10,11],[0,1,2,3,4,5,6,7,8,9,10,11,12],[0,1,2,3,4,5,6,7,8,9,10,11,12,13]] 12 [Nn 0,Nn 1,Nn 2,Nn 3,Nn 4,Nn 5,Nn 6,Nn 7,Nn 8,Nn 9,Yy 10,Yy 11] ?_
    refine Da ?_
    refine a_call (keepGridOf_f _ _ k b0 hk (gt k.shown j).ver h1) (by rfl) (by rfl) (.inr ⟨_,_,_,_,rfl,by rfl,by rfl,decide_eq_false h2⟩) ?_
    rintro _ A1 ⟨cs,rfl,q⟩
    obtain ⟨c2,rfl,g1,l1⟩:=gridO q
    have o5:=g1.one
    refine Da ?_
    refine a_call (lendF A1 fun h' _ inb=>picOf_f h' _ _ ((gridR τ).lent q inb) gok') (by rfl) (by rfl) (.inr ⟨_,_,_,_,rfl,by rfl,by rfl,decide_eq_false h2⟩) ?_
    rintro v2 _ ⟨A2,rfl,g2⟩
    have o6:=g2.one
    refine Da ?_
    refine Ae ?_
    refine fp (y_lendV A2 (fun h' l' inb=>intsEqual_v h' _ _ _ _ (sl.le l'.le) (g2.lent (by rw [picOf_len]; have:=(gok gok').many; omega) inb)) (by rfl) ?_)
    repeat first|refine R1 ?_|refine R2 fun _=>?_
    refine sf_cond (by rfl) (fun h3=>?_) fun h3=>?_
    ·repeat first|refine R1 ?_|refine R2 fun _=>?_
     exact sf_ret (rO [] ⟨.inr ⟨_,rfl,by rw [hF (b:=false) (by rw [shownsOk_F hi1 (by simp only [Bool.not_eq_true'] at h3; simp [shownOk,h3])]; simp)]; rfl⟩,rfl⟩)
    ·simp only [Bool.not_eq_false'] at h3
     repeat first|refine R1 ?_|refine R2 fun _=>?_
     refine ⟨j + 1,by omega,⟨?_,rfl,trivial⟩,rfl,[(b1,.cells #[.int .i64 k.first.wide,c,ed,p,s] 30)],_,inferInstance,⟨by omega,?_⟩,rfl⟩
     ·simp only [prevVer,Nat.add_sub_cancel,show ¬ (j + 1 = 0) by omega,if_false]; rfl
     ·rw [shownsOk_step,hpi,Bool.true_and,shownOk,h1,h3]; simp; omega
  ·refine sf_exit ?_
   repeat first|refine R1 ?_|refine R2 fun _=>?_
   exact sf_ret (rO [] ⟨.inl ⟨rfl,by rw [hF (b:=true) (by rw [hpo,show k.shown.length = j by omega,hpi]; rfl)]; rfl⟩,rfl⟩)
theorem keepOk_v [al:Alone Tryz.prog M] (h:PHeap) [BAt h 0 errObj] (ca:List Value) (k:Keeper) (b:(keeperR τ).B h ca k):CallV Tryz.prog M 13 [.agg ca.toArray] h (.bool (keepOk k)):=by
 have b0:=b
 obtain ⟨c,ed,p,s,rfl,s1,s2,s3,s4⟩:=keeperB b
 have o1:=s1.one
 have o2:=s2.one
 have o3:=s3.one
 have o4:=s4.one
 refine Cs Tryz.func13 Tryz.ntmps13 ?_
 repeat first|refine R1 ?_|refine R2 fun _=>?_
 refine fp (y_call (keepCheck_f _ _ k b0) (by rfl) ?_)
 rintro u _ ⟨eu,rfl⟩
 have ou:=eu.one
 repeat first|refine R1 ?_|refine R2 fun _=>?_
 refine Xv (refused_v _ u _ eu) ?_
 repeat first|refine R1 ?_|refine R2 fun _=>?_
 refine sf_ret (rV ?_)
 simp
theorem keepGrid_f [al:Alone Tryz.prog M] (h:PHeap) [BAt h 0 errObj] (ca:List Value) (k:Keeper) (b:(keeperR τ).B h ca k) (v:Int):CallF Tryz.prog M 18 [.agg ca.toArray,.int .i64 v] [] h fun u A=>∃ cs,u = .tuple #[.agg cs.toArray,.bool (keepGrid k v).2]∧(gridR τ).O A cs (keepGrid k v).1:=by
 have b0:=b
 obtain ⟨c,ed,p,s,rfl,s1,s2,s3,s4⟩:=keeperB b
 have o1:=s1.one
 have o2:=s2.one
 have o3:=s3.one
 have o4:=s4.one
 have eF:(keepOk k && verOk k v) = false→keepGrid k v = (noGrid,false):=fun e=>by rw [keepGrid,e]; rfl
 have z0:(gridR τ).O [] [.int .i64 0,.slice none 0 0] noGrid:=gridO_mk (g:=noGrid) (Gr.nil _ _) (by decide)
 refine Cs Tryz.func18 Tryz.ntmps18 ?_
 repeat first|refine R1 ?_|refine R2 fun _=>?_
 refine Xv (keepOk_v _ _ k b0) ?_
 repeat first|refine R1 ?_|refine R2 fun _=>?_
 refine f_splitB (fun h1=>?_) fun h1=>?_
 ·have h1':=h1
  simp only [Bool.not_eq_true'] at h1'
  repeat first|refine R1 ?_|refine R2 fun _=>?_
  refine sf_T rfl ?_
  repeat first|refine R1 ?_|refine R2 fun _=>?_
  rw [eF (by rw [h1']; rfl)]
  exact sf_ret (rO [] ⟨_,rfl,z0⟩)
 have h1':=h1
 simp only [Bool.not_eq_false'] at h1'
 repeat first|refine R1 ?_|refine R2 fun _=>?_
 refine fp (y_call (keepVersion_f _ _ k b0 v) (by rfl) ?_)
 rintro u _ ⟨eu,rfl⟩
 have ou:=eu.one
 repeat first|refine R1 ?_|refine R2 fun _=>?_
 refine Xv (refused_v _ u _ eu) ?_
 repeat first|refine R1 ?_|refine R2 fun _=>?_
 refine sf_cond (by rfl) (fun h2=>?_) fun h2=>?_
 ·simp only [Bool.not_eq_true'] at h2
  repeat first|refine R1 ?_|refine R2 fun _=>?_
  rw [eF (by rw [h2]; simp)]
  exact sf_ret (rO [] ⟨_,rfl,z0⟩)
 simp only [Bool.not_eq_false'] at h2
 have hh:keepHead k = true:=by
  simp only [keepOk,Bool.and_eq_true] at h1'; exact h1'.1.1
 rw [show keepGrid k v = (gridAt k v,true) by rw [keepGrid,h1',h2]; rfl]
 repeat first|refine R1 ?_|refine R2 fun _=>?_
 refine fp (y_call (keepGridOf_f _ _ k b0 (keepHead_is hh) v h2) (by rfl) ?_)
 rintro _ A1 ⟨cs,rfl,q⟩
 have q':=q
 obtain ⟨c2,rfl,g1,l1⟩:=gridO q
 have o5:=g1.one
 repeat first|refine R1 ?_|refine R2 fun _=>?_
 exact sf_ret (rO A1 ⟨_,rfl,q'⟩)
theorem noWordO:(wordR τ).O [] (wordCs noWord (.slice none 0 0) (.slice none 0 0)) noWord:=wordO_mk (w:=noWord) (Gr.nil _ _) (by decide) (Gr.nil _ _) (by decide)
theorem keepTold_f (h:PHeap) (ca:List Value) (k:Keeper) (b:(keeperR τ).B h ca k) (ok:keepOk k = true) (z:Int):CallF Tryz.prog M 63 [.agg ca.toArray,.int .i64 z] [] h fun u A=>∃ cs e,u = .tuple #[.agg cs.toArray,e]∧ErrIs e (!(decide (1 ≤ z) && decide (z ≤ k.parts.length)))∧(wordR τ).O A cs (if 1 ≤ z∧z ≤ k.parts.length then toldTo k z else noWord):=by
 have b0:=b
 have hk:=keepOk_head ok
 obtain ⟨c,ed,p,s,rfl,s1,s2,s3,s4⟩:=keeperB b
 have o1:=s1.one
 have o2:=s2.one
 have o3:=s3.one
 have o4:=s4.one
 have hs2:=s2.small
 have h60:=hk.e60
 have n3:=hk.n3
 obtain ⟨rp,sp,bp⟩:=s3
 have lp:=bp.len
 have hsm:=sp.small
 refine Cs Tryz.func63 Tryz.ntmps63 ?_
 repeat first|refine R1 ?_|refine R2 fun _=>?_
 refine f_split (fun h1=>?_) fun h1=>?_
 ·repeat first|refine R1 ?_|refine R2 fun _=>?_
  refine sf_T rfl ?_
  repeat first|refine R1 ?_|refine R2 fun _=>?_
  rw [if_neg (by omega)]
  exact sf_ret (rO [] ⟨wordCs noWord _ _,_,rfl,.inr ⟨_,rfl,by simp; omega⟩,noWordO⟩)
 repeat first|refine R1 ?_|refine R2 fun _=>?_
 refine sf_if (fun h2=>?_) fun h2=>?_
 ·repeat first|refine R1 ?_|refine R2 fun _=>?_
  rw [if_neg (by omega)]
  exact sf_ret (rO [] ⟨wordCs noWord _ _,_,rfl,.inr ⟨_,rfl,by simp; omega⟩,noWordO⟩)
 rw [if_pos (by omega)]
 obtain ⟨i,hi,hz⟩:∃ i:Nat,i < k.parts.length∧z = i + 1:=⟨(z - 1).toNat,by omega,by omega⟩
 obtain ⟨l,ex,sl⟩:=partB (bp.at hi)
 have ol:=sl.one
 have hsl:=sl.small
 have hi':i < rp.length:=by omega
 have hpo:=keepOk_part ok hi
 have ez:(z - 1).toNat = i:=by omega
 have hT:=toldTo.eq_1 k z
 rw [ez] at hT
 generalize hpt:gt k.parts i = pt at *
 have hver:=partOk_ver hpo
 haveI:FlatV (rawF (partR τ).sz) (gt rp (z - 1).toNat) [.bool pt.has,.int .i64 pt.ver,l]:=⟨by rw [ez]; exact ex⟩
 have heB:ErrIs Value.nilIface (!(decide (1 ≤ z) && decide (z ≤ k.parts.length))):=.inl ⟨rfl,by simp; omega⟩
 have hgr:pt.has = false ∨ ¬ (1 ≤ (k.edits.length:Int) - pt.ver∧(k.edits.length:Int) - pt.ver ≤ 2)→toldTo k z = ⟨1,z,0,k.edits.length,gridAt k k.edits.length,noEdit,[]⟩:=fun x=>by
  rw [hT]
  rcases x with x | x
  ·rw [if_neg (fun y=>by rw [x] at y; exact absurd y.1 (by decide))]
  ·rw [if_neg (fun y=>x y.2)]
 repeat first|refine R1 ?_|refine R2 fun _=>?_
 refine f_splitB (fun e=>?_) fun e=>?_
 ·have hv:=hver e
  repeat first|refine R1 ?_|refine R2 fun _=>?_
  refine f_split (fun h3=>?_) fun h3=>?_
  ·repeat first|refine R1 ?_|refine R2 fun _=>?_
   refine sf_if (fun h4=>?_) fun h4=>?_
   ·rw [if_pos ⟨e,by omega,by omega⟩] at hT
    repeat first|refine R1 ?_|refine R2 fun _=>?_
    refine Sd [[],[],[1],[1,2],[],[4],[],[6],[4,5,6,7],[4,5,6,7,8],[0,1,2,3,4,5,6,7,8,9],[0,1,2,3,4,5,6,7,8,9,10],[0,1,2,3,4,5,6,7,8,9,10,11]] 10 [Nn 0,Nn 1,Nn 2,Nn 3,Nn 4,Nn 5,Nn 6,Nn 7,Nn 8,Nn 9] ?_
    refine Da ?_
    refine Ae ?_
    rw [hT]
    repeat first|refine R1 ?_|refine R2 fun _=>?_
    exact sf_ret (rO [] ⟨wordCs ⟨2,z,0,pt.ver + 1,noGrid,gt k.edits pt.ver.toNat,[]⟩ _ _,_,rfl,heB,wordO_mk (w:=⟨2,z,0,pt.ver + 1,noGrid,gt k.edits pt.ver.toNat,[]⟩) (A1:=[]) (A2:=[]) (Gr.nil _ _) (Nat.zero_le _) (Gr.nil _ _) (Nat.zero_le _)⟩)
   ·rw [hgr (.inr (by omega))]
    repeat first|refine R1 ?_|refine R2 fun _=>?_
    refine fp (y_call (keepGridOf_f _ _ k b0 hk _ (verOk_all k)) (by rfl) ?_)
    rintro _ A1 ⟨cs,rfl,q⟩
    obtain ⟨c2,rfl,g1,l1⟩:=gridO q
    have o5:=g1.one
    repeat first|refine R1 ?_|refine R2 fun _=>?_
    exact sf_ret (rO A1 ⟨wordCs ⟨1,z,0,k.edits.length,gridAt k k.edits.length,noEdit,[]⟩ _ _,_,rfl,heB,by have:=wordO_mk (τ:=τ) (w:=⟨1,z,0,k.edits.length,gridAt k k.edits.length,noEdit,[]⟩) (A1:=A1) (A2:=[]) g1 l1 (Gr.nil _ _) (Nat.zero_le _); rwa [List.append_nil] at this⟩)
  ·rw [hgr (.inr (by omega))]
   repeat first|refine R1 ?_|refine R2 fun _=>?_
   refine sf_N (by first|rfl | (simp; omega)) ?_
   repeat first|refine R1 ?_|refine R2 fun _=>?_
   refine fp (y_call (keepGridOf_f _ _ k b0 hk _ (verOk_all k)) (by rfl) ?_)
   rintro _ A1 ⟨cs,rfl,q⟩
   obtain ⟨c2,rfl,g1,l1⟩:=gridO q
   have o5:=g1.one
   repeat first|refine R1 ?_|refine R2 fun _=>?_
   exact sf_ret (rO A1 ⟨wordCs ⟨1,z,0,k.edits.length,gridAt k k.edits.length,noEdit,[]⟩ _ _,_,rfl,heB,by have:=wordO_mk (τ:=τ) (w:=⟨1,z,0,k.edits.length,gridAt k k.edits.length,noEdit,[]⟩) (A1:=A1) (A2:=[]) g1 l1 (Gr.nil _ _) (Nat.zero_le _); rwa [List.append_nil] at this⟩)
 ·rw [hgr (.inl (by simpa using e))]
  repeat first|refine R1 ?_|refine R2 fun _=>?_
  refine sf_N (by first|rfl | (simp; omega)) ?_
  repeat first|refine R1 ?_|refine R2 fun _=>?_
  refine fp (y_call (keepGridOf_f _ _ k b0 hk _ (verOk_all k)) (by rfl) ?_)
  rintro _ A1 ⟨cs,rfl,q⟩
  obtain ⟨c2,rfl,g1,l1⟩:=gridO q
  have o5:=g1.one
  repeat first|refine R1 ?_|refine R2 fun _=>?_
  exact sf_ret (rO A1 ⟨wordCs ⟨1,z,0,k.edits.length,gridAt k k.edits.length,noEdit,[]⟩ _ _,_,rfl,heB,by have:=wordO_mk (τ:=τ) (w:=⟨1,z,0,k.edits.length,gridAt k k.edits.length,noEdit,[]⟩) (A1:=A1) (A2:=[]) g1 l1 (Gr.nil _ _) (Nat.zero_le _); rwa [List.append_nil] at this⟩)
theorem keepTell_f [al:Alone Tryz.prog M] (h:PHeap) [BAt h 0 errObj] (ca:List Value) (k:Keeper) (b:(keeperR τ).B h ca k) (z:Int):CallF Tryz.prog M 23 [.agg ca.toArray,.int .i64 z] [] h fun u A=>∃ cs,u = .tuple #[.agg cs.toArray,.bool (keepTell k z).2]∧(wordR τ).O A cs (keepTell k z).1:=by
 have b0:=b
 obtain ⟨c,ed,p,s,rfl,s1,s2,s3,s4⟩:=keeperB b
 have o1:=s1.one
 have o2:=s2.one
 have o3:=s3.one
 have o4:=s4.one
 refine Cs Tryz.func23 Tryz.ntmps23 ?_
 repeat first|refine R1 ?_|refine R2 fun _=>?_
 refine Xv (keepOk_v _ _ k b0) ?_
 repeat first|refine R1 ?_|refine R2 fun _=>?_
 refine sf_cond (by rfl) (fun h1=>?_) fun h1=>?_
 ·simp only [Bool.not_eq_true'] at h1
  repeat first|refine R1 ?_|refine R2 fun _=>?_
  rw [show keepTell k z = (noWord,false) by rw [keepTell,if_neg (by simp [h1])]]
  exact sf_ret (rO [] ⟨wordCs noWord _ _,rfl,noWordO⟩)
 simp only [Bool.not_eq_false'] at h1
 repeat first|refine R1 ?_|refine R2 fun _=>?_
 refine fp (y_call (keepTold_f _ _ k b0 h1 z) (by rfl) ?_)
 rintro _ A1 ⟨cs,e,rfl,he,q⟩
 have oe:=he.one
 have q':=q
 obtain ⟨c5,l5,A2,A3,rfl,rfl,⟨g5,lg⟩,⟨g6,lg6⟩⟩:=wordO q
 have o5:=g5.one
 have o6:=g6.one
 repeat first|refine R1 ?_|refine R2 fun _=>?_
 have e2:(decide (1 ≤ z) && decide (z ≤ (k.parts.length:Int))) = (keepTell k z).2∧(if 1 ≤ z∧z ≤ (k.parts.length:Int) then toldTo k z else noWord) = (keepTell k z).1:=by
  unfold keepTell
  by_cases hz:1 ≤ z∧z ≤ (k.parts.length:Int)
  ·rw [if_pos hz,if_pos ⟨h1,hz⟩]; simp [hz.1,hz.2]
  ·rw [if_neg hz,if_neg (fun x=>hz x.2)]; refine ⟨?_,rfl⟩; simp; omega
 rw [e2.1] at he
 rw [e2.2] at q' ⊢
 repeat first|refine R1 ?_|refine R2 fun _=>?_
 rename_i b2 b4 b6
 refine sf_draw (by kernel_rfl) (regX_own ([(b4,.cells #[.int .i64 0,.int .i64 0,.int .i64 0,.int .i64 0,.int .i64 0,.slice none 0 0,.int .i64 0,.int .i64 0,.int .i64 0,.slice none 0 0] 50)]) (Sw [[],[],[1],[1,2],[0,1,2],[0,1,2,3,4]] 5 [Nn 0,Nn 1,Yy 2,Nn 3,Yy 4] ?_))
 refine Da ?_
 refine Yv (refused_v _ _ _ he) ?_
 refine Da ?_
 refine a_store (by rfl) (by rfl) (by rfl) (.inl rfl) ?_
 refine Ae ?_
 simp only [Bool.not_not]
 repeat first|refine R1 ?_|refine R2 fun _=>?_
 exact sf_ret (rO (A2++A3) ⟨wordCs _ c5 l5,rfl,q'⟩)
theorem llRows_v (h:PHeap) (a b:Value) (xs ys:List (List Int)) (sx:SlR (intSR τ) h a xs) (sy:SlR (intSR τ) h b ys):CallV Tryz.prog M 77 [a,b] h (.bool (decide (xs = ys))):=by
 have o1:=sx.one
 have o2:=sy.one
 obtain ⟨rx,sx,bx⟩:=sx
 obtain ⟨ry,sy,by'⟩:=sy
 have lx:=bx.len
 have ly:=by'.len
 have hx:=sx.small
 have hy:=sy.small
 refine Cs Tryz.func77 Tryz.ntmps77 ?_
 refine Wo ?_
 refine sf_if (fun e0=>?_) fun e0=>?_
 ·refine Wo ?_
  exact sf_ret (rV (bF fun e=>e0 (by rw [lx,ly,e])))
 have hl:xs.length = ys.length:=by omega
 refine Wo ?_
 refine sf_rd [0,1] 5 xs.length 0 (fun k=>xs.take k = ys.take k) (by omega) rfl (fun k hk hi=>?_)
 refine Wo ?_
 refine sf_if (fun h4=>?_) fun h4=>?_
 ·have hk4:k < xs.length:=by omega
  have hk5:k < ys.length:=by omega
  have bx4:=bx.at hk4
  have by4:=by'.at hk5
  have hk6:k < rx.length:=by omega
  have hk7:k < ry.length:=by omega
  obtain ⟨vx,ex,sx4⟩:=bx4
  obtain ⟨vy,ey,sy4⟩:=by4
  haveI:FlatV (rawF (intSR τ).sz) (gt rx k) [vx]:=⟨ex⟩
  haveI:FlatV (rawF (intSR τ).sz) (gt ry k) [vy]:=⟨ey⟩
  have o3:=sx4.one
  have o4:=sy4.one
  refine Wo ?_
  refine Sd [[],[],[0,1],[0,1,2],[],[],[4,5],[4,5,6],[0,1,2,3,4,5,6,7],[0,1,2,3,4,5,6,7,8]] 8 [Nn 0,Nn 1,Nn 2,Nn 3,Nn 4,Nn 5,Nn 6,Nn 7] ?_
  refine Da ?_
  refine Ae ?_
  refine Xv (llInts_v _ _ _ _ _ sx4 sy4) ?_
  refine Wo ?_
  refine sf_ifn (fun e1=>?_) fun e1=>?_
  ·refine Wo ?_
   exact sf_ret (rV (bF (eq_at e1)))
  ·refine Wo ?_
   exact ⟨⟨hk4,eq_step hk4 hk5 hi (by exact e1)⟩,rfl,rfl,_,inferInstance⟩
 ·refine sf_exit ?_
  refine Wo ?_
  exact sf_ret (rV (bT (eq_end hl (by omega) hi)))
theorem llScene_v (h:PHeap) (ca cb:List Value) (x y:Scene) (bx:(sceneR τ).B h ca x) (by':(sceneR τ).B h cb y):CallV Tryz.prog M 38 [.agg ca.toArray,.agg cb.toArray] h (.bool (decide (x = y))):=by
 obtain ⟨c1,l1,f1,rfl,s1,t1,u1⟩:=sceneB bx
 obtain ⟨c2,l2,f2,rfl,s2,t2,u2⟩:=sceneB by'
 have o1:=s1.one
 have o2:=s2.one
 have o3:=t1.one
 have o4:=t2.one
 have o5:=u1.one
 have o6:=u2.one
 refine Cs Tryz.func38 Tryz.ntmps38 ?_
 repeat first|refine R1 ?_|refine R2 fun _=>?_
 refine Xv (llGrid_v _ _ _ x.grid y.grid (gridB_mk s1) (gridB_mk s2)) ?_
 repeat first|refine R1 ?_|refine R2 fun _=>?_
 refine f_split (fun e1=>?_) fun e1=>?_
 ·repeat first|refine R1 ?_|refine R2 fun _=>?_
  refine Xv (llInts_v _ _ _ _ _ t1 t2) ?_
  repeat first|refine R1 ?_|refine R2 fun _=>?_
  refine f_split (fun e2=>?_) fun e2=>?_
  ·repeat first|refine R1 ?_|refine R2 fun _=>?_
   refine Xv (llRows_v _ _ _ _ _ u1 u2) ?_
   repeat first|refine R1 ?_|refine R2 fun _=>?_
   refine sf_ret (rV ?_)
   congr 1
   cases x; cases y; simp_all
  ·repeat first|refine R1 ?_|refine R2 fun _=>?_
   refine sf_ret (rV ?_)
   congr 1
   cases x; cases y; simp_all
 ·repeat first|refine R1 ?_|refine R2 fun _=>?_
  refine sf_ret (rV ?_)
  congr 1
  cases x; cases y; simp_all
theorem llWordP_s (h:PHeap) (ca cb:List Value) (w:Word) (bx:(wordR τ).B h ca w) (by':(wordR τ).B h cb w):CallV Tryz.prog M 24 [.agg ca.toArray,.agg cb.toArray] h (.bool true):=by
 obtain ⟨c1,l1,rfl,s1,t1⟩:=wordB bx
 have o1:=s1.one
 have p1:=t1.one
 obtain ⟨c2,l2,rfl,s2,t2⟩:=wordB by'
 have o2:=s2.one
 have p2:=t2.one
 refine Cs Tryz.func24 Tryz.ntmps24 ?_
 repeat first|refine R1 ?_|refine R2 fun _=>?_
 rw [decide_eq_true (rfl:w.kind = w.kind)]
 repeat first|refine R1 ?_|refine R2 fun _=>?_
 rw [decide_eq_true (rfl:w.to = w.to)]
 repeat first|refine R1 ?_|refine R2 fun _=>?_
 rw [decide_eq_true (rfl:w.frm = w.frm)]
 repeat first|refine R1 ?_|refine R2 fun _=>?_
 rw [decide_eq_true (rfl:w.ver = w.ver)]
 repeat first|refine R1 ?_|refine R2 fun _=>?_
 refine Xv (llGrid_v _ _ _ w.grid w.grid (gridB_mk s1) (gridB_mk s2)) ?_
 rw [decide_eq_true (rfl:w.grid = w.grid)]
 repeat first|refine R1 ?_|refine R2 fun _=>?_
 refine fp (Rq ?_ (q_eqS (E:=editF) (a:=w.edit) (b:=w.edit) inferInstance (by rfl) (by rfl)))
 rw [decide_eq_true (rfl:w.edit = w.edit)]
 repeat first|refine R1 ?_|refine R2 fun _=>?_
 refine Xv (llInts_v _ _ _ w.lights w.lights t1 t2) ?_
 rw [decide_eq_true (rfl:w.lights = w.lights)]
 repeat first|refine R1 ?_|refine R2 fun _=>?_
 exact sf_ret (rV rfl)
end Go.Proofs.YtcpkcmgjfcbnpaaGreatDoor
namespace Go.Proofs.YtcpkcmgjfcbnpaaGreatDoor
open Go Go.Sl Go.Sort
set_option maxRecDepth 100000
set_option maxHeartbeats 4000000
attribute [local irreducible] Go.Code.sf sfOps Opq opo retF Do1 anyO
variable {M:Jdg→Prop} [IsCl Tryz.prog M]
theorem isNaN_v (h:PHeap) (x:Int):CallV Tryz.prog M 223 [.int .i64 x] h (.bool false):=by
 refine Cs Tryz.func223 Tryz.ntmps223 ?_
 refine Wo ?_
 refine sf_ret (rV ?_)
 simp
theorem less_v (h:PHeap) (x y:Int):CallV Tryz.prog M 210 [.int .i64 x,.int .i64 y] h (.bool (decide (x < y))):=by
 refine Cs Tryz.func210 Tryz.ntmps210 ?_
 refine Wo ?_
 refine Xv (isNaN_v _ _) ?_
 refine Wo ?_
 exact sf_ret (rV rfl)
theorem insertionSort_f (h : PHeap) (v : Value) (A : Own) (d : Array Int) (g : Gr A v 3 intF d.toList) (a b : Nat) (hb : b ≤ d.size) (hs : d.size ≤ 1000000) (ha : a ≤ b) :
  CallF Tryz.prog M 204 [v,.int .i64 (a:Int),.int .i64 (b:Int)] A h fun u A'=>u = .tuple #[]∧Gr A' v 3 intF (insertionSort ltInt d a b).toList:=by
 have o:=g.one
 refine Cs Tryz.func204 Tryz.ntmps204 ?_
 refine Wo ?_
 refine sf_lp (ι:=Nat × Array Int) [0,1,2] (fun x=>[(6,.int .i64 (x.1:Int))]) (fun x O=>Gr O v 3 intF x.2.toList∧x.2.size = d.size∧a + 1 ≤ x.1∧insOuter ltInt a b x.1 x.2 = insertionSort ltInt d a b) (fun x=>b - x.1) (a + 1,d) A ⟨g,rfl,by simp only; omega,rfl⟩ ?_
 rintro ⟨i,e⟩ O ⟨ge,hsz,hi,hinv⟩
 simp only at ge hsz hi hinv ⊢
 refine Wo ?_
 refine sf_if (fun h1=>?_) fun h1=>?_
 ·refine Wo ?_
  refine sf_lp (ι:=Nat × Array Int) [0,1,2,6] (fun x=>[(7,.int .i64 (x.1:Int))]) (fun x O=>Gr O v 3 intF x.2.toList∧x.2.size = d.size∧x.1 < b∧insInner ltInt a x.1 x.2 = insInner ltInt a i e) (fun x=>x.1) (i,e) O ⟨ge,hsz,by simp only; omega,rfl⟩ ?_
  rintro ⟨j,f⟩ O ⟨gf,fsz,hj,finv⟩
  simp only at gf fsz hj finv ⊢
  clear ge
  by_cases h2:a < j
  ·obtain ⟨j,rfl⟩:∃ j',j = j' + 1:=⟨j - 1,by omega⟩
   have h3:(a:Int) < ((j + 1:Nat):Int):=by omega
   have lf:f.toList.length = f.size:=by simp
   have q1:gt f.toList ((j + 1:Nat):Int).toNat = f[j + 1]!:=gt_arr' (by omega) (by omega)
   have q2:gt f.toList (((j + 1:Nat):Int) - 1).toNat = f[j]!:=gt_arr' (by omega) (by omega)
   refine Wo ?_
   refine Sd [[],[],[0,1],[0,1,2],[0,1,2,3],[0,1,2,3],[0,1,2,3,4,5],[0,1,2,3,4,5,6],[0,1,2,3],[0,1,2,3],[0,1,2,3,9],[0,1,2,3,8,9,10],[0,1,2,3,8,9,10,11],[0,1,2,3,4,5,6,7,8,9,10,11,12],[0,1,2,3,4,5,6,7,8,9,10,11,12,13]] 13 [Nn 0,Nn 1,Nn 2,Nn 3,Nn 4,Nn 5,Nn 6,Nn 7,Nn 8,Nn 9,Nn 10,Nn 11,Nn 12] ?_
   refine Di ?_
   refine Ae ?_
   refine Xv (less_v _ _ _) ?_
   refine Wo ?_
   refine sf_if (fun h4=>?_) fun h4=>?_
   ·refine Wo ?_
    refine sf_draw (by kernel_rfl) (regX_own (O) (regX_split 9 13 (by rfl) ?_ ?_))
    case' refine_1=>
     refine Sw [[],[],[],[],[3],[],[],[6],[5,6,7],[5,6,7,8],[],[],[10,11],[5,6,7,8,9,10,11,12],[0,1,5,6,7,8,9,10,11,12,13],[0,1,5,6,7,8,9,10,11,12,13,14],[0,1,2,3,4,5,6,7,8,9,10,11,12,13,14,15],[0,1,2,3,4,5,6,7,8,9,10,11,12,13,14,15,16]] 16 [Nn 0,Nn 1,Nn 2,Nn 3,Nn 4,Nn 5,Nn 6,Nn 7,Nn 8,Nn 10,Nn 11,Nn 12,Yy 9,Yy 13,Nn 14,Yy 15] ?_
     refine Di ?_
     refine Yw (by rfl) (z_loadG (by rfl) gf (by omega) (by rfl)) ?_
     refine Di ?_
     refine Yw (by rfl) (z_loadG (by rfl) gf (by omega) (by rfl)) ?_
     refine Di ?_
     refine Yg gf fun As ys hy hl fs gg=>?_
     refine Di ?_
     refine Ae ?_
    case' refine_2=>
     refine Sw [[],[],[],[],[3],[],[],[6],[5,6,7],[5,6,7,8,10,11,12,13],[],[],[10,11],[10,11,12],[0,1,5,6,7,8,9,10,11,12,13],[0,1,5,6,7,8,9,10,11,12,13,14],[0,1,2,3,4,5,6,7,8,9,10,11,12,13,14,15],[0,1,2,3,4,5,6,7,8,9,10,11,12,13,14,15,16]] 16 [Nn 0,Nn 1,Nn 2,Nn 3,Nn 4,Nn 5,Nn 6,Nn 7,Nn 8,Nn 10,Nn 11,Nn 12,Yy 13,Yy 9,Nn 14,Yy 15] ?_
     refine Di ?_
     refine Yw (by rfl) (z_loadG (by rfl) gf (by omega) (by rfl)) ?_
     refine Di ?_
     refine Yw (by rfl) (z_loadG (by rfl) gf (by omega) (by rfl)) ?_
     refine Di ?_
     refine Yg gf fun As ys hy hl fs gg=>?_
     refine Di ?_
     refine Ae ?_
    all_goals
     refine Wi ?_
     refine Xg gg fun At zs hz hlz fz gz=>?_
     refine Wi ?_
     have hf:zs = (swp f (j + 1) j).toList:=swp_is hy hz (by omega) (by omega) (by omega) (by omega) (by omega) (by omega)
     rw [hf] at gz
     exact ⟨(j,swp f (j + 1) j),by simp only; omega,⟨vI (by omega),trivial⟩,rfl,_,_,inferInstance,gz,by simp only [swp_size]; exact fsz,by simp only; omega,by simp only; rw [← finv,insInner_go h2 (by rw [← q1,← q2]; exact h4)]⟩
   ·refine sf_exit ?_
    refine Wo ?_
    exact ⟨(i + 1,f),by simp only; omega,⟨rfl,trivial⟩,rfl,_,_,inferInstance,gf,fsz,by simp only; omega,by simp only; rw [← hinv,insOuter_go (i:=i) (d:=e) (by omega),← finv,insInner_stop (by rw [← q1,← q2]; exact h4)]⟩
  ·have h3:¬ (a:Int) < (j:Int):=by omega
   refine Wo ?_
   refine Sd [[],[],[0,1],[0,1,2],[0,1,2,3],[0,1,2,3],[0,1,2,3,4,5],[0,1,2,3,4,5,6],[0,1,2,3],[0,1,2,3],[0,1,2,3,9],[0,1,2,3,8,9,10],[0,1,2,3,8,9,10,11],[0,1,2,3,4,5,6,7,8,9,10,11,12],[0,1,2,3,4,5,6,7,8,9,10,11,12,13]] 13 [Nn 0,Nn 1,Nn 2,Nn 3,Nn 4,Nn 5,Nn 6,Nn 7,Nn 8,Nn 9,Nn 10,Nn 11,Nn 12] ?_
   refine Di ?_
   refine Ae ?_
   refine Wo ?_
   refine sf_cond (by rfl) (fun e=>by cases e) fun z1=>?_
   clear z1
   refine sf_exit ?_
   refine Wo ?_
   exact ⟨(i + 1,f),by simp only; omega,⟨rfl,trivial⟩,rfl,_,_,inferInstance,gf,fsz,by simp only; omega,by simp only; rw [← hinv,insOuter_go (i:=i) (d:=e) (by omega),← finv,insInner_no h2]⟩
 ·refine sf_exit ?_
  refine Wo ?_
  refine nO O ⟨rfl,?_⟩
  rw [← hinv,insOuter_end (by omega)]
  exact ge
theorem siftDown_f (h : PHeap) (v : Value) (A : Own) (d : Array Int) (g : Gr A v 3 intF d.toList) (lo hi first : Nat) (hb : first + hi ≤ d.size) (hs : d.size ≤ 1000000) (hl : lo ≤ 1000000) :
  CallF Tryz.prog M 218 [v,.int .i64 (lo:Int),.int .i64 (hi:Int),.int .i64 (first:Int)] A h fun u A'=>u = .tuple #[]∧Gr A' v 3 intF (siftDown ltInt hi first lo d).toList:=by
 have o:=g.one
 refine Cs Tryz.func218 Tryz.ntmps218 ?_
 refine Wo ?_
 refine sf_lp (ι:=Nat × Array Int) [0,2,3] (fun x=>[(8,.int .i64 (x.1:Int))]) (fun x O=>Gr O v 3 intF x.2.toList∧x.2.size = d.size∧x.1 ≤ 1000000∧siftDown ltInt hi first x.1 x.2 = siftDown ltInt hi first lo d) (fun x=>hi - x.1) (lo,d) A ⟨g,rfl,hl,rfl⟩ ?_
 rintro ⟨r,f⟩ O ⟨gf,fsz,hr,finv⟩
 simp only at gf fsz hr finv ⊢
 have lf:f.toList.length = f.size:=by simp
 refine Wo ?_
 refine sf_if (fun h1=>?_) fun h1=>?_
 ·refine sf_exit ?_
  refine Wo ?_
  refine nO O ⟨rfl,?_⟩
  rw [← finv,siftDown,dif_pos (by omega)]
  exact gf
 refine Wo ?_
 have q1:2 * r + 1 < hi:=by omega
 have w1:gt f.toList ((first:Int) + (2 * (r:Int) + 1)).toNat = f[first + (2 * r + 1)]!:=gt_arr' (by omega) (by omega)
 obtain ⟨c,hc⟩:=child_is hi first r f
 have cb:c < hi:=by rcases hc with ⟨⟨_,_⟩,rfl⟩ | ⟨_,rfl⟩ <;> omega
 have cr:r < c:=by rcases hc with ⟨⟨_,_⟩,rfl⟩ | ⟨_,rfl⟩ <;> omega
 have hstep:=siftDown_step q1 hc
 apply viaT
 ·intro tail
  by_cases hA:2 * (r:Int) + 1 + 1 < (hi:Int)
  ·have w2:gt f.toList ((first:Int) + (2 * (r:Int) + 1) + 1).toNat = f[first + (2 * r + 2)]!:=gt_arr' (by omega) (by omega)
   refine Sd [[],[0],[],[0,1,2],[0,1,2,3],[0,1,2,3,4],[0,1,2,3,4],[0,1,2,3,4],[0,1,2,3,4,6,7],[0,1,2,3,4,5,6,7,8],[0,1,2,3,4,5,6,7,8,9],[0,1,2,3,4],[0,1,2,3,4],[0,1,2,3,4],[0,1,2,3,4,12,13],[0,1,2,3,4,12,13,14],[0,1,2,3,4,11,12,13,14,15],[0,1,2,3,4,11,12,13,14,15,16],[0,1,2,3,4,5,6,7,8,9,10,11,12,13,14,15,16,17],[0,1,2,3,4,5,6,7,8,9,10,11,12,13,14,15,16,17,18]] 18 [Nn 0,Nn 1,Nn 2,Nn 3,Nn 4,Nn 5,Nn 6,Nn 7,Nn 8,Nn 9,Nn 10,Nn 11,Nn 12,Nn 13,Nn 14,Nn 15,Nn 16,Nn 17] ?_
   refine Di ?_
   refine Ae ?_
   refine Xv (less_v _ _ _) ?_
   refine Wo ?_
   rw [w1,w2]
   rcases hc with ⟨⟨_,hB⟩,hc⟩ | ⟨hB,hc⟩
   ·refine sf_T (decide_eq_true hB) ?_
    refine Wo ?_
    rw [show 2 * (r:Int) + 1 + 1 = (c:Int) by omega]
    refine sf_keep [0,2,3,8,9] ?_
    exact tail.out
   ·refine sf_N (decide_eq_false fun h=>hB ⟨by omega,h⟩) ?_
    refine Wo ?_
    rw [show 2 * (r:Int) + 1 = (c:Int) by omega]
    refine sf_keep [0,2,3,8,9] ?_
    exact tail.out
  ·refine Sd [[],[0],[],[0,1,2],[0,1,2,3],[0,1,2,3,4],[0,1,2,3,4],[0,1,2,3,4],[0,1,2,3,4,6,7],[0,1,2,3,4,5,6,7,8],[0,1,2,3,4,5,6,7,8,9],[0,1,2,3,4],[0,1,2,3,4],[0,1,2,3,4],[0,1,2,3,4,12,13],[0,1,2,3,4,12,13,14],[0,1,2,3,4,11,12,13,14,15],[0,1,2,3,4,11,12,13,14,15,16],[0,1,2,3,4,5,6,7,8,9,10,11,12,13,14,15,16,17],[0,1,2,3,4,5,6,7,8,9,10,11,12,13,14,15,16,17,18]] 18 [Nn 0,Nn 1,Nn 2,Nn 3,Nn 4,Nn 5,Nn 6,Nn 7,Nn 8,Nn 9,Nn 10,Nn 11,Nn 12,Nn 13,Nn 14,Nn 15,Nn 16,Nn 17] ?_
   refine Di ?_
   refine Ae ?_
   refine Wo ?_
   refine sf_cond (by rfl) (fun e=>by cases e) fun z1=>?_
   clear z1
   refine Wo ?_
   rw [show 2 * (r:Int) + 1 = (c:Int) by rcases hc with ⟨⟨_,_⟩,rfl⟩ | ⟨_,rfl⟩ <;> omega]
   refine sf_keep [0,2,3,8,9] ?_
   exact tail.out
 refine Wo ?_
 have v1:gt f.toList (first + r) = f[first + r]!:=gt_arr (by omega)
 have v2:gt f.toList (first + c) = f[first + c]!:=gt_arr (by omega)
 refine Sd [[],[],[],[1,2],[0,1,2,3],[0,1,2,3,4],[],[],[],[7,8],[6,7,8,9],[6,7,8,9,10],[0,1,2,3,4,5,6,7,8,9,10,11],[0,1,2,3,4,5,6,7,8,9,10,11,12]] 12 [Nn 0,Nn 1,Nn 2,Nn 3,Nn 4,Nn 5,Nn 6,Nn 7,Nn 8,Nn 9,Nn 10,Nn 11] ?_
 refine Di ?_
 refine Ae ?_
 refine Xv (less_v _ _ _) ?_
 refine Wo ?_
 rw [v1,v2]
 refine sf_ifn (fun h4=>?_) fun h4=>?_
 ·refine Wo ?_
  refine sf_ret (rO O ⟨rfl,?_⟩)
  rw [← finv,hstep,if_neg h4]
  exact gf
 rw [if_pos h4] at hstep
 refine Wo ?_
 refine sf_draw (by kernel_rfl) (regX_own (O) (regX_split 13 19 (by rfl) ?_ ?_))
 case' refine_1=>
  refine Sw [[],[],[],[1,2],[],[],[],[5,6],[],[],[],[9,10],[8,9,10,11],[8,9,10,11,12],[],[],[],[15,16],[14,15,16,17],[8,9,10,11,12,13,14,15,16,17,18],[0,1,2,3,8,9,10,11,12,13,14,15,16,17,18,19],[0,1,2,3,8,9,10,11,12,13,14,15,16,17,18,19,20],[0,1,2,3,4,5,6,7,8,9,10,11,12,13,14,15,16,17,18,19,20,21],[0,1,2,3,4,5,6,7,8,9,10,11,12,13,14,15,16,17,18,19,20,21,22]] 22 [Nn 0,Nn 1,Nn 2,Nn 3,Nn 4,Nn 5,Nn 6,Nn 7,Nn 8,Nn 9,Nn 10,Nn 11,Nn 12,Nn 14,Nn 15,Nn 16,Nn 17,Nn 18,Yy 13,Yy 19,Nn 20,Yy 21] ?_
  refine Di ?_
  refine Yw (by rfl) (z_loadG (by rfl) gf (by omega) (by rfl)) ?_
  refine Di ?_
  refine Yw (by rfl) (z_loadG (by rfl) gf (by omega) (by rfl)) ?_
  refine Di ?_
  refine Yg gf fun As ys hy hl fs gg=>?_
  refine Di ?_
  refine Ae ?_
 case' refine_2=>
  refine Sw [[],[],[],[1,2],[],[],[],[5,6],[],[],[],[9,10],[8,9,10,11],[8,9,10,11,12,14,15,16,17,18,19],[],[],[],[15,16],[14,15,16,17],[14,15,16,17,18],[0,1,2,3,8,9,10,11,12,13,14,15,16,17,18,19],[0,1,2,3,8,9,10,11,12,13,14,15,16,17,18,19,20],[0,1,2,3,4,5,6,7,8,9,10,11,12,13,14,15,16,17,18,19,20,21],[0,1,2,3,4,5,6,7,8,9,10,11,12,13,14,15,16,17,18,19,20,21,22]] 22 [Nn 0,Nn 1,Nn 2,Nn 3,Nn 4,Nn 5,Nn 6,Nn 7,Nn 8,Nn 9,Nn 10,Nn 11,Nn 12,Nn 14,Nn 15,Nn 16,Nn 17,Nn 18,Yy 19,Yy 13,Nn 20,Yy 21] ?_
  refine Di ?_
  refine Yw (by rfl) (z_loadG (by rfl) gf (by omega) (by rfl)) ?_
  refine Di ?_
  refine Yw (by rfl) (z_loadG (by rfl) gf (by omega) (by rfl)) ?_
  refine Di ?_
  refine Yg gf fun As ys hy hl fs gg=>?_
  refine Di ?_
  refine Ae ?_
 all_goals
  refine Wi ?_
  refine Xg gg fun At zs hz hlz fz gz=>?_
  refine Wi ?_
  have hf:zs = (swp f (first + r) (first + c)).toList:=swp_is hy hz (by omega) (by omega) (by omega) (by omega) (by omega) (by omega)
  rw [hf] at gz
  exact ⟨(c,swp f (first + r) (first + c)),by simp only; omega,⟨rfl,trivial⟩,rfl,_,_,inferInstance,gz,by simp only [swp_size]; exact fsz,by simp only; omega,by simp only; rw [← finv,hstep]⟩
theorem heapSort_f (h : PHeap) (v : Value) (A : Own) (d : Array Int) (g : Gr A v 3 intF d.toList) (a b : Nat) (hb : b ≤ d.size) (hs : d.size ≤ 1000000) (hab : a < b) :
  CallF Tryz.prog M 205 [v,.int .i64 (a:Int),.int .i64 (b:Int)] A h fun u A'=>u = .tuple #[]∧Gr A' v 3 intF (heapSort ltInt d a b).toList:=by
 have o:=g.one
 obtain ⟨n,rfl⟩:∃ n:Nat,b = a + n:=⟨b - a,by omega⟩
 refine Cs Tryz.func205 Tryz.ntmps205 ?_
 refine Wo ?_
 have e0:((a + n:Nat):Int) - (a:Int) = (n:Int):=by omega
 rw [e0]
 rw [show ((n:Int) - 1) / 2 = (((n - 1) / 2 + 1:Nat):Int) - 1 by omega]
 have hsort:heapSort ltInt d a (a + n) = heapPop ltInt a n (heapBuild ltInt n a ((n - 1) / 2 + 1) d):=by
  unfold heapSort; rw [show a + n - a = n by omega]
 refine sf_lp (ι:=Nat × Array Int) [0,6,7,8] (fun x=>[(9,.int .i64 ((x.1:Int) - 1))]) (fun x O=>Gr O v 3 intF x.2.toList∧x.2.size = d.size∧x.1 ≤ n + 1∧heapBuild ltInt n a x.1 x.2 = heapBuild ltInt n a ((n - 1) / 2 + 1) d) (fun x=>x.1) ((n - 1) / 2 + 1,d) A ⟨g,rfl,by simp only; omega,rfl⟩ ?_
 rintro ⟨k,f⟩ O ⟨gf,fsz,hk,finv⟩
 simp only at gf fsz hk finv ⊢
 refine Wo ?_
 refine sf_if (fun h1=>?_) fun h1=>?_
 ·obtain ⟨k,rfl⟩:∃ k',k = k' + 1:=⟨k - 1,by omega⟩
  rw [show (((k + 1:Nat):Int) - 1) = (k:Int) by omega]
  refine Wo ?_
  refine fp (y_call (siftDown_f (M:=M) _ v O f gf k n a (by omega) (by omega) (by omega)) (by rfl) ?_)
  rintro _ A1 ⟨rfl,g1⟩
  refine Wo ?_
  exact ⟨(k,_),by simp only; omega,⟨rfl,trivial⟩,rfl,A1,_,inferInstance,g1,by simp only [siftDown_size]; exact fsz,by simp only; omega,by simp only; rw [← finv]; rfl⟩
 ·refine sf_exit ?_
  obtain rfl:k = 0:=by omega
  rw [← finv] at hsort
  clear finv
  refine Wo ?_
  refine sf_lp (ι:=Nat × Array Int) [0,6,7] (fun x=>[(10,.int .i64 ((x.1:Int) - 1))]) (fun x O=>Gr O v 3 intF x.2.toList∧x.2.size = d.size∧x.1 ≤ n∧heapPop ltInt a x.1 x.2 = heapSort ltInt d a (a + n)) (fun x=>x.1) (n,f) O ⟨gf,fsz,by simp only; omega,hsort.symm⟩ ?_
  rintro ⟨k,f⟩ O ⟨gf,fsz,hk,finv⟩
  simp only at gf fsz hk finv ⊢
  have lf:f.toList.length = f.size:=by simp
  refine Wo ?_
  refine sf_if (fun h1=>?_) fun h1=>?_
  ·obtain ⟨k,rfl⟩:∃ k',k = k' + 1:=⟨k - 1,by omega⟩
   rw [show (((k + 1:Nat):Int) - 1) = (k:Int) by omega]
   refine Wo ?_
   refine sf_draw (by kernel_rfl) (regX_own (O) (regX_split 11 15 (by rfl) ?_ ?_))
   case' refine_1=>
    refine Sw [[],[],[],[],[],[3,4],[],[],[],[7,8],[6,7,8,9],[6,7,8,9,10],[],[],[12,13],[6,7,8,9,10,11,12,13,14],[0,1,6,7,8,9,10,11,12,13,14,15],[0,1,6,7,8,9,10,11,12,13,14,15,16],[0,1,2,3,4,5,6,7,8,9,10,11,12,13,14,15,16,17],[0,1,2,3,4,5,6,7,8,9,10,11,12,13,14,15,16,17,18]] 18 [Nn 0,Nn 1,Nn 2,Nn 3,Nn 4,Nn 5,Nn 6,Nn 7,Nn 8,Nn 9,Nn 10,Nn 12,Nn 13,Nn 14,Yy 11,Yy 15,Nn 16,Yy 17] ?_
    refine Di ?_
    refine Yw (by rfl) (z_loadG (by rfl) gf (by omega) (by rfl)) ?_
    refine Di ?_
    refine Yw (by rfl) (z_loadG (by rfl) gf (by omega) (by rfl)) ?_
    refine Di ?_
    refine Yg gf fun As ys hy hl fs gg=>?_
    refine Di ?_
    refine Ae ?_
   case' refine_2=>
    refine Sw [[],[],[],[],[],[3,4],[],[],[],[7,8],[6,7,8,9],[6,7,8,9,10,12,13,14,15],[],[],[12,13],[12,13,14],[0,1,6,7,8,9,10,11,12,13,14,15],[0,1,6,7,8,9,10,11,12,13,14,15,16],[0,1,2,3,4,5,6,7,8,9,10,11,12,13,14,15,16,17],[0,1,2,3,4,5,6,7,8,9,10,11,12,13,14,15,16,17,18]] 18 [Nn 0,Nn 1,Nn 2,Nn 3,Nn 4,Nn 5,Nn 6,Nn 7,Nn 8,Nn 9,Nn 10,Nn 12,Nn 13,Nn 14,Yy 15,Yy 11,Nn 16,Yy 17] ?_
    refine Di ?_
    refine Yw (by rfl) (z_loadG (by rfl) gf (by omega) (by rfl)) ?_
    refine Di ?_
    refine Yw (by rfl) (z_loadG (by rfl) gf (by omega) (by rfl)) ?_
    refine Di ?_
    refine Yg gf fun As ys hy hl fs gg=>?_
    refine Di ?_
    refine Ae ?_
   all_goals
    refine Wi ?_
    refine Xg gg fun At zs hz hlz fz gz=>?_
    refine Wi ?_
    have hf:zs = (swp f a (a + k)).toList:=swp_is hy hz (by omega) (by omega) (by omega) (by omega) (by omega) (by omega)
    rw [hf] at gz
    refine fp (y_call (siftDown_f (M:=M) _ v At (swp f a (a + k)) gz 0 k a (by rw [swp_size]; omega) (by rw [swp_size]; omega) (by omega)) (by rfl) ?_)
    rintro _ A1 ⟨rfl,g1⟩
    refine Wo ?_
    exact ⟨(k,_),by simp only; omega,⟨rfl,trivial⟩,rfl,A1,_,inferInstance,g1,by simp only [siftDown_size,swp_size]; exact fsz,by simp only; omega,by simp only; rw [← finv]; rfl⟩
  ·refine sf_exit ?_
   obtain rfl:k = 0:=by omega
   refine Wo ?_
   refine nO O ⟨rfl,?_⟩
   rw [← finv]
   exact gf
theorem reverseRange_f (h : PHeap) (v : Value) (A : Own) (d : Array Int) (g : Gr A v 3 intF d.toList) (a b : Nat) (hb : b ≤ d.size) (hs : d.size ≤ 1000000) (hab : a < b) :
  CallF Tryz.prog M 208 [v,.int .i64 (a:Int),.int .i64 (b:Int)] A h fun u A'=>u = .tuple #[]∧Gr A' v 3 intF (reverseRange d a b).toList:=by
 have o:=g.one
 obtain ⟨n,rfl⟩:∃ n:Nat,b = n + 1:=⟨b - 1,by omega⟩
 refine Cs Tryz.func208 Tryz.ntmps208 ?_
 refine Wo ?_
 rw [show (((n + 1:Nat):Int) - 1) = (n:Int) by omega]
 refine sf_lp (ι:=Nat × Nat × Array Int) [0] (fun x=>[(6,.int .i64 (x.1:Int)),(7,.int .i64 (x.2.1:Int))]) (fun x O=>Gr O v 3 intF x.2.2.toList∧x.2.2.size = d.size∧x.2.1 ≤ n∧reverseLoop x.1 x.2.1 x.2.2 = reverseRange d a (n + 1)) (fun x=>x.2.1) (a,n,d) A ⟨g,rfl,by simp only; omega,rfl⟩ ?_
 rintro ⟨i,j,f⟩ O ⟨gf,fsz,hk,finv⟩
 simp only at gf fsz hk finv ⊢
 have lf:f.toList.length = f.size:=by simp
 refine Wo ?_
 refine sf_if (fun h1=>?_) fun h1=>?_
 ·have hst:reverseLoop i j f = reverseLoop (i + 1) (j - 1) (swp f i j):=by rw [reverseLoop,if_pos (by omega)]
  obtain ⟨j,rfl⟩:∃ k',j = k' + 1:=⟨j - 1,by omega⟩
  refine Wo ?_
  refine sf_draw (by kernel_rfl) (regX_own (O) (regX_split 7 11 (by rfl) ?_ ?_))
  case' refine_1=>
   refine Sw [[],[],[],[],[],[],[4,5],[4,5,6],[],[],[8,9],[4,5,6,7,8,9,10],[0,1,4,5,6,7,8,9,10,11],[0,1,4,5,6,7,8,9,10,11,12],[0,1,2,3,4,5,6,7,8,9,10,11,12,13],[0,1,2,3,4,5,6,7,8,9,10,11,12,13,14]] 14 [Nn 0,Nn 1,Nn 2,Nn 3,Nn 4,Nn 5,Nn 6,Nn 8,Nn 9,Nn 10,Yy 7,Yy 11,Nn 12,Yy 13] ?_
   refine Di ?_
   refine Yw (by rfl) (z_loadG (by rfl) gf (by omega) (by rfl)) ?_
   refine Di ?_
   refine Yw (by rfl) (z_loadG (by rfl) gf (by omega) (by rfl)) ?_
   refine Di ?_
   refine Yg gf fun As ys hy hl fs gg=>?_
   refine Di ?_
   refine Ae ?_
  case' refine_2=>
   refine Sw [[],[],[],[],[],[],[4,5],[4,5,6,8,9,10,11],[],[],[8,9],[8,9,10],[0,1,4,5,6,7,8,9,10,11],[0,1,4,5,6,7,8,9,10,11,12],[0,1,2,3,4,5,6,7,8,9,10,11,12,13],[0,1,2,3,4,5,6,7,8,9,10,11,12,13,14]] 14 [Nn 0,Nn 1,Nn 2,Nn 3,Nn 4,Nn 5,Nn 6,Nn 8,Nn 9,Nn 10,Yy 11,Yy 7,Nn 12,Yy 13] ?_
   refine Di ?_
   refine Yw (by rfl) (z_loadG (by rfl) gf (by omega) (by rfl)) ?_
   refine Di ?_
   refine Yw (by rfl) (z_loadG (by rfl) gf (by omega) (by rfl)) ?_
   refine Di ?_
   refine Yg gf fun As ys hy hl fs gg=>?_
   refine Di ?_
   refine Ae ?_
  all_goals
   refine Wi ?_
   refine Xg gg fun At zs hz hlz fz gz=>?_
   refine Wi ?_
   have hf:zs = (swp f i (j + 1)).toList:=swp_is hy hz (by omega) (by omega) (by omega) (by omega) (by omega) (by omega)
   rw [hf] at gz
   exact ⟨(i + 1,j,swp f i (j + 1)),by simp only; omega,⟨rfl,vI (show ((j + 1:Nat):Int) - 1 = (j:Int) by omega),trivial⟩,rfl,_,_,inferInstance,gz,by simp only [swp_size]; exact fsz,by simp only; omega,by simp only; rw [← finv,hst]; rfl⟩
 ·refine sf_exit ?_
  refine Wo ?_
  refine nO O ⟨rfl,?_⟩
  rw [← finv,reverseLoop,if_neg (by omega)]
  exact gf
abbrev swA (bs:Nat) (z:Int):Own:=[(bs,.cells #[.int .i64 z] 3)]
theorem order2_f (h : PHeap) (v : Value) (xs : List Int) (s : Sl h v intF xs) (a b : Nat) (ha : a < xs.length) (hb : b < xs.length) (bs : Nat) (z : Int) (hz : 0 ≤ z ∧ z ≤ 1000) :
  CallF Tryz.prog M 227 [v,.int .i64 (a:Int),.int .i64 (b:Int),.pointer (some ⟨bs,0,none⟩)] (swA bs z) h fun u A=>∃ (x y:Nat) (z':Int),u = .tuple #[.int .i64 (x:Int),.int .i64 (y:Int)]∧((x = a∧y = b) ∨ (x = b∧y = a))∧(0 ≤ z'∧z' ≤ z + 1)∧A = swA bs z':=by
 have o:=s.one
 refine Cs Tryz.func227 Tryz.ntmps227 ?_
 refine Wo ?_
 refine Sd [[],[],[0,1],[0,1,2],[],[],[4,5],[4,5,6],[0,1,2,3,4,5,6,7]] 8 [Nn 0,Nn 1,Nn 2,Nn 3,Nn 4,Nn 5,Nn 6,Nn 7] ?_
 refine Da ?_
 refine Ae ?_
 refine Xv (less_v _ _ _) ?_
 refine Wo ?_
 refine sf_if (fun h1=>?_) fun h1=>?_
 ·refine Wo ?_
  exact sf_ret (rO _ ⟨b,a,z + 1,rfl,.inr ⟨rfl,rfl⟩,by omega,rfl⟩)
 ·refine Wo ?_
  exact sf_ret (rO _ ⟨a,b,z,rfl,.inl ⟨rfl,rfl⟩,by omega,rfl⟩)
theorem median_f (h : PHeap) (v : Value) (xs : List Int) (s : Sl h v intF xs) (a b c : Nat) (ha : a < xs.length) (hb : b < xs.length) (hc : c < xs.length) (bs : Nat) (z : Int) (hz : 0 ≤ z ∧ z ≤ 900) :
  CallF Tryz.prog M 222 [v,.int .i64 (a:Int),.int .i64 (b:Int),.int .i64 (c:Int),.pointer (some ⟨bs,0,none⟩)] (swA bs z) h fun u A=>∃ (x:Nat) (z':Int),u = .int .i64 (x:Int)∧(x = a ∨ x = b ∨ x = c)∧(0 ≤ z'∧z' ≤ z + 3)∧A = swA bs z':=by
 have o:=s.one
 refine Cs Tryz.func222 Tryz.ntmps222 ?_
 refine Wo ?_
 refine fp (y_call (order2_f (M:=M) _ v xs s a b ha hb bs z (by omega)) (by rfl) ?_)
 rintro _ _ ⟨x1,y1,z1,rfl,h1,hz1,rfl⟩
 refine Wo ?_
 refine fp (y_call (order2_f (M:=M) _ v xs s y1 c (by omega) hc bs z1 (by omega)) (by rfl) ?_)
 rintro _ _ ⟨x2,y2,z2,rfl,h2,hz2,rfl⟩
 refine Wo ?_
 refine fp (y_call (order2_f (M:=M) _ v xs s x1 x2 (by omega) (by omega) bs z2 (by omega)) (by rfl) ?_)
 rintro _ _ ⟨x3,y3,z3,rfl,h3,hz3,rfl⟩
 refine Wo ?_
 exact sf_ret (rO _ ⟨y3,z3,rfl,by omega,by omega,rfl⟩)
theorem medianAdjacent_f (h : PHeap) (v : Value) (xs : List Int) (s : Sl h v intF xs) (a : Nat) (ha : 1 ≤ a) (hb : a + 1 < xs.length) (hs : xs.length ≤ 1000000) (bs : Nat) (z : Int) (hz : 0 ≤ z ∧ z ≤ 900) :
  CallF Tryz.prog M 221 [v,.int .i64 (a:Int),.pointer (some ⟨bs,0,none⟩)] (swA bs z) h fun u A=>∃ (x:Nat) (z':Int),u = .int .i64 (x:Int)∧(a ≤ x + 1∧x ≤ a + 1)∧(0 ≤ z'∧z' ≤ z + 3)∧A = swA bs z':=by
 have o:=s.one
 obtain ⟨k,rfl⟩:∃ k,a = k + 1:=⟨a - 1,by omega⟩
 refine Cs Tryz.func221 Tryz.ntmps221 ?_
 refine Wo ?_
 rw [show ((k + 1:Nat):Int) - 1 = (k:Int) by omega]
 refine fp (y_call (median_f (M:=M) _ v xs s k (k + 1) (k + 1 + 1) (by omega) (by omega) (by omega) bs z (by omega)) (by rfl) ?_)
 rintro _ _ ⟨x1,z1,rfl,h1,hz1,rfl⟩
 refine Wo ?_
 exact sf_ret (rO _ ⟨x1,z1,rfl,by omega,by omega,rfl⟩)
theorem choosePivot_f (h : PHeap) (v : Value) (xs : List Int) (s : Sl h v intF xs) (a b : Nat) (hab : a < b) (hb : b ≤ xs.length) (hs : xs.length ≤ 1000000) :
  CallF Tryz.prog M 207 [v,.int .i64 (a:Int),.int .i64 (b:Int)] [] h fun u A=>∃ (p:Nat) (z:Int),u = .tuple #[.int .i64 (p:Int),.int .i64 z]∧(a ≤ p∧p < b)∧A = []:=by
 have o:=s.one
 obtain ⟨n,rfl⟩:∃ n:Nat,b = a + n:=⟨b - a,by omega⟩
 refine Cs Tryz.func207 Tryz.ntmps207 ?_
 repeat first|refine R1 ?_|refine R2 fun _=>?_
 have e0:((a + n:Nat):Int) - (a:Int) = (n:Int):=by omega
 rename_i bs
 rw [e0]
 rw [show (a:Int) + (n:Int) / 4 * 1 = ((a + n / 4:Nat):Int) by omega,show (a:Int) + (n:Int) / 4 * 2 = ((a + n / 4 * 2:Nat):Int) by omega,show (a:Int) + (n:Int) / 4 * 3 = ((a + n / 4 * 3:Nat):Int) by omega]
 apply viaT (G:=∀ (p:Nat) (z:Int),a ≤ p→p < a + n→_)
 ·intro tail
  refine sf_if (fun h1=>?_) fun h1=>?_
  ·repeat first|refine R1 ?_|refine R2 fun _=>?_
   apply viaT (G:=∀ (p1 p2 p3:Nat) (z:Int),(a ≤ p1∧p1 < a + n)→(a ≤ p2∧p2 < a + n)→(a ≤ p3∧p3 < a + n)→(0 ≤ z∧z ≤ 9)→_)
   ·intro tail2
    refine sf_if (fun h2=>?_) fun h2=>?_
    ·repeat first|refine R1 ?_|refine R2 fun _=>?_
     refine fp (y_call (medianAdjacent_f (M:=M) _ v xs s (a + n / 4) (by omega) (by omega) hs bs 0 (by omega)) (by rfl) ?_)
     rintro _ _ ⟨p1,z1,rfl,k1,hz1,rfl⟩
     repeat first|refine R1 ?_|refine R2 fun _=>?_
     refine fp (y_call (medianAdjacent_f (M:=M) _ v xs s (a + n / 4 * 2) (by omega) (by omega) hs bs z1 (by omega)) (by rfl) ?_)
     rintro _ _ ⟨p2,z2,rfl,k2,hz2,rfl⟩
     repeat first|refine R1 ?_|refine R2 fun _=>?_
     refine fp (y_call (medianAdjacent_f (M:=M) _ v xs s (a + n / 4 * 3) (by omega) (by omega) hs bs z2 (by omega)) (by rfl) ?_)
     rintro _ _ ⟨p3,z3,rfl,k3,hz3,rfl⟩
     repeat first|refine R1 ?_|refine R2 fun _=>?_
     refine fops_keep [9,44,45,46,47] ?_
     refine fops_own (swA bs z3) ?_
     exact tail2.out p1 p2 p3 z3 (by omega) (by omega) (by omega) (by omega)
    ·repeat first|refine R1 ?_|refine R2 fun _=>?_
     refine fops_keep [9,44,45,46,47] ?_
     refine fops_own (swA bs 0) ?_
     exact tail2.out (a + n / 4) (a + n / 4 * 2) (a + n / 4 * 3) 0 (by omega) (by omega) (by omega) (by omega)
   ·intro p1 p2 p3 z k1 k2 k3 hz
    refine fp (y_call (median_f (M:=M) _ v xs s p1 p2 p3 (by omega) (by omega) (by omega) bs z (by omega)) (by rfl) ?_)
    rintro _ _ ⟨p,z4,rfl,k4,hz4,rfl⟩
    repeat first|refine R1 ?_|refine R2 fun _=>?_
    show Code.sf _ _ _ _ _ _ _ _
    refine sf_keep [11,49,51] ?_
    refine sf_own (swA bs z4) ?_
    exact tail.out p z4 (by omega) (by omega)
  ·repeat first|refine R1 ?_|refine R2 fun _=>?_
   show Code.sf _ _ _ _ _ _ _ _
   refine sf_keep [11,49,51] ?_
   refine sf_own (swA bs 0) ?_
   exact tail.out (a + n / 4 * 2) 0 (by omega) (by omega)
 ·intro p z k1 k2
  refine sf_if (fun h1=>?_) fun h1=>?_
  ·repeat first|refine R1 ?_|refine R2 fun _=>?_
   exact sf_ret (rO [] ⟨p,1,rfl,by omega,rfl⟩)
  ·repeat first|refine R1 ?_|refine R2 fun _=>?_
   refine sf_if (fun h1=>?_) fun h1=>?_
   ·repeat first|refine R1 ?_|refine R2 fun _=>?_
    exact sf_ret (rO [] ⟨p,2,rfl,by omega,rfl⟩)
   ·repeat first|refine R1 ?_|refine R2 fun _=>?_
    exact sf_ret (rO [] ⟨p,0,rfl,by omega,rfl⟩)
theorem partition_f (h : PHeap) (v : Value) (A : Own) (d : Array Int) (g : Gr A v 3 intF d.toList) (a b p : Nat) (hb : b ≤ d.size) (hs : d.size ≤ 1000000) (hab : a < b) (hp : a ≤ p ∧ p < b) :
  CallF Tryz.prog M 212 [v,.int .i64 (a:Int),.int .i64 (b:Int),.int .i64 (p:Int)] A h fun u A'=>u = .tuple #[.int .i64 ((Sort.partition ltInt d a b p).1:Int),.bool (Sort.partition ltInt d a b p).2.1]∧Gr A' v 3 intF (Sort.partition ltInt d a b p).2.2.toList:=by
 have o:=g.one
 have ld:d.toList.length = d.size:=by simp
 obtain ⟨n,rfl⟩:∃ n:Nat,b = n + 1:=⟨b - 1,by omega⟩
 refine Cs Tryz.func212 Tryz.ntmps212 ?_
 refine Wo ?_
 apply viaT (G:=∀ (B:Own),Gr B v 3 intF (swp d a p).toList→_)
 ·intro tail
  refine sf_draw (by kernel_rfl) (regX_own (A) (regX_split 7 11 (by rfl) ?_ ?_))
  case' refine_1=>
   refine Sw [[],[],[],[],[],[],[4,5],[4,5,6],[],[],[8,9],[4,5,6,7,8,9,10],[0,1,4,5,6,7,8,9,10,11],[0,1,4,5,6,7,8,9,10,11,12],[0,1,2,3,4,5,6,7,8,9,10,11,12,13],[0,1,2,3,4,5,6,7,8,9,10,11,12,13,14]] 14 [Nn 0,Nn 1,Nn 2,Nn 3,Nn 4,Nn 5,Nn 6,Nn 8,Nn 9,Nn 10,Yy 7,Yy 11,Nn 12,Yy 13] ?_
   refine Di ?_
   refine Yw (by rfl) (z_loadG (by rfl) g (by omega) (by rfl)) ?_
   refine Di ?_
   refine Yw (by rfl) (z_loadG (by rfl) g (by omega) (by rfl)) ?_
   refine Di ?_
   refine Yg g fun As ys hy hl fs gg=>?_
   refine Di ?_
   refine Ae ?_
  case' refine_2=>
   refine Sw [[],[],[],[],[],[],[4,5],[4,5,6,8,9,10,11],[],[],[8,9],[8,9,10],[0,1,4,5,6,7,8,9,10,11],[0,1,4,5,6,7,8,9,10,11,12],[0,1,2,3,4,5,6,7,8,9,10,11,12,13],[0,1,2,3,4,5,6,7,8,9,10,11,12,13,14]] 14 [Nn 0,Nn 1,Nn 2,Nn 3,Nn 4,Nn 5,Nn 6,Nn 8,Nn 9,Nn 10,Yy 11,Yy 7,Nn 12,Yy 13] ?_
   refine Di ?_
   refine Yw (by rfl) (z_loadG (by rfl) g (by omega) (by rfl)) ?_
   refine Di ?_
   refine Yw (by rfl) (z_loadG (by rfl) g (by omega) (by rfl)) ?_
   refine Di ?_
   refine Yg g fun As ys hy hl fs gg=>?_
   refine Di ?_
   refine Ae ?_
  all_goals
   refine Wi ?_
   refine Xg gg fun At zs hz hlz fz gz=>?_
   refine Wi ?_
   rw [show (((n + 1:Nat):Int) - 1) = (n:Int) by omega]
   have hf:zs = (swp d a p).toList:=swp_is hy hz (by omega) (by omega) (by omega) (by omega) (by omega) (by omega)
   rw [hf] at gz
   show Code.sf _ _ _ _ _ _ _ _
   refine sf_keep [0,1,10,11] ?_
   refine sf_own At ?_
   exact tail.out At gz
 intro B ge
 obtain ⟨e,he⟩:∃ e,e = swp d a p:=⟨_,rfl⟩
 rw [← he] at ge
 have es:e.size = d.size:=by rw [he,swp_size]
 have le:e.toList.length = e.size:=by simp
 have ua:gt e.toList a = e[a]!:=gt_arr (by omega)
 apply viaT (G:=∀ i:Nat,a + 1 ≤ i→i ≤ n + 2→scanUp (fun x=>ltInt x e[a]!) e n (a + 1) = i→_)
 ·intro tail
  refine sf_lp (ι:=Nat) [0,1,11] (fun x=>[(10,.int .i64 (x:Int))]) (fun x O'=>O' = B∧a + 1 ≤ x∧x ≤ n + 2∧scanUp (fun x=>ltInt x e[a]!) e n x = scanUp (fun x=>ltInt x e[a]!) e n (a + 1)) (fun x=>n + 2 - x) (a + 1) B ⟨rfl,by omega,by omega,rfl⟩ ?_
  rintro x _ ⟨rfl,hx0,hx1,hinv⟩
  by_cases h2:x ≤ n
  ·have h3:(x:Int) ≤ ((n:Nat):Int):=by omega
   have u1:gt e.toList x = e[x]!:=gt_arr (by omega)
   refine Wo ?_
   refine Sd [[],[],[0,1],[0,1,2],[0,1,2,3],[0,1,2,3],[0,1,2,3,4,5],[0,1,2,3,4,5,6],[0,1,2,3],[0,1,2,3],[0,1,2,3,8,9],[0,1,2,3,8,9,10],[0,1,2,3,4,5,6,7,8,9,10,11],[0,1,2,3,4,5,6,7,8,9,10,11,12]] 12 [Nn 0,Nn 1,Nn 2,Nn 3,Nn 4,Nn 5,Nn 6,Nn 7,Nn 8,Nn 9,Nn 10,Nn 11] ?_
   refine Di ?_
   refine Ae ?_
   refine Xv (less_v _ _ _) ?_
   refine Wo ?_
   rw [u1,ua]
   refine sf_if (fun h4=>?_) fun h4=>?_
   ·refine Wo ?_
    exact ⟨x + 1,by omega,⟨rfl,trivial⟩,rfl,_,_,inferInstance,rfl,by omega,by omega,by rw [← hinv]; exact (scanUp_go h2 (by simp only [ltInt_is]; simp [h4])).symm⟩
   ·refine sf_exit ?_
    refine Wo ?_
    refine sf_keep [0,1,10,11] ?_
    exact tail.out x (by omega) (by omega) (by rw [← hinv]; exact scanUp_stop (fun h=>h4 (by simpa [ltInt_is] using h.2)))
  ·have h3:¬ (x:Int) ≤ ((n:Nat):Int):=by omega
   refine Wo ?_
   refine Sd [[],[],[0,1],[0,1,2],[0,1,2,3],[0,1,2,3],[0,1,2,3,4,5],[0,1,2,3,4,5,6],[0,1,2,3],[0,1,2,3],[0,1,2,3,8,9],[0,1,2,3,8,9,10],[0,1,2,3,4,5,6,7,8,9,10,11],[0,1,2,3,4,5,6,7,8,9,10,11,12]] 12 [Nn 0,Nn 1,Nn 2,Nn 3,Nn 4,Nn 5,Nn 6,Nn 7,Nn 8,Nn 9,Nn 10,Nn 11] ?_
   refine Di ?_
   refine Ae ?_
   refine Wo ?_
   refine sf_cond (by rfl) (fun e=>by cases e) fun z1=>?_
   clear z1
   refine sf_exit ?_
   refine Wo ?_
   refine sf_keep [0,1,10,11] ?_
   exact tail.out x (by omega) (by omega) (by rw [← hinv]; exact scanUp_stop (fun h=>h2 h.1))
 intro i hi0 hi1 hsu
 apply viaT (G:=∀ j:Nat,i ≤ j + 2→a ≤ j→j ≤ n→scanDown (fun x=>!ltInt x e[a]!) e i n = j→_)
 ·intro tail
  refine sf_lp (ι:=Nat) [0,1,10] (fun x=>[(11,.int .i64 (x:Int))]) (fun x O'=>O' = B∧i ≤ x + 2∧a ≤ x∧x ≤ n∧scanDown (fun x=>!ltInt x e[a]!) e i x = scanDown (fun x=>!ltInt x e[a]!) e i (n)) (fun x=>x) (n) B ⟨rfl,by omega,by omega,by omega,rfl⟩ ?_
  rintro x _ ⟨rfl,hx0,hx2,hx1,hinv⟩
  by_cases h2:i ≤ x
  ·obtain ⟨y,hy0⟩:∃ k,x = k + 1:=⟨x - 1,by omega⟩
   have h3:((i:Nat):Int) ≤ (x:Int):=by omega
   have u1:gt e.toList x = e[x]!:=gt_arr (by omega)
   refine Wo ?_
   refine Sd [[],[],[0,1],[0,1,2],[0,1,2,3],[0,1,2,3],[0,1,2,3,4,5],[0,1,2,3,4,5,6],[0,1,2,3],[0,1,2,3],[0,1,2,3,8,9],[0,1,2,3,8,9,10],[0,1,2,3,4,5,6,7,8,9,10,11],[0,1,2,3,4,5,6,7,8,9,10,11,12],[0,1,2,3,4,5,6,7,8,9,10,11,12,13]] 12 [Nn 0,Nn 1,Nn 2,Nn 3,Nn 4,Nn 5,Nn 6,Nn 7,Nn 8,Nn 9,Nn 10,Nn 11] ?_
   refine Di ?_
   refine Ae ?_
   refine Xv (less_v _ _ _) ?_
   refine Wo ?_
   rw [u1,ua]
   refine sf_ifn (fun h4=>?_) fun h4=>?_
   ·refine Wo ?_
    subst hy0
    exact ⟨y,by omega,⟨vI (show ((y + 1:Nat):Int) - 1 = (y:Int) by omega),trivial⟩,rfl,_,_,inferInstance,rfl,by omega,by omega,by omega,by rw [← hinv]; exact (scanDown_go h2 (by simp only [ltInt_is]; simp [h4])).symm⟩
   ·refine sf_exit ?_
    refine Wo ?_
    (show Code.sf _ _ _ _ _ _ _ _; refine sf_keep [0,1,10,11,65] ?_)
    exact tail.out x (by omega) (by omega) (by omega) (by rw [← hinv]; exact scanDown_stop (fun h=>absurd h4 (by simpa [ltInt_is] using h.2)))
  ·have h3:¬ ((i:Nat):Int) ≤ (x:Int):=by omega
   refine Wo ?_
   refine Sd [[],[],[0,1],[0,1,2],[0,1,2,3],[0,1,2,3],[0,1,2,3,4,5],[0,1,2,3,4,5,6],[0,1,2,3],[0,1,2,3],[0,1,2,3,8,9],[0,1,2,3,8,9,10],[0,1,2,3,4,5,6,7,8,9,10,11],[0,1,2,3,4,5,6,7,8,9,10,11,12],[0,1,2,3,4,5,6,7,8,9,10,11,12,13]] 12 [Nn 0,Nn 1,Nn 2,Nn 3,Nn 4,Nn 5,Nn 6,Nn 7,Nn 8,Nn 9,Nn 10,Nn 11] ?_
   refine Di ?_
   refine Ae ?_
   refine Wo ?_
   refine sf_cond (by rfl) (fun e=>by cases e) fun z1=>?_
   clear z1
   refine sf_exit ?_
   refine Wo ?_
   (show Code.sf _ _ _ _ _ _ _ _; refine sf_keep [0,1,10,11,65] ?_)
   exact tail.out x (by omega) (by omega) (by omega) (by rw [← hinv]; exact scanDown_stop (fun h=>h2 h.1))
 intro j hj0 hj1 hj2 hsd
 refine sf_if (fun h1=>?_) fun h1=>?_
 ·have hP:=partition_A (b:=n + 1) he hsu hsd (by omega)
  rw [hP]
  refine Wo ?_
  refine sf_draw (by kernel_rfl) (regX_own (B) (regX_split 7 11 (by rfl) ?_ ?_))
  case' refine_1=>
   refine Sw [[],[],[],[],[],[],[4,5],[4,5,6],[],[],[8,9],[4,5,6,7,8,9,10],[0,1,4,5,6,7,8,9,10,11],[0,1,4,5,6,7,8,9,10,11,12],[0,1,2,3,4,5,6,7,8,9,10,11,12,13],[0,1,2,3,4,5,6,7,8,9,10,11,12,13,14]] 14 [Nn 0,Nn 1,Nn 2,Nn 3,Nn 4,Nn 5,Nn 6,Nn 8,Nn 9,Nn 10,Yy 7,Yy 11,Nn 12,Yy 13] ?_
   refine Di ?_
   refine Yw (by rfl) (z_loadG (by rfl) ge (by omega) (by rfl)) ?_
   refine Di ?_
   refine Yw (by rfl) (z_loadG (by rfl) ge (by omega) (by rfl)) ?_
   refine Di ?_
   refine Yg ge fun As ys hy hl fs gg=>?_
   refine Di ?_
   refine Ae ?_
  case' refine_2=>
   refine Sw [[],[],[],[],[],[],[4,5],[4,5,6,8,9,10,11],[],[],[8,9],[8,9,10],[0,1,4,5,6,7,8,9,10,11],[0,1,4,5,6,7,8,9,10,11,12],[0,1,2,3,4,5,6,7,8,9,10,11,12,13],[0,1,2,3,4,5,6,7,8,9,10,11,12,13,14]] 14 [Nn 0,Nn 1,Nn 2,Nn 3,Nn 4,Nn 5,Nn 6,Nn 8,Nn 9,Nn 10,Yy 11,Yy 7,Nn 12,Yy 13] ?_
   refine Di ?_
   refine Yw (by rfl) (z_loadG (by rfl) ge (by omega) (by rfl)) ?_
   refine Di ?_
   refine Yw (by rfl) (z_loadG (by rfl) ge (by omega) (by rfl)) ?_
   refine Di ?_
   refine Yg ge fun As ys hy hl fs gg=>?_
   refine Di ?_
   refine Ae ?_
  all_goals
   refine Wi ?_
   refine Xg gg fun At zs hz hlz fz gz=>?_
   refine Wi ?_
   have hf:zs = (swp e j a).toList:=swp_is hy hz (by omega) (by omega) (by omega) (by omega) (by omega) (by omega)
   rw [hf] at gz
   exact sf_ret (rO At ⟨rfl,gz⟩)
 have hB:=fun r hr=>partition_B (b:=n + 1) he hsu hsd (by omega) (r:=r) hr
 obtain ⟨j,rfl⟩:∃ k,j = k + 1:=⟨j - 1,by omega⟩
 simp only [Nat.add_sub_cancel] at hB
 refine Wo ?_
 apply viaT (G:=∀ (B2:Own),Gr B2 v 3 intF (swp e i (j + 1)).toList→_)
 ·intro tail
  refine sf_draw (by kernel_rfl) (regX_own (B) (regX_split 7 11 (by rfl) ?_ ?_))
  case' refine_1=>
   refine Sw [[],[],[],[],[],[],[4,5],[4,5,6],[],[],[8,9],[4,5,6,7,8,9,10],[0,1,4,5,6,7,8,9,10,11],[0,1,4,5,6,7,8,9,10,11,12],[0,1,2,3,4,5,6,7,8,9,10,11,12,13],[0,1,2,3,4,5,6,7,8,9,10,11,12,13,14]] 14 [Nn 0,Nn 1,Nn 2,Nn 3,Nn 4,Nn 5,Nn 6,Nn 8,Nn 9,Nn 10,Yy 7,Yy 11,Nn 12,Yy 13] ?_
   refine Di ?_
   refine Yw (by rfl) (z_loadG (by rfl) ge (by omega) (by rfl)) ?_
   refine Di ?_
   refine Yw (by rfl) (z_loadG (by rfl) ge (by omega) (by rfl)) ?_
   refine Di ?_
   refine Yg ge fun As ys hy hl fs gg=>?_
   refine Di ?_
   refine Ae ?_
  case' refine_2=>
   refine Sw [[],[],[],[],[],[],[4,5],[4,5,6,8,9,10,11],[],[],[8,9],[8,9,10],[0,1,4,5,6,7,8,9,10,11],[0,1,4,5,6,7,8,9,10,11,12],[0,1,2,3,4,5,6,7,8,9,10,11,12,13],[0,1,2,3,4,5,6,7,8,9,10,11,12,13,14]] 14 [Nn 0,Nn 1,Nn 2,Nn 3,Nn 4,Nn 5,Nn 6,Nn 8,Nn 9,Nn 10,Yy 11,Yy 7,Nn 12,Yy 13] ?_
   refine Di ?_
   refine Yw (by rfl) (z_loadG (by rfl) ge (by omega) (by rfl)) ?_
   refine Di ?_
   refine Yw (by rfl) (z_loadG (by rfl) ge (by omega) (by rfl)) ?_
   refine Di ?_
   refine Yg ge fun As ys hy hl fs gg=>?_
   refine Di ?_
   refine Ae ?_
  all_goals
   refine Wi ?_
   refine Xg gg fun At zs hz hlz fz gz=>?_
   refine Wi ?_
   rw [show (((j + 1:Nat):Int) - 1) = (j:Int) by omega]
   have hf:zs = (swp e i (j + 1)).toList:=swp_is hy hz (by omega) (by omega) (by omega) (by omega) (by omega) (by omega)
   rw [hf] at gz
   show Code.sf _ _ _ _ _ _ _ _
   refine sf_keep [0,1,10,11] ?_
   refine sf_own At ?_
   exact tail.out At gz
 intro B2 ge2
 obtain ⟨e2,he2⟩:∃ e2,e2 = swp e i (j + 1):=⟨_,rfl⟩
 rw [← he2] at ge2
 have e2s:e2.size = e.size:=by rw [he2,swp_size]
 rw [← he2] at hB
 refine sf_lp (ι:=Nat × Nat × Array Int) [0,1] (fun x=>[(10,.int .i64 (x.1:Int)),(11,.int .i64 (x.2.1:Int))]) (fun x O=>Gr O v 3 intF x.2.2.toList∧x.2.2.size = d.size∧a + 1 ≤ x.1∧x.1 ≤ x.2.1 + 2∧a ≤ x.2.1∧x.2.1 ≤ n∧partLoop ltInt a x.1 x.2.1 x.2.2 = partLoop ltInt a (i + 1) j e2) (fun x=>x.2.1 + 2 - x.1) (i + 1,j,e2) B2 ⟨ge2,by simp only; omega,by simp only; omega,by simp only; omega,by simp only; omega,by simp only; omega,rfl⟩ ?_
 rintro ⟨i3,j3,f⟩ O3 ⟨gf,fsz,k1,k2,k3,k4,finv⟩
 simp only at gf fsz k1 k2 k3 k4 finv ⊢
 have lf:f.toList.length = f.size:=by simp
 have uf:gt f.toList a = f[a]!:=gt_arr (by omega)
 refine Wo ?_
 apply viaT (G:=∀ i:Nat,i3 ≤ i→i ≤ j3 + 2→scanUp (fun x=>ltInt x f[a]!) f j3 i3 = i→_)
 ·intro tail
  refine sf_lp (ι:=Nat) [0,1,11] (fun x=>[(10,.int .i64 (x:Int))]) (fun x O'=>O' = O3∧i3 ≤ x∧x ≤ j3 + 2∧scanUp (fun x=>ltInt x f[a]!) f j3 x = scanUp (fun x=>ltInt x f[a]!) f j3 (i3)) (fun x=>j3 + 2 - x) (i3) O3 ⟨rfl,by omega,by omega,rfl⟩ ?_
  rintro x _ ⟨rfl,hx0,hx1,hinv⟩
  by_cases h2:x ≤ j3
  ·have h3:(x:Int) ≤ ((j3:Nat):Int):=by omega
   have u1:gt f.toList x = f[x]!:=gt_arr (by omega)
   refine Wo ?_
   refine Sd [[],[],[0,1],[0,1,2],[0,1,2,3],[0,1,2,3],[0,1,2,3,4,5],[0,1,2,3,4,5,6],[0,1,2,3],[0,1,2,3],[0,1,2,3,8,9],[0,1,2,3,8,9,10],[0,1,2,3,4,5,6,7,8,9,10,11],[0,1,2,3,4,5,6,7,8,9,10,11,12]] 12 [Nn 0,Nn 1,Nn 2,Nn 3,Nn 4,Nn 5,Nn 6,Nn 7,Nn 8,Nn 9,Nn 10,Nn 11] ?_
   refine Di ?_
   refine Ae ?_
   refine Xv (less_v _ _ _) ?_
   refine Wo ?_
   rw [u1,uf]
   refine sf_if (fun h4=>?_) fun h4=>?_
   ·refine Wo ?_
    exact ⟨x + 1,by omega,⟨rfl,trivial⟩,rfl,_,_,inferInstance,rfl,by omega,by omega,by rw [← hinv]; exact (scanUp_go h2 (by simp only [ltInt_is]; simp [h4])).symm⟩
   ·refine sf_exit ?_
    refine Wo ?_
    refine sf_keep [0,1,10,11] ?_
    exact tail.out x (by omega) (by omega) (by rw [← hinv]; exact scanUp_stop (fun h=>h4 (by simpa [ltInt_is] using h.2)))
  ·have h3:¬ (x:Int) ≤ ((j3:Nat):Int):=by omega
   refine Wo ?_
   refine Sd [[],[],[0,1],[0,1,2],[0,1,2,3],[0,1,2,3],[0,1,2,3,4,5],[0,1,2,3,4,5,6],[0,1,2,3],[0,1,2,3],[0,1,2,3,8,9],[0,1,2,3,8,9,10],[0,1,2,3,4,5,6,7,8,9,10,11],[0,1,2,3,4,5,6,7,8,9,10,11,12]] 12 [Nn 0,Nn 1,Nn 2,Nn 3,Nn 4,Nn 5,Nn 6,Nn 7,Nn 8,Nn 9,Nn 10,Nn 11] ?_
   refine Di ?_
   refine Ae ?_
   refine Wo ?_
   refine sf_cond (by rfl) (fun e=>by cases e) fun z1=>?_
   clear z1
   refine sf_exit ?_
   refine Wo ?_
   refine sf_keep [0,1,10,11] ?_
   exact tail.out x (by omega) (by omega) (by rw [← hinv]; exact scanUp_stop (fun h=>h2 h.1))
 intro i4 hi4 hi5 hsu4
 apply viaT (G:=∀ j:Nat,i4 ≤ j + 2→a ≤ j→j ≤ j3→scanDown (fun x=>!ltInt x f[a]!) f i4 j3 = j→_)
 ·intro tail
  refine sf_lp (ι:=Nat) [0,1,10] (fun x=>[(11,.int .i64 (x:Int))]) (fun x O'=>O' = O3∧i4 ≤ x + 2∧a ≤ x∧x ≤ j3∧scanDown (fun x=>!ltInt x f[a]!) f i4 x = scanDown (fun x=>!ltInt x f[a]!) f i4 (j3)) (fun x=>x) (j3) O3 ⟨rfl,by omega,by omega,by omega,rfl⟩ ?_
  rintro x _ ⟨rfl,hx0,hx2,hx1,hinv⟩
  by_cases h2:i4 ≤ x
  ·obtain ⟨y,hy0⟩:∃ k,x = k + 1:=⟨x - 1,by omega⟩
   have h3:((i4:Nat):Int) ≤ (x:Int):=by omega
   have u1:gt f.toList x = f[x]!:=gt_arr (by omega)
   refine Wo ?_
   refine Sd [[],[],[0,1],[0,1,2],[0,1,2,3],[0,1,2,3],[0,1,2,3,4,5],[0,1,2,3,4,5,6],[0,1,2,3],[0,1,2,3],[0,1,2,3,8,9],[0,1,2,3,8,9,10],[0,1,2,3,4,5,6,7,8,9,10,11],[0,1,2,3,4,5,6,7,8,9,10,11,12],[0,1,2,3,4,5,6,7,8,9,10,11,12,13]] 12 [Nn 0,Nn 1,Nn 2,Nn 3,Nn 4,Nn 5,Nn 6,Nn 7,Nn 8,Nn 9,Nn 10,Nn 11] ?_
   refine Di ?_
   refine Ae ?_
   refine Xv (less_v _ _ _) ?_
   refine Wo ?_
   rw [u1,uf]
   refine sf_ifn (fun h4=>?_) fun h4=>?_
   ·refine Wo ?_
    subst hy0
    exact ⟨y,by omega,⟨vI (show ((y + 1:Nat):Int) - 1 = (y:Int) by omega),trivial⟩,rfl,_,_,inferInstance,rfl,by omega,by omega,by omega,by rw [← hinv]; exact (scanDown_go h2 (by simp only [ltInt_is]; simp [h4])).symm⟩
   ·refine sf_exit ?_
    refine Wo ?_
    (show Code.sf _ _ _ _ _ _ _ _; refine sf_keep [0,1,10,11,134] ?_)
    exact tail.out x (by omega) (by omega) (by omega) (by rw [← hinv]; exact scanDown_stop (fun h=>absurd h4 (by simpa [ltInt_is] using h.2)))
  ·have h3:¬ ((i4:Nat):Int) ≤ (x:Int):=by omega
   refine Wo ?_
   refine Sd [[],[],[0,1],[0,1,2],[0,1,2,3],[0,1,2,3],[0,1,2,3,4,5],[0,1,2,3,4,5,6],[0,1,2,3],[0,1,2,3],[0,1,2,3,8,9],[0,1,2,3,8,9,10],[0,1,2,3,4,5,6,7,8,9,10,11],[0,1,2,3,4,5,6,7,8,9,10,11,12],[0,1,2,3,4,5,6,7,8,9,10,11,12,13]] 12 [Nn 0,Nn 1,Nn 2,Nn 3,Nn 4,Nn 5,Nn 6,Nn 7,Nn 8,Nn 9,Nn 10,Nn 11] ?_
   refine Di ?_
   refine Ae ?_
   refine Wo ?_
   refine sf_cond (by rfl) (fun e=>by cases e) fun z1=>?_
   clear z1
   refine sf_exit ?_
   refine Wo ?_
   (show Code.sf _ _ _ _ _ _ _ _; refine sf_keep [0,1,10,11,134] ?_)
   exact tail.out x (by omega) (by omega) (by omega) (by rw [← hinv]; exact scanDown_stop (fun h=>h2 h.1))
 intro j4 hj4 hj5 hj6 hsd4
 obtain ⟨s1,s2⟩:=partLoop_step hsu4 hsd4 hi4 hj6
 refine sf_if (fun h5=>?_) fun h5=>?_
 ·refine sf_exit ?_
  have hP:=hB _ (finv.symm.trans (s1 (by omega)))
  rw [hP]
  refine Wo ?_
  refine sf_draw (by kernel_rfl) (regX_own (O3) (regX_split 7 11 (by rfl) ?_ ?_))
  case' refine_1=>
   refine Sw [[],[],[],[],[],[],[4,5],[4,5,6],[],[],[8,9],[4,5,6,7,8,9,10],[0,1,4,5,6,7,8,9,10,11],[0,1,4,5,6,7,8,9,10,11,12],[0,1,2,3,4,5,6,7,8,9,10,11,12,13],[0,1,2,3,4,5,6,7,8,9,10,11,12,13,14]] 14 [Nn 0,Nn 1,Nn 2,Nn 3,Nn 4,Nn 5,Nn 6,Nn 8,Nn 9,Nn 10,Yy 7,Yy 11,Nn 12,Yy 13] ?_
   refine Di ?_
   refine Yw (by rfl) (z_loadG (by rfl) gf (by omega) (by rfl)) ?_
   refine Di ?_
   refine Yw (by rfl) (z_loadG (by rfl) gf (by omega) (by rfl)) ?_
   refine Di ?_
   refine Yg gf fun As ys hy hl fs gg=>?_
   refine Di ?_
   refine Ae ?_
  case' refine_2=>
   refine Sw [[],[],[],[],[],[],[4,5],[4,5,6,8,9,10,11],[],[],[8,9],[8,9,10],[0,1,4,5,6,7,8,9,10,11],[0,1,4,5,6,7,8,9,10,11,12],[0,1,2,3,4,5,6,7,8,9,10,11,12,13],[0,1,2,3,4,5,6,7,8,9,10,11,12,13,14]] 14 [Nn 0,Nn 1,Nn 2,Nn 3,Nn 4,Nn 5,Nn 6,Nn 8,Nn 9,Nn 10,Yy 11,Yy 7,Nn 12,Yy 13] ?_
   refine Di ?_
   refine Yw (by rfl) (z_loadG (by rfl) gf (by omega) (by rfl)) ?_
   refine Di ?_
   refine Yw (by rfl) (z_loadG (by rfl) gf (by omega) (by rfl)) ?_
   refine Di ?_
   refine Yg gf fun As ys hy hl fs gg=>?_
   refine Di ?_
   refine Ae ?_
  all_goals
   refine Wi ?_
   refine Xg gg fun At zs hz hlz fz gz=>?_
   refine Wi ?_
   have hf:zs = (swp f j4 a).toList:=swp_is hy hz (by omega) (by omega) (by omega) (by omega) (by omega) (by omega)
   rw [hf] at gz
   exact sf_ret (rO At ⟨rfl,gz⟩)
 obtain ⟨j4,rfl⟩:∃ k,j4 = k + 1:=⟨j4 - 1,by omega⟩
 have s3:=s2 (by omega) (by omega)
 refine Wo ?_
 refine sf_draw (by kernel_rfl) (regX_own (O3) (regX_split 7 11 (by rfl) ?_ ?_))
 case' refine_1=>
  refine Sw [[],[],[],[],[],[],[4,5],[4,5,6],[],[],[8,9],[4,5,6,7,8,9,10],[0,1,4,5,6,7,8,9,10,11],[0,1,4,5,6,7,8,9,10,11,12],[0,1,2,3,4,5,6,7,8,9,10,11,12,13],[0,1,2,3,4,5,6,7,8,9,10,11,12,13,14]] 14 [Nn 0,Nn 1,Nn 2,Nn 3,Nn 4,Nn 5,Nn 6,Nn 8,Nn 9,Nn 10,Yy 7,Yy 11,Nn 12,Yy 13] ?_
  refine Di ?_
  refine Yw (by rfl) (z_loadG (by rfl) gf (by omega) (by rfl)) ?_
  refine Di ?_
  refine Yw (by rfl) (z_loadG (by rfl) gf (by omega) (by rfl)) ?_
  refine Di ?_
  refine Yg gf fun As ys hy hl fs gg=>?_
  refine Di ?_
  refine Ae ?_
 case' refine_2=>
  refine Sw [[],[],[],[],[],[],[4,5],[4,5,6,8,9,10,11],[],[],[8,9],[8,9,10],[0,1,4,5,6,7,8,9,10,11],[0,1,4,5,6,7,8,9,10,11,12],[0,1,2,3,4,5,6,7,8,9,10,11,12,13],[0,1,2,3,4,5,6,7,8,9,10,11,12,13,14]] 14 [Nn 0,Nn 1,Nn 2,Nn 3,Nn 4,Nn 5,Nn 6,Nn 8,Nn 9,Nn 10,Yy 11,Yy 7,Nn 12,Yy 13] ?_
  refine Di ?_
  refine Yw (by rfl) (z_loadG (by rfl) gf (by omega) (by rfl)) ?_
  refine Di ?_
  refine Yw (by rfl) (z_loadG (by rfl) gf (by omega) (by rfl)) ?_
  refine Di ?_
  refine Yg gf fun As ys hy hl fs gg=>?_
  refine Di ?_
  refine Ae ?_
 all_goals
  refine Wi ?_
  refine Xg gg fun At zs hz hlz fz gz=>?_
  refine Wi ?_
  rw [show (((j4 + 1:Nat):Int) - 1) = (j4:Int) by omega]
  have hf:zs = (swp f i4 (j4 + 1)).toList:=swp_is hy hz (by omega) (by omega) (by omega) (by omega) (by omega) (by omega)
  rw [hf] at gz
  exact ⟨(i4 + 1,j4,swp f i4 (j4 + 1)),by simp only; omega,⟨rfl,rfl,trivial⟩,rfl,_,_,inferInstance,gz,by simp only [swp_size]; exact fsz,by simp only; omega,by simp only; omega,by simp only; omega,by simp only; omega,by simp only; rw [← finv,s3]; rfl⟩
theorem partitionEqual_f (h : PHeap) (v : Value) (A : Own) (d : Array Int) (g : Gr A v 3 intF d.toList) (a b p : Nat) (hb : b ≤ d.size) (hs : d.size ≤ 1000000) (hab : a < b) (hp : a ≤ p ∧ p < b) :
  CallF Tryz.prog M 211 [v,.int .i64 (a:Int),.int .i64 (b:Int),.int .i64 (p:Int)] A h fun u A'=>u = .int .i64 ((partitionEqual ltInt d a b p).1:Int)∧Gr A' v 3 intF (partitionEqual ltInt d a b p).2.toList:=by
 have o:=g.one
 have ld:d.toList.length = d.size:=by simp
 obtain ⟨n,rfl⟩:∃ n:Nat,b = n + 1:=⟨b - 1,by omega⟩
 refine Cs Tryz.func211 Tryz.ntmps211 ?_
 refine Wo ?_
 apply viaT (G:=∀ (B:Own),Gr B v 3 intF (swp d a p).toList→_)
 ·intro tail
  refine sf_draw (by kernel_rfl) (regX_own (A) (regX_split 7 11 (by rfl) ?_ ?_))
  case' refine_1=>
   refine Sw [[],[],[],[],[],[],[4,5],[4,5,6],[],[],[8,9],[4,5,6,7,8,9,10],[0,1,4,5,6,7,8,9,10,11],[0,1,4,5,6,7,8,9,10,11,12],[0,1,2,3,4,5,6,7,8,9,10,11,12,13],[0,1,2,3,4,5,6,7,8,9,10,11,12,13,14]] 14 [Nn 0,Nn 1,Nn 2,Nn 3,Nn 4,Nn 5,Nn 6,Nn 8,Nn 9,Nn 10,Yy 7,Yy 11,Nn 12,Yy 13] ?_
   refine Di ?_
   refine Yw (by rfl) (z_loadG (by rfl) g (by omega) (by rfl)) ?_
   refine Di ?_
   refine Yw (by rfl) (z_loadG (by rfl) g (by omega) (by rfl)) ?_
   refine Di ?_
   refine Yg g fun As ys hy hl fs gg=>?_
   refine Di ?_
   refine Ae ?_
  case' refine_2=>
   refine Sw [[],[],[],[],[],[],[4,5],[4,5,6,8,9,10,11],[],[],[8,9],[8,9,10],[0,1,4,5,6,7,8,9,10,11],[0,1,4,5,6,7,8,9,10,11,12],[0,1,2,3,4,5,6,7,8,9,10,11,12,13],[0,1,2,3,4,5,6,7,8,9,10,11,12,13,14]] 14 [Nn 0,Nn 1,Nn 2,Nn 3,Nn 4,Nn 5,Nn 6,Nn 8,Nn 9,Nn 10,Yy 11,Yy 7,Nn 12,Yy 13] ?_
   refine Di ?_
   refine Yw (by rfl) (z_loadG (by rfl) g (by omega) (by rfl)) ?_
   refine Di ?_
   refine Yw (by rfl) (z_loadG (by rfl) g (by omega) (by rfl)) ?_
   refine Di ?_
   refine Yg g fun As ys hy hl fs gg=>?_
   refine Di ?_
   refine Ae ?_
  all_goals
   refine Wi ?_
   refine Xg gg fun At zs hz hlz fz gz=>?_
   refine Wi ?_
   rw [show (((n + 1:Nat):Int) - 1) = (n:Int) by omega]
   have hf:zs = (swp d a p).toList:=swp_is hy hz (by omega) (by omega) (by omega) (by omega) (by omega) (by omega)
   rw [hf] at gz
   show Code.sf _ _ _ _ _ _ _ _
   refine sf_keep [0,1,9,10] ?_
   refine sf_own At ?_
   exact tail.out At gz
 intro B ge
 obtain ⟨e,he⟩:∃ e,e = swp d a p:=⟨_,rfl⟩
 rw [← he] at ge
 have es:e.size = d.size:=by rw [he,swp_size]
 have hpe:partitionEqual ltInt d a (n + 1) p = partEqLoop ltInt a (a + 1) n e:=by rw [he]; rfl
 rw [hpe]
 refine sf_lp (ι:=Nat × Nat × Array Int) [0,1] (fun x=>[(9,.int .i64 (x.1:Int)),(10,.int .i64 (x.2.1:Int))]) (fun x O=>Gr O v 3 intF x.2.2.toList∧x.2.2.size = d.size∧a + 1 ≤ x.1∧x.1 ≤ x.2.1 + 2∧a ≤ x.2.1∧x.2.1 ≤ n∧partEqLoop ltInt a x.1 x.2.1 x.2.2 = partEqLoop ltInt a (a + 1) n e) (fun x=>x.2.1 + 2 - x.1) (a + 1,n,e) B ⟨ge,by simp only; omega,by simp only; omega,by simp only; omega,by simp only; omega,by simp only; omega,rfl⟩ ?_
 rintro ⟨i3,j3,f⟩ O3 ⟨gf,fsz,k1,k2,k3,k4,finv⟩
 simp only at gf fsz k1 k2 k3 k4 finv ⊢
 have lf:f.toList.length = f.size:=by simp
 have uf:gt f.toList a = f[a]!:=gt_arr (by omega)
 refine Wo ?_
 apply viaT (G:=∀ i:Nat,i3 ≤ i→i ≤ j3 + 2→scanUp (fun x=>!ltInt f[a]! x) f j3 i3 = i→_)
 ·intro tail
  refine sf_lp (ι:=Nat) [0,1,10] (fun x=>[(9,.int .i64 (x:Int))]) (fun x O'=>O' = O3∧i3 ≤ x∧x ≤ j3 + 2∧scanUp (fun x=>!ltInt f[a]! x) f j3 x = scanUp (fun x=>!ltInt f[a]! x) f j3 (i3)) (fun x=>j3 + 2 - x) (i3) O3 ⟨rfl,by omega,by omega,rfl⟩ ?_
  rintro x _ ⟨rfl,hx0,hx1,hinv⟩
  by_cases h2:x ≤ j3
  ·have h3:(x:Int) ≤ ((j3:Nat):Int):=by omega
   have u1:gt f.toList x = f[x]!:=gt_arr (by omega)
   refine Wo ?_
   refine Sd [[],[],[0,1],[0,1,2],[0,1,2,3],[0,1,2,3],[0,1,2,3,4,5],[0,1,2,3,4,5,6],[0,1,2,3],[0,1,2,3],[0,1,2,3,8,9],[0,1,2,3,8,9,10],[0,1,2,3,4,5,6,7,8,9,10,11],[0,1,2,3,4,5,6,7,8,9,10,11,12],[0,1,2,3,4,5,6,7,8,9,10,11,12,13]] 12 [Nn 0,Nn 1,Nn 2,Nn 3,Nn 4,Nn 5,Nn 6,Nn 7,Nn 8,Nn 9,Nn 10,Nn 11] ?_
   refine Di ?_
   refine Ae ?_
   refine Xv (less_v _ _ _) ?_
   refine Wo ?_
   rw [u1,uf]
   refine sf_ifn (fun h4=>?_) fun h4=>?_
   ·refine Wo ?_
    exact ⟨x + 1,by omega,⟨rfl,trivial⟩,rfl,_,_,inferInstance,rfl,by omega,by omega,by rw [← hinv]; exact (scanUp_go h2 (by simp only [ltInt_is]; simp [h4])).symm⟩
   ·refine sf_exit ?_
    refine Wo ?_
    refine sf_keep [0,1,9,10] ?_
    exact tail.out x (by omega) (by omega) (by rw [← hinv]; exact scanUp_stop (fun h=>absurd h4 (by simpa [ltInt_is] using h.2)))
  ·have h3:¬ (x:Int) ≤ ((j3:Nat):Int):=by omega
   refine Wo ?_
   refine Sd [[],[],[0,1],[0,1,2],[0,1,2,3],[0,1,2,3],[0,1,2,3,4,5],[0,1,2,3,4,5,6],[0,1,2,3],[0,1,2,3],[0,1,2,3,8,9],[0,1,2,3,8,9,10],[0,1,2,3,4,5,6,7,8,9,10,11],[0,1,2,3,4,5,6,7,8,9,10,11,12],[0,1,2,3,4,5,6,7,8,9,10,11,12,13]] 12 [Nn 0,Nn 1,Nn 2,Nn 3,Nn 4,Nn 5,Nn 6,Nn 7,Nn 8,Nn 9,Nn 10,Nn 11] ?_
   refine Di ?_
   refine Ae ?_
   refine Wo ?_
   refine sf_cond (by rfl) (fun e=>by cases e) fun z1=>?_
   clear z1
   refine sf_exit ?_
   refine Wo ?_
   refine sf_keep [0,1,9,10] ?_
   exact tail.out x (by omega) (by omega) (by rw [← hinv]; exact scanUp_stop (fun h=>h2 h.1))
 intro i4 hi4 hi5 hsu4
 apply viaT (G:=∀ j:Nat,i4 ≤ j + 2→a ≤ j→j ≤ j3→scanDown (fun x=>ltInt f[a]! x) f i4 j3 = j→_)
 ·intro tail
  refine sf_lp (ι:=Nat) [0,1,9] (fun x=>[(10,.int .i64 (x:Int))]) (fun x O'=>O' = O3∧i4 ≤ x + 2∧a ≤ x∧x ≤ j3∧scanDown (fun x=>ltInt f[a]! x) f i4 x = scanDown (fun x=>ltInt f[a]! x) f i4 (j3)) (fun x=>x) (j3) O3 ⟨rfl,by omega,by omega,by omega,rfl⟩ ?_
  rintro x _ ⟨rfl,hx0,hx2,hx1,hinv⟩
  by_cases h2:i4 ≤ x
  ·obtain ⟨y,hy0⟩:∃ k,x = k + 1:=⟨x - 1,by omega⟩
   have h3:((i4:Nat):Int) ≤ (x:Int):=by omega
   have u1:gt f.toList x = f[x]!:=gt_arr (by omega)
   refine Wo ?_
   refine Sd [[],[],[0,1],[0,1,2],[0,1,2,3],[0,1,2,3],[0,1,2,3,4,5],[0,1,2,3,4,5,6],[0,1,2,3],[0,1,2,3],[0,1,2,3,8,9],[0,1,2,3,8,9,10],[0,1,2,3,4,5,6,7,8,9,10,11],[0,1,2,3,4,5,6,7,8,9,10,11,12]] 12 [Nn 0,Nn 1,Nn 2,Nn 3,Nn 4,Nn 5,Nn 6,Nn 7,Nn 8,Nn 9,Nn 10,Nn 11] ?_
   refine Di ?_
   refine Ae ?_
   refine Xv (less_v _ _ _) ?_
   refine Wo ?_
   rw [u1,uf]
   refine sf_if (fun h4=>?_) fun h4=>?_
   ·refine Wo ?_
    subst hy0
    exact ⟨y,by omega,⟨vI (show ((y + 1:Nat):Int) - 1 = (y:Int) by omega),trivial⟩,rfl,_,_,inferInstance,rfl,by omega,by omega,by omega,by rw [← hinv]; exact (scanDown_go h2 (by simp only [ltInt_is]; simp [h4])).symm⟩
   ·refine sf_exit ?_
    refine Wo ?_
    (show Code.sf _ _ _ _ _ _ _ _; refine sf_keep [0,1,9,10,64] ?_)
    exact tail.out x (by omega) (by omega) (by omega) (by rw [← hinv]; exact scanDown_stop (fun h=>h4 (by simpa [ltInt_is] using h.2)))
  ·have h3:¬ ((i4:Nat):Int) ≤ (x:Int):=by omega
   refine Wo ?_
   refine Sd [[],[],[0,1],[0,1,2],[0,1,2,3],[0,1,2,3],[0,1,2,3,4,5],[0,1,2,3,4,5,6],[0,1,2,3],[0,1,2,3],[0,1,2,3,8,9],[0,1,2,3,8,9,10],[0,1,2,3,4,5,6,7,8,9,10,11],[0,1,2,3,4,5,6,7,8,9,10,11,12]] 12 [Nn 0,Nn 1,Nn 2,Nn 3,Nn 4,Nn 5,Nn 6,Nn 7,Nn 8,Nn 9,Nn 10,Nn 11] ?_
   refine Di ?_
   refine Ae ?_
   refine Wo ?_
   refine sf_cond (by rfl) (fun e=>by cases e) fun z1=>?_
   clear z1
   refine sf_exit ?_
   refine Wo ?_
   (show Code.sf _ _ _ _ _ _ _ _; refine sf_keep [0,1,9,10,64] ?_)
   exact tail.out x (by omega) (by omega) (by omega) (by rw [← hinv]; exact scanDown_stop (fun h=>h2 h.1))
 intro j4 hj4 hj5 hj6 hsd4
 obtain ⟨s1,s2⟩:=partEqLoop_step hsu4 hsd4 hi4 hj6
 refine sf_if (fun h5=>?_) fun h5=>?_
 ·refine sf_exit ?_
  rw [← finv,s1 (by omega)]
  refine Wo ?_
  exact sf_ret (rO O3 ⟨rfl,gf⟩)
 obtain ⟨j4,rfl⟩:∃ k,j4 = k + 1:=⟨j4 - 1,by omega⟩
 have s3:=s2 (by omega) (by omega)
 refine Wo ?_
 refine sf_draw (by kernel_rfl) (regX_own (O3) (regX_split 7 11 (by rfl) ?_ ?_))
 case' refine_1=>
  refine Sw [[],[],[],[],[],[],[4,5],[4,5,6],[],[],[8,9],[4,5,6,7,8,9,10],[0,1,4,5,6,7,8,9,10,11],[0,1,4,5,6,7,8,9,10,11,12],[0,1,2,3,4,5,6,7,8,9,10,11,12,13],[0,1,2,3,4,5,6,7,8,9,10,11,12,13,14]] 14 [Nn 0,Nn 1,Nn 2,Nn 3,Nn 4,Nn 5,Nn 6,Nn 8,Nn 9,Nn 10,Yy 7,Yy 11,Nn 12,Yy 13] ?_
  refine Di ?_
  refine Yw (by rfl) (z_loadG (by rfl) gf (by omega) (by rfl)) ?_
  refine Di ?_
  refine Yw (by rfl) (z_loadG (by rfl) gf (by omega) (by rfl)) ?_
  refine Di ?_
  refine Yg gf fun As ys hy hl fs gg=>?_
  refine Di ?_
  refine Ae ?_
 case' refine_2=>
  refine Sw [[],[],[],[],[],[],[4,5],[4,5,6,8,9,10,11],[],[],[8,9],[8,9,10],[0,1,4,5,6,7,8,9,10,11],[0,1,4,5,6,7,8,9,10,11,12],[0,1,2,3,4,5,6,7,8,9,10,11,12,13],[0,1,2,3,4,5,6,7,8,9,10,11,12,13,14]] 14 [Nn 0,Nn 1,Nn 2,Nn 3,Nn 4,Nn 5,Nn 6,Nn 8,Nn 9,Nn 10,Yy 11,Yy 7,Nn 12,Yy 13] ?_
  refine Di ?_
  refine Yw (by rfl) (z_loadG (by rfl) gf (by omega) (by rfl)) ?_
  refine Di ?_
  refine Yw (by rfl) (z_loadG (by rfl) gf (by omega) (by rfl)) ?_
  refine Di ?_
  refine Yg gf fun As ys hy hl fs gg=>?_
  refine Di ?_
  refine Ae ?_
 all_goals
  refine Wi ?_
  refine Xg gg fun At zs hz hlz fz gz=>?_
  refine Wi ?_
  rw [show (((j4 + 1:Nat):Int) - 1) = (j4:Int) by omega]
  have hf:zs = (swp f i4 (j4 + 1)).toList:=swp_is hy hz (by omega) (by omega) (by omega) (by omega) (by omega) (by omega)
  rw [hf] at gz
  exact ⟨(i4 + 1,j4,swp f i4 (j4 + 1)),by simp only; omega,⟨rfl,rfl,trivial⟩,rfl,_,_,inferInstance,gz,by simp only [swp_size]; exact fsz,by simp only; omega,by simp only; omega,by simp only; omega,by simp only; omega,by simp only; rw [← finv,s3]; rfl⟩
theorem partialInsertionSort_f (h : PHeap) (v : Value) (A : Own) (d : Array Int) (g : Gr A v 3 intF d.toList) (a b : Nat) (hb : b ≤ d.size) (hs : d.size ≤ 1000000) (hab : a < b) :
  CallF Tryz.prog M 209 [v,.int .i64 (a:Int),.int .i64 (b:Int)] A h fun u A'=>u = .bool (partialInsertionSort ltInt d a b).2∧Gr A' v 3 intF (partialInsertionSort ltInt d a b).1.toList:=by
 have o:=g.one
 refine Cs Tryz.func209 Tryz.ntmps209 ?_
 refine Wo ?_
 refine sf_lp (ι:=Nat × Nat × Array Int) [0,1,2] (fun x=>[(8,.int .i64 (5 - (x.1:Int))),(7,.int .i64 (x.2.1:Int))]) (fun x O=>Gr O v 3 intF x.2.2.toList∧x.2.2.size = d.size∧x.1 ≤ 5∧a + 1 ≤ x.2.1∧x.2.1 ≤ b∧partialIns ltInt a b x.1 x.2.1 x.2.2 = partialInsertionSort ltInt d a b) (fun x=>x.1) (5,a + 1,d) A ⟨g,rfl,by simp only; omega,by simp only; omega,by simp only; omega,rfl⟩ ?_
 rintro ⟨s,i,f⟩ O ⟨gf,fsz,hs5,hi,hib,finv⟩
 simp only at gf fsz hs5 hi hib finv ⊢
 have lf:f.toList.length = f.size:=by simp
 refine Wo ?_
 refine sf_if (fun h1=>?_) fun h1=>?_
 ·obtain ⟨s,rfl⟩:∃ k,s = k + 1:=⟨s - 1,by omega⟩
  refine Wo ?_
  apply viaT (G:=∀ i2:Nat,i ≤ i2→i2 ≤ b→scanSorted ltInt f b i = i2→_)
  ·intro tail
   refine sf_lp (ι:=Nat) [0,1,2,8] (fun x=>[(7,.int .i64 (x:Int))]) (fun x O'=>O' = O∧i ≤ x∧x ≤ b∧scanSorted ltInt f b x = scanSorted ltInt f b i) (fun x=>b - x) i O ⟨rfl,by omega,hib,rfl⟩ ?_
   rintro x _ ⟨rfl,hx0,hx1,hinv⟩
   by_cases h2:x < b
   ·have h3:(x:Int) < ((b:Nat):Int):=by omega
    have u1:gt f.toList x = f[x]!:=gt_arr (by omega)
    have u2:gt f.toList ((x:Int) - 1).toNat = f[x - 1]!:=gt_arr' (by omega) (by omega)
    refine Wo ?_
    refine Sd [[],[],[0,1],[0,1,2],[0,1,2,3],[0,1,2,3],[0,1,2,3,4,5],[0,1,2,3,4,5,6],[0,1,2,3],[0,1,2,3],[0,1,2,3,9],[0,1,2,3,8,9,10],[0,1,2,3,8,9,10,11],[0,1,2,3,4,5,6,7,8,9,10,11,12],[0,1,2,3,4,5,6,7,8,9,10,11,12,13],[0,1,2,3,4,5,6,7,8,9,10,11,12,13,14]] 13 [Nn 0,Nn 1,Nn 2,Nn 3,Nn 4,Nn 5,Nn 6,Nn 7,Nn 8,Nn 9,Nn 10,Nn 11,Nn 12] ?_
    refine Di ?_
    refine Ae ?_
    refine Xv (less_v _ _ _) ?_
    refine Wo ?_
    rw [u1,u2]
    refine sf_ifn (fun h4=>?_) fun h4=>?_
    ·refine Wo ?_
     exact ⟨x + 1,by omega,⟨rfl,trivial⟩,rfl,_,_,inferInstance,rfl,by omega,by omega,by rw [← hinv]; exact (scanSorted_go h2 h4).symm⟩
    ·refine sf_exit ?_
     refine Wo ?_
     show Code.sf _ _ _ _ _ _ _ _
     refine sf_keep [0,1,2,7,8,37] ?_
     exact tail.out x hx0 hx1 (by rw [← hinv]; exact scanSorted_stop fun h=>h.2 h4)
   ·have h3:¬ (x:Int) < ((b:Nat):Int):=by omega
    refine Wo ?_
    refine Sd [[],[],[0,1],[0,1,2],[0,1,2,3],[0,1,2,3],[0,1,2,3,4,5],[0,1,2,3,4,5,6],[0,1,2,3],[0,1,2,3],[0,1,2,3,9],[0,1,2,3,8,9,10],[0,1,2,3,8,9,10,11],[0,1,2,3,4,5,6,7,8,9,10,11,12],[0,1,2,3,4,5,6,7,8,9,10,11,12,13],[0,1,2,3,4,5,6,7,8,9,10,11,12,13,14]] 13 [Nn 0,Nn 1,Nn 2,Nn 3,Nn 4,Nn 5,Nn 6,Nn 7,Nn 8,Nn 9,Nn 10,Nn 11,Nn 12] ?_
    refine Di ?_
    refine Ae ?_
    refine Wo ?_
    refine sf_cond (by rfl) (fun e=>by cases e) fun z1=>?_
    clear z1
    refine sf_exit ?_
    refine Wo ?_
    show Code.sf _ _ _ _ _ _ _ _
    refine sf_keep [0,1,2,7,8,37] ?_
    exact tail.out x hx0 hx1 (by rw [← hinv]; exact scanSorted_stop fun h=>h2 h.1)
  intro i2 hi2 hi3 hsc
  obtain ⟨p1,p2,p3⟩:=partialIns_step (a:=a) (s:=s) hsc
  refine sf_if (fun h5=>?_) fun h5=>?_
  ·refine Wo ?_
   refine sf_ret (rO O ?_)
   rw [← finv,p1 (by omega)]
   exact ⟨rfl,gf⟩
  refine Wo ?_
  refine sf_if (fun h6=>?_) fun h6=>?_
  ·refine Wo ?_
   refine sf_ret (rO O ?_)
   rw [← finv,p2 (by omega) (by omega)]
   exact ⟨rfl,gf⟩
  have p4:=p3 (by omega) (by omega) _ _ rfl rfl
  clear p1 p2 p3
  rw [finv] at p4
  clear finv
  refine Wo ?_
  apply viaT (G:=∀ (B:Own),Gr B v 3 intF (swp f i2 (i2 - 1)).toList→_)
  ·intro tail
   refine sf_draw (by kernel_rfl) (regX_own (O) (regX_split 9 13 (by rfl) ?_ ?_))
   case' refine_1=>
    refine Sw [[],[],[],[],[3],[],[],[6],[5,6,7],[5,6,7,8],[],[],[10,11],[5,6,7,8,9,10,11,12],[0,1,5,6,7,8,9,10,11,12,13],[0,1,5,6,7,8,9,10,11,12,13,14],[0,1,2,3,4,5,6,7,8,9,10,11,12,13,14,15],[0,1,2,3,4,5,6,7,8,9,10,11,12,13,14,15,16]] 16 [Nn 0,Nn 1,Nn 2,Nn 3,Nn 4,Nn 5,Nn 6,Nn 7,Nn 8,Nn 10,Nn 11,Nn 12,Yy 9,Yy 13,Nn 14,Yy 15] ?_
    refine Di ?_
    refine Yw (by rfl) (z_loadG (by rfl) gf (by omega) (by rfl)) ?_
    refine Di ?_
    refine Yw (by rfl) (z_loadG (by rfl) gf (by omega) (by rfl)) ?_
    refine Di ?_
    refine Yg gf fun As ys hy hl fs gg=>?_
    refine Di ?_
    refine Ae ?_
   case' refine_2=>
    refine Sw [[],[],[],[],[3],[],[],[6],[5,6,7],[5,6,7,8,10,11,12,13],[],[],[10,11],[10,11,12],[0,1,5,6,7,8,9,10,11,12,13],[0,1,5,6,7,8,9,10,11,12,13,14],[0,1,2,3,4,5,6,7,8,9,10,11,12,13,14,15],[0,1,2,3,4,5,6,7,8,9,10,11,12,13,14,15,16]] 16 [Nn 0,Nn 1,Nn 2,Nn 3,Nn 4,Nn 5,Nn 6,Nn 7,Nn 8,Nn 10,Nn 11,Nn 12,Yy 13,Yy 9,Nn 14,Yy 15] ?_
    refine Di ?_
    refine Yw (by rfl) (z_loadG (by rfl) gf (by omega) (by rfl)) ?_
    refine Di ?_
    refine Yw (by rfl) (z_loadG (by rfl) gf (by omega) (by rfl)) ?_
    refine Di ?_
    refine Yg gf fun As ys hy hl fs gg=>?_
    refine Di ?_
    refine Ae ?_
   all_goals
    refine Wi ?_
    refine Xg gg fun At zs hz hlz fz gz=>?_
    refine Wi ?_
    have hf:zs = (swp f i2 (i2 - 1)).toList:=swp_is hy hz (by omega) (by omega) (by omega) (by omega) (by omega) (by omega)
    rw [hf] at gz
    show Code.sf _ _ _ _ _ _ _ _
    refine sf_keep [0,1,2,7,8,61] ?_
    refine sf_own At ?_
    exact tail.out At gz
  intro B ge
  obtain ⟨e,he⟩:∃ e,e = swp f i2 (i2 - 1):=⟨_,rfl⟩
  rw [← he] at ge p4
  have es:e.size = d.size:=by rw [he,swp_size]; exact fsz
  apply viaT (G:=∀ (B:Own),Gr B v 3 intF (if 2 ≤ i2 - a then shiftDown ltInt (i2 - 1) e else e).toList→(if 2 ≤ i2 - a then shiftDown ltInt (i2 - 1) e else e).size = d.size→_)
  ·intro tail
   refine sf_if (fun h7=>?_) fun h7=>?_
   ·rw [if_pos (by omega)] at tail
    refine Wo ?_
    rw [show ((i2:Int) - 1) = ((i2 - 1:Nat):Int) by omega]
    refine sf_lp (ι:=Nat × Array Int) [0,1,2,7,8] (fun x=>[(9,.int .i64 (x.1:Int))]) (fun x O=>Gr O v 3 intF x.2.toList∧x.2.size = d.size∧x.1 < b∧shiftDown ltInt x.1 x.2 = shiftDown ltInt (i2 - 1) e) (fun x=>x.1) (i2 - 1,e) B ⟨ge,es,by simp only; omega,rfl⟩ ?_
    rintro ⟨j,f2⟩ O2 ⟨gf2,f2sz,hj,f2inv⟩
    simp only at gf2 f2sz hj f2inv ⊢
    have lf2:f2.toList.length = f2.size:=by simp
    refine Wo ?_
    refine sf_if (fun h8=>?_) fun h8=>?_
    ·obtain ⟨j,rfl⟩:∃ k,j = k + 1:=⟨j - 1,by omega⟩
     have u1:gt f2.toList (j + 1) = f2[j + 1]!:=gt_arr (by omega)
     have u2:gt f2.toList (((j + 1:Nat):Int) - 1).toNat = f2[j]!:=gt_arr' (by omega) (by omega)
     refine Wo ?_
     refine Sd [[],[],[0,1],[0,1,2],[],[],[5],[4,5,6],[4,5,6,7],[0,1,2,3,4,5,6,7,8],[0,1,2,3,4,5,6,7,8,9]] 9 [Nn 0,Nn 1,Nn 2,Nn 3,Nn 4,Nn 5,Nn 6,Nn 7,Nn 8] ?_
     refine Di ?_
     refine Ae ?_
     refine Xv (less_v _ _ _) ?_
     refine Wo ?_
     rw [u1,u2]
     refine sf_ifn (fun h9=>?_) fun h9=>?_
     ·refine sf_exit ?_
      have fin:=f2inv.symm.trans (shiftDown_stop h9)
      rw [fin] at tail
      refine Wo ?_
      show Code.sf _ _ _ _ _ _ _ _
      refine sf_keep [0,1,2,7,8,98] ?_
      refine sf_own O2 ?_
      exact tail.out O2 gf2 f2sz
     ·refine Wo ?_
      refine sf_draw (by kernel_rfl) (regX_own (O2) (regX_split 9 13 (by rfl) ?_ ?_))
      case' refine_1=>
       refine Sw [[],[],[],[],[3],[],[],[6],[5,6,7],[5,6,7,8],[],[],[10,11],[5,6,7,8,9,10,11,12],[0,1,5,6,7,8,9,10,11,12,13],[0,1,5,6,7,8,9,10,11,12,13,14],[0,1,2,3,4,5,6,7,8,9,10,11,12,13,14,15],[0,1,2,3,4,5,6,7,8,9,10,11,12,13,14,15,16]] 16 [Nn 0,Nn 1,Nn 2,Nn 3,Nn 4,Nn 5,Nn 6,Nn 7,Nn 8,Nn 10,Nn 11,Nn 12,Yy 9,Yy 13,Nn 14,Yy 15] ?_
       refine Di ?_
       refine Yw (by rfl) (z_loadG (by rfl) gf2 (by omega) (by rfl)) ?_
       refine Di ?_
       refine Yw (by rfl) (z_loadG (by rfl) gf2 (by omega) (by rfl)) ?_
       refine Di ?_
       refine Yg gf2 fun As ys hy hl fs gg=>?_
       refine Di ?_
       refine Ae ?_
      case' refine_2=>
       refine Sw [[],[],[],[],[3],[],[],[6],[5,6,7],[5,6,7,8,10,11,12,13],[],[],[10,11],[10,11,12],[0,1,5,6,7,8,9,10,11,12,13],[0,1,5,6,7,8,9,10,11,12,13,14],[0,1,2,3,4,5,6,7,8,9,10,11,12,13,14,15],[0,1,2,3,4,5,6,7,8,9,10,11,12,13,14,15,16]] 16 [Nn 0,Nn 1,Nn 2,Nn 3,Nn 4,Nn 5,Nn 6,Nn 7,Nn 8,Nn 10,Nn 11,Nn 12,Yy 13,Yy 9,Nn 14,Yy 15] ?_
       refine Di ?_
       refine Yw (by rfl) (z_loadG (by rfl) gf2 (by omega) (by rfl)) ?_
       refine Di ?_
       refine Yw (by rfl) (z_loadG (by rfl) gf2 (by omega) (by rfl)) ?_
       refine Di ?_
       refine Yg gf2 fun As ys hy hl fs gg=>?_
       refine Di ?_
       refine Ae ?_
      all_goals
       refine Wi ?_
       refine Xg gg fun At zs hz hlz fz gz=>?_
       refine Wi ?_
       rw [show (((j + 1:Nat):Int) - 1) = (j:Int) by omega]
       have hf:zs = (swp f2 (j + 1) j).toList:=swp_is hy hz (by omega) (by omega) (by omega) (by omega) (by omega) (by omega)
       rw [hf] at gz
       exact ⟨(j,swp f2 (j + 1) j),by simp only; omega,⟨rfl,trivial⟩,rfl,_,_,inferInstance,gz,by simp only [swp_size]; exact f2sz,by simp only; omega,by simp only; rw [← f2inv,shiftDown_go h9]⟩
    ·obtain rfl:j = 0:=by omega
     refine sf_exit ?_
     have fin:shiftDown ltInt (i2 - 1) e = f2:=f2inv.symm
     rw [fin] at tail
     refine Wo ?_
     show Code.sf _ _ _ _ _ _ _ _
     refine sf_keep [0,1,2,7,8,98] ?_
     refine sf_own O2 ?_
     exact tail.out O2 gf2 f2sz
   ·rw [if_neg (by omega)] at tail
    refine Wo ?_
    show Code.sf _ _ _ _ _ _ _ _
    refine sf_keep [0,1,2,7,8,98] ?_
    exact tail.out B ge es
  intro B2 ge2 es2
  obtain ⟨e2,he2⟩:∃ e2,e2 = (if 2 ≤ i2 - a then shiftDown ltInt (i2 - 1) e else e):=⟨_,rfl⟩
  rw [← he2] at ge2 p4 es2
  refine sf_if (fun h7=>?_) fun h7=>?_
  ·rw [if_pos (by omega)] at p4
   refine Wo ?_
   refine sf_lp (ι:=Nat × Array Int) [0,1,2,7,8] (fun x=>[(10,.int .i64 (x.1:Int))]) (fun x O=>Gr O v 3 intF x.2.toList∧x.2.size = d.size∧1 ≤ x.1∧x.1 ≤ b∧shiftUp ltInt b x.1 x.2 = shiftUp ltInt b (i2 + 1) e2) (fun x=>b - x.1) (i2 + 1,e2) B2 ⟨ge2,es2,by simp only; omega,by simp only; omega,rfl⟩ ?_
   rintro ⟨j,f2⟩ O2 ⟨gf2,f2sz,hj0,hj,f2inv⟩
   simp only at gf2 f2sz hj0 hj f2inv ⊢
   have lf2:f2.toList.length = f2.size:=by simp
   refine Wo ?_
   refine sf_if (fun h8=>?_) fun h8=>?_
   ·have u1:gt f2.toList j = f2[j]!:=gt_arr (by omega)
    have u2:gt f2.toList ((j:Int) - 1).toNat = f2[j - 1]!:=gt_arr' (by omega) (by omega)
    refine Wo ?_
    refine Sd [[],[],[0,1],[0,1,2],[],[],[5],[4,5,6],[4,5,6,7],[0,1,2,3,4,5,6,7,8],[0,1,2,3,4,5,6,7,8,9]] 9 [Nn 0,Nn 1,Nn 2,Nn 3,Nn 4,Nn 5,Nn 6,Nn 7,Nn 8] ?_
    refine Di ?_
    refine Ae ?_
    refine Xv (less_v _ _ _) ?_
    refine Wo ?_
    rw [u1,u2]
    refine sf_ifn (fun h9=>?_) fun h9=>?_
    ·refine sf_exit ?_
     have fin:=f2inv.symm.trans (shiftUp_stop fun h=>h9 h.2)
     rw [fin] at p4
     refine Wo ?_
     exact ⟨(s,i2,f2),by simp only; omega,⟨vI (show (5:Int) - ((s + 1:Nat):Int) + 1 = 5 - (s:Int) by omega),rfl,trivial⟩,rfl,_,_,inferInstance,gf2,f2sz,by simp only; omega,by simp only; omega,hi3,p4.symm⟩
    ·refine Wo ?_
     refine sf_draw (by kernel_rfl) (regX_own (O2) (regX_split 9 13 (by rfl) ?_ ?_))
     case' refine_1=>
      refine Sw [[],[],[],[],[3],[],[],[6],[5,6,7],[5,6,7,8],[],[],[10,11],[5,6,7,8,9,10,11,12],[0,1,5,6,7,8,9,10,11,12,13],[0,1,5,6,7,8,9,10,11,12,13,14],[0,1,2,3,4,5,6,7,8,9,10,11,12,13,14,15],[0,1,2,3,4,5,6,7,8,9,10,11,12,13,14,15,16]] 16 [Nn 0,Nn 1,Nn 2,Nn 3,Nn 4,Nn 5,Nn 6,Nn 7,Nn 8,Nn 10,Nn 11,Nn 12,Yy 9,Yy 13,Nn 14,Yy 15] ?_
      refine Di ?_
      refine Yw (by rfl) (z_loadG (by rfl) gf2 (by omega) (by rfl)) ?_
      refine Di ?_
      refine Yw (by rfl) (z_loadG (by rfl) gf2 (by omega) (by rfl)) ?_
      refine Di ?_
      refine Yg gf2 fun As ys hy hl fs gg=>?_
      refine Di ?_
      refine Ae ?_
     case' refine_2=>
      refine Sw [[],[],[],[],[3],[],[],[6],[5,6,7],[5,6,7,8,10,11,12,13],[],[],[10,11],[10,11,12],[0,1,5,6,7,8,9,10,11,12,13],[0,1,5,6,7,8,9,10,11,12,13,14],[0,1,2,3,4,5,6,7,8,9,10,11,12,13,14,15],[0,1,2,3,4,5,6,7,8,9,10,11,12,13,14,15,16]] 16 [Nn 0,Nn 1,Nn 2,Nn 3,Nn 4,Nn 5,Nn 6,Nn 7,Nn 8,Nn 10,Nn 11,Nn 12,Yy 13,Yy 9,Nn 14,Yy 15] ?_
      refine Di ?_
      refine Yw (by rfl) (z_loadG (by rfl) gf2 (by omega) (by rfl)) ?_
      refine Di ?_
      refine Yw (by rfl) (z_loadG (by rfl) gf2 (by omega) (by rfl)) ?_
      refine Di ?_
      refine Yg gf2 fun As ys hy hl fs gg=>?_
      refine Di ?_
      refine Ae ?_
     all_goals
      refine Wi ?_
      refine Xg gg fun At zs hz hlz fz gz=>?_
      refine Wi ?_
      have hf:zs = (swp f2 j (j - 1)).toList:=swp_is hy hz (by omega) (by omega) (by omega) (by omega) (by omega) (by omega)
      rw [hf] at gz
      exact ⟨(j + 1,swp f2 j (j - 1)),by simp only; omega,⟨rfl,trivial⟩,rfl,_,_,inferInstance,gz,by simp only [swp_size]; exact f2sz,by simp only; omega,by simp only; omega,by simp only; rw [← f2inv,shiftUp_go (by omega) h9]⟩
   ·refine sf_exit ?_
    have fin:=f2inv.symm.trans (shiftUp_stop fun h=>h8 (by omega))
    rw [fin] at p4
    refine Wo ?_
    exact ⟨(s,i2,f2),by simp only; omega,⟨vI (show (5:Int) - ((s + 1:Nat):Int) + 1 = 5 - (s:Int) by omega),rfl,trivial⟩,rfl,_,_,inferInstance,gf2,f2sz,by simp only; omega,by simp only; omega,hi3,p4.symm⟩
  ·rw [if_neg (by omega)] at p4
   refine Wo ?_
   exact ⟨(s,i2,e2),by simp only; omega,⟨vI (show (5:Int) - ((s + 1:Nat):Int) + 1 = 5 - (s:Int) by omega),rfl,trivial⟩,rfl,_,_,inferInstance,ge2,es2,by simp only; omega,by simp only; omega,hi3,p4.symm⟩
 ·refine sf_exit ?_
  refine Wo ?_
  refine sf_ret (rO O ?_)
  obtain rfl:s = 0:=by omega
  rw [← finv]
  exact ⟨rfl,gf⟩
theorem len64_f (h:PHeap) (n:Nat) (hn:n ≤ 1000000):CallF Tryz.prog M 214 [.int .u64 (n:Int)] [] h fun u A=>A = []∧∃ L:Nat,u = .int .i64 (L:Int)∧L ≤ 40∧(1 ≤ n→2 ^ L ≤ 2 * n):=by
 refine Cs Tryz.func214 Tryz.ntmps214 ?_
 refine Wo ?_
 refine sf_if (fun h1=>?_) fun h1=>?_
 ·omega
 refine Wo ?_
 refine sf_if (fun h2=>?_) fun h2=>?_
 ·refine Wo ?_
  refine fp (Rq ?_ (q_shrU (s:=16) (by rfl) (by rfl) (by decide)))
  refine Wo ?_
  refine sf_if (fun h3=>?_) fun h3=>?_
  ·omega
  refine Wo ?_
  rw [IntKind.wrap_u8,show (((n / 2 ^ 16:Nat):Int)) % 256 = ((n / 2 ^ 16:Nat):Int) by omega]
  refine Wo ?_
  refine fp (y_len8 (by infer_instance) (by rfl) (by rfl) (by omega) (by kernel_rfl) fun b hb1 hb2=>?_)
  refine Wo ?_
  rw [show IntKind.i64.wrap (b:Int) = (b:Int) from wrap_in (by omega) (by omega),wrap_in (by omega) (by omega)]
  refine Wo ?_
  refine sf_ret (rO [] ⟨rfl,16 + b,rfl,by omega,fun _=>?_⟩)
  have:=hb2 (by omega)
  rw [Nat.pow_add]
  omega
 refine Wo ?_
 refine sf_if (fun h3=>?_) fun h3=>?_
 ·refine Wo ?_
  refine fp (Rq ?_ (q_shrU (s:=8) (by rfl) (by rfl) (by decide)))
  refine Wo ?_
  rw [IntKind.wrap_u8,show (((n / 2 ^ 8:Nat):Int)) % 256 = ((n / 2 ^ 8:Nat):Int) by omega]
  refine Wo ?_
  refine fp (y_len8 (by infer_instance) (by rfl) (by rfl) (by omega) (by kernel_rfl) fun b hb1 hb2=>?_)
  refine Wo ?_
  rw [show IntKind.i64.wrap (b:Int) = (b:Int) from wrap_in (by omega) (by omega),wrap_in (by omega) (by omega)]
  refine Wo ?_
  refine sf_ret (rO [] ⟨rfl,8 + b,rfl,by omega,fun _=>?_⟩)
  have:=hb2 (by omega)
  rw [Nat.pow_add]
  omega
 ·refine Wo ?_
  rw [IntKind.wrap_u8,show (((n:Nat):Int)) % 256 = ((n:Nat):Int) by omega]
  refine Wo ?_
  refine fp (y_len8 (by infer_instance) (by rfl) (by rfl) (by omega) (by kernel_rfl) fun b hb1 hb2=>?_)
  refine Wo ?_
  rw [show IntKind.i64.wrap (b:Int) = (b:Int) from wrap_in (by omega) (by omega),wrap_in (by omega) (by omega)]
  refine Wo ?_
  refine sf_ret (rO [] ⟨rfl,b,?_,by omega,hb2⟩)
  simp
theorem len_f (h:PHeap) (n:Nat) (hn:n ≤ 1000000):CallF Tryz.prog M 190 [.int .u64 (n:Int)] [] h fun u A=>A = []∧∃ L:Nat,u = .int .i64 (L:Int)∧L ≤ 40∧(1 ≤ n→2 ^ L ≤ 2 * n):=by
 refine Cs Tryz.func190 Tryz.ntmps190 ?_
 refine Wo ?_
 refine sf_cond (by rfl) (fun e=>by cases e) fun z1=>?_
 clear z1
 refine Wo ?_
 refine fp (y_call (len64_f (M:=M) _ n hn) (by rfl) ?_)
 rintro _ _ ⟨rfl,L,rfl,h1,h2⟩
 refine Wo ?_
 exact sf_ret (rO [] ⟨rfl,L,rfl,h1,h2⟩)
theorem nextPow_f (h:PHeap) (n:Nat) (hn:n ≤ 1000000) (h1:1 ≤ n):CallF Tryz.prog M 219 [.int .i64 (n:Int)] [] h fun u A=>A = []∧∃ m:Nat,u = .int .u64 (m:Int)∧1 ≤ m∧m ≤ 2 * n:=by
 refine Cs Tryz.func219 Tryz.ntmps219 ?_
 refine Wo ?_
 rw [IntKind.wrap_u64,show (n:Int) % 18446744073709551616 = (n:Int) by omega]
 refine fp (y_call (len_f (M:=M) _ n hn) (by rfl) ?_)
 rintro _ _ ⟨rfl,L,rfl,k1,k2⟩
 refine Wo ?_
 refine fp (Rq ?_ (q_shlU (a:=1) (s:=L) (by rfl) (by rfl) (by omega)))
 refine Wo ?_
 have k3:=k2 h1
 have k4:1 ≤ 2 ^ L:=Nat.one_le_two_pow
 refine sf_ret (rO [] ⟨rfl,_,rfl,?_,?_⟩)
 ·rw [Nat.one_mul,Nat.mod_eq_of_lt (by omega)]; exact k4
 ·rw [Nat.one_mul,Nat.mod_eq_of_lt (by omega)]; exact k3
instance:Fun Tryz.prog 220:=⟨by kernel_rfl⟩
abbrev rndA (br:Nat) (r:Nat):Own:=[(br,.cells #[.int .u64 (r:Int)] 298)]
theorem next_f (h:PHeap) (br r:Nat) (hr:r < 18446744073709551616):CallF Tryz.prog M 220 [.pointer (some ⟨br,0,none⟩)] (rndA br r) h fun u A=>∃ r':Nat,u = .int .u64 (r':Int)∧r' < 18446744073709551616∧A = rndA br r':=by
 refine Cs Tryz.func220 Tryz.ntmps220 ?_
 refine Wo ?_
 have step:∀ (z:Nat),z < 18446744073709551616→z * 2 ^ 13 % 18446744073709551616 < 18446744073709551616∧z / 2 ^ 7 < 18446744073709551616∧z * 2 ^ 17 % 18446744073709551616 < 18446744073709551616:=fun z hz=>⟨Nat.mod_lt _ (by decide),by omega,Nat.mod_lt _ (by decide)⟩
 have xl:∀ a b:Nat,a < 18446744073709551616→b < 18446744073709551616→a ^^^ b < 18446744073709551616:=fun a b ha hb=>Nat.xor_lt_two_pow (n:=64) ha hb
 refine Sd [[],[0],[0,1],[],[3],[3,4],[3,4,5],[0,1,2,3,4,5,6],[0,1,2,3,4,5,6,7],[0,1,2,3,4,5,6,7,8]] 7 [Nn 0,Nn 1,Nn 2,Nn 3,Nn 4,Nn 5,Nn 6] ?_
 refine Da ?_
 refine Yq (by rfl) (fun X h' [_]=>q_shlU (s:=13) (by rfl) (by rfl) (by decide)) ?_
 refine Da ?_
 refine Ae ?_
 refine fp (Rq ?_ (q_xorU (by rfl) (by rfl) hr (step r hr).1))
 refine Wo ?_
 obtain ⟨r1,hr1⟩:∃ z,z = r ^^^ (r * 2 ^ 13 % 18446744073709551616):=⟨_,rfl⟩
 have h1:r1 < 18446744073709551616:=by rw [hr1]; exact xl _ _ hr (step r hr).1
 rw [← hr1]
 refine Sd [[],[0],[0,1],[],[3],[3,4],[3,4,5],[0,1,2,3,4,5,6],[0,1,2,3,4,5,6,7],[0,1,2,3,4,5,6,7,8]] 7 [Nn 0,Nn 1,Nn 2,Nn 3,Nn 4,Nn 5,Nn 6] ?_
 refine Da ?_
 refine Yq (by rfl) (fun X h' [_]=>q_shrU (s:=7) (by rfl) (by rfl) (by decide)) ?_
 refine Da ?_
 refine Ae ?_
 refine fp (Rq ?_ (q_xorU (by rfl) (by rfl) h1 (step r1 h1).2.1))
 refine Wo ?_
 obtain ⟨r2,hr2⟩:∃ z,z = r1 ^^^ (r1 / 2 ^ 7):=⟨_,rfl⟩
 have h2:r2 < 18446744073709551616:=by rw [hr2]; exact xl _ _ h1 (step r1 h1).2.1
 rw [← hr2]
 refine Sd [[],[0],[0,1],[],[3],[3,4],[3,4,5],[0,1,2,3,4,5,6],[0,1,2,3,4,5,6,7],[0,1,2,3,4,5,6,7,8]] 7 [Nn 0,Nn 1,Nn 2,Nn 3,Nn 4,Nn 5,Nn 6] ?_
 refine Da ?_
 refine Yq (by rfl) (fun X h' [_]=>q_shlU (s:=17) (by rfl) (by rfl) (by decide)) ?_
 refine Da ?_
 refine Ae ?_
 refine fp (Rq ?_ (q_xorU (by rfl) (by rfl) h2 (step r2 h2).2.2))
 refine Wo ?_
 exact sf_ret (rO _ ⟨_,rfl,xl _ _ h2 (step r2 h2).2.2,rfl⟩)
theorem breakPatterns_f (h : PHeap) (v : Value) (A : Own) (d : Array Int) (g : Gr A v 3 intF d.toList) (a b : Nat) (hb : b ≤ d.size) (hs : d.size ≤ 1000000) (hab : a < b) :
  CallF Tryz.prog M 206 [v,.int .i64 (a:Int),.int .i64 (b:Int)] A h fun u A'=>u = .tuple #[]∧∃ d':Array Int,Gr A' v 3 intF d'.toList∧PermIn a b d d':=by
 have o:=g.one
 obtain ⟨n,rfl⟩:∃ n:Nat,b = a + n:=⟨b - a,by omega⟩
 refine Cs Tryz.func206 Tryz.ntmps206 ?_
 repeat first|refine R1 ?_|refine R2 fun _=>?_
 have e0:((a + n:Nat):Int) - (a:Int) = (n:Int):=by omega
 rw [e0]
 refine sf_if (fun h1=>?_) fun h1=>?_
 ·repeat first|refine R1 ?_|refine R2 fun _=>?_
  rw [IntKind.wrap_u64,show (n:Int) % 18446744073709551616 = (n:Int) by omega]
  repeat first|refine R1 ?_|refine R2 fun _=>?_
  rename_i br
  refine fp (y_call (nextPow_f (M:=M) _ n (by omega) (by omega)) (by rfl) ?_)
  rintro _ _ ⟨rfl,m,rfl,hm1,hm2⟩
  repeat first|refine R1 ?_|refine R2 fun _=>?_
  rw [show (a:Int) + (n:Int) / 4 * 2 - 1 = ((a + n / 4 * 2 - 1:Nat):Int) by omega]
  refine sf_lp (ι:=Nat × Array Int) [0,1,6,7,8] (fun x=>[(9,.int .i64 (x.1:Int))]) (fun x O=>∃ (B:Own) (r:Nat),O = rndA br r++B∧r < 18446744073709551616∧Gr B v 3 intF x.2.toList∧x.2.size = d.size∧a ≤ x.1∧PermIn a (a + n) d x.2) (fun x=>a + n / 4 * 2 + 2 - x.1) (a + n / 4 * 2 - 1,d) (rndA br n++A) ⟨A,n,rfl,by omega,g,rfl,by simp only; omega,Sort.permIn_refl _ _ _⟩ ?_
  rintro ⟨k,f⟩ O ⟨B,r,rfl,hr,gf,fsz,hk,fp0⟩
  simp only at gf fsz hk fp0 ⊢
  have lf:f.toList.length = f.size:=by simp
  repeat first|refine R1 ?_|refine R2 fun _=>?_
  refine sf_if (fun h2=>?_) fun h2=>?_
  ·repeat first|refine R1 ?_|refine R2 fun _=>?_
   refine fp (y_call (next_f (M:=M) _ br r hr) (by rfl) ?_)
   rintro _ _ ⟨r2,rfl,hr2,rfl⟩
   repeat first|refine R1 ?_|refine R2 fun _=>?_
   rw [IntKind.wrap_u64,show ((m:Int) - 1) % 18446744073709551616 = ((m - 1:Nat):Int) by omega]
   refine fp (Rq ?_ (q_andU (by rfl) (by rfl) hr2 (by omega)))
   have ho:r2 &&& (m - 1) ≤ m - 1:=Nat.and_le_right
   generalize r2 &&& (m - 1) = w at ho
   repeat first|refine R1 ?_|refine R2 fun _=>?_
   rw [wrap_in (by omega) (by omega)]
   apply viaT (G:=∀ w:Nat,w < n→_)
   ·intro tail
    refine sf_if (fun h3=>?_) fun h3=>?_
    ·repeat first|refine R1 ?_|refine R2 fun _=>?_
     rw [show (w:Int) - (n:Int) = ((w - n:Nat):Int) by omega]
     generalize hw:w - n = w2
     refine sf_keep [0,1,6,7,8,9,10] ?_
     exact tail.out w2 (by omega)
    ·repeat first|refine R1 ?_|refine R2 fun _=>?_
     refine sf_keep [0,1,6,7,8,9,10] ?_
     exact tail.out w (by omega)
   intro w hw
   refine sf_draw (by kernel_rfl) (regX_own (B) (regX_split 11 15 (by rfl) ?_ ?_))
   case' refine_1=>
    refine Sw [[],[],[],[],[],[3,4],[],[],[],[7,8],[6,7,8,9],[6,7,8,9,10],[],[],[12,13],[6,7,8,9,10,11,12,13,14],[0,1,6,7,8,9,10,11,12,13,14,15],[0,1,6,7,8,9,10,11,12,13,14,15,16],[0,1,2,3,4,5,6,7,8,9,10,11,12,13,14,15,16,17],[0,1,2,3,4,5,6,7,8,9,10,11,12,13,14,15,16,17,18]] 18 [Nn 0,Nn 1,Nn 2,Nn 3,Nn 4,Nn 5,Nn 6,Nn 7,Nn 8,Nn 9,Nn 10,Nn 12,Nn 13,Nn 14,Yy 11,Yy 15,Nn 16,Yy 17] ?_
    refine Di ?_
    refine Yw (by rfl) (z_loadG (by rfl) gf (by omega) (by rfl)) ?_
    refine Di ?_
    refine Yw (by rfl) (z_loadG (by rfl) gf (by omega) (by rfl)) ?_
    refine Di ?_
    refine Yg gf fun As ys hy hl fs gg=>?_
    refine Di ?_
    refine Ae ?_
   case' refine_2=>
    refine Sw [[],[],[],[],[],[3,4],[],[],[],[7,8],[6,7,8,9],[6,7,8,9,10,12,13,14,15],[],[],[12,13],[12,13,14],[0,1,6,7,8,9,10,11,12,13,14,15],[0,1,6,7,8,9,10,11,12,13,14,15,16],[0,1,2,3,4,5,6,7,8,9,10,11,12,13,14,15,16,17],[0,1,2,3,4,5,6,7,8,9,10,11,12,13,14,15,16,17,18]] 18 [Nn 0,Nn 1,Nn 2,Nn 3,Nn 4,Nn 5,Nn 6,Nn 7,Nn 8,Nn 9,Nn 10,Nn 12,Nn 13,Nn 14,Yy 15,Yy 11,Nn 16,Yy 17] ?_
    refine Di ?_
    refine Yw (by rfl) (z_loadG (by rfl) gf (by omega) (by rfl)) ?_
    refine Di ?_
    refine Yw (by rfl) (z_loadG (by rfl) gf (by omega) (by rfl)) ?_
    refine Di ?_
    refine Yg gf fun As ys hy hl fs gg=>?_
    refine Di ?_
    refine Ae ?_
   all_goals
    repeat first|refine R1 ?_|refine R2 fun _=>?_|refine fp (Rq ?_ (z_indexGI (by rfl) (by rfl) (by assumption) (by omega) (by omega)))
    refine Xg gg fun At zs hz hlz fz gz=>?_
    repeat first|refine R1 ?_|refine R2 fun _=>?_|refine fp (Rq ?_ (z_indexGI (by rfl) (by rfl) (by assumption) (by omega) (by omega)))
    have hf:zs = (swp f k (a + w)).toList:=swp_is hy hz (by omega) (by omega) (by omega) (by omega) (by omega) (by omega)
    rw [hf] at gz
    refine ⟨(k + 1,swp f k (a + w)),by simp only; omega,⟨rfl,trivial⟩,rfl,rndA br r2++At,_,inferInstance,At,r2,rfl,hr2,gz,by simp only [swp_size]; exact fsz,by simp only; omega,?_⟩
    exact Sort.permIn_trans _ _ _ _ _ fp0 (Sort.swp_permIn _ _ _ _ _ (by omega) (by omega) (by omega) (by omega) (by omega))
  ·refine sf_exit ?_
   repeat first|refine R1 ?_|refine R2 fun _=>?_
   exact nO B ⟨rfl,f,gf,fp0⟩
 ·repeat first|refine R1 ?_|refine R2 fun _=>?_
  exact nO A ⟨rfl,d,g,Sort.permIn_refl _ _ _⟩
end Go.Proofs.YtcpkcmgjfcbnpaaGreatDoor

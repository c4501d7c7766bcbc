/- The walk at the level of one exact heap: rules; run straight on; steps at the group. No program. -/
import Derived.Test.YtcpkcmgjfcbnpaaGreatDoorSlFk
import Derived.Test.YtcpkcmgjfcbnpaaGreatDoorLibA
set_option linter.unusedVariables false
set_option linter.unusedSimpArgs false
set_option linter.unusedSectionVars false

namespace Go.Sl
open Go Go.Conc
section
variable {P:Program} {M:Jdg→Prop} [hM:IsCl P M] {n:Nat} {Q:Qt} {L:Locals} {h:PHeap} {ops:Array Oper} {rest:List Oper} {d:Option Nat} {ty:TypeId} {pos:String} {af:Array Edge} {g:Option (Nat × Bool)}
theorem l_q {op:Op} {v:Value} (x:∀ K E,K (.value v) h→opv P n ⟨d,op,ty,pos,af,none⟩ L h K E) (k:slList P M n ops Q rest (setL d v L) h) (hd:dstOk n d = true:=by rfl):slList P M n ops Q (⟨d,op,ty,pos,af,none⟩ :: rest) L h:=
  l_plain rfl hd (x _ _ k)
theorem l_gT {op : Op} {j dj : Nat} {want b : Bool} (hj : (ops[j]?).bind (·.dst) = some dj) (hb : L.get dj = some (.bool b)) (hbw : b = want) {v : Value} (x : ∀ K E, K (.value v) h → opv P n ⟨d, op, ty, pos, af, some (j, want)⟩ L h K E) (k : slList P M n ops Q rest (setL d v L) h) (hd : dstOk n d = true := by rfl) :
    slList P M n ops Q (⟨d,op,ty,pos,af,some (j,want)⟩ :: rest) L h:=
  l_guard rfl hd hj hb (fun _=>x _ _ k) (fun e=>by rw [hbw] at e; cases want <;> cases e)
theorem l_gF {op:Op} {j dj:Nat} {want b:Bool} (hj:(ops[j]?).bind (·.dst) = some dj) (hb:L.get dj = some (.bool b)) (hbw:b = !want) (k:slList P M n ops Q rest (setL d undef L) h) (hd:dstOk n d = true:=by rfl):slList P M n ops Q (⟨d,op,ty,pos,af,some (j,want)⟩ :: rest) L h:=
  l_guard rfl hd hj hb (fun e=>by rw [hbw] at e; cases want <;> cases e) (fun _=>k)
omit hM in
theorem x_num {op:BinOp} {x y:Operand} {kd:IntKind} {a b:Int} {t t':TypeId} {v:Value} (hx:ev L x = some (.int kd a)) (hy:ev L y = some (.int kd b)) (hv:numV op kd a b = some v) (K:Next→PHeap→Prop) (E:Value→PHeap→Prop) (kk:K (.value v) h):opv P n ⟨d,.binOp op t x y t',ty,pos,af,g⟩ L h K E:=by
  cases op <;> simp only [numV,Option.some.injEq,reduceCtorEq] at hv <;> subst hv <;>
    first|exact o_add hx hy kk | exact o_sub hx hy kk | exact o_mul hx hy kk | exact o_eql hx hy kk | exact o_neq hx hy kk | exact o_lss hx hy kk | exact o_leq hx hy kk | exact o_gtr hx hy kk | exact o_geq hx hy kk
omit hM in
theorem x_pure {op:BinOp} {x y:Operand} {t t':TypeId} {u u' v:Value} (hx:ev L x = some u) (hy:ev L y = some u') (hg:eqGuard op t x y u u' = pure ()) (hv:binOp op t u u' = pure v) (K:Next→PHeap→Prop) (E:Value→PHeap→Prop) (kk:K (.value v) h):opv P n ⟨d,.binOp op t x y t',ty,pos,af,g⟩ L h K E:=
  o_val (s:=fun a=>do eqGuard op t x y (a.eval x) (a.eval y); binOp op t (a.eval x) (a.eval y)) (fun _ _=>rfl) fun a ha=>by
    rw [slp_bind,ha.ev hx,ha.ev hy,hg,slp_pure,hv,slp_pure]; exact kk
omit hM in
theorem x_conv {t t':TypeId} {D:TypeDesc} {k k':IntKind} {x:Operand} {z:Int} (h1:P.underlying t = some D) (h2:P.underlying t' = some (.int k)) (hx:ev L x = some (.int k' z)) (K:Next→PHeap→Prop) (E:Value→PHeap→Prop) (kk:K (.value (.int k (k.wrap z))) h):opv P n ⟨d,.convert t t' x,ty,pos,af,g⟩ L h K E:=
  o_val (s:=fun a=>convert t t' (a.eval x)) (fun _ _=>rfl) fun a ha=>by
    rw [ha.ev hx]
    unfold convert
    rw [slp_bind]
    refine slp_underlying h1 ?_
    rw [slp_bind]
    refine slp_underlying h2 ?_
    exact kk
omit hM in
theorem sizeOf_info {t:TypeId} {k:Nat} (e:∀ w:World,(sizeOf t).run P w = .ok k w):∃ i,P.info? t = some i∧i.size = k:=by
  have:=e default
  cases hi:P.info? t with
  | none=>simp [sizeOf,typeInfo,program,Sem.run,hi,bind,Sem.bind,stuck] at this
  | some i=>
    refine ⟨i,rfl,?_⟩
    simpa [sizeOf,typeInfo,program,Sem.run,hi,bind,Sem.bind,pure] using this
end
end Go.Sl

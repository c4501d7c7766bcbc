/- Calls of functions without a Go body, and of methods of interface values. No program. -/
import Derived.Test.YtcpkcmgjfcbnpaaGreatDoorSmZ
set_option linter.unusedVariables false
set_option linter.unusedSimpArgs false
set_option linter.unusedSectionVars false

namespace Go.Sl
open Go Go.Conc PHeap
class Ext (P:Program) (f:FuncId) (e:outParam (Array Value→Sem Value)):Prop where
  get : ∃ fn, P.funcs[f]? = some fn ∧ (fn.name == "runtime.NumGoroutine") = false ∧ fn.body.isNone = true ∧ Extern.findNext fn = none ∧ Extern.find fn = some e
def MetOf (P:Program) (t:TypeId) (v:Value) (name:String) (f:FuncId) (rv:Value):Prop:=∀ (K:FuncId × Value→PHeap→Prop) (E:Value→PHeap→Prop) (H:PHeap),K (f,rv) H→(method (P.types.size + Made.depth) t v name).slp P K E H
section
variable {P:Program} {M:Jdg→Prop} {n:Nat} {Q:Qf} {L:Locals} {O O' R A:Own} {h:PHeap} {ops:Array Oper} {rest:List Oper}
  {d:Option Nat} {ty:TypeId} {pos:String} {af:Array Edge} {g:Option (Nat × Bool)} {f:FuncId} {args:Array Operand} {ats:Array TypeId} {vs:List Value} {e:Array Value→Sem Value} {K:Next→PHeap→Prop} {E:Value→PHeap→Prop}
theorem slp_callExt {H:PHeap} {args:Array Value} (X:Ext P f e) (x:(e args).slp P (fun v h'=>K (.value v) h') E H):(callFunc f args).slp P K E H:=by
  obtain ⟨fn,h1,h2,h3,h4,h5⟩:=X.get
  simp only [callFunc,program,slp_bind]
  show Sem.slp P K E (match P.funcs[f]? with | none=>_ | some fn=>_) H
  rw [h1]
  simp only [h2,h3,Bool.false_eq_true,if_false,if_true,slp_bind]
  refine ⟨.inl ⟨_,rfl⟩,?_⟩
  rw [h4]
  simp only [slp_bind,slp_pure,h5]
  exact slp_mono (fun v h' y=>y) (fun _ _ y=>y) x
theorem o_ext {H:PHeap} (X:Ext P f e) (hv:evAll L args.toList = some vs) (x:(e vs.toArray).slp P (fun v h'=>K (.value v) h') E H):opv P n ⟨d,.call { callee:=.value (.func f),args,argTypes:=ats },ty,pos,af,g⟩ L H K E:=fun a ha=>by
  have e0:execOp a.eval ⟨d,.call { callee:=.value (.func f),args,argTypes:=ats },ty,pos,af,g⟩ = callFunc f (#[]++args.map a.eval++#[]):=rfl
  have e1:args.map a.eval = vs.toArray:=Array.ext' (by rw [Array.toList_map,evAll_map ha hv])
  rw [e0,e1]
  refine slp_callExt X ?_
  simpa using x
theorem o_invoke {H : PHeap} {ro : Operand} {t : TypeId} {v rv : Value} {name : String} (hr : ev L ro = some (.iface t v)) (hv : evAll L args.toList = some vs) (m : MetOf P t v name f rv)
    (x:(callFunc f (rv :: vs).toArray).slp P K E H):opv P n ⟨d,.call { callee:=.invoke ro name,args,argTypes:=ats },ty,pos,af,g⟩ L H K E:=fun a ha=>by
  have e0:execOp a.eval ⟨d,.call { callee:=.invoke ro name,args,argTypes:=ats },ty,pos,af,g⟩ = invoke (.fn (.method name) #[]) (#[a.eval ro]++args.map a.eval):=rfl
  have e1:args.map a.eval = vs.toArray:=Array.ext' (by rw [Array.toList_map,evAll_map ha hv])
  rw [e0,e1,ha.ev hr]
  have e2:invoke (.fn (.method name) #[]) (#[Value.iface t v]++vs.toArray) = callMethod (.iface t v) name vs.toArray:=by
    unfold invoke
    simp only [List.size_toArray,List.append_toArray,List.cons_append,List.nil_append,List.getElem?_toArray,List.getElem?_cons_zero,List.length_cons]
    congr 1
    apply Array.ext'
    simp
  rw [e2]
  simp only [callMethod,slp_bind,program]
  refine m _ _ _ ?_
  show (callFunc f (#[rv]++vs.toArray)).slp P K E H
  have e3:#[rv]++vs.toArray = (rv :: vs).toArray:=by simp
  rw [e3]; exact x
theorem x_ext (X : Ext P f e) (hv : evAll L args.toList = some vs) (x : ∀ F H, Rel F h O H → (e vs.toArray).slp P (fun v H' => ∃ O', Rel F h O' H' ∧ sfOps P M n ops Q rest (setL d v L) O' h) (fun _ _ => False) H) :
    Do1 P M n ops Q ⟨d,.call { callee:=.value (.func f),args,argTypes:=ats },ty,pos,af,g⟩ rest L O h:=fun F H r=>
  o_ext X hv (slp_mono (fun v H' ⟨O',r',y⟩=>lift.here r' ⟨rfl,y⟩) (fun _ _ y=>y.elim) (x F H r))
theorem q_ext {v : Value} (X : Ext P f e) (hv : evAll L args.toList = some vs) (x : ∀ (K : Value → PHeap → Prop) (E : Value → PHeap → Prop) (H : PHeap), K v H → (e vs.toArray).slp P K E H) :
    Opq P n ⟨d,.call { callee:=.value (.func f),args,argTypes:=ats },ty,pos,af,g⟩ L O h v:=q_of fun H K E k=>o_ext X hv (x _ _ _ k)
theorem q_invokeX {ro : Operand} {t : TypeId} {u v rv : Value} {name : String} (hr : ev L ro = some (.iface t u)) (hv : evAll L args.toList = some vs) (m : MetOf P t u name f rv) (X : Ext P f e)
    (x:∀ (K:Value→PHeap→Prop) (E:Value→PHeap→Prop) (H:PHeap),K v H→(e (rv :: vs).toArray).slp P K E H):Opq P n ⟨d,.call { callee:=.invoke ro name,args,argTypes:=ats },ty,pos,af,g⟩ L O h v:=
  q_of fun H K E k=>o_invoke hr hv m (slp_callExt X (x _ _ _ k))
end
section
open Go.Extern
variable {P:Program} {K:Value→PHeap→Prop} {E:Value→PHeap→Prop} {H:PHeap} {t u:TypeId} {v w:Value} {a p:Addr} {fl bytes size size' bytes':Nat} {zero zero':Value} {D:TypeDesc}
def PartsIs (P:Program) (v:Value) (t:TypeId) (a:Addr) (fl:Nat):Prop:=∀ (K:Option (TypeId × Addr × Nat)→PHeap→Prop) (E:Value→PHeap→Prop) (H:PHeap),K (some (t,a,fl)) H→(ReflectliteValue.parts v).slp P K E H
theorem slp_method {z:Sem Value} {f:TypeId→Addr→Nat→Nat→Sem Value} (hp:PartsIs P v t a fl) (x:(f t a fl (fl % 32)).slp P K E H):(ReflectliteValue.method z f #[v]).slp P K E H:=by
  show (do match ← ReflectliteValue.parts v with | none=>z | some (t,a,fl)=>f t a fl (fl % 32):Sem Value).slp P K E H
  rw [slp_bind]
  exact hp _ _ _ x
theorem cells_one {c:Value} (hc:H.cell a = some c):Cells H a [c]:=fun j v e=>by
  cases j with
  | zero=>simp at e; subst e; simpa [Addr.add] using hc
  | succ j=>simp at e
theorem slp_isNil (T:Ty P t (.pointer u) 1 bytes zero) (hk:fl % 32 = 22) (hp:PartsIs P v t a fl) (hc:H.cell a = some (.pointer (some p))) {z:Sem Value} (x:K (.bool false) H):(ReflectliteValue.method z ReflectliteValue.isNil #[v]).slp P K E H:=by
  refine slp_method hp ?_
  rw [hk]
  show (do match ← loadVar t a with | .chan none | .nilFunc | .nilIface | .map none | .pointer none | .slice none _ _=>pure (.bool true) | _=>pure (.bool false):Sem Value).slp P K E H
  rw [slp_bind]
  exact slp_loadVar T (cs:=[.pointer (some p)]) rfl (fun _=>rfl) (cells_one hc) x
theorem slp_elem (T : Ty P t (.pointer u) 1 bytes zero) (hk : fl % 32 = 22) (hp : PartsIs P v t a fl) (hc : H.cell a = some (.pointer (some p)))
    (he:∀ (K:Option TypeId→PHeap→Prop) (E:Value→PHeap→Prop) (H:PHeap),K (some u) H→(Rtype.elem? t).slp P K E H) (hm:∀ (K:Value→PHeap→Prop) (E:Value→PHeap→Prop) (H:PHeap),K w H→(ReflectliteValue.mk u p ReflectliteValue.flagAddr).slp P K E H) {z:Sem Value} (x:K w H) :
    (ReflectliteValue.method z ReflectliteValue.elem #[v]).slp P K E H:=by
  refine slp_method hp ?_
  rw [hk]
  show (do match 22,← loadVar t a,← Rtype.elem? t with
    | 20,i,_=>ReflectliteValue.unpack i
    | 22,.pointer none,_=>pure ReflectliteValue.zeroV
    | 22,.pointer (some p),some e=>ReflectliteValue.mk e p ReflectliteValue.flagAddr
    | _, _, _ => ReflectliteValue.valueError "reflectlite.Value.Elem" 22 : Sem Value).slp P K E H
  rw [slp_bind]
  refine slp_loadVar T (cs:=[.pointer (some p)]) rfl (fun _=>rfl) (cells_one hc) ?_
  rw [slp_bind]
  refine he _ _ _ ?_
  exact hm _ _ _ x
theorem rls (v x : Value) : ReflectliteValue.set #[v, x] = (do
    let (some (dst,a,fl),some (src,b,_)):=(← ReflectliteValue.parts v,← ReflectliteValue.parts x)
      | unsupported (.noEntry "extern/(internal/reflectlite.Value).Set.zeroValue")
    if fl / ReflectliteValue.flagAddr % 2 == 0 then unsupported (.noEntry "extern/(internal/reflectlite.Value).Set.unaddressable")
    let val ← loadVar src b
    if ← Rtype.directlyAssignable dst src then storeVar dst a val
    else if ← Rtype.implements dst src then
      if (← Rtype.kind src) == 20 then
        match val with
        | .nilIface => unsupported (.noEntry "extern/reflectlite: a nil value of one interface type handed on as a value of another")
        | _=>storeVar dst a val
      else storeVar dst a (.iface src val)
    else panicString ("reflectlite.Set: value of type " ++ (← Rtype.spelt src) ++ " is not assignable to type " ++ (← Rtype.spelt dst))
    pure (.tuple #[])):=rfl
theorem slp_set {x val : Value} {fl2 : Nat} {b : Addr} {ba : Nat} {c : Array Value} {T' : TypeId} (hp : PartsIs P v t ⟨ba, 0, none⟩ fl) (hx : PartsIs P x t b fl2) (hf : (fl / ReflectliteValue.flagAddr % 2 == 0) = false)
    (hl:∀ (K:Value→PHeap→Prop) (E:Value→PHeap→Prop),K val H→(loadVar t b).slp P K E H) (hd:∀ (K:Bool→PHeap→Prop) (E:Value→PHeap→Prop) (H:PHeap),K true H→(Rtype.directlyAssignable t t).slp P K E H)
    (T:Ty P t D size bytes zero) (hs:val.cells.size = size) (ho:H.obj ba = some (.cells c T')) (hw:H.wr ba = true) (hle:val.cells.toList.length ≤ c.size) (h1:allOne val.cells.toList = true)
    (k:K (.tuple #[]) (H.put ba (.cells (setCells c 0 val.cells.toList) T'))):(ReflectliteValue.set #[v,x]).slp P K E H:=by
  rw [rls,slp_bind]
  refine hp _ _ _ ?_
  rw [slp_bind]
  refine hx _ _ _ ?_
  simp only [hf,Bool.false_eq_true,if_false,slp_bind,slp_pure]
  refine hl _ _ ?_
  refine hd _ _ _ ?_
  simp only [if_true,storeVar,slp_bind]
  refine slp_sizeOf T ?_
  rw [if_neg (by simp [hs])]
  refine slp_storeCells val.cells.toList 0 0 c H ho hw (by simpa using hle) (fun u hu=>List.all_eq_true.1 h1 u hu) (.inl (Nat.zero_le _)) ?_
  exact k
end
end Go.Sl

/- The go statement: rule of the walk. No program. -/
import Derived.Test.YtcpkcmgjfcbnpaaGreatDoorSlWk
set_option linter.unusedVariables false
set_option linter.unusedSimpArgs false
set_option linter.unusedSectionVars false

namespace Go.Sl
open Go Go.Conc Go.Conc.Lib Go.ConcR.Gen
open Go.ConcN (WgLive Has)
open Go.ConcR (KK wgBlock WgAt stA smA rd wr)
theorem born_step {P : Program} {f : FuncId} {fn : Func} {c : Code} {vs : List Value} (hf : P.funcs[f]? = some fn) (hb : fn.body = some c) (hn : (fn.name == "runtime.NumGoroutine") = false) (main : Bool) (w : World) :
    stepG P main (born P { target:=.fn (.func f) vs.toArray,args:=#[] }) w = .go (G ((baseD f).at ⟨vs.toArray++Array.replicate (fn.ntmps - vs.toArray.size) undef,[]⟩ [.code c]) [bot P]) w #[]:=by
  have h1 : ¬ fn.name = "runtime.NumGoroutine" := by simpa using hn
  have he:=enter_atD (P:=P) (f:=f) (fn:=fn) (c:=c) vs.toArray hf hb
  rw [← he]
  simp [born,stepG,unwind,callDeferred,invoke,callFunc,hf,h1,hb,seen,GStep.after,G,bot]
  try rfl
section
variable {F:Fk} {n:Nat} {Q:Qt} {L:Locals} {h h':PHeap} {ops:Array Oper} {rest:List Oper} {d:Option Nat} {ty:TypeId} {pos:String} {af:Array Edge} {C:Nat} {v:Value}
theorem l_go {j : Nat} {x : Operand} {f : FuncId} {fn : Func} {c : Code} {vs : List Value} {ats : Array TypeId} {nf : Nat} (hgh : h.gh = [3, j]) (hj : j < 4) (hx : ev L x = some (.func (.func f) #[] vs.toArray)) (hf : F.P.funcs[f]? = some fn) (hb : fn.body = some c) (hn : (fn.name == "runtime.NumGoroutine") = false) (hnt : fn.ntmps = nf) (hle : vs.length ≤ nf)
    (hC:h.obj C = some (.cells #[v] F.it (0,0))) (hCw:h.wr C = true) (hC0:F.h0.obj C = none)
    (hW:∀ tm,Agree nf (argsL 0 vs) tm→JW F j C v (ro h [0]) (G ((baseD f).at ⟨tm,[]⟩ [.code c]) [bot F.P]))
    (k:slList F.P (· = JM F) n ops Q rest (setL d undef L) (delb (ro h [0,j + 1]) C)) (hd:dstOk n d = true:=by rfl) :
    slList F.P (· = JM F) n ops Q (⟨d,.go { callee:=.value x,args:=#[],argTypes:=ats },ty,pos,af,none⟩ :: rest) L h:=
  l_jm (fun b a kk cs i rs ho hk ha hT=>by
    have e1:execOp a.eval ⟨d,.go { callee:=.value x,args:=#[],argTypes:=ats },ty,pos,af,none⟩ = (do pure (.spawn (← Deferred.ofValue (a.eval x) #[]))):=by unfold execOp; simp [resolve]
    rw [ha.ev hx] at e1
    have e2:execOp a.eval ⟨d,.go { callee:=.value x,args:=#[],argTypes:=ats },ty,pos,af,none⟩ = pure (.spawn { target:=.fn (.func f) vs.toArray,args:=#[] }):=by rw [e1]; rfl
    refine jm_go (child:=born F.P { target:=.fn (.func f) vs.toArray,args:=#[] }) rfl hgh hj (fun w=>?_) hC hCw hC0 ?_ hT
    · rw [stepG_spawn (d:={ target:=.fn (.func f) vs.toArray,args:=#[] }) (f:=.func f) (c:=vs.toArray) (w':=w) ho rfl hk (by rw [e2]; rfl) rfl]
      unfold listed
      rw [e2]
      rfl
    · refine quiet (P:=F.P) (M:=(· = JW F j C v)) rfl rfl (fun main w=>born_step hf hb hn main w) (hW _ ?_)
      rw [hnt]; exact agree_args vs hle) hd k
end
end Go.Sl

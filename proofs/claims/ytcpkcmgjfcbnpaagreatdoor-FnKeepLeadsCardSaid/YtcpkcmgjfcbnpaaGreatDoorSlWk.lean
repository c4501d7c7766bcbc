/- A worker's send and its deferred Done; receive and close of goroutine 0 alone: rules of the walk. No program. -/
import Derived.Test.YtcpkcmgjfcbnpaaGreatDoorSlEc
import Derived.Test.YtcpkcmgjfcbnpaaGreatDoorSlRv
import Derived.Conc.TokenWalk
set_option linter.unusedVariables false
set_option linter.unusedSimpArgs false
set_option linter.unusedSectionVars false

namespace Go.Sl
open Go Go.Conc Go.Conc.Lib Go.ConcR.Gen
open Go.ConcN (WgLive Has)
open Go.ConcR (KK wgBlock WgAt stA smA rd wr)
section
variable {F:Fk} {n:Nat} {Q:Qt} {L:Locals} {h h':PHeap} {ops:Array Oper} {rest:List Oper} {d:Option Nat} {ty:TypeId} {pos:String} {af:Array Edge} {i C:Nat} {v:Value}
theorem l_send {x y : Operand} {u : Value} (hgh : h.gh = [0]) (hC : h.obj C = some (.cells #[v] F.it (0, 0))) (hx : ev L x = some (.chan (some F.Ch))) (hy : ev L y = some u) (hR : F.Row i u (delb (ro h [1]) C))
    (k:slList F.P (· = JW F i C v) n ops Q rest (setL d undef L) (delb (ro h [1]) C)) (hd:dstOk n d = true:=by rfl):slList F.P (· = JW F i C v) n ops Q (⟨d,.send x y,ty,pos,af,none⟩ :: rest) L h:=by
  intro l e
  cases l with
  | nil=>cases e
  | cons j l=>
    simp only [List.map_cons,List.cons.injEq] at e
    intro J hJ b kk cs ds tm hb ha he
    subst hJ
    have hfin:(b.at ⟨tm,ds⟩ (.inRegion ops (j :: l) :: kk)).finish undef = b.at ((Act.mk tm ds).put d undef) (.inRegion ops l :: kk):=by rw [Frame.finish_at,e.1]; rfl
    have hds:((Act.mk tm ds).put d undef) = ⟨((Act.mk tm ds).put d undef).tmps,ds⟩:=by cases hx:d <;> rfl
    have e1:execOp (Act.mk tm ds).eval ⟨d,.send x y,ty,pos,af,none⟩ = pure (.comm #[scase F.Ch u (.tuple #[])] true .send):=by
      show (pure (.comm #[{ chan:=(Act.mk tm ds).eval x,send:=some ((Act.mk tm ds).eval y),zero:=.tuple #[] }] true .send):Sem Next) = _
      rw [Agree.ev (a:=⟨tm,ds⟩) ha hx,Agree.ev (a:=⟨tm,ds⟩) ha hy]; rfl
    refine jw_send (x:=u) (zv:=.tuple #[]) (sh:=.send) (g2:=G (b.at ⟨tm,ds⟩ (.inRegion ops (j :: l) :: kk)) cs) rfl hgh hC (fun w=>?_) hR ?_
    · rw [stepG_comm (cases:=#[scase F.Ch u (.tuple #[])]) (blocking:=true) (shape:=.send) (w':=w) e.1 rfl hb (by rw [e1]; rfl)]
      unfold listed
      rw [e1]
      rfl
    · rw [finishComm_send]
      show JW F i C v _ (G ((b.at ⟨tm,ds⟩ (.inRegion ops (j :: l) :: kk)).finish undef) cs)
      rw [hfin,hds]
      refine k l e.2 _ rfl b kk cs ds _ hb (Agree.put (a:=⟨tm,ds⟩) ha (fun i hi=>?_) _) he
      rw [hi] at hd
      exact Nat.le_of_ble_eq_true hd
def bot (P:Program):Frame:={ (default:Frame) with fn:=P.funcs.size,mode:=.panicking [goexitEntry] }
theorem bot_quits {P:Program} {f:FuncId} {fn:Func} (hf:P.funcs[f]? = some fn) (hr:fn.results = #[]) (tm:Array Value) (todo:List Item):QuitsD P 2 0 (G { (baseD f).at ⟨tm,[]⟩ todo with mode:=.returning } [bot P]):=by
  refine QuitsD.ctl (g':=G (bot P) []) rfl (fun w=>?_) ?_
  · simp [G,stepG,unwind,doReturn,results,Frame.at,baseD,bot,hf,hr,seen,GStep.after,goexitEntry]
  refine QuitsD.ctl (g':={ G (bot P) [] with status:=.finished }) rfl (fun w=>?_) ⟨rfl,rfl⟩
  simp [G,stepG,unwind,bot,goexitEntry,Frame.catches]
  try rfl
theorem jw_out {Wl : WgLink} (H : WgLib F.P Wl) (hty : F.ty = Wl.tWg) {f : FuncId} {tm : Array Value} {todo : List Item} {fn : Func} (hf : F.P.funcs[f]? = some fn) (hr : fn.results = #[]) (hgh : h.gh = [1]) :
    JW F i C v h (G { (baseD f).at ⟨tm,[dcall Wl.done #[.pointer (some ⟨F.Wg,0,none⟩)]]⟩ todo with mode:=.returning } [bot F.P]):=by
  refine quiet (P:=F.P) (M:=(· = JW F i C v)) rfl rfl (fun _ _=>stepG_unwind_enter (c:=body_done Wl) rfl H.f_done (nm_done Wl) rfl) ?_
  have e:(#[Value.pointer (some ⟨F.Wg,0,none⟩)]++Array.replicate ((doneFn Wl).ntmps - (#[Value.pointer (some ⟨F.Wg,0,none⟩)]:Array Value).size) undef) = #[Value.pointer (some ⟨F.Wg,0,none⟩),undef,undef,undef]:=rfl
  rw [e]
  refine jw_done rfl hgh fun w hl hh=>⟨23,?_⟩
  rw [hty] at hl ⊢
  letI:=F.pay
  exact Go.ConcN.Gen.doneN H (k:=1) (n:=1) (Low:=0) (qt:=2) rfl (bot_quits hf hr tm todo) w ⟨hl,hh⟩
end
end Go.Sl

/- Channels that are one's own: make, close, receive (goroutine 0 alone). No program. -/
import Derived.Test.YtcpkcmgjfcbnpaaGreatDoorSlRv
import Derived.Test.YtcpkcmgjfcbnpaaGreatDoorLibA
import Derived.Conc.EventLaws
set_option linter.unusedVariables false
set_option linter.unusedSimpArgs false
set_option linter.unusedSectionVars false

namespace Go.Sl
open Go Go.Conc
section
variable {P:Program} {M:Jdg→Prop} [hM:IsCl P M] {n:Nat} {Q:Qo} {L:Locals} {O O':Own} {h:PHeap} {ops:Array Oper} {rest:List Oper} {d:Option Nat} {ty:TypeId} {pos:String} {af:Array Edge} {g:Option (Nat × Bool)} {x:Operand}
  {t e:TypeId} {D D':TypeDesc} {size bytes size' bytes':Nat} {zero zero':Value} {dir:ChanDir}
theorem op_makeChan (T : Ty P t (.chan dir e) size bytes zero) (Te : Ty P e D size' bytes' zero') {k : IntKind} {z : Int} (hx : ev L x = some (.int k z)) (hz : (decide (0 ≤ z) && decide (z ≤ 1000) && Nat.ble bytes' 1000000) = true)
    (kk:∀ b,soOps P M n ops Q rest (setL d (.chan (some b)) L) ((b,.chan z.toNat #[] false 0 0 false) :: O) h) (hd:dstOk n d = true:=by rfl):soOps P M n ops Q (⟨d,.makeChan t x,ty,pos,af,none⟩ :: rest) L O h:=
  so_plain rfl hd fun F H r=>o_val (s:=fun a=>Instr.makeChan t (a.eval x)) (fun _ _=>rfl) fun a ha=>by
    simp only [Bool.and_eq_true,decide_eq_true_eq] at hz
    obtain ⟨⟨hz0,hz1⟩,hz2⟩:=hz
    have hz2':=Nat.le_of_ble_eq_true hz2
    obtain ⟨i,h1,h2,h3,h4⟩:=Te.get
    rw [ha.ev hx]
    simp only [Instr.makeChan,asInt,slp_bind,slp_pure]
    refine slp_underlying T.und ?_
    simp only [slp_bind]
    refine slp_typeInfo h1 ?_
    have hb:(bytes':Int) * z ≤ 1000000 * 1000:=by
      have e1:(bytes':Int) ≤ 1000000:=by omega
      exact Int.le_trans (Int.mul_le_mul_of_nonneg_right e1 hz0) (Int.mul_le_mul_of_nonneg_left hz1 (by omega))
    rw [if_neg (by
      rw [h3]
      have:IntKind.i64.max = 9223372036854775807:=by decide
      rw [this]
      have:(2:Int) ^ 48 - 112 = 281474976710544:=by decide
      rw [this]
      omega)]
    simp only [slp_bind,slp_pure,newObj]
    exact fun b hb=>lift.here (r.alloc hb _) (kk b)
theorem op_close {c : Nat} {args : Array Operand} {ats : Array TypeId} {cap s r : Nat} {buf : Array Value} {tm : Bool} (hx : evAll L args.toList = some [.chan (some c)]) (m : OwnAt O c (.chan cap buf false s r tm)) (w : OwnSet O c (.chan cap buf true s r tm) O')
    (k:soOps P M n ops Q rest (setL d (.tuple #[]) L) O' h) (hd:dstOk n d = true:=by rfl):soOps P M n ops Q (⟨d,.call { callee:=.builtin .close,args,argTypes:=ats },ty,pos,af,none⟩ :: rest) L O h:=
  so_plain rfl hd fun F H rl a ha=>by
    obtain ⟨h1,h2,_⟩:=rl.own _ _ m.mem
    have e1:args.map a.eval = #[.chan (some c)]:=Array.ext' (by rw [Array.toList_map,evAll_map ha hx])
    have e:execOp a.eval ⟨d,.call { callee:=.builtin .close,args,argTypes:=ats },ty,pos,af,none⟩ = (do pure (.value (← Builtin.close_ ats ty (args.map a.eval)))):=rfl
    rw [e,e1,slp_bind,close_some]
    simp only [slp_bind,getObj,setObj]
    refine ⟨_,h1,rfl,?_⟩
    simp only [Bool.false_eq_true,if_false,slp_bind,slp_pure]
    refine ⟨h2,⟨_,h1,rfl⟩,?_⟩
    obtain ⟨pre,o,post,rfl,rfl⟩:=w.at'
    exact lift.here (rl.set _) k
end
section
variable {P:Program} {W:World} {RR:Value→Prop} {n:Nat} {Q:Qo} {L:Locals} {O O':Own} {h:PHeap} {ops:Array Oper} {rest:List Oper} {d:Option Nat} {ty:TypeId} {pos:String} {af:Array Edge} {x:Operand}
  {t e:TypeId} {size bytes size' bytes':Nat} {zero zero':Value} {D:TypeDesc} {dir:ChanDir}
theorem recv_step {a : Act} (T : Ty P t (.chan dir e) size bytes zero) (Te : Ty P e D size' bytes' zero') {ok : Bool} {c : Nat} (ha : a.eval x = .chan (some c)) {b : Frame} {i : Nat} {rs : List Nat} {kk : List Item} {cs : List Frame} (ho : ops[i]? = some ⟨d, .recv t x ok, ty, pos, af, none⟩) (hb : b.kind ≠ .early) (w : World) :
    stepG P true (G (b.at a (.inRegion ops (i :: rs) :: kk)) cs) w = .comm (G (b.at a (.inRegion ops (i :: rs) :: kk)) cs) #[rcase c zero'] true (.recv ok) w #[]:=by
  obtain ⟨inf,h1,h2,h3,h4⟩:=Te.get
  have e1:execOp a.eval ⟨d,.recv t x ok,ty,pos,af,none⟩ = (do
    let .chan _ elem ← underlying t | stuck "receive: channel type expected"
    pure (.comm #[{ chan:=a.eval x,send:=none,zero:=← zeroValue elem }] true (.recv ok))):=rfl
  have hu:=run_underlying (P:=P) (w:=w) T.und
  have hz:(zeroValue e).run P w = .ok zero' w:=by simp [zeroValue,typeInfo,program,Sem.run,h1,bind,Sem.bind,pure,h4]
  have hue:(underlying t).events P w #[] = #[]:=by simp [underlying,program,Sem.events,Sem.runT,T.und,bind,Sem.bind,pure]
  have hze:(zeroValue e).events P w #[] = #[]:=by simp [zeroValue,typeInfo,program,Sem.events,Sem.runT,h1,bind,Sem.bind,pure,h4]
  rw [stepG_comm (cases:=#[rcase c zero']) (blocking:=true) (shape:=.recv ok) (w':=w) ho rfl hb]
  · congr 1
    unfold listed
    rw [e1]
    simp [hu,hue,hz,hze,Result.evThen,seen_none]
  · rw [e1]
    simp [hu,hz,Result.andThen,ha,rcase]
theorem op_recv {ok : Bool} {c cap s r : Nat} {u : Value} {us : List Value} {closed tm : Bool} (T : Ty P t (.chan dir e) size bytes zero) (Te : Ty P e D size' bytes' zero') (hx : ev L x = some (.chan (some c))) (m : OwnAt O c (.chan cap (u :: us).toArray closed s r tm)) (w : OwnSet O c (.chan cap us.toArray closed s (r + 1) tm) O')
    (k:soOps P (· = Lone P W RR) n ops Q rest (setL d (recvd ok u true) L) O' h) (hd:dstOk n d = true:=by rfl):soOps P (· = Lone P W RR) n ops Q (⟨d,.recv t x ok,ty,pos,af,none⟩ :: rest) L O h:=by
  intro F H rl l el J hJ b kk cs ds tm hb ha he
  cases l with
  | nil=>cases el
  | cons i l=>
    simp only [List.map_cons,List.cons.injEq] at el
    subst hJ
    obtain ⟨h1,h2,_⟩:=rl.own _ _ m.mem
    obtain ⟨pre,o,post,rfl,rfl⟩:=w.at'
    have hfin:∀ v,(b.at ⟨tm,ds⟩ (.inRegion ops (i :: l) :: kk)).finish v = b.at ((Act.mk tm ds).put d v) (.inRegion ops l :: kk):=fun v=>by rw [Frame.finish_at,el.1]; rfl
    have hds:∀ v,((Act.mk tm ds).put d v) = ⟨((Act.mk tm ds).put d v).tmps,ds⟩:=fun v=>by cases hx:d <;> rfl
    refine lone_recv rfl (fun w=>recv_step T Te (Agree.ev (a:=⟨tm,ds⟩) ha hx) el.1 hb w) h1 h2 (by simp) ?_
    have e1:(u :: us).toArray.extract 1 (u :: us).toArray.size = us.toArray:=by simp
    have e2:(u :: us).toArray.getD 0 undef = u:=rfl
    rw [e1,e2]
    show Lone P W RR _ (G ((b.at ⟨tm,ds⟩ (.inRegion ops (i :: l) :: kk)).finish _) cs)
    rw [hfin,hds]
    refine k F _ (rl.set _) l el.2 _ rfl b kk cs ds _ hb (Agree.put (a:=⟨tm,ds⟩) ha (fun i hi=>?_) _) he
    rw [hi] at hd
    exact Nat.le_of_ble_eq_true hd
theorem op_shut {ok : Bool} {c cap s r : Nat} {tm : Bool} (T : Ty P t (.chan dir e) size bytes zero) (Te : Ty P e D size' bytes' zero') (hx : ev L x = some (.chan (some c))) (m : OwnAt O c (.chan cap #[] true s r tm)) (w : OwnSet O c (.chan cap #[] true s r tm) O')
    (k:soOps P (· = Lone P W RR) n ops Q rest (setL d (recvd ok zero' false) L) O' h) (hd:dstOk n d = true:=by rfl):soOps P (· = Lone P W RR) n ops Q (⟨d,.recv t x ok,ty,pos,af,none⟩ :: rest) L O h:=by
  intro F H rl l el J hJ b kk cs ds tm hb ha he
  cases l with
  | nil=>cases el
  | cons i l=>
    simp only [List.map_cons,List.cons.injEq] at el
    subst hJ
    obtain ⟨h1,h2,_⟩:=rl.own _ _ m.mem
    obtain ⟨pre,o,post,rfl,rfl⟩:=w.at'
    have hfin:∀ v,(b.at ⟨tm,ds⟩ (.inRegion ops (i :: l) :: kk)).finish v = b.at ((Act.mk tm ds).put d v) (.inRegion ops l :: kk):=fun v=>by rw [Frame.finish_at,el.1]; rfl
    have hds:∀ v,((Act.mk tm ds).put d v) = ⟨((Act.mk tm ds).put d v).tmps,ds⟩:=fun v=>by cases hx:d <;> rfl
    refine lone_shut rfl (fun w=>recv_step T Te (Agree.ev (a:=⟨tm,ds⟩) ha hx) el.1 hb w) h1 h2 ?_
    show Lone P W RR _ (G ((b.at ⟨tm,ds⟩ (.inRegion ops (i :: l) :: kk)).finish _) cs)
    rw [hfin,hds]
    refine k F _ (rl.set _) l el.2 _ rfl b kk cs ds _ hb (Agree.put (a:=⟨tm,ds⟩) ha (fun i hi=>?_) _) he
    rw [hi] at hd
    exact Nat.le_of_ble_eq_true hd
end
end Go.Sl

/- Goroutine 0 alone beside leavers, told over a fixed base: the fork, channels of one's own. No program. -/
import Derived.Test.YtcpkcmgjfcbnpaaGreatDoorSmE
import Derived.Test.YtcpkcmgjfcbnpaaGreatDoorSlSw
import Derived.Test.YtcpkcmgjfcbnpaaGreatDoorSlCh
set_option linter.unusedVariables false
set_option linter.unusedSimpArgs false
set_option linter.unusedSectionVars false

namespace Go.Sl
open Go Go.Conc PHeap
open Go.ConcR (wgBlock)
class Alone (P:Program) (M:Jdg→Prop):Prop where
  is:∃ W RR,M = (· = Lone P W RR)
instance {P:Program} {W:World} {RR:Value→Prop}:Alone P (· = Lone P W RR):=⟨_,_,rfl⟩
section
variable {P:Program} {M:Jdg→Prop} {n:Nat} {Q:Qf} {L L':Locals} {O O' R A B:Own} {h:PHeap} {ops:Array Oper} {rest:List Oper} {o:Oper}
theorem list_mono {Q Q':Qt} {H:PHeap} (x:slList P M n ops Q rest L H) (hq:∀ e L h,Q e L h→Q' e L h):slList P M n ops Q' rest L H:=fun l e J hJ b k cs ds tm hb ha he=>
  x l e J hJ b k cs ds tm hb ha (he.mono hq)
theorem fops_of_so (x:soOps P M n ops (fun e L O _=>Q e L O) rest L O h):sfOps P M n ops Q rest L O h:=fun F H r=>
  list_mono (x F H r) fun e L H ⟨O,h',u,rel,y⟩=>⟨O,rel.low u.le u.gh,y⟩
theorem sops_of_sf (x:sfOps P M n ops Q rest L O h):soOps P M n ops (fun e L O _=>Q e L O) rest L O h:=fun F H r=>
  list_mono (x F H r) fun e L H ⟨O,rel,y⟩=>⟨O,h,Up.refl _ _,rel,y⟩
theorem callsR_of {f:FuncId} {vs:List Value} {v:Value} (x:CallV P M f vs h v):CallsR P M f vs h fun u _=>u = v:=
  CallsP.mono (callsP_of x) (fun u A h' _ ⟨_,y1,y2⟩=>⟨y2,y1⟩) (fun _ _ _ _ ⟨_,y⟩=>y.elim)
end
section
variable {P:Program} {W:World} {RR:Value→Prop} {n:Nat} {Q:Qf} {L:Locals} {O O' R:Own} {h:PHeap} {c c1 c2 c3:Code} {Wg Ch:Nat} {ty it:TypeId} {ops:Array Oper} {rest:List Oper} {d:Nat} {pos:String} {af:Array Edge} {x:Operand}
  {t e tt:TypeId} {D D':TypeDesc} {size bytes size' bytes':Nat} {zero zero':Value} {dir:ChanDir}
theorem sf_fork (RowB : Nat → Value → PHeap → Prop) (hRB : ∀ i v h h', (∀ b o, h.obj b = some o → h'.obj b = some o) → RowB i v h → RowB i v h') (K : Locals → Prop)
    (hp:O.Perm ((Wg,wgBlock ty 0 0) :: (Ch,.chan 4 #[] false 0 0 false) :: R))
    (walk:∀ H0:PHeap,h ≤ H0→(∀ b o,(b,o) ∈ R→H0.obj b = some o)→H0.obj Wg = none→H0.obj Ch = none →
      c1.sl P (· = JM (mkFk P W RR Wg Ch ty it H0 RowB hRB)) n (fun e L1 h1=>match e with
        | .nrm=>c2.sl P (· = JM (mkFk P W RR Wg Ch ty it H0 RowB hRB)) n (fun e L' h'=>match e with | .nrm=>h'.gh = [10]∧(∀ b o,H0.obj b = some o→h'.obj b = some o∧h'.wr b = false)∧K L' | _=>False) L1 h1
        | _=>False) L (ro H0 [0,0]))
    (k:∀ L' h2 (rows:List (Nat × Value)),Le h h2→K L'→(rows.map Prod.fst).Perm [0,1,2,3]→(∀ x ∈ rows,RowB x.1 x.2 h2)→c3.sf P (· = Lone P W RR) n Q L' ((Ch,.chan 4 (rows.map Prod.snd).toArray false 4 0 false) :: R) h2) :
    (Code.seq c1 (Code.seq c2 c3)).sf P (· = Lone P W RR) n Q L O h:=
  sf_of_so (so_fork RowB hRB K hp walk fun L' h2 rows a b c d=>so_of_sf (k L' h2 rows a b c d))
theorem f_makeChan [T : Ty P t (.chan dir e) size bytes zero] [Te : Ty P e D size' bytes' zero'] {k : IntKind} {z : Int} (hx : ev L x = some (.int k z)) (hz : (decide (0 ≤ z) && decide (z ≤ 1000) && Nat.ble bytes' 1000000) = true)
    (kk:∀ b,sfOps P (· = Lone P W RR) n ops Q rest ((d,.chan (some b)) :: L) ((b,.chan z.toNat #[] false 0 0 false) :: O) h) (hd:dstOk n (some d) = true:=by rfl):sfOps P (· = Lone P W RR) n ops Q (⟨some d,.makeChan t x,ty,pos,af,none⟩ :: rest) L O h:=
  fops_of_so (op_makeChan T Te hx hz (fun b=>sops_of_sf (kk b)) hd)
theorem f_close {c : Nat} {args : Array Operand} {ats : Array TypeId} {cap s r : Nat} {buf : Array Value} {tm : Bool} (hx : evAll L args.toList = some [.chan (some c)]) [m : OwnAt O c (.chan cap buf false s r tm)] [w : OwnSet O c (.chan cap buf true s r tm) O']
    (k:sfOps P (· = Lone P W RR) n ops Q rest L O' h):sfOps P (· = Lone P W RR) n ops Q (⟨none,.call { callee:=.builtin .close,args,argTypes:=ats },ty,pos,af,none⟩ :: rest) L O h:=
  fops_of_so (op_close hx m w (sops_of_sf k) rfl)
theorem f_recv {c cap s r : Nat} {u : Value} {us : List Value} {closed tm : Bool} (hx : ev L x = some (.chan (some c))) [T : Ty P t (.chan dir e) size bytes zero] [Te : Ty P e D size' bytes' zero'] [m : OwnAt O c (.chan cap (u :: us).toArray closed s r tm)] [w : OwnSet O c (.chan cap us.toArray closed s (r + 1) tm) O']
    (k:sfOps P (· = Lone P W RR) n ops Q rest ((d,.tuple #[u,.bool true]) :: L) O' h) (hd:dstOk n (some d) = true:=by rfl):sfOps P (· = Lone P W RR) n ops Q (⟨some d,.recv t x true,ty,pos,af,none⟩ :: rest) L O h:=
  fops_of_so (op_recv T Te hx m w (sops_of_sf k) hd)
theorem f_shut {c cap s r : Nat} {tm : Bool} (hx : ev L x = some (.chan (some c))) [T : Ty P t (.chan dir e) size bytes zero] [Te : Ty P e D size' bytes' zero'] [m : OwnAt O c (.chan cap #[] true s r tm)] [w : OwnSet O c (.chan cap #[] true s r tm) O']
    (k:sfOps P (· = Lone P W RR) n ops Q rest ((d,.tuple #[zero',.bool false]) :: L) O' h) (hd:dstOk n (some d) = true:=by rfl):sfOps P (· = Lone P W RR) n ops Q (⟨some d,.recv t x true,ty,pos,af,none⟩ :: rest) L O h:=
  fops_of_so (op_shut T Te hx m w (sops_of_sf k) hd)
end
end Go.Sl

/- Rules for light: slices with room, cutting one's own slices, structs of whole numbers compared. No program. -/
import Derived.Test.YtcpkcmgjfcbnpaaGreatDoorLibB
import Derived.Test.YtcpkcmgjfcbnpaaGreatDoorLibH
set_option linter.unusedVariables false
set_option linter.unusedSimpArgs false
set_option linter.unusedSectionVars false

namespace Go.Sl
open Go Go.Conc PHeap
def visitF:Flat Visit:=⟨3,fun c=>[.int .i64 c.at',.int .i64 c.dir,.int .i64 c.weight],fun _=>rfl⟩
def endF:Flat LEnd:=⟨3,fun c=>[.int .i64 c.kind,.int .i64 c.where',.int .i64 c.weight],fun _=>rfl⟩
def rayF:Flat Ray:=⟨2,fun c=>[.int .i64 c.at',.int .i64 c.dir],fun _=>rfl⟩
structure Beam where
  at':Int
  dir:Int
  weight:Int
  out:Int
deriving Inhabited,DecidableEq
def beamF:Flat Beam:=⟨4,fun c=>[.int .i64 c.at',.int .i64 c.dir,.int .i64 c.weight,.int .i64 c.out],fun _=>rfl⟩
instance {x:Visit}:FlatV visitF x [.int .i64 x.at',.int .i64 x.dir,.int .i64 x.weight]:=⟨rfl⟩
instance {x:LEnd}:FlatV endF x [.int .i64 x.kind,.int .i64 x.where',.int .i64 x.weight]:=⟨rfl⟩
instance {x:Ray}:FlatV rayF x [.int .i64 x.at',.int .i64 x.dir]:=⟨rfl⟩
instance {a b c:Int}:ToFlat visitF [.int .i64 a,.int .i64 b,.int .i64 c] ⟨a,b,c⟩:=⟨rfl⟩
instance {a b c:Int}:ToFlat endF [.int .i64 a,.int .i64 b,.int .i64 c] ⟨a,b,c⟩:=⟨rfl⟩
instance {a b:Int}:ToFlat rayF [.int .i64 a,.int .i64 b] ⟨a,b⟩:=⟨rfl⟩
instance {a b c d:Int}:ToFlat beamF [.int .i64 a,.int .i64 b,.int .i64 c,.int .i64 d] ⟨a,b,c,d⟩:=⟨rfl⟩
instance:FlatOne visitF:=⟨fun _=>rfl⟩
instance:FlatOne endF:=⟨fun _=>rfl⟩
instance:FlatOne rayF:=⟨fun _=>rfl⟩
instance:FlatOne beamF:=⟨fun _=>rfl⟩
theorem Gr.cut {α : Type} {E : Flat α} {A : Own} {v : Value} {T : TypeId} {xs : List α} (gr : Gr A v T E xs) (h0 : 0 < xs.length) : ∃ b cap, v = .slice (some ⟨b, 0, none⟩) xs.length cap ∧ xs.length ≤ cap ∧
    ∀ l,l ≤ xs.length→Gr A (.slice (some ⟨b,0,none⟩) l cap) T E (xs.take l):=by
  rcases gr.at' with ⟨_,rfl,_⟩ | ⟨b,cap,sp,rfl,rfl,h1,h2⟩
  · cases h0
  · refine ⟨b,cap,rfl,h2,fun l hl=>⟨.inr ⟨b,cap,(xs.drop l).flatMap E.f++sp,by simp [Nat.min_eq_left hl],?_,?_,by simp; omega⟩⟩⟩
    · rw [← List.append_assoc,← List.flatMap_append,List.take_append_drop]
    · rw [← List.append_assoc,← List.flatMap_append,List.take_append_drop]; exact h1
section
variable {P:Program} {M:Jdg→Prop} {n:Nat} {Q:Qf} {L:Locals} {O:Own} {h:PHeap} {ops:Array Oper} {rest:List Oper}
  {d:Nat} {ty:TypeId} {pos:String} {af:Array Edge} {g:Option (Nat × Bool)} {x y:Operand}
  {t e:TypeId} {D:TypeDesc} {size bytes size' bytes':Nat} {zero zero':Value} {α:Type} {fl:Flat α} {cs:List Value}
theorem c_make0 {kc : Nat} {x0 : α} (hl : ev L x = some (.int .i64 0)) (hc : ev L y = some (.int .i64 (kc : Int))) [S : Ty P t (.slice e) size' bytes' zero'] [Te : Ty P e D size bytes zero] [F : ElemF P e fl] [zc : CellsOf zero cs] [zf : ToFlat fl cs x0] (hsz : fl.sz = size) (h0 : 0 < size) (hb : bytes * kc ≤ 281474976710656 ∧ kc ≤ 281474976710656)
    {K:Next→Own→PHeap→Prop} {E:Value→Own→PHeap→Prop} (k:∀ v A,Gr A v e fl []→K (.value v) (A++O) h):opo P n ⟨some d,.makeSlice t x y,ty,pos,af,g⟩ L O h K E:=fun F H r=>
  o_val (s:=fun a=>Instr.makeSlice t (a.eval x) (a.eval y)) (fun _ _=>rfl) fun a ha=>by
    rw [ha.ev hl,ha.ev hc]
    have hz:zero.cells.toList = fl.f x0:=by rw [zc.eq,zf.eq]
    obtain ⟨i,h1,h2,h3,h4⟩:=Te.get
    simp only [Instr.makeSlice,asInt,slp_bind,slp_pure]
    refine slp_underlying S.und ?_
    simp only [slp_bind,slp_pure]
    refine slp_typeInfo h1 ?_
    have hw:IntKind.i64.wrap (kc:Int) = kc:=wrap_in (by omega) (by omega)
    have hw0:IntKind.i64.wrap 0 = 0:=wrap_in (by omega) (by omega)
    have h48:(2:Int) ^ 48 = 281474976710656:=by decide
    have hbi:((bytes * kc:Nat):Int) ≤ 281474976710656:=by omega
    have hbi':(bytes:Int) * (kc:Int) ≤ 281474976710656:=by simpa using hbi
    rw [hw,hw0,h3,h48]
    have c1:¬ (kc:Int) < 0:=by omega
    have c2:¬ (bytes:Int) * (kc:Int) > 281474976710656:=by omega
    have c3:¬ (bytes:Int) * 0 > 281474976710656:=by omega
    simp only [c1,c2,c3,decide_false,Bool.or_false,Bool.false_or,gt_iff_lt,Int.lt_irrefl,Bool.false_eq_true,if_false,slp_bind]
    refine slp_askRoom _ ?_
    refine slp_sizeOf Te ?_
    have fin:∀ z:Array Value,(kc = 0 ∨ z = zero.cells)→Sem.slp P (fun a H=>Sem.slp P (fun v H=>lift F h K (Next.value v) H) (lift F h E) (pure (Value.slice (some a) 0 kc)) H) (lift F h E) (newRow e ((Array.range (kc * size)).map fun i=>z[i % z.size]!)) H:=by
      intro z hzz
      simp only [newRow,slp_bind,slp_pure,newObj]
      intro b hb
      refine lift.here (r.alloc hb _) ?_
      have e1:((Array.range (kc * size)).map fun i=>z[i % z.size]!) = (([]:List α).flatMap fl.f++(List.replicate kc x0).flatMap fl.f).toArray:=by
        apply Array.toList_inj.1
        subst hsz
        rcases hzz with rfl | rfl
        · simp
        · rw [rep_cells fl x0 _ hz h0]; simp
      rw [e1]
      exact k _ [(b,_)] ⟨.inr ⟨b,kc,_,by simp,rfl,by rw [List.length_append,flat_length,flat_length]; simp,by simp⟩⟩
    by_cases hk0:kc = 0
    · subst hk0
      simp only [Int.toNat_natCast,Nat.zero_mul,if_true,slp_bind,slp_pure]
      have:=fin #[] (.inl rfl)
      simpa [slp_pure] using this
    · have : ¬ kc * size = 0 := by
        intro hh
        rcases Nat.mul_eq_zero.1 hh with h | h <;> omega
      simp only [Int.toNat_natCast,this,if_false,slp_bind]
      refine slp_zeroValue Te ?_
      rw [slp_pure]
      exact fin _ (.inr rfl)
theorem y_make0 {kc : Nat} {x0 : α} (hl : ev L x = some (.int .i64 0)) (hc : ev L y = some (.int .i64 (kc : Int))) [S : Ty P t (.slice e) size' bytes' zero'] [Te : Ty P e D size bytes zero] [F : ElemF P e fl] [zc : CellsOf zero cs] [zf : ToFlat fl cs x0] (hsz : fl.sz = size) (h0 : 0 < size) (hb : bytes * kc ≤ 281474976710656 ∧ kc ≤ 281474976710656)
    (k:∀ v A,Gr A v e fl []→sfOps P M n ops Q rest ((d,v) :: L) (A++O) h):Do1 P M n ops Q ⟨some d,.makeSlice t x y,ty,pos,af,g⟩ rest L O h:=c_make0 hl hc hsz h0 hb fun v A g=>⟨rfl,k v A g⟩
end
section
variable {P:Program} {t:TypeId}
theorem eqFl_two {α:Type} [DecidableEq α] {E:Flat α} (p q:α→Int) (hE:∀ x,E.f x = [.int .i64 (p x),.int .i64 (q x)]) (hi:∀ a b,p a = p b→q a = q b→a = b) {u:TypeId} {D:TypeDesc} {size bytes b1:Nat} {zero z1:Value} (T:Ty P t D size bytes zero) (U:Ty P u (.int .i64) 1 b1 z1) (c:twoInts P t u = true):EqFl P t E:=by
  have C:=eqFl_cell T U c
  refine ⟨fun a b=>?_,C.grd⟩
  have:=C.eqv ⟨p a,q a⟩ ⟨p b,q b⟩
  rw [hE,hE]
  have e:(decide ((⟨p a,q a⟩:Cell) = ⟨p b,q b⟩)) = decide (a = b):=by
    by_cases h:a = b
    · subst h; simp
    · have h2 : ¬ ((⟨p a, q a⟩ : Cell) = ⟨p b, q b⟩) := fun z => by
        simp only [Cell.mk.injEq] at z
        exact h (hi a b z.1 z.2)
      rw [decide_eq_false h,decide_eq_false h2]
  rw [← e]; exact this
theorem eqFl_ray {u:TypeId} {D:TypeDesc} {size bytes b1:Nat} {zero z1:Value} (T:Ty P t D size bytes zero) (U:Ty P u (.int .i64) 1 b1 z1) (c:twoInts P t u = true):EqFl P t rayF:=
  eqFl_two (fun x=>x.at') (fun x=>x.dir) (fun _=>rfl) (fun a b h1 h2=>by cases a; cases b; simp only at h1 h2; rw [h1,h2]) T U c
variable {n:Nat} {L:Locals} {O:Own} {h:PHeap} {dd:Option Nat} {t' ty:TypeId} {pos:String} {af:Array Edge} {g:Option (Nat × Bool)} {x y:Operand} {α:Type} [DecidableEq α] {E:Flat α} {a b:α}
theorem q_eqS (C:EqFl P t E) (hx:ev L x = some (.agg (E.f a).toArray)) (hy:ev L y = some (.agg (E.f b).toArray)):Opq P n ⟨dd,.binOp .eql t x y t',ty,pos,af,g⟩ L O h (.bool (decide (a = b))):=by
  refine q_of fun H K Ee k=>o_val (s:=fun a=>do eqGuard .eql t x y (a.eval x) (a.eval y); binOp .eql t (a.eval x) (a.eval y)) (fun _ _=>rfl) fun ac ha=>?_
  rw [ha.ev hx,ha.ev hy,slp_bind]
  have eg:∀ (Kk:Unit→PHeap→Prop) (Ee:Value→PHeap→Prop) (H:PHeap),Kk () H→(eqGuard .eql t x y (.agg (E.f a).toArray) (.agg (E.f b).toArray)).slp P Kk Ee H:=fun Kk Ee H z=>by
    show Sem.slp P Kk Ee (if (!P.eqGuardType P.depth t) = true then _ else _) H
    rw [if_pos (by rw [C.grd]; rfl)]
    exact z
  refine eg _ _ _ ?_
  simp only [binOp]
  rw [slp_bind]
  refine C.eqv a b _ _ _ ?_
  rw [slp_pure]; exact k
end
section
variable {P:Program} {M:Jdg→Prop} {n:Nat} {Q:Qf} {L:Locals} {O R A W:Own} {h:PHeap} {ops:List Oper} {dsts:List (Option Nat)} {anc:List (List Nat)} {m:Nat} {π:List (Nat × Bool)} {acc:Acc}
  {d:Option Nat} {ty:TypeId} {pos:String} {af:Array Edge} {g:Option (Nat × Bool)} {i:Nat} {v:Value}
theorem y_callC2 [hM : IsCl P M] {ops : Array Oper} {rest : List Oper} {d : Nat} {fo : Operand} {f : FuncId} {first captured : Array Value} {args : Array Operand} {ats : Array TypeId} {vs : List Value} {RR : Value → Own → Prop} [Fu : Fun P f] (hf : ev L fo = some (.func (.func f) first captured)) (hv : evAll L args.toList = some vs) (C : CallF P M f (first.toList ++ vs ++ captured.toList) A h RR) [sp : Sp O A R] (k : ∀ v A', RR v A' → sfOps P M n ops Q rest ((d, v) :: L) (A' ++ R) h) :
    Do1 P M n ops Q ⟨some d,.call { callee:=.value fo,args,argTypes:=ats },ty,pos,af,g⟩ rest L O h:=y_callC C hf hv k
theorem a_callC {fo : Operand} {f : FuncId} {first captured : Array Value} {args : Array Operand} {ats : Array TypeId} {vs : List Value} {RR : Value → Own → Prop} [Fu : Fun P f] (hi : ops[i]? = some ⟨d, .call { callee := .value fo, args, argTypes := ats }, ty, pos, af, g⟩) (hf' : ev (locA dsts anc acc L i) fo = some (.func (.func f) first captured)) (hv : evAll (locA dsts anc acc L i) args.toList = some vs) (C : CallF P M f (first.toList ++ vs ++ captured.toList) A h RR) [sp : Sp W A R] (hg : GA anc acc i g)
    (k:∀ v A',RR v A'→anyO P M n ops dsts anc m (hf Q) L O ((i,d,v) :: acc) (A'++R) h π):anyO P M n ops dsts anc m (hf Q) L O acc W h ((i,true) :: π):=
  a_c hi hg (fun F H r=>o_callv hf' hv (lift.here r ⟨rfl,rfl,A,R,sp.p,by
    simpa using CallsP.mono (callsP_of C) (fun v A' h' l x=>by obtain ⟨rfl,x⟩:=x; exact k v A' x) (fun _ _ _ _ x=>x.2.elim)⟩))
end
end Go.Sl

/- Rules of a calculus of our own, no program: SmK SmI SmJ. -/
import Derived.Test.YtcpkcmgjfcbnpaaGreatDoorLibH
import Derived.Test.YtcpkcmgjfcbnpaaGreatDoorLibC
set_option linter.unusedVariables false
set_option linter.unusedSimpArgs false
set_option linter.unusedSectionVars false
namespace Go.Sl
open Go Go.Conc PHeap
theorem Sl.upTo {α : Type} {E : Flat α} {h : PHeap} {v : Value} {xs : List α} (s : Sl h v E xs) {l : Nat} (hl : l ≤ xs.length) : ∃ v', Sl h v' E (xs.take l) ∧
    ∀ {P:Program} {n:Nat} {L:Locals} {O:Own} {h0:PHeap} {d:Option Nat} {t ty e:TypeId} {pos:String} {af:Array Edge} {g:Option (Nat × Bool)} {x hi:Operand} {D:TypeDesc} {size bytes size' bytes':Nat} {zero zero':Value},
      Ty P t (.slice e) size' bytes' zero'→Ty P e D size bytes zero→ev L x = some v→ev L hi = some (.int .i64 (l:Int))→Opq P n ⟨d,.slice t x none (some hi) none,ty,pos,af,g⟩ L O h0 v':=by
  rcases s.reads with ⟨a,rfl,rfl⟩ | ⟨cap,e,hc,k⟩
  · obtain rfl:l = 0:=by simpa using hl
    exact ⟨_,by simpa using s,fun S T hx hh=>q_sliceNil S T hx hh⟩
  · refine ⟨.slice (some ⟨vb v,vo v,none⟩) l cap,?_,fun S T hx hh=>q_sliceHi S T (hx.trans (congrArg some e)) hh ⟨hl,hc⟩⟩
    have hs:=s.small
    refine ⟨by simp; omega,.inr ⟨cap,by simp [vb,vo,Nat.min_eq_left hl],by simp; omega,fun i x hx=>?_⟩⟩
    have hi:i < l:=by
      rcases Nat.lt_or_ge i l with y | y
      · exact y
      · rw [List.getElem?_take,if_neg (by omega)] at hx; cases hx
    rw [List.getElem?_take,if_pos hi] at hx
    exact k i x hx
section
variable {P:Program} {n:Nat} {L:Locals} {O:Own} {h:PHeap} {d:Option Nat} {t ty e:TypeId} {pos:String} {af:Array Edge} {g:Option (Nat × Bool)} {x lo hi:Operand} {D:TypeDesc} {size bytes size' bytes':Nat} {zero zero':Value} {b off len cap l u:Nat}
theorem q_sliceLH (S : Ty P t (.slice e) size' bytes' zero') (T : Ty P e D size bytes zero) (hx : ev L x = some (.slice (some ⟨b, off, none⟩) len cap)) (hl : ev L lo = some (.int .i64 (l : Int))) (hu : ev L hi = some (.int .i64 (u : Int))) (hh : l ≤ u ∧ u ≤ len ∧ len ≤ cap) :
    Opq P n ⟨d,.slice t x (some lo) (some hi) none,ty,pos,af,g⟩ L O h (.slice (some ⟨b,if cap = l then off else off + l * size,none⟩) (u - l) (cap - l)):=by
  refine q_of fun K E _ kk=>o_val (s:=fun a=>Instr.sliceAt t (a.eval x) (some (a.eval lo)) (some (a.eval hi)) none) (fun _ _=>rfl) fun a ha=>?_
  rw [ha.ev hx,ha.ev hl,ha.ev hu]
  simp only [Instr.sliceAt,slp_bind]
  refine slp_underlying S.und ?_
  simp only [Instr.slice,slp_bind]
  refine slp_underlying S.und ?_
  have h1:(0:Int) ≤ (u:Int)∧(u:Int) ≤ (cap:Int):=by omega
  have h2:(0:Int) ≤ (l:Int)∧(l:Int) ≤ (u:Int):=by omega
  simp only [Instr.sliceBounds,Instr.sliceBound,asIntOf,slp_bind,slp_pure,Option.isSome_none,Bool.false_eq_true,if_false]
  rw [if_pos h1]
  simp only [slp_pure,slp_bind,Int.toNat_natCast]
  rw [if_pos h2]
  simp only [slp_pure,Int.toNat_natCast]
  refine slp_sizeOf T ?_
  simp only [slp_pure,Option.map_some,add_none]
  by_cases e:cap = l
  · subst e; simpa using kk
  · simpa [e] using kk
end
theorem Sl.mid {α : Type} {E : Flat α} {h : PHeap} {v : Value} {xs : List α} (s : Sl h v E xs) {l u : Nat} (hl : l < u) (hu : u ≤ xs.length) : ∃ v', Sl h v' E ((xs.take u).drop l) ∧
    ∀ {P:Program} {n:Nat} {L:Locals} {O:Own} {h0:PHeap} {d:Option Nat} {t ty e:TypeId} {pos:String} {af:Array Edge} {g:Option (Nat × Bool)} {x lo hi:Operand} {D:TypeDesc} {bytes size' bytes':Nat} {zero zero':Value},
      Ty P t (.slice e) size' bytes' zero'→Ty P e D E.sz bytes zero→ev L x = some v→ev L lo = some (.int .i64 (l:Int))→ev L hi = some (.int .i64 (u:Int))→Opq P n ⟨d,.slice t x (some lo) (some hi) none,ty,pos,af,g⟩ L O h0 v':=by
  rcases s.reads with ⟨a,rfl,rfl⟩ | ⟨cap,e,hc,k⟩
  · simp at hu; omega
  · refine ⟨.slice (some ⟨vb v,if cap = l then vo v else vo v + l * E.sz,none⟩) (u - l) (cap - l),?_,fun S T hx hlo hhi=>q_sliceLH S T (hx.trans (congrArg some e)) hlo hhi ⟨by omega,hu,hc⟩⟩
    have hs:=s.small
    rw [if_neg (by omega)]
    refine ⟨by simp; omega,.inr ⟨cap - l,by simp [vb,vo,Nat.min_eq_left hu],by simp; omega,fun i x hx=>?_⟩⟩
    have hi:l + i < u:=by
      rcases Nat.lt_or_ge (l + i) u with y | y
      · exact y
      · rw [List.getElem?_drop,List.getElem?_take,if_neg (by omega)] at hx; cases hx
    rw [List.getElem?_drop,List.getElem?_take,if_pos hi] at hx
    have:=k (l + i) x hx
    simp only [vo,vb]
    rw [Nat.add_assoc,← Nat.add_mul]
    exact this
section
variable {P:Program} {M:Jdg→Prop} [hM:IsCl P M] {n:Nat} {Q:Qf} {L:Locals} {O R A W:Own} {h:PHeap} {ops:List Oper} {dsts:List (Option Nat)} {anc:List (List Nat)} {m:Nat} {π:List (Nat × Bool)} {acc:Acc}
  {d:Option Nat} {ty:TypeId} {pos:String} {af:Array Edge} {g:Option (Nat × Bool)} {op:Op} {i:Nat} {v:Value}
omit hM in
theorem a_qw (hi:ops[i]? = some ⟨d,op,ty,pos,af,g⟩) (hg:GA anc acc i g) (x:Opq P n ⟨d,op,ty,pos,af,g⟩ (locA dsts anc acc L i) (W++O) h v) (k:anyO P M n ops dsts anc m (hf Q) L O ((i,d,v) :: acc) W h π):anyO P M n ops dsts anc m (hf Q) L O acc W h ((i,true) :: π):=
  a_c hi hg (opo_mono x (fun r O' h' _ y=>by obtain ⟨rfl,rfl,rfl⟩:=y; exact ⟨W,rfl,k⟩) (fun _ _ _ _ y=>y.elim))
omit hM in
theorem Yw (hi:ops[i]? = some ⟨d,op,ty,pos,af,g⟩) (x:Opq P n ⟨d,op,ty,pos,af,g⟩ (locA dsts anc acc L i) (W++O) h v) (k:anyO P M n ops dsts anc m (hf Q) L O ((i,d,v) :: acc) W h π) (hg:GA anc acc i g:=by first|exact .inl rfl | exact .inr ⟨_,_,_,_,rfl,by rfl,by rfl,by first|assumption | exact decide_eq_true (by assumption) | exact decide_eq_false (by assumption) | rfl⟩):anyO P M n ops dsts anc m (hf Q) L O acc W h ((i,true) :: π):=a_qw hi hg x k
omit hM in
theorem a_store {t : TypeId} {D : TypeDesc} {size bytes : Nat} {zero : Value} {x y : Operand} {b off : Nat} {l l' vs : List Value} {T' : TypeId} {W' : Own} (hi : ops[i]? = some ⟨none, .store t x y, ty, pos, af, g⟩) (hx : ev (locA dsts anc acc L i) x = some (.pointer (some ⟨b, off, none⟩))) (hy : ev (locA dsts anc acc L i) y = some v) (hg : GA anc acc i g)
    (k:anyO P M n ops dsts anc m (hf Q) L O ((i,none,undef) :: acc) W' h π) [T:Ty P t D size bytes zero] [ow:OwnAt W b (.cells l.toArray T' (0,0))] [c:CellsOf v vs] [nl:LenR vs size] [ao:AllOne vs] [s:SetR l off vs l'] [w:OwnSet W b (.cells l'.toArray T' (0,0)) W']:anyO P M n ops dsts anc m (hf Q) L O acc W h ((i,true) :: π):=by
  have hv:v.cells.toList = vs:=by rw [c.eq]
  have hl:=nl.len
  refine a_c hi hg (c_store T hx hy (inferInstance:OwnAt (W++O) b (.cells l.toArray T' (0,0))) (by rw [c.eq]; simpa using hl) (by rw [hv]; exact Nat.ble_eq_true_of_le (by simpa using s.le)) (by rw [hv]; exact ao.is) (O':=W'++O) ?_ ⟨W',rfl,k⟩)
  rw [hv,s.set]
  exact (inferInstance:OwnSet (W++O) b (.cells l'.toArray T' (0,0)) (W'++O))
end
theorem lendF {P:Program} {M:Jdg→Prop} {f:FuncId} {vs:List Value} {A:Own} {h:PHeap} {RR:Value→Own→Prop} (B:Own) (x:∀ h',Le h h'→InB h' B→CallF P M f vs A h' RR):CallF P M f vs (B++A) h (fun v A'=>∃ A2,A' = B++A2∧RR v A2):=
  (CallF.lend B x).mono (fun _ _ y=>y) (fun _ _ y=>by obtain ⟨_,_,y⟩:=y; exact y)
theorem lendV {P:Program} {M:Jdg→Prop} {f:FuncId} {vs:List Value} {h:PHeap} {v:Value} (B:Own) (x:∀ h',Le h h'→InB h' B→CallV P M f vs h' v):CallF P M f vs B h (fun v' A'=>v' = v∧A' = B):=CallV.lend B x
section
variable {P:Program} {M:Jdg→Prop} [hM:IsCl P M] {n:Nat} {Q:Qf} {L:Locals} {O R A W:Own} {h:PHeap} {ops:List Oper} {dsts:List (Option Nat)} {anc:List (List Nat)} {m:Nat} {π:List (Nat × Bool)} {acc:Acc}
  {d:Nat} {t ty:TypeId} {pos:String} {af:Array Edge} {g:Option (Nat × Bool)} {D:TypeDesc} {size bytes:Nat} {zero:Value} {l:List Value} {i:Nat}
omit hM in
theorem a_alloc [T:Ty P t D size bytes zero] [c:CellsOf zero l] (hi:ops[i]? = some ⟨some d,.alloc t,ty,pos,af,g⟩) (hg:GA anc acc i g) (k:∀ b,anyO P M n ops dsts anc m (hf Q) L O ((i,some d,.pointer (some ⟨b,0,none⟩)) :: acc) ((b,.cells l.toArray t) :: W) h π):anyO P M n ops dsts anc m (hf Q) L O acc W h ((i,true) :: π):=
  a_c hi hg (c_alloc T fun b=>by rw [c.eq]; exact ⟨(b,.cells l.toArray t) :: W,rfl,k b⟩)
omit hM in
theorem Yl [T:Ty P t D size bytes zero] [c:CellsOf zero l] (k:∀ b,anyO P M n ops dsts anc m (hf Q) L O ((i,some d,.pointer (some ⟨b,0,none⟩)) :: acc) ((b,.cells l.toArray t) :: W) h π) (hi:ops[i]? = some ⟨some d,.alloc t,ty,pos,af,g⟩:=by rfl) (hg:GA anc acc i g:=by first|exact .inl rfl | exact .inr ⟨_,_,_,_,rfl,by rfl,by rfl,by first|assumption | exact decide_eq_true (by assumption) | exact decide_eq_false (by assumption) | rfl⟩):anyO P M n ops dsts anc m (hf Q) L O acc W h ((i,true) :: π):=a_alloc hi hg k
end
end Go.Sl
namespace Go.Sl
end Go.Sl

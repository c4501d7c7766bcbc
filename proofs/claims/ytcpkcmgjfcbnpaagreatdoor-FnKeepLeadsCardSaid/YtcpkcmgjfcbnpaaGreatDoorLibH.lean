/- Rules of a calculus of our own, no program: SmU SmT SmX SmY. -/
import Derived.Test.YtcpkcmgjfcbnpaaGreatDoorSmO
import Derived.Laws.StructEq
set_option linter.unusedVariables false
set_option linter.unusedSimpArgs false
set_option linter.unusedSectionVars false
namespace Go.Sl
open Go Go.Conc PHeap
def u8F:Flat (Fin 256):=⟨1,fun x=>[.int .u8 (x.val:Int)],fun _=>rfl⟩
instance {x:Fin 256}:FlatV u8F x [.int .u8 (x.val:Int)]:=⟨rfl⟩
theorem wrap_u8 (x:Fin 256):IntKind.i64.wrap (x.val:Int) = (x.val:Int):=by
  rw [IntKind.wrap_i64]; have:=x.isLt; omega
section
variable {P:Program} {n:Nat} {L:Locals} {O:Own} {h:PHeap} {d:Option Nat} {t t' ty:TypeId} {pos:String} {af:Array Edge} {g:Option (Nat × Bool)} {x y:Operand} {a b:Int}
instance {size bytes:Nat} {zero:Value} [T:Ty P t (.int .u8) size bytes zero]:OpensF P t u8F:=⟨fun h=>by
  obtain ⟨n,rfl,_,hw⟩:=DataW.trod_int T.und h
  have:0 ≤ n∧n ≤ 255:=by simpa [Lit.wf,IntKind.min,IntKind.max,IntKind.bits,IntKind.signed] using hw
  refine ⟨⟨n.toNat,by omega⟩,?_⟩
  simp only [u8F,Int.toNat_of_nonneg this.1]⟩
end
section
variable {P:Program} {n:Nat} {L:Locals} {O:Own} {h:PHeap} {d:Option Nat} {t ty e:TypeId} {pos:String} {af:Array Edge} {g:Option (Nat × Bool)} {x lo hi:Operand} {D:TypeDesc} {size bytes size' bytes':Nat} {zero zero':Value} {b off len cap l:Nat}
theorem q_sliceLo (S : Ty P t (.slice e) size' bytes' zero') (T : Ty P e D size bytes zero) (hx : ev L x = some (.slice (some ⟨b, off, none⟩) len cap)) (hl : ev L lo = some (.int .i64 (l : Int))) (hh : l ≤ len ∧ len ≤ cap) :
    Opq P n ⟨d,.slice t x (some lo) none none,ty,pos,af,g⟩ L O h (.slice (some ⟨b,if cap = l then off else off + l * size,none⟩) (len - l) (cap - l)):=by
  refine q_of fun K E _ kk=>o_val (s:=fun a=>Instr.sliceAt t (a.eval x) (some (a.eval lo)) none none) (fun _ _=>rfl) fun a ha=>?_
  rw [ha.ev hx,ha.ev hl]
  simp only [Instr.sliceAt,slp_bind]
  refine slp_underlying S.und ?_
  simp only [Instr.slice,slp_bind]
  refine slp_underlying S.und ?_
  have h1:(0:Int) ≤ (l:Int)∧(l:Int) ≤ (len:Int):=by omega
  simp only [Instr.sliceBounds,Instr.sliceBound,asIntOf,slp_bind,slp_pure,Option.isSome_none,Bool.false_eq_true,if_false]
  rw [if_pos h1]
  simp only [slp_pure,Int.toNat_natCast]
  refine slp_sizeOf T ?_
  simp only [slp_pure,Option.map_some,add_none]
  by_cases e:cap = l
  · subst e; simpa using kk
  · simpa [e] using kk
theorem q_sliceHi (S : Ty P t (.slice e) size' bytes' zero') (T : Ty P e D size bytes zero) (hx : ev L x = some (.slice (some ⟨b, off, none⟩) len cap)) (hl : ev L hi = some (.int .i64 (l : Int))) (hh : l ≤ len ∧ len ≤ cap) :
    Opq P n ⟨d,.slice t x none (some hi) none,ty,pos,af,g⟩ L O h (.slice (some ⟨b,off,none⟩) l cap):=by
  refine q_of fun K E _ kk=>o_val (s:=fun a=>Instr.sliceAt t (a.eval x) none (some (a.eval hi)) none) (fun _ _=>rfl) fun a ha=>?_
  rw [ha.ev hx,ha.ev hl]
  simp only [Instr.sliceAt,slp_bind]
  refine slp_underlying S.und ?_
  simp only [Instr.slice,slp_bind]
  refine slp_underlying S.und ?_
  have h1:(0:Int) ≤ (l:Int)∧(l:Int) ≤ (cap:Int):=by omega
  simp only [Instr.sliceBounds,Instr.sliceBound,asIntOf,slp_bind,slp_pure,Option.isSome_none,Bool.false_eq_true,if_false]
  rw [if_pos h1]
  simp only [slp_pure,Int.toNat_natCast]
  refine slp_sizeOf T ?_
  simp only [slp_pure,Option.map_some,add_none,Nat.zero_mul,Nat.add_zero,Nat.sub_zero,ite_self]
  exact kk
theorem Sl.front {α:Type} {E:Flat α} {h:PHeap} {v:Value} {xs:List α} (s:Sl h v E xs) (hl:l ≤ xs.length) (h0:0 < l):∃ cap,v = .slice (some ⟨vb v,vo v,none⟩) xs.length cap∧xs.length ≤ cap∧Sl h (.slice (some ⟨vb v,vo v,none⟩) l cap) E (xs.take l):=by
  have hs:=s.small
  rcases s.reads with ⟨_,_,rfl⟩ | ⟨cap,e,hc,k⟩
  · simp at hl; omega
  · refine ⟨cap,e,hc,⟨by simp; omega,.inr ⟨cap,by simp [vb,vo,Nat.min_eq_left hl],by simp; omega,fun i x hx=>?_⟩⟩⟩
    have hi:i < l:=by
      rcases Nat.lt_or_ge i l with y | y
      · exact y
      · rw [List.getElem?_take,if_neg (by omega)] at hx; cases hx
    rw [List.getElem?_take,if_pos hi] at hx
    exact k i x hx
theorem Gr.rest {α : Type} {E : Flat α} {A : Own} {v : Value} {T : TypeId} {xs : List α} (gr : Gr A v T E xs) (h0 : 0 < xs.length) (hs : xs.length ≤ 281474976710656) : ∃ b cap, v = .slice (some ⟨b, 0, none⟩) xs.length cap ∧ xs.length ≤ cap ∧
    ∀ h',InB h' A→Sl h' (.slice (some ⟨b,if cap = 1 then 0 else 0 + 1 * E.sz,none⟩) (xs.length - 1) (cap - 1)) E xs.tail:=by
  rcases gr.at' with ⟨_,rfl,_⟩ | ⟨b,cap,sp,rfl,rfl,h1,h2⟩
  · cases h0
  · refine ⟨b,cap,rfl,h2,fun h' i=>?_⟩
    have sl:Sl h' (.slice (some ⟨b,0,none⟩) xs.length cap) E xs:=gr.lent hs i
    rcases sl.reads with ⟨_,e,_⟩ | ⟨cap',e,_,k⟩
    · rw [Value.slice.injEq] at e; omega
    · by_cases e1:cap = 1
      · subst e1
        have:xs.length = 1:=by omega
        match xs,this with
        | [x],_=>exact ⟨by simp,.inr ⟨0,by simp [vb,vo],by simp,fun i x hx=>by simp at hx⟩⟩
      · rw [if_neg e1]
        refine ⟨by simp; omega,.inr ⟨cap - 1,by simp [vb,vo],by simp; omega,fun i x hx=>?_⟩⟩
        have:=k (i + 1) x (by simpa using hx)
        simp only [vb,vo] at this ⊢
        rw [show 0 + 1 * E.sz + i * E.sz = 0 + (i + 1) * E.sz by rw [Nat.add_mul]; omega]
        exact this
end
section
variable {P:Program} {n:Nat} {L:Locals} {O:Own} {h:PHeap} {d:Option Nat} {t t' ty e:TypeId} {pos:String} {af:Array Edge} {g:Option (Nat × Bool)} {x y:Operand} {ms:Array (String × TypeId)} {size bytes size' bytes':Nat} {zero zero':Value} {D:TypeDesc} {cap:Nat}
theorem slp_eqI {H : PHeap} {Kk : Value → PHeap → Prop} {Ee : Value → PHeap → Prop} {v : Value} {b : Bool} (hv : (v = .nilIface ∧ b = true) ∨ (∃ u z, v = .iface u z ∧ b = false)) (S : Ty P t (.interface ms) size bytes zero) (x : Operand) :
    (Kk (.bool b) H→(do eqGuard .eql t x (.const .nilIface) v .nilIface; binOp .eql t v .nilIface:Sem Value).slp P Kk Ee H)∧(Kk (.bool !b) H→(do eqGuard .neq t x (.const .nilIface) v .nilIface; binOp .neq t v .nilIface:Sem Value).slp P Kk Ee H):=by
  have e1:Sem.slp P (fun (b':Bool) H'=>b' = b∧H' = H) Ee (Op.equal t v .nilIface) H:=by
    unfold Op.equal Op.maxDepth
    rw [show (10000:Nat) = 9999 + 1 from rfl]
    unfold Op.equalIn
    rw [slp_bind]
    refine slp_underlying S.und ?_
    rcases hv with ⟨rfl,rfl⟩ | ⟨u,z,rfl,rfl⟩ <;> exact ⟨rfl,rfl⟩
  have eg:∀ op,eqGuard op t x (.const .nilIface) v .nilIface = pure ():=fun op=>by
    rcases hv with ⟨rfl,rfl⟩ | ⟨u,z,rfl,rfl⟩ <;> cases op <;> cases x <;> rfl
  have eb:∀ op,(op = .eql ∨ op = .neq)→binOp op t v .nilIface = (if op = .eql then do pure (.bool (← Op.equal t v .nilIface)) else do pure (.bool (!(← Op.equal t v .nilIface)))):=fun op ho=>by
    rcases hv with ⟨rfl,rfl⟩ | ⟨u,z,rfl,rfl⟩ <;> rcases ho with rfl | rfl <;> rfl
  refine ⟨fun k=>?_,fun k=>?_⟩
  · rw [eg,slp_bind,slp_pure,eb _ (.inl rfl),if_pos rfl,slp_bind]
    refine slp_mono ?_ (fun _ _ y=>y) e1
    rintro b' H' ⟨rfl,rfl⟩
    rw [slp_pure]; exact k
  · rw [eg,slp_bind,slp_pure,eb _ (.inr rfl),if_neg (by decide),slp_bind]
    refine slp_mono ?_ (fun _ _ y=>y) e1
    rintro b' H' ⟨rfl,rfl⟩
    rw [slp_pure]; exact k
theorem q_eqI {v:Value} {b:Bool} (hv:(v = .nilIface∧b = true) ∨ (∃ u z,v = .iface u z∧b = false)) (S:Ty P t (.interface ms) size bytes zero) (hx:ev L x = some v):Opq P n ⟨d,.binOp .eql t x (.const .nilIface) t',ty,pos,af,g⟩ L O h (.bool b):=by
  refine q_of fun H K E k=>o_val (s:=fun a=>do eqGuard .eql t x (.const .nilIface) (a.eval x) (a.eval (.const .nilIface)); binOp .eql t (a.eval x) (a.eval (.const .nilIface))) (fun _ _=>rfl) fun a ha=>?_
  rw [ha.ev hx]
  exact (slp_eqI hv S x).1 k
theorem q_neqI {v:Value} {b:Bool} (hv:(v = .nilIface∧b = true) ∨ (∃ u z,v = .iface u z∧b = false)) (S:Ty P t (.interface ms) size bytes zero) (hx:ev L x = some v):Opq P n ⟨d,.binOp .neq t x (.const .nilIface) t',ty,pos,af,g⟩ L O h (.bool !b):=by
  refine q_of fun H K E k=>o_val (s:=fun a=>do eqGuard .neq t x (.const .nilIface) (a.eval x) (a.eval (.const .nilIface)); binOp .neq t (a.eval x) (a.eval (.const .nilIface))) (fun _ _=>rfl) fun a ha=>?_
  rw [ha.ev hx]
  exact (slp_eqI hv S x).2 k
theorem q_sliceNil {hi : Operand} (S : Ty P t (.slice e) size' bytes' zero') (T : Ty P e D size bytes zero) {a : Option Addr} (hx : ev L x = some (.slice a 0 0)) (hl : ev L hi = some (.int .i64 0)) :
    Opq P n ⟨d,.slice t x none (some hi) none,ty,pos,af,g⟩ L O h (.slice a 0 0):=by
  refine q_of fun K E _ kk=>o_val (s:=fun a=>Instr.sliceAt t (a.eval x) none (some (a.eval hi)) none) (fun _ _=>rfl) fun a ha=>?_
  rw [ha.ev hx,ha.ev hl]
  simp only [Instr.sliceAt,slp_bind]
  refine slp_underlying S.und ?_
  simp only [Instr.slice,slp_bind]
  refine slp_underlying S.und ?_
  simp only [Instr.sliceBounds,Instr.sliceBound,asIntOf,slp_bind,slp_pure,Option.isSome_none,Bool.false_eq_true,if_false]
  rw [if_pos (by decide)]
  simp only [slp_pure]
  refine slp_sizeOf T ?_
  cases a <;> simpa [Addr.add] using kk
end
def EqV (P:Program) (d:Nat) (t:TypeId) (v w:Value) (b:Bool):Prop:=∀ (Kk:Bool→PHeap→Prop) (Ee:Value→PHeap→Prop) (H:PHeap),Kk b H→(Op.equalIn d t v w).slp P Kk Ee H
def PartV (P:Program) (t:TypeId) (cs:Array Value) (off:Nat) (v:Value):Prop:=∀ (Kk:Value→PHeap→Prop) (Ee:Value→PHeap→Prop) (H:PHeap),Kk v H→(part t cs off).slp P Kk Ee H
section
variable {P:Program} {d:Nat} {t:TypeId} {xs ys:Array Value}
theorem eqv_int {k:IntKind} {size bytes:Nat} {zero:Value} {a b:Int} (T:Ty P t (.int k) size bytes zero):EqV P (d + 1) t (.int k a) (.int k b) (decide (a = b)):=fun Kk Ee H x=>by
  unfold Op.equalIn
  rw [slp_bind]
  refine slp_underlying T.und ?_
  have:(a == b) = decide (a = b):=by by_cases e:a = b <;> simp [e]
  simp only [if_true,slp_pure,this]
  exact x
def EqFs (P:Program) (d:Nat) (xs ys:Array Value):List Field→Bool→Prop
  | [],b=>b = true
  | f :: fs, b => f.name ≠ "_" ∧ ∃ v w b1 b2, PartV P f.type xs f.offset v ∧ PartV P f.type ys f.offset w ∧ EqV P d f.type v w b1 ∧ EqFs P d xs ys fs b2 ∧ b = (b1 && b2)
theorem eqv_struct {fs:Array Field} {size bytes:Nat} {zero:Value} {b:Bool} (T:Ty P t (.struct fs) size bytes zero) (hp:P.stoodInHeld t = false) (hf:EqFs P d xs ys fs.toList b):EqV P (d + 1) t (.agg xs) (.agg ys) b:=fun Kk Ee H x=>by
  unfold Op.equalIn
  rw [slp_bind]
  refine slp_underlying T.und ?_
  simp only [slp_bind,program]
  show Sem.slp P Kk Ee (if P.stoodInHeld t = true then _ else _) H
  rw [if_neg (by rw [hp]; decide),slp_bind,← Array.forIn_toList]
  clear T hp
  generalize fs.toList = l at hf
  induction l generalizing b with
  | nil=>
    cases hf
    simp only [List.forIn_nil,slp_pure]
    exact x
  | cons f l ih=>
    obtain ⟨hn,v,w,b1,b2,p1,p2,e1,h2,rfl⟩:=hf
    rw [List.forIn_cons,slp_bind,if_pos hn,slp_bind]
    refine p1 _ _ _ ?_
    rw [slp_bind]
    refine p2 _ _ _ ?_
    rw [slp_bind]
    refine e1 _ _ _ ?_
    cases b1 with
    | false=>simpa only [Bool.not_false,if_true,slp_pure,Bool.false_and] using x
    | true=>
      simp only [Bool.not_true,Bool.false_eq_true,if_false,slp_pure]
      exact ih (by simpa using x) h2
theorem partV_of {D:TypeDesc} {size bytes off:Nat} {zero v:Value} (T:Ty P t D size bytes zero) (e:partOfV (aggD D) xs off size = some v):PartV P t xs off v:=fun Kk Ee H x=>by
  obtain ⟨i,h1,h2,h3,h4⟩:=T.get
  exact slp_part h1 h2 T.und rfl e x
def twoInts (P:Program) (t u:TypeId):Bool:=match P.underlying t with
  | some (.struct fs)=>match fs.toList with
    | [f0, f1] => (f0.name != "_") && (f1.name != "_") && Nat.beq f0.offset 0 && Nat.beq f1.offset 1 && Nat.beq f0.type u && Nat.beq f1.type u && !(P.stoodInHeld t) && !(P.eqGuardType P.depth t)
    | _=>false
  | _=>false
class EqFl (P:Program) (t:TypeId) {α:Type} [DecidableEq α] (E:Flat α):Prop where
  eqv:∀ a b,EqV P 10000 t (.agg (E.f a).toArray) (.agg (E.f b).toArray) (decide (a = b))
  grd:P.eqGuardType P.depth t = false
theorem eqFl_cell {u:TypeId} {D:TypeDesc} {size bytes b1:Nat} {zero z1:Value} (T:Ty P t D size bytes zero) (U:Ty P u (.int .i64) 1 b1 z1) (c:twoInts P t u = true):EqFl P t cellF:=by
  unfold twoInts at c
  split at c
  case h_2=>cases c
  rename_i fs ht
  split at c
  case h_2=>cases c
  rename_i f0 f1 hl
  simp only [Bool.and_eq_true,bne_iff_ne,ne_eq,Bool.not_eq_true'] at c
  obtain ⟨⟨⟨⟨⟨⟨⟨c1,c2⟩,c3⟩,c4⟩,c5⟩,c6⟩,c7⟩,c8⟩:=c
  have c3:=Nat.eq_of_beq_eq_true c3
  have c4:=Nat.eq_of_beq_eq_true c4
  have c5:=Nat.eq_of_beq_eq_true c5
  have c6:=Nat.eq_of_beq_eq_true c6
  have eD:D = .struct fs:=Option.some.inj (T.und.symm.trans ht)
  subst eD
  refine ⟨fun a b=>?_,c8⟩
  refine eqv_struct (d:=9999) T c7 ?_
  rw [hl]
  refine ⟨c1,.int .i64 a.kind,.int .i64 b.kind,decide (a.kind = b.kind),decide (a.light = b.light),?_,?_,?_,⟨c2,.int .i64 a.light,.int .i64 b.light,decide (a.light = b.light),true,?_,?_,?_,rfl,by simp⟩,?_⟩
  · rw [c3,c5]; exact partV_of U rfl
  · rw [c3,c5]; exact partV_of U rfl
  · rw [c5]; exact eqv_int U
  · rw [c4,c6]; exact partV_of U rfl
  · rw [c4,c6]; exact partV_of U rfl
  · rw [c6]; exact eqv_int U
  · obtain ⟨k1,l1⟩:=a
    obtain ⟨k2,l2⟩:=b
    by_cases e1:k1 = k2 <;> by_cases e2:l1 = l2 <;> simp [e1,e2]
section
variable {n:Nat} {L:Locals} {O:Own} {h:PHeap} {dd:Option Nat} {t' ty:TypeId} {pos:String} {af:Array Edge} {g:Option (Nat × Bool)} {x y:Operand} {α:Type} [DecidableEq α] {E:Flat α} {a b:α}
theorem q_neqS (C:EqFl P t E) (hx:ev L x = some (.agg (E.f a).toArray)) (hy:ev L y = some (.agg (E.f b).toArray)):Opq P n ⟨dd,.binOp .neq t x y t',ty,pos,af,g⟩ L O h (.bool !(decide (a = b))):=by
  refine q_of fun H K Ee k=>o_val (s:=fun a=>do eqGuard .neq t x y (a.eval x) (a.eval y); binOp .neq t (a.eval x) (a.eval y)) (fun _ _=>rfl) fun ac ha=>?_
  rw [ha.ev hx,ha.ev hy,slp_bind]
  have eg:∀ (Kk:Unit→PHeap→Prop) (Ee:Value→PHeap→Prop) (H:PHeap),Kk () H→(eqGuard .neq t x y (.agg (E.f a).toArray) (.agg (E.f b).toArray)).slp P Kk Ee H:=fun Kk Ee H z=>by
    show Sem.slp P Kk Ee (if (!P.eqGuardType P.depth t) = true then _ else _) H
    rw [if_pos (by rw [C.grd]; rfl)]
    exact z
  refine eg _ _ _ ?_
  simp only [binOp]
  rw [slp_bind]
  refine C.eqv a b _ _ _ ?_
  rw [slp_pure]; exact k
end
end
end Go.Sl

/- Rules of a calculus of our own, no program: SmN SmIs SmBt SmMs. -/
import Derived.Test.YtcpkcmgjfcbnpaaGreatDoorLibH
import Derived.Test.YtcpkcmgjfcbnpaaGreatDoorLibD
import Derived.Test.YtcpkcmgjfcbnpaaGreatDoorLibA
import Derived.Laws.Bits64
import Derived.Test.YtcpkcmgjfcbnpaaGreatDoorSmG
set_option linter.unusedVariables false
set_option linter.unusedSimpArgs false
set_option linter.unusedSectionVars false
namespace Go.Sl
open Go Go.Conc PHeap
def EntsIs (es:List MapEntry) (m:List (Int × Value)):Prop:=es.map (fun e=>(e.key,e.val)) = m.map fun x=>(Value.int .i64 x.1,x.2)
def mGet (m:List (Int × Value)) (k:Int):Option (Nat × Value):=
  match m with
  | []=>none
  | (j,v) :: m=>if k = j then some (0,v) else (mGet m k).map fun x=>(x.1 + 1,x.2)
theorem mGet_lt {m:List (Int × Value)} {k:Int} {i:Nat} {v:Value}:mGet m k = some (i,v)→m[i]? = some (k,v):=by
  induction m generalizing i with
  | nil=>intro e; cases e
  | cons x m ih=>
    obtain ⟨j,u⟩:=x
    intro e
    simp only [mGet] at e
    split at e
    · rename_i hk; cases e; subst hk; rfl
    · cases h:mGet m k with
      | none=>rw [h] at e; cases e
      | some y=>
        obtain ⟨i',v'⟩:=y
        rw [h] at e
        simp only [Option.map_some,Option.some.injEq,Prod.mk.injEq] at e
        obtain ⟨rfl,rfl⟩:=e
        simpa using ih h
theorem findNow_is {kd:TypeDesc} (hk:kd = .int .i64) (k:Int):∀ (es:List MapEntry) (m:List (Int × Value)) (i:Nat),EntsIs es m→Instr.findNow kd (.int .i64 k) es i = some ((mGet m k).map fun x=>(x.1 + i,x.2))
  | [],m,i,h=>by
    cases m with
    | nil=>rfl
    | cons x m=>simp [EntsIs] at h
  | e :: es,m,i,h=>by
    cases m with
    | nil=>simp [EntsIs] at h
    | cons x m=>
      obtain ⟨j,v⟩:=x
      simp only [EntsIs,List.map_cons,List.cons.injEq,Prod.mk.injEq] at h
      obtain ⟨⟨h1,h2⟩,h3⟩:=h
      subst hk
      simp only [Instr.findNow,h1,Instr.sameNow,if_true,mGet]
      by_cases hk:k = j
      · subst hk; simp [h2]
      · have:(k == j) = false:=by simpa using hk
        rw [this]
        simp only [hk,if_false]
        rw [findNow_is rfl k es m (i + 1) h3]
        cases mGet m k with
        | none=>rfl
        | some y=>simp; omega
def MapObj (o:Obj) (m:List (Int × Value)):Prop:=∃ es cl,o = .map es cl∧EntsIs es.toList m
section
variable {P:Program} {M:Jdg→Prop} [hM:IsCl P M] {n:Nat} {Q:Qf} {L L':Locals} {O O' R A B:Own} {h:PHeap} {ops:Array Oper} {rest:List Oper} {o:Oper}
  {d:Nat} {ty:TypeId} {pos:String} {af:Array Edge} {g:Option (Nat × Bool)} {op:Op} {x y z:Operand}
  {t e kt:TypeId} {D D':TypeDesc} {size bytes size' bytes' size'' bytes'':Nat} {zero zero' zero'':Value} {v u:Value} {b:Nat} {m:List (Int × Value)}
omit hM in
theorem y_makeMap (k:∀ b o,MapObj o []→sfOps P M n ops Q rest ((d,.map (some b)) :: L) ((b,o) :: O) h):Do1 P M n ops Q ⟨some d,.makeMap t none,ty,pos,af,g⟩ rest L O h:=fun F H r=>
  o_val (s:=fun a=>Instr.makeMap t none) (fun _ _=>rfl) fun a ha=>by
    simp only [Instr.makeMap,slp_bind,slp_pure,newObj]
    exact fun b hb=>lift.here (r.alloc hb _) ⟨rfl,k b _ ⟨_,_,rfl,rfl⟩⟩
omit hM in
theorem checkKey_int {b:Bool} {k:Int} {K:Unit→PHeap→Prop} {E:Value→PHeap→Prop} {H:PHeap} (T:Ty P kt (.int .i64) size bytes zero) (x:K () H):(Instr.checkKey b 10000 kt (.int .i64 k)).slp P K E H:=by
  rw [show (10000:Nat) = 9999 + 1 from rfl]
  unfold Instr.checkKey
  rw [slp_bind]
  exact slp_underlying T.und x
omit hM in
theorem z_lookup {o : Obj} {k : Int} (hx : ev L x = some (.map (some b))) (hy : ev L y = some (.int .i64 k)) (S : Ty P t (.map kt e) size' bytes' zero') (Tk : Ty P kt (.int .i64) size bytes zero) (Te : Ty P e D size'' bytes'' zero'') (hm : (b, o) ∈ O) (ho : MapObj o m) :
    Opq P n ⟨some d,.lookup t x y false,ty,pos,af,g⟩ L O h (match mGet m k with | some z=>z.2 | none=>zero''):=by
  intro F H r
  refine o_val (s:=fun a=>Instr.lookup t (a.eval x) (a.eval y) false) (fun _ _=>rfl) fun a ha=>?_
  obtain ⟨es,cl,rfl,he⟩:=ho
  obtain ⟨h1,_⟩:=r.own _ _ hm
  rw [ha.ev hx,ha.ev hy]
  simp only [Instr.lookup,slp_bind]
  refine slp_underlying S.und ?_
  simp only [slp_bind,getObj]
  refine ⟨_,h1,rfl,?_⟩
  simp only [slp_bind,slp_pure,slp_pure']
  refine checkKey_int Tk ?_
  unfold Instr.findKey
  simp only [slp_bind]
  refine slp_underlying Tk.und ?_
  rw [findNow_is rfl k _ _ 0 he]
  have key:∀ u,(match mGet m k with | some z=>z.2 | none=>zero'') = u→lift F h (fun r O' h'=>r = Next.value (match mGet m k with | some z=>z.2 | none=>zero'')∧O' = O∧h' = h) (Next.value u) H:=fun u e=>lift.here r ⟨by rw [e],rfl,rfl⟩
  cases hg:mGet m k with
  | none=>
    rw [hg] at key
    show Sem.slp P _ _ (zeroValue e >>= _) H
    rw [slp_bind]
    exact slp_zeroValue Te (key _ rfl)
  | some w=>
    rw [hg] at key
    exact key _ rfl
omit hM in
theorem z_lookup2 {o : Obj} {k : Int} (hx : ev L x = some (.map (some b))) (hy : ev L y = some (.int .i64 k)) (S : Ty P t (.map kt e) size' bytes' zero') (Tk : Ty P kt (.int .i64) size bytes zero) (Te : Ty P e D size'' bytes'' zero'') (hm : (b, o) ∈ O) (ho : MapObj o m) :
    Opq P n ⟨some d,.lookup t x y true,ty,pos,af,g⟩ L O h (match mGet m k with | some z=>.tuple #[z.2,.bool true] | none=>.tuple #[zero'',.bool false]):=by
  intro F H r
  refine o_val (s:=fun a=>Instr.lookup t (a.eval x) (a.eval y) true) (fun _ _=>rfl) fun a ha=>?_
  obtain ⟨es,cl,rfl,he⟩:=ho
  obtain ⟨h1,_⟩:=r.own _ _ hm
  rw [ha.ev hx,ha.ev hy]
  simp only [Instr.lookup,slp_bind]
  refine slp_underlying S.und ?_
  simp only [slp_bind,getObj]
  refine ⟨_,h1,rfl,?_⟩
  simp only [slp_bind,slp_pure,slp_pure']
  refine checkKey_int Tk ?_
  unfold Instr.findKey
  simp only [slp_bind]
  refine slp_underlying Tk.und ?_
  rw [findNow_is rfl k _ _ 0 he]
  have key:∀ u,(match mGet m k with | some z=>.tuple #[z.2,.bool true] | none=>.tuple #[zero'',.bool false]) = u→lift F h (fun r O' h'=>r = Next.value (match mGet m k with | some z=>.tuple #[z.2,.bool true] | none=>.tuple #[zero'',.bool false])∧O' = O∧h' = h) (Next.value u) H:=fun u e=>lift.here r ⟨by rw [e],rfl,rfl⟩
  cases hg:mGet m k with
  | none=>
    rw [hg] at key
    show Sem.slp P _ _ (zeroValue e >>= _) H
    rw [slp_bind]
    exact slp_zeroValue Te (key _ rfl)
  | some w=>
    rw [hg] at key
    exact key _ rfl
def mSet (m:List (Int × Value)) (k:Int) (v:Value):List (Int × Value):=match mGet m k with
  | some (i,_)=>m.set i (k,v)
  | none=>m++[(k,v)]
omit hM in
theorem y_mapUpdate {o : Obj} {k : Int} (hx : ev L x = some (.map (some b))) (hy : ev L y = some (.int .i64 k)) (hz : ev L z = some v) (S : Ty P t (.map kt e) size' bytes' zero') (Tk : Ty P kt (.int .i64) size bytes zero) [sp : Sp O [(b, o)] R] (ho : MapObj o m)
    (kk:∀ o',MapObj o' (mSet m k v)→sfOps P M n ops Q rest L ((b,o') :: R) h):Do1 P M n ops Q ⟨none,.mapUpdate t x y z,ty,pos,af,g⟩ rest L O h:=by
  intro F H r0
  have r:Rel F h ([]++(b,o) :: R) H:=r0.perm (by simpa using sp.p.symm)
  intro a ha
  obtain ⟨es,cl,rfl,he⟩:=ho
  obtain ⟨h1,h2,_⟩:=r.own b (.map es cl) (by simp)
  have ex:execOp a.eval ⟨none,.mapUpdate t x y z,ty,pos,af,g⟩ = (do Instr.mapUpdate t (a.eval x) (a.eval y) (a.eval z); pure .skip):=rfl
  rw [ex,ha.ev hx,ha.ev hy,ha.ev hz,slp_bind]
  simp only [Instr.mapUpdate,slp_bind]
  refine slp_underlying S.und ?_
  simp only [slp_bind,getObj]
  refine ⟨_,h1,rfl,?_⟩
  simp only [slp_bind,slp_pure,slp_pure']
  refine checkKey_int Tk ?_
  unfold Instr.findKey
  simp only [slp_bind]
  refine slp_underlying Tk.und ?_
  rw [findNow_is rfl k _ _ 0 he]
  cases hg:mGet m k with
  | none=>
    simp only [Option.map_none,slp_pure,slp_bind,setObj]
    refine ⟨h2,⟨_,h1,rfl⟩,?_⟩
    refine lift.here (r.set _) ⟨rfl,kk _ ⟨_,_,rfl,?_⟩⟩
    have he':=he
    unfold EntsIs at he' ⊢
    simp only [mSet,hg,Array.toList_push,List.map_append,he']
    rfl
  | some w=>
    obtain ⟨i,w⟩:=w
    simp only [Option.map_some,slp_pure,slp_bind]
    have hm:=mGet_lt hg
    have hk:((es[0 + i]?).map (·.key)).getD (.int .i64 k) = .int .i64 k:=by
      have:=congrArg (fun l=>l[i]?) he
      simp only [List.getElem?_map,hm,Option.map_some,Array.getElem?_toList] at this
      cases hq:es[i]? with
      | none=>rw [hq] at this; cases this
      | some q=>rw [hq] at this; simp at this; simp [hq,this]
    rw [show i + 0 = 0 + i from by omega,hk]
    have hs:Instr.sameBits 10000 (.int .i64 k) (.int .i64 k) = true:=by
      rw [show (10000:Nat) = 9999 + 1 from rfl]
      simp [Instr.sameBits]
    unfold Instr.keyThatStays
    rw [hs]
    simp only [if_true,slp_pure,slp_bind,setObj]
    refine ⟨h2,⟨_,h1,rfl⟩,?_⟩
    refine lift.here (r.set _) ⟨rfl,kk _ ⟨_,_,rfl,?_⟩⟩
    unfold EntsIs at he ⊢
    simp only [mSet,hg,Array.toList_modify,Nat.zero_add]
    rw [List.map_set,← he]
    apply List.ext_getElem?
    intro j
    simp only [List.getElem?_modify,List.getElem?_map,List.getElem?_set,List.length_map]
    by_cases hj:i = j
    · subst hj
      have hl:i < es.toList.length:=by
        have:=congrArg List.length he
        simp only [List.length_map] at this
        rw [this]; exact (List.getElem?_eq_some_iff.1 hm).1
      have hl':i < es.size:=by simpa using hl
      simp [hl',Array.getElem?_eq_getElem hl']
    · simp [hj]
theorem gt_set_ne {α:Type} [Inhabited α] {xs:List α} {j i:Nat} {z:α} (h:j ≠ i):gt (xs.set j z) i = gt xs i:=by
  simp [gt,List.getElem?_set,h]
theorem Gr.shape {α:Type} {E:Flat α} {A:Own} {v:Value} {T:TypeId} {xs:List α} (gr:Gr A v T E xs) (h0:0 < xs.length):∃ b cap,v = .slice (some ⟨b,0,none⟩) xs.length cap∧xs.length ≤ cap:=by
  rcases gr.at' with ⟨_,rfl,_⟩ | ⟨b,cap,sp,rfl,rfl,h1,h2⟩
  · cases h0
  · exact ⟨b,cap,rfl,h2⟩
omit hM in
theorem z_indexT {i : Operand} {off len cap k : Nat} {z : Int} (hx : ev L x = some (.slice (some ⟨b, off, none⟩) len cap)) (hi : ev L i = some (.int .i64 z)) (v : Value) (hv : vb v = b ∧ vo v = 0) (ho : off = k * size) (h0 : 0 ≤ z) (h1 : z < len) (S : Ty P t (.slice e) size' bytes' zero') (T : Ty P e D size bytes zero) :
    Opq P n ⟨some d,.indexAddr t x i,ty,pos,af,g⟩ L O h (.pointer (some ⟨vb v,vo v + (k + z.toNat) * size + 0,none⟩)):=by
  have:=q_indexV (P:=P) (n:=n) (O:=O) (h:=h) (d:=some d) (ty:=ty) (pos:=pos) (af:=af) (g:=g) S T hx hi h0 h1
  rw [hv.1,hv.2,show 0 + (k + z.toNat) * size + 0 = off + z.toNat * size by rw [ho,Nat.add_mul]; omega]
  exact this
omit hM in
theorem y_clearT {α : Type} {fl : Flat α} {xs : List α} {x0 : α} {T' : TypeId} {cs : List Value} {d : Option Nat} {args : Array Operand} {ats : Array TypeId} {tl : List TypeId} {off ln cp k : Nat} (hv : evAll L args.toList = some [.slice (some ⟨b, off, none⟩) ln cp]) (ht : ats.toList = t :: tl)
    (gr:Gr A v T' fl xs) (hvv:vb v = b∧vo v = 0) (ho:off = k * size) (hk:k < xs.length) (hl:ln = xs.length - k) (S:Ty P t (.slice e) size' bytes' zero') (Te:Ty P e D size bytes zero) (zc:CellsOf zero cs) (zf:ToFlat fl cs x0) (one:allOne (fl.f x0) = true) (hsz:fl.sz = size) (h0:0 < size) [sp:Sp O A R]
    (kk:∀ A',Gr A' v T' fl (xs.take k++List.replicate (xs.length - k) x0)→sfOps P M n ops Q rest (setL d (.tuple #[]) L) (A'++R) h):Do1 P M n ops Q ⟨d,.call { callee:=.builtin .clear,args,argTypes:=ats },ty,pos,af,g⟩ rest L O h:=by
  intro F H r0
  have r1:Rel F h (A++R) H:=r0.perm sp.p.symm
  rcases gr.at' with ⟨rfl,rfl,rfl⟩ | ⟨b',cap,spr,rfl,rfl,h1,h2⟩
  · cases hk
  simp only [vb,vo] at hvv
  obtain ⟨rfl,_⟩:=hvv
  have r:Rel F h ([]++(b',.cells (xs.flatMap fl.f++spr).toArray T') :: R) H:=r1
  obtain ⟨o1,o2,_⟩:=r.own b' (.cells (xs.flatMap fl.f++spr).toArray T') (by simp)
  have hln:∃ m,ln = m + 1:=⟨ln - 1,by omega⟩
  obtain ⟨m,hm⟩:=hln
  have ht0:ats[0]? = some t:=by rw [← Array.getElem?_toList,ht]; rfl
  subst hsz
  refine o_builtin (s:=Builtin.clear_ ats ty [Value.slice (some ⟨b',off,none⟩) ln cp].toArray) hv (fun _=>rfl) ?_
  unfold Builtin.clear_
  simp only [ht0,List.getElem?_toArray,List.getElem?_cons_zero,slp_bind]
  refine slp_underlying S.und ?_
  rw [hm]
  simp only [slp_bind]
  refine slp_zeroValue Te ?_
  have hz:(Builtin.zeroCells zero.cells (m + 1)).toList = (List.replicate (xs.length - k) x0).flatMap fl.f:=by
    have e0:zero.cells.toList = fl.f x0:=by rw [zc.eq]; exact zf.eq.symm
    have es:zero.cells.size = fl.sz:=by rw [← Array.length_toList,e0,fl.len]
    unfold Builtin.zeroCells
    rw [es]
    have:=rep_cells fl x0 zero.cells e0 h0 (m + 1)
    rw [es] at this
    rw [this,← hm,hl]
  rw [hz]
  have hlen:((List.replicate (xs.length - k) x0).flatMap fl.f).length = (xs.length - k) * fl.sz:=by rw [flat_length]; simp
  have hkz:k * fl.sz + (xs.length - k) * fl.sz = xs.length * fl.sz:=by rw [← Nat.add_mul]; congr 1; omega
  have hxl:(xs.flatMap fl.f).length = xs.length * fl.sz:=flat_length _ _
  refine slp_storeCells _ off 0 _ H o1 o2 (by simp only [List.size_toArray,List.length_append]; rw [hlen,hxl,ho]; omega) (fun u hu=>?_) (.inl (Nat.zero_le _)) ?_
  · obtain ⟨y,hy,hu2⟩:=List.mem_flatMap.1 hu
    rw [(List.mem_replicate.1 hy).2] at hu2
    exact List.all_eq_true.1 one u hu2
  · have e : setCells (xs.flatMap fl.f ++ spr).toArray (off + 0) ((List.replicate (xs.length - k) x0).flatMap fl.f) = ((xs.take k ++ List.replicate (xs.length - k) x0).flatMap fl.f ++ spr).toArray := by
      apply Array.toList_inj.1
      rw [setCells_toList _ _ _ (by simp only [List.size_toArray,List.length_append]; rw [hlen,hxl,ho]; omega)]
      simp only [Nat.add_zero]
      rw [hlen,ho,hkz]
      have t1:(xs.flatMap fl.f++spr).take (k * fl.sz) = (xs.take k).flatMap fl.f:=by
        conv=>lhs; rw [← List.take_append_drop k xs,List.flatMap_append,List.append_assoc]
        rw [List.take_left' (by rw [flat_length,List.length_take,Nat.min_eq_left (by omega)])]
      have t2:(xs.flatMap fl.f++spr).drop (xs.length * fl.sz) = spr:=by
        rw [List.drop_left' hxl]
      rw [t1,t2,List.flatMap_append]
    rw [e]
    simp only [slp_bind,slp_pure]
    refine lift.here (r.set _) ⟨rfl,kk [(b',_)] ⟨.inr ⟨b',cap,spr,by simp; omega,rfl,?_,by simp; omega⟩⟩⟩
    rw [← h1]
    simp only [List.length_append,flat_length,List.length_take,List.length_replicate]
    rw [Nat.min_eq_left (by omega)]
    congr 2; omega
omit hM in
theorem z_indexGI {i : Operand} {z : Int} {T' : TypeId} {α : Type} {fl : Flat α} {xs : List α} (hx : ev L x = some v) (hi : ev L i = some (.int .i64 z)) (gr : Gr A v T' fl xs) (h0 : 0 ≤ z) (hk : z < xs.length) [S : Ty P t (.slice e) size' bytes' zero'] [T : Ty P e D size bytes zero] :
    Opq P n ⟨some d,.indexAddr t x i,ty,pos,af,g⟩ L O h (.pointer (some ⟨vb v,vo v + z.toNat * size + 0,none⟩)):=by
  rcases gr.at' with ⟨rfl,rfl,rfl⟩ | ⟨b,cap,sp,rfl,rfl,h1,h2⟩
  · simp at hk; omega
  · exact q_indexV S T hx hi h0 (by omega)
end
theorem Wi {G G' : Prop} (k : G') (h : Hole G' → G := by
    (intro x
     repeat first
      | (refine fp ?_
         first
          | refine Rq ?_ oq
          | refine y_store ?_ (by rfl) (by rfl)
          | refine Rq ?_ (z_indexGI (by rfl) (by rfl) (by assumption) (by omega) (by omega)))
      | refine y_gF (by rfl) (by rfl) (by first|assumption | exact decide_eq_true (by assumption) | exact decide_eq_false (by assumption) | rfl) ?_
      | refine y_gU (by rfl) (by rfl) ?_
      | refine sf_seq (sf_reg ?_)
      | refine sf_nil ?_
      | refine sf_skip ?_
      | refine sf_reg ?_
      | refine sf_block ?_
      | refine sf_seq ?_
     exact x.out)):G:=h ⟨k⟩
theorem Di {G G' : Prop} (k : G') (h : Hole G' → G := by
    (intro x
     repeat first
      | refine aq (by rfl) (by first|exact .inl rfl | exact .inr ⟨_,_,_,_,rfl,by rfl,by rfl,by first|assumption | exact decide_eq_true (by assumption) | exact decide_eq_false (by assumption) | rfl⟩) (fun X h' [_]=>oq) ?_
      | refine agF (by rfl) (by rfl) (by rfl) (by first|assumption | exact decide_eq_true (by assumption) | exact decide_eq_false (by assumption) | rfl) ?_
      | refine agU (by rfl) (by rfl) (by rfl) ?_
      | refine aq (by rfl) (by first|exact .inl rfl | exact .inr ⟨_,_,_,_,rfl,by rfl,by rfl,by first|assumption | exact decide_eq_true (by assumption) | exact decide_eq_false (by assumption) | rfl⟩) (fun X h' [_]=>z_indexGI (by rfl) (by rfl) (by assumption) (by omega) (by omega)) ?_
     exact x.out)):G:=h ⟨k⟩
structure Lat (G:Prop):Prop where
  out:G
theorem viaT {A G:Prop} (h:Lat G→A) (t:G):A:=h ⟨t⟩
section
variable {P:Program} {n:Nat} {L L':Locals} {O O' R A B:Own} {h:PHeap} {ops:Array Oper} {rest:List Oper} {o:Oper}
  {d:Nat} {ty:TypeId} {pos:String} {af:Array Edge} {g:Option (Nat × Bool)} {op:Op} {x y:Operand}
  {t e:TypeId} {D D':TypeDesc} {size bytes size' bytes':Nat} {zero zero':Value} {α:Type} {fl:Flat α} {v u:Value} {l l' vs cs:List Value} {b off:Nat} {T':TypeId} {fr:Nat × Nat} {xs ys:List α}
theorem c_storeG [Inhabited α] {j sz : Nat} {z : α} (hx : ev L x = some (.pointer (some ⟨vb v, vo v + j * sz + off, none⟩))) (hy : ev L y = some u) [T : Ty P t D size bytes zero] (gr : Gr A v T' fl xs) (hj : j < xs.length) (hz : fl.sz = sz) [sp : Sp O A R] [f : FlatV fl (gt xs j) l] [c : CellsOf u vs] [nl : LenR vs size] [ao : AllOne vs] [s : SetR l off vs l'] [tf : ToFlat fl l' z]
    {K:Next→Own→PHeap→Prop} {E:Value→Own→PHeap→Prop} (k:∀ A' ys,ys = xs.set j z→ys.length = xs.length→FlatV fl (gt ys j) l'→Gr A' v T' fl ys→K .skip (A'++R) h):opo P n ⟨none,.store t x y,ty,pos,af,g⟩ L O h K E:=by
  obtain ⟨b,cap,spr,rfl,rfl,h1,h2⟩:=gr.at hj
  subst hz
  have hv:u.cells.toList = vs:=by rw [c.eq]
  obtain ⟨a1,a2⟩:=flat_set fl (off:=off) (vs:=vs) (y:=z) (sp:=spr) (get_gt hj) (by rw [f.eq,tf.eq]; exact s)
  intro F H r
  have r':Rel F h ([]++(b,.cells (xs.flatMap fl.f++spr).toArray T') :: R) H:=r.perm sp.p.symm
  obtain ⟨o1,o2,_⟩:=r'.own b (.cells (xs.flatMap fl.f++spr).toArray T') (by simp)
  refine o_store (off:=j * fl.sz + off) (c:=(xs.flatMap fl.f++spr).toArray) (T':=T') (by rw [hx]; simp [vb,vo]) hy o1 o2 (by rw [c.eq]; simpa using nl.len) (by rw [hv]; simpa using a2) (by rw [hv]; exact ao.is) ?_
  refine lift.here (r'.set _) ?_
  rw [hv]
  have e:setCells (xs.flatMap fl.f++spr).toArray (j * fl.sz + off) vs = ((xs.set j z).flatMap fl.f++spr).toArray:=by
    apply Array.toList_inj.1
    rw [setCells_toList _ _ _ (by simpa using a2)]
    simpa using a1
  rw [e]
  exact k [(b,_)] _ rfl (by simp) ⟨by rw [gt_set hj]; exact tf.eq⟩ ⟨.inr ⟨b,cap,spr,by simp,rfl,by rw [List.length_append,flat_length] at h1 ⊢; simpa using h1,by simpa using h2⟩⟩
theorem c_storeG0 [Inhabited α] {j sz : Nat} {z : α} (hx : ev L x = some (.pointer (some ⟨vb v, vo v + j * sz + 0, none⟩))) (hy : ev L y = some u) [T : Ty P t D size bytes zero] (gr : Gr A v T' fl xs) (hj : j < xs.length) (hz : fl.sz = sz) [sp : Sp O A R] [c : CellsOf u vs] [nl : LenR vs size] [ao : AllOne vs] [tf : ToFlat fl vs z]
    {K:Next→Own→PHeap→Prop} {E:Value→Own→PHeap→Prop} (k:∀ A' ys,ys = xs.set j z→ys.length = xs.length→FlatV fl (gt ys j) vs→Gr A' v T' fl ys→K .skip (A'++R) h):opo P n ⟨none,.store t x y,ty,pos,af,g⟩ L O h K E:=by
  haveI:FlatV fl (gt xs j) (fl.f (gt xs j)):=⟨rfl⟩
  haveI:SetR (fl.f (gt xs j)) 0 vs vs:=⟨by rw [fl.len,← tf.eq,fl.len]; omega,by simp; rw [fl.len,← tf.eq,fl.len]; omega⟩
  exact c_storeG (off:=0) (l':=vs) (sz:=sz) hx hy gr hj hz k
end
section
variable {P:Program} {M:Jdg→Prop} [hM:IsCl P M] {n:Nat} {Q:Qf} {L:Locals} {O R A W:Own} {h:PHeap} {ops:List Oper} {dsts:List (Option Nat)} {anc:List (List Nat)} {m:Nat} {π:List (Nat × Bool)} {acc:Acc}
  {ty t:TypeId} {pos:String} {af:Array Edge} {g:Option (Nat × Bool)} {i:Nat} {v u:Value} {D:TypeDesc} {size bytes:Nat} {zero:Value} {α:Type} {fl:Flat α} {xs:List α} {vs:List Value} {T':TypeId} {x y:Operand}
omit hM in
theorem a_storeG0 [Inhabited α] {j sz : Nat} {z : α} (hi : ops[i]? = some ⟨none, .store t x y, ty, pos, af, g⟩) (hx : ev (locA dsts anc acc L i) x = some (.pointer (some ⟨vb v, vo v + j * sz + 0, none⟩))) (hy : ev (locA dsts anc acc L i) y = some u) (hg : GA anc acc i g) (gr : Gr A v T' fl xs) (hj : j < xs.length) (hz : fl.sz = sz)
    (k:∀ A' ys,ys = xs.set j z→ys.length = xs.length→FlatV fl (gt ys j) vs→Gr A' v T' fl ys→anyO P M n ops dsts anc m (hf Q) L O ((i,none,undef) :: acc) (A'++R) h π) [T:Ty P t D size bytes zero] [sp:Sp W A R] [c:CellsOf u vs] [nl:LenR vs size] [ao:AllOne vs] [tf:ToFlat fl vs z]:anyO P M n ops dsts anc m (hf Q) L O acc W h ((i,true) :: π):=by
  haveI:Sp (W++O) A (R++O):=⟨by have:=sp.p.append_right O; simpa using this⟩
  exact a_c hi hg (c_storeG0 (R:=R++O) hx hy gr hj hz fun A' ys h1 h2 h3 h4=>⟨A'++R,by simp,k A' ys h1 h2 h3 h4⟩)
omit hM in
theorem Yg [Inhabited α] {j sz:Nat} {z:α} (gr:Gr A v T' fl xs) (k:∀ A' ys,ys = xs.set j z→ys.length = xs.length→FlatV fl (gt ys j) vs→Gr A' v T' fl ys→anyO P M n ops dsts anc m (hf Q) L O ((i,none,undef) :: acc) (A'++R) h π) [T:Ty P t D size bytes zero] [sp:Sp W A R] [c:CellsOf u vs] [nl:LenR vs size] [ao:AllOne vs] [tf:ToFlat fl vs z] (hi:ops[i]? = some ⟨none,.store t x y,ty,pos,af,g⟩:=by rfl) (hx:ev (locA dsts anc acc L i) x = some (.pointer (some ⟨vb v,vo v + j * sz + 0,none⟩)):=by rfl) (hy:ev (locA dsts anc acc L i) y = some u:=by rfl) (hg:GA anc acc i g:=by first|exact .inl rfl | exact .inr ⟨_,_,_,_,rfl,by rfl,by rfl,by first|assumption | exact decide_eq_true (by assumption) | exact decide_eq_false (by assumption) | rfl⟩) (hj:j < xs.length:=by omega) (hz:fl.sz = sz:=by rfl):anyO P M n ops dsts anc m (hf Q) L O acc W h ((i,true) :: π):=a_storeG0 hi hx hy hg gr hj hz k
omit hM in
theorem fops_keep {L:Locals} {n:Nat} {Q:Qf} {O:Own} {h:PHeap} {ops:Array Oper} {rest:List Oper} {K:Locals} (is:List Nat) (x:sfOps P M n ops Q rest K O h) (hp:pickL L is = some K:=by rfl):sfOps P M n ops Q rest L O h:=fops_sub K (pickL_sub hp) x
end
section
variable {P:Program} {n:Nat} {L:Locals} {O:Own} {h:PHeap} {d:Option Nat} {t t' ty:TypeId} {pos:String} {af:Array Edge} {g:Option (Nat × Bool)} {x y:Operand} {D:TypeDesc} {size bytes size' bytes':Nat} {zero zero':Value}
theorem o_bin2 {op : BinOp} {k k' : IntKind} {a b : Int} {v : Value} {K : Next → PHeap → Prop} {E : Value → PHeap → Prop} (hop : op = .shl ∨ op = .shr) (hx : ev L x = some (.int k a)) (hy : ev L y = some (.int k' b))
    (hv:binOp op t (.int k a) (.int k' b) = .pure v) (kk:K (.value v) h):opv P n ⟨d,.binOp op t x y t',ty,pos,af,g⟩ L h K E:=
  o_val (s:=fun a=>do eqGuard op t x y (a.eval x) (a.eval y); binOp op t (a.eval x) (a.eval y)) (fun _ _=>rfl) fun ac ha=>by
    have e:eqGuard op t x y (.int k a) (.int k' b) = pure ():=by rcases hop with rfl | rfl <;> rfl
    rw [slp_bind,ha.ev hx,ha.ev hy,e,slp_pure,hv]; exact kk
theorem q_shrU {k':IntKind} {a:Nat} {s:Nat} (hx:ev L x = some (.int .u64 (a:Int))) (hy:ev L y = some (.int k' (s:Int))) (hs:s ≤ 64):Opq P n ⟨d,.binOp .shr t x y t',ty,pos,af,g⟩ L O h (.int .u64 ((a / 2 ^ s:Nat):Int)):=by
  refine q_of fun _ _ _ kk=>o_bin2 (.inr rfl) hx hy ?_ kk
  show Op.shift .shr .u64 (a:Int) k' (s:Int) = _
  unfold Op.shift
  rw [if_neg (by omega)]
  have hm:min ((s:Int).toNat) IntKind.u64.bits = s:=by
    show min (s:Int).toNat 64 = s
    rw [Int.toNat_natCast]; omega
  simp only [hm]
  have e:Int.fdiv (a:Int) (2 ^ s) = ((a / 2 ^ s:Nat):Int):=by
    rw [Int.fdiv_eq_ediv_of_nonneg _ (Int.pow_nonneg (by decide))]
    simp
  rw [e]; rfl
theorem q_shlU {k':IntKind} {a:Nat} {s:Nat} (hx:ev L x = some (.int .u64 (a:Int))) (hy:ev L y = some (.int k' (s:Int))) (hs:s ≤ 64):Opq P n ⟨d,.binOp .shl t x y t',ty,pos,af,g⟩ L O h (.int .u64 ((a * 2 ^ s % 18446744073709551616:Nat):Int)):=by
  refine q_of fun _ _ _ kk=>o_bin2 (.inl rfl) hx hy ?_ kk
  show Op.shift .shl .u64 (a:Int) k' (s:Int) = _
  unfold Op.shift
  rw [if_neg (by omega)]
  have hm:min ((s:Int).toNat) IntKind.u64.bits = s:=by
    show min (s:Int).toNat 64 = s
    rw [Int.toNat_natCast]; omega
  simp only [hm]
  have e:IntKind.u64.wrap ((a:Int) * 2 ^ s) = ((a * 2 ^ s % 18446744073709551616:Nat):Int):=by
    rw [IntKind.wrap_u64]; simp
  rw [e]; rfl
theorem ofInt_nat {m:Nat} (h:m < 18446744073709551616):(BitVec.ofInt 64 (m:Int)).toNat = m:=by
  rw [BitVec.ofInt_natCast,BitVec.toNat_ofNat]; exact Nat.mod_eq_of_lt (by omega)
theorem q_xorU {a b:Nat} (hx:ev L x = some (.int .u64 (a:Int))) (hy:ev L y = some (.int .u64 (b:Int))) (h1:a < 18446744073709551616) (h2:b < 18446744073709551616):Opq P n ⟨d,.binOp .xor t x y t',ty,pos,af,g⟩ L O h (.int .u64 ((a ^^^ b:Nat):Int)):=by
  refine q_of fun _ _ _ kk=>o_bin hx hy (fun K E=>?_) kk
  have hlt:a ^^^ b < 2 ^ 64:=Nat.xor_lt_two_pow (by omega) (by omega)
  have e:binOp .xor t (.int .u64 (a:Int)) (.int .u64 (b:Int)) = .pure (.int .u64 ((a ^^^ b:Nat):Int)):=by
    show Sem.pure (Value.int .u64 (IntKind.u64.wrap ((BitVec.ofInt 64 (a:Int) ^^^ BitVec.ofInt 64 (b:Int)).toNat:Int))) = _
    rw [BitVec.toNat_xor,ofInt_nat h1,ofInt_nat h2,IntKind.wrap_u64]
    exact congrArg (fun q:Int=>(Sem.pure (Value.int .u64 q):Sem Value)) (by omega)
  rw [e]; rfl
theorem q_andU {a b:Nat} (hx:ev L x = some (.int .u64 (a:Int))) (hy:ev L y = some (.int .u64 (b:Int))) (h1:a < 18446744073709551616) (h2:b < 18446744073709551616):Opq P n ⟨d,.binOp .and t x y t',ty,pos,af,g⟩ L O h (.int .u64 ((a &&& b:Nat):Int)):=by
  refine q_of fun _ _ _ kk=>o_bin hx hy (fun K E=>?_) kk
  have hlt:a &&& b ≤ b:=Nat.and_le_right
  have e:binOp .and t (.int .u64 (a:Int)) (.int .u64 (b:Int)) = .pure (.int .u64 ((a &&& b:Nat):Int)):=by
    show Sem.pure (Value.int .u64 (IntKind.u64.wrap ((BitVec.ofInt 64 (a:Int) &&& BitVec.ofInt 64 (b:Int)).toNat:Int))) = _
    rw [BitVec.toNat_and,ofInt_nat h1,ofInt_nat h2,IntKind.wrap_u64]
    exact congrArg (fun q:Int=>(Sem.pure (Value.int .u64 q):Sem Value)) (by omega)
  rw [e]; rfl
theorem q_indexStr {s:ByteArray} {kd:IntKind} {z:Int} {b:UInt8} (S:Ty P t .string size bytes zero) (hx:ev L x = some (.string s)) (hy:ev L y = some (.int kd z)) (h0:0 ≤ z) (hb:s[z.toNat]? = some b):Opq P n ⟨d,.index t x y,ty,pos,af,g⟩ L O h (.int .u8 (b.toNat:Int)):=by
  refine q_of fun K E _ kk=>o_val (s:=fun a=>Instr.index t (a.eval x) (a.eval y)) (fun _ _=>rfl) fun a ha=>?_
  rw [ha.ev hx,ha.ev hy]
  simp only [Instr.index,asIntOf,slp_bind,slp_pure]
  refine slp_underlying S.und ?_
  simp only [h0,if_true,hb,slp_pure]
  exact kk
end
def tabOk (s:ByteArray):Bool:=(List.range 256).all fun t=>match s[t]? with
  | some b=>decide (b.toNat ≤ 8) && (decide (t = 0) || decide (2 ^ b.toNat ≤ 2 * t))
  | none=>false
theorem tabOk_at {s:ByteArray} (h:tabOk s = true) {t:Nat} (ht:t < 256):∃ b:UInt8,s[t]? = some b∧b.toNat ≤ 8∧(1 ≤ t→2 ^ b.toNat ≤ 2 * t):=by
  have:=List.all_eq_true.1 h t (List.mem_range.2 ht)
  split at this
  · rename_i b e
    simp only [Bool.and_eq_true,Bool.or_eq_true,decide_eq_true_eq] at this
    exact ⟨b,e,this.1,fun h1=>this.2.elim (fun e=>by omega) id⟩
  · cases this
section
variable {P:Program} {M:Jdg→Prop} {n:Nat} {Q:Qf} {L:Locals} {O:Own} {h:PHeap} {ops:Array Oper} {rest:List Oper} {d:Nat} {t ty:TypeId} {pos:String} {af:Array Edge} {g:Option (Nat × Bool)} {x y:Operand} {size bytes:Nat} {zero:Value}
theorem y_len8 {s : ByteArray} {kd : IntKind} {z : Nat} (S : Ty P t .string size bytes zero) (hx : ev L x = some (.string s)) (hy : ev L y = some (.int kd (z : Int))) (hz : z < 256) (hs : tabOk s = true)
    (k:∀ b:Nat,b ≤ 8→(1 ≤ z→2 ^ b ≤ 2 * z)→sfOps P M n ops Q rest ((d,.int .u8 (b:Int)) :: L) O h):Do1 P M n ops Q ⟨some d,.index t x y,ty,pos,af,g⟩ rest L O h:=by
  obtain ⟨b,e,h1,h2⟩:=tabOk_at hs hz
  exact Rq (k b.toNat h1 h2) (q_indexStr S hx hy (Int.natCast_nonneg _) (by simpa using e))
end
inductive SM (T:TypeId):Own→List (Int × Value)→List (Int × List Int)→Prop
  | nil:SM T [] [] []
  | cons {A A':Own} {k:Int} {v:Value} {xs:List Int} {m:List (Int × Value)} {e:List (Int × List Int)}:Gr A v T intF xs→SM T A' m e→SM T (A++A') ((k,v) :: m) ((k,xs) :: e)
def eGet (e:List (Int × List Int)) (a:Int):List Int:=match e with
  | []=>[]
  | (k,xs) :: e=>if a = k then xs else eGet e a
def valOf (m:List (Int × Value)) (a:Int):Value:=match mGet m a with
  | some z=>z.2
  | none=>.slice none 0 0
theorem valOf_ne {m:List (Int × Value)} {a k:Int} {v:Value} (h:¬ a = k):valOf ((k,v) :: m) a = valOf m a:=by
  simp only [valOf,mGet,if_neg h]
  cases mGet m a <;> rfl
theorem mSet_ne {m:List (Int × Value)} {a k:Int} {v u:Value} (h:¬ a = k):mSet ((k,v) :: m) a u = (k,v) :: mSet m a u:=by
  simp only [mSet,mGet,if_neg h]
  cases mGet m a with
  | none=>rfl
  | some z=>obtain ⟨i,w⟩:=z; rfl
theorem SM.at {T:TypeId} (a:Int):∀ {A:Own} {m:List (Int × Value)} {e:List (Int × List Int)},SM T A m e→∃ B1 Bk B2 v,A = B1++(Bk++B2)∧valOf m a = v∧Gr Bk v T intF (eGet e a)∧∀ A' v' ys,Gr A' v' T intF ys→∃ e',SM T (B1++(A'++B2)) (mSet m a v') e'∧∀ x,eGet e' x = if x = a then ys else eGet e x:=by
  intro A m e s
  induction s with
  | nil=>exact ⟨[],[],[],_,rfl,rfl,Gr.nil _ _,fun A' v' ys g=>⟨[(a,ys)],(SM.cons (k:=a) g (SM.nil (T:=T)):SM T (A'++[]) _ _),fun x=>rfl⟩⟩
  | @cons A A' k v xs m e g s ih=>
    by_cases h:a = k
    · subst h
      refine ⟨[],A,A',v,rfl,by simp [valOf,mGet],by simpa [eGet] using g,fun C v' ys g'=>⟨(a,ys) :: e,?_,fun x=>?_⟩⟩
      · have:mSet ((a,v) :: m) a v' = (a,v') :: m:=by simp [mSet,mGet]
        rw [this]; exact (SM.cons (k:=a) g' s:SM T (C++A') _ _)
      · simp only [eGet]; split <;> rfl
    · obtain ⟨B1,Bk,B2,u,rfl,hv,gk,put⟩:=ih
      refine ⟨A++B1,Bk,B2,u,by simp,by rw [valOf_ne h]; exact hv,by simpa [eGet,h] using gk,fun C v' ys g'=>?_⟩
      obtain ⟨e',s',he⟩:=put C v' ys g'
      refine ⟨(k,xs) :: e',?_,fun x=>?_⟩
      · rw [mSet_ne h,List.append_assoc]; exact .cons g s'
      · simp only [eGet,he]
        by_cases h1:x = k
        · subst h1
          rw [if_pos rfl,if_pos rfl,if_neg (fun z=>h z.symm)]
        · rw [if_neg h1,if_neg h1]
def SMap (T:TypeId) (A:Own) (o:Obj) (φ:Int→List Int):Prop:=∃ m e,MapObj o m∧SM T A m e∧∀ a,eGet e a = φ a
theorem SMap.nil {T:TypeId} {o:Obj} (h:MapObj o []):SMap T [] o fun _=>[]:=⟨[],[],h,.nil,fun _=>rfl⟩
theorem SMap.at {T : TypeId} {A : Own} {o : Obj} {φ : Int → List Int} (s : SMap T A o φ) (a : Int) : ∃ m, MapObj o m ∧ ∃ B1 Bk B2 v, A = B1 ++ (Bk ++ B2) ∧ valOf m a = v ∧ Gr Bk v T intF (φ a) ∧
    ∀ A' v' ys o',MapObj o' (mSet m a v')→Gr A' v' T intF ys→SMap T (B1++(A'++B2)) o' fun x=>if x = a then ys else φ x:=by
  obtain ⟨m,e,hm,s,he⟩:=s
  obtain ⟨B1,Bk,B2,v,rfl,hv,gk,put⟩:=s.at a
  refine ⟨m,hm,B1,Bk,B2,v,rfl,hv,by rw [← he]; exact gk,fun A' v' ys o' ho g=>?_⟩
  obtain ⟨e',s',h'⟩:=put A' v' ys g
  exact ⟨_,e',ho,s',fun x=>by rw [h',he]⟩
theorem SMap.congr {T:TypeId} {A:Own} {o:Obj} {φ ψ:Int→List Int} (s:SMap T A o φ) (h:∀ a,φ a = ψ a):SMap T A o ψ:=by
  obtain ⟨m,e,hm,s,he⟩:=s
  exact ⟨m,e,hm,s,fun a=>by rw [he,h]⟩
theorem z_lookupV {P : Program} {n : Nat} {L : Locals} {O : Own} {h : PHeap} {d : Nat} {ty : TypeId} {pos : String} {af : Array Edge} {g : Option (Nat × Bool)} {x y : Operand} {t e kt : TypeId} {D : TypeDesc} {size bytes size' bytes' size'' bytes'' : Nat} {zero zero' : Value} {v : Value} {b : Nat} {m : List (Int × Value)} {o : Obj} {k : Int}
    (hx:ev L x = some (.map (some b))) (hy:ev L y = some (.int .i64 k)) (S:Ty P t (.map kt e) size' bytes' zero') (Tk:Ty P kt (.int .i64) size bytes zero) (Te:Ty P e D size'' bytes'' (.slice none 0 0)) (hm:(b,o) ∈ O) (ho:MapObj o m) (hv:valOf m k = v) :
    Opq P n ⟨some d,.lookup t x y false,ty,pos,af,g⟩ L O h v:=by
  subst hv
  exact z_lookup hx hy S Tk Te hm ho
theorem y_insert {P : Program} {M : Jdg → Prop} [hM : IsCl P M] {n : Nat} {Q : Qf} {L : Locals} {O R : Own} {h : PHeap} {ops : Array Oper} {rest : List Oper} {ty : TypeId} {pos : String} {af : Array Edge} {g : Option (Nat × Bool)} {x y z : Operand} {t e kt : TypeId} {size bytes size' bytes' : Nat} {zero zero' : Value} {v : Value} {b : Nat} {m : List (Int × Value)} {o : Obj} {k : Int}
    (hx:ev L x = some (.map (some b))) (hy:ev L y = some (.int .i64 k)) (hz:ev L z = some v) (S:Ty P t (.map kt e) size' bytes' zero') (Tk:Ty P kt (.int .i64) size bytes zero) [sp:Sp O [(b,o)] R] (ho:MapObj o m)
    (kk:∀ o',MapObj o' (mSet m k v)→sfOps P M n ops Q rest L ((b,o') :: R) h):Do1 P M n ops Q ⟨none,.insert t x y z,ty,pos,af,g⟩ rest L O h:=
  y_mapUpdate (n:=n) (Q:=Q) (ops:=ops) (rest:=rest) (ty:=ty) (pos:=pos) (af:=af) (g:=g) hx hy hz S Tk ho kk
def valOf2 (m:List (Int × Value)) (u:Value) (a:Int):Value:=match mGet m a with
  | some z=>.tuple #[z.2,.bool true]
  | none=>.tuple #[u,.bool false]
theorem z_lookup2V {P : Program} {n : Nat} {L : Locals} {O : Own} {h : PHeap} {d : Nat} {ty : TypeId} {pos : String} {af : Array Edge} {g : Option (Nat × Bool)} {x y : Operand} {t e kt : TypeId} {D : TypeDesc} {size bytes size' bytes' size'' bytes'' : Nat} {zero zero' zero'' : Value} {v : Value} {b : Nat} {m : List (Int × Value)} {o : Obj} {k : Int}
    (hx:ev L x = some (.map (some b))) (hy:ev L y = some (.int .i64 k)) (S:Ty P t (.map kt e) size' bytes' zero') (Tk:Ty P kt (.int .i64) size bytes zero) (Te:Ty P e D size'' bytes'' zero'') (hm:(b,o) ∈ O) (ho:MapObj o m) (hv:valOf2 m zero'' k = v) :
    Opq P n ⟨some d,.lookup t x y true,ty,pos,af,g⟩ L O h v:=by
  subst hv
  exact z_lookup2 hx hy S Tk Te hm ho
end Go.Sl

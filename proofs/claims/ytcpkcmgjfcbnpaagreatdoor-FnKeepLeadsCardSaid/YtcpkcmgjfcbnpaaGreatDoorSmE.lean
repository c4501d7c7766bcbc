/- Slices of one's own under the hand: making, growing, reading, writing, cutting. No program. -/
import Derived.Test.YtcpkcmgjfcbnpaaGreatDoorLibA
set_option linter.unusedVariables false
set_option linter.unusedSimpArgs false
set_option linter.unusedSectionVars false

namespace Go.Sl
open Go Go.Conc PHeap
class ToFlat {α:Type} (E:Flat α) (cs:List Value) (x:outParam α):Prop where
  eq:E.f x = cs
instance {x:Int}:ToFlat intF [.int .i64 x] x:=⟨rfl⟩
instance {x:Bool}:ToFlat boolF [.bool x] x:=⟨rfl⟩
instance {x y:Int}:ToFlat cellF [.int .i64 x,.int .i64 y] ⟨x,y⟩:=⟨rfl⟩
instance {x y z:Int}:ToFlat editF [.int .i64 x,.int .i64 y,.int .i64 z] ⟨x,⟨y,z⟩⟩:=⟨rfl⟩
class FlatOne {α:Type} (E:Flat α):Prop where
  one:∀ x,allOne (E.f x) = true
instance:FlatOne intF:=⟨fun _=>rfl⟩
instance:FlatOne boolF:=⟨fun _=>rfl⟩
instance:FlatOne cellF:=⟨fun _=>rfl⟩
instance:FlatOne editF:=⟨fun _=>rfl⟩
class ElemF (P:Program) (e:TypeId) {α:outParam Type} (E:outParam (Flat α)):Prop where
  is:True
theorem gt_set {α:Type} [Inhabited α] {xs:List α} {j:Nat} {z:α} (h:j < xs.length):gt (xs.set j z) j = z:=by
  rw [gt_eq (by simpa using h)]; simp
theorem flat_drop {α:Type} {E:Flat α} {y:α} {k:Nat} {l:List Value}:(E.f y++l).drop ((k + 1) * E.sz) = l.drop (k * E.sz):=by
  rw [List.drop_append]
  have:=E.len y
  rw [List.drop_of_length_le (by rw [this,Nat.add_mul]; omega),List.nil_append]
  congr 1
  rw [this,Nat.add_mul]; omega
theorem flat_get {α:Type} (E:Flat α):∀ {xs:List α} {k:Nat} {x:α} {sp:List Value},xs[k]? = some x→((xs.flatMap E.f++sp).drop (k * E.sz)).take E.sz = E.f x
  | [],k,x,sp,h=>by simp at h
  | y :: xs,0,x,sp,h=>by
    simp at h; subst h
    rw [List.flatMap_cons,List.append_assoc,Nat.zero_mul,List.drop_zero]
    have:=E.len y
    rw [← this,List.take_left]
  | y :: xs,k + 1,x,sp,h=>by
    have:=flat_get E (xs:=xs) (k:=k) (x:=x) (sp:=sp) (by simpa using h)
    rw [List.flatMap_cons,List.append_assoc,flat_drop]
    exact this
theorem flat_set {α : Type} (E : Flat α) {vs : List Value} {off : Nat} : ∀ {xs : List α} {k : Nat} {x y : α} {sp : List Value}, xs[k]? = some x → SetR (E.f x) off vs (E.f y) →
    ((xs.flatMap E.f++sp).take (k * E.sz + off)++vs++(xs.flatMap E.f++sp).drop (k * E.sz + off + vs.length)) = (xs.set k y).flatMap E.f++sp∧k * E.sz + off + vs.length ≤ (xs.flatMap E.f++sp).length
  | [],k,x,y,sp,h,_=>by simp at h
  | z :: xs,0,x,y,sp,h,s=>by
    simp at h; subst h
    have h1:=s.le
    have h2:=s.eq
    simp only [List.flatMap_cons,List.append_assoc,Nat.zero_mul,Nat.zero_add,List.set_cons_zero]
    rw [h2,List.take_append_of_le_length (by omega),List.drop_append_of_le_length (by omega)]
    refine ⟨by simp [List.append_assoc],by simp; omega⟩
  | z :: xs,k + 1,x,y,sp,h,s=>by
    obtain ⟨a1,a2⟩:=flat_set E (xs:=xs) (k:=k) (x:=x) (y:=y) (sp:=sp) (by simpa using h) s
    have hz:=E.len z
    have e1:(k + 1) * E.sz + off = (E.f z).length + (k * E.sz + off):=by rw [hz,Nat.add_mul]; omega
    simp only [List.flatMap_cons,List.append_assoc,List.set_cons_succ]
    rw [e1,List.take_length_add_append,Nat.add_assoc,List.drop_length_add_append]
    refine ⟨by rw [← a1]; simp [List.append_assoc],by simp at a2 ⊢; omega⟩
theorem rep_cells {α:Type} (E:Flat α) (x:α) (z:Array Value) (hz:z.toList = E.f x) (h0:0 < E.sz):∀ c:Nat,((Array.range (c * E.sz)).map (fun i=>z[i % z.size]!)).toList = (List.replicate c x).flatMap E.f
  | 0=>by simp
  | c + 1=>by
    have hl:z.size = E.sz:=by rw [← Array.length_toList,hz,E.len]
    have ih:=rep_cells E x z hz h0 c
    rw [List.replicate_succ',List.flatMap_append,← ih]
    simp only [Array.toList_map,Array.toList_range,List.flatMap_cons,List.flatMap_nil,List.append_nil]
    rw [Nat.add_mul,Nat.one_mul,List.range_add,List.map_append,List.map_map]
    congr 1
    rw [← hz]
    apply List.ext_getElem
    · simp [hl]
    · intro i h1 h2
      have hi:i < E.sz:=by simpa using h1
      simp only [List.getElem_map,List.getElem_range,Function.comp]
      have:(c * E.sz + i) % z.size = i:=by rw [hl,Nat.add_comm,Nat.add_mul_mod_self_right,Nat.mod_eq_of_lt hi]
      rw [this,getElem!_pos z i (by omega)]
      rw [Array.getElem_toList]
section
variable {P:Program} {M:Jdg→Prop} [hM:IsCl P M] {n:Nat} {Q:Qf} {L L':Locals} {O O' R A B:Own} {h:PHeap} {ops:Array Oper} {rest:List Oper} {o:Oper}
  {d:Nat} {ty:TypeId} {pos:String} {af:Array Edge} {g:Option (Nat × Bool)} {op:Op} {x y:Operand}
  {t e:TypeId} {D D':TypeDesc} {size bytes size' bytes':Nat} {zero zero':Value} {α:Type} {fl:Flat α} {v u:Value} {l l' vs cs:List Value} {b off:Nat} {T':TypeId} {fr:Nat × Nat} {xs ys:List α}
theorem Gr.at {α:Type} [Inhabited α] {E:Flat α} {xs:List α} (gr:Gr A v T' E xs) {k:Nat} (hk:k < xs.length):∃ b cap sp,v = .slice (some ⟨b,0,none⟩) xs.length cap∧A = [(b,.cells (xs.flatMap E.f++sp).toArray T')]∧(xs.flatMap E.f++sp).length = cap * E.sz∧xs.length ≤ cap:=by
  rcases gr.at' with ⟨rfl,rfl,rfl⟩ | h
  · cases hk
  · exact h
omit hM in
theorem z_indexG {i : Operand} {k : Nat} (hx : ev L x = some v) (hi : ev L i = some (.int .i64 (k : Int))) (gr : Gr A v T' fl xs) (hk : k < xs.length) [S : Ty P t (.slice e) size' bytes' zero'] [T : Ty P e D size bytes zero] :
    Opq P n ⟨some d,.indexAddr t x i,ty,pos,af,g⟩ L O h (.pointer (some ⟨vb v,vo v + k * size + 0,none⟩)):=by
  rcases gr.at' with ⟨rfl,rfl,rfl⟩ | ⟨b,cap,sp,rfl,rfl,h1,h2⟩
  · cases hk
  · exact q_indexV S T hx hi (Int.natCast_nonneg _) (by omega)
omit hM in
theorem z_loadG [Inhabited α] {j:Nat} (hx:ev L x = some (.pointer (some ⟨vb v,vo v + j * size + 0,none⟩))) [T:Ty P t D size bytes zero] (gr:Gr A v T' fl xs) (hj:j < xs.length) (hz:fl.sz = size) [sp:Sp O A R] [f:FlatV fl (gt xs j) cs] [lv:LoadV D cs u]:Opq P n ⟨some d,.load t x,ty,pos,af,g⟩ L O h (u):=by
  obtain ⟨b,cap,spr,rfl,rfl,h1,h2⟩:=gr.at hj
  have hl:cs.length = size:=by rw [← f.eq,fl.len,hz]
  have hg:=flat_get fl (sp:=spr) (get_gt hj)
  subst hz
  have hsz:xs.length * fl.sz ≤ (xs.flatMap fl.f++spr).length:=by rw [List.length_append,flat_length]; omega
  have hm:(j + 1) * fl.sz ≤ xs.length * fl.sz:=Nat.mul_le_mul_right _ hj
  rw [Nat.add_mul,Nat.one_mul] at hm
  haveI:OwnAt O b (.cells (xs.flatMap fl.f++spr).toArray T'):=⟨sp.p.mem_iff.2 (by simp)⟩
  have:=q_loadO (P:=P) (n:=n) (O:=O) (h:=h) (d:=some d) (ty:=ty) (pos:=pos) (af:=af) (g:=g) (off:=j * fl.sz) (cs:=cs) T (by rw [hx]; simp [vb,vo]) this (by
    unfold takeCells
    rw [Nat.ble_eq_true_of_le (by simp only [List.size_toArray]; omega)]
    simp only [cond_true]
    rw [hg,f.eq]) (lv.ok _ hl)
  rw [lv.eq] at this
  exact this
omit hM in
theorem z_loadGF [Inhabited α] {j sz:Nat} (hx:ev L x = some (.pointer (some ⟨vb v,vo v + j * sz + off,none⟩))) [T:Ty P t D size bytes zero] (gr:Gr A v T' fl xs) (hj:j < xs.length) (hz:fl.sz = sz) [sp:Sp O A R] [f:FlatV fl (gt xs j) l] [gg:GetR l off size cs] [lv:LoadV D cs u]:Opq P n ⟨some d,.load t x,ty,pos,af,g⟩ L O h (u):=by
  obtain ⟨b,cap,spr,rfl,rfl,h1,h2⟩:=gr.at hj
  have hl:cs.length = size:=by have:=gg.eq; have:=gg.le; subst cs; simp; omega
  have hg:=flat_get fl (sp:=spr) (get_gt hj)
  subst hz
  have hsz:xs.length * fl.sz ≤ (xs.flatMap fl.f++spr).length:=by rw [List.length_append,flat_length]; omega
  have hm:(j + 1) * fl.sz ≤ xs.length * fl.sz:=Nat.mul_le_mul_right _ hj
  rw [Nat.add_mul,Nat.one_mul] at hm
  have hll:l.length = fl.sz:=by rw [← f.eq,fl.len]
  have hle:=gg.le
  haveI:OwnAt O b (.cells (xs.flatMap fl.f++spr).toArray T'):=⟨sp.p.mem_iff.2 (by simp)⟩
  have:=q_loadO (P:=P) (n:=n) (O:=O) (h:=h) (d:=some d) (ty:=ty) (pos:=pos) (af:=af) (g:=g) (off:=j * fl.sz + off) (cs:=cs) T (by rw [hx]; simp [vb,vo]) this (by
    unfold takeCells
    rw [Nat.ble_eq_true_of_le (by simp only [List.size_toArray]; omega)]
    simp only [cond_true]
    rw [← gg.eq,← f.eq,← hg,List.drop_take,List.drop_drop,List.take_take,Nat.min_eq_left (by omega)]) (lv.ok _ hl)
  rw [lv.eq] at this
  exact this
omit hM in
theorem y_storeG [Inhabited α] {j sz : Nat} {z : α} (hx : ev L x = some (.pointer (some ⟨vb v, vo v + j * sz + off, none⟩))) (hy : ev L y = some u) [T : Ty P t D size bytes zero] (gr : Gr A v T' fl xs) (hj : j < xs.length) (hz : fl.sz = sz) [sp : Sp O A R] [f : FlatV fl (gt xs j) l] [c : CellsOf u vs] [nl : LenR vs size] [ao : AllOne vs] [s : SetR l off vs l'] [tf : ToFlat fl l' z]
    (k:∀ A' ys,ys = xs.set j z→ys.length = xs.length→FlatV fl (gt ys j) l'→Gr A' v T' fl ys→sfOps P M n ops Q rest L (A'++R) h):Do1 P M n ops Q ⟨none,.store t x y,ty,pos,af,g⟩ rest L O h:=by
  obtain ⟨b,cap,spr,rfl,rfl,h1,h2⟩:=gr.at hj
  subst hz
  have hv:u.cells.toList = vs:=by rw [c.eq]
  obtain ⟨a1,a2⟩:=flat_set fl (off:=off) (vs:=vs) (y:=z) (sp:=spr) (get_gt hj) (by rw [f.eq,tf.eq]; exact s)
  intro F H r
  have r':Rel F h ([]++(b,.cells (xs.flatMap fl.f++spr).toArray T') :: R) H:=r.perm sp.p.symm
  obtain ⟨o1,o2,_⟩:=r'.own b (.cells (xs.flatMap fl.f++spr).toArray T') (by simp)
  refine o_store (off:=j * fl.sz + off) (c:=(xs.flatMap fl.f++spr).toArray) (T':=T') (by rw [hx]; simp [vb,vo]) hy o1 o2 (by rw [c.eq]; simpa using nl.len) (by rw [hv]; simpa using a2) (by rw [hv]; exact ao.is) ?_
  refine lift.here (r'.set _) ⟨rfl,?_⟩
  rw [hv]
  have e:setCells (xs.flatMap fl.f++spr).toArray (j * fl.sz + off) vs = ((xs.set j z).flatMap fl.f++spr).toArray:=by
    apply Array.toList_inj.1
    rw [setCells_toList _ _ _ (by simpa using a2)]
    simpa using a1
  rw [e]
  exact k [(b,_)] _ rfl (by simp) ⟨by rw [gt_set hj]; exact tf.eq⟩ ⟨.inr ⟨b,cap,spr,by simp,rfl,by rw [List.length_append,flat_length] at h1 ⊢; simpa using h1,by simpa using h2⟩⟩
omit hM in
theorem y_storeG0 [Inhabited α] {j sz : Nat} {z : α} (hx : ev L x = some (.pointer (some ⟨vb v, vo v + j * sz + 0, none⟩))) (hy : ev L y = some u) [T : Ty P t D size bytes zero] (gr : Gr A v T' fl xs) (hj : j < xs.length) (hz : fl.sz = sz) [sp : Sp O A R] [c : CellsOf u vs] [nl : LenR vs size] [ao : AllOne vs] [tf : ToFlat fl vs z]
    (k:∀ A' ys,ys = xs.set j z→ys.length = xs.length→FlatV fl (gt ys j) vs→Gr A' v T' fl ys→sfOps P M n ops Q rest L (A'++R) h):Do1 P M n ops Q ⟨none,.store t x y,ty,pos,af,g⟩ rest L O h:=by
  haveI:FlatV fl (gt xs j) (fl.f (gt xs j)):=⟨rfl⟩
  haveI:SetR (fl.f (gt xs j)) 0 vs vs:=⟨by rw [fl.len,← tf.eq,fl.len]; omega,by simp; rw [fl.len,← tf.eq,fl.len]; omega⟩
  exact y_storeG (off:=0) (l':=vs) (sz:=sz) hx hy gr hj hz k
omit hM in
theorem c_make {kl : Nat} {x0 : α} (hl : ev L x = some (.int .i64 (kl : Int))) (hc : ev L y = some (.int .i64 (kl : Int))) [S : Ty P t (.slice e) size' bytes' zero'] [Te : Ty P e D size bytes zero] [F : ElemF P e fl] [zc : CellsOf zero cs] [zf : ToFlat fl cs x0] (hsz : fl.sz = size) (h0 : 0 < size) (hb : bytes * kl ≤ 281474976710656 ∧ kl ≤ 281474976710656)
    {K:Next→Own→PHeap→Prop} {E:Value→Own→PHeap→Prop} (k:∀ v A,Gr A v e fl (List.replicate kl x0)→K (.value v) (A++O) h):opo P n ⟨some d,.makeSlice t x y,ty,pos,af,g⟩ L O h K E:=fun F H r=>
  o_val (s:=fun a=>Instr.makeSlice t (a.eval x) (a.eval y)) (fun _ _=>rfl) fun a ha=>by
    rw [ha.ev hl,ha.ev hc]
    have hz:zero.cells.toList = fl.f x0:=by rw [zc.eq,zf.eq]
    obtain ⟨i,h1,h2,h3,h4⟩:=Te.get
    simp only [Instr.makeSlice,asInt,slp_bind,slp_pure]
    refine slp_underlying S.und ?_
    simp only [slp_bind,slp_pure]
    refine slp_typeInfo h1 ?_
    have hw:IntKind.i64.wrap (kl:Int) = kl:=wrap_in (by omega) (by omega)
    have h48:(2:Int) ^ 48 = 281474976710656:=by decide
    have hbi:((bytes * kl:Nat):Int) ≤ 281474976710656:=by omega
    have hbi':(bytes:Int) * (kl:Int) ≤ 281474976710656:=by simpa using hbi
    rw [hw,h3,h48]
    have c1:¬ (kl:Int) < 0:=by omega
    have c2:¬ (bytes:Int) * (kl:Int) > 281474976710656:=by omega
    simp only [c1,c2,decide_false,Bool.or_false,Bool.false_or,gt_iff_lt,Int.lt_irrefl,Bool.false_eq_true,if_false,slp_bind]
    refine slp_askRoom _ ?_
    refine slp_sizeOf Te ?_
    have fin:∀ z:Array Value,(kl = 0 ∨ z = zero.cells)→Sem.slp P (fun a H=>Sem.slp P (fun v H=>lift F h K (Next.value v) H) (lift F h E) (pure (Value.slice (some a) kl kl)) H) (lift F h E) (newRow e ((Array.range (kl * size)).map fun i=>z[i % z.size]!)) H:=by
      intro z hzz
      simp only [newRow,slp_bind,slp_pure,newObj]
      intro b hb
      refine lift.here (r.alloc hb _) ?_
      have e1:((Array.range (kl * size)).map fun i=>z[i % z.size]!) = ((List.replicate kl x0).flatMap fl.f++[]).toArray:=by
        apply Array.toList_inj.1
        subst hsz
        rcases hzz with rfl | rfl
        · simp
        · rw [rep_cells fl x0 _ hz h0]; simp
      rw [e1]
      exact k _ [(b,_)] ⟨.inr ⟨b,kl,[],by simp,rfl,by rw [List.length_append,flat_length]; simp,by simp⟩⟩
    by_cases hk0:kl = 0
    · subst hk0
      simp only [Int.toNat_natCast,Nat.zero_mul,if_true,slp_bind,slp_pure]
      have:=fin #[] (.inl rfl)
      simpa [slp_pure] using this
    · have : ¬ kl * size = 0 := by
        intro hh
        rcases Nat.mul_eq_zero.1 hh with h | h <;> omega
      simp only [Int.toNat_natCast,this,if_false,slp_bind]
      refine slp_zeroValue Te ?_
      rw [slp_pure]
      exact fin _ (.inr rfl)
omit hM in
theorem y_make {kl : Nat} {x0 : α} (hl : ev L x = some (.int .i64 (kl : Int))) (hc : ev L y = some (.int .i64 (kl : Int))) [S : Ty P t (.slice e) size' bytes' zero'] [Te : Ty P e D size bytes zero] [F : ElemF P e fl] [zc : CellsOf zero cs] [zf : ToFlat fl cs x0] (hsz : fl.sz = size) (h0 : 0 < size) (hb : bytes * kl ≤ 281474976710656 ∧ kl ≤ 281474976710656)
    (k:∀ v A,Gr A v e fl (List.replicate kl x0)→sfOps P M n ops Q rest ((d,v) :: L) (A++O) h):Do1 P M n ops Q ⟨some d,.makeSlice t x y,ty,pos,af,g⟩ rest L O h:=c_make hl hc hsz h0 hb fun v A g=>⟨rfl,k v A g⟩
class ElemsF {α:Type} (E:Flat α) (i:Nat) (ps:List (Nat × Value)) (xs:outParam (List α)):Prop where
  all:partsAll E.sz i ps = some (xs.flatMap E.f)
instance ElemsF.nil {α:Type} {E:Flat α} {i:Nat}:ElemsF E i [] []:=⟨rfl⟩
instance ElemsF.cons {α:Type} {E:Flat α} {i:Nat} {v:Value} {ps:List (Nat × Value)} {vs:List Value} {x:α} {xs:List α} [c:CellsOf v vs] [f:ToFlat E vs x] [r:ElemsF E (i + 1) ps xs]:ElemsF E i ((i,v) :: ps) (x :: xs):=⟨by
  have hv:v.cells.toList = E.f x:=by rw [c.eq,f.eq]
  simp only [partsAll,hv,E.len,Nat.beq_refl,Bool.true_and,cond_true,r.all,List.flatMap_cons]⟩
theorem ElemsF.len {α:Type} {E:Flat α} {i:Nat} {ps:List (Nat × Value)} {xs:List α} (e:ElemsF E i ps xs):ps.length = xs.length ∨ E.sz = 0:=by
  have:=partsAll_length e.all
  rw [flat_length] at this
  rcases Nat.eq_zero_or_pos E.sz with h | h
  · exact .inr h
  · exact .inl (Nat.eq_of_mul_eq_mul_right h this.symm)
omit hM in
theorem c_bs {parts : Array (Nat × Operand)} {ps : List (Nat × Value)} {len : Nat} (hp : evParts L parts.toList = some ps) [T : Ty P t (.slice e) size' bytes' zero'] [Te : Ty P e D size bytes zero] [F : ElemF P e fl] [el : ElemsF fl 0 ps xs] (hl : Nat.beq ps.length len = true) (hs : Nat.ble (len * size) 16777216 = true) (hz : fl.sz = size) (h0 : 0 < size)
    {K:Next→Own→PHeap→Prop} {E:Value→Own→PHeap→Prop} (k:∀ v A,Gr A v e fl xs→K (.value v) (A++O) h):opo P n ⟨some d,.buildSlice t len parts,ty,pos,af,g⟩ L O h K E:=by
  subst hz
  refine c_buildSlice T Te hp hl hs el.all fun b=>?_
  have hlen:len = xs.length:=by
    have h1:=Nat.eq_of_beq_eq_true hl
    rcases el.len with h2 | h2
    · omega
    · omega
  exact k _ [(b,_)] (gr_lit rfl hlen)
omit hM in
theorem y_bs {parts : Array (Nat × Operand)} {ps : List (Nat × Value)} {len : Nat} (hp : evParts L parts.toList = some ps) [T : Ty P t (.slice e) size' bytes' zero'] [Te : Ty P e D size bytes zero] [F : ElemF P e fl] [el : ElemsF fl 0 ps xs] (hl : Nat.beq ps.length len = true) (hs : Nat.ble (len * size) 16777216 = true) (hz : fl.sz = size) (h0 : 0 < size)
    (k:∀ v A,Gr A v e fl xs→sfOps P M n ops Q rest ((d,v) :: L) (A++O) h):Do1 P M n ops Q ⟨some d,.buildSlice t len parts,ty,pos,af,g⟩ rest L O h:=c_bs hp hl hs hz h0 fun v A g=>⟨rfl,k v A g⟩
omit hM in
theorem y_append {args : Array Operand} {ats : Array TypeId} (hv : evAll L args.toList = some [v, u]) (ht : ats.toList = [t, t]) (gr : Gr A v e fl xs) (gu : Gr B u e fl ys) [S : Ty P t (.slice e) size' bytes' zero'] [Te : Ty P e D size bytes zero] [sp : Sp O (A ++ B) R] (one : ∀ y ∈ ys, allOne (fl.f y) = true) (hz : zero.cells.size = size) (hsz : fl.sz = size) (hb : (xs.length + ys.length) * bytes ≤ 140737488355328) (h63 : xs.length + ys.length ≤ 4611686018427387904)
    (k:∀ v' A',Gr A' v' e fl (xs++ys)→sfOps P M n ops Q rest ((d,v') :: L) (A'++R) h):Do1 P M n ops Q ⟨some d,.call { callee:=.builtin .append,args,argTypes:=ats },ty,pos,af,g⟩ rest L O h:=by
  have hO:O.Perm (A++(B++R)):=by rw [← List.append_assoc]; exact sp.p
  refine c_append hv (Array.ext' (by simpa using ht)) S Te hz gr hO hsz (src_gr gu (by intro x hx; simp [hx])) one hb h63 fun v' A' g'=>⟨rfl,?_⟩
  intro F H r
  refine k v' A' g' F H (r.drop ?_)
  exact (List.sublist_append_right B R).append_left A'
omit hM in
theorem y_appendS {args : Array Operand} {ats : Array TypeId} (hv : evAll L args.toList = some [v, u]) (ht : ats.toList = [t, t]) (gr : Gr A v e fl xs) (gu : Sl h u fl ys) [S : Ty P t (.slice e) size' bytes' zero'] [Te : Ty P e D size bytes zero] [sp : Sp O A R] (one : ∀ y ∈ ys, allOne (fl.f y) = true) (hz : zero.cells.size = size) (hsz : fl.sz = size) (hb : (xs.length + ys.length) * bytes ≤ 140737488355328) (h63 : xs.length + ys.length ≤ 4611686018427387904)
    (k:∀ v' A',Gr A' v' e fl (xs++ys)→sfOps P M n ops Q rest ((d,v') :: L) (A'++R) h):Do1 P M n ops Q ⟨some d,.call { callee:=.builtin .append,args,argTypes:=ats },ty,pos,af,g⟩ rest L O h:=
  c_append hv (Array.ext' (by simpa using ht)) S Te hz gr sp.p hsz (src_base gu) one hb h63 fun v' A' g'=>⟨rfl,k v' A' g'⟩
end
structure Hole (p:Prop):Prop where
  out:p
theorem oq {p : Prop} (h : p := by
    first
      | exact q_move (by rfl)
      | exact q_assign (by rfl)
      | exact z_load (by rfl)
      | exact z_fa0 (by rfl) (by rfl)
      | exact q_add64 (by rfl) (by rfl) (by omega)
      | exact q_sub64 (by rfl) (by rfl) (by omega)
      | exact q_mul64 (by rfl) (by rfl) (by omega)
      | exact q_num (by rfl) (by rfl) (by rfl)
      | exact z_len (by rfl) (by rfl)
      | exact z_lenV (by rfl) (by rfl)
      | exact z_lenG (by rfl) (by rfl) (by assumption)
      | exact z_extract (by rfl)
      | exact q_not (by rfl)
      | exact z_indexS (by rfl) (by rfl) (by infer_instance) (by omega)
      | exact z_indexG (by rfl) (by rfl) (by assumption) (by omega)
      | exact q_indexS (by infer_instance) (by infer_instance) (by rfl) (by rfl) (by infer_instance) (by omega) (by omega)
      | exact z_loadS (by rfl) (by infer_instance) (by omega) (by rfl)
      | exact z_loadF (by rfl) (by infer_instance) (by omega) (by rfl)
      | exact z_loadG (by rfl) (by assumption) (by omega) (by rfl)
      | exact z_loadGF (by rfl) (by assumption) (by omega) (by rfl)
      | exact q_eqB (by rfl) (by rfl) (by infer_instance)
      | exact q_neqB (by rfl) (by rfl) (by infer_instance)
      | exact q_pickT (by rfl) (by first|assumption | exact decide_eq_true (by assumption) | exact decide_eq_false (by assumption) | rfl) (by rfl)
      | exact q_pickF (by rfl) (by first|assumption | exact decide_eq_true (by assumption) | exact decide_eq_false (by assumption) | rfl) (by rfl)
      | exact z_build (by rfl)
      | exact z_buildA (by rfl) (by infer_instance) (by infer_instance) (by rfl) (by rfl)
      | exact z_indexP1 (by rfl) (by rfl) (by infer_instance) (by infer_instance) (by omega)
      | exact z_loadB (by rfl)
      | exact q_div64 (by rfl) (by rfl) (by omega)
      | exact q_mod64 (by rfl) (by rfl) (by omega)
      | exact q_quo (by rfl) (by rfl) (by omega)
      | exact q_rem (by rfl) (by rfl) (by omega)
      | exact z_faE (by rfl) (by rfl)
      | exact z_fa (by rfl) (by rfl)
      | exact q_conv8 (by infer_instance) (by infer_instance) (by rfl)
      | exact q_convert (by infer_instance) (by infer_instance) (by rfl)
      | exact q_xor64 (by rfl) (by rfl) (by omega)
      | exact q_nilCheck (by rfl)
      | exact q_makeInterface (by infer_instance) (by rfl) (by rfl)
      | exact q_makeFunc (by rfl) (by rfl)
      | exact q_field (by infer_instance) (by rfl) (by rfl) (by rfl)):p:=h
theorem R1 {G G' : Prop} (k : G') (h : Hole G' → G := by
    (intro x
     first
      | (refine fp ?_
         first
          | refine Rq ?_ oq
          | refine y_store ?_ (by rfl) (by rfl))
      | refine y_gF (by rfl) (by rfl) (by first|assumption | exact decide_eq_true (by assumption) | exact decide_eq_false (by assumption) | rfl) ?_
      | refine y_gU (by rfl) (by rfl) ?_
      | refine sf_seq (sf_reg ?_)
      | refine sf_nil ?_
      | refine sf_skip ?_
      | refine sf_reg ?_
      | refine sf_block ?_
      | refine sf_seq ?_
     exact x.out)):G:=h ⟨k⟩
theorem R2 {G : Prop} {G' : Nat → Prop} (k : ∀ b, G' b) (h : Hole (∀ b, G' b) → G := by
    (intro x
     refine f_p ?_
     first
      | refine y_box ?_ (by rfl)
      | refine y_alloc ?_
     exact x.out)):G:=h ⟨k⟩
def hf (Q:Qf):Qo:=fun e L O _=>Q e L O
def GA (anc:List (List Nat)) (acc:Acc) (i:Nat) (g:Option (Nat × Bool)):Prop:=g = none ∨ ∃ j b want dj,g = some (j,want)∧(anc.getD i []).any (Nat.beq j ·) = true∧lk acc j = some (some dj,.bool b)∧b = want
section
variable {P:Program} {M:Jdg→Prop} [hM:IsCl P M] {n:Nat} {Q:Qf} {L L':Locals} {O R A B W W':Own} {h:PHeap} {ops rest:List Oper} {dsts:List (Option Nat)} {anc:List (List Nat)} {m:Nat} {π:List (Nat × Bool)} {acc:Acc}
  {d:Option Nat} {ty:TypeId} {pos:String} {af:Array Edge} {g:Option (Nat × Bool)} {op:Op} {i:Nat} {v u:Value}
theorem regX_own {X:List (Nat × Nat)} {Qo':Qo} {ops:List Oper} (W:Own) [s:Sp O W R] (x:RegX P M n ops X Qo' L (W++R) h):RegX P M n ops X Qo' L O h:=regX_perm s.p x
theorem sf_draw [hX:Mixed P] {id:Nat} (he:edgesOk ops.toArray = true) (x:RegX P M n ops [] (hf Q) L O h):(Code.region id ops.toArray true).sf P M n Q L O h:=sf_of_so (so_draw he x)
omit hM in
theorem a_end (hr:ops.drop m = rest) (hL:finA acc L = L') (x:sfOps P M n ops.toArray Q rest L' (W++O) h):anyO P M n ops dsts anc m (hf Q) L O acc W h []:=by
  subst hr hL
  exact fun F H r l e=>ops_mono (x F H r l e) fun e L H ⟨O,rel,y⟩=>⟨O,h,Up.refl _ _,rel,y⟩
omit hM in
theorem aq (hi:ops[i]? = some ⟨d,op,ty,pos,af,g⟩) (hg:GA anc acc i g) (x:∀ X h' [Le h h'],Opq P n ⟨d,op,ty,pos,af,g⟩ (locA dsts anc acc L i) (X++O) h' v) (k:anyO P M n ops dsts anc m (hf Q) L O ((i,d,v) :: acc) W h π):anyO P M n ops dsts anc m (hf Q) L O acc W h ((i,false) :: π):=by
  refine ⟨_,v,hi,?_,k⟩
  rcases hg with rfl | ⟨j,b,want,dj,rfl,h2,h3,h4⟩
  · exact .inl ⟨rfl,fun X h' l=>x X h'⟩
  · exact .inr ⟨j,.bool b,want,dj,rfl,h2,h3,.inl ⟨by rw [h4],fun X h' l=>x X h'⟩⟩
omit hM in
theorem agF {j dj:Nat} {want b:Bool} (hi:ops[i]? = some ⟨d,op,ty,pos,af,some (j,want)⟩) (hj:(anc.getD i []).any (Nat.beq j ·) = true) (hl:lk acc j = some (some dj,.bool b)) (hb:b = !want) (k:anyO P M n ops dsts anc m (hf Q) L O ((i,d,undef) :: acc) W h π):anyO P M n ops dsts anc m (hf Q) L O acc W h ((i,false) :: π):=
  ⟨_,undef,hi,.inr ⟨j,.bool b,want,dj,rfl,hj,hl,.inr ⟨.inl (by rw [hb]),rfl⟩⟩,k⟩
omit hM in
theorem agU {j dj:Nat} {want:Bool} (hi:ops[i]? = some ⟨d,op,ty,pos,af,some (j,want)⟩) (hj:(anc.getD i []).any (Nat.beq j ·) = true) (hl:lk acc j = some (some dj,undef)) (k:anyO P M n ops dsts anc m (hf Q) L O ((i,d,undef) :: acc) W h π):anyO P M n ops dsts anc m (hf Q) L O acc W h ((i,false) :: π):=
  ⟨_,undef,hi,.inr ⟨j,undef,want,dj,rfl,hj,hl,.inr ⟨.inr rfl,rfl⟩⟩,k⟩
omit hM in
theorem a_c (hi:ops[i]? = some ⟨d,op,ty,pos,af,g⟩) (hg:GA anc acc i g) (x:opo P n ⟨d,op,ty,pos,af,g⟩ (locA dsts anc acc L i) (W++O) h (chainK P M (fun v W2 h2=>anyO P M n ops dsts anc m (hf Q) L O ((i,d,v) :: acc) W2 h2 π) O W h) (fun _ _ _=>False)):anyO P M n ops dsts anc m (hf Q) L O acc W h ((i,true) :: π):=
  ⟨_,hi,hg,x⟩
omit hM in
theorem a_call {f : FuncId} {args : Array Operand} {ats : Array TypeId} {vs : List Value} {RR : Value → Own → Prop} [Fu : Fun P f] (C : CallF P M f vs A h RR) (hi : ops[i]? = some ⟨d, .call { callee := .value (.func f), args, argTypes := ats }, ty, pos, af, g⟩) (hv : evAll (locA dsts anc acc L i) args.toList = some vs) [sp : Sp W A R] (hg : GA anc acc i g)
    (k:∀ v A',RR v A'→anyO P M n ops dsts anc m (hf Q) L O ((i,d,v) :: acc) (A'++R) h π):anyO P M n ops dsts anc m (hf Q) L O acc W h ((i,true) :: π):=
  a_c hi hg (c_call Fu hv ⟨rfl,rfl,A,R,sp.p,by
    simpa using CallsP.mono (callsP_of C) (fun v A' h' l x=>by obtain ⟨rfl,x⟩:=x; exact k v A' x) (fun _ _ _ _ x=>x.2.elim)⟩)
omit hM in
theorem a_callV {f : FuncId} {args : Array Operand} {ats : Array TypeId} {vs : List Value} [Fu : Fun P f] (C : CallV P M f vs h v) (hi : ops[i]? = some ⟨d, .call { callee := .value (.func f), args, argTypes := ats }, ty, pos, af, g⟩) (hv : evAll (locA dsts anc acc L i) args.toList = some vs) (hg : GA anc acc i g)
    (k:anyO P M n ops dsts anc m (hf Q) L O ((i,d,v) :: acc) W h π):anyO P M n ops dsts anc m (hf Q) L O acc W h ((i,true) :: π):=
  a_call (A:=[]) C hi hv hg (fun v' A' x=>by obtain ⟨rfl,rfl⟩:=x; exact k)
end
section
variable {P:Program} {M:Jdg→Prop} [hM:IsCl P M] {n:Nat} {Q:Qf} {L:Locals} {O R A B W:Own} {h:PHeap} {ops:List Oper} {dsts:List (Option Nat)} {anc:List (List Nat)} {m:Nat} {π:List (Nat × Bool)} {acc:Acc}
  {d:Nat} {ty:TypeId} {pos:String} {af:Array Edge} {g:Option (Nat × Bool)} {i:Nat} {v u:Value} {t e:TypeId} {D D':TypeDesc} {size bytes size' bytes':Nat} {zero zero':Value} {α:Type} {fl:Flat α} {cs:List Value} {xs ys:List α} {x y:Operand}
omit hM in
theorem a_make {kl : Nat} {x0 : α} (hi : ops[i]? = some ⟨some d, .makeSlice t x y, ty, pos, af, g⟩) (hl : ev (locA dsts anc acc L i) x = some (.int .i64 (kl : Int))) (hc : ev (locA dsts anc acc L i) y = some (.int .i64 (kl : Int))) (S : Ty P t (.slice e) size' bytes' zero') (Te : Ty P e D size bytes zero) (F : ElemF P e fl) (zc : CellsOf zero cs) (zf : ToFlat fl cs x0) (hsz : fl.sz = size) (h0 : 0 < size) (hb : bytes * kl ≤ 281474976710656 ∧ kl ≤ 281474976710656) (hg : GA anc acc i g)
    (k:∀ v A,Gr A v e fl (List.replicate kl x0)→anyO P M n ops dsts anc m (hf Q) L O ((i,some d,v) :: acc) (A++W) h π):anyO P M n ops dsts anc m (hf Q) L O acc W h ((i,true) :: π):=
  a_c hi hg (c_make hl hc hsz h0 hb fun v A gr=>⟨A++W,by simp,k v A gr⟩)
omit hM in
theorem a_bs {parts : Array (Nat × Operand)} {ps : List (Nat × Value)} {len : Nat} (hi : ops[i]? = some ⟨some d, .buildSlice t len parts, ty, pos, af, g⟩) (hp : evParts (locA dsts anc acc L i) parts.toList = some ps) (T : Ty P t (.slice e) size' bytes' zero') (Te : Ty P e D size bytes zero) (F : ElemF P e fl) (el : ElemsF fl 0 ps xs) (hl : Nat.beq ps.length len = true) (hs : Nat.ble (len * size) 16777216 = true) (hz : fl.sz = size) (h0 : 0 < size) (hg : GA anc acc i g)
    (k:∀ v A,Gr A v e fl xs→anyO P M n ops dsts anc m (hf Q) L O ((i,some d,v) :: acc) (A++W) h π):anyO P M n ops dsts anc m (hf Q) L O acc W h ((i,true) :: π):=
  a_c hi hg (c_bs hp hl hs hz h0 fun v A gr=>⟨A++W,by simp,k v A gr⟩)
omit hM in
theorem a_appendS {args : Array Operand} {ats : Array TypeId} (hi : ops[i]? = some ⟨some d, .call { callee := .builtin .append, args, argTypes := ats }, ty, pos, af, g⟩) (hv : evAll (locA dsts anc acc L i) args.toList = some [v, u]) (ht : ats.toList = [t, t]) (gr : Gr A v e fl xs) (gu : Sl h u fl ys) (S : Ty P t (.slice e) size' bytes' zero') (Te : Ty P e D size bytes zero) [sp : Sp W A R] (one : ∀ y ∈ ys, allOne (fl.f y) = true) (hz : zero.cells.size = size) (hsz : fl.sz = size) (hb : (xs.length + ys.length) * bytes ≤ 140737488355328) (h63 : xs.length + ys.length ≤ 4611686018427387904) (hg : GA anc acc i g)
    (k:∀ v' A',Gr A' v' e fl (xs++ys)→anyO P M n ops dsts anc m (hf Q) L O ((i,some d,v') :: acc) (A'++R) h π):anyO P M n ops dsts anc m (hf Q) L O acc W h ((i,true) :: π):=
  a_c hi hg (c_append (R:=R++O) hv (Array.ext' (by simpa using ht)) S Te hz gr (by have:=sp.p.append_right O; simpa using this) hsz (src_base gu) one hb h63 fun v' A' g'=>⟨A'++R,by simp,k v' A' g'⟩)
end
theorem Da1 {G G' : Prop} (k : G') (h : Hole G' → G := by
    (intro x
     first
      | refine aq (by rfl) (by first|exact .inl rfl | exact .inr ⟨_,_,_,_,rfl,by rfl,by rfl,by first|assumption | exact decide_eq_true (by assumption) | exact decide_eq_false (by assumption) | rfl⟩) (fun X h' [_]=>oq) ?_
      | refine agF (by rfl) (by rfl) (by rfl) (by first|assumption | exact decide_eq_true (by assumption) | exact decide_eq_false (by assumption) | rfl) ?_
      | refine agU (by rfl) (by rfl) (by rfl) ?_
     exact x.out)):G:=h ⟨k⟩
theorem Wo {G G' : Prop} (k : G') (h : Hole G' → G := by
    (intro x
     repeat first
      | (refine fp ?_
         first
          | refine Rq ?_ oq
          | refine y_store ?_ (by rfl) (by rfl))
      | refine y_gF (by rfl) (by rfl) (by first|assumption | exact decide_eq_true (by assumption) | exact decide_eq_false (by assumption) | rfl) ?_
      | refine y_gU (by rfl) (by rfl) ?_
      | refine sf_seq (sf_reg ?_)
      | refine sf_nil ?_
      | refine sf_skip ?_
      | refine sf_reg ?_
      | refine sf_block ?_
      | refine sf_seq ?_
     exact x.out)):G:=h ⟨k⟩
theorem Da {G G' : Prop} (k : G') (h : Hole G' → G := by
    (intro x
     repeat first
      | refine aq (by rfl) (by first|exact .inl rfl | exact .inr ⟨_,_,_,_,rfl,by rfl,by rfl,by first|assumption | exact decide_eq_true (by assumption) | exact decide_eq_false (by assumption) | rfl⟩) (fun X h' [_]=>oq) ?_
      | refine agF (by rfl) (by rfl) (by rfl) (by first|assumption | exact decide_eq_true (by assumption) | exact decide_eq_false (by assumption) | rfl) ?_
      | refine agU (by rfl) (by rfl) (by rfl) ?_
     exact x.out)):G:=h ⟨k⟩
abbrev Nn (i:Nat):Nat × Bool:=(i,false)
abbrev Yy (i:Nat):Nat × Bool:=(i,true)
section
variable {P:Program} {M:Jdg→Prop} [hM:IsCl P M] {n:Nat} {Q:Qf} {L L':Locals} {O R A B W W':Own} {h:PHeap} {ops rest:List Oper} {dsts:List (Option Nat)} {anc:List (List Nat)} {m:Nat} {π:List (Nat × Bool)} {acc:Acc}
  {d:Option Nat} {ty:TypeId} {pos:String} {af:Array Edge} {g:Option (Nat × Bool)} {op:Op} {i:Nat} {v u:Value} {f:FuncId} {args:Array Operand} {ats:Array TypeId} {vs:List Value} {RR:Value→Own→Prop}
theorem Sd [hX:Mixed P] {id:Nat} (anc:List (List Nat)) (m:Nat) (π:List (Nat × Bool)) (x:anyO P M n ops (dstsOf ops) anc m (hf Q) L O [] [] h π) (he:edgesOk ops.toArray = true:=by kernel_rfl) (ha:ancOkX ops [] anc = true:=by kernel_rfl) (hd:dstsOk n (dstsOf ops) = true:=by kernel_rfl) (hπ:piOk anc m ops.length π = true:=by kernel_rfl):(Code.region id ops.toArray true).sf P M n Q L O h:=
  sf_draw he (regX_run anc m π ha hd hπ x)
theorem Sr [hX:Mixed P] {X:List (Nat × Nat)} (anc:List (List Nat)) (m:Nat) (π:List (Nat × Bool)) (x:anyO P M n ops (dstsOf ops) anc m (hf Q) L O [] [] h π) (ha:ancOkX ops X anc = true:=by kernel_rfl) (hd:dstsOk n (dstsOf ops) = true:=by kernel_rfl) (hπ:piOk anc m ops.length π = true:=by kernel_rfl):RegX P M n ops X (hf Q) L O h:=
  regX_run anc m π ha hd hπ x
theorem Sw [hX:Mixed P] {X:List (Nat × Nat)} (anc:List (List Nat)) (m:Nat) (π:List (Nat × Bool)) (x:anyO P M n ops (dstsOf ops) anc m (hf Q) L O [] W h π) (ha:ancOkX ops X anc = true:=by kernel_rfl) (hd:dstsOk n (dstsOf ops) = true:=by kernel_rfl) (hπ:piOk anc m ops.length π = true:=by kernel_rfl):RegX P M n ops X (hf Q) L (W++O) h:=
  regX_runW W anc m π ha hd hπ x
omit hM in
theorem Ae (x:sfOps P M n ops.toArray Q rest L' (W++O) h) (hr:ops.drop m = rest:=by first|(simp only [List.drop_succ_cons,List.drop_zero]; rfl) | rfl) (hL:finA acc L = L':=by first|(simp only [finA,setL]; rfl) | rfl):anyO P M n ops dsts anc m (hf Q) L O acc W h []:=a_end hr hL x
omit hM in
theorem Yq (hi:ops[i]? = some ⟨d,op,ty,pos,af,g⟩) (x:∀ X h' [Le h h'],Opq P n ⟨d,op,ty,pos,af,g⟩ (locA dsts anc acc L i) (X++O) h' v) (k:anyO P M n ops dsts anc m (hf Q) L O ((i,d,v) :: acc) W h π) (hg:GA anc acc i g:=by first|exact .inl rfl | exact .inr ⟨_,_,_,_,rfl,by rfl,by rfl,by first|assumption | exact decide_eq_true (by assumption) | exact decide_eq_false (by assumption) | rfl⟩):anyO P M n ops dsts anc m (hf Q) L O acc W h ((i,false) :: π):=aq hi hg x k
omit hM in
theorem Yc [Fu:Fun P f] (C:CallF P M f vs A h RR) (k:∀ v A',RR v A'→anyO P M n ops dsts anc m (hf Q) L O ((i,d,v) :: acc) (A'++R) h π) [sp:Sp W A R] (hi:ops[i]? = some ⟨d,.call { callee:=.value (.func f),args,argTypes:=ats },ty,pos,af,g⟩:=by rfl) (hv:evAll (locA dsts anc acc L i) args.toList = some vs:=by rfl) (hg:GA anc acc i g:=by first|exact .inl rfl | exact .inr ⟨_,_,_,_,rfl,by rfl,by rfl,by first|assumption | exact decide_eq_true (by assumption) | exact decide_eq_false (by assumption) | rfl⟩):anyO P M n ops dsts anc m (hf Q) L O acc W h ((i,true) :: π):=a_call C hi hv hg k
omit hM in
theorem Yv [Fu:Fun P f] (C:CallV P M f vs h v) (k:anyO P M n ops dsts anc m (hf Q) L O ((i,d,v) :: acc) W h π) (hi:ops[i]? = some ⟨d,.call { callee:=.value (.func f),args,argTypes:=ats },ty,pos,af,g⟩:=by rfl) (hv:evAll (locA dsts anc acc L i) args.toList = some vs:=by rfl) (hg:GA anc acc i g:=by first|exact .inl rfl | exact .inr ⟨_,_,_,_,rfl,by rfl,by rfl,by first|assumption | exact decide_eq_true (by assumption) | exact decide_eq_false (by assumption) | rfl⟩):anyO P M n ops dsts anc m (hf Q) L O acc W h ((i,true) :: π):=a_callV C hi hv hg k
end
section
variable {P:Program} {M:Jdg→Prop} [hM:IsCl P M] {n:Nat} {Q:Qf} {L:Locals} {O R A B W:Own} {h:PHeap} {ops:List Oper} {dsts:List (Option Nat)} {anc:List (List Nat)} {m:Nat} {π:List (Nat × Bool)} {acc:Acc}
  {d:Nat} {ty:TypeId} {pos:String} {af:Array Edge} {g:Option (Nat × Bool)} {i:Nat} {v u:Value} {t e:TypeId} {D D':TypeDesc} {size bytes size' bytes':Nat} {zero zero':Value} {α:Type} {fl:Flat α} {cs:List Value} {xs ys:List α} {x y:Operand}
omit hM in
theorem Ym {kl:Nat} {x0:α} (k:∀ v A,Gr A v e fl (List.replicate kl x0)→anyO P M n ops dsts anc m (hf Q) L O ((i,some d,v) :: acc) (A++W) h π) (hi:ops[i]? = some ⟨some d,.makeSlice t x y,ty,pos,af,g⟩:=by rfl) (hl:ev (locA dsts anc acc L i) x = some (.int .i64 (kl:Int)):=by rfl) (hc:ev (locA dsts anc acc L i) y = some (.int .i64 (kl:Int)):=by rfl) (S:Ty P t (.slice e) size' bytes' zero':=by infer_instance) (Te:Ty P e D size bytes zero:=by infer_instance) (F:ElemF P e fl:=by infer_instance) (zc:CellsOf zero cs:=by infer_instance) (zf:ToFlat fl cs x0:=by infer_instance) (hsz:fl.sz = size:=by rfl) (h0:0 < size:=by decide) (hb:bytes * kl ≤ 281474976710656∧kl ≤ 281474976710656:=by omega) (hg:GA anc acc i g:=by first|exact .inl rfl | exact .inr ⟨_,_,_,_,rfl,by rfl,by rfl,by first|assumption | exact decide_eq_true (by assumption) | exact decide_eq_false (by assumption) | rfl⟩):anyO P M n ops dsts anc m (hf Q) L O acc W h ((i,true) :: π):=
  a_make hi hl hc S Te F zc zf hsz h0 hb hg k
omit hM in
theorem Yb {parts:Array (Nat × Operand)} {ps:List (Nat × Value)} {len:Nat} (k:∀ v A,Gr A v e fl xs→anyO P M n ops dsts anc m (hf Q) L O ((i,some d,v) :: acc) (A++W) h π) (hi:ops[i]? = some ⟨some d,.buildSlice t len parts,ty,pos,af,g⟩:=by rfl) (hp:evParts (locA dsts anc acc L i) parts.toList = some ps:=by rfl) (T:Ty P t (.slice e) size' bytes' zero':=by infer_instance) (Te:Ty P e D size bytes zero:=by infer_instance) (F:ElemF P e fl:=by infer_instance) (el:ElemsF fl 0 ps xs:=by infer_instance) (hl:Nat.beq ps.length len = true:=by rfl) (hs:Nat.ble (len * size) 16777216 = true:=by rfl) (hz:fl.sz = size:=by rfl) (h0:0 < size:=by decide) (hg:GA anc acc i g:=by first|exact .inl rfl | exact .inr ⟨_,_,_,_,rfl,by rfl,by rfl,by first|assumption | exact decide_eq_true (by assumption) | exact decide_eq_false (by assumption) | rfl⟩):anyO P M n ops dsts anc m (hf Q) L O acc W h ((i,true) :: π):=
  a_bs hi hp T Te F el hl hs hz h0 hg k
omit hM in
theorem Ys {args:Array Operand} {ats:Array TypeId} (gr:Gr A v e fl xs) (gu:Sl h u fl ys) (k:∀ v' A',Gr A' v' e fl (xs++ys)→anyO P M n ops dsts anc m (hf Q) L O ((i,some d,v') :: acc) (A'++R) h π) [sp:Sp W A R] (hi:ops[i]? = some ⟨some d,.call { callee:=.builtin .append,args,argTypes:=ats },ty,pos,af,g⟩:=by rfl) (hv:evAll (locA dsts anc acc L i) args.toList = some [v,u]:=by rfl) (ht:ats.toList = [t,t]:=by rfl) (S:Ty P t (.slice e) size' bytes' zero':=by infer_instance) (Te:Ty P e D size bytes zero:=by infer_instance) (one:∀ y ∈ ys,allOne (fl.f y) = true:=by exact fun y _=>FlatOne.one y) (hz:zero.cells.size = size:=by rfl) (hsz:fl.sz = size:=by rfl) (hb:(xs.length + ys.length) * bytes ≤ 140737488355328:=by simp; omega) (h63:xs.length + ys.length ≤ 4611686018427387904:=by simp; omega) (hg:GA anc acc i g:=by first|exact .inl rfl | exact .inr ⟨_,_,_,_,rfl,by rfl,by rfl,by first|assumption | exact decide_eq_true (by assumption) | exact decide_eq_false (by assumption) | rfl⟩):anyO P M n ops dsts anc m (hf Q) L O acc W h ((i,true) :: π):=
  a_appendS hi hv ht gr gu S Te one hz hsz hb h63 hg k
end
section
variable {P:Program} {M:Jdg→Prop} [hM:IsCl P M] {n:Nat} {Q:Qf} {L:Locals} {O R A B:Own} {h:PHeap} {ops:Array Oper} {rest:List Oper}
  {d:Nat} {ty:TypeId} {pos:String} {af:Array Edge} {g:Option (Nat × Bool)} {v u:Value} {t e:TypeId} {D D':TypeDesc} {size bytes size' bytes' off:Nat} {zero zero':Value} {α:Type} {fl:Flat α} {cs l l' vs:List Value} {xs ys:List α} {x y:Operand} {T':TypeId} {f:FuncId} {args:Array Operand} {ats:Array TypeId} {RR:Value→Own→Prop}
theorem Xc [Fu:Fun P f] (C:CallF P M f vs A h RR) (k:∀ v A',RR v A'→sfOps P M n ops Q rest ((d,v) :: L) (A'++R) h) [sp:Sp O A R] (hv:evAll L args.toList = some vs:=by rfl) (hd:dstOk n (some d) = true:=by rfl) (hg:GOk ops L g:=by first|exact .inl rfl | exact .inr ⟨_,_,_,_,rfl,by rfl,by rfl,by first|assumption | exact decide_eq_true (by assumption) | exact decide_eq_false (by assumption) | rfl⟩):sfOps P M n ops Q (⟨some d,.call { callee:=.value (.func f),args,argTypes:=ats },ty,pos,af,g⟩ :: rest) L O h:=fp (y_call C hv k) hd hg
theorem Xv [Fu:Fun P f] (C:CallV P M f vs h v) (k:sfOps P M n ops Q rest ((d,v) :: L) O h) (hv:evAll L args.toList = some vs:=by rfl) (hd:dstOk n (some d) = true:=by rfl) (hg:GOk ops L g:=by first|exact .inl rfl | exact .inr ⟨_,_,_,_,rfl,by rfl,by rfl,by first|assumption | exact decide_eq_true (by assumption) | exact decide_eq_false (by assumption) | rfl⟩):sfOps P M n ops Q (⟨some d,.call { callee:=.value (.func f),args,argTypes:=ats },ty,pos,af,g⟩ :: rest) L O h:=fp (y_callV C hv k) hd hg
theorem Xm {kl:Nat} {x0:α} (k:∀ v A,Gr A v e fl (List.replicate kl x0)→sfOps P M n ops Q rest ((d,v) :: L) (A++O) h) [S:Ty P t (.slice e) size' bytes' zero'] [Te:Ty P e D size bytes zero] [F:ElemF P e fl] [zc:CellsOf zero cs] [zf:ToFlat fl cs x0] (hl:ev L x = some (.int .i64 (kl:Int)):=by rfl) (hc:ev L y = some (.int .i64 (kl:Int)):=by rfl) (hsz:fl.sz = size:=by rfl) (h0:0 < size:=by decide) (hb:bytes * kl ≤ 281474976710656∧kl ≤ 281474976710656:=by omega) (hd:dstOk n (some d) = true:=by rfl) (hg:GOk ops L g:=by first|exact .inl rfl | exact .inr ⟨_,_,_,_,rfl,by rfl,by rfl,by first|assumption | exact decide_eq_true (by assumption) | exact decide_eq_false (by assumption) | rfl⟩):sfOps P M n ops Q (⟨some d,.makeSlice t x y,ty,pos,af,g⟩ :: rest) L O h:=fp (y_make hl hc hsz h0 hb k) hd hg
theorem Xb {parts:Array (Nat × Operand)} {ps:List (Nat × Value)} {len:Nat} (k:∀ v A,Gr A v e fl xs→sfOps P M n ops Q rest ((d,v) :: L) (A++O) h) [T:Ty P t (.slice e) size' bytes' zero'] [Te:Ty P e D size bytes zero] [F:ElemF P e fl] [el:ElemsF fl 0 ps xs] (hp:evParts L parts.toList = some ps:=by rfl) (hl:Nat.beq ps.length len = true:=by rfl) (hs:Nat.ble (len * size) 16777216 = true:=by rfl) (hz:fl.sz = size:=by rfl) (h0:0 < size:=by decide) (hd:dstOk n (some d) = true:=by rfl) (hg:GOk ops L g:=by first|exact .inl rfl | exact .inr ⟨_,_,_,_,rfl,by rfl,by rfl,by first|assumption | exact decide_eq_true (by assumption) | exact decide_eq_false (by assumption) | rfl⟩):sfOps P M n ops Q (⟨some d,.buildSlice t len parts,ty,pos,af,g⟩ :: rest) L O h:=fp (y_bs hp hl hs hz h0 k) hd hg
theorem Xa (gr:Gr A v e fl xs) (gu:Gr B u e fl ys) (k:∀ v' A',Gr A' v' e fl (xs++ys)→sfOps P M n ops Q rest ((d,v') :: L) (A'++R) h) [S:Ty P t (.slice e) size' bytes' zero'] [Te:Ty P e D size bytes zero] [sp:Sp O (A++B) R] (hv:evAll L args.toList = some [v,u]:=by rfl) (ht:ats.toList = [t,t]:=by rfl) (one:∀ y ∈ ys,allOne (fl.f y) = true:=by exact fun y _=>FlatOne.one y) (hz:zero.cells.size = size:=by rfl) (hsz:fl.sz = size:=by rfl) (hb:(xs.length + ys.length) * bytes ≤ 140737488355328:=by simp; omega) (h63:xs.length + ys.length ≤ 4611686018427387904:=by simp; omega) (hd:dstOk n (some d) = true:=by rfl) (hg:GOk ops L g:=by first|exact .inl rfl | exact .inr ⟨_,_,_,_,rfl,by rfl,by rfl,by first|assumption | exact decide_eq_true (by assumption) | exact decide_eq_false (by assumption) | rfl⟩):sfOps P M n ops Q (⟨some d,.call { callee:=.builtin .append,args,argTypes:=ats },ty,pos,af,g⟩ :: rest) L O h:=fp (y_append hv ht gr gu one hz hsz hb h63 k) hd hg
theorem Xs (gr:Gr A v e fl xs) (gu:Sl h u fl ys) (k:∀ v' A',Gr A' v' e fl (xs++ys)→sfOps P M n ops Q rest ((d,v') :: L) (A'++R) h) [S:Ty P t (.slice e) size' bytes' zero'] [Te:Ty P e D size bytes zero] [sp:Sp O A R] (hv:evAll L args.toList = some [v,u]:=by rfl) (ht:ats.toList = [t,t]:=by rfl) (one:∀ y ∈ ys,allOne (fl.f y) = true:=by exact fun y _=>FlatOne.one y) (hz:zero.cells.size = size:=by rfl) (hsz:fl.sz = size:=by rfl) (hb:(xs.length + ys.length) * bytes ≤ 140737488355328:=by simp; omega) (h63:xs.length + ys.length ≤ 4611686018427387904:=by simp; omega) (hd:dstOk n (some d) = true:=by rfl) (hg:GOk ops L g:=by first|exact .inl rfl | exact .inr ⟨_,_,_,_,rfl,by rfl,by rfl,by first|assumption | exact decide_eq_true (by assumption) | exact decide_eq_false (by assumption) | rfl⟩):sfOps P M n ops Q (⟨some d,.call { callee:=.builtin .append,args,argTypes:=ats },ty,pos,af,g⟩ :: rest) L O h:=fp (y_appendS hv ht gr gu one hz hsz hb h63 k) hd hg
theorem Xg [Inhabited α] {j sz:Nat} {z:α} (gr:Gr A v T' fl xs) (k:∀ A' ys,ys = xs.set j z→ys.length = xs.length→FlatV fl (gt ys j) vs→Gr A' v T' fl ys→sfOps P M n ops Q rest L (A'++R) h) [T:Ty P t D size bytes zero] [sp:Sp O A R] [c:CellsOf u vs] [nl:LenR vs size] [ao:AllOne vs] [tf:ToFlat fl vs z] (hx:ev L x = some (.pointer (some ⟨vb v,vo v + j * sz + 0,none⟩)):=by rfl) (hy:ev L y = some u:=by rfl) (hj:j < xs.length:=by omega) (hz:fl.sz = sz:=by rfl) (hd:dstOk n (none) = true:=by rfl) (hg:GOk ops L g:=by first|exact .inl rfl | exact .inr ⟨_,_,_,_,rfl,by rfl,by rfl,by first|assumption | exact decide_eq_true (by assumption) | exact decide_eq_false (by assumption) | rfl⟩):sfOps P M n ops Q (⟨none,.store t x y,ty,pos,af,g⟩ :: rest) L O h:=fp (y_storeG0 hx hy gr hj hz k) hd hg
theorem Xh [Inhabited α] {j sz:Nat} {z:α} (gr:Gr A v T' fl xs) (k:∀ A' ys,ys = xs.set j z→ys.length = xs.length→FlatV fl (gt ys j) l'→Gr A' v T' fl ys→sfOps P M n ops Q rest L (A'++R) h) [T:Ty P t D size bytes zero] [sp:Sp O A R] [f:FlatV fl (gt xs j) l] [c:CellsOf u vs] [nl:LenR vs size] [ao:AllOne vs] [s:SetR l off vs l'] [tf:ToFlat fl l' z] (hx:ev L x = some (.pointer (some ⟨vb v,vo v + j * sz + off,none⟩)):=by rfl) (hy:ev L y = some u:=by rfl) (hj:j < xs.length:=by omega) (hz:fl.sz = sz:=by rfl) (hd:dstOk n (none) = true:=by rfl) (hg:GOk ops L g:=by first|exact .inl rfl | exact .inr ⟨_,_,_,_,rfl,by rfl,by rfl,by first|assumption | exact decide_eq_true (by assumption) | exact decide_eq_false (by assumption) | rfl⟩):sfOps P M n ops Q (⟨none,.store t x y,ty,pos,af,g⟩ :: rest) L O h:=fp (y_storeG hx hy gr hj hz k) hd hg
theorem Cs {fn:Func} {c:Code} {R:Value→Own→Prop} {E:List PanicEntry→Own→Prop} (hf:P.funcs[f]? = some fn) (hn:fn.ntmps = n) (x:c.sf P M n (retF P fn n R E) L O h) (hb:fn.body = some c:=by rfl) (hL:argsL 0 vs = L:=by first|(simp only [argsL,Nat.reduceAdd]; rfl) | rfl) (hsz:Nat.ble vs.length n = true:=by rfl):CallF P M f vs O h R E:=by subst hL; exact calls_of_sf hf hb hn x hsz
end
end Go.Sl

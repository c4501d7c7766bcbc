/- Arguments that read as data, opened; the post where old memory stands. No program. -/
import Derived.Test.YtcpkcmgjfcbnpaaGreatDoorSmP
import Derived.HandedShaped
set_option linter.unusedVariables false
set_option linter.unusedSimpArgs false
set_option linter.unusedSectionVars false

namespace Go.Sl
open Go Go.Conc PHeap
open Go.ChangeShapes Go.WideShapes Go.RowKit
section
variable {P:Program} {W:World} {H:Type} {enc:TypeId × Value→H} {base:Nat} {spare:Nat→Bool} {held:Bool}
theorem allOf_cell (W:World) (a:Addr):(allOf W).cell a = W.cell? a:=by
  unfold PHeap.cell World.cell? allOf
  rfl
theorem cellsOf_ty {t:TypeId} {D:TypeDesc} {size bytes:Nat} {zero:Value} [T:Ty P t D size bytes zero]:P.cellsOf t = size:=by
  have:=T.inf
  unfold Program.cellsOf
  cases e:P.info? t with
  | none=>rw [e] at this; cases this
  | some i=>rw [e] at this; simp at this; simp [this.1]
theorem bytesOf_ty {t:TypeId} {D:TypeDesc} {size bytes:Nat} {zero:Value} [T:Ty P t D size bytes zero]:P.bytesOf t = bytes:=by
  have:=T.inf
  unfold Program.bytesOf
  cases e:P.info? t with
  | none=>rw [e] at this; cases this
  | some i=>rw [e] at this; simp at this; simp [this.2.1]
class OpensF (P:Program) (t:TypeId) {α:Type} (E:Flat α):Prop where
  op:∀ {H:Type} {enc:TypeId × Value→H} {W:World} {fuel:Nat} {cs:List Value} {x:DataW H × List MemPlace},DataW.trod enc P W 0 (fun _=>true) true fuel t cs = some x→∃ a,cs = E.f a
theorem mapM_get {α β:Type} {f:α→Option β}:∀ {l:List α} {ys:List β},l.mapM f = some ys→ys.length = l.length∧∀ (i:Nat) (a:α),l[i]? = some a→f a = ys[i]?
  | [],ys,h=>by simp at h; subst h; simp
  | a :: l,ys,h=>by
    rw [List.mapM_cons] at h
    simp only [Option.bind_eq_bind,Option.bind_eq_some_iff,Option.pure_def,Option.some.injEq] at h
    obtain ⟨y,e1,zs,e2,rfl⟩:=h
    obtain ⟨k1,k2⟩:=mapM_get e2
    refine ⟨by simp [k1],fun i a' hi=>?_⟩
    cases i with
    | zero=>simp at hi; subst hi; simpa using e1
    | succ i=>simpa using k2 i a' (by simpa using hi)
theorem cells_at {b off n:Nat} {cs:List Value} (h:W.cells? 0 ⟨b,off,none⟩ n = some cs):cs.length = n∧Cells (allOf W) ⟨b,off,none⟩ cs:=by
  unfold World.cells? at h
  rw [if_pos (Nat.zero_le _)] at h
  obtain ⟨h1,h2⟩:=mapM_get h
  refine ⟨by simpa using h1,fun j v e=>?_⟩
  have hj:j < n:=by
    have:=(List.getElem?_eq_some_iff.1 e).1
    simpa using (by rw [h1] at this; simpa using this)
  rw [allOf_cell,h2 j j (by simp [hj]),e]
theorem weights_mem_all {H:Type} {P:Program} {e:TypeId}:∀ {ds:List (DataW H)} {d:DataW H},d ∈ ds→∀ m ∈ d.weights P e,m ∈ DataW.weightsAll P e ds
  | d0 :: ds,d,hd,m,hm=>by
    rw [DataW.weightsAll,List.mem_append]
    rcases List.mem_cons.1 hd with rfl | h
    · exact .inl hm
    · exact .inr (weights_mem_all h m hm)
theorem trod_elems {t e : TypeId} {size bytes size' bytes' : Nat} {zero zero' : Value} {D : TypeDesc} [T : Ty P t (.slice e) size bytes zero] [T' : Ty P e D size' bytes' zero']
    {cs:List Value} {fuel:Nat} {x:DataW H × List MemPlace} (hz:0 < size') (hb:0 < bytes') (h:DataW.trod enc P W 0 (fun _=>true) true fuel t cs = some x) (hw:∀ m ∈ x.1.weights P t,m ≤ reachBytes) :
    ∃ (v:Value) (n:Nat) (l:List (List Value)),cs = [v]∧l.length ≤ 281474976710656∧(∀ c ∈ l,c.length = size'∧∃ y,DataW.trod enc P W 0 (fun _=>true) true n e c = some y∧∀ m ∈ y.1.weights P e,m ≤ reachBytes) ∧
      ((∃ a,v = .slice a 0 0∧l = []) ∨ ∃ cap,v = .slice (some ⟨vb v,vo v,none⟩) l.length cap∧l.length ≤ cap∧∀ i c,l[i]? = some c→Cells (allOf W) ⟨vb v,vo v + i * size',none⟩ c):=by
  have hh:=DataW.trod_slice T.und h
  clear h
  rcases hh with ⟨rfl,_⟩ | ⟨a,len,cap,elems,rest,n,_,rfl,rfl,_,hle,hcap,hel,hget,hrest,_⟩
  · exact ⟨_,0,[],rfl,by simp,by simp,.inl ⟨none,rfl,rfl⟩⟩
  · have hc:P.cellsOf e = size':=cellsOf_ty (T:=T')
    have hre:=hrest rfl
    by_cases h0:cap = 0
    · subst h0
      obtain rfl:len = 0:=by omega
      exact ⟨_,0,[],rfl,by simp,by simp,.inl ⟨_,rfl,rfl⟩⟩
    have hsp:a.spot = none:=by
      have g0:∃ cs0,W.cells? 0 (a.add (0 * P.cellsOf e)) (P.cellsOf e) = some cs0:=by
        by_cases hl0:len = 0
        · have g:=hre.2 0 (by omega)
          have hlt:0 < rest.length:=by rw [hre.1]; omega
          rw [List.getElem?_eq_getElem hlt,hl0] at g
          obtain ⟨cs,h1,_⟩:=Option.bind_eq_some_iff.1 g
          exact ⟨cs,by simpa using h1⟩
        · have g:=hget 0 (by omega)
          have hlt:0 < elems.length:=by omega
          rw [List.getElem?_eq_getElem hlt] at g
          obtain ⟨cs,h1,_⟩:=Option.bind_eq_some_iff.1 g
          exact ⟨cs,h1⟩
      obtain ⟨cs0,g0⟩:=g0
      rw [Nat.zero_mul,hc] at g0
      unfold World.cells? at g0
      rw [if_pos (Nat.zero_le _)] at g0
      obtain ⟨k1,k2⟩:=mapM_get g0
      have:=k2 0 0 (by simp [hz])
      have hc0:0 < cs0.length:=by rw [k1]; simpa using hz
      rw [List.getElem?_eq_getElem hc0] at this
      simp only [Addr.add,if_true] at this
      unfold World.cell? at this
      split at this
      · by_cases hs:a.spot.isSome = true
        · rw [if_pos hs] at this; cases this
        · simpa using hs
      · cases this
    obtain ⟨b,off,spot⟩:=a
    obtain rfl:spot = none:=hsp
    have k:∀ i,i < len→∃ c,(c.length = size'∧Cells (allOf W) ⟨b,off + i * size',none⟩ c)∧∃ y,DataW.trod enc P W 0 (fun _=>true) true n e c = some y∧∀ m ∈ y.1.weights P e,m ≤ reachBytes:=by
      intro i hi
      have g:=hget i hi
      have hlt:i < elems.length:=by omega
      have hs:elems[i]? = some (elems[i]'hlt):=List.getElem?_eq_getElem _
      rw [hs,hc,add_none] at g
      obtain ⟨cs,h1,h2⟩:=Option.bind_eq_some_iff.1 g
      refine ⟨cs,cells_at h1,_,h2,fun m hm=>hw m ?_⟩
      simp only [DataW.weights,T.und]
      refine List.mem_cons_of_mem _ (List.mem_append_left _ ?_)
      exact weights_mem_all (List.mem_map.2 ⟨_,List.getElem_mem hlt,rfl⟩) m hm
    obtain ⟨g,hg⟩:∃ g:∀ i,i < len→List Value,∀ i (hi:i < len),((g i hi).length = size'∧Cells (allOf W) ⟨b,off + i * size',none⟩ (g i hi))∧∃ y,DataW.trod enc P W 0 (fun _=>true) true n e (g i hi) = some y∧∀ m ∈ y.1.weights P e,m ≤ reachBytes:=
      ⟨fun i hi=>Classical.choose (k i hi),fun i hi=>Classical.choose_spec (k i hi)⟩
    refine ⟨_,n,(List.range len).pmap g (fun i hi=>by simpa using hi),rfl,?_,?_,.inr ⟨cap,by simp [vb,vo],by simpa using hle,fun i x hx=>?_⟩⟩
    · have hb':P.bytesOf e = bytes':=bytesOf_ty (T:=T')
      have hm:=hw ((elems.length + rest.length) * P.bytesOf e) (by simp [DataW.weights,T.und])
      rw [hb'] at hm
      have h1:elems.length + rest.length ≤ (elems.length + rest.length) * bytes':=Nat.le_mul_of_pos_right _ hb
      have h2:reachBytes ≤ 281474976710656:=by decide
      simp; omega
    · intro c hc
      obtain ⟨i,hi,rfl⟩:=List.mem_pmap.1 hc
      have:=hg i (by simpa using hi)
      exact ⟨this.1.1,this.2⟩
    · rw [List.getElem?_pmap] at hx
      have hi:i < len:=by
        rcases Nat.lt_or_ge i len with y | y
        · exact y
        · simp [List.getElem?_range,Nat.not_lt.2 y] at hx
      simp [List.getElem?_range,hi] at hx
      subst hx
      exact (hg i hi).1.2
theorem opens_slF {t e : TypeId} {size bytes size' bytes' : Nat} {zero zero' : Value} {D : TypeDesc} {α : Type} {E : Flat α} [T : Ty P t (.slice e) size bytes zero] [T' : Ty P e D size' bytes' zero'] [O : OpensF P e E] (hE : E.sz = size') (hz : 0 < size')
    {cs:List Value} {fuel:Nat} {x:DataW H × List MemPlace} (hb:0 < bytes') (h:DataW.trod enc P W 0 (fun _=>true) true fuel t cs = some x) (hw:∀ m ∈ x.1.weights P t,m ≤ reachBytes):∃ v xs,cs = [v]∧Sl (allOf W) v E xs:=by
  obtain ⟨v,n,l,rfl,hl,hc,hr⟩:=trod_elems (T:=T) (T':=T') hz hb h hw
  have k:∀ c ∈ l,∃ y,c = E.f y:=fun c hm=>by
    obtain ⟨_,y,hy,_⟩:=hc c hm
    exact O.op hy
  refine ⟨v,l.pmap (fun c hm=>Classical.choose (k c hm)) (fun c hm=>hm),rfl,by simpa using hl,?_⟩
  rcases hr with ⟨a,rfl,rfl⟩ | ⟨cap,e1,e2,e3⟩
  · exact .inl ⟨_,rfl,rfl⟩
  · refine .inr ⟨cap,by simpa using e1,by simpa using e2,fun i y hy=>?_⟩
    rw [List.getElem?_pmap] at hy
    obtain ⟨c,hi,he⟩:∃ c,l[i]? = some c∧c = E.f y:=by
      cases hi:l[i]? with
      | none=>simp [hi] at hy
      | some c=>
        simp [hi] at hy
        refine ⟨c,rfl,?_⟩
        rw [← hy]
        exact Classical.choose_spec (k c (List.mem_of_getElem? hi))
    subst he
    have:=e3 i _ hi
    rwa [← hE] at this
section
variable {τ:Tys} {t t1 t2 t3 t4:TypeId} {D:TypeDesc} {bytes:Nat} {zero:Value}
end
end
end Go.Sl

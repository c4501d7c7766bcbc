/- Rules of a calculus of our own, no program: SlA SlB SlC SlD SlF SlG SlH SlI SlJ SlL SlM SlN SlBx SmA SmB SmC SmD SmV. -/
import Derived.Conc.Own3
import Derived.Laws.Sem
import Derived.Laws.Append
import Derived.Laws.AppendOwn
set_option linter.unusedVariables false
set_option linter.unusedSimpArgs false
set_option linter.unusedSectionVars false
namespace Go.Sl
open Go Go.Conc
structure PHeap where
  obj:Nat→Option Obj
  wr:Nat→Bool
  /-- Where the goroutine stands among others: no operation of its own turns it. -/
  gh:List Nat
namespace PHeap
def cell (h:PHeap) (a:Addr):Option Value:=
  match h.obj a.block with
  | some (.cells c _ _)=>if a.spot.isSome then none else c[a.off]?
  | _=>none
def frozen (h:PHeap) (a:Addr):Bool:=
  match h.obj a.block with
  | some (.cells _ _ (lo,hi))=>lo ≤ a.off && a.off < hi
  | _=>false
def shape (h:PHeap) (r:Nat):Option (TypeId × Nat):=
  match h.obj r with
  | some (.cells c elem _)=>some (elem,c.size)
  | _=>none
def put (h:PHeap) (r:Nat) (o:Obj):PHeap:=
  { obj:=fun b=>if b = r then some o else h.obj b,wr:=fun b=>if b = r then true else h.wr b,gh:=h.gh }
def upd (h:PHeap) (r:Nat) (f:Obj→Obj):PHeap:=
  { obj:=fun b=>if b = r then (h.obj b).map f else h.obj b,wr:=h.wr,gh:=h.gh }
def cellsSet (a:Addr) (v:Value):Obj→Obj
  | .cells c elem fr=>.cells (if a.spot.isSome then c else c.setIfInBounds a.off v) elem fr
  | o=>o
def cellsFreeze (a:Addr) (n:Nat):Obj→Obj
  | .cells c elem (lo,hi)=>.cells c elem (if lo == hi then (a.off,a.off + n) else (min lo a.off,max hi (a.off + n)))
  | o=>o
def setCell (h:PHeap) (a:Addr) (v:Value):PHeap:=h.upd a.block (cellsSet a v)
def freeze (h:PHeap) (a:Addr) (n:Nat):PHeap:=if n = 0 then h else h.upd a.block (cellsFreeze a n)
def le (h h':PHeap):Prop:=∀ b o,h.obj b = some o→h'.obj b = some o∧h'.wr b = h.wr b
instance:LE PHeap:=⟨PHeap.le⟩
theorem le_refl (h:PHeap):h ≤ h:=fun _ _ e=>⟨e,rfl⟩
theorem le_trans {a b c:PHeap} (x:a ≤ b) (y:b ≤ c):a ≤ c:=fun r o e=>
  ⟨(y r o (x r o e).1).1,(y r o (x r o e).1).2.trans (x r o e).2⟩
theorem le_put {h:PHeap} {r:Nat} {o:Obj} (hr:h.obj r = none):h ≤ h.put r o:=fun b x e=>by
  have:b ≠ r:=fun e'=>by rw [e',hr] at e; cases e
  simp [put,this,e]
theorem le_put_of {h0 h:PHeap} {r:Nat} {o:Obj} (hl:h0 ≤ h) (hr:h0.obj r = none):h0 ≤ h.put r o:=fun b x e=>by
  have:b ≠ r:=fun e'=>by rw [e',hr] at e; cases e
  simp [put,this,(hl b x e).1,(hl b x e).2]
theorem le_none {h h':PHeap} {r:Nat} (hl:h ≤ h') (hr:h'.obj r = none):h.obj r = none:=by
  cases e:h.obj r with
  | none=>rfl
  | some o=>rw [(hl r o e).1] at hr; cases hr
end PHeap
open PHeap
def Sat (w:World) (h:PHeap):Prop:=∀ b o,h.obj b = some o→w.heap[b]? = some o
theorem Sat.lt {w:World} {h:PHeap} (s:Sat w h) {b:Nat} {o:Obj} (e:h.obj b = some o):b < w.heap.size:=
  (Array.getElem?_eq_some_iff.1 (s b o e)).1
theorem Sat.fresh {w:World} {h:PHeap} (s:Sat w h):h.obj w.heap.size = none:=by
  cases e:h.obj w.heap.size with
  | none=>rfl
  | some o=>have:=s.lt e; omega
theorem Sat.cell {w:World} {h:PHeap} (s:Sat w h) {a:Addr} {v:Value} (e:h.cell a = some v):w.cell? a = some v:=by
  unfold PHeap.cell at e
  unfold World.cell?
  split at e
  · rename_i c x y hb; rw [s _ _ hb]; exact e
  · cases e
theorem Sat.frozen {w:World} {h:PHeap} (s:Sat w h) {a:Addr} {o:Obj} (e:h.obj a.block = some o):w.frozen? a = h.frozen a:=by
  have:=s _ _ e
  unfold PHeap.frozen World.frozen?
  simp only [this,e]
  cases o <;> rfl
theorem Sat.shape {w:World} {h:PHeap} (s:Sat w h) {r:Nat} {x:TypeId × Nat} (e:h.shape r = some x):w.shape? r = some x:=by
  unfold PHeap.shape at e
  unfold World.shape?
  split at e
  · rename_i c t y hb; rw [s _ _ hb]; exact e
  · cases e
theorem cell_obj {h:PHeap} {a:Addr} {v:Value} (e:h.cell a = some v):∃ o,h.obj a.block = some o:=by
  unfold PHeap.cell at e
  split at e
  · rename_i c x y hb; exact ⟨_,hb⟩
  · cases e
def EvOk (h:PHeap) (n:Nat) (e:Event):Prop:=
  match e.loc with
  | .cell a=>e.sync = false∧((h.obj a.block).isSome = true ∨ n ≤ a.block)∧(e.write = true→h.wr a.block = true ∨ n ≤ a.block)
  | .obj r=>((h.obj r).isSome = true ∨ n ≤ r)∧(e.write = true→h.wr r = true ∨ n ≤ r)
  | .mark (.extern _)=>True
  | .mark .noRoom=>True
  | _=>False
def EvLt (m:Nat) (e:Event):Prop:=
  match e.loc with
  | .cell a=>a.block < m
  | .obj r=>r < m
  | _=>True
theorem EvLt.mono {m m':Nat} (h:m ≤ m') {e:Event} (x:EvLt m e):EvLt m' e:=by
  unfold EvLt at x ⊢
  split at x <;> first|(exact Nat.lt_of_lt_of_le x h) | trivial
structure Grow (w w':World) (h h':PHeap):Prop where
  os:w'.os = w.os
  tape:w'.tape = w.tape
  output:w'.output = w.output
  size:w.heap.size ≤ w'.heap.size
  other:∀ b,b < w.heap.size→h.obj b = none→w'.heap[b]? = w.heap[b]?
  dom:∀ b,(h'.obj b).isSome = true→(h.obj b).isSome = true ∨ w.heap.size ≤ b
  keep:∀ b,(h.obj b).isSome = true→(h'.obj b).isSome = true∧h'.wr b = h.wr b∧(h.wr b = false→h'.obj b = h.obj b)
  gh:h'.gh = h.gh
theorem Grow.refl (w:World) (h:PHeap):Grow w w h h:=
  ⟨rfl,rfl,rfl,Nat.le_refl _,fun _ _ _=>rfl,fun _ x=>.inl x,fun _ x=>⟨x,rfl,fun _=>rfl⟩,rfl⟩
theorem Grow.trans {w w' w'':World} {h h' h'':PHeap} (a:Grow w w' h h') (b:Grow w' w'' h' h''):Grow w w'' h h'':=by
  refine ⟨b.os.trans a.os,b.tape.trans a.tape,b.output.trans a.output,Nat.le_trans a.size b.size,fun r hr hn=>?_,fun r hr=>?_,fun r hr=>?_,b.gh.trans a.gh⟩
  · have h' : h'.obj r = none := by
      cases e:h'.obj r with
      | none=>rfl
      | some o=>
        rcases a.dom r (by simp [e]) with x | x
        · simp [hn] at x
        · omega
    exact (b.other r (by have:=a.size; omega) h').trans (a.other r hr hn)
  · rcases b.dom r hr with x | x
    · exact a.dom r x
    · exact .inr (Nat.le_trans a.size x)
  · obtain ⟨x1,x2,x3⟩:=a.keep r hr
    obtain ⟨y1,y2,y3⟩:=b.keep r x1
    exact ⟨y1,y2.trans x2,fun e=>(y3 (x2.trans e)).trans (x3 e)⟩
theorem EvOk.back {w w':World} {h h':PHeap} (g:Grow w w' h h') {e:Event} (x:EvOk h' w'.heap.size e):EvOk h w.heap.size e:=by
  have hs:=g.size
  unfold EvOk at x ⊢
  split at x
  · rename_i a _
    obtain ⟨x1,x2,x3⟩:=x
    refine ⟨x1,?_,fun hw=>?_⟩
    · rcases x2 with y | y
      · exact g.dom _ y
      · exact .inr (by omega)
    · rcases x2 with y | y
      · rcases g.dom _ y with z | z
        · rcases x3 hw with u | u
          · exact .inl (by rw [← (g.keep _ z).2.1]; exact u)
          · exact .inr (by omega)
        · exact .inr z
      · exact .inr (by omega)
  · rename_i r _
    obtain ⟨x2,x3⟩:=x
    refine ⟨?_,fun hw=>?_⟩
    · rcases x2 with y | y
      · exact g.dom _ y
      · exact .inr (by omega)
    · rcases x2 with y | y
      · rcases g.dom _ y with z | z
        · rcases x3 hw with u | u
          · exact .inl (by rw [← (g.keep _ z).2.1]; exact u)
          · exact .inr (by omega)
        · exact .inr z
      · exact .inr (by omega)
  · trivial
  · trivial
  · exact x.elim
def isOne:Value→Bool
  | .agg _ | .tuple _=>false
  | _=>true
def isCells:Obj→Bool
  | .cells ..=>true
  | _=>false
def _root_.Go.Sem.slp {α:Type} (P:Program) (K:α→PHeap→Prop) (E:Value→PHeap→Prop):Sem α→PHeap→Prop
  | .pure a,h=>K a h
  | .load m a k,h=>m = .plain∧∃ v,h.cell a = some v∧(k v).slp P K E h
  | .store m a v k,h=>m = .plain∧isOne v = true∧h.wr a.block = true∧(∃ u,h.cell a = some u)∧h.frozen a = false∧k.slp P K E (h.setCell a v)
  | .new o k,h=>∀ r,h.obj r = none→(k r).slp P K E (h.put r o)
  | .shape r k,h=>∃ x,h.shape r = some x∧(k (some x)).slp P K E h
  | .freeze a n k,h=>h.wr a.block = true∧(∃ o,h.obj a.block = some o)∧k.slp P K E (h.freeze a n)
  | .frozen a k,h=>(∃ o,h.obj a.block = some o)∧(k (h.frozen a)).slp P K E h
  | .getObj r k,h=>∃ o,h.obj r = some o∧isCells o = false∧(k o).slp P K E h
  | .setObj r o k,h=>h.wr r = true∧(∃ u,h.obj r = some u∧isCells u = false)∧k.slp P K E (h.put r o)
  | .choose q k,h=>if q.forced then (k 0).slp P K E h else ∀ t,(k (q.cut t)).slp P K E h
  | .sys _ _,_=>False
  | .program k,h=>(k P).slp P K E h
  | .mark m k,h=>((∃ f,m = .extern f) ∨ m = .noRoom)∧k.slp P K E h
  | .halt (.panic v),h=>E v h
  | .halt _,_=>False
section
variable {α β:Type} {P:Program} {K K':α→PHeap→Prop} {E E':Value→PHeap→Prop}
theorem slp_mono {s:Sem α} (hk:∀ a h,K a h→K' a h) (he:∀ v h,E v h→E' v h):∀ {h:PHeap},s.slp P K E h→s.slp P K' E' h:=by
  induction s with
  | pure a=>exact fun x=>hk _ _ x
  | load m a k ih=>exact fun ⟨x,v,y,z⟩=>⟨x,v,y,ih v z⟩
  | store m a v k ih=>exact fun ⟨x1,x2,x3,x4,x5,x6⟩=>⟨x1,x2,x3,x4,x5,ih x6⟩
  | new o k ih=>exact fun x r hr=>ih r (x r hr)
  | shape r k ih=>exact fun ⟨x,y,z⟩=>⟨x,y,ih _ z⟩
  | freeze a n k ih=>exact fun ⟨x,y,z⟩=>⟨x,y,ih z⟩
  | frozen a k ih=>exact fun ⟨x,y⟩=>⟨x,ih _ y⟩
  | getObj r k ih=>exact fun ⟨o,x,y,u⟩=>⟨o,x,y,ih _ u⟩
  | setObj r o k ih=>exact fun ⟨x,y,u⟩=>⟨x,y,ih u⟩
  | choose q k ih=>
    intro h x
    simp only [Sem.slp] at x ⊢
    split
    · rename_i hq; rw [if_pos hq] at x; exact ih _ x
    · rename_i hq; rw [if_neg hq] at x; exact fun t=>ih _ (x t)
  | sys c k ih=>exact fun x=>x
  | program k ih=>exact fun x=>ih _ x
  | mark m k ih=>exact fun ⟨x,y⟩=>⟨x,ih y⟩
  | halt g=>cases g <;> first|exact fun x=>he _ _ x | exact fun x=>x
theorem slp_bind' (s:Sem β) (f:β→Sem α):∀ (h:PHeap),(s.bind f).slp P K E h = s.slp P (fun b h'=>(f b).slp P K E h') E h:=by
  induction s with
  | pure a=>exact fun h=>rfl
  | load m a k ih=>intro h; simp only [Sem.bind,Sem.slp,ih]
  | store m a v k ih=>intro h; simp only [Sem.bind,Sem.slp,ih]
  | new o k ih=>intro h; simp only [Sem.bind,Sem.slp,ih]
  | shape r k ih=>intro h; simp only [Sem.bind,Sem.slp,ih]
  | freeze a n k ih=>intro h; simp only [Sem.bind,Sem.slp,ih]
  | frozen a k ih=>intro h; simp only [Sem.bind,Sem.slp,ih]
  | getObj r k ih=>intro h; simp only [Sem.bind,Sem.slp,ih]
  | setObj r o k ih=>intro h; simp only [Sem.bind,Sem.slp,ih]
  | choose q k ih=>intro h; simp only [Sem.bind,Sem.slp,ih]
  | sys c k ih=>intro h; simp only [Sem.bind,Sem.slp]
  | program k ih=>intro h; simp only [Sem.bind,Sem.slp,ih]
  | mark m k ih=>intro h; simp only [Sem.bind,Sem.slp,ih]
  | halt g=>intro h; cases g <;> rfl
theorem slp_bind (s:Sem β) (f:β→Sem α) (h:PHeap):(s >>= f).slp P K E h = s.slp P (fun b h'=>(f b).slp P K E h') E h:=slp_bind' s f h
theorem slp_map (s:Sem β) (f:β→α) (h:PHeap):(f <$> s).slp P K E h = s.slp P (fun b h'=>K (f b) h') E h:=slp_bind' s _ h
theorem slp_pure (a:α) (h:PHeap):(Pure.pure a:Sem α).slp P K E h = K a h:=rfl
theorem slp_pure' (a:α) (h:PHeap):(Sem.pure a:Sem α).slp P K E h = K a h:=rfl
end
theorem sat_put {w:World} {h:PHeap} (s:Sat w h) (o:Obj):Sat { w with heap:=w.heap.push o } (h.put w.heap.size o):=by
  intro b x e
  simp only [PHeap.put] at e
  split at e
  · rename_i hb; subst hb; cases e; simp
  · have:=s.lt e
    simp [Array.getElem?_push,Nat.ne_of_lt this,s b x e]
theorem sat_upd {w:World} {h:PHeap} (s:Sat w h) (r:Nat) (f:Obj→Obj):Sat { w with heap:=w.heap.modify r f } (h.upd r f):=by
  intro b x e
  simp only [PHeap.upd] at e
  split at e
  · rename_i hb; subst hb
    obtain ⟨y,hy,rfl⟩:=Option.map_eq_some_iff.1 e
    simp [Array.getElem?_modify,s _ _ hy]
  · rename_i hb
    simp only [Array.getElem?_modify,s _ _ e]
    split
    · rename_i h'; exact absurd h'.symm hb
    · rfl
theorem grow_put {w:World} {h:PHeap} (s:Sat w h) (o:Obj):Grow w { w with heap:=w.heap.push o } h (h.put w.heap.size o):=by
  refine ⟨rfl,rfl,rfl,by simp,fun b hb hn=>?_,fun b hb=>?_,fun b hb=>?_,rfl⟩
  · simp [Array.getElem?_push,Nat.ne_of_lt hb]
  · simp only [PHeap.put] at hb
    split at hb
    · rename_i e; exact .inr (by omega)
    · exact .inl hb
  · obtain ⟨x,hx⟩:=Option.isSome_iff_exists.1 hb
    have:=s.lt hx
    simp [PHeap.put,Nat.ne_of_lt this,hx]
theorem grow_upd {w:World} {h:PHeap} (r:Nat) (f:Obj→Obj) (hw:h.wr r = true) (ho:∃ o,h.obj r = some o):Grow w { w with heap:=w.heap.modify r f } h (h.upd r f):=by
  obtain ⟨o,ho⟩:=ho
  refine ⟨rfl,rfl,rfl,by simp,fun b hb hn=>?_,fun b hb=>?_,fun b hb=>?_,rfl⟩
  · have:¬ r = b:=fun e=>by subst e; rw [ho] at hn; cases hn
    simp [Array.getElem?_modify,this]
  · simp only [PHeap.upd] at hb
    split at hb
    · rename_i e; subst e; exact .inl (by simp [ho])
    · exact .inl hb
  · simp only [PHeap.upd]
    refine ⟨?_,by trivial,fun hf=>?_⟩
    · split
      · simpa using hb
      · exact hb
    · split
      · rename_i e; subst e; rw [hw] at hf; cases hf
      · rfl
theorem sat_drawn {w:World} {h:PHeap} (s:Sat w h) (d:Nat):Sat { w with drawn:=d } h:=s
theorem grow_drawn (w:World) (h:PHeap) (d:Nat):Grow w { w with drawn:=d } h h:=
  ⟨rfl,rfl,rfl,Nat.le_refl _,fun _ _ _=>rfl,fun _ x=>.inl x,fun _ x=>⟨x,rfl,fun _=>rfl⟩,rfl⟩
theorem setCell_modify (w:World) (a:Addr) (v:Value):w.setCell a v = { w with heap:=w.heap.modify a.block (cellsSet a v) }:=rfl
theorem freeze_modify (w:World) (a:Addr) (n:Nat):w.freeze a n = if n = 0 then w else { w with heap:=w.heap.modify a.block (cellsFreeze a n) }:=rfl
def RunsTo {α:Type} (P:Program) (K:α→PHeap→Prop) (E:Value→PHeap→Prop) (s:Sem α) (w:World) (h:PHeap) (es:Array Event):Prop:=
  ∃ w' h' es',Sat w' h'∧Grow w w' h h'∧(∀ e ∈ es',EvOk h w.heap.size e∧EvLt w'.heap.size e) ∧
    ((∃ a,s.runT P w es = (.ok a w',es++es')∧K a h') ∨ ∃ v,s.runT P w es = (.halt (.panic v) w',es++es')∧E v h')
theorem RunsTo.step {α : Type} {P : Program} {K : α → PHeap → Prop} {E : Value → PHeap → Prop} {s s' : Sem α} {w w₁ : World} {h h₁ : PHeap} {es es₁ : Array Event}
    (g:Grow w w₁ h h₁) (he:∀ e ∈ es₁,EvOk h w.heap.size e∧EvLt w₁.heap.size e) (hr:s.runT P w es = s'.runT P w₁ (es++es₁)) (x:RunsTo P K E s' w₁ h₁ (es++es₁)):RunsTo P K E s w h es:=by
  obtain ⟨w',h',es',x1,x2,x3,x4⟩:=x
  refine ⟨w',h',es₁++es',x1,g.trans x2,fun e hm=>?_,?_⟩
  · rcases Array.mem_append.1 hm with y | y
    · exact ⟨(he e y).1,(he e y).2.mono x2.size⟩
    · exact ⟨EvOk.back g (x3 e y).1,(x3 e y).2⟩
  · rw [hr,← Array.append_assoc]; exact x4
theorem slp_sound {α:Type} {P:Program} {K:α→PHeap→Prop} {E:Value→PHeap→Prop} {s:Sem α}:∀ {h:PHeap} {w:World} (es:Array Event),s.slp P K E h→Sat w h→RunsTo P K E s w h es:=by
  induction s with
  | pure a=>exact fun es x hs=>⟨_,_,#[],hs,Grow.refl _ _,by simp,.inl ⟨a,by simp [Sem.runT],x⟩⟩
  | load m a k ih=>
    rintro h w es ⟨rfl,v,hc,x⟩ hs
    obtain ⟨o,ho⟩:=cell_obj hc
    refine RunsTo.step (s':=k v) (es₁:=#[⟨.cell a,false,false⟩]) (Grow.refl _ _) (by simp [EvOk,EvLt,ho,hs.lt ho]) ?_ (ih v _ x hs)
    simp only [Sem.runT,hs.cell hc]; rfl
  | store m a v k ih=>
    rintro h w es ⟨rfl,h1,h2,⟨u,h3⟩,h4,x⟩ hs
    obtain ⟨o,ho⟩:=cell_obj h3
    have hf:w.frozen? a = false:=by rw [hs.frozen ho]; exact h4
    refine RunsTo.step (s':=k) (es₁:=#[⟨.cell a,true,false⟩]) (grow_upd a.block (cellsSet a v) h2 ⟨o,ho⟩) (by simp [EvOk,EvLt,ho,h2,hs.lt ho]) ?_ (ih _ x (sat_upd hs _ _))
    cases v <;> first|(simp [isOne] at h1; done) | (simp only [Sem.runT,hs.cell h3,hf,setCell_modify]; rfl)
  | new o k ih=>
    intro h w es x hs
    refine RunsTo.step (s':=k w.heap.size) (es₁:=#[]) (grow_put hs o) (by simp) ?_ (ih _ _ (x _ hs.fresh) (sat_put hs o))
    simp [Sem.runT]
  | shape r k ih=>
    rintro h w es ⟨x,hx,y⟩ hs
    refine RunsTo.step (s':=k (some x)) (es₁:=#[]) (Grow.refl _ _) (by simp) ?_ (ih _ _ y hs)
    simp [Sem.runT,hs.shape hx]
  | freeze a n k ih=>
    rintro h w es ⟨h1,h2,x⟩ hs
    by_cases hn:n = 0
    · subst hn
      refine RunsTo.step (s':=k) (es₁:=#[]) (Grow.refl _ _) (by simp) ?_ (ih _ (by simpa [PHeap.freeze] using x) hs)
      simp [Sem.runT,freeze_modify]
    · refine RunsTo.step (s':=k) (es₁:=#[]) (grow_upd a.block (cellsFreeze a n) h1 h2) (by simp) ?_ (ih _ (by simpa [PHeap.freeze,hn] using x) (sat_upd hs _ _))
      simp [Sem.runT,freeze_modify,hn]
  | frozen a k ih=>
    rintro h w es ⟨⟨o,ho⟩,x⟩ hs
    refine RunsTo.step (s':=k (h.frozen a)) (es₁:=#[]) (Grow.refl _ _) (by simp) ?_ (ih _ _ x hs)
    simp [Sem.runT,hs.frozen ho]
  | getObj r k ih=>
    rintro h w es ⟨o,ho,h1,x⟩ hs
    refine RunsTo.step (s':=k o) (es₁:=#[⟨.obj r,false,o.isChan⟩]) (Grow.refl _ _) (by simp [EvOk,EvLt,ho,hs.lt ho]) ?_ (ih _ _ x hs)
    have:=hs r o ho
    cases o <;> first|(simp [isCells] at h1; done) | (simp only [Sem.runT,this]; rfl)
  | setObj r o k ih=>
    rintro h w es ⟨h1,⟨u,hu,h2⟩,x⟩ hs
    have hg:Grow w { w with heap:=w.heap.setIfInBounds r o } h (h.put r o):=by
      refine ⟨rfl,rfl,rfl,by simp,fun b hb hn=>?_,fun b hb=>?_,fun b hb=>?_,rfl⟩
      · have:¬ r = b:=fun e=>by subst e; rw [hu] at hn; cases hn
        simp [Array.getElem?_setIfInBounds,this]
      · simp only [PHeap.put] at hb
        split at hb
        · rename_i e; subst e; exact .inl (by simp [hu])
        · exact .inl hb
      · simp only [PHeap.put]
        refine ⟨by split <;> simp_all,by split <;> simp_all,fun hf=>?_⟩
        split
        · rename_i e; subst e; rw [h1] at hf; cases hf
        · rfl
    have hsat:Sat { w with heap:=w.heap.setIfInBounds r o } (h.put r o):=by
      intro b y e
      simp only [PHeap.put] at e
      split at e
      · rename_i hb; subst hb; cases e
        have:=hs.lt hu
        simp [this]
      · rename_i hb
        have hb':¬ r = b:=fun e=>hb e.symm
        simp [Array.getElem?_setIfInBounds,hb',hs b y e]
    refine RunsTo.step (s':=k) (es₁:=#[⟨.obj r,true,o.isChan⟩]) hg (by simp [EvOk,EvLt,hu,h1,hs.lt hu]) ?_ (ih _ x hsat)
    have:=hs r u hu
    cases u <;> first|(simp [isCells] at h2; done) | (simp only [Sem.runT,this]; rfl)
  | choose q k ih=>
    intro h w es x hs
    simp only [Sem.slp] at x
    split at x
    · rename_i hq
      refine RunsTo.step (s':=k 0) (es₁:=#[]) (Grow.refl _ _) (by simp) ?_ (ih _ _ x hs)
      simp [Sem.runT,hq]
    · rename_i hq
      refine RunsTo.step (s':=k (q.cut (w.tape w.drawn q))) (es₁:=#[]) (grow_drawn w h (w.drawn + 1)) (by simp) ?_ (ih _ _ (x _) (sat_drawn hs _))
      simp [Sem.runT,hq]
  | sys c k ih=>intro h w es x hs; exact x.elim
  | program k ih=>
    intro h w es x hs
    refine RunsTo.step (s':=k P) (es₁:=#[]) (Grow.refl _ _) (by simp) ?_ (ih _ _ x hs)
    simp [Sem.runT]
  | mark m k ih=>
    rintro h w es ⟨hm,x⟩ hs
    refine RunsTo.step (s':=k) (es₁:=#[⟨.mark m,false,true⟩]) (Grow.refl _ _) ?_ ?_ (ih _ x hs)
    · rcases hm with ⟨f,rfl⟩ | rfl <;> simp [EvOk,EvLt]
    · simp only [Sem.runT]; rfl
  | halt g=>
    intro h w es x hs
    cases g <;> first|exact x.elim | exact ⟨_,_,#[],hs,Grow.refl _ _,by simp,.inr ⟨_,by simp [Sem.runT],x⟩⟩
end Go.Sl
namespace Go.Sl
open Go Go.Conc PHeap
abbrev Jdg:=PHeap→Goroutine→Prop
def StepTo (P:Program) (main:Bool) (J:Jdg) (h:PHeap) (g:Goroutine) (w:World):Prop:=
  ∃ g' w' es h',stepG P main g w = .go g' w' es∧Sat w' h'∧Grow w w' h h'∧(∀ e ∈ es,EvOk h w.heap.size e∧EvLt w'.heap.size e)∧J h' g'
def Closed (P:Program) (main:Bool) (J:Jdg):Prop:=∀ h g,g.status = .running→(∀ w,Sat w h→StepTo P main J h g w)→J h g
class IsCl (P:Program) (M:Jdg→Prop):Prop where
  cl:∀ J,M J→∃ main,Closed P main J
abbrev Locals:=List (Nat × Value)
def Locals.get:Locals→Nat→Option Value
  | [],_=>none
  | (d,v) :: L,i=>bif Nat.beq d i then some v else Locals.get L i
def Locals.sub:Locals→Locals→Prop
  | [],_=>True
  | (d,v) :: K,L=>L.get d = some v∧Locals.sub K L
structure Agree (n:Nat) (L:Locals) (tm:Array Value):Prop where
  size:tm.size = n
  at':∀ i v,L.get i = some v→tm[i]? = some v
theorem Locals.sub_get {K L:Locals} (h:K.sub L):∀ {i v},K.get i = some v→L.get i = some v:=by
  induction K with
  | nil=>intro i v e; cases e
  | cons x K ih=>
    obtain ⟨d,u⟩:=x
    intro i v e
    simp only [Locals.get] at e
    cases hd:Nat.beq d i with
    | true=>rw [hd] at e; cases e; rw [← Nat.eq_of_beq_eq_true hd]; exact h.1
    | false=>rw [hd] at e; exact ih h.2 e
theorem Agree.sub {n:Nat} {K L:Locals} {tm:Array Value} (a:Agree n L tm) (h:K.sub L):Agree n K tm:=⟨a.size,fun _ _ e=>a.at' _ _ (Locals.sub_get h e)⟩
def setL (d:Option Nat) (v:Value) (L:Locals):Locals:=
  match d with
  | some d=>(d,v) :: L
  | none=>L
theorem Agree.put {n:Nat} {L:Locals} {a:Act} (x:Agree n L a.tmps) {d:Option Nat} (hd:∀ i,d = some i→i < n) (v:Value):Agree n (setL d v L) (a.put d v).tmps:=by
  cases d with
  | none=>exact x
  | some d=>
    refine ⟨by simp [Act.put,x.size],fun i u e=>?_⟩
    simp only [setL,Locals.get] at e
    have hlt:d < a.tmps.size:=by rw [x.size]; exact hd d rfl
    cases hb:Nat.beq d i with
    | true=>
      rw [hb] at e; cases e
      obtain rfl:=Nat.eq_of_beq_eq_true hb
      simp [Act.put,hlt]
    | false=>
      rw [hb] at e
      have hne:d ≠ i:=Nat.ne_of_beq_eq_false hb
      simp [Act.put,Array.getElem?_setIfInBounds,hne,x.at' _ _ e]
def ev (L:Locals):Operand→Option Value
  | .tmp t=>L.get t
  | .const v=>some v
  | .global g=>some (.pointer (some ⟨g,0,none⟩))
  | .func f=>some (.func (.func f) #[] #[])
theorem Agree.ev {n:Nat} {L:Locals} {a:Act} (x:Agree n L a.tmps) {o:Operand} {v:Value} (e:ev L o = some v):a.eval o = v:=by
  cases o with
  | tmp t=>simp [Act.eval,x.at' _ _ e]
  | const u=>exact Option.some.inj e
  | global g=>exact Option.some.inj e
  | func f=>exact Option.some.inj e
inductive Ex where
  | nrm
  | exit (id:Nat)
  | ret
  | pan (chain:List PanicEntry)
def arrive (J:Jdg) (b:Frame) (k:List Item) (cs:List Frame) (ds:List Deferred):Ex→Array Value→PHeap→Prop
  | .nrm,tm,h=>J h (G (b.at ⟨tm,ds⟩ k) cs)
  | .exit id,tm,h=>∃ k',exitTo id k = some k'∧J h (G (b.at ⟨tm,ds⟩ k') cs)
  | .ret,tm,h=>∀ todo,J h (G { b.at ⟨tm,ds⟩ todo with mode:=.returning } cs)
  | .pan ch,tm,h=>∀ todo,J h (G { b.at ⟨tm,ds⟩ todo with mode:=.panicking ch } cs)
abbrev Qt:=Ex→Locals→PHeap→Prop
def Ends (J:Jdg) (n:Nat) (b:Frame) (k:List Item) (cs:List Frame) (ds:List Deferred) (Q:Qt):Prop:=
  ∀ e L h tm,Q e L h→Agree n L tm→arrive J b k cs ds e tm h
def _root_.Go.Code.sl (P:Program) (M:Jdg→Prop) (n:Nat) (c:Code) (Q:Qt) (L:Locals) (h:PHeap):Prop:=
  ∀ J,M J→∀ (b:Frame) (k:List Item) (cs:List Frame) (ds:List Deferred) (tm:Array Value),b.kind ≠ .early→Agree n L tm→Ends J n b k cs ds Q →
    J h (G (b.at ⟨tm,ds⟩ (.code c :: k)) cs)
def slOps (P:Program) (M:Jdg→Prop) (n:Nat) (ops:Array Oper) (Q:Qt) (l:List Nat) (L:Locals) (h:PHeap):Prop:=
  ∀ J,M J→∀ (b:Frame) (k:List Item) (cs:List Frame) (ds:List Deferred) (tm:Array Value),b.kind ≠ .early→Agree n L tm→Ends J n b k cs ds Q →
    J h (G (b.at ⟨tm,ds⟩ (.inRegion ops l :: k)) cs)
def CallsE (P:Program) (M:Jdg→Prop) (f:FuncId) (args:Array Value) (h:PHeap) (R:Value→PHeap→Prop) (E:List PanicEntry→PHeap→Prop):Prop:=
  ∀ J,M J→∀ (c:Frame) (cs:List Frame),(∀ v h',R v h'→J h' (G (c.finish v) cs))→(∀ ch h',E ch h'→J h' (G (c.raise ch) cs)) →
    J h (G (Frame.enter P f args .normal) (c :: cs))
def noE:List PanicEntry→PHeap→Prop:=fun _ _=>False
abbrev CallsJ (P:Program) (M:Jdg→Prop) (f:FuncId) (args:Array Value) (h:PHeap) (R:Value→PHeap→Prop):Prop:=CallsE P M f args h R noE
theorem CallsE.mono {P : Program} {M : Jdg → Prop} {f : FuncId} {args : Array Value} {h : PHeap} {R R' : Value → PHeap → Prop} {E E' : List PanicEntry → PHeap → Prop}
    (x:CallsE P M f args h R E) (hr:∀ v h',R v h'→R' v h') (he:∀ v h',E v h'→E' v h'):CallsE P M f args h R' E':=
  fun J hJ c cs r e=>x J hJ c cs (fun v h' y=>r v h' (hr v h' y)) (fun v h' y=>e v h' (he v h' y))
theorem CallsJ.mono {P : Program} {M : Jdg → Prop} {f : FuncId} {args : Array Value} {h : PHeap} {R R' : Value → PHeap → Prop} {E' : List PanicEntry → PHeap → Prop}
    (x:CallsJ P M f args h R) (hr:∀ v h',R v h'→R' v h'):CallsE P M f args h R' E':=CallsE.mono x hr fun _ _ y=>y.elim
def thenQ (K:Locals→PHeap→Prop) (Q:Qt):Qt:=fun e L h=>match e with
  | .nrm=>K L h
  | e=>Q e L h
section
variable {P:Program} {M:Jdg→Prop} [hM:IsCl P M] {n:Nat} {Q Q':Qt} {L L':Locals} {h:PHeap}
theorem Ends.mono {J:Jdg} {b:Frame} {k:List Item} {cs:List Frame} {ds:List Deferred} (x:Ends J n b k cs ds Q) (hq:∀ e L h,Q' e L h→Q e L h):Ends J n b k cs ds Q':=
  fun e L h tm y z=>x e L h tm (hq e L h y) z
omit hM in
theorem sl_mono {c:Code} (x:c.sl P M n Q L h) (hq:∀ e L h,Q e L h→Q' e L h):c.sl P M n Q' L h:=
  fun J hJ b k cs ds tm hb ha he=>x J hJ b k cs ds tm hb ha (he.mono hq)
omit hM in
theorem ops_mono {ops:Array Oper} {l:List Nat} (x:slOps P M n ops Q l L h) (hq:∀ e L h,Q e L h→Q' e L h):slOps P M n ops Q' l L h:=
  fun J hJ b k cs ds tm hb ha he=>x J hJ b k cs ds tm hb ha (he.mono hq)
omit hM in
theorem sl_sub {c:Code} (x:c.sl P M n Q L' h) (hs:L'.sub L):c.sl P M n Q L h:=
  fun J hJ b k cs ds tm hb ha he=>x J hJ b k cs ds tm hb (ha.sub hs) he
omit hM in
theorem ops_sub {ops:Array Oper} {l:List Nat} (x:slOps P M n ops Q l L' h) (hs:L'.sub L):slOps P M n ops Q l L h:=
  fun J hJ b k cs ds tm hb ha he=>x J hJ b k cs ds tm hb (ha.sub hs) he
theorem quiet {J:Jdg} (hJ:M J) {g g':Goroutine} (hr:g.status = .running) (hs:∀ main w,stepG P main g w = .go g' w) (x:J h g'):J h g:=by
  obtain ⟨main,hc⟩:=hM.cl J hJ
  refine hc h g hr fun w hw=>⟨g',w,#[],h,hs main w,hw,Grow.refl _ _,by simp,x⟩
theorem sl_skip (x:Q .nrm L h):Code.skip.sl P M n Q L h:=
  fun J hJ b k cs ds tm _ ha he=>quiet (P:=P) hJ rfl (fun _ _=>stepG_skip) (he .nrm L h tm x ha)
theorem sl_seq {x y:Code} (p:x.sl P M n (thenQ (fun L h=>y.sl P M n Q L h) Q) L h):(Code.seq x y).sl P M n Q L h:=by
  intro J hJ b k cs ds tm hb ha he
  refine quiet (P:=P) hJ rfl (fun _ _=>stepG_seq) (p J hJ b (.code y :: k) cs ds tm hb ha ?_)
  intro e L' h' tm' q ha'
  cases e with
  | nrm=>exact q J hJ b k cs ds tm' hb ha' he
  | exit id=>exact he (.exit id) L' h' tm' q ha'
  | ret=>exact he .ret L' h' tm' q ha'
  | pan ch=>exact he (.pan ch) L' h' tm' q ha'
theorem sl_cond {c:Operand} {x y:Code} {t:Bool} (hc:ev L c = some (.bool t)) (ht:t = true→x.sl P M n Q L h) (hf:t = false→y.sl P M n Q L h):(Code.cond c x y).sl P M n Q L h:=by
  intro J hJ b k cs ds tm hb ha he
  have e:(Act.mk tm ds).eval c = .bool t:=Agree.ev (a:=⟨tm,ds⟩) ha hc
  refine quiet (P:=P) hJ rfl (fun _ _=>stepG_cond e) ?_
  cases t with
  | true=>exact ht rfl J hJ b k cs ds tm hb ha he
  | false=>exact hf rfl J hJ b k cs ds tm hb ha he
def blockQ (id:Nat) (Q:Qt):Qt:=fun e L h=>match e with
  | .exit id'=>if id' = id then Q .nrm L h else Q (.exit id') L h
  | e=>Q e L h
theorem sl_block {id:Nat} {c:Code} (x:c.sl P M n (blockQ id Q) L h):(Code.block id c).sl P M n Q L h:=by
  intro J hJ b k cs ds tm hb ha he
  refine quiet (P:=P) hJ rfl (fun _ _=>stepG_block) (x J hJ b (.inBlock id :: k) cs ds tm hb ha ?_)
  intro e L' h' tm' q ha'
  cases e with
  | nrm=>exact quiet (P:=P) hJ rfl (fun _ _=>stepG_inBlock) (he .nrm L' h' tm' q ha')
  | exit id'=>
    simp only [blockQ] at q
    by_cases hid:id' = id
    · rw [if_pos hid] at q
      exact ⟨k,by simp [exitTo,hid],he .nrm L' h' tm' q ha'⟩
    · rw [if_neg hid] at q
      obtain ⟨k',h1,h2⟩:=he (.exit id') L' h' tm' q ha'
      have:(id == id') = false:=by simpa using fun h=>hid h.symm
      exact ⟨k',by simp [exitTo,this,h1],h2⟩
  | ret=>exact he .ret L' h' tm' q ha'
  | pan ch=>exact he (.pan ch) L' h' tm' q ha'
theorem sl_exit {id:Nat} (x:Q (.exit id) L h):(Code.exit id).sl P M n Q L h:=by
  intro J hJ b k cs ds tm hb ha he
  obtain ⟨k',h1,h2⟩:=he (.exit id) L h tm x ha
  exact quiet (P:=P) hJ rfl (fun _ _=>stepG_exit h1) h2
theorem stepG_ret' {main : Bool} {b : Frame} {a : Act} {k : List Item} {cs : List Frame} {w : World} :
    stepG P main (G (b.at a (.code .ret :: k)) cs) w = .go (G { b.at a (.code .ret :: k) with mode:=.returning } cs) w:=by simp [G,stepG,stepG.exec,Frame.at]
theorem sl_ret (x:Q .ret L h):Code.ret.sl P M n Q L h:=by
  intro J hJ b k cs ds tm hb ha he
  exact quiet (P:=P) hJ rfl (fun _ _=>stepG_ret') (he .ret L h tm x ha _)
theorem sl_loop {ι : Type} {c : Code} (Lo : ι → Locals) (A : ι → PHeap → Prop) (μ : ι → Nat) (x0 : ι) (hL : (Lo x0).sub L) (h0 : A x0 h)
    (round:∀ x h,A x h→c.sl P M n (thenQ (fun L' h'=>∃ y,μ y < μ x∧(Lo y).sub L'∧A y h') Q) (Lo x) h):(Code.loop c).sl P M n Q L h:=by
  intro J hJ b k cs ds tm hb ha he
  have key:∀ m x h tm,μ x = m→A x h→Agree n (Lo x) tm→J h (G (b.at ⟨tm,ds⟩ (.code c :: .inLoop c :: k)) cs):=by
    intro m
    induction m using Nat.strongRecOn with
    | _ m ih=>
      intro x h tm hm hA ha
      refine round x h hA J hJ b (.inLoop c :: k) cs ds tm hb ha ?_
      intro e L' h' tm' q ha'
      cases e with
      | nrm=>
        obtain ⟨y,h1,h2,h3⟩:=q
        exact quiet (P:=P) hJ rfl (fun _ _=>stepG_inLoop) (ih (μ y) (hm ▸ h1) y h' tm' rfl h3 (ha'.sub h2))
      | exit id=>exact he (.exit id) L' h' tm' q ha'
      | ret=>exact he .ret L' h' tm' q ha'
      | pan ch=>exact he (.pan ch) L' h' tm' q ha'
  exact quiet (P:=P) hJ rfl (fun _ _=>stepG_loop) (key _ x0 h tm rfl h0 (ha.sub hL))
theorem sl_region {id:Nat} {ops:Array Oper} (x:slOps P M n ops Q (List.range ops.size) L h):(Code.region id ops false).sl P M n Q L h:=
  fun J hJ b k cs ds tm hb ha he=>quiet (P:=P) hJ rfl (fun _ _=>stepG_region) (x J hJ b k cs ds tm hb ha he)
theorem ops_nil {ops:Array Oper} (x:Q .nrm L h):slOps P M n ops Q [] L h:=
  fun J hJ b k cs ds tm _ ha he=>quiet (P:=P) hJ rfl (fun _ _=>stepG_region_end) (he .nrm L h tm x ha)
theorem ops_skip {ops : Array Oper} {i : Nat} {rest : List Nat} {o : Oper} (ho : ops[i]? = some o) (hd : ∀ d, o.dst = some d → d < n)
    (hw:∀ tm,Agree n L tm→Region.wanted o (yielded ops tm) = false) (x:slOps P M n ops Q rest (setL o.dst undef L) h):slOps P M n ops Q (i :: rest) L h:=by
  intro J hJ b k cs ds tm hb ha he
  have hfin:(b.at ⟨tm,ds⟩ (.inRegion ops (i :: rest) :: k)).finish undef = b.at ((Act.mk tm ds).put o.dst undef) (.inRegion ops rest :: k):=by rw [Frame.finish_at,ho]; rfl
  have hds:((Act.mk tm ds).put o.dst undef) = ⟨((Act.mk tm ds).put o.dst undef).tmps,ds⟩:=by
    cases hx:o.dst <;> rfl
  refine quiet (P:=P) hJ (g':=G (b.at ((Act.mk tm ds).put o.dst undef) (.inRegion ops rest :: k)) cs) rfl (fun main w=>?_) ?_
  · rw [← hfin]
    have:=hw tm ha
    simp [G,stepG,stepG.exec,Frame.at,ho,this]
  · rw [hds]
    exact x J hJ b k cs ds _ hb (Agree.put (a:=⟨tm,ds⟩) ha hd undef) he
theorem seen_sub {fn:FuncId} {es:Array Event} {e:Event} (x:e ∈ seen P fn es):e ∈ es:=by
  dsimp only [seen] at x
  rw [← Array.foldl_toList] at x
  have key : ∀ (l : List Event) (q : Bool) (kept : Array Event), (∀ e ∈ kept, e ∈ es) → (∀ e ∈ l, e ∈ es) →
      ∀ e ∈ (l.foldl (fun (x:Bool × Array Event) e=>match x with | (q,kept)=>match e.loc with
        | .mark (.extern f)=>((P.funcs[f]?).any (·.norace),kept)
        | _=>(q,if q && !e.sync then kept else kept.push e)) (q,kept)).2,e ∈ es:=by
    intro l
    induction l with
    | nil=>intro q kept hk _ e he; exact hk e he
    | cons a l ih=>
      intro q kept hk hl e he
      simp only [List.foldl_cons] at he
      have ha:=hl a (by simp)
      have hl':∀ e ∈ l,e ∈ es:=fun e h=>hl e (by simp [h])
      split at he
      · exact ih _ _ hk hl' e he
      · refine ih _ _ (fun e' h'=>?_) hl' e he
        split at h'
        · exact hk e' h'
        · rcases Array.mem_push.1 h' with y | y
          · exact hk e' y
          · rw [y]; exact ha
  exact key es.toList _ _ (by simp) (fun e h=>Array.mem_toList_iff.1 h) e x
def nextOk (P:Program) (M:Jdg→Prop) (n:Nat) (ops:Array Oper) (Q:Qt) (rest:List Nat) (L:Locals) (d:Option Nat) (r:Next) (h:PHeap):Prop:=
  match r with
  | .value v=>slOps P M n ops Q rest (setL d v L) h
  | .skip=>slOps P M n ops Q rest (setL d undef L) h
  | .enter f args=>CallsE P M f args h (fun v h'=>slOps P M n ops Q rest (setL d v L) h') (fun ch h'=>Q (.pan ch) L h')
  | _=>False
theorem ops_op {ops : Array Oper} {i : Nat} {rest : List Nat} {o : Oper} (ho : ops[i]? = some o) (hd : ∀ d, o.dst = some d → d < n)
    (hw:∀ tm,Agree n L tm→Region.wanted o (yielded ops tm) = true)
    (hs:∀ a:Act,Agree n L a.tmps→(execOp a.eval o).slp P (fun r h'=>nextOk P M n ops Q rest L o.dst r h') (fun v h'=>Q (.pan [{ v,recovered:=false }]) L h') h) :
    slOps P M n ops Q (i :: rest) L h:=by
  intro J hJ b k cs ds tm hb ha he
  obtain ⟨main,hc⟩:=hM.cl J hJ
  have hfin:∀ v,(b.at ⟨tm,ds⟩ (.inRegion ops (i :: rest) :: k)).finish v = b.at ((Act.mk tm ds).put o.dst v) (.inRegion ops rest :: k):=fun v=>by rw [Frame.finish_at,ho]; rfl
  have hds:∀ v,((Act.mk tm ds).put o.dst v) = ⟨((Act.mk tm ds).put o.dst v).tmps,ds⟩:=fun v=>by cases hx:o.dst <;> rfl
  refine hc h _ rfl fun w hsat=>?_
  have hk':(b.kind == CallKind.early) = false:=by simpa using hb
  obtain ⟨w',h',es',s1,s2,s3,s4⟩:=slp_sound #[] (hs ⟨tm,ds⟩ ha) hsat
  have hseen:∀ e ∈ seen P b.fn es',EvOk h w.heap.size e∧EvLt w'.heap.size e:=fun e x=>s3 e (seen_sub x)
  rcases s4 with ⟨r,hr,hk⟩ | ⟨v,hr,hk⟩
  · have hrr:(execOp (Act.mk tm ds).eval o).run P w = .ok r w':=by rw [← Sem.runT_fst P _ w #[],hr]
    have hre:Sem.events P (execOp (Act.mk tm ds).eval o) w #[] = es':=by rw [Sem.events,hr]; simp
    cases r with
    | value v=>
      refine ⟨G (b.at ((Act.mk tm ds).put o.dst v) (.inRegion ops rest :: k)) cs,w',seen P b.fn es',h',?_,s1,s2,hseen,?_⟩
      · rw [stepG_oper ho (hw tm ha),← hfin]
        simp [stepG.apply,hrr,hre,G,Frame.at,hk',GStep.after]
      · rw [hds]; exact hk J hJ b k cs ds _ hb (Agree.put (a:=⟨tm,ds⟩) ha hd v) he
    | skip=>
      refine ⟨G (b.at ((Act.mk tm ds).put o.dst undef) (.inRegion ops rest :: k)) cs,w',seen P b.fn es',h',?_,s1,s2,hseen,?_⟩
      · rw [stepG_oper ho (hw tm ha),← hfin]
        simp [stepG.apply,hrr,hre,G,Frame.at,hk',GStep.after]
      · rw [hds]; exact hk J hJ b k cs ds _ hb (Agree.put (a:=⟨tm,ds⟩) ha hd undef) he
    | enter f args=>
      refine ⟨G (Frame.enter P f args .normal) (b.at ⟨tm,ds⟩ (.inRegion ops (i :: rest) :: k) :: cs),w',seen P b.fn es',h',?_,s1,s2,hseen,?_⟩
      · rw [stepG_oper ho (hw tm ha)]
        simp [stepG.apply,hrr,hre,G,Frame.at,hk',GStep.after]
      · refine hk J hJ _ cs (fun v h'' x=>?_) (fun ch h'' x=>?_)
        · rw [hfin,hds]; exact x J hJ b k cs ds _ hb (Agree.put (a:=⟨tm,ds⟩) ha hd v) he
        · rw [Frame.raise_at]; exact he (.pan ch) L h'' tm x ha _
    | _=>exact hk.elim
  · have hrr:(execOp (Act.mk tm ds).eval o).run P w = .halt (.panic v) w':=by rw [← Sem.runT_fst P _ w #[],hr]
    have hre:Sem.events P (execOp (Act.mk tm ds).eval o) w #[] = es':=by rw [Sem.events,hr]; simp
    refine ⟨G { b.at ⟨tm,ds⟩ (.inRegion ops (i :: rest) :: k) with mode:=.panicking [{ v,recovered:=false }] } cs,w',seen P b.fn es',h',?_,s1,s2,hseen,?_⟩
    · rw [stepG_oper ho (hw tm ha),← Frame.raise_at]
      simp [stepG.apply,hrr,hre,G,Frame.at,hk',GStep.after]
    · exact he (.pan _) L h' tm hk ha _
def bodyQ (P:Program) (fn:Func) (n:Nat) (R:Value→PHeap→Prop) (E:List PanicEntry→PHeap→Prop):Qt:=fun e L h=>
  match e with
  | .nrm | .ret=>∀ tm,Agree n L tm→(results fn tm).slp P R (fun _ _=>False) h
  | .pan ch=>E ch h
  | .exit _=>False
def argsL:Nat→List Value→Locals
  | _,[]=>[]
  | i,v :: vs=>(i,v) :: argsL (i + 1) vs
theorem argsL_get (vs:List Value):∀ (i j:Nat) (v:Value),(argsL i vs).get j = some v→i ≤ j∧vs[j - i]? = some v:=by
  induction vs with
  | nil=>intro i j v e; cases e
  | cons x vs ih=>
    intro i j v e
    simp only [argsL,Locals.get] at e
    cases hb:Nat.beq i j with
    | true=>rw [hb] at e; cases e; obtain rfl:=Nat.eq_of_beq_eq_true hb; simp
    | false=>
      rw [hb] at e
      obtain ⟨h1,h2⟩:=ih (i + 1) j v e
      refine ⟨by omega,?_⟩
      have:j - i = (j - (i + 1)) + 1:=by omega
      rw [this]; simpa using h2
theorem stepG_leave' {main : Bool} {b : Frame} {a : Act} {todo : List Item} {cs : List Frame} {w w' : World} {fn : Func} {c : Frame} {v : Value} {es : Array Event} (hn : b.kind = .normal) (hd : a.defers = []) (hf : P.funcs[b.fn]? = some fn)
    (hr:(results fn a.tmps).run P w = .ok v w') (he:(results fn a.tmps).events P w #[] = es) :
    stepG P main (G { b.at a todo with mode:=.returning } (c :: cs)) w = .go (G (c.finish v) cs) w' (seen P b.fn es):=by
  simp [G,stepG,unwind,doReturn,Frame.at,hn,hd,hf,hr,he,GStep.after]
theorem calls_of_sl {f : FuncId} {fn : Func} {c : Code} {vs : List Value} {R : Value → PHeap → Prop} {E : List PanicEntry → PHeap → Prop}
    (hf:P.funcs[f]? = some fn) (hb:fn.body = some c) (hn:fn.ntmps = n) (hsz:Nat.ble vs.length n = true)
    (x:c.sl P M n (bodyQ P fn n R E) (argsL 0 vs) h):CallsE P M f vs.toArray h R E:=by
  intro J hJ cf cs hR hE
  obtain ⟨main,hc⟩:=hM.cl J hJ
  have hle:=Nat.le_of_ble_eq_true hsz
  rw [enter_at vs.toArray hf hb]
  have hag:Agree n (argsL 0 vs) (vs.toArray++Array.replicate (fn.ntmps - vs.toArray.size) undef):=by
    refine ⟨by simp; omega,fun i v e=>?_⟩
    obtain ⟨_,h2⟩:=argsL_get vs 0 i v e
    have hlt:i < vs.length:=by
      rcases Nat.lt_or_ge i vs.length with h | h
      · exact h
      · simp [List.getElem?_eq_none (show vs.length ≤ i by omega)] at h2
    rw [Array.getElem?_append]
    simpa [hlt] using h2
  have leave : ∀ (L : Locals) (h' : PHeap) (tm : Array Value) (todo : List Item), (∀ tm, Agree n L tm → (results fn tm).slp P R (fun _ _ => False) h') → Agree n L tm →
      J h' (G { (base f).at ⟨tm,[]⟩ todo with mode:=.returning } (cf :: cs)):=by
    intro L h' tm todo q ha
    refine hc h' _ rfl fun w hsat=>?_
    obtain ⟨w',h'',es',s1,s2,s3,s4⟩:=slp_sound #[] (q tm ha) hsat
    rcases s4 with ⟨v,hr,hk⟩ | ⟨v,_,hk⟩
    · have hrr:(results fn tm).run P w = .ok v w':=by rw [← Sem.runT_fst P _ w #[],hr]
      have hre:Sem.events P (results fn tm) w #[] = es':=by rw [Sem.events,hr]; simp
      exact ⟨_,w',seen P f es',h'',stepG_leave' (b:=base f) (a:=⟨tm,[]⟩) rfl rfl hf hrr hre,s1,s2,fun e y=>s3 e (seen_sub y),hR v h'' hk⟩
    · exact hk.elim
  refine x J hJ (base f) [] (cf :: cs) [] _ (by simp [base]) hag ?_
  intro e L h' tm q ha
  cases e with
  | nrm=>exact quiet (P:=P) hJ rfl (fun _ _=>stepG_end) (leave L h' tm [] q ha)
  | exit id=>exact q.elim
  | ret=>exact fun todo=>leave L h' tm todo q ha
  | pan ch=>
    intro todo
    refine quiet (P:=P) hJ (g':=G (cf.raise ch) cs) rfl (fun main w=>?_) (hE ch h' q)
    simp [G,stepG,unwind,Frame.at,base,Frame.catches,hf]
end
class Ty (P:Program) (t:TypeId) (d:outParam TypeDesc) (size:outParam Nat) (bytes:outParam Nat) (zero:outParam Value):Prop where
  und:P.underlying t = some d
  inf:(P.info? t).map (fun i=>(i.size,i.bytes,i.zero)) = some (size,bytes,some zero)
def aggD:TypeDesc→Bool
  | .struct _ | .array _ _=>true
  | _=>false
structure FldI where
  type:TypeId
  agg:Bool
  off:Nat
  size:Nat
def Program.fldsOf (P:Program) (t:TypeId):Option (List (Option FldI)):=
  match P.underlying t with
  | some (.struct fs)=>some (fs.toList.map fun f=>(P.info? f.type).bind fun i=>(P.underlying f.type).map fun d=>⟨f.type,aggD d,f.offset,i.size⟩)
  | _=>none
class Flds (P:Program) (t:TypeId) (pl:outParam (List FldI)):Prop where
  und:Program.fldsOf P t = some (pl.map some)
class Fun (P:Program) (f:FuncId):Prop where
  is : (P.funcs[f]?).any (fun fn => !(fn.name == "runtime.NumGoroutine") && fn.body.isSome) = true
section
variable {P:Program} {E:Value→PHeap→Prop} {h:PHeap}
theorem slp_underlying {K:TypeDesc→PHeap→Prop} {t:TypeId} {d:TypeDesc} (e:P.underlying t = some d) (x:K d h):(underlying t).slp P K E h:=by
  simp only [underlying,program,slp_bind]
  show Sem.slp P K E (match P.underlying t with | some d => pure d | none => stuck "no such type") h
  rw [e]; exact x
theorem slp_typeInfo {K:TypeInfo→PHeap→Prop} {t:TypeId} {i:TypeInfo} (e:P.info? t = some i) (x:K i h):(typeInfo t).slp P K E h:=by
  simp only [typeInfo,program,slp_bind]
  show Sem.slp P K E (match P.info? t with | some i => pure i | none => stuck "no such type") h
  rw [e]; exact x
theorem Ty.get {t:TypeId} {d:TypeDesc} {size bytes:Nat} {zero:Value} (T:Ty P t d size bytes zero):∃ i,P.info? t = some i∧i.size = size∧i.bytes = bytes∧i.zero = some zero:=by
  have:=T.inf
  cases e:P.info? t with
  | none=>rw [e] at this; cases this
  | some i=>rw [e] at this; simp at this; exact ⟨i,rfl,this.1,this.2.1,this.2.2⟩
variable {t:TypeId} {d:TypeDesc} {size bytes:Nat} {zero:Value}
theorem slp_sizeOf {K:Nat→PHeap→Prop} (T:Ty P t d size bytes zero) (x:K size h):(sizeOf t).slp P K E h:=by
  obtain ⟨i,h1,h2,h3,h4⟩:=T.get
  simp only [sizeOf,slp_bind,slp_pure]
  exact slp_typeInfo h1 (by rw [h2]; exact x)
theorem slp_zeroValue {K:Value→PHeap→Prop} (T:Ty P t d size bytes zero) (x:K zero h):(zeroValue t).slp P K E h:=by
  obtain ⟨i,h1,h2,h3,h4⟩:=T.get
  simp only [zeroValue,slp_bind]
  refine slp_typeInfo h1 ?_
  rw [h4]; exact x
theorem slp_isAgg {K:Bool→PHeap→Prop} (e:P.underlying t = some d) (x:K (aggD d) h):(isAgg t).slp P K E h:=by
  simp only [isAgg,slp_bind]
  refine slp_underlying e ?_
  cases d <;> exact x
theorem add_none (b off n:Nat):(Addr.mk b off none).add n = ⟨b,off + n,none⟩:=by
  unfold Addr.add; split
  · rename_i e; subst e; rfl
  · rfl
def Cells (h:PHeap) (a:Addr) (cs:List Value):Prop:=∀ j v,cs[j]? = some v→h.cell (a.add j) = some v
theorem slp_loadCellsFrom {K : Array Value → PHeap → Prop} {a : Addr} : ∀ (cs : List Value) (i : Nat) (acc : Array Value), (∀ j v, cs[j]? = some v → h.cell (a.add (i + j)) = some v) →
    K (acc++cs.toArray) h→(loadCellsFrom a i cs.length acc).slp P K E h
  | [],i,acc,_,x=>by simpa [loadCellsFrom,slp_pure] using x
  | c :: cs,i,acc,hc,x=>by
    simp only [List.length_cons,loadCellsFrom,load,slp_bind]
    refine ⟨rfl,c,by simpa using hc 0 c rfl,?_⟩
    refine slp_loadCellsFrom cs (i + 1) (acc.push c) (fun j v e=>?_) (by simpa using x)
    have:=hc (j + 1) v (by simpa using e)
    rwa [show i + (j + 1) = i + 1 + j from by omega] at this
theorem slp_loadCells {K:Array Value→PHeap→Prop} {a:Addr} {cs:List Value} {n:Nat} (hn:n = cs.length) (hc:Cells h a cs) (x:K cs.toArray h):(loadCells a n).slp P K E h:=by
  subst hn
  exact slp_loadCellsFrom cs 0 #[] (fun j v e=>by simpa using hc j v e) (by simpa using x)
def ofCells (d:TypeDesc) (cs:List Value):Value:=if aggD d then .agg cs.toArray else cs.headD undef
theorem slp_loadVar {K:Value→PHeap→Prop} {a:Addr} {cs:List Value} (T:Ty P t d size bytes zero) (hl:cs.length = size) (h1:aggD d = false→size = 1) (hc:Cells h a cs) (x:K (ofCells d cs) h):(loadVar t a).slp P K E h:=by
  simp only [loadVar,slp_bind]
  refine slp_isAgg T.und ?_
  unfold ofCells at x
  by_cases hd:aggD d = true
  · rw [if_pos hd] at x ⊢
    simp only [slp_bind,slp_pure]
    exact slp_sizeOf T (slp_loadCells hl.symm hc x)
  · rw [if_neg hd] at x ⊢
    have hs:=h1 (by simpa using hd)
    rw [hs] at hl
    obtain ⟨c,rfl⟩:=List.length_eq_one_iff.1 hl
    exact ⟨rfl,c,by simpa [Addr.add] using hc 0 c rfl,x⟩
def setCells (c:Array Value):Nat→List Value→Array Value
  | _,[]=>c
  | off,v :: vs=>setCells (c.setIfInBounds off v) (off + 1) vs
theorem PHeap.ext' {a b:PHeap} (h1:∀ r,a.obj r = b.obj r) (h2:∀ r,a.wr r = b.wr r) (h3:a.gh = b.gh):a = b:=by
  cases a; cases b; congr <;> first|exact h3 | (funext r; first|exact h1 r | exact h2 r)
theorem put_put (h:PHeap) (r:Nat) (o o':Obj):(h.put r o).put r o' = h.put r o':=by
  refine PHeap.ext' ?_ ?_ rfl <;> intro b <;> simp only [PHeap.put] <;> split <;> rfl
theorem setCell_put {b off : Nat} {c : Array Value} {T : TypeId} {fr : Nat × Nat} (hb : h.obj b = some (.cells c T fr)) (hw : h.wr b = true) (v : Value) :
    h.setCell ⟨b,off,none⟩ v = h.put b (.cells (c.setIfInBounds off v) T fr):=by
  refine PHeap.ext' ?_ ?_ rfl <;> intro r <;> simp only [PHeap.setCell,PHeap.upd,PHeap.put]
  · split
    · rename_i e; subst e; simp [hb,cellsSet]
    · rfl
  · split
    · rename_i e; subst e; exact hw
    · rfl
theorem cell_of {b off:Nat} {c:Array Value} {T:TypeId} {fr:Nat × Nat} (hb:h.obj b = some (.cells c T fr)):h.cell ⟨b,off,none⟩ = c[off]?:=by
  simp [PHeap.cell,hb]
theorem obj_put (h:PHeap) (r:Nat) (o:Obj):(h.put r o).obj r = some o:=by simp [PHeap.put]
theorem wr_put (h:PHeap) (r:Nat) (o:Obj):(h.put r o).wr r = true:=by simp [PHeap.put]
theorem obj_put_ne {b r:Nat} {o:Obj} (e:b ≠ r):(h.put r o).obj b = h.obj b:=by simp [PHeap.put,e]
theorem wr_put_ne {b r:Nat} {o:Obj} (e:b ≠ r):(h.put r o).wr b = h.wr b:=by simp [PHeap.put,e]
theorem obj_put_fresh {b r:Nat} {o x:Obj} (hr:h.obj r = none) (hb:h.obj b = some x):(h.put r o).obj b = some x:=by
  rw [obj_put_ne (fun e=>by rw [e,hr] at hb; cases hb)]; exact hb
theorem wr_put_fresh {b r:Nat} {o x:Obj} (hr:h.obj r = none) (hb:h.obj b = some x) (hw:h.wr b = true):(h.put r o).wr b = true:=by
  rw [wr_put_ne (fun e=>by rw [e,hr] at hb; cases hb)]; exact hw
def noFrozen (fr:Nat × Nat) (off n:Nat):Prop:=fr.2 ≤ off ∨ off + n ≤ fr.1
theorem slp_storeCells {K : Unit → PHeap → Prop} {b : Nat} {T : TypeId} {fr : Nat × Nat} : ∀ (vs : List Value) (off i : Nat) (c : Array Value) (h : PHeap), h.obj b = some (.cells c T fr) → h.wr b = true →
    off + i + vs.length ≤ c.size→(∀ v ∈ vs,isOne v = true)→noFrozen fr (off + i) vs.length→K () (h.put b (.cells (setCells c (off + i) vs) T fr))→(storeCells ⟨b,off,none⟩ vs i).slp P K E h
  | [],off,i,c,h,hb,hw,_,_,_,x=>by
    have:h.put b (.cells c T fr) = h:=by
      refine PHeap.ext' ?_ ?_ rfl <;> intro r <;> simp only [PHeap.put] <;> split <;> rename_i e <;> (try subst e) <;> first|exact hb.symm | exact hw.symm | rfl
    simp only [setCells,this] at x
    exact x
  | v :: vs,off,i,c,h,hb,hw,hl,ho,hf,x=>by
    simp only [storeCells,store,slp_bind]
    simp only [List.length_cons] at hl hf
    refine ⟨rfl,ho v (by simp),by rw [add_none]; exact hw,⟨c[off + i]'(by omega),?_⟩,?_,?_⟩
    · rw [add_none,cell_of hb]; simp [show off + i < c.size from by omega]
    · rw [add_none]; simp only [PHeap.frozen,hb]
      unfold noFrozen at hf
      obtain ⟨lo,hi⟩:=fr
      simp only [Bool.and_eq_false_iff,decide_eq_false_iff_not]
      simp only at hf; omega
    · rw [add_none,setCell_put hb hw]
      refine slp_storeCells vs off (i + 1) (c.setIfInBounds (off + i) v) _ (obj_put _ _ _) (wr_put _ _ _) (by simp; omega) (fun u hu=>ho u (by simp [hu])) (by unfold noFrozen at *; omega) ?_
      rw [put_put,← Nat.add_assoc]; exact x
end
def slList (P:Program) (M:Jdg→Prop) (n:Nat) (ops:Array Oper) (Q:Qt) (rest:List Oper) (L:Locals) (h:PHeap):Prop:=
  ∀ l:List Nat,l.map (fun i=>ops[i]?) = rest.map some→slOps P M n ops Q l L h
def nextL (P:Program) (M:Jdg→Prop) (n:Nat) (ops:Array Oper) (Q:Qt) (rest:List Oper) (L:Locals) (d:Option Nat) (r:Next) (h:PHeap):Prop:=
  match r with
  | .value v=>slList P M n ops Q rest (setL d v L) h
  | .skip=>slList P M n ops Q rest (setL d undef L) h
  | .enter f args=>CallsE P M f args h (fun v h'=>slList P M n ops Q rest (setL d v L) h') (fun ch h'=>Q (.pan ch) L h')
  | _=>False
def opv (P:Program) (n:Nat) (o:Oper) (L:Locals) (h:PHeap) (K:Next→PHeap→Prop) (E:Value→PHeap→Prop):Prop:=
  ∀ a:Act,Agree n L a.tmps→(execOp a.eval o).slp P K E h
def dstOk (n:Nat):Option Nat→Bool
  | none=>true
  | some i=>Nat.blt i n
def evAll (L:Locals):List Operand→Option (List Value)
  | []=>some []
  | x :: xs=>match ev L x,evAll L xs with
    | some v,some vs=>some (v :: vs)
    | _,_=>none
def evParts (L:Locals):List (Nat × Operand)→Option (List (Nat × Value))
  | []=>some []
  | (i,x) :: xs=>match ev L x,evParts L xs with
    | some v,some vs=>some ((i,v) :: vs)
    | _,_=>none
section
variable {P:Program} {M:Jdg→Prop} [hM:IsCl P M] {n:Nat} {Q:Qt} {L:Locals} {h:PHeap} {ops:Array Oper} {rest:List Oper} {o:Oper}
theorem evAll_map {a:Act} (ha:Agree n L a.tmps):∀ {xs:List Operand} {vs:List Value},evAll L xs = some vs→xs.map a.eval = vs
  | [],vs,e=>by cases e; rfl
  | x :: xs,vs,e=>by
    simp only [evAll] at e
    split at e
    · rename_i v us h1 h2; cases e; simp [ha.ev h1,evAll_map ha h2]
    · cases e
theorem evParts_map {a:Act} (ha:Agree n L a.tmps):∀ {xs:List (Nat × Operand)} {vs:List (Nat × Value)},evParts L xs = some vs→xs.map (fun x=>(x.1,a.eval x.2)) = vs
  | [],vs,e=>by cases e; rfl
  | (i,x) :: xs,vs,e=>by
    simp only [evParts] at e
    split at e
    · rename_i v us h1 h2; cases e; simp [ha.ev h1,evParts_map ha h2]
    · cases e
theorem sl_reg {id:Nat} {l:List Oper} (x:slList P M n l.toArray Q l L h):(Code.region id l.toArray false).sl P M n Q L h:=
  sl_region (x _ (by
    apply List.ext_getElem?; intro i
    simp only [List.getElem?_map,List.size_toArray]
    rcases Nat.lt_or_ge i l.length with hi | hi
    · simp [List.getElem?_range,hi]
    · simp [hi]))
theorem l_nil (x:Q .nrm L h):slList P M n ops Q [] L h:=fun l e=>by
  have:l = []:=by simpa using e
  subst this; exact ops_nil x
omit hM in
theorem nextL_ok {l:List Nat} (el:l.map (fun i=>ops[i]?) = rest.map some) {d:Option Nat} {r:Next} {h:PHeap} (x:nextL P M n ops Q rest L d r h):nextOk P M n ops Q l L d r h:=by
  cases r <;> first|exact x.elim | exact x l el | exact CallsE.mono x (fun v h' y=>y l el) (fun _ _ y=>y)
theorem l_op (hd:dstOk n o.dst = true) (hw:∀ tm,Agree n L tm→Region.wanted o (yielded ops tm) = true) (x:opv P n o L h (fun r h'=>nextL P M n ops Q rest L o.dst r h') (fun v h'=>Q (.pan [{ v,recovered:=false }]) L h')):slList P M n ops Q (o :: rest) L h:=by
  intro l e
  cases l with
  | nil=>simp at e
  | cons i l=>
    simp only [List.map_cons,List.cons.injEq] at e
    refine ops_op e.1 (fun d hd'=>?_) hw fun a ha=>slp_mono (fun r h' y=>nextL_ok e.2 y) (fun _ _ y=>y) (x a ha)
    rw [hd'] at hd; exact Nat.lt_of_lt_of_le (Nat.lt_succ_self d) (Nat.le_of_ble_eq_true hd)
theorem l_plain (hg:o.guard = none) (hd:dstOk n o.dst = true) (x:opv P n o L h (fun r h'=>nextL P M n ops Q rest L o.dst r h') (fun v h'=>Q (.pan [{ v,recovered:=false }]) L h')):slList P M n ops Q (o :: rest) L h:=
  l_op hd (fun tm _=>by simp [Region.wanted,hg]) x
theorem l_guard {j dj : Nat} {want b : Bool} (hg : o.guard = some (j, want)) (hd : dstOk n o.dst = true) (hj : (ops[j]?).bind (·.dst) = some dj) (hb : L.get dj = some (.bool b))
    (hT:b = want→opv P n o L h (fun r h'=>nextL P M n ops Q rest L o.dst r h') (fun v h'=>Q (.pan [{ v,recovered:=false }]) L h')) (hF:b = !want→slList P M n ops Q rest (setL o.dst undef L) h):slList P M n ops Q (o :: rest) L h:=by
  have hy:∀ tm,Agree n L tm→yielded ops tm j = some b:=fun tm ha=>by simp [yielded,hj,ha.at' _ _ hb]
  by_cases hbw:b = want
  · exact l_op hd (fun tm ha=>by simp [Region.wanted,hg,hy tm ha,hbw]) (hT hbw)
  · intro l e
    cases l with
    | nil=>simp at e
    | cons i l=>
      simp only [List.map_cons,List.cons.injEq] at e
      refine ops_skip e.1 (fun d hd'=>?_) (fun tm ha=>by simp [Region.wanted,hg,hy tm ha,hbw]) (hF (by cases b <;> cases want <;> simp_all) l e.2)
      rw [hd'] at hd; exact Nat.lt_of_lt_of_le (Nat.lt_succ_self d) (Nat.le_of_ble_eq_true hd)
variable {K:Next→PHeap→Prop} {E:Value→PHeap→Prop} {d:Option Nat} {ty:TypeId} {pos:String} {af:Array Edge} {g:Option (Nat × Bool)}
omit hM in
theorem o_val {s : Act → Sem Value} {op : Op} (he : ∀ a, Agree n L a.tmps → execOp a.eval ⟨d, op, ty, pos, af, g⟩ = (do pure (.value (← s a))))
    (x:∀ a,Agree n L a.tmps→(s a).slp P (fun v h'=>K (.value v) h') E h):opv P n ⟨d,op,ty,pos,af,g⟩ L h K E:=by
  intro a ha
  rw [he a ha,slp_bind]
  exact slp_mono (fun v h' y=>y) (fun _ _ y=>y) (x a ha)
omit hM in
theorem o_move {x:Operand} {v:Value} (hx:ev L x = some v) (k:K (.value v) h):opv P n ⟨d,.move x,ty,pos,af,g⟩ L h K E:=fun a ha=>by
  show K (.value (a.eval x)) h
  rw [ha.ev hx]; exact k
omit hM in
theorem o_assign {x:Operand} {v:Value} (hx:ev L x = some v) (k:K (.value v) h):opv P n ⟨d,.assign x,ty,pos,af,g⟩ L h K E:=fun a ha=>by
  show K (.value (a.eval x)) h
  rw [ha.ev hx]; exact k
omit hM in
theorem o_pickT {c x y:Operand} {v:Value} (hc:ev L c = some (.bool true)) (hx:ev L x = some v) (k:K (.value v) h):opv P n ⟨d,.pick c x y,ty,pos,af,g⟩ L h K E:=fun a ha=>by
  have e:execOp a.eval ⟨d,.pick c x y,ty,pos,af,g⟩ = (do pure (.value (if ← asBool (a.eval c) then a.eval x else a.eval y))):=rfl
  rw [e,ha.ev hc,ha.ev hx]; exact k
omit hM in
theorem o_pickF {c x y:Operand} {v:Value} (hc:ev L c = some (.bool false)) (hx:ev L y = some v) (k:K (.value v) h):opv P n ⟨d,.pick c x y,ty,pos,af,g⟩ L h K E:=fun a ha=>by
  have e:execOp a.eval ⟨d,.pick c x y,ty,pos,af,g⟩ = (do pure (.value (if ← asBool (a.eval c) then a.eval x else a.eval y))):=rfl
  rw [e,ha.ev hc,ha.ev hx]; exact k
variable {t:TypeId} {D:TypeDesc} {size bytes:Nat} {zero:Value}
omit hM in
theorem o_alloc [T : Ty P t D size bytes zero] (k : ∀ r, h.obj r = none → K (.value (.pointer (some ⟨r, 0, none⟩))) (h.put r (.cells zero.cells t))) :
    opv P n ⟨d,.alloc t,ty,pos,af,g⟩ L h K E:=
  o_val (s:=fun _=>Instr.alloc t true (.tuple #[])) (fun _ _=>rfl) fun a ha=>by
    simp only [Instr.alloc,slp_bind]
    refine slp_zeroValue T ?_
    simp only [slp_bind,slp_pure,newVar,newRow,newObj]
    exact fun r hr=>k r hr
omit hM in
theorem o_box {x : Operand} {v : Value} (hx : ev L x = some v) (k : ∀ r, h.obj r = none → K (.value (.pointer (some ⟨r, 0, none⟩))) (h.put r (.cells v.cells t))) :
    opv P n ⟨d,.box t x,ty,pos,af,g⟩ L h K E:=
  o_val (s:=fun a=>Instr.box t (a.eval x)) (fun _ _=>rfl) fun a ha=>by
    simp only [Instr.box,slp_bind,slp_pure,newVar,newRow,newObj,ha.ev hx]
    exact fun r hr=>k r hr
def loadOk (D:TypeDesc) (size:Nat):Bool:=aggD D || Nat.beq size 1
omit hM in
theorem o_load [T : Ty P t D size bytes zero] {x : Operand} {ad : Addr} {cs : List Value} (hx : ev L x = some (.pointer (some ad))) (hl : cs.length = size) (h1 : loadOk D size = true) (hc : Cells h ad cs)
    (k:K (.value (ofCells D cs)) h):opv P n ⟨d,.load t x,ty,pos,af,g⟩ L h K E:=
  o_val (s:=fun a=>Instr.loadAt t (a.eval x)) (fun _ _=>rfl) fun a ha=>by
    simp only [Instr.loadAt,slp_bind,ha.ev hx,Instr.sureAddr,slp_pure]
    refine slp_loadVar T hl (fun e=>?_) hc k
    unfold loadOk at h1; rw [e] at h1; exact Nat.eq_of_beq_eq_true h1
def takeCells (c:Array Value) (off n:Nat):Option (List Value):=bif Nat.ble (off + n) c.size then some ((c.toList.drop off).take n) else none
theorem cells_take {b off n:Nat} {c:Array Value} {T:TypeId} {fr:Nat × Nat} {cs:List Value} (hb:h.obj b = some (.cells c T fr)) (e:takeCells c off n = some cs):cs.length = n∧Cells h ⟨b,off,none⟩ cs:=by
  unfold takeCells at e
  cases hle:Nat.ble (off + n) c.size with
  | false=>rw [hle] at e; cases e
  | true=>
    rw [hle] at e
    have hle':=Nat.le_of_ble_eq_true hle
    obtain rfl:=Option.some.inj e
    refine ⟨by simp; omega,fun j v ev=>?_⟩
    rw [add_none,cell_of hb]
    have hj:j < n:=by
      rcases Nat.lt_or_ge j n with h | h
      · exact h
      · rw [List.getElem?_eq_none (by simp; omega)] at ev; cases ev
    rw [List.getElem?_take_of_lt hj,List.getElem?_drop] at ev
    simpa using ev
omit hM in
theorem o_loadB [T : Ty P t D size bytes zero] {x : Operand} {b off : Nat} {c : Array Value} {T' : TypeId} {fr : Nat × Nat} {cs : List Value} (hx : ev L x = some (.pointer (some ⟨b, off, none⟩))) (hb : h.obj b = some (.cells c T' fr))
    (hcs:takeCells c off size = some cs) (h1:loadOk D size = true) (k:K (.value (ofCells D cs)) h):opv P n ⟨d,.load t x,ty,pos,af,g⟩ L h K E:=
  let ⟨a,b⟩:=cells_take hb hcs
  o_load hx a h1 b k
def allOne (vs:List Value):Bool:=vs.all isOne
omit hM in
theorem o_store [T : Ty P t D size bytes zero] {x y : Operand} {v : Value} {b off : Nat} {c : Array Value} {T' : TypeId} (hx : ev L x = some (.pointer (some ⟨b, off, none⟩))) (hy : ev L y = some v)
    (hb:h.obj b = some (.cells c T')) (hw:h.wr b = true) (hs:v.cells.size = size) (hle:off + v.cells.toList.length ≤ c.size) (ho:allOne v.cells.toList = true)
    (k:K .skip (h.put b (.cells (setCells c off v.cells.toList) T'))):opv P n ⟨d,.store t x y,ty,pos,af,g⟩ L h K E:=fun a ha=>by
  have e:execOp a.eval ⟨d,.store t x y,ty,pos,af,g⟩ = (do Instr.storeAt t (a.eval x) (a.eval y); pure .skip):=rfl
  rw [e,ha.ev hx,ha.ev hy,slp_bind]
  simp only [Instr.storeAt,Instr.sureAddr,slp_bind,slp_pure,storeVar]
  refine slp_sizeOf T ?_
  rw [if_neg (by simp [hs])]
  refine slp_storeCells v.cells.toList off 0 c h hb hw (by simpa using hle) (fun u hu=>List.all_eq_true.1 ho u hu) (.inl (Nat.zero_le _)) ?_
  exact k
theorem Flds.get {pl:List FldI} (F:Flds P t pl):∃ fs,P.underlying t = some (.struct fs)∧∀ (i:Nat) (x:FldI),pl[i]? = some x→∃ f:Field,fs[i]? = some f∧f.type = x.type∧f.offset = x.off∧(∃ y,P.info? f.type = some y∧y.size = x.size)∧∃ d,P.underlying f.type = some d∧aggD d = x.agg:=by
  have e:=F.und
  unfold Program.fldsOf at e
  cases hu:P.underlying t with
  | none=>rw [hu] at e; cases e
  | some D=>
    rw [hu] at e
    cases D with
    | struct fs=>
      refine ⟨fs,rfl,fun i x hi=>?_⟩
      have e':=congrArg (fun l=>l[i]?) (Option.some.inj e)
      simp only [List.getElem?_map,hi,Option.map_some,Array.getElem?_toList] at e'
      cases hf:fs[i]? with
      | none=>rw [hf] at e'; cases e'
      | some f=>
        rw [hf] at e'
        simp only [Option.map_some,Option.some.injEq] at e'
        cases hi':P.info? f.type with
        | none=>rw [hi'] at e'; cases e'
        | some y=>
          rw [hi'] at e'
          cases hd:P.underlying f.type with
          | none=>rw [hd] at e'; cases e'
          | some d=>
            rw [hd] at e'
            simp only [Option.bind_some,Option.map_some,Option.some.injEq] at e'
            subst e'
            exact ⟨f,rfl,rfl,rfl,⟨y,hi',rfl⟩,d,hd,rfl⟩
    | _=>cases e
theorem slp_sizeOf' {K:Nat→PHeap→Prop} {E:Value→PHeap→Prop} {t:TypeId} {y:TypeInfo} (e:P.info? t = some y) (x:K y.size h):(sizeOf t).slp P K E h:=by
  simp only [sizeOf,slp_bind,slp_pure]
  exact slp_typeInfo e x
omit hM in
theorem o_fieldAddr {pl : List FldI} [F : Flds P t pl] {x : Operand} {f b off : Nat} {fi : FldI} (hx : ev L x = some (.pointer (some ⟨b, off, none⟩))) (hf : pl[f]? = some fi) (hs : Nat.blt 0 fi.size = true)
    (k:K (.value (.pointer (some ⟨b,off + fi.off,none⟩))) h):opv P n ⟨d,.fieldAddr t x f,ty,pos,af,g⟩ L h K E:=
  o_val (s:=fun a=>Instr.fieldAt t (a.eval x) f) (fun _ _=>rfl) fun a ha=>by
    obtain ⟨fs,h1,h2⟩:=Flds.get F
    obtain ⟨fd,h3,h4,h5,⟨y,h6,h7⟩,_⟩:=h2 f fi hf
    simp only [Instr.fieldAt,slp_bind,ha.ev hx]
    refine slp_underlying h1 ?_
    simp only [h3,slp_bind,Instr.sureAddr,slp_pure,fieldPlace]
    refine slp_sizeOf' h6 ?_
    rw [if_neg (by rw [h7]; have:=Nat.le_of_ble_eq_true hs; omega)]
    simp only [slp_pure,add_none,h5]
    exact k
def partOfV (agg:Bool) (cs:Array Value) (off size:Nat):Option Value:=bif agg then some (.agg (cs.extract off (off + size))) else cs[off]?
omit hM in
theorem slp_part {K : Value → PHeap → Prop} {E : Value → PHeap → Prop} {ft : TypeId} {cs : Array Value} {off sz : Nat} {agg : Bool} {y : TypeInfo} {dd : TypeDesc} {v : Value} (h6 : P.info? ft = some y) (h7 : y.size = sz) (h8 : P.underlying ft = some dd) (h9 : aggD dd = agg)
    (e:partOfV agg cs off sz = some v) (x:K v h):(part ft cs off).slp P K E h:=by
  simp only [part,slp_bind]
  refine slp_isAgg h8 ?_
  rw [h9]
  cases agg with
  | true=>
    simp only [if_true,slp_bind,slp_pure]
    refine slp_sizeOf' h6 ?_
    simp only [partOfV,cond_true,Option.some.injEq] at e
    rw [h7,e]; exact x
  | false=>
    simp only [partOfV,cond_false] at e
    simp only [Bool.false_eq_true,if_false,e]; exact x
omit hM in
theorem o_field {pl : List FldI} [F : Flds P t pl] {x : Operand} {f : Nat} {fi : FldI} {cs : Array Value} {v : Value} (hx : ev L x = some (.agg cs)) (hf : pl[f]? = some fi) (hv : partOfV fi.agg cs fi.off fi.size = some v)
    (k:K (.value v) h):opv P n ⟨d,.field t x f,ty,pos,af,g⟩ L h K E:=
  o_val (s:=fun a=>Instr.field t (a.eval x) f) (fun _ _=>rfl) fun a ha=>by
    obtain ⟨fs,h1,h2⟩:=Flds.get F
    obtain ⟨fd,h3,h4,h5,⟨y,h6,h7⟩,dd,h8,h9⟩:=h2 f fi hf
    simp only [Instr.field,slp_bind,ha.ev hx]
    refine slp_underlying h1 ?_
    simp only [h3,slp_bind,asAgg,slp_pure,h5]
    exact slp_part h6 h7 h8 h9 hv k
variable {e:TypeId} {size' bytes':Nat} {zero':Value} {D':TypeDesc}
omit hM in
theorem o_indexAddr [S : Ty P t (.slice e) size' bytes' zero'] [T : Ty P e D size bytes zero] {x i : Operand} {b off len cap : Nat} {k : IntKind} {z : Int} (hx : ev L x = some (.slice (some ⟨b, off, none⟩) len cap)) (hi : ev L i = some (.int k z))
    (h0:0 ≤ z) (h1:z < len) (kk:K (.value (.pointer (some ⟨b,off + z.toNat * size,none⟩))) h):opv P n ⟨d,.indexAddr t x i,ty,pos,af,g⟩ L h K E:=
  o_val (s:=fun a=>Instr.indexAt t (a.eval x) (a.eval i)) (fun _ _=>rfl) fun a ha=>by
    simp only [Instr.indexAt,slp_bind,ha.ev hx,ha.ev hi,asIntOf,slp_pure]
    refine slp_underlying S.und ?_
    simp only [slp_bind,slp_pure]
    refine slp_underlying S.und ?_
    simp only [slp_bind,slp_pure,h0,h1,and_self,if_true]
    refine slp_sizeOf T ?_
    simp only [add_none]; exact kk
omit hM in
theorem o_indexAddrA {len : Nat} [S : Ty P t (.array len e) size' bytes' zero'] [T : Ty P e D size bytes zero] {x i : Operand} {b off : Nat} {k : IntKind} {z : Int} (hx : ev L x = some (.pointer (some ⟨b, off, none⟩))) (hi : ev L i = some (.int k z))
    (h0:0 ≤ z) (h1:z < len) (kk:K (.value (.pointer (some ⟨b,off + z.toNat * size,none⟩))) h):opv P n ⟨d,.indexAddr t x i,ty,pos,af,g⟩ L h K E:=
  o_val (s:=fun a=>Instr.indexAt t (a.eval x) (a.eval i)) (fun _ _=>rfl) fun a ha=>by
    simp only [Instr.indexAt,slp_bind,ha.ev hx,ha.ev hi,asIntOf,slp_pure]
    refine slp_underlying S.und ?_
    simp only [slp_bind,slp_pure,Instr.sureAddr]
    refine slp_underlying S.und ?_
    simp only [slp_bind,slp_pure,h0,h1,and_self,if_true]
    refine slp_sizeOf T ?_
    simp only [add_none]; exact kk
omit hM in
theorem o_indexA {len : Nat} [S : Ty P t (.array len e) size' bytes' zero'] [T : Ty P e D size bytes zero] {x i : Operand} {cs : Array Value} {k : IntKind} {z : Int} {v : Value} (hx : ev L x = some (.agg cs)) (hi : ev L i = some (.int k z))
    (h0:0 ≤ z) (h1:z < len) (hv:partOfV (aggD D) cs (z.toNat * size) size = some v) (kk:K (.value v) h):opv P n ⟨d,.index t x i,ty,pos,af,g⟩ L h K E:=
  o_val (s:=fun a=>Instr.index t (a.eval x) (a.eval i)) (fun _ _=>rfl) fun a ha=>by
    obtain ⟨y,h6,h7,_⟩:=T.get
    simp only [Instr.index,slp_bind,ha.ev hx,ha.ev hi,asIntOf,slp_pure]
    refine slp_underlying S.und ?_
    simp only [h0,h1,and_self,if_true,slp_bind]
    refine slp_sizeOf T ?_
    exact slp_part h6 h7 T.und rfl hv kk
omit hM in
theorem o_extract {x:Operand} {i:Nat} {vs:Array Value} {v:Value} (hx:ev L x = some (.tuple vs)) (hv:vs[i]? = some v) (k:K (.value v) h):opv P n ⟨d,.extract x i,ty,pos,af,g⟩ L h K E:=
  o_val (s:=fun a=>Instr.extract (a.eval x) i) (fun _ _=>rfl) fun a ha=>by
    simp only [ha.ev hx,Instr.extract,hv]; exact k
omit hM in
theorem o_not {x:Operand} {b:Bool} (hx:ev L x = some (.bool b)) (k:K (.value (.bool !b)) h):opv P n ⟨d,.unOp .not t x,ty,pos,af,g⟩ L h K E:=
  o_val (s:=fun a=>Op.unary .not (a.eval x)) (fun _ _=>rfl) fun a ha=>by
    simp only [ha.ev hx,Op.unary]; exact k
omit hM in
theorem o_makeInterface [T : Ty P t D size bytes zero] {x : Operand} {v : Value} (hx : ev L x = some v) (hd : (match D with | .interface _ => false | _ => true) = true) (k : K (.value (.iface t v)) h) :
    opv P n ⟨d,.makeInterface t x,ty,pos,af,g⟩ L h K E:=
  o_val (s:=fun a=>Instr.makeInterface t (a.eval x)) (fun _ _=>rfl) fun a ha=>by
    rw [ha.ev hx]
    unfold Instr.makeInterface
    rw [slp_bind]
    refine slp_underlying T.und ?_
    cases D <;> first|(cases hd; done) | exact k
omit hM in
theorem o_makeFunc {fn : Fn} {first captured : Array Operand} {vs us : List Value} (h1 : evAll L first.toList = some vs) (h2 : evAll L captured.toList = some us) (k : K (.value (.func fn vs.toArray us.toArray)) h) :
    opv P n ⟨d,.makeFunc fn first captured,ty,pos,af,g⟩ L h K E:=
  o_val (s:=fun a=>Instr.makeFunc fn (first.map a.eval) (captured.map a.eval)) (fun _ _=>rfl) fun a ha=>by
    have e1:first.map a.eval = vs.toArray:=Array.ext' (by rw [Array.toList_map,evAll_map ha h1])
    have e2:captured.map a.eval = us.toArray:=Array.ext' (by rw [Array.toList_map,evAll_map ha h2])
    rw [e1,e2]; exact k
omit hM in
theorem o_convert [S : Ty P t D size bytes zero] {t' : TypeId} {k : IntKind} [T : Ty P t' (.int k) size' bytes' zero'] {x : Operand} {k' : IntKind} {z : Int} (hx : ev L x = some (.int k' z)) (kk : K (.value (.int k (k.wrap z))) h) :
    opv P n ⟨d,.convert t t' x,ty,pos,af,g⟩ L h K E:=
  o_val (s:=fun a=>convert t t' (a.eval x)) (fun _ _=>rfl) fun a ha=>by
    rw [ha.ev hx]
    unfold convert
    rw [slp_bind]
    refine slp_underlying S.und ?_
    rw [slp_bind]
    refine slp_underlying T.und ?_
    exact kk
theorem eqGuard_int (op:BinOp) (t:TypeId) (x y:Operand) (k:IntKind) (a b:Int):eqGuard op t x y (.int k a) (.int k b) = pure ():=by
  cases op <;> rfl
omit hM in
theorem o_bin {op : BinOp} {x y : Operand} {k : IntKind} {a b : Int} {v : Value} (hx : ev L x = some (.int k a)) (hy : ev L y = some (.int k b))
    (hv:∀ K E,(binOp op t (.int k a) (.int k b)).slp P K E h = K v h) (kk:K (.value v) h) {t':TypeId}:opv P n ⟨d,.binOp op t x y t',ty,pos,af,g⟩ L h K E:=
  o_val (s:=fun a=>do eqGuard op t x y (a.eval x) (a.eval y); binOp op t (a.eval x) (a.eval y)) (fun _ _=>rfl) fun a ha=>by
    rw [slp_bind,ha.ev hx,ha.ev hy,eqGuard_int,slp_pure,hv]; exact kk
variable {x y:Operand} {k:IntKind} {a b:Int} {t':TypeId}
omit hM in
theorem o_add (hx:ev L x = some (.int k a)) (hy:ev L y = some (.int k b)) (kk:K (.value (.int k (k.wrap (a + b)))) h):opv P n ⟨d,.binOp .add t x y t',ty,pos,af,g⟩ L h K E:=
  o_bin hx hy (fun _ _=>by simp [binOp,Op.intArith,slp_pure]) kk
omit hM in
theorem o_sub (hx:ev L x = some (.int k a)) (hy:ev L y = some (.int k b)) (kk:K (.value (.int k (k.wrap (a - b)))) h):opv P n ⟨d,.binOp .sub t x y t',ty,pos,af,g⟩ L h K E:=
  o_bin hx hy (fun _ _=>by simp [binOp,Op.intArith,slp_pure]) kk
omit hM in
theorem o_mul (hx:ev L x = some (.int k a)) (hy:ev L y = some (.int k b)) (kk:K (.value (.int k (k.wrap (a * b)))) h):opv P n ⟨d,.binOp .mul t x y t',ty,pos,af,g⟩ L h K E:=
  o_bin hx hy (fun _ _=>by simp [binOp,Op.intArith,slp_pure]) kk
omit hM in
theorem o_quo (hx:ev L x = some (.int k a)) (hy:ev L y = some (.int k b)) (h0:b ≠ 0) (kk:K (.value (.int k (k.wrap (a.tdiv b)))) h):opv P n ⟨d,.binOp .quo t x y t',ty,pos,af,g⟩ L h K E:=
  o_bin hx hy (fun _ _=>by simp [binOp,Op.intDiv,h0,slp_pure]) kk
omit hM in
theorem o_rem (hx:ev L x = some (.int k a)) (hy:ev L y = some (.int k b)) (h0:b ≠ 0) (kk:K (.value (.int k (a.tmod b))) h):opv P n ⟨d,.binOp .rem t x y t',ty,pos,af,g⟩ L h K E:=
  o_bin hx hy (fun _ _=>by simp [binOp,Op.intDiv,h0,slp_pure]) kk
omit hM in
theorem o_eql (hx:ev L x = some (.int k a)) (hy:ev L y = some (.int k b)) (kk:K (.value (.bool (decide (a = b)))) h):opv P n ⟨d,.binOp .eql t x y t',ty,pos,af,g⟩ L h K E:=
  o_bin hx hy (fun _ _=>by simp [binOp,Op.intCmp,slp_pure]; rfl) kk
omit hM in
theorem o_neq (hx:ev L x = some (.int k a)) (hy:ev L y = some (.int k b)) (kk:K (.value (.bool (decide (a ≠ b)))) h):opv P n ⟨d,.binOp .neq t x y t',ty,pos,af,g⟩ L h K E:=
  o_bin hx hy (fun _ _=>by simp [binOp,Op.intCmp,slp_pure,bne]; rfl) kk
omit hM in
theorem o_lss (hx:ev L x = some (.int k a)) (hy:ev L y = some (.int k b)) (kk:K (.value (.bool (decide (a < b)))) h):opv P n ⟨d,.binOp .lss t x y t',ty,pos,af,g⟩ L h K E:=
  o_bin hx hy (fun _ _=>by simp [binOp,Op.intCmp,slp_pure]) kk
omit hM in
theorem o_leq (hx:ev L x = some (.int k a)) (hy:ev L y = some (.int k b)) (kk:K (.value (.bool (decide (a ≤ b)))) h):opv P n ⟨d,.binOp .leq t x y t',ty,pos,af,g⟩ L h K E:=
  o_bin hx hy (fun _ _=>by simp [binOp,Op.intCmp,slp_pure]) kk
omit hM in
theorem o_gtr (hx:ev L x = some (.int k a)) (hy:ev L y = some (.int k b)) (kk:K (.value (.bool (decide (a > b)))) h):opv P n ⟨d,.binOp .gtr t x y t',ty,pos,af,g⟩ L h K E:=
  o_bin hx hy (fun _ _=>by simp [binOp,Op.intCmp,slp_pure]) kk
omit hM in
theorem o_geq (hx:ev L x = some (.int k a)) (hy:ev L y = some (.int k b)) (kk:K (.value (.bool (decide (a ≥ b)))) h):opv P n ⟨d,.binOp .geq t x y t',ty,pos,af,g⟩ L h K E:=
  o_bin hx hy (fun _ _=>by simp [binOp,Op.intCmp,slp_pure]) kk
theorem Fun.get {f : FuncId} (F : Fun P f) : ∃ fn, P.funcs[f]? = some fn ∧ (fn.name == "runtime.NumGoroutine") = false ∧ fn.body.isNone = false := by
  have:=F.is
  cases e:P.funcs[f]? with
  | none=>rw [e] at this; cases this
  | some fn=>
    rw [e] at this
    simp only [Option.any_some,Bool.and_eq_true,Bool.not_eq_true'] at this
    refine ⟨fn,rfl,this.1,?_⟩
    cases hb:fn.body with
    | none=>rw [hb] at this; simp at this
    | some c=>rfl
theorem slp_callFunc {K:Next→PHeap→Prop} {E:Value→PHeap→Prop} {f:FuncId} [F:Fun P f] {args:Array Value} (x:K (.enter f args) h):(callFunc f args).slp P K E h:=by
  obtain ⟨fn,h1,h2,h3⟩:=Fun.get F
  simp only [callFunc,program,slp_bind]
  show Sem.slp P K E (match P.funcs[f]? with | none=>_ | some fn=>_) h
  rw [h1]
  simp only [h2,h3,Bool.false_eq_true,if_false]
  exact x
omit hM in
theorem o_call {f : FuncId} [F : Fun P f] {args : Array Operand} {ats : Array TypeId} {vs : List Value} (hv : evAll L args.toList = some vs)
    (x:K (.enter f vs.toArray) h):opv P n ⟨d,.call { callee:=.value (.func f),args,argTypes:=ats },ty,pos,af,g⟩ L h K E:=fun a ha=>by
  have e:execOp a.eval ⟨d,.call { callee:=.value (.func f),args,argTypes:=ats },ty,pos,af,g⟩ = callFunc f (#[]++args.map a.eval++#[]):=rfl
  have e1:args.map a.eval = vs.toArray:=Array.ext' (by rw [Array.toList_map,evAll_map ha hv])
  rw [e,e1]
  refine slp_callFunc ?_
  simpa [nextL] using x
omit hM in
theorem o_callv {fo : Operand} {f : FuncId} [F : Fun P f] {first captured : Array Value} {args : Array Operand} {ats : Array TypeId} {vs : List Value} (hf : ev L fo = some (.func (.func f) first captured)) (hv : evAll L args.toList = some vs)
    (x:K (.enter f (first.toList++vs++captured.toList).toArray) h):opv P n ⟨d,.call { callee:=.value fo,args,argTypes:=ats },ty,pos,af,g⟩ L h K E:=fun a ha=>by
  have e:execOp a.eval ⟨d,.call { callee:=.value fo,args,argTypes:=ats },ty,pos,af,g⟩ = (do let d ← Deferred.ofValue (a.eval fo) (args.map a.eval); invoke d.target d.args):=rfl
  have e1:args.map a.eval = vs.toArray:=Array.ext' (by rw [Array.toList_map,evAll_map ha hv])
  rw [e,e1,ha.ev hf]
  show (callFunc f (first++vs.toArray++captured)).slp P _ _ h
  refine slp_callFunc ?_
  have e2:first++vs.toArray++captured = (first.toList++vs++captured.toList).toArray:=by simp
  rw [e2]; exact x
omit hM in
theorem o_builtin {bn : Builtin} {args : Array Operand} {ats : Array TypeId} {vs : List Value} {s : Sem Value} (hv : evAll L args.toList = some vs)
    (hs:∀ consts,builtin bn ats ty consts vs.toArray = (do pure (.value (← s))))
    (x:s.slp P (fun v h'=>K (.value v) h') E h):opv P n ⟨d,.call { callee:=.builtin bn,args,argTypes:=ats },ty,pos,af,g⟩ L h K E:=fun a ha=>by
  have e:execOp a.eval ⟨d,.call { callee:=.builtin bn,args,argTypes:=ats },ty,pos,af,g⟩ = builtin bn ats ty (args.map fun | .const _=>true | _=>false) (args.map a.eval):=rfl
  have e1:args.map a.eval = vs.toArray:=Array.ext' (by rw [Array.toList_map,evAll_map ha hv])
  rw [e,e1,hs,slp_bind]
  exact slp_mono (fun v h' y=>y) (fun _ _ y=>y) x
omit hM in
theorem o_len [S : Ty P t (.slice e) size bytes zero] {ats : Array TypeId} {args : Array Operand} {base : Option Addr} {len cap : Nat} (hv : evAll L args.toList = some [.slice base len cap]) (ht : ats[0]? = some t)
    (kk:K (.value (.int .i64 len)) h):opv P n ⟨d,.call { callee:=.builtin .len,args,argTypes:=ats },ty,pos,af,g⟩ L h K E:=
  o_builtin hv (fun _=>rfl) (by
    simp only [Builtin.len_,ht]
    simp only [slp_bind,List.getElem?_toArray,List.getElem?_cons_zero]
    exact slp_underlying S.und kk)
end
def Ord (ops:Array Oper):List Nat→List Nat→Prop
  | D,[]=>∀ i,i < ops.size→i ∈ D
  | D,i :: l=>i ∉ D∧(∃ o,ops[i]? = some o∧∀ e ∈ o.after,Region.binds .any e = true→e.on ∈ D)∧Ord ops (i :: D) l
def edgesOk (ops:Array Oper):Bool:=ops.toList.zipIdx.all fun (o,i)=>o.after.all fun e=>!Region.binds .any e || Nat.blt e.on i
theorem edges_lt {ops:Array Oper} (h:edgesOk ops = true) {i:Nat} {o:Oper} (ho:ops[i]? = some o) {e:Edge} (he:e ∈ o.after) (hb:Region.binds .any e = true):e.on < i:=by
  unfold edgesOk at h
  rw [List.all_eq_true] at h
  have:=h (o,i) (by rw [List.mem_zipIdx_iff_getElem?]; simpa using ho)
  rw [Array.all_eq_true_iff_forall_mem] at this
  have:=this e he
  rw [hb] at this
  simp only [Bool.not_true,Bool.false_or] at this
  exact Nat.le_of_ble_eq_true this
theorem nodup_le:∀ {l m:List Nat},l.Nodup→(∀ x ∈ l,x ∈ m)→l.length ≤ m.length
  | [],m,_,_=>Nat.zero_le _
  | a :: l,m,hn,hs=>by
    have ha:a ∈ m:=hs a (by simp)
    have hn':=List.nodup_cons.1 hn
    have:=nodup_le (l:=l) (m:=m.erase a) hn'.2 fun x hx=>(List.mem_erase_of_ne (fun e:x = a=>hn'.1 (by rw [← e]; exact hx))).2 (hs x (by simp [hx]))
    rw [List.length_erase_of_mem ha] at this
    have hp:=List.length_pos_of_mem ha
    simp only [List.length_cons]; omega
theorem exists_least {p:Nat→Prop} [DecidablePred p]:∀ {i:Nat},p i→∃ j,p j∧∀ k,k < j→¬ p k:=by
  intro i
  induction i using Nat.strongRecOn with
  | _ i ih=>
    intro hi
    by_cases h:∃ k,k < i∧p k
    · obtain ⟨k,h1,h2⟩:=h; exact ih k h1 h2
    · exact ⟨i,hi,fun k hk hp=>h ⟨k,hk,hp⟩⟩
theorem lin_go {ops : Array Oper} (h : edgesOk ops = true) : ∀ (fuel t : Nat) (listed : Array Bool) (acc D : List Nat), listed.size = ops.size → (∀ i, listed[i]? = some true ↔ i ∈ D) → acc.reverse.length + fuel = ops.size → D.length = acc.length →
    D.Nodup→(∀ i ∈ D,i < ops.size)→∃ l,Region.linearise.go .any ops fuel t listed acc = acc.reverse++l∧Ord ops D l:=by
  intro fuel
  induction fuel with
  | zero=>
    intro t listed acc D hs hl hf hd hn hb
    refine ⟨[],by simp [Region.linearise.go],?_⟩
    intro i hi
    have hlen:D.length = ops.size:=by simp at hf; omega
    by_cases hm:i ∈ D
    · exact hm
    · exfalso
      have:(i :: D).length ≤ (List.range ops.size).length:=by
        refine nodup_le (List.nodup_cons.2 ⟨hm,hn⟩) fun x hx=>?_
        rcases List.mem_cons.1 hx with rfl | hx
        · simpa using hi
        · simpa using hb x hx
      simp at this; omega
  | succ fuel ih=>
    intro t listed acc D hs hl hf hd hn hb
    have hlt:D.length < ops.size:=by simp at hf; omega
    have hex:∃ i,i < ops.size∧i ∉ D:=by
      refine Classical.byContradiction fun hno=>?_
      have:(List.range ops.size).length ≤ D.length:=by
        refine nodup_le List.nodup_range fun x hx=>?_
        refine Classical.byContradiction fun hx'=>hno ⟨x,by simpa using hx,hx'⟩
      simp at this; omega
    obtain ⟨i0,hi0,hi0'⟩:=hex
    obtain ⟨j,⟨hj1,hj2⟩,hjl⟩:=exists_least (p:=fun i=>i < ops.size∧i ∉ D) ⟨hi0,hi0'⟩
    simp only [Region.linearise.go]
    generalize hrs:(List.range ops.size).filter (fun i=>!listed.getD i true && ((ops[i]?).map (·.after.all fun e=>!Region.binds .any e || listed.getD e.on false)).getD false) = rs
    have hgetD:∀ i,i < ops.size→(listed.getD i true = true ↔ i ∈ D):=by
      intro i hi
      rw [← hl i]
      have:i < listed.size:=by omega
      simp [Array.getD,this]
    have hready:j ∈ rs:=by
      rw [← hrs,List.mem_filter]
      refine ⟨by simpa using hj1,?_⟩
      have h1:listed.getD j true = false:=by
        cases hg:listed.getD j true with
        | false=>rfl
        | true=>exact absurd ((hgetD j hj1).1 hg) hj2
      rw [h1]
      have ho:ops[j]? = some ops[j]:=Array.getElem?_eq_getElem hj1
      simp only [Bool.not_false,Bool.true_and,ho,Option.map_some,Option.getD_some]
      rw [Array.all_eq_true_iff_forall_mem]
      intro e he
      cases hbn:Region.binds .any e with
      | false=>rfl
      | true=>
        have hlt:=edges_lt h ho he hbn
        have hin:e.on ∈ D:=Classical.byContradiction fun hx=>hjl e.on hlt ⟨by omega,hx⟩
        have:listed[e.on]? = some true:=(hl e.on).2 hin
        have hsz:e.on < listed.size:=by omega
        simp only [Bool.not_true,Bool.false_or]
        simpa [Array.getD,hsz] using this
    have hpos:0 < rs.length:=List.length_pos_of_mem hready
    have hmod:t % rs.length < rs.length:=Nat.mod_lt _ hpos
    rw [List.getElem?_eq_getElem hmod]
    generalize hi:rs[t % rs.length] = i
    have himem:i ∈ rs:=hi ▸ List.getElem_mem hmod
    rw [← hrs,List.mem_filter] at himem
    obtain ⟨hir,hic⟩:=himem
    have hir:i < ops.size:=by simpa using hir
    simp only [Bool.and_eq_true,Bool.not_eq_true'] at hic
    have hiD:i ∉ D:=fun hx=>by rw [(hgetD i hir).2 hx] at hic; simp at hic
    have hsz:i < listed.size:=by omega
    obtain ⟨l,hgo,hord⟩:=ih (t / rs.length) (listed.setIfInBounds i true) (i :: acc) (i :: D) (by simp [hs]) (fun x=>by
      rw [Array.getElem?_setIfInBounds]
      by_cases hx:i = x
      · subst hx; simp [hsz]
      · simp only [hx,if_false,hl x,List.mem_cons]
        constructor
        · exact .inr
        · rintro (e | e)
          · exact absurd e.symm hx
          · exact e) (by simp at hf ⊢; omega) (by simp [hd]) (List.nodup_cons.2 ⟨hiD,hn⟩) (fun x hx=>by
        rcases List.mem_cons.1 hx with rfl | hx
        · exact hir
        · exact hb x hx)
    refine ⟨i :: l,by simp only [hgo]; simp,hiD,?_,hord⟩
    have ho:ops[i]? = some ops[i]:=Array.getElem?_eq_getElem hir
    refine ⟨_,ho,fun e he hbn=>?_⟩
    have h2:=hic.2
    simp only [ho,Option.map_some,Option.getD_some] at h2
    rw [Array.all_eq_true_iff_forall_mem] at h2
    have:=h2 e he
    rw [hbn] at this
    simp only [Bool.not_true,Bool.false_or] at this
    refine (hl e.on).1 ?_
    have hlt:=edges_lt h ho he hbn
    have hsz':e.on < listed.size:=by omega
    simpa [Array.getD,hsz'] using this
theorem lin_ord {ops:Array Oper} (h:edgesOk ops = true) (t:Nat):Ord ops [] (Region.linearise .any ops t):=by
  obtain ⟨l,h1,h2⟩:=lin_go h ops.size t (Array.replicate ops.size false) [] [] (by simp) (fun i=>by simp [Array.getElem?_replicate]) (by simp) rfl List.nodup_nil (by simp)
  unfold Region.linearise
  rw [h1]; simpa using h2
class Mixed (P:Program):Prop where
  is:P.follows .mixedOrders = true
def dstsOf (ops:List Oper):List (Option Nat):=ops.map (·.dst)
def isD (d:Nat):Option Nat→Bool
  | some y=>Nat.beq d y
  | none=>false
def dstsOk (n:Nat):List (Option Nat)→Bool
  | []=>true
  | none :: l=>dstsOk n l
  | some d :: l=>Nat.blt d n && !l.any (isD d) && dstsOk n l
def seesOld (dsts:List (Option Nat)) (anc:List (List Nat)) (i t:Nat):Bool:=
  dsts.zipIdx.all fun (d,k)=>!isD t d || Nat.beq k i || (anc.getD k []).any (Nat.beq i ·)
def oldL (dsts:List (Option Nat)) (anc:List (List Nat)) (i:Nat):Locals→Locals
  | []=>[]
  | (t,v) :: L=>bif seesOld dsts anc i t then (t,v) :: oldL dsts anc i L else oldL dsts anc i L
def tailOk (anc:List (List Nat)) (m N:Nat):Bool:=(List.range N).all fun i=>Nat.blt i m || (List.range i).all fun j=>(anc.getD i []).any (Nat.beq j ·)
theorem dstsOk_lt {n:Nat}:∀ {ds:List (Option Nat)},dstsOk n ds = true→∀ {i d:Nat},ds[i]? = some (some d)→d < n
  | none :: l,h,i,d,e=>by
    cases i with
    | zero=>simp at e
    | succ i=>exact dstsOk_lt (ds:=l) h (i:=i) (by simpa using e)
  | some x :: l,h,i,d,e=>by
    simp only [dstsOk,Bool.and_eq_true] at h
    cases i with
    | zero=>simp at e; subst e; exact Nat.le_of_ble_eq_true h.1.1
    | succ i=>exact dstsOk_lt (ds:=l) h.2 (i:=i) (by simpa using e)
theorem dstsOk_inj {n:Nat}:∀ {ds:List (Option Nat)},dstsOk n ds = true→∀ {i j d:Nat},ds[i]? = some (some d)→ds[j]? = some (some d)→i = j
  | none :: l,h,i,j,d,e,e'=>by
    cases i with
    | zero=>simp at e
    | succ i=>
      cases j with
      | zero=>simp at e'
      | succ j=>rw [dstsOk_inj (ds:=l) h (i:=i) (j:=j) (by simpa using e) (by simpa using e')]
  | some x :: l,h,i,j,d,e,e'=>by
    simp only [dstsOk,Bool.and_eq_true,Bool.not_eq_true'] at h
    have key:∀ k:Nat,l[k]? = some (some x)→False:=by
      intro k hk
      have hm:=List.mem_of_getElem? hk
      have:l.any (isD x) = true:=List.any_eq_true.2 ⟨_,hm,by simp [isD]⟩
      rw [this] at h; simp at h
    cases i with
    | zero=>
      simp at e; subst e
      cases j with
      | zero=>rfl
      | succ j=>exact (key j (by simpa using e')).elim
    | succ i=>
      cases j with
      | zero=>simp at e'; subst e'; exact (key i (by simpa using e)).elim
      | succ j=>rw [dstsOk_inj (ds:=l) h.2 (i:=i) (j:=j) (by simpa using e) (by simpa using e')]
theorem oldL_get {dsts:List (Option Nat)} {anc:List (List Nat)} {i t:Nat} {v:Value}:∀ {L:Locals},(oldL dsts anc i L).get t = some v→L.get t = some v∧seesOld dsts anc i t = true
  | (x,u) :: L,e=>by
    simp only [oldL] at e
    cases hs:seesOld dsts anc i x with
    | true=>
      rw [hs] at e
      simp only [cond_true,Locals.get] at e ⊢
      cases hb:Nat.beq x t with
      | true=>rw [hb] at e; exact ⟨by simpa using e,by rw [← Nat.eq_of_beq_eq_true hb]; exact hs⟩
      | false=>rw [hb] at e; exact oldL_get (L:=L) (by simpa using e)
    | false=>
      rw [hs] at e
      have:=oldL_get (L:=L) (by simpa using e)
      refine ⟨?_,this.2⟩
      simp only [Locals.get]
      cases hb:Nat.beq x t with
      | true=>rw [Nat.eq_of_beq_eq_true hb,this.2] at hs; cases hs
      | false=>exact this.1
theorem step_op {P : Program} {M : Jdg → Prop} [hM : IsCl P M] {J : Jdg} (hJ : M J) {ops : Array Oper} {i : Nat} {rest : List Nat} {o : Oper} (ho : ops[i]? = some o) {b : Frame} (hb : b.kind ≠ .early) {a : Act} (hw : Region.wanted o (yielded ops a.tmps) = true)
    {k:List Item} {cs:List Frame} {h:PHeap} {K:Next→PHeap→Prop} (hs:(execOp a.eval o).slp P K (fun _ _=>False) h)
    (hv:∀ v h',K (.value v) h'→J h' (G (b.at (a.put o.dst v) (.inRegion ops rest :: k)) cs))
    (hc:∀ f args h',K (.enter f args) h'→J h' (G (Frame.enter P f args .normal) (b.at a (.inRegion ops (i :: rest) :: k) :: cs)))
    (hn:∀ r h',K r h'→(∃ v,r = .value v) ∨ ∃ f args,r = .enter f args):J h (G (b.at a (.inRegion ops (i :: rest) :: k)) cs):=by
  obtain ⟨main,hcl⟩:=hM.cl J hJ
  have hfin:∀ v,(b.at a (.inRegion ops (i :: rest) :: k)).finish v = b.at (a.put o.dst v) (.inRegion ops rest :: k):=fun v=>by rw [Frame.finish_at,ho]; rfl
  refine hcl h _ rfl fun w hsat=>?_
  have hk':(b.kind == CallKind.early) = false:=by simpa using hb
  obtain ⟨w',h',es',s1,s2,s3,s4⟩:=slp_sound #[] hs hsat
  have hseen:∀ e ∈ seen P b.fn es',EvOk h w.heap.size e∧EvLt w'.heap.size e:=fun e x=>s3 e (seen_sub x)
  rcases s4 with ⟨r,hr,hk⟩ | ⟨v,hr,hk⟩
  · have hrr:(execOp a.eval o).run P w = .ok r w':=by rw [← Sem.runT_fst P _ w #[],hr]
    have hre:Sem.events P (execOp a.eval o) w #[] = es':=by rw [Sem.events,hr]; simp
    rcases hn r h' hk with ⟨v,rfl⟩ | ⟨f,args,rfl⟩
    · refine ⟨G (b.at (a.put o.dst v) (.inRegion ops rest :: k)) cs,w',seen P b.fn es',h',?_,s1,s2,hseen,hv v h' hk⟩
      rw [stepG_oper ho hw,← hfin]
      simp [stepG.apply,hrr,hre,G,Frame.at,hk',GStep.after]
    · refine ⟨G (Frame.enter P f args .normal) (b.at a (.inRegion ops (i :: rest) :: k) :: cs),w',seen P b.fn es',h',?_,s1,s2,hseen,hc f args h' hk⟩
      rw [stepG_oper ho hw]
      simp [stepG.apply,hrr,hre,G,Frame.at,hk',GStep.after]
  · exact hk.elim
section
variable {P:Program} {M:Jdg→Prop} [hM:IsCl P M] {n:Nat} {Q:Qt} {L:Locals} {h:PHeap} {ops:List Oper} {dsts:List (Option Nat)} {anc:List (List Nat)}
end
abbrev Own:=List (Nat × Obj)
structure Rel (F h:PHeap) (O:Own) (H:PHeap):Prop where
  fr:F ≤ H
  base:h ≤ H
  own:∀ b o,(b,o) ∈ O→H.obj b = some o∧H.wr b = true∧F.obj b = none∧h.obj b = none
  nd:(O.map Prod.fst).Nodup
  gh:H.gh = h.gh
class Le (h:outParam PHeap) (h':PHeap):Prop where
  le:h ≤ h'
  gh:h'.gh = h.gh
structure Up (F h h':PHeap):Prop where
  le:h ≤ h'
  new:∀ b,(h'.obj b).isSome = true→(h.obj b).isSome = true ∨ F.obj b = none
  gh:h'.gh = h.gh
theorem Up.refl (F h:PHeap):Up F h h:=⟨le_refl _,fun _ x=>.inl x,rfl⟩
theorem Up.trans {F h h' h'':PHeap} (a:Up F h h') (b:Up F h' h''):Up F h h'':=
  ⟨le_trans a.le b.le,fun r x=>(b.new r x).elim (a.new r) .inr,b.gh.trans a.gh⟩
def lift {α:Type} (F h:PHeap) (K:α→Own→PHeap→Prop) (r:α) (H:PHeap):Prop:=∃ O h',Up F h h'∧Rel F h' O H∧K r O h'
theorem lift.here {α:Type} {F h:PHeap} {K:α→Own→PHeap→Prop} {r:α} {O:Own} {H:PHeap} (x:Rel F h O H) (k:K r O h):lift F h K r H:=⟨O,h,Up.refl _ _,x,k⟩
theorem lift.up {α:Type} {F h h':PHeap} {K:α→Own→PHeap→Prop} {r:α} {H:PHeap} (u:Up F h h') (x:lift F h' K r H):lift F h K r H:=
  let ⟨O,h2,u2,r2,k⟩:=x; ⟨O,h2,u.trans u2,r2,k⟩
theorem lift.mono {α:Type} {F h:PHeap} {K K':α→Own→PHeap→Prop} {r:α} {H:PHeap} (x:lift F h K r H) (k:∀ O h',Le h h'→K r O h'→K' r O h'):lift F h K' r H:=
  let ⟨O,h2,u2,r2,k2⟩:=x; ⟨O,h2,u2,r2,k O h2 ⟨u2.le,u2.gh⟩ k2⟩
abbrev Qo:=Ex→Locals→Own→PHeap→Prop
def liftQ (F h:PHeap) (Q:Qo):Qt:=fun e L H=>lift F h (fun (_:Unit)=>Q e L) () H
theorem liftQ_up {F h h':PHeap} (u:Up F h h') {Q:Qo} {e:Ex} {L:Locals} {H:PHeap} (x:liftQ F h' Q e L H):liftQ F h Q e L H:=lift.up u x
def _root_.Go.Code.so (P:Program) (M:Jdg→Prop) (n:Nat) (c:Code) (Q:Qo) (L:Locals) (O:Own) (h:PHeap):Prop:=
  ∀ F H,Rel F h O H→c.sl P M n (liftQ F h Q) L H
def soOps (P:Program) (M:Jdg→Prop) (n:Nat) (ops:Array Oper) (Q:Qo) (rest:List Oper) (L:Locals) (O:Own) (h:PHeap):Prop:=
  ∀ F H,Rel F h O H→slList P M n ops (liftQ F h Q) rest L H
def CallsP (P:Program) (M:Jdg→Prop) (f:FuncId) (args:List Value) (O:Own) (h:PHeap) (R:Value→Own→PHeap→Prop) (E:List PanicEntry→Own→PHeap→Prop):Prop:=
  ∀ F H,Rel F h O H→CallsE P M f args.toArray H (lift F h R) (lift F h E)
def noP:List PanicEntry→Own→PHeap→Prop:=fun _ _ _=>False
abbrev CallO (P:Program) (M:Jdg→Prop) (f:FuncId) (args:List Value) (O:Own) (h:PHeap) (R:Value→Own→PHeap→Prop):Prop:=CallsP P M f args O h R noP
def thenO (K:Locals→Own→PHeap→Prop) (Q:Qo):Qo:=fun e L O h=>match e with
  | .nrm=>K L O h
  | e=>Q e L O h
section
variable {P:Program} {M:Jdg→Prop} [hM:IsCl P M] {n:Nat} {Q Q':Qo} {L L':Locals} {O O':Own} {h:PHeap}
omit hM in
theorem list_sub {ops:Array Oper} {rest:List Oper} {Q:Qt} {H:PHeap} (x:slList P M n ops Q rest L' H) (hs:L'.sub L):slList P M n ops Q rest L H:=fun l e=>ops_sub (x l e) hs
theorem Rel.drop {F H:PHeap} (r:Rel F h O H) (hs:O'.Sublist O):Rel F h O' H:=
  ⟨r.fr,r.base,fun b o m=>r.own b o (hs.subset m),r.nd.sublist (hs.map _),r.gh⟩
theorem Rel.perm {F H:PHeap} (r:Rel F h O H) (hp:O'.Perm O):Rel F h O' H:=
  ⟨r.fr,r.base,fun b o m=>r.own b o (hp.subset m),(hp.map _).nodup_iff.2 r.nd,r.gh⟩
theorem Rel.pub {F H:PHeap} {b:Nat} {o:Obj} (r:Rel F h ((b,o) :: O) H):Rel F (h.put b o) O H∧Up F h (h.put b o):=by
  obtain ⟨h1,h2,h3,h4⟩:=r.own b o (by simp)
  have hnd:=List.nodup_cons.1 r.nd
  refine ⟨⟨r.fr,fun c x e=>?_,fun c x m=>?_,hnd.2,r.gh⟩,⟨le_put h4,fun c hc=>?_,rfl⟩⟩
  · simp only [PHeap.put] at e ⊢
    split at e
    · rename_i hb; subst hb; cases e; simp [h1,h2]
    · rename_i hb; simp [hb,(r.base c x e).1,(r.base c x e).2]
  · obtain ⟨a1,a2,a3,a4⟩:=r.own c x (by simp [m])
    have hne:c ≠ b:=fun e=>by subst e; exact hnd.1 (List.mem_map.2 ⟨_,m,rfl⟩)
    exact ⟨a1,a2,a3,by rw [obj_put_ne hne]; exact a4⟩
  · simp only [PHeap.put] at hc
    split at hc
    · rename_i hb; subst hb; exact .inr h3
    · exact .inl hc
theorem Rel.alloc {F H:PHeap} {b:Nat} (r:Rel F h O H) (hb:H.obj b = none) (o:Obj):Rel F h ((b,o) :: O) (H.put b o):=by
  refine ⟨le_put_of r.fr (le_none r.fr hb),le_put_of r.base (le_none r.base hb),fun c x m=>?_,?_,r.gh⟩
  · rcases List.mem_cons.1 m with e | m
    · cases e; exact ⟨obj_put _ _ _,wr_put _ _ _,le_none r.fr hb,le_none r.base hb⟩
    · obtain ⟨a1,a2,a3,a4⟩:=r.own c x m
      exact ⟨obj_put_fresh hb a1,wr_put_fresh hb a1 a2,a3,a4⟩
  · refine List.nodup_cons.2 ⟨fun m=>?_,r.nd⟩
    obtain ⟨⟨c,x⟩,mm,rfl⟩:=List.mem_map.1 m
    rw [(r.own c x mm).1] at hb; cases hb
theorem Rel.set {F H:PHeap} {pre post:Own} {b:Nat} {o:Obj} (r:Rel F h (pre++(b,o) :: post) H) (o':Obj):Rel F h (pre++(b,o') :: post) (H.put b o'):=by
  obtain ⟨h1,h2,h3,h4⟩:=r.own b o (by simp)
  have hnd:=r.nd
  simp only [List.map_append,List.map_cons] at hnd
  have hne:∀ c x,(c,x) ∈ pre ∨ (c,x) ∈ post→c ≠ b:=by
    rintro c x m rfl
    rw [List.nodup_append] at hnd
    rcases m with m | m
    · exact hnd.2.2 c (List.mem_map.2 ⟨_,m,rfl⟩) c (by simp) rfl
    · exact (List.nodup_cons.1 hnd.2.1).1 (List.mem_map.2 ⟨_,m,rfl⟩)
  refine ⟨le_put_of r.fr h3,le_put_of r.base h4,fun c x m=>?_,by simpa using hnd,r.gh⟩
  rcases List.mem_append.1 m with m | m
  · obtain ⟨a1,a2,a3,a4⟩:=r.own c x (by simp [m])
    have:=hne c x (.inl m)
    exact ⟨by rw [obj_put_ne this]; exact a1,by rw [wr_put_ne this]; exact a2,a3,a4⟩
  · rcases List.mem_cons.1 m with e | m
    · cases e; exact ⟨obj_put _ _ _,wr_put _ _ _,h3,h4⟩
    · obtain ⟨a1,a2,a3,a4⟩:=r.own c x (by simp [m])
      have:=hne c x (.inr m)
      exact ⟨by rw [obj_put_ne this]; exact a1,by rw [wr_put_ne this]; exact a2,a3,a4⟩
def _root_.Go.Sl.PHeap.del (H:PHeap) (A:Own):PHeap:={ obj:=fun b=>if b ∈ A.map Prod.fst then none else H.obj b,wr:=H.wr,gh:=H.gh }
theorem del_le (H:PHeap) (A:Own):H.del A ≤ H:=fun b o e=>by
  simp only [PHeap.del] at e; split at e
  · cases e
  · exact ⟨e,rfl⟩
theorem le_del {F H:PHeap} {A:Own} (l:F ≤ H) (hf:∀ b o,(b,o) ∈ A→F.obj b = none):F ≤ H.del A:=fun b o e=>by
  have:b ∉ A.map Prod.fst:=fun m=>by
    obtain ⟨⟨c,x⟩,mm,rfl⟩:=List.mem_map.1 m
    rw [hf c x mm] at e; cases e
  simp only [PHeap.del,this,if_false]; exact l b o e
theorem Rel.down {F H:PHeap} {A R:Own} (r:Rel F h (A++R) H):Rel (H.del A) h A H∧F ≤ H.del A:=
  ⟨⟨del_le _ _,r.base,fun b o m=>by
    obtain ⟨a1,a2,a3,a4⟩:=r.own b o (by simp [m])
    exact ⟨a1,a2,by simp only [PHeap.del]; rw [if_pos (List.mem_map.2 ⟨_,m,rfl⟩)],a4⟩,by have:=r.nd; rw [List.map_append] at this; exact (List.nodup_append.1 this).1,r.gh⟩,
   le_del r.fr fun b o m=>(r.own b o (by simp [m])).2.2.1⟩
theorem Rel.back {F H H' h':PHeap} {A A' R:Own} (r:Rel F h (A++R) H) (u:Up (H.del A) h h') (r':Rel (H.del A) h' A' H'):Rel F h' (A'++R) H'∧Up F h h':=by
  obtain ⟨_,hF⟩:=r.down
  have hnd:=r.nd
  rw [List.map_append,List.nodup_append] at hnd
  have hR:∀ b o,(b,o) ∈ R→(H.del A).obj b = some o∧H.wr b = true∧F.obj b = none∧h.obj b = none:=fun b o m=>by
    obtain ⟨a1,a2,a3,a4⟩:=r.own b o (by simp [m])
    refine ⟨?_,a2,a3,a4⟩
    have:b ∉ A.map Prod.fst:=fun hm=>hnd.2.2 b hm b (List.mem_map.2 ⟨_,m,rfl⟩) rfl
    simp only [PHeap.del,this,if_false]; exact a1
  refine ⟨⟨le_trans hF r'.fr,r'.base,fun b o m=>?_,?_,r'.gh⟩,⟨u.le,fun b x=>(u.new b x).elim .inl fun y=>?_,u.gh⟩⟩
  · rcases List.mem_append.1 m with m | m
    · obtain ⟨a1,a2,a3,a4⟩:=r'.own b o m
      exact ⟨a1,a2,le_none hF a3,a4⟩
    · obtain ⟨a1,a2,a3,a4⟩:=hR b o m
      obtain ⟨c1,c2⟩:=r'.fr b o a1
      refine ⟨c1,c2.trans a2,a3,?_⟩
      cases e:h'.obj b with
      | none=>rfl
      | some y=>
        rcases u.new b (by simp [e]) with z | z
        · rw [a4] at z; cases z
        · rw [a1] at z; cases z
  · rw [List.map_append,List.nodup_append]
    refine ⟨r'.nd,hnd.2.1,fun b hb c hc e=>?_⟩
    subst e
    obtain ⟨⟨c,x⟩,m,rfl⟩:=List.mem_map.1 hb
    obtain ⟨⟨d,y⟩,m',e⟩:=List.mem_map.1 hc
    simp only at e; subst e
    have:=(r'.own d x m).2.2.1
    rw [(hR d y m').1] at this; cases this
  · exact .inr (le_none hF y)
theorem so_skip (x:Q .nrm L O h):Code.skip.so P M n Q L O h:=fun F H r=>sl_skip (lift.here r x)
theorem so_seq {x y:Code} (p:x.so P M n (thenO (fun L O h=>y.so P M n Q L O h) Q) L O h):(Code.seq x y).so P M n Q L O h:=fun F H r=>
  sl_seq (sl_mono (p F H r) fun e L H q=>by
    cases e with
    | nrm=>
      obtain ⟨O,h',u,r',k⟩:=q
      exact sl_mono (k F H r') fun e L H z=>liftQ_up u z
    | _=>exact q)
theorem so_cond {c:Operand} {x y:Code} {t:Bool} (hc:ev L c = some (.bool t)) (ht:t = true→x.so P M n Q L O h) (hf:t = false→y.so P M n Q L O h):(Code.cond c x y).so P M n Q L O h:=
  fun F H r=>sl_cond hc (fun e=>ht e F H r) (fun e=>hf e F H r)
def blockO (id:Nat) (Q:Qo):Qo:=fun e L O h=>match e with
  | .exit id'=>if id' = id then Q .nrm L O h else Q (.exit id') L O h
  | e=>Q e L O h
theorem so_block {id:Nat} {c:Code} (x:c.so P M n (blockO id Q) L O h):(Code.block id c).so P M n Q L O h:=fun F H r=>
  sl_block (sl_mono (x F H r) fun e L H q=>by
    cases e with
    | exit id'=>
      simp only [blockQ]
      by_cases hid:id' = id
      · rw [if_pos hid]; exact lift.mono q fun O h' _ z=>by simpa [blockO,hid] using z
      · rw [if_neg hid]; exact lift.mono q fun O h' _ z=>by simpa [blockO,hid] using z
    | _=>exact q)
theorem so_exit {id:Nat} (x:Q (.exit id) L O h):(Code.exit id).so P M n Q L O h:=fun F H r=>sl_exit (lift.here r x)
theorem so_loop {ι : Type} {c : Code} (A : ι → Locals → Own → PHeap → Prop) (μ : ι → Nat) (x0 : ι) (hs : L'.sub L) (h0 : A x0 L' O h)
    (round:∀ x L O h',Le h h'→A x L O h'→c.so P M n (thenO (fun L O h''=>∃ y L',μ y < μ x∧L'.sub L∧A y L' O h'') Q) L O h'):(Code.loop c).so P M n Q L O h:=by
  intro F H r
  have key:=sl_loop (P:=P) (M:=M) (n:=n) (Q:=liftQ F h Q) (c:=c) (L:=L) (h:=H) (ι:=ι × Locals) (Lo:=fun z=>z.2) (A:=fun z H=>∃ O h',Up F h h'∧Rel F h' O H∧A z.1 z.2 O h') (μ:=fun z=>μ z.1) (x0,L') hs ⟨O,h,Up.refl _ _,r,h0⟩
  refine key fun z H ⟨O,h',u,r',a⟩=>sl_mono (round z.1 z.2 O h' ⟨u.le,u.gh⟩ a F H r') fun e L H q=>?_
  cases e with
  | nrm=>
    obtain ⟨O2,h2,u2,r2,y,L2,h3,h4,h5⟩:=q
    exact ⟨(y,L2),h3,h4,O2,h2,u.trans u2,r2,h5⟩
  | _=>exact liftQ_up u q
theorem so_reg {id:Nat} {l:List Oper} (x:soOps P M n l.toArray Q l L O h):(Code.region id l.toArray false).so P M n Q L O h:=fun F H r=>sl_reg (x F H r)
theorem so_nil {ops:Array Oper} (x:Q .nrm L O h):soOps P M n ops Q [] L O h:=fun F H r=>l_nil (lift.here r x)
def opo (P:Program) (n:Nat) (o:Oper) (L:Locals) (O:Own) (h:PHeap) (K:Next→Own→PHeap→Prop) (E:Value→Own→PHeap→Prop):Prop:=
  ∀ F H,Rel F h O H→opv P n o L H (lift F h K) (lift F h E)
def nextO (P:Program) (M:Jdg→Prop) (n:Nat) (ops:Array Oper) (Q:Qo) (rest:List Oper) (L:Locals) (d:Option Nat) (r:Next) (O:Own) (h:PHeap):Prop:=
  match r with
  | .value v=>soOps P M n ops Q rest (setL d v L) O h
  | .skip=>soOps P M n ops Q rest (setL d undef L) O h
  | .enter f args=>∃ A R,O.Perm (A++R)∧CallsP P M f args.toList A h (fun v A' h'=>soOps P M n ops Q rest (setL d v L) (A'++R) h') (fun ch A' h'=>Q (.pan ch) L (A'++R) h')
  | _=>False
variable {ops:Array Oper} {rest:List Oper} {o:Oper}
omit hM in
theorem nextO_ok {F H:PHeap} {d:Option Nat} {r:Next} (x:lift F h (nextO P M n ops Q rest L d) r H):nextL P M n ops (liftQ F h Q) rest L d r H:=by
  obtain ⟨O,h',u,rl,x⟩:=x
  have tr:∀ {L O h' H},Up F h h'→Rel F h' O H→soOps P M n ops Q rest L O h'→slList P M n ops (liftQ F h Q) rest L H:=fun u r x l e=>ops_mono (x F _ r l e) fun e L H z=>liftQ_up u z
  cases r with
  | value v=>exact tr u rl x
  | skip=>exact tr u rl x
  | enter f args=>
    obtain ⟨A,R,hp,x⟩:=x
    have rl':=rl.perm hp.symm
    refine CallsE.mono (x _ _ rl'.down.1) (fun v H' q=>?_) (fun ch H' q=>?_)
    · obtain ⟨A',h2,u2,r2,q⟩:=q
      obtain ⟨r3,u3⟩:=rl'.back u2 r2
      exact tr (u.trans u3) r3 q
    · obtain ⟨A',h2,u2,r2,q⟩:=q
      obtain ⟨r3,u3⟩:=rl'.back u2 r2
      exact ⟨_,h2,u.trans u3,r3,q⟩
  | _=>exact x.elim
theorem so_plain (hg:o.guard = none) (hd:dstOk n o.dst = true) (x:opo P n o L O h (nextO P M n ops Q rest L o.dst) (fun v O h'=>Q (.pan [{ v,recovered:=false }]) L O h')):soOps P M n ops Q (o :: rest) L O h:=
  fun F H r=>l_plain hg hd fun a ha=>slp_mono (fun r H' y=>nextO_ok y) (fun v H' y=>y) (x F H r a ha)
theorem so_guard {j dj : Nat} {want b : Bool} (hg : o.guard = some (j, want)) (hd : dstOk n o.dst = true) (hj : (ops[j]?).bind (·.dst) = some dj) (hb : L.get dj = some (.bool b))
    (hT:b = want→opo P n o L O h (nextO P M n ops Q rest L o.dst) (fun v O h'=>Q (.pan [{ v,recovered:=false }]) L O h')) (hF:b = !want→soOps P M n ops Q rest (setL o.dst undef L) O h):soOps P M n ops Q (o :: rest) L O h:=
  fun F H r=>l_guard hg hd hj hb (fun e a ha=>slp_mono (fun r H' y=>nextO_ok y) (fun v H' y=>y) (hT e F H r a ha)) (fun e=>hF e F H r)
def retO (P:Program) (fn:Func) (n:Nat) (R:Value→Own→PHeap→Prop) (E:List PanicEntry→Own→PHeap→Prop):Qo:=fun e L O h=>
  match e with
  | .nrm | .ret=>∀ F H,Rel F h O H→∀ tm,Agree n L tm→(results fn tm).slp P (lift F h R) (fun _ _=>False) H
  | .pan ch=>E ch O h
  | .exit _=>False
omit hM in
theorem CallsP.mono {f : FuncId} {vs : List Value} {R R' : Value → Own → PHeap → Prop} {E E' : List PanicEntry → Own → PHeap → Prop} (x : CallsP P M f vs O h R E)
    (hr:∀ v O h',Le h h'→R v O h'→R' v O h') (he:∀ v O h',Le h h'→E v O h'→E' v O h'):CallsP P M f vs O h R' E':=fun F H r=>
  CallsE.mono (x F H r) (fun v H' y=>lift.mono y (hr v)) (fun v H' y=>lift.mono y (he v))
end
structure Flat (α:Type) where
  sz:Nat
  f:α→List Value
  len:∀ x,(f x).length = sz
def vb:Value→Nat
  | .slice (some a) _ _=>a.block
  | _=>0
def vo:Value→Nat
  | .slice (some a) _ _=>a.off
  | _=>0
def gt {α:Type} [Inhabited α] (xs:List α) (i:Nat):α:=xs.getD i default
theorem gt_eq {α:Type} [Inhabited α] {xs:List α} {i:Nat} (h:i < xs.length):gt xs i = xs[i]:=by simp [gt,List.getD,h]
theorem get_gt {α:Type} [Inhabited α] {xs:List α} {i:Nat} (h:i < xs.length):xs[i]? = some (gt xs i):=by rw [gt_eq h]; exact List.getElem?_eq_getElem h
class Sl (h:PHeap) (v:Value) {α:outParam Type} (E:outParam (Flat α)) (xs:outParam (List α)):Prop where
  small:xs.length ≤ 281474976710656
  reads:(∃ a,v = .slice a 0 0∧xs = []) ∨ ∃ cap,v = .slice (some ⟨vb v,vo v,none⟩) xs.length cap∧xs.length ≤ cap∧∀ i x,xs[i]? = some x→Cells h ⟨vb v,vo v + i * E.sz,none⟩ (E.f x)
theorem cell_le {h h':PHeap} (l:h ≤ h') {a:Addr} {v:Value} (e:h.cell a = some v):h'.cell a = some v:=by
  obtain ⟨o,ho⟩:=cell_obj e
  unfold PHeap.cell at e ⊢
  rw [(l _ _ ho).1,← ho]; exact e
theorem Cells.le {h h':PHeap} (l:h ≤ h') {a:Addr} {cs:List Value} (c:Cells h a cs):Cells h' a cs:=fun j v e=>cell_le l (c j v e)
theorem Sl.le {h h':PHeap} (l:h ≤ h') {v:Value} {α:Type} {E:Flat α} {xs:List α} (s:Sl h v E xs):Sl h' v E xs:=
  ⟨s.small,s.reads.imp id fun ⟨cap,a,b,c⟩=>⟨cap,a,b,fun i x e=>(c i x e).le l⟩⟩
instance Sl.up {h h':PHeap} {v:Value} {α:Type} {E:Flat α} {xs:List α} [l:Le h h'] [s:Sl h v E xs]:Sl h' v E xs:=s.le l.le
theorem Sl.nil (h:PHeap) {α:Type} (E:Flat α):Sl h (.slice none 0 0) E []:=⟨by simp,.inl ⟨none,rfl,rfl⟩⟩
theorem Sl.val {h:PHeap} {v:Value} {α:Type} {E:Flat α} {xs:List α} (s:Sl h v E xs):∃ base cap,v = .slice base xs.length cap:=by
  rcases s.reads with ⟨_,a,b⟩ | ⟨cap,a,_⟩
  · exact ⟨_,_,by rw [b]; exact a⟩
  · exact ⟨_,_,a⟩
theorem Sl.at {h : PHeap} {v : Value} {α : Type} [Inhabited α] {E : Flat α} {xs : List α} (s : Sl h v E xs) {i : Nat} (hi : i < xs.length) :
    (∃ cap,v = .slice (some ⟨vb v,vo v,none⟩) xs.length cap)∧Cells h ⟨vb v,vo v + i * E.sz,none⟩ (E.f (gt xs i)):=by
  rcases s.reads with ⟨_,a,b⟩ | ⟨cap,a,_,c⟩
  · rw [b] at hi; cases hi
  · exact ⟨⟨cap,a⟩,c i _ (get_gt hi)⟩
theorem Cells.part {h:PHeap} {b off f k:Nat} {cs ds:List Value} (c:Cells h ⟨b,off,none⟩ cs) (e:takeCells cs.toArray f k = some ds):ds.length = k∧Cells h ⟨b,off + f,none⟩ ds:=by
  unfold takeCells at e
  cases hle:Nat.ble (f + k) cs.toArray.size with
  | false=>rw [hle] at e; cases e
  | true=>
    rw [hle] at e
    have hle':=Nat.le_of_ble_eq_true hle
    simp only [List.size_toArray] at hle'
    obtain rfl:=Option.some.inj e
    refine ⟨by simp; omega,fun j v ev=>?_⟩
    have hj:j < k:=by
      rcases Nat.lt_or_ge j k with h | h
      · exact h
      · rw [List.getElem?_eq_none (by simp; omega)] at ev; cases ev
    rw [List.getElem?_take_of_lt hj,List.getElem?_drop] at ev
    have:=c (f + j) v (by simpa using ev)
    rw [add_none] at this ⊢
    rwa [Nat.add_assoc]
class OwnAt (O:Own) (b:Nat) (o:outParam Obj):Prop where
  mem:(b,o) ∈ O
instance OwnAt.head {O:Own} {b:Nat} {o:Obj}:OwnAt ((b,o) :: O) b o:=⟨by simp⟩
instance OwnAt.tail {O:Own} {x:Nat × Obj} {b:Nat} {o:Obj} [m:OwnAt O b o]:OwnAt (x :: O) b o:=⟨by simp [m.mem]⟩
instance OwnAt.right {O A:Own} {b:Nat} {o:Obj} [m:OwnAt O b o]:OwnAt (A++O) b o:=⟨by simp [m.mem]⟩
instance OwnAt.left {O A:Own} {b:Nat} {o:Obj} [m:OwnAt A b o]:OwnAt (A++O) b o:=⟨by simp [m.mem]⟩
class OwnSet (O:Own) (b:Nat) (o':Obj) (O':outParam Own):Prop where
  at':∃ pre o post,O = pre++(b,o) :: post∧O' = pre++(b,o') :: post
instance OwnSet.head {O:Own} {b:Nat} {o o':Obj}:OwnSet ((b,o) :: O) b o' ((b,o') :: O):=⟨[],o,O,rfl,rfl⟩
instance OwnSet.tail {O O':Own} {x:Nat × Obj} {b:Nat} {o':Obj} [m:OwnSet O b o' O']:OwnSet (x :: O) b o' (x :: O'):=
  let ⟨pre,o,post,h1,h2⟩:=m.at'; ⟨x :: pre,o,post,by simp [h1],by simp [h2]⟩
instance OwnSet.right {O O' A:Own} {b:Nat} {o':Obj} [m:OwnSet O b o' O']:OwnSet (A++O) b o' (A++O'):=
  let ⟨pre,o,post,h1,h2⟩:=m.at'; ⟨A++pre,o,post,by simp [h1],by simp [h2]⟩
instance OwnSet.left {O O' A:Own} {b:Nat} {o':Obj} [m:OwnSet O b o' O']:OwnSet (O++A) b o' (O'++A):=
  let ⟨pre,o,post,h1,h2⟩:=m.at'; ⟨pre,o,post++A,by simp [h1],by simp [h2]⟩
class Take (O:Own) (b:Nat) (o:outParam Obj) (R:outParam Own):Prop where
  p:O.Perm ((b,o) :: R)
instance Take.head {O:Own} {b:Nat} {o:Obj}:Take ((b,o) :: O) b o O:=⟨.refl _⟩
instance Take.tail {O R:Own} {x:Nat × Obj} {b:Nat} {o:Obj} [m:Take O b o R]:Take (x :: O) b o (x :: R):=⟨(m.p.cons x).trans (.swap _ _ _)⟩
instance Take.right {O A R:Own} {b:Nat} {o:Obj} [m:Take O b o R]:Take (A++O) b o (A++R):=⟨(m.p.append_left A).trans List.perm_middle⟩
instance Take.left {O A R:Own} {b:Nat} {o:Obj} [m:Take O b o R]:Take (O++A) b o (R++A):=⟨m.p.append_right A⟩
section
variable {P:Program} {M:Jdg→Prop} [hM:IsCl P M] {n:Nat} {Q:Qo} {L L':Locals} {O O' R:Own} {h:PHeap} {ops:Array Oper} {rest:List Oper} {o:Oper}
  {d:Option Nat} {ty:TypeId} {pos:String} {af:Array Edge}
def Opq (P:Program) (n:Nat) (o:Oper) (L:Locals) (O:Own) (h:PHeap) (v:Value):Prop:=opo P n o L O h (fun r O' h'=>r = .value v∧O' = O∧h' = h) (fun _ _ _=>False)
omit hM in
theorem opo_mono {K K':Next→Own→PHeap→Prop} {E E':Value→Own→PHeap→Prop} (x:opo P n o L O h K E) (hk:∀ r O h',Le h h'→K r O h'→K' r O h') (he:∀ r O h',Le h h'→E r O h'→E' r O h'):opo P n o L O h K' E':=
  fun F H r a ha=>slp_mono (fun _ _ y=>lift.mono y (hk _)) (fun _ _ y=>lift.mono y (he _)) (x F H r a ha)
theorem so_q {op:Op} {v:Value} (x:Opq P n ⟨d,op,ty,pos,af,none⟩ L O h v) (k:soOps P M n ops Q rest (setL d v L) O h) (hd:dstOk n d = true:=by rfl):soOps P M n ops Q (⟨d,op,ty,pos,af,none⟩ :: rest) L O h:=
  so_plain rfl hd (opo_mono x (fun r O h' _ y=>by obtain ⟨rfl,rfl,rfl⟩:=y; exact k) (fun _ _ _ _ y=>y.elim))
theorem so_gT {op:Op} {j dj:Nat} {want b:Bool} (hj:(ops[j]?).bind (·.dst) = some dj) (hb:L.get dj = some (.bool b)) (hbw:b = want) {v:Value} (x:Opq P n ⟨d,op,ty,pos,af,some (j,want)⟩ L O h v) (k:soOps P M n ops Q rest (setL d v L) O h) (hd:dstOk n d = true:=by rfl):soOps P M n ops Q (⟨d,op,ty,pos,af,some (j,want)⟩ :: rest) L O h:=
  so_guard rfl hd hj hb (fun _=>opo_mono x (fun r O h' _ y=>by obtain ⟨rfl,rfl,rfl⟩:=y; exact k) (fun _ _ _ _ y=>y.elim)) (fun e=>by rw [hbw] at e; cases want <;> cases e)
theorem so_gF {op:Op} {j dj:Nat} {want b:Bool} (hj:(ops[j]?).bind (·.dst) = some dj) (hb:L.get dj = some (.bool b)) (hbw:b = !want) (k:soOps P M n ops Q rest (setL d undef L) O h) (hd:dstOk n d = true:=by rfl):soOps P M n ops Q (⟨d,op,ty,pos,af,some (j,want)⟩ :: rest) L O h:=
  so_guard rfl hd hj hb (fun e=>by rw [hbw] at e; cases want <;> cases e) (fun _=>k)
omit hM in
theorem so_drop (hp:O'.Sublist O) (x:soOps P M n ops Q rest L O' h):soOps P M n ops Q rest L O h:=fun F H r=>x F H (r.drop hp)
variable {g:Option (Nat × Bool)}
omit hM in
theorem q_of {v:Value} (hp:∀ H K E,K (.value v) H→opv P n o L H K E):Opq P n o L O h v:=fun F H r=>hp H _ _ (lift.here r ⟨rfl,rfl,rfl⟩)
omit hM in
theorem q_move {x:Operand} {v:Value} (hx:ev L x = some v):Opq P n ⟨d,.move x,ty,pos,af,g⟩ L O h v:=q_of fun _ _ _=>o_move hx
omit hM in
theorem q_assign {x:Operand} {v:Value} (hx:ev L x = some v):Opq P n ⟨d,.assign x,ty,pos,af,g⟩ L O h v:=q_of fun _ _ _=>o_assign hx
omit hM in
theorem q_pickT {c x y:Operand} {b:Bool} {v:Value} (hc:ev L c = some (.bool b)) (hb:b = true) (hx:ev L x = some v):Opq P n ⟨d,.pick c x y,ty,pos,af,g⟩ L O h v:=by
  subst hb; exact q_of fun _ _ _=>o_pickT hc hx
omit hM in
theorem q_pickF {c x y:Operand} {b:Bool} {v:Value} (hc:ev L c = some (.bool b)) (hb:b = false) (hx:ev L y = some v):Opq P n ⟨d,.pick c x y,ty,pos,af,g⟩ L O h v:=by
  subst hb; exact q_of fun _ _ _=>o_pickF hc hx
omit hM in
theorem q_nilCheck {x:Operand} {a:Addr} (hx:ev L x = some (.pointer (some a))):Opq P n ⟨d,.nilCheck x,ty,pos,af,g⟩ L O h (.pointer (some a)):=
  q_of fun _ _ _ k a ha=>by simp only [execOp,ha.ev hx]; exact k
variable {t:TypeId} {D:TypeDesc} {size bytes:Nat} {zero:Value}
omit hM in
theorem q_fieldAddr {pl : List FldI} (Fl : Flds P t pl) {x : Operand} {f b off : Nat} {fi : FldI} (hx : ev L x = some (.pointer (some ⟨b, off, none⟩))) (hf : pl[f]? = some fi) (hs : Nat.blt 0 fi.size = true) :
    Opq P n ⟨d,.fieldAddr t x f,ty,pos,af,g⟩ L O h (.pointer (some ⟨b,off + fi.off,none⟩)):=q_of fun _ _ _=>o_fieldAddr hx hf hs
omit hM in
theorem q_field {pl : List FldI} (Fl : Flds P t pl) {x : Operand} {f : Nat} {fi : FldI} {cs : Array Value} {v : Value} (hx : ev L x = some (.agg cs)) (hf : pl[f]? = some fi) (hv : partOfV fi.agg cs fi.off fi.size = some v) :
    Opq P n ⟨d,.field t x f,ty,pos,af,g⟩ L O h v:=q_of fun _ _ _=>o_field hx hf hv
omit hM in
theorem q_extract {x:Operand} {i:Nat} {vs:Array Value} {v:Value} (hx:ev L x = some (.tuple vs)) (hv:vs[i]? = some v):Opq P n ⟨d,.extract x i,ty,pos,af,g⟩ L O h v:=q_of fun _ _ _=>o_extract hx hv
omit hM in
theorem q_not {x:Operand} {b:Bool} (hx:ev L x = some (.bool b)):Opq P n ⟨d,.unOp .not t x,ty,pos,af,g⟩ L O h (.bool !b):=q_of fun _ _ _=>o_not hx
def notIface (D:TypeDesc):Bool:=match D with | .interface _=>false | _=>true
omit hM in
theorem q_makeInterface (T:Ty P t D size bytes zero) {x:Operand} {v:Value} (hx:ev L x = some v) (hD:notIface D = true):Opq P n ⟨d,.makeInterface t x,ty,pos,af,g⟩ L O h (.iface t v):=q_of fun _ _ _=>o_makeInterface hx hD
omit hM in
theorem q_makeFunc {fn:Fn} {first captured:Array Operand} {vs us:List Value} (h1:evAll L first.toList = some vs) (h2:evAll L captured.toList = some us):Opq P n ⟨d,.makeFunc fn first captured,ty,pos,af,g⟩ L O h (.func fn vs.toArray us.toArray):=q_of fun _ _ _=>o_makeFunc h1 h2
variable {size' bytes':Nat} {zero':Value} {D':TypeDesc}
omit hM in
theorem q_convert (S:Ty P t D size bytes zero) {t':TypeId} {kd:IntKind} (T:Ty P t' (.int kd) size' bytes' zero') {x:Operand} {k':IntKind} {z:Int} (hx:ev L x = some (.int k' z)):Opq P n ⟨d,.convert t t' x,ty,pos,af,g⟩ L O h (.int kd (kd.wrap z)):=q_of fun _ _ _=>o_convert hx
omit hM in
theorem q_index {e : TypeId} {len : Nat} (S : Ty P t (.array len e) size' bytes' zero') (T : Ty P e D size bytes zero) {x i : Operand} {cs : Array Value} {kd : IntKind} {z : Int} {v : Value} (hx : ev L x = some (.agg cs)) (hi : ev L i = some (.int kd z))
    (h0:0 ≤ z) (h1:z < len) (hv:partOfV (aggD D) cs (z.toNat * size) size = some v):Opq P n ⟨d,.index t x i,ty,pos,af,g⟩ L O h v:=q_of fun _ _ _=>o_indexA hx hi h0 h1 hv
def numV (op:BinOp) (k:IntKind) (a b:Int):Option Value:=
  match op with
  | .add=>some (.int k (k.wrap (a + b)))
  | .sub=>some (.int k (k.wrap (a - b)))
  | .mul=>some (.int k (k.wrap (a * b)))
  | .eql=>some (.bool (decide (a = b)))
  | .neq=>some (.bool (decide (a ≠ b)))
  | .lss=>some (.bool (decide (a < b)))
  | .leq=>some (.bool (decide (a ≤ b)))
  | .gtr=>some (.bool (decide (a > b)))
  | .geq=>some (.bool (decide (a ≥ b)))
  | _=>none
variable {x y:Operand} {kd:IntKind} {a b:Int} {t':TypeId}
omit hM in
theorem q_num {op:BinOp} {v:Value} (hx:ev L x = some (.int kd a)) (hy:ev L y = some (.int kd b)) (hv:numV op kd a b = some v):Opq P n ⟨d,.binOp op t x y t',ty,pos,af,g⟩ L O h v:=
  q_of fun _ _ _ kk=>by
    cases op <;> simp only [numV,Option.some.injEq,reduceCtorEq] at hv <;> subst hv <;>
      first|exact o_add hx hy kk | exact o_sub hx hy kk | exact o_mul hx hy kk | exact o_eql hx hy kk | exact o_neq hx hy kk | exact o_lss hx hy kk | exact o_leq hx hy kk | exact o_gtr hx hy kk | exact o_geq hx hy kk
omit hM in
theorem q_quo (hx:ev L x = some (.int kd a)) (hy:ev L y = some (.int kd b)) (h0:b ≠ 0):Opq P n ⟨d,.binOp .quo t x y t',ty,pos,af,g⟩ L O h (.int kd (kd.wrap (a.tdiv b))):=q_of fun _ _ _=>o_quo hx hy h0
omit hM in
theorem q_rem (hx:ev L x = some (.int kd a)) (hy:ev L y = some (.int kd b)) (h0:b ≠ 0):Opq P n ⟨d,.binOp .rem t x y t',ty,pos,af,g⟩ L O h (.int kd (a.tmod b)):=q_of fun _ _ _=>o_rem hx hy h0
omit hM in
theorem q_len {e : TypeId} {ats : Array TypeId} {args : Array Operand} {v : Value} {α : Type} {E : Flat α} {xs : List α} (hv : evAll L args.toList = some [v]) (ht : ats[0]? = some t) (S : Ty P t (.slice e) size bytes zero) (s : Sl h v E xs) :
    Opq P n ⟨d,.call { callee:=.builtin .len,args,argTypes:=ats },ty,pos,af,g⟩ L O h (.int .i64 xs.length):=by
  obtain ⟨base,cap,rfl⟩:=s.val
  exact q_of fun _ _ _=>o_len hv ht
omit hM in
theorem q_lenV {e : TypeId} {ats : Array TypeId} {args : Array Operand} {base : Option Addr} {len cap : Nat} (hv : evAll L args.toList = some [.slice base len cap]) (ht : ats[0]? = some t) (S : Ty P t (.slice e) size bytes zero) :
    Opq P n ⟨d,.call { callee:=.builtin .len,args,argTypes:=ats },ty,pos,af,g⟩ L O h (.int .i64 len):=q_of fun _ _ _=>o_len hv ht
omit hM in
theorem q_indexS {e : TypeId} (S : Ty P t (.slice e) size' bytes' zero') (T : Ty P e D size bytes zero) {x i : Operand} {v : Value} {α : Type} {E : Flat α} {xs : List α} {kd : IntKind} {z : Int} (hx : ev L x = some v) (hi : ev L i = some (.int kd z)) (s : Sl h v E xs)
    (h0:0 ≤ z) (h1:z.toNat < xs.length):Opq P n ⟨d,.indexAddr t x i,ty,pos,af,g⟩ L O h (.pointer (some ⟨vb v,vo v + z.toNat * size,none⟩)):=by
  have hv:∃ cap,v = .slice (some ⟨vb v,vo v,none⟩) xs.length cap:=by
    rcases s.reads with ⟨_,a,b⟩ | ⟨cap,a,_⟩
    · rw [b] at h1; cases h1
    · exact ⟨cap,a⟩
  obtain ⟨cap,hv⟩:=hv
  exact q_of fun _ _ _=>o_indexAddr (by rw [hx,← hv]) hi h0 (by omega)
omit hM in
theorem q_indexV {e : TypeId} (S : Ty P t (.slice e) size' bytes' zero') (T : Ty P e D size bytes zero) {x i : Operand} {b off len cap : Nat} {kd : IntKind} {z : Int} (hx : ev L x = some (.slice (some ⟨b, off, none⟩) len cap)) (hi : ev L i = some (.int kd z))
    (h0:0 ≤ z) (h1:z < len):Opq P n ⟨d,.indexAddr t x i,ty,pos,af,g⟩ L O h (.pointer (some ⟨b,off + z.toNat * size,none⟩)):=q_of fun _ _ _=>o_indexAddr hx hi h0 h1
omit hM in
theorem q_indexP {e : TypeId} {len : Nat} (S : Ty P t (.array len e) size' bytes' zero') (T : Ty P e D size bytes zero) {x i : Operand} {b off : Nat} {kd : IntKind} {z : Int} (hx : ev L x = some (.pointer (some ⟨b, off, none⟩))) (hi : ev L i = some (.int kd z))
    (h0:0 ≤ z) (h1:z < len):Opq P n ⟨d,.indexAddr t x i,ty,pos,af,g⟩ L O h (.pointer (some ⟨b,off + z.toNat * size,none⟩)):=q_of fun _ _ _=>o_indexAddrA hx hi h0 h1
omit hM in
theorem q_loadO (T : Ty P t D size bytes zero) {b off : Nat} {c : Array Value} {T' : TypeId} {fr : Nat × Nat} {cs : List Value} (hx : ev L x = some (.pointer (some ⟨b, off, none⟩))) (m : OwnAt O b (.cells c T' fr))
    (hcs:takeCells c off size = some cs) (h1:loadOk D size = true):Opq P n ⟨d,.load t x,ty,pos,af,g⟩ L O h (ofCells D cs):=
  fun F H r=>o_loadB hx (r.own _ _ m.mem).1 hcs h1 (lift.here r ⟨rfl,rfl,rfl⟩)
omit hM in
theorem q_loadS (T : Ty P t D size bytes zero) {v : Value} {j : Nat} {α : Type} [Inhabited α] {E : Flat α} {xs : List α} (hx : ev L x = some (.pointer (some ⟨vb v, vo v + j * size, none⟩))) (s : Sl h v E xs) (hj : j < xs.length)
    (hz:E.sz = size) (h1:loadOk D size = true):Opq P n ⟨d,.load t x,ty,pos,af,g⟩ L O h (ofCells D (E.f (gt xs j))):=
  fun F H r=>by
    have c:=(s.at hj).2
    rw [hz] at c
    exact o_load hx ((E.len _).trans hz) h1 (c.le r.base) (lift.here r ⟨rfl,rfl,rfl⟩)
omit hM in
theorem q_loadF (T : Ty P t D size bytes zero) {v : Value} {j sz f : Nat} {α : Type} [Inhabited α] {E : Flat α} {xs : List α} {cs : List Value} (hx : ev L x = some (.pointer (some ⟨vb v, vo v + j * sz + f, none⟩))) (s : Sl h v E xs) (hj : j < xs.length)
    (hz:E.sz = sz) (hcs:takeCells (E.f (gt xs j)).toArray f size = some cs) (h1:loadOk D size = true):Opq P n ⟨d,.load t x,ty,pos,af,g⟩ L O h (ofCells D cs):=
  fun F H r=>by
    have c:=(s.at hj).2
    rw [hz] at c
    obtain ⟨h2,h3⟩:=c.part hcs
    exact o_load hx h2 h1 (h3.le r.base) (lift.here r ⟨rfl,rfl,rfl⟩)
omit hM in
theorem c_alloc (T:Ty P t D size bytes zero) {K:Next→Own→PHeap→Prop} {E:Value→Own→PHeap→Prop} (k:∀ b,K (.value (.pointer (some ⟨b,0,none⟩))) ((b,.cells zero.cells t) :: O) h):opo P n ⟨d,.alloc t,ty,pos,af,g⟩ L O h K E:=
  fun F H r=>o_alloc fun b hb=>lift.here (r.alloc hb _) (k b)
omit hM in
theorem c_box {v:Value} {K:Next→Own→PHeap→Prop} {E:Value→Own→PHeap→Prop} (hx:ev L x = some v) (k:∀ b,K (.value (.pointer (some ⟨b,0,none⟩))) ((b,.cells v.cells t) :: O) h):opo P n ⟨d,.box t x,ty,pos,af,g⟩ L O h K E:=
  fun F H r=>o_box hx fun b hb=>lift.here (r.alloc hb _) (k b)
omit hM in
theorem c_store (T : Ty P t D size bytes zero) {K : Next → Own → PHeap → Prop} {E : Value → Own → PHeap → Prop} {v : Value} {b off : Nat} {c : Array Value} {T' : TypeId} (hx : ev L x = some (.pointer (some ⟨b, off, none⟩))) (hy : ev L y = some v) (m : OwnAt O b (.cells c T' (0, 0)))
    (hs:v.cells.size = size) (hle:Nat.ble (off + v.cells.toList.length) c.size = true) (ho:allOne v.cells.toList = true) (w:OwnSet O b (.cells (setCells c off v.cells.toList) T' (0,0)) O') (k:K .skip O' h) :
    opo P n ⟨d,.store t x y,ty,pos,af,g⟩ L O h K E:=
  fun F H r=>by
    obtain ⟨h1,h2,_⟩:=r.own _ _ m.mem
    refine o_store hx hy h1 h2 hs (Nat.le_of_ble_eq_true hle) ho ?_
    obtain ⟨pre,o,post,rfl,rfl⟩:=w.at'
    exact lift.here (r.set _) k
theorem op_store (T : Ty P t D size bytes zero) {v : Value} {b off : Nat} {c : Array Value} {T' : TypeId} (hx : ev L x = some (.pointer (some ⟨b, off, none⟩))) (hy : ev L y = some v) (m : OwnAt O b (.cells c T' (0, 0)))
    (hs:v.cells.size = size) (hle:Nat.ble (off + v.cells.toList.length) c.size = true) (ho:allOne v.cells.toList = true) (w:OwnSet O b (.cells (setCells c off v.cells.toList) T' (0,0)) O') (k:soOps P M n ops Q rest (setL d undef L) O' h) (hd:dstOk n d = true:=by rfl) :
    soOps P M n ops Q (⟨d,.store t x y,ty,pos,af,none⟩ :: rest) L O h:=so_plain rfl hd (c_store T hx hy m hs hle ho w k)
omit hM in
theorem c_call {f : FuncId} (Fu : Fun P f) {args : Array Operand} {ats : Array TypeId} {vs : List Value} {K : Next → Own → PHeap → Prop} {E : Value → Own → PHeap → Prop} (hv : evAll L args.toList = some vs) (k : K (.enter f vs.toArray) O h) :
    opo P n ⟨d,.call { callee:=.value (.func f),args,argTypes:=ats },ty,pos,af,g⟩ L O h K E:=fun F H r=>o_call hv (lift.here r k)
def CallsR (P:Program) (M:Jdg→Prop) (f:FuncId) (args:List Value) (h:PHeap) (R:Value→PHeap→Prop):Prop:=CallO P M f args [] h fun v A h'=>A = []∧R v h'
def ResV (P:Program) (fn:Func) (n:Nat) (L:Locals) (O:Own) (v:Value):Prop:=∀ F h H tm,Rel F h O H→Agree n L tm→∀ K E,K v H→(results fn tm).slp P K E H
omit hM in
theorem slp_mapM_res (f:ResultVar→Sem Value) (K:Array Value→PHeap→Prop) (E:Value→PHeap→Prop) (H:PHeap) (rs:List ResultVar) (vs:List Value) (hl:rs.length = vs.length) (hf:∀ (i:Nat) r v,rs[i]? = some r→vs[i]? = some v→∀ K E,K v H→(f r).slp P K E H) (k:K vs.toArray H):(rs.toArray.mapM f).slp P K E H:=by
  simp only [List.mapM_toArray]
  rw [slp_map]
  have key:∀ (rs:List ResultVar) (vs:List Value) (K:List Value→PHeap→Prop),rs.length = vs.length→(∀ (i:Nat) r v,rs[i]? = some r→vs[i]? = some v→∀ K E,K v H→(f r).slp P K E H)→K vs H→(rs.mapM f).slp P K E H:=by
    intro rs
    induction rs with
    | nil=>intro vs K hl _ k; cases vs with
      | nil=>simpa [slp_pure] using k
      | cons=>cases hl
    | cons r rs ih=>
      intro vs K hl hf k
      cases vs with
      | nil=>cases hl
      | cons v vs=>
        rw [List.mapM_cons,slp_bind]
        refine hf 0 r v rfl rfl _ _ ?_
        rw [slp_bind]
        exact ih vs _ (by simpa using hl) (fun i r v h1 h2=>hf (i + 1) r v (by simpa using h1) (by simpa using h2)) (by simpa [slp_pure] using k)
  exact key rs vs _ hl hf k
def Res1 (P:Program) (n:Nat) (L:Locals) (O:Own) (r:ResultVar) (v:Value):Prop:=
  match r with
  | .tmp t=>L.get t = some v
  | .cell a t=>∃ D size bytes zero b off c T' fr cs,Ty P t D size bytes zero∧L.get a = some (.pointer (some ⟨b,off,none⟩))∧(b,Obj.cells c T' fr) ∈ O∧takeCells c off size = some cs∧loadOk D size = true∧v = ofCells D cs
def resOne (tm:Array Value):ResultVar→Sem Value
  | .tmp t=>pure (tm.getD t undef)
  | .cell a t=>do loadVar t (← asAddr (tm.getD a undef))
theorem results_eq (fn:Func) (tm:Array Value):results fn tm = (do let vs ← fn.results.mapM (resOne tm); pure (if h:vs.size = 1 then vs[0] else .tuple vs)):=by
  unfold results
  congr 2
omit hM in
theorem Res1.slp {r : ResultVar} {v : Value} (x : Res1 P n L O r v) {F H : PHeap} {tm : Array Value} (rl : Rel F h O H) (ha : Agree n L tm) (K : Value → PHeap → Prop) (E : Value → PHeap → Prop) (k : K v H) :
    (resOne tm r).slp P K E H:=by
  cases r with
  | tmp t=>
    have:=ha.at' _ _ x
    simpa [resOne,slp_pure,Array.getD_eq_getD_getElem?,this] using k
  | cell a t=>
    obtain ⟨D,size,bytes,zero,b,off,c,T',fr,cs,T,h1,h2,h3,h4,rfl⟩:=x
    have:=ha.at' _ _ h1
    simp only [resOne,Array.getD_eq_getD_getElem?,this,Option.getD_some,asAddr,slp_bind,slp_pure]
    obtain ⟨h5,h6⟩:=cells_take (rl.own _ _ h2).1 h3
    exact slp_loadVar T h5 (fun e=>by unfold loadOk at h4; rw [e] at h4; exact Nat.eq_of_beq_eq_true h4) h6 k
omit hM in
theorem resV_one {fn:Func} {r:ResultVar} {v:Value} (hf:fn.results = #[r]) (x:Res1 P n L O r v):ResV P fn n L O v:=fun F h H tm rl ha K E k=>by
  simp only [results_eq,hf,slp_bind]
  refine slp_mapM_res _ _ _ _ [r] [v] rfl (fun i r' v' h1 h2 K E k=>?_) (by simpa [slp_pure] using k)
  cases i with
  | zero=>cases h1; cases h2; exact x.slp rl ha K E k
  | succ i=>cases h1
omit hM in
theorem resV_two {fn:Func} {r s:ResultVar} {v u:Value} (hf:fn.results = #[r,s]) (x:Res1 P n L O r v) (y:Res1 P n L O s u):ResV P fn n L O (.tuple #[v,u]):=fun F h H tm rl ha K E k=>by
  simp only [results_eq,hf,slp_bind]
  refine slp_mapM_res _ _ _ _ [r,s] [v,u] rfl (fun i r' v' h1 h2 K E k=>?_) (by simpa [slp_pure] using k)
  match i,h1,h2 with
  | 0,h1,h2=>cases h1; cases h2; exact x.slp rl ha K E k
  | 1,h1,h2=>cases h1; cases h2; exact y.slp rl ha K E k
omit hM in
theorem resV_none {fn:Func} (hf:fn.results = #[]):ResV P fn n L O (.tuple #[]):=fun F h H tm rl ha K E k=>by
  simp only [results_eq,hf,slp_bind]
  exact slp_mapM_res _ _ _ _ [] [] rfl (fun i r v h1=>by cases h1) (by simpa [slp_pure] using k)
omit hM in
theorem res_tmp {t:Nat} {v:Value} (e:L.get t = some v):Res1 P n L O (.tmp t) v:=e
omit hM in
theorem res_cell [T : Ty P t D size bytes zero] {a b off : Nat} {c : Array Value} {T' : TypeId} {fr : Nat × Nat} {cs : List Value} (h1 : L.get a = some (.pointer (some ⟨b, off, none⟩))) [m : OwnAt O b (.cells c T' fr)] (h2 : takeCells c off size = some cs) (h3 : loadOk D size = true) :
    Res1 P n L O (.cell a t) (ofCells D cs):=⟨D,size,bytes,zero,b,off,c,T',fr,cs,T,h1,m.mem,h2,h3,rfl⟩
end
abbrev Acc:=List (Nat × Option Nat × Value)
def lk:Acc→Nat→Option (Option Nat × Value)
  | [],_=>none
  | (i,p) :: acc,j=>bif Nat.beq i j then some p else lk acc j
def newA (acc:Acc):List Nat→Locals→Locals
  | [],L=>L
  | j :: js,L=>match lk acc j with
    | some (d,v)=>setL d v (newA acc js L)
    | none=>newA acc js L
def finA:Acc→Locals→Locals
  | [],L=>L
  | (_,d,v) :: acc,L=>setL d v (finA acc L)
def locA (dsts:List (Option Nat)) (anc:List (List Nat)) (acc:Acc) (L:Locals) (i:Nat):Locals:=newA acc (anc.getD i []) (oldL dsts anc i L)
def piRec (anc:List (List Nat)):List (Nat × Bool)→Bool
  | []=>true
  | (i,b) :: π=>(π.all fun x=>!(anc.getD i []).any (Nat.beq x.1 ·) && !Nat.beq x.1 i && (!b || (anc.getD x.1 []).any (Nat.beq i ·))) && piRec anc π
def piOk (anc:List (List Nat)) (m N:Nat) (π:List (Nat × Bool)):Bool:=Nat.beq π.length m && Nat.ble m N && (π.all fun x=>Nat.blt x.1 m) && piRec anc π && tailOk anc m N
section
variable (P:Program) (M:Jdg→Prop) (n:Nat) (ops:List Oper) (dsts:List (Option Nat)) (anc:List (List Nat)) (m:Nat) (Q:Qo) (L:Locals)
def QuietAt (acc:Acc) (i:Nat) (o:Oper) (v:Value) (O:Own) (h:PHeap):Prop:=
  (o.guard = none∧∀ X h',Le h h'→Opq P n o (locA dsts anc acc L i) (X++O) h' v) ∨
    (∃ j b want dj,o.guard = some (j,want)∧(anc.getD i []).any (Nat.beq j ·) = true∧lk acc j = some (some dj,b) ∧
      ((b = .bool want∧∀ X h',Le h h'→Opq P n o (locA dsts anc acc L i) (X++O) h' v) ∨ ((b = .bool (!want) ∨ b = undef)∧v = undef)))
def chainK (next:Value→Own→PHeap→Prop) (O0 W:Own) (h:PHeap) (r:Next) (O2:Own) (h2:PHeap):Prop:=
  match r with
  | .value v=>∃ W',O2 = W'++O0∧next v W' h2
  | .skip=>∃ W',O2 = W'++O0∧next undef W' h2
  | .enter f args=>O2 = W++O0∧h2 = h∧∃ A R,W.Perm (A++R)∧CallO P M f args.toList A h fun v A' h'=>next v (A'++R) h'
  | _=>False
def anyO (O0:Own):Acc→Own→PHeap→List (Nat × Bool)→Prop
  | acc,W,h,[]=>soOps P M n ops.toArray Q (ops.drop m) (finA acc L) (W++O0) h
  | acc,W,h,(i,false) :: π=>∃ o v,ops[i]? = some o∧QuietAt P n dsts anc L acc i o v O0 h∧anyO O0 ((i,o.dst,v) :: acc) W h π
  | acc, W, h, (i, true) :: π => ∃ o, ops[i]? = some o ∧
      (o.guard = none ∨ ∃ j b want dj,o.guard = some (j,want)∧(anc.getD i []).any (Nat.beq j ·) = true∧lk acc j = some (some dj,.bool b)∧b = want) ∧
      opo P n o (locA dsts anc acc L i) (W++O0) h (chainK P M (fun v W2 h2=>anyO O0 ((i,o.dst,v) :: acc) W2 h2 π) O0 W h) (fun _ _ _=>False)
end
theorem lk_cons {i:Nat} {p:Option Nat × Value} {acc:Acc} {j:Nat} (h:i ≠ j):lk ((i,p) :: acc) j = lk acc j:=by
  simp only [lk]
  cases hb:Nat.beq i j with
  | true=>exact absurd (Nat.eq_of_beq_eq_true hb) h
  | false=>rfl
theorem lk_mem {acc:Acc} {j:Nat} {p:Option Nat × Value} (h:lk acc j = some p):(j,p) ∈ acc:=by
  induction acc with
  | nil=>cases h
  | cons x acc ih=>
    obtain ⟨i,q⟩:=x
    simp only [lk] at h
    cases hb:Nat.beq i j with
    | true=>rw [hb] at h; obtain rfl:=Nat.eq_of_beq_eq_true hb; cases h; simp
    | false=>rw [hb] at h; exact List.mem_cons_of_mem _ (ih h)
theorem mem_lk {acc:Acc} (hn:(acc.map (·.1)).Nodup) {j:Nat} {p:Option Nat × Value} (h:(j,p) ∈ acc):lk acc j = some p:=by
  induction acc with
  | nil=>cases h
  | cons x acc ih=>
    obtain ⟨i,q⟩:=x
    rw [List.map_cons,List.nodup_cons] at hn
    rcases List.mem_cons.1 h with e | h
    · cases e; simp [lk]
    · have:i ≠ j:=fun e=>hn.1 (e ▸ List.mem_map.2 ⟨_,h,rfl⟩)
      rw [lk_cons this]; exact ih hn.2 h
theorem newA_get {acc:Acc} {t:Nat} {v:Value} {L:Locals}:∀ {js:List Nat},(newA acc js L).get t = some v→(∃ j:Nat,j ∈ js∧lk acc j = some (some t,v)) ∨ L.get t = some v
  | [],e=>.inr e
  | j :: js,e=>by
    simp only [newA] at e
    cases ha:lk acc j with
    | none=>
      rw [ha] at e
      rcases newA_get (js:=js) e with ⟨k,hk,x⟩ | x
      · exact .inl ⟨k,by simp [hk],x⟩
      · exact .inr x
    | some p=>
      obtain ⟨d,u⟩:=p
      rw [ha] at e
      cases d with
      | none=>
        rcases newA_get (js:=js) e with ⟨k,hk,x⟩ | x
        · exact .inl ⟨k,by simp [hk],x⟩
        · exact .inr x
      | some d=>
        simp only [setL,Locals.get] at e
        cases hb:Nat.beq d t with
        | true=>rw [hb] at e; exact .inl ⟨j,by simp,by rw [ha,← Nat.eq_of_beq_eq_true hb]; simpa using e⟩
        | false=>
          rw [hb] at e
          rcases newA_get (js:=js) (by simpa using e) with ⟨k,hk,x⟩ | x
          · exact .inl ⟨k,by simp [hk],x⟩
          · exact .inr x
theorem newA_cons {acc:Acc} {i:Nat} {p:Option Nat × Value} {L:Locals}:∀ {js:List Nat},i ∉ js→newA ((i,p) :: acc) js L = newA acc js L
  | [],_=>rfl
  | j :: js,h=>by
    have h1:i ≠ j:=fun e=>h (by simp [e])
    have h2:i ∉ js:=fun e=>h (by simp [e])
    simp only [newA,lk_cons h1,newA_cons h2]
theorem finA_get {t:Nat} {v:Value}:∀ {acc:Acc} {L:Locals},(finA acc L).get t = some v→(∃ j:Nat,(j,some t,v) ∈ acc) ∨ (L.get t = some v∧∀ (j:Nat) u,(j,some t,u) ∉ acc)
  | [],L,e=>.inr ⟨e,by simp⟩
  | (i,d,u) :: acc,L,e=>by
    simp only [finA] at e
    cases d with
    | none=>
      rcases finA_get (acc:=acc) e with ⟨j,x⟩ | ⟨x,y⟩
      · exact .inl ⟨j,by simp [x]⟩
      · exact .inr ⟨x,fun j w=>by simp [y j w]⟩
    | some d=>
      simp only [setL,Locals.get] at e
      cases hb:Nat.beq d t with
      | true=>rw [hb] at e; cases e; exact .inl ⟨i,by simp [Nat.eq_of_beq_eq_true hb]⟩
      | false=>
        rw [hb] at e
        have hne:=Nat.ne_of_beq_eq_false hb
        rcases finA_get (acc:=acc) (by simpa using e) with ⟨j,x⟩ | ⟨x,y⟩
        · exact .inl ⟨j,by simp [x]⟩
        · exact .inr ⟨x,fun j w=>by simp [y j w]; intro _ e; exact absurd e.symm hne⟩
theorem piRec_cons {anc : List (List Nat)} {i : Nat} {b : Bool} {π : List (Nat × Bool)} (h : piRec anc ((i, b) :: π) = true) :
    (∀ x ∈ π,x.1 ∉ anc.getD i []∧x.1 ≠ i∧(b = true→i ∈ anc.getD x.1 []))∧piRec anc π = true:=by
  simp only [piRec,Bool.and_eq_true,List.all_eq_true] at h
  refine ⟨fun x hx=>?_,h.2⟩
  obtain ⟨⟨h1,h2⟩,h3⟩:=h.1 x hx
  refine ⟨fun hm=>?_,fun e=>?_,fun hb=>?_⟩
  · have:(anc.getD i []).any (Nat.beq x.1 ·) = true:=List.any_eq_true.2 ⟨x.1,hm,by simp⟩
    rw [this] at h1; cases h1
  · rw [e] at h2; simp at h2
  · subst hb
    simp only [Bool.not_true,Bool.false_or] at h3
    obtain ⟨y,hy,e⟩:=List.any_eq_true.1 h3
    rw [Nat.eq_of_beq_eq_true e]; exact hy
theorem piRec_nodup {anc:List (List Nat)}:∀ {π:List (Nat × Bool)},piRec anc π = true→(π.map (·.1)).Nodup
  | [],_=>List.nodup_nil
  | (i,b) :: π,p=>by
    obtain ⟨r1,r2⟩:=piRec_cons p
    simp only [List.map_cons,List.nodup_cons]
    refine ⟨fun hm=>?_,piRec_nodup r2⟩
    obtain ⟨z,hz,e⟩:=List.mem_map.1 hm
    exact (r1 z hz).2.1 e
section
variable {P:Program} {M:Jdg→Prop} [hM:IsCl P M] {n:Nat} {Q:Qo} {L:Locals} {O:Own} {h:PHeap} {ops:List Oper} {dsts:List (Option Nat)} {anc:List (List Nat)} {m:Nat}
structure Told (P:Program) (n:Nat) (ops:List Oper) (dsts:List (Option Nat)) (anc:List (List Nat)) (L:Locals) (D:List Nat) (acc:Acc) (O:Own) (h:PHeap) (π:List (Nat × Bool)):Prop where
  nd:(acc.map (·.1)).Nodup
  apart:∀ x ∈ π,x.1 ∉ acc.map (·.1)
  ancs:∀ x ∈ π,∀ y ∈ acc,x.1 ∉ anc.getD y.1 []
  what:∀ i d v,(i,d,v) ∈ acc→∃ o,ops[i]? = some o∧o.dst = d∧(i ∉ D→QuietAt P n dsts anc L acc i o v O h)
  piR:piRec anc π = true
omit hM in
theorem quiet_cons {acc:Acc} {i k:Nat} {o:Oper} {v:Value} {p:Option Nat × Value} (hk:k ∉ anc.getD i []) (x:QuietAt P n dsts anc L acc i o v O h):QuietAt P n dsts anc L ((k,p) :: acc) i o v O h:=by
  have e:locA dsts anc ((k,p) :: acc) L i = locA dsts anc acc L i:=newA_cons hk
  unfold QuietAt
  rw [e]
  refine x.imp id fun ⟨j,b,want,dj,g1,g2,g3,g4⟩=>⟨j,b,want,dj,g1,g2,?_,g4⟩
  obtain ⟨y,hy,ey⟩:=List.any_eq_true.1 g2
  have:k ≠ j:=fun e=>hk (by rw [e,Nat.eq_of_beq_eq_true ey]; exact hy)
  rw [lk_cons this]; exact g3
omit hM in
theorem quiet_up {acc:Acc} {i:Nat} {o:Oper} {v:Value} {h':PHeap} (l:Le h h') (x:QuietAt P n dsts anc L acc i o v O h):QuietAt P n dsts anc L acc i o v O h':=by
  have up:(∀ X h',Le h h'→Opq P n o (locA dsts anc acc L i) (X++O) h' v)→∀ X h'',Le h' h''→Opq P n o (locA dsts anc acc L i) (X++O) h'' v:=fun y X h'' l'=>y X h'' ⟨le_trans l.le l'.le,l'.gh.trans l.gh⟩
  exact x.imp (fun y=>⟨y.1,up y.2⟩) fun ⟨j,b,want,dj,g1,g2,g3,g4⟩=>⟨j,b,want,dj,g1,g2,g3,g4.imp (fun y=>⟨y.1,up y.2⟩) id⟩
omit hM in
theorem advance (hlt : ∀ i, i ∉ anc.getD i []) : ∀ (π : List (Nat × Bool)) {D : List Nat} {acc : Acc} {W : Own}, Told P n ops dsts anc L D acc O h π → anyO P M n ops dsts anc m Q L O acc W h π → (∀ i, i ∈ D → i ∈ acc.map (·.1)) →
    ∃ acc' π',Told P n ops dsts anc L D acc' O h π'∧anyO P M n ops dsts anc m Q L O acc' W h π'∧(π' = [] ∨ ∃ c rest,π' = (c,true) :: rest) ∧
      (∀ x ∈ acc,x ∈ acc')∧(∀ i,(i ∈ acc.map (·.1) ∨ i ∈ π.map (·.1)) ↔ (i ∈ acc'.map (·.1) ∨ i ∈ π'.map (·.1)))
  | [],D,acc,W,t,x,hD=>⟨acc,[],t,x,.inl rfl,fun _ h=>h,fun _=>.rfl⟩
  | (c,true) :: rest,D,acc,W,t,x,hD=>⟨acc,_,t,x,.inr ⟨c,rest,rfl⟩,fun _ h=>h,fun _=>.rfl⟩
  | (i,false) :: π,D,acc,W,t,x,hD=>by
    obtain ⟨o,v,ho,hq,x⟩:=x
    obtain ⟨r1,r2⟩:=piRec_cons t.piR
    have hi:i ∉ acc.map (·.1):=t.apart (i,false) (by simp)
    have t':Told P n ops dsts anc L D ((i,o.dst,v) :: acc) O h π:=by
      refine ⟨by simp only [List.map_cons,List.nodup_cons]; exact ⟨hi,t.nd⟩,fun y hy=>?_,fun y hy z hz=>?_,fun j d u hj=>?_,r2⟩
      · simp only [List.map_cons,List.mem_cons,not_or]
        exact ⟨(r1 y hy).2.1,t.apart y (by simp [hy])⟩
      · rcases List.mem_cons.1 hz with rfl | hz
        · exact (r1 y hy).1
        · exact t.ancs y (by simp [hy]) z hz
      · rcases List.mem_cons.1 hj with e | hj
        · cases e
          exact ⟨o,ho,rfl,fun _=>quiet_cons (hlt _) hq⟩
        · obtain ⟨o',h1,h2,h3⟩:=t.what j d u hj
          exact ⟨o',h1,h2,fun hjD=>quiet_cons (t.ancs (i,false) (by simp) (j,d,u) hj) (h3 hjD)⟩
    obtain ⟨acc',π',a1,a2,a3,a4,a5⟩:=advance hlt π t' x fun j hj=>by simp [hD j hj]
    refine ⟨acc',π',a1,a2,a3,fun y hy=>a4 y (by simp [hy]),fun j=>?_⟩
    rw [← a5 j]
    simp only [List.map_cons,List.mem_cons]
    constructor
    · rintro (y | y | y)
      · exact .inl (.inr y)
      · exact .inl (.inl y)
      · exact .inr y
    · rintro ((y | y) | y)
      · exact .inr (.inl y)
      · exact .inl y
      · exact .inr (.inr y)
def OrdG (anc:List (List Nat)) (N:Nat):List Nat→List Nat→Prop
  | D,[]=>∀ i,i < N→i ∈ D
  | D,i :: l=>i ∉ D∧i < N∧(∀ j ∈ anc.getD i [],j ∈ D)∧OrdG anc N (i :: D) l
def OrdX (ops:Array Oper) (X:List (Nat × Nat)):List Nat→List Nat→Prop
  | D,[]=>∀ i,i < ops.size→i ∈ D
  | D,i :: l=>i ∉ D∧(∃ o,ops[i]? = some o∧∀ e ∈ o.after,Region.binds .any e = true→e.on ∈ D)∧(∀ p,(p,i) ∈ X→p ∈ D)∧OrdX ops X (i :: D) l
def ancOkX (ops:List Oper) (X:List (Nat × Nat)) (anc:List (List Nat)):Bool:=
  Nat.beq anc.length ops.length && (ops.zipIdx.all fun (o,i)=>
    let ds:=((o.after.toList.filter fun e=>Region.binds .any e).map (·.on))++((X.filter fun x=>Nat.beq x.2 i).map (·.1))
    !(anc.getD i []).any (Nat.beq i ·) && (anc.getD i []).all fun j=>ds.any fun p=>Nat.beq p j || (anc.getD p []).any (Nat.beq j ·))
omit hM in
theorem ordG_of {X:List (Nat × Nat)} (h:ancOkX ops X anc = true):∀ {l D:List Nat},OrdX ops.toArray X D l→(∀ j ∈ D,∀ i ∈ anc.getD j [],i ∈ D)→OrdG anc ops.length D l
  | [],D,x,_=>fun i hi=>x i (by simpa using hi)
  | i :: l,D,⟨h1,⟨o,ho,h2⟩,h3,h4⟩,hd=>by
    have hi:i < ops.length:=by simpa using (Array.getElem?_eq_some_iff.1 ho).1
    have hoi:ops[i]? = some o:=by simpa using ho
    simp only [ancOkX,Bool.and_eq_true] at h
    have q2:=List.all_eq_true.1 h.2 (o,i) (by rw [List.mem_zipIdx_iff_getElem?]; simpa using hoi)
    simp only [Bool.and_eq_true] at q2
    have hin:∀ j ∈ anc.getD i [],j ∈ D:=by
      intro j hj
      have q3:=List.all_eq_true.1 q2.2 j hj
      obtain ⟨p,hp,hpj⟩:=List.any_eq_true.1 q3
      have hpD:p ∈ D:=by
        rcases List.mem_append.1 hp with hp | hp
        · obtain ⟨e,he,rfl⟩:=List.mem_map.1 hp
          rw [List.mem_filter] at he
          exact h2 e (by simpa using he.1) he.2
        · obtain ⟨⟨p',i'⟩,he,rfl⟩:=List.mem_map.1 hp
          rw [List.mem_filter] at he
          have:i' = i:=Nat.eq_of_beq_eq_true he.2
          subst this
          exact h3 _ he.1
      rw [Bool.or_eq_true] at hpj
      rcases hpj with x | x
      · exact Nat.eq_of_beq_eq_true x ▸ hpD
      · obtain ⟨y,hy,hyj⟩:=List.any_eq_true.1 x
        rw [Nat.eq_of_beq_eq_true hyj]; exact hd p hpD y hy
    refine ⟨h1,hi,hin,ordG_of (by simp only [ancOkX,Bool.and_eq_true]; exact h) h4 fun j hj x hx=>?_⟩
    rcases List.mem_cons.1 hj with rfl | hj
    · exact List.mem_cons_of_mem _ (hin x hx)
    · exact List.mem_cons_of_mem _ (hd j hj x hx)
omit hM in
theorem anc_irr {X:List (Nat × Nat)} (h:ancOkX ops X anc = true) (i:Nat):i ∉ anc.getD i []:=fun hi=>by
  simp only [ancOkX,Bool.and_eq_true] at h
  have hlen:=Nat.eq_of_beq_eq_true h.1
  have hi':i < ops.length:=by
    rcases Nat.lt_or_ge i ops.length with h' | h'
    · exact h'
    · rw [List.getD_eq_getElem?_getD,List.getElem?_eq_none (by omega)] at hi; simp at hi
  have q2:=List.all_eq_true.1 h.2 (ops[i],i) (by rw [List.mem_zipIdx_iff_getElem?]; simp [hi'])
  simp only [Bool.and_eq_true,Bool.not_eq_true'] at q2
  have:(anc.getD i []).any (Nat.beq i ·) = true:=List.any_eq_true.2 ⟨i,hi,Nat.beq_refl i⟩
  rw [this] at q2; simp at q2
theorem ordX_nil {ops:Array Oper}:∀ {l D:List Nat},Ord ops D l→OrdX ops [] D l
  | [],_,x=>x
  | _ :: _,_,⟨h1,h2,h3⟩=>⟨h1,h2,fun _ m=>(by cases m),ordX_nil h3⟩
theorem rangeG {anc : List (List Nat)} {m N : Nat} (ht : tailOk anc m N = true) :
    ∀ (l:List Nat) (s:Nat) (D:List Nat),m ≤ s→(∀ j,j ∈ D ↔ j < s)→s ≤ N→OrdG anc N D l→l = List.range' s (N - s)
  | [],s,D,hm,hD,hs,x=>by
    have:N ≤ s:=by
      rcases Nat.lt_or_ge s N with h | h
      · have:=(hD s).1 (x s h); omega
      · exact h
    rw [show N - s = 0 from by omega]; rfl
  | i :: l,s,D,hm,hD,hs,⟨h1,hi,hin,h3⟩=>by
    have hge:s ≤ i:=by
      rcases Nat.lt_or_ge i s with h | h
      · exact absurd ((hD i).2 h) h1
      · exact h
    have hall:∀ j,j < i→j ∈ anc.getD i []:=by
      intro j hj
      have:=List.all_eq_true.1 ht i (by simpa using hi)
      rw [Bool.or_eq_true] at this
      rcases this with x | x
      · have:=Nat.le_of_ble_eq_true x; omega
      · obtain ⟨y,hy,e⟩:=List.any_eq_true.1 (List.all_eq_true.1 x j (by simpa using hj))
        rw [Nat.eq_of_beq_eq_true e]; exact hy
    have his:i = s:=by
      rcases Nat.lt_or_ge s i with h | h
      · have:=(hD s).1 (hin s (hall s h)); omega
      · omega
    subst his
    have:=rangeG ht l (i + 1) (i :: D) (by omega) (fun j=>by rw [List.mem_cons,hD j]; omega) (by omega) h3
    rw [this,show N - i = (N - (i + 1)) + 1 from by omega,List.range'_succ]
structure InvA (n:Nat) (L:Locals) (anc:List (List Nat)) (acc:Acc) (D:List Nat) (tm:Array Value):Prop where
  size:tm.size = n
  low:∀ j ∈ D,j ∈ acc.map (·.1)
  new:∀ j ∈ D,∀ d v,(j,some d,v) ∈ acc→tm[d]? = some v
  old:∀ t v,L.get t = some v→(∀ j ∈ D,∀ u,(j,some t,u) ∉ acc)→tm[t]? = some v
  down:∀ j ∈ D,∀ i ∈ anc.getD j [],i ∈ D
theorem step_opS {J : Jdg} (hJ : M J) {ops : Array Oper} {i : Nat} {rest : List Nat} {o : Oper} (ho : ops[i]? = some o) {b : Frame} (hb : b.kind ≠ .early) {a : Act} (hw : Region.wanted o (yielded ops a.tmps) = true)
    {k:List Item} {cs:List Frame} {h:PHeap} {K:Next→PHeap→Prop} (hs:(execOp a.eval o).slp P K (fun _ _=>False) h)
    (hv:∀ v h',K (.value v) h'→J h' (G (b.at (a.put o.dst v) (.inRegion ops rest :: k)) cs))
    (hk:∀ h',K .skip h'→J h' (G (b.at (a.put o.dst undef) (.inRegion ops rest :: k)) cs))
    (hc:∀ f args h',K (.enter f args) h'→J h' (G (Frame.enter P f args .normal) (b.at a (.inRegion ops (i :: rest) :: k) :: cs)))
    (hn:∀ r h',K r h'→(∃ v,r = .value v) ∨ r = .skip ∨ ∃ f args,r = .enter f args):J h (G (b.at a (.inRegion ops (i :: rest) :: k)) cs):=by
  obtain ⟨main,hcl⟩:=hM.cl J hJ
  have hfin:∀ v,(b.at a (.inRegion ops (i :: rest) :: k)).finish v = b.at (a.put o.dst v) (.inRegion ops rest :: k):=fun v=>by rw [Frame.finish_at,ho]; rfl
  refine hcl h _ rfl fun w hsat=>?_
  have hk':(b.kind == CallKind.early) = false:=by simpa using hb
  obtain ⟨w',h',es',s1,s2,s3,s4⟩:=slp_sound #[] hs hsat
  have hseen:∀ e ∈ seen P b.fn es',EvOk h w.heap.size e∧EvLt w'.heap.size e:=fun e x=>s3 e (seen_sub x)
  rcases s4 with ⟨r,hr,hkk⟩ | ⟨v,hr,hkk⟩
  · have hrr:(execOp a.eval o).run P w = .ok r w':=by rw [← Sem.runT_fst P _ w #[],hr]
    have hre:Sem.events P (execOp a.eval o) w #[] = es':=by rw [Sem.events,hr]; simp
    rcases hn r h' hkk with ⟨v,rfl⟩ | rfl | ⟨f,args,rfl⟩
    · refine ⟨G (b.at (a.put o.dst v) (.inRegion ops rest :: k)) cs,w',seen P b.fn es',h',?_,s1,s2,hseen,hv v h' hkk⟩
      rw [stepG_oper ho hw,← hfin]
      simp [stepG.apply,hrr,hre,G,Frame.at,hk',GStep.after]
    · refine ⟨G (b.at (a.put o.dst undef) (.inRegion ops rest :: k)) cs,w',seen P b.fn es',h',?_,s1,s2,hseen,hk h' hkk⟩
      rw [stepG_oper ho hw,← hfin]
      simp [stepG.apply,hrr,hre,G,Frame.at,hk',GStep.after]
    · refine ⟨G (Frame.enter P f args .normal) (b.at a (.inRegion ops (i :: rest) :: k) :: cs),w',seen P b.fn es',h',?_,s1,s2,hseen,hc f args h' hkk⟩
      rw [stepG_oper ho hw]
      simp [stepG.apply,hrr,hre,G,Frame.at,hk',GStep.after]
  · exact hkk.elim
theorem anyO_sound (hdst : dsts = dstsOf ops) (hancl : ∀ i, i ∉ anc.getD i []) (hd : dstsOk n dsts = true) {π : List (Nat × Bool)} (hπ : piOk anc m ops.length π = true) {W0 : Own} (x : anyO P M n ops dsts anc m Q L O [] W0 h π) :
    ∀ l,OrdG anc ops.length [] l→∀ F H,Rel F h (W0++O) H→slOps P M n ops.toArray (liftQ F h Q) l L H:=by
  simp only [piOk,Bool.and_eq_true,List.all_eq_true] at hπ
  obtain ⟨⟨⟨⟨p1,p2⟩,p3⟩,p4⟩,p5⟩:=hπ
  have p1:=Nat.eq_of_beq_eq_true p1
  have p2:=Nat.le_of_ble_eq_true p2
  have hdi:∀ (j:Nat) (d:Option Nat),dsts[j]? = some d ↔ ∃ o:Oper,ops[j]? = some o∧o.dst = d:=fun j d=>by rw [hdst]; simp [dstsOf]
  have hpn:(π.map (·.1)).Nodup:=piRec_nodup p4
  have hpall:∀ i,i < m→i ∈ π.map (·.1):=fun i hi=>Classical.byContradiction fun hno=>by
    have:(i :: π.map (·.1)).length ≤ (List.range m).length:=by
      refine nodup_le (List.nodup_cons.2 ⟨hno,hpn⟩) fun z hz=>?_
      rcases List.mem_cons.1 hz with rfl | hz
      · simpa using hi
      · obtain ⟨y,hy,rfl⟩:=List.mem_map.1 hz
        exact List.mem_range.2 (Nat.le_of_ble_eq_true (p3 y hy))
    simp [p1] at this
    omega
  intro l hord F H rel J hJ b k cs ds tm hbk hag hends
  have key : ∀ (l : List Nat) (D : List Nat) (tm : Array Value) (acc : Acc) (π : List (Nat × Bool)) (W : Own) (h' H : PHeap), OrdG anc ops.length D l → Up F h h' → Rel F h' (W ++ O) H → InvA n L anc acc D tm → Told P n ops dsts anc L D acc O h' π →
      anyO P M n ops dsts anc m Q L O acc W h' π→(π = [] ∨ ∃ c rest,π = (c,true) :: rest)→(∀ i,i < m→i ∈ acc.map (·.1) ∨ i ∈ π.map (·.1))→(∀ i,i ∈ acc.map (·.1) ∨ i ∈ π.map (·.1)→i < m)→(∀ y ∈ π,y.2 = true→y.1 ∉ D) →
      J H (G (b.at ⟨tm,ds⟩ (.inRegion ops.toArray l :: k)) cs):=by
    intro l
    induction l with
    | nil=>
      intro D tm acc π W h' H hord u rel inv told x hπ hall hlow hch
      have hD:∀ i,i < ops.length→i ∈ acc.map (·.1):=fun i hi=>inv.low i (hord i hi)
      have hπ0:π = []:=by
        rcases hπ with e | ⟨c,rest,rfl⟩
        · exact e
        · exact absurd (hD c (by have:=hlow c (.inr (by simp)); omega)) (told.apart (c,true) (by simp))
      subst hπ0
      have hmN:ops.drop m = []:=by
        rcases Nat.lt_or_ge m ops.length with h1 | h1
        · have:=hlow m (.inl (hD m h1)); omega
        · exact List.drop_of_length_le h1
      simp only [anyO,hmN] at x
      refine x F H rel [] rfl J hJ b k cs ds tm hbk ⟨inv.size,fun t v e=>?_⟩ (hends.mono fun e L H y=>liftQ_up u y)
      rcases finA_get e with ⟨j,hj⟩ | ⟨h1,h2⟩
      · have hjm:=hlow j (.inl (List.mem_map.2 ⟨_,hj,rfl⟩))
        exact inv.new j (hord j (by omega)) t v hj
      · exact inv.old t v h1 fun j _ u=>h2 j u
    | cons i l ih=>
      intro D tm acc π W h' H hord u rel inv told x hπ hall hlow hch
      obtain ⟨h1,hNi,hin,h3⟩:=hord
      have hagL:∀ acc',(∀ y ∈ acc,y ∈ acc')→(acc'.map (·.1)).Nodup→(∀ k ∈ acc'.map (·.1),k ∈ D ∨ k ∉ anc.getD i [])→(∀ k ∈ D,∀ d v,(k,d,v) ∈ acc'→(k,d,v) ∈ acc)→Agree n (locA dsts anc acc' L i) tm:=by
        intro acc' _ hn' _ hsame
        refine ⟨inv.size,fun t u e=>?_⟩
        rcases newA_get e with ⟨j,hj,hv⟩ | e
        · exact inv.new j (hin j hj) t u (hsame j (hin j hj) _ _ (lk_mem hv))
        · obtain ⟨e1,e2⟩:=oldL_get e
          refine inv.old t u e1 fun j hj w hw=>?_
          obtain ⟨oj,hoj,hdj,_⟩:=told.what j (some t) w hw
          have:=List.all_eq_true.1 e2 (some t,j) (by rw [List.mem_zipIdx_iff_getElem?]; exact (hdi j _).2 ⟨oj,hoj,hdj⟩)
          simp only [Bool.or_eq_true,Bool.not_eq_true'] at this
          rcases this with (y | y) | y
          · simp [isD] at y
          · exact h1 (Nat.eq_of_beq_eq_true y ▸ hj)
          · obtain ⟨z,hz,ez⟩:=List.any_eq_true.1 y
            exact h1 (inv.down j hj i (Nat.eq_of_beq_eq_true ez ▸ hz))
      have hag:=hagL acc (fun _ h=>h) told.nd (fun k hk=>by
        by_cases h:k ∈ D
        · exact .inl h
        · exact .inr fun hh=>h (hin k hh)) (fun _ _ _ _ h=>h)
      have hds:∀ (o:Oper) u,((Act.mk tm ds).put o.dst u) = ⟨((Act.mk tm ds).put o.dst u).tmps,ds⟩:=fun o u=>by cases hx:o.dst <;> rfl
      have invAt : ∀ (o : Oper) (v : Value) (acc' : Acc), ops[i]? = some o → (acc'.map (·.1)).Nodup → (i, o.dst, v) ∈ acc' → (∀ k d w, (k, d, w) ∈ acc' → ∃ o, ops[k]? = some o ∧ o.dst = d) → (∀ k ∈ D, ∀ d w, (k, d, w) ∈ acc' → (k, d, w) ∈ acc) → (∀ y ∈ acc, y ∈ acc') →
          InvA n L anc acc' (i :: D) ((Act.mk tm ds).put o.dst v).tmps:=by
        intro o v acc' ho hn' hmem hwhat hsame hsup
        have uniq:∀ {j d d' w w'},(j,d,w) ∈ acc'→(j,d',w') ∈ acc'→d = d'∧w = w':=fun a b=>by
          have e1:=mem_lk hn' a
          have e2:=mem_lk hn' b
          rw [e1] at e2; cases e2; exact ⟨rfl,rfl⟩
        refine ⟨?_,fun j hj=>?_,fun j hj d u hu=>?_,fun t u hu hno=>?_,fun j hj x hx=>?_⟩
        · cases hx:o.dst <;> simp [Act.put,inv.size]
        · rcases List.mem_cons.1 hj with rfl | hj
          · exact List.mem_map.2 ⟨_,hmem,rfl⟩
          · obtain ⟨y,hy,rfl⟩:=List.mem_map.1 (inv.low j hj)
            exact List.mem_map.2 ⟨y,hsup y hy,rfl⟩
        · rcases List.mem_cons.1 hj with rfl | hj
          · obtain ⟨e1,e2⟩:=uniq hmem hu
            subst e2
            have hlt:d < n:=dstsOk_lt hd (i:=j) ((hdi j _).2 ⟨o,ho,e1⟩)
            simp [e1,Act.put,inv.size,hlt]
          · have h0:=inv.new j hj d u (hsame j hj _ _ hu)
            cases hx:o.dst with
            | none=>exact h0
            | some d'=>
              have hne:d' ≠ d:=by
                intro e; subst e
                obtain ⟨oj,hoj,hdj⟩:=hwhat j _ _ hu
                exact h1 (dstsOk_inj hd ((hdi i _).2 ⟨o,ho,hx⟩) ((hdi j _).2 ⟨oj,hoj,hdj⟩) ▸ hj)
              simp [Act.put,Array.getElem?_setIfInBounds,hne,h0]
        · have h0:=inv.old t u hu fun j hj w hw=>hno j (List.mem_cons_of_mem _ hj) w (hsup _ hw)
          cases hx:o.dst with
          | none=>exact h0
          | some d'=>
            have hne:d' ≠ t:=fun e=>by subst e; exact hno i (by simp) v (by rw [← hx]; exact hmem)
            simp [Act.put,Array.getElem?_setIfInBounds,hne,h0]
        · rcases List.mem_cons.1 hj with rfl | hj
          · exact List.mem_cons_of_mem _ (hin x hx)
          · exact List.mem_cons_of_mem _ (inv.down j hj x hx)
      by_cases hacc:i ∈ acc.map (·.1)
      ·
        obtain ⟨⟨i',d,v⟩,hmem,rfl⟩:=List.mem_map.1 hacc
        obtain ⟨o,ho,rfl,hq⟩:=told.what _ _ _ hmem
        have hq:=hq h1
        have hoA:ops.toArray[i']? = some o:=by simpa using ho
        have next:∀ H',Rel F h' (W++O) H'→J H' (G (b.at ((Act.mk tm ds).put o.dst v) (.inRegion ops.toArray l :: k)) cs):=by
          intro H' rel'
          rw [hds]
          refine ih (i' :: D) _ acc π W h' H' h3 u rel' (invAt o v acc ho told.nd hmem (fun k d w hk=>by obtain ⟨o,a,b,_⟩:=told.what k d w hk; exact ⟨o,a,b⟩) (fun _ _ _ _ h=>h) (fun _ h=>h)) ?_ x hπ hall hlow ?_
          · exact ⟨told.nd, told.apart, told.ancs, fun k d w hk => by
              obtain ⟨o,a1,a2,a3⟩:=told.what k d w hk
              exact ⟨o,a1,a2,fun hn=>a3 fun hh=>hn (List.mem_cons_of_mem _ hh)⟩,told.piR⟩
          · intro y hy hyt hyD
            rcases List.mem_cons.1 hyD with e | hyD
            · exact told.apart y hy (by rw [e]; exact List.mem_map.2 ⟨_,hmem,rfl⟩)
            · exact hch y hy hyt hyD
        have exec:∀ (hw:Region.wanted o (yielded ops.toArray tm) = true),(∀ X h'',Le h' h''→Opq P n o (locA dsts anc acc L i') (X++O) h'' v)→J H (G (b.at ⟨tm,ds⟩ (.inRegion ops.toArray (i' :: l) :: k)) cs):=by
          intro hw hq
          have hq0:Opq P n o (locA dsts anc acc L i') (W++O) h' v:=hq W h' ⟨le_refl _,rfl⟩
          refine step_op (P:=P) hJ hoA hbk (a:=⟨tm,ds⟩) hw (K:=lift F h' (fun (r:Next) O2 h2=>r = .value v∧O2 = W++O∧h2 = h')) (slp_mono (fun _ _ y=>y) (fun _ _ y=>by obtain ⟨_,_,_,_,y⟩:=y; exact y) (hq0 F H rel ⟨tm,ds⟩ hag)) (fun w H' y=>?_) (fun f args H' y=>?_) fun r H' y=>?_
          · obtain ⟨O2,h2,u2,r2,e1,rfl,rfl⟩:=y
            cases e1
            exact next H' r2
          · obtain ⟨O2,h2,u2,r2,e1,_⟩:=y; cases e1
          · obtain ⟨O2,h2,u2,r2,e1,_⟩:=y; exact .inl ⟨v,e1⟩
        rcases hq with ⟨hg,hq⟩ | ⟨j,bb,want,dj,hg,hj,haj,hq⟩
        · exact exec (by simp [Region.wanted,hg]) hq
        · obtain ⟨y,hy,ey⟩:=List.any_eq_true.1 hj
          have hjD:j ∈ D:=hin j (by rw [Nat.eq_of_beq_eq_true ey]; exact hy)
          have htm:=inv.new j hjD dj _ (lk_mem haj)
          obtain ⟨oj,hoj,hdj,_⟩:=told.what j _ _ (lk_mem haj)
          rcases hq with ⟨rfl,hq⟩ | ⟨hbw,rfl⟩
          · have hyl : yielded ops.toArray tm j = some want := by
              unfold yielded
              rw [List.getElem?_toArray,hoj,Option.bind_some,hdj,Option.bind_some,htm]
            exact exec (by simp [Region.wanted,hg,hyl]) hq
          · have hwf : Region.wanted o (yielded ops.toArray tm) = false := by
              unfold Region.wanted
              rw [hg]
              rcases hbw with rfl | rfl
              · have hyl : yielded ops.toArray tm j = some (!want) := by
                  unfold yielded
                  rw [List.getElem?_toArray,hoj,Option.bind_some,hdj,Option.bind_some,htm]
                simp only [hyl]
                cases want <;> rfl
              · have hyl : yielded ops.toArray tm j = none := by
                  unfold yielded
                  rw [List.getElem?_toArray,hoj,Option.bind_some,hdj,Option.bind_some,htm]
                  rfl
                simp only [hyl]
                rfl
            have hfin':(b.at ⟨tm,ds⟩ (.inRegion ops.toArray (i' :: l) :: k)).finish undef = b.at ((Act.mk tm ds).put o.dst undef) (.inRegion ops.toArray l :: k):=by rw [Frame.finish_at,hoA]; rfl
            refine quiet (P:=P) hJ (g':=G (b.at ((Act.mk tm ds).put o.dst undef) (.inRegion ops.toArray l :: k)) cs) rfl (fun main w=>?_) (next H rel)
            rw [← hfin']
            simp [G,stepG,stepG.exec,Frame.at,hoA,hwf]
      · rcases Nat.lt_or_ge i m with him | him
        ·
          rcases hπ with rfl | ⟨c,rest,rfl⟩
          · rcases hall i him with y | y
            · exact absurd y hacc
            · cases y
          obtain ⟨r1,r2⟩:=piRec_cons told.piR
          have hic:i = c:=by
            rcases hall i him with y | y
            · exact absurd y hacc
            · obtain ⟨z,hz,rfl⟩:=List.mem_map.1 y
              rcases List.mem_cons.1 hz with e | hz
              · rw [e]
              · have:=inv.low c (hin c ((r1 z hz).2.2 rfl))
                exact absurd this (told.apart (c,true) (by simp))
          subst hic
          obtain ⟨o,ho,hg,hx⟩:=x
          have hoA:ops.toArray[i]? = some o:=by simpa using ho
          have next:∀ (v:Value) (W2:Own) (h2 H':PHeap),Up F h' h2→Rel F h2 (W2++O) H'→anyO P M n ops dsts anc m Q L O ((i,o.dst,v) :: acc) W2 h2 rest→J H' (G (b.at ((Act.mk tm ds).put o.dst v) (.inRegion ops.toArray l :: k)) cs):=by
            intro v W2 h2 H' u2 rel2 x2
            have hn':(((i,o.dst,v) :: acc).map (·.1)).Nodup:=by simp only [List.map_cons,List.nodup_cons]; exact ⟨hacc,told.nd⟩
            have t':Told P n ops dsts anc L (i :: D) ((i,o.dst,v) :: acc) O h2 rest:=by
              refine ⟨hn',fun y hy=>?_,fun y hy z hz=>?_,fun j d w hj=>?_,r2⟩
              · simp only [List.map_cons,List.mem_cons,not_or]
                exact ⟨(r1 y hy).2.1,told.apart y (by simp [hy])⟩
              · rcases List.mem_cons.1 hz with rfl | hz
                · exact (r1 y hy).1
                · exact told.ancs y (by simp [hy]) z hz
              · rcases List.mem_cons.1 hj with e | hj
                · cases e
                  exact ⟨o,ho,rfl,fun hn=>absurd (by simp) hn⟩
                · obtain ⟨o',a1,a2,a3⟩:=told.what j d w hj
                  exact ⟨o',a1,a2,fun hn=>quiet_cons (told.ancs (i,true) (by simp) (j,d,w) hj) (quiet_up ⟨u2.le,u2.gh⟩ (a3 fun hh=>hn (List.mem_cons_of_mem _ hh)))⟩
            obtain ⟨acc',π',a1,a2,a3,a4,a5⟩:=advance hancl rest t' x2 (fun j hj=>by
              rcases List.mem_cons.1 hj with rfl | hj
              · simp
              · simp only [List.map_cons,List.mem_cons]; exact .inr (inv.low j hj))
            rw [hds]
            have hsame:∀ k ∈ D,∀ d w,(k,d,w) ∈ acc'→(k,d,w) ∈ acc:=fun k hk d w hw=>by
              obtain ⟨⟨k',d',w'⟩,hm,rfl⟩:=List.mem_map.1 (inv.low k hk)
              have e1:=mem_lk a1.nd (a4 _ (List.mem_cons_of_mem _ hm))
              have e2:=mem_lk a1.nd hw
              rw [e1] at e2; cases e2; exact hm
            refine ih (i :: D) _ acc' π' W2 h2 H' h3 (u.trans u2) rel2 (invAt o v acc' ho a1.nd (a4 _ (by simp)) (fun k d w hk=>by obtain ⟨o,a,b,_⟩:=a1.what k d w hk; exact ⟨o,a,b⟩) hsame (fun y hy=>a4 y (by simp [hy]))) a1 a2 a3 (fun j hj=>(a5 j).1 ?_) (fun j hj=>?_) (fun y hy hyt hyD=>?_)
            · rcases hall j hj with y | y
              · exact .inl (by simp only [List.map_cons,List.mem_cons]; exact .inr y)
              · simp only [List.map_cons,List.mem_cons] at y ⊢
                rcases y with y | y
                · exact .inl (.inl y)
                · exact .inr y
            · rcases (a5 j).2 hj with y | y
              · simp only [List.map_cons,List.mem_cons] at y
                rcases y with rfl | y
                · exact him
                · exact hlow j (.inl y)
              · exact hlow j (.inr (by simp only [List.map_cons,List.mem_cons]; exact .inr y))
            · have hap:=a1.apart y hy
              rcases List.mem_cons.1 hyD with e | hyD
              · exact hap (by rw [e]; exact List.mem_map.2 ⟨(i,o.dst,v),a4 _ (by simp),rfl⟩)
              · obtain ⟨z,hz,e⟩:=List.mem_map.1 (inv.low _ hyD)
                exact hap (by rw [← e]; exact List.mem_map.2 ⟨z,a4 z (by simp [hz]),rfl⟩)
          have hwt:Region.wanted o (yielded ops.toArray tm) = true:=by
            rcases hg with hg | ⟨j,bb,want,dj,hg,hj,haj,rfl⟩
            · simp [Region.wanted,hg]
            · obtain ⟨y,hy,ey⟩:=List.any_eq_true.1 hj
              have hjD:j ∈ D:=hin j (by rw [Nat.eq_of_beq_eq_true ey]; exact hy)
              have htm:=inv.new j hjD dj _ (lk_mem haj)
              obtain ⟨oj,hoj,hdj,_⟩:=told.what j _ _ (lk_mem haj)
              have hyl:yielded ops.toArray tm j = some bb:=by
                unfold yielded
                rw [List.getElem?_toArray,hoj,Option.bind_some,hdj,Option.bind_some,htm]
              simp [Region.wanted,hg,hyl]
          refine step_opS (P:=P) hJ hoA hbk (a:=⟨tm,ds⟩) hwt (slp_mono (fun _ _ y=>y) (fun _ _ y=>by obtain ⟨_,_,_,_,y⟩:=y; exact y) (hx F H rel ⟨tm,ds⟩ hag)) (fun w H' y=>?_) (fun H' y=>?_) (fun f args H' y=>?_) fun r H' y=>?_
          · obtain ⟨O2,h2,u2,r2',W2,rfl,y⟩:=y
            exact next w W2 h2 H' u2 r2' y
          · obtain ⟨O2,h2,u2,r2',W2,rfl,y⟩:=y
            exact next undef W2 h2 H' u2 r2' y
          · obtain ⟨O2,h2,u2,r2',rfl,rfl,A,R,hp,y⟩:=y
            have hfin':∀ u,(b.at ⟨tm,ds⟩ (.inRegion ops.toArray (i :: l) :: k)).finish u = b.at ((Act.mk tm ds).put o.dst u) (.inRegion ops.toArray l :: k):=fun u=>by rw [Frame.finish_at,hoA]; rfl
            have rl:=r2'.perm (O':=A++(R++O)) (by rw [← List.append_assoc]; exact (hp.append_right O).symm)
            refine y _ _ rl.down.1 J hJ _ cs (fun v H2 z=>?_) (fun _ _ z=>by obtain ⟨_,_,_,_,z⟩:=z; exact z.elim)
            obtain ⟨A',h3',u3,r3,z⟩:=z
            obtain ⟨r4,u4⟩:=rl.back u3 r3
            rw [hfin']
            exact next v (A'++R) h3' H2 (u2.trans u4) (by rw [List.append_assoc]; exact r4) z
          · obtain ⟨O2,h2,u2,r2',y⟩:=y
            cases r <;> first|exact y.elim | exact .inl ⟨_,rfl⟩ | exact .inr (.inl rfl) | exact .inr (.inr ⟨_,_,rfl⟩)
        ·
          have hall':∀ j,j < i→j ∈ D:=by
            intro j hj
            have:=List.all_eq_true.1 p5 i (by simpa using hNi)
            rw [Bool.or_eq_true] at this
            rcases this with x | x
            · have:=Nat.le_of_ble_eq_true x; omega
            · obtain ⟨y,hy,e⟩:=List.any_eq_true.1 (List.all_eq_true.1 x j (by simpa using hj))
              exact hin j (by rw [Nat.eq_of_beq_eq_true e]; exact hy)
          have hπ0:π = []:=by
            rcases hπ with e | ⟨c,rest,rfl⟩
            · exact e
            · have:=hlow c (.inr (by simp))
              exact absurd (inv.low c (hall' c (by omega))) (told.apart (c,true) (by simp))
          subst hπ0
          have hDm:∀ j,j ∈ D→j < m:=fun j hj=>hlow j (.inl (inv.low j hj))
          have hD:∀ j,j ∈ D ↔ j < m:=fun j=>⟨hDm j,fun hj=>hall' j (by omega)⟩
          have hl:i :: l = List.range' m (ops.toArray.size - m):=by
            have:=rangeG p5 (i :: l) m D (Nat.le_refl _) hD p2 ⟨h1,hNi,hin,h3⟩
            simpa using this
          rw [hl]
          refine x F H rel _ ?_ J hJ b k cs ds tm hbk ⟨inv.size,fun t v e=>?_⟩ (hends.mono fun e L H y=>liftQ_up u y)
          · apply List.ext_getElem?; intro j
            simp only [List.getElem?_map,List.size_toArray,List.getElem?_drop]
            rcases Nat.lt_or_ge j (ops.length - m) with hj | hj
            · rw [List.getElem?_range' hj,List.getElem?_eq_getElem (l:=ops) (i:=m + j) (by omega)]
              simp [show m + j < ops.length by omega]
            · rw [List.getElem?_eq_none (by simpa using hj),List.getElem?_eq_none (by omega)]; rfl
          · rcases finA_get e with ⟨j,hj⟩ | ⟨h1,h2⟩
            · exact inv.new j ((hD j).2 (hlow j (.inl (List.mem_map.2 ⟨_,hj,rfl⟩)))) t v hj
            · exact inv.old t v h1 fun j _ u=>h2 j u
  obtain ⟨acc,π',a1,a2,a3,a4,a5⟩:=advance (D:=[]) hancl π (⟨List.nodup_nil,(fun _ _=>by simp),(fun _ _ _ h=>by cases h),(fun _ _ _ h=>by cases h),p4⟩:Told P n ops dsts anc L [] [] O h π) x (fun _ h=>by cases h)
  refine key l [] tm acc π' W0 h H hord (Up.refl _ _) rel ⟨hag.size,(by simp),(by simp),(fun t v e _=>hag.at' t v e),(by simp)⟩ a1 a2 a3 (fun i hi=>(a5 i).1 (.inr (hpall i hi))) (fun i hi=>?_) (fun _ _ _=>by simp)
  rcases (a5 i).2 hi with y | y
  · cases y
  · obtain ⟨z,hz,rfl⟩:=List.mem_map.1 y
    exact Nat.le_of_ble_eq_true (p3 z hz)
def RegX (P:Program) (M:Jdg→Prop) (n:Nat) (ops:List Oper) (X:List (Nat × Nat)) (Q:Qo) (L:Locals) (O:Own) (h:PHeap):Prop:=
  ∀ l,OrdX ops.toArray X [] l→∀ F H,Rel F h O H→slOps P M n ops.toArray (liftQ F h Q) l L H
theorem so_draw [hX:Mixed P] {id:Nat} (he:edgesOk ops.toArray = true) (x:RegX P M n ops [] Q L O h):(Code.region id ops.toArray true).so P M n Q L O h:=by
  intro F H rel J hJ b k cs ds tm hb hag hends
  obtain ⟨main,hcl⟩:=hM.cl J hJ
  refine hcl H _ rfl fun w hsat=>?_
  have hm:=hX.is
  refine ⟨G (b.at ⟨tm,ds⟩ (.inRegion ops.toArray (Region.linearise .any ops.toArray (w.tape w.drawn (.order b.fn id))) :: k)) cs,{ w with drawn:=w.drawn + 1 },#[],H,?_,sat_drawn hsat _,grow_drawn w H _,by simp,?_⟩
  · simp [G,stepG,stepG.exec,Frame.at,choose,Sem.run,Question.forced,Question.cut,hm,Region.schedule]
  · exact x _ (ordX_nil (lin_ord he _)) F H rel J hJ b k cs ds tm hb hag hends
theorem regX_run {X : List (Nat × Nat)} (anc : List (List Nat)) (m : Nat) (π : List (Nat × Bool)) (ha : ancOkX ops X anc = true) (hd : dstsOk n (dstsOf ops) = true) (hπ : piOk anc m ops.length π = true)
    (x:anyO P M n ops (dstsOf ops) anc m Q L O [] [] h π):RegX P M n ops X Q L O h:=fun l hl=>
  anyO_sound rfl (anc_irr ha) hd hπ x l (ordG_of ha hl (by simp))
theorem regX_runW {X : List (Nat × Nat)} (W : Own) (anc : List (List Nat)) (m : Nat) (π : List (Nat × Bool)) (ha : ancOkX ops X anc = true) (hd : dstsOk n (dstsOf ops) = true) (hπ : piOk anc m ops.length π = true)
    (x:anyO P M n ops (dstsOf ops) anc m Q L O [] W h π):RegX P M n ops X Q L (W++O) h:=fun l hl=>
  anyO_sound rfl (anc_irr ha) hd hπ x l (ordG_of ha hl (by simp))
omit hM in
theorem regX_perm {X:List (Nat × Nat)} {O':Own} (p:O.Perm O') (x:RegX P M n ops X Q L O' h):RegX P M n ops X Q L O h:=fun l hl F H r=>x l hl F H (r.perm p.symm)
omit hM in
theorem ordX_pair {ops:Array Oper} {X:List (Nat × Nat)} {p q:Nat} (hp:p < ops.size) (hq:q < ops.size) (hne:p ≠ q):∀ {l D:List Nat},OrdX ops X D l→(p ∈ D→OrdX ops ((p,q) :: X) D l)∧(q ∈ D→OrdX ops ((q,p) :: X) D l)∧(p ∉ D→q ∉ D→OrdX ops ((p,q) :: X) D l ∨ OrdX ops ((q,p) :: X) D l)
  | [],D,x=>⟨fun _=>x,fun _=>x,fun hn _=>absurd (x p hp) hn⟩
  | i :: l,D,⟨h1,h2,h3,h4⟩=>by
    obtain ⟨a1,a2,a3⟩:=ordX_pair hp hq hne h4
    have ex:∀ a b:Nat,(b = i→a ∈ D)→OrdX ops ((a,b) :: X) (i :: D) l→OrdX ops ((a,b) :: X) D (i :: l):=fun a b hab y=>⟨h1,h2,fun r m=>by
      rcases List.mem_cons.1 m with e | m
      · cases e; exact hab rfl
      · exact h3 r m,y⟩
    refine ⟨fun hD=>ex p q (fun _=>hD) (a1 (by simp [hD])),fun hD=>ex q p (fun _=>hD) (a2 (by simp [hD])),fun n1 n2=>?_⟩
    by_cases e1:i = p
    · subst e1
      exact .inl (ex _ _ (fun e=>absurd e.symm hne) (a1 (by simp)))
    · by_cases e2:i = q
      · subst e2
        exact .inr (ex _ _ (fun e=>absurd e hne) (a2 (by simp)))
      · rcases a3 (by simp only [List.mem_cons,not_or]; exact ⟨fun e=>e1 e.symm,n1⟩) (by simp only [List.mem_cons,not_or]; exact ⟨fun e=>e2 e.symm,n2⟩) with y | y
        · exact .inl (ex _ _ (fun e=>absurd e.symm e2) y)
        · exact .inr (ex _ _ (fun e=>absurd e.symm e1) y)
omit hM in
theorem regX_split {X:List (Nat × Nat)} (p q:Nat) (hp:(Nat.blt p ops.length && Nat.blt q ops.length && !(Nat.beq p q)) = true) (x:RegX P M n ops ((p,q) :: X) Q L O h) (y:RegX P M n ops ((q,p) :: X) Q L O h):RegX P M n ops X Q L O h:=fun l hl=>by
  simp only [Bool.and_eq_true,Bool.not_eq_true'] at hp
  rcases (ordX_pair (p:=p) (q:=q) (by have:=Nat.le_of_ble_eq_true hp.1.1; simp; omega) (by have:=Nat.le_of_ble_eq_true hp.1.2; simp; omega) (Nat.ne_of_beq_eq_false hp.2) hl).2.2 (by simp) (by simp) with z | z
  · exact x l z
  · exact y l z
end
theorem setCells_toList:∀ (vs:List Value) (c:Array Value) (off:Nat),off + vs.length ≤ c.size→(setCells c off vs).toList = c.toList.take off++vs++c.toList.drop (off + vs.length)
  | [],c,off,_=>by simp [setCells]
  | v :: vs,c,off,h=>by
    simp only [List.length_cons] at h
    rw [setCells,setCells_toList vs _ _ (by simp; omega)]
    apply List.ext_getElem?
    intro i
    have e:(c.setIfInBounds off v).toList = c.toList.set off v:=by simp
    rw [e]
    simp only [List.getElem?_append,List.length_append,List.length_take,List.length_set,Array.length_toList,List.length_cons,List.getElem?_take,List.getElem?_drop,List.getElem?_set]
    rcases Nat.lt_trichotomy i off with hi | hi | hi
    · simp [show i < min (off + 1) c.size by omega,show i < min (off+1) c.size + vs.length by omega,show i < min off c.size by omega,show i < min off c.size + (vs.length + 1) by omega,show i < off + 1 by omega,hi,show ¬ off = i by omega]
    · subst hi
      simp [show i < c.size by omega,show i < min (i + 1) c.size by omega,show i < min (i+1) c.size + vs.length by omega,show ¬ i < min i c.size by omega,show i < min i c.size + (vs.length + 1) by omega,show i - min i c.size = 0 by omega]
    · by_cases h2:i < off + 1 + vs.length
      · simp [show ¬ i < min (off + 1) c.size by omega,show i < min (off+1) c.size + vs.length by omega,show ¬ i < min off c.size by omega,show i < min off c.size + (vs.length + 1) by omega,show i - min off c.size = (i - min (off+1) c.size) + 1 by omega]
      · simp [show ¬ i < min (off + 1) c.size by omega,show ¬ i < min (off+1) c.size + vs.length by omega,show ¬ i < min off c.size by omega,show ¬ i < min off c.size + (vs.length + 1) by omega]
        have e1:off + 1 + vs.length + (i - (min (off + 1) c.size + vs.length)) = i:=by omega
        have e2:off + (vs.length + 1) + (i - (min off c.size + (vs.length + 1))) = i:=by omega
        rw [e1,e2]; simp [show ¬ off = i by omega]
theorem fill_setCells (cs:Array Value) (off:Nat) (vs:Array Value):vs.zipIdx.foldl (fun cs (x:Value × Nat)=>cs.setIfInBounds (off + x.2) x.1) cs = setCells cs off vs.toList:=by
  have key:∀ (l:List Value) (k:Nat) (cs:Array Value),(l.zipIdx k).foldl (fun cs (x:Value × Nat)=>cs.setIfInBounds (off + x.2) x.1) cs = setCells cs (off + k) l:=by
    intro l
    induction l with
    | nil=>intro k cs; rfl
    | cons v l ih=>intro k cs; simp only [List.zipIdx_cons,List.foldl_cons,setCells,ih,Nat.add_assoc]
  rw [← Array.foldl_toList,Array.toList_zipIdx]
  simpa using key vs.toList 0 cs
def splice (cs:List Value) (off:Nat) (vs:List Value):List Value:=cs.take off++vs++cs.drop (off + vs.length)
def fillC (pl:List FldI):List Value→List (Nat × Value)→Option (List Value)
  | cs,[]=>some cs
  | cs,(i,v) :: ps=>match pl[i]? with
    | some fi=>bif Nat.beq v.cells.toList.length fi.size && Nat.ble (fi.off + fi.size) cs.length then fillC pl (splice cs fi.off v.cells.toList) ps else none
    | none=>none
theorem splice_length {cs vs:List Value} {off:Nat} (h:off + vs.length ≤ cs.length):(splice cs off vs).length = cs.length:=by simp [splice]; omega
theorem fill_fillC {pl:List FldI} {places:Nat→Option (Nat × Nat)} (hp:∀ i (fi:FldI),pl[i]? = some fi→places i = some (fi.off,fi.size)):∀ {ps:List (Nat × Value)} {cs l:List Value},fillC pl cs ps = some l→Instr.fill places cs.toArray ps = some l.toArray
  | [],cs,l,e=>by cases e; rfl
  | (i,v) :: ps,cs,l,e=>by
    simp only [fillC] at e
    cases hf:pl[i]? with
    | none=>rw [hf] at e; cases e
    | some fi=>
      rw [hf] at e
      simp only at e
      cases hc:Nat.beq v.cells.toList.length fi.size && Nat.ble (fi.off + fi.size) cs.length with
      | false=>rw [hc] at e; cases e
      | true=>
        rw [hc] at e
        simp only [Bool.and_eq_true] at hc
        have h1:=Nat.eq_of_beq_eq_true hc.1
        have h2:=Nat.le_of_ble_eq_true hc.2
        simp only [Array.length_toList] at h1
        simp only [Instr.fill,hp i fi hf]
        rw [if_neg (by simp [h1]; omega),fill_setCells]
        have:setCells cs.toArray fi.off v.cells.toList = (splice cs fi.off v.cells.toList).toArray:=by
          apply Array.toList_inj.1
          rw [setCells_toList _ _ _ (by simp [h1]; omega)]
          rfl
        rw [this]
        exact fill_fillC hp e
section
variable {P:Program} {M:Jdg→Prop} {n:Nat} {L:Locals} {O R A:Own} {h:PHeap} {d:Option Nat} {ty:TypeId} {pos:String} {af:Array Edge} {g:Option (Nat × Bool)}
  {t e:TypeId} {D D':TypeDesc} {size bytes size' bytes':Nat} {zero zero':Value} {K:Next→Own→PHeap→Prop} {E:Value→Own→PHeap→Prop}
theorem slp_fieldPlaces {Kk : Array (Nat × Nat) → PHeap → Prop} {Ee : Value → PHeap → Prop} {H : PHeap} {fs : List Field} {pl : List FldI} (hl : fs.length = pl.length) (hf : ∀ (i : Nat) f (x : FldI), fs[i]? = some f → pl[i]? = some x → f.offset = x.off ∧ ∃ y, P.info? f.type = some y ∧ y.size = x.size)
    (k:Kk (pl.map fun x=>(x.off,x.size)).toArray H):(fs.toArray.mapM fun f=>(do pure (f.offset,← sizeOf f.type):Sem (Nat × Nat))).slp P Kk Ee H:=by
  simp only [List.mapM_toArray]
  rw [slp_map]
  have key : ∀ (fs : List Field) (pl : List FldI) (Kk : List (Nat × Nat) → PHeap → Prop), fs.length = pl.length → (∀ (i : Nat) f (x : FldI), fs[i]? = some f → pl[i]? = some x → f.offset = x.off ∧ ∃ y, P.info? f.type = some y ∧ y.size = x.size) → Kk (pl.map fun x => (x.off, x.size)) H →
      (fs.mapM fun f=>(do pure (f.offset,← sizeOf f.type):Sem (Nat × Nat))).slp P Kk Ee H:=by
    intro fs
    induction fs with
    | nil=>intro pl Kk hl _ k; cases pl with
      | nil=>simpa [slp_pure] using k
      | cons=>cases hl
    | cons f fs ih=>
      intro pl Kk hl hf k
      cases pl with
      | nil=>cases hl
      | cons x pl=>
        obtain ⟨h1,y,h2,h3⟩:=hf 0 f x rfl rfl
        rw [List.mapM_cons,slp_bind,slp_bind]
        refine slp_sizeOf' h2 ?_
        rw [slp_pure,slp_bind]
        refine ih pl _ (by simpa using hl) (fun i f x a b=>hf (i + 1) f x (by simpa using a) (by simpa using b)) ?_
        rw [slp_pure,h1,h3]; exact k
  exact key fs pl _ hl hf k
theorem flds_len {pl:List FldI} (F:Flds P t pl):∃ fs,P.underlying t = some (.struct fs)∧fs.toList.length = pl.length∧∀ (i:Nat) (x:FldI),pl[i]? = some x→∃ f:Field,fs[i]? = some f∧f.type = x.type∧f.offset = x.off∧(∃ y,P.info? f.type = some y∧y.size = x.size)∧∃ d,P.underlying f.type = some d∧aggD d = x.agg:=by
  obtain ⟨fs,h1,h2⟩:=Flds.get F
  refine ⟨fs,h1,?_,h2⟩
  have e:=F.und
  unfold Program.fldsOf at e
  rw [h1] at e
  have:=congrArg List.length (Option.some.inj e)
  simpa using this
theorem o_build {pl:List FldI} (T:Ty P t D size bytes zero) (Fl:Flds P t pl) {parts:Array (Nat × Operand)} {ps:List (Nat × Value)} {l:List Value} (hp:evParts L parts.toList = some ps) (hf:fillC pl zero.cells.toList ps = some l) {H:PHeap} {K:Next→PHeap→Prop} {E:Value→PHeap→Prop} (k:K (.value (.agg l.toArray)) H):opv P n ⟨d,.build t parts,ty,pos,af,g⟩ L H K E:=
  o_val (s:=fun a=>Instr.build t (parts.map fun (i,x)=>(i,a.eval x))) (fun _ _=>rfl) (fun a ha=>by
    obtain ⟨fs,h1,h2,h3⟩:=flds_len Fl
    have e1:(parts.map fun (x:Nat × Operand)=>(x.1,a.eval x.2)) = ps.toArray:=Array.ext' (by rw [Array.toList_map,evParts_map ha hp])
    simp only [e1,Instr.build,slp_bind]
    refine slp_zeroValue T ?_
    refine slp_underlying h1 ?_
    simp only [slp_bind]
    have:fs = fs.toList.toArray:=by simp
    rw [this]
    refine slp_fieldPlaces h2 (fun i f x a b=>?_) ?_
    · obtain ⟨f',c1,c2,c3,c4,_⟩:=h3 i x b
      have:f' = f:=by
        have:fs[i]? = some f:=by simpa using a
        rw [this] at c1; exact (Option.some.inj c1).symm
      subst this
      exact ⟨c3,c4⟩
    · have hz:zero.cells = zero.cells.toList.toArray:=by simp
      rw [hz]
      have:=fill_fillC (places:=fun i=>((pl.map fun x=>(x.off,x.size)).toArray)[i]?) (fun i fi hi=>by simp [hi]) hf
      simp only [this]
      exact k)
theorem q_build {pl : List FldI} (T : Ty P t D size bytes zero) (Fl : Flds P t pl) {parts : Array (Nat × Operand)} {ps : List (Nat × Value)} {l : List Value} (hp : evParts L parts.toList = some ps) (hf : fillC pl zero.cells.toList ps = some l) :
    Opq P n ⟨d,.build t parts,ty,pos,af,g⟩ L O h (.agg l.toArray):=q_of fun H K E k=>o_build T Fl hp hf k
def partsAll (size:Nat):Nat→List (Nat × Value)→Option (List Value)
  | _,[]=>some []
  | i,(j,v) :: ps=>bif Nat.beq i j && Nat.beq v.cells.toList.length size then (match partsAll size (i + 1) ps with | some l=>some (v.cells.toList++l) | none=>none) else none
theorem partsAll_length {size:Nat}:∀ {ps:List (Nat × Value)} {i:Nat} {l:List Value},partsAll size i ps = some l→l.length = ps.length * size
  | [],_,l,e=>by cases e; simp
  | (j,v) :: ps,i,l,e=>by
    simp only [partsAll] at e
    cases hc:Nat.beq i j && Nat.beq v.cells.toList.length size with
    | false=>rw [hc] at e; cases e
    | true=>
      rw [hc] at e
      simp only [cond_true] at e
      cases hr:partsAll size (i + 1) ps with
      | none=>rw [hr] at e; cases e
      | some l'=>
        rw [hr] at e; cases e
        simp only [Bool.and_eq_true] at hc
        have:=Nat.eq_of_beq_eq_true hc.2
        rw [List.length_append,partsAll_length hr,this,List.length_cons,Nat.add_mul]; omega
theorem fill_partsAll {size : Nat} : ∀ {ps : List (Nat × Value)} {i : Nat} {l cs : List Value}, partsAll size i ps = some l → cs.length = (i + ps.length) * size →
    Instr.fill (fun i=>some (i * size,size)) cs.toArray ps = some (cs.take (i * size)++l).toArray
  | [],i,l,cs,e,hl=>by cases e; simp [Instr.fill]; rw [List.take_of_length_le (by simp at hl; omega)]
  | (j,v) :: ps,i,l,cs,e,hl=>by
    simp only [partsAll] at e
    cases hc:Nat.beq i j && Nat.beq v.cells.toList.length size with
    | false=>rw [hc] at e; cases e
    | true=>
      rw [hc] at e
      simp only [cond_true] at e
      cases hr:partsAll size (i + 1) ps with
      | none=>rw [hr] at e; cases e
      | some l'=>
        rw [hr] at e; cases e
        simp only [Bool.and_eq_true] at hc
        have h2:=Nat.eq_of_beq_eq_true hc.2
        obtain rfl:=Nat.eq_of_beq_eq_true hc.1
        simp only [Array.length_toList] at h2
        simp only [List.length_cons] at hl
        have hle:i * size + size ≤ cs.length:=by
          rw [hl,Nat.add_mul,Nat.add_mul,Nat.one_mul]; omega
        simp only [Instr.fill]
        rw [if_neg (by simp [h2]; omega),fill_setCells]
        have e3:setCells cs.toArray (i * size) v.cells.toList = (splice cs (i * size) v.cells.toList).toArray:=by
          apply Array.toList_inj.1
          rw [setCells_toList _ _ _ (by simp [h2]; omega)]
          rfl
        rw [e3,fill_partsAll hr (by rw [splice_length (by simp [h2]; omega),hl]; congr 1; omega)]
        congr 2
        rw [← List.append_assoc]; congr 1
        simp only [splice]
        rw [List.take_append_of_le_length (by simp [h2,Nat.add_mul]; omega),List.take_of_length_le (by simp [h2,Nat.add_mul]; omega)]
theorem q_buildA {len : Nat} (T : Ty P t (.array len e) size' bytes' zero') (Te : Ty P e D size bytes zero) {parts : Array (Nat × Operand)} {ps : List (Nat × Value)} {l : List Value} (hp : evParts L parts.toList = some ps) (hl : Nat.beq ps.length len = true) (hz : Nat.beq zero'.cells.toList.length (len * size) = true) (hf : partsAll size 0 ps = some l) :
    Opq P n ⟨d,.build t parts,ty,pos,af,g⟩ L O h (.agg l.toArray):=q_of fun H K E k=>
  o_val (s:=fun a=>Instr.build t (parts.map fun (i,x)=>(i,a.eval x))) (fun _ _=>rfl) (fun a ha=>by
    have e1:(parts.map fun (x:Nat × Operand)=>(x.1,a.eval x.2)) = ps.toArray:=Array.ext' (by rw [Array.toList_map,evParts_map ha hp])
    simp only [e1,Instr.build,slp_bind]
    refine slp_zeroValue T ?_
    refine slp_underlying T.und ?_
    simp only [slp_bind]
    refine slp_sizeOf Te ?_
    have hz':zero'.cells = zero'.cells.toList.toArray:=by simp
    rw [hz']
    have:=fill_partsAll (cs:=zero'.cells.toList) hf (by rw [Nat.eq_of_beq_eq_true hz,Nat.eq_of_beq_eq_true hl]; simp)
    simp only [this]
    rw [slp_pure]
    simpa using k)
theorem c_buildSlice (T : Ty P t (.slice e) size' bytes' zero') (Te : Ty P e D size bytes zero) {len : Nat} {parts : Array (Nat × Operand)} {ps : List (Nat × Value)} {l : List Value} (hp : evParts L parts.toList = some ps) (hl : Nat.beq ps.length len = true) (hs : Nat.ble (len * size) 16777216 = true) (hf : partsAll size 0 ps = some l)
    (k:∀ b,K (.value (.slice (some ⟨b,0,none⟩) len len)) ((b,.cells l.toArray e) :: O) h):opo P n ⟨d,.buildSlice t len parts,ty,pos,af,g⟩ L O h K E:=fun F H r=>fun a ha=>by
    have e1:(parts.map fun (x:Nat × Operand)=>(x.1,a.eval x.2)) = ps.toArray:=Array.ext' (by rw [Array.toList_map,evParts_map ha hp])
    have hs':=Nat.le_of_ble_eq_true hs
    have hl':=Nat.eq_of_beq_eq_true hl
    have ex:execOp a.eval ⟨d,.buildSlice t len parts,ty,pos,af,g⟩ = (do pure (Next.value (← Instr.buildSlice t len (parts.map fun (x:Nat × Operand)=>(x.1,a.eval x.2))))):=rfl
    rw [ex,slp_bind,e1]
    unfold Instr.buildSlice
    rw [slp_bind]
    refine slp_underlying T.und ?_
    simp only []
    rw [slp_bind]
    refine slp_sizeOf Te ?_
    rw [if_neg (by simpa using hs')]
    have fin:∀ z:Array Value,Instr.fill (fun i=>some (i * size,size)) ((Array.range (len * size)).map (z[· % z.size]!)) ps = some l.toArray:=by
      intro z
      generalize hc:((Array.range (len * size)).map (z[· % z.size]!)) = cs
      have hsz:cs.size = len * size:=by rw [← hc]; simp
      have:=fill_partsAll (cs:=cs.toList) hf (by simp [hl',hsz])
      rw [show cs.toList.toArray = cs from by simp] at this
      rw [this]; simp
    by_cases hz:len * size = 0
    · rw [if_pos hz]
      simp only [slp_bind,slp_pure,fin,newRow,newObj]
      exact fun b hb=>lift.here (r.alloc hb _) (k b)
    · rw [if_neg hz]
      simp only [slp_bind]
      refine slp_zeroValue Te ?_
      simp only [slp_bind,slp_pure,fin,newRow,newObj]
      exact fun b hb=>lift.here (r.alloc hb _) (k b)
end
structure Gr (A:Own) (v:Value) (T:TypeId) {α:Type} (E:Flat α) (xs:List α):Prop where
  at':(v = .slice none 0 0∧xs = []∧A = []) ∨ ∃ b cap sp,v = .slice (some ⟨b,0,none⟩) xs.length cap∧A = [(b,.cells (xs.flatMap E.f++sp).toArray T)]∧(xs.flatMap E.f++sp).length = cap * E.sz∧xs.length ≤ cap
theorem Gr.nil (T:TypeId) {α:Type} (E:Flat α):Gr [] (.slice none 0 0) T E []:=⟨.inl ⟨rfl,rfl,rfl⟩⟩
theorem flat_length {α:Type} (E:Flat α) (xs:List α):(xs.flatMap E.f).length = xs.length * E.sz:=by
  induction xs with
  | nil=>simp
  | cons x xs ih=>rw [List.flatMap_cons,List.length_append,ih,E.len,List.length_cons,Nat.add_mul]; omega
theorem flat_cells {H:PHeap} {α:Type} {E:Flat α} {b:Nat}:∀ {ys:List α} {o:Nat},(∀ i x,ys[i]? = some x→Cells H ⟨b,o + i * E.sz,none⟩ (E.f x))→Cells H ⟨b,o,none⟩ (ys.flatMap E.f)
  | [],o,_=>fun j v e=>by simp at e
  | y :: ys,o,h=>fun j v e=>by
    rw [List.flatMap_cons] at e
    rw [add_none]
    rcases Nat.lt_or_ge j (E.f y).length with hj | hj
    · rw [List.getElem?_append_left hj] at e
      have:=h 0 y rfl j v e
      rw [add_none] at this
      simpa using this
    · rw [List.getElem?_append_right hj] at e
      have:=flat_cells (ys:=ys) (o:=o + E.sz) (fun i x hx=>by
        have:=h (i + 1) x (by simpa using hx)
        rwa [Nat.add_mul,Nat.one_mul,Nat.add_comm (i * E.sz),← Nat.add_assoc] at this) (j - (E.f y).length) v e
      rw [add_none,E.len] at this
      rw [E.len] at hj
      rwa [show o + E.sz + (j - E.sz) = o + j by omega] at this
theorem cells_flat {H:PHeap} {α:Type} {E:Flat α} {b:Nat}:∀ {ys:List α} {o:Nat},Cells H ⟨b,o,none⟩ (ys.flatMap E.f)→∀ i x,ys[i]? = some x→Cells H ⟨b,o + i * E.sz,none⟩ (E.f x)
  | [],o,_,i,x,e=>by simp at e
  | y :: ys,o,h,i,x,e=>fun j v ev=>by
    rw [List.flatMap_cons] at h
    cases i with
    | zero=>
      obtain rfl:y = x:=by simpa using e
      have hj:j < (E.f y).length:=by
        rcases Nat.lt_or_ge j (E.f y).length with h | h
        · exact h
        · rw [List.getElem?_eq_none h] at ev; cases ev
      have:=h j v (by rw [List.getElem?_append_left hj]; exact ev)
      simpa using this
    | succ i=>
      have:=cells_flat (ys:=ys) (o:=o + E.sz) (fun j v ev=>by
        have:=h (E.sz + j) v (by rw [List.getElem?_append_right (by rw [E.len]; omega),E.len,Nat.add_sub_cancel_left]; exact ev)
        rw [add_none] at this ⊢
        rwa [Nat.add_assoc]) i x (by simpa using e) j v ev
      rwa [show o + E.sz + i * E.sz = o + (i + 1) * E.sz by rw [Nat.add_mul]; omega] at this
def Src (h:PHeap) (R:Own) (u:Value) (m:Nat) (news:List Value):Prop:=∀ F H,Rel F h R H→(u = .slice none 0 0∧m = 0) ∨ ∃ ad c,u = .slice (some ad) m c∧Cells H ad news
theorem src_own {h:PHeap} {R:Own} {b m c:Nat} {l:List Value} {T:TypeId} {fr:Nat × Nat} (o:OwnAt R b (.cells l.toArray T fr)):Src h R (.slice (some ⟨b,0,none⟩) m c) m l:=fun F H r=>
  .inr ⟨_,_,rfl,fun j v e=>by rw [add_none,cell_of (r.own _ _ o.mem).1]; simpa using e⟩
theorem src_base {h:PHeap} {R:Own} {u:Value} {α:Type} {E:Flat α} {ys:List α} (s:Sl h u E ys):Src h R u ys.length (ys.flatMap E.f):=fun F H r=>by
  rcases s.reads with ⟨a,rfl,rfl⟩ | ⟨cap,a,_,c⟩
  · cases a with
    | none=>exact .inl ⟨rfl,rfl⟩
    | some a=>exact .inr ⟨_,_,rfl,fun j v e=>by simp at e⟩
  · exact .inr ⟨_,_,a,flat_cells fun i x hx=>(c i x hx).le r.base⟩
theorem src_gr {h:PHeap} {R B:Own} {u:Value} {T:TypeId} {α:Type} {E:Flat α} {ys:List α} (g:Gr B u T E ys) (hs:∀ x ∈ B,x ∈ R):Src h R u ys.length (ys.flatMap E.f):=fun F H r=>by
  rcases g.at' with ⟨rfl,rfl,rfl⟩ | ⟨b,cap,sp,rfl,rfl,h1,h2⟩
  · exact .inl ⟨rfl,rfl⟩
  · refine .inr ⟨_,_,rfl,fun j v e=>?_⟩
    rw [add_none,cell_of (r.own b (.cells (ys.flatMap E.f++sp).toArray T) (hs _ (by simp))).1]
    have hj:j < (ys.flatMap E.f).length:=by
      rcases Nat.lt_or_ge j (ys.flatMap E.f).length with h | h
      · exact h
      · rw [List.getElem?_eq_none h] at e; cases e
    simp only [Nat.zero_add,List.getElem?_toArray]
    rw [List.getElem?_append_left hj]; exact e
theorem Gr.sl {A:Own} {v:Value} {T:TypeId} {α:Type} {E:Flat α} {xs:List α} (g:Gr A v T E xs) (hs:xs.length ≤ 281474976710656) {F h H:PHeap} {R:Own} (r:Rel F h (A++R) H):∃ h',Up F h h'∧Rel F h' R H∧Sl h' v E xs:=by
  rcases g.at' with ⟨rfl,rfl,rfl⟩ | ⟨b,cap,sp,rfl,rfl,h1,h2⟩
  · exact ⟨h,Up.refl _ _,r,Sl.nil _ _⟩
  · obtain ⟨r2,u⟩:=Rel.pub (O:=R) r
    refine ⟨_,u,r2,hs,.inr ⟨cap,rfl,h2,?_⟩⟩
    refine cells_flat (fun j v e=>?_)
    rw [add_none]
    have e0:(h.put b (.cells (xs.flatMap E.f++sp).toArray T)).obj b = some (.cells (xs.flatMap E.f++sp).toArray T):=obj_put _ _ _
    simp only [vo,vb]
    rw [cell_of e0]
    have hj:j < (xs.flatMap E.f).length:=by
      rcases Nat.lt_or_ge j (xs.flatMap E.f).length with h | h
      · exact h
      · rw [List.getElem?_eq_none h] at e; cases e
    simp only [Nat.zero_add,List.getElem?_toArray]
    rw [List.getElem?_append_left hj]; exact e
section
variable {P:Program} {M:Jdg→Prop} [hM:IsCl P M] {n:Nat} {Q:Qo} {ops:Array Oper} {rest:List Oper} {L:Locals} {O R A:Own} {h:PHeap} {d:Option Nat} {ty:TypeId} {pos:String} {af:Array Edge} {g:Option (Nat × Bool)}
  {t e:TypeId} {D D':TypeDesc} {size bytes size' bytes':Nat} {zero zero':Value} {K:Next→Own→PHeap→Prop} {E:Value→Own→PHeap→Prop} {α:Type} {fl:Flat α}
omit hM in
theorem slp_askRoom {H:PHeap} {Kk:Unit→PHeap→Prop} {Ee:Value→PHeap→Prop} (b:Nat) (k:Kk () H):(askRoom b).slp P Kk Ee H:=by
  unfold askRoom
  split
  · exact ⟨.inr rfl,k⟩
  · exact k
omit hM in
theorem slp_firstCells {H:PHeap} {Kk:Array Value→PHeap→Prop} {Ee:Value→PHeap→Prop} {u:Value} {m sz:Nat} {news:List Value} (hl:news.length = m * sz) (hs:(u = .slice none 0 0∧m = 0) ∨ ∃ ad c,u = .slice (some ad) m c∧Cells H ad news) (k:Kk news.toArray H):(Builtin.firstCells sz m u).slp P Kk Ee H:=by
  rcases hs with ⟨rfl,rfl⟩ | ⟨ad,c,rfl,hc⟩
  · obtain rfl:news = []:=by apply List.eq_nil_of_length_eq_zero; omega
    exact k
  · exact slp_loadCells hl.symm hc k
omit hM in
theorem slp_append {H : PHeap} {Kk : Value → PHeap → Prop} {Ee : Value → PHeap → Prop} (S : Ty P t (.slice e) size' bytes' zero') (Te : Ty P e D size bytes zero) (hz : zero.cells.size = size) {ty : TypeId} {base : Option Addr} {sLen sCap m : Nat} {u : Value} {olds news : List Value}
    (ho:olds.length = sLen * size) (hn:news.length = m * size) (hold:(base = none∧sLen = 0∧sCap = 0) ∨ ∃ b,base = some ⟨b,0,none⟩∧Cells H ⟨b,0,none⟩ olds) (hu:(u = .slice none 0 0∧m = 0) ∨ ∃ ad c,u = .slice (some ad) m c∧Cells H ad news)
    (hb:(sLen + m) * bytes ≤ 140737488355328) (h63:sLen + m ≤ 4611686018427387904)
    (inPlace:sLen + m ≤ sCap→(∀ b,base = some ⟨b,0,none⟩→(storeCells ⟨b,0 + sLen * size,none⟩ news).slp P (fun _ H'=>Kk (.slice base (sLen + m) sCap) H') Ee H)∧(base = none→Kk (.slice base (sLen + m) sCap) H))
    (grown:∀ b cap rest,sLen + m ≤ cap→rest.length = (cap - (sLen + m)) * size→H.obj b = none→Kk (.slice (some ⟨b,0,none⟩) (sLen + m) cap) (H.put b (.cells (olds++news++rest).toArray e))) :
    (Builtin.append_ #[t,t] ty #[.slice base sLen sCap,u]).slp P Kk Ee H:=by
  unfold Builtin.append_
  simp only [List.getElem?_toArray,List.getElem?_cons_zero,List.getElem?_cons_succ]
  rw [slp_bind]
  refine slp_underlying S.und ?_
  simp only []
  rw [slp_bind]
  refine slp_sizeOf Te ?_
  rw [slp_bind]
  refine slp_underlying S.und ?_
  simp only []
  rw [slp_bind,slp_pure]
  simp only [Bool.false_eq_true,if_false,Bool.not_false,if_true,false_or]
  rw [slp_bind]
  have hlen:(Builtin.lenOf u).slp P (fun k H'=>k = m∧H' = H) Ee H:=by
    rcases hu with ⟨rfl,rfl⟩ | ⟨ad,c,rfl,_⟩ <;> exact ⟨rfl,rfl⟩
  refine slp_mono ?_ (fun _ _ y=>y) hlen
  rintro k H' ⟨rfl,rfl⟩
  by_cases hle:sLen + k ≤ sCap
  · rw [if_pos hle]
    rw [slp_bind]
    refine slp_firstCells hn hu ?_
    obtain ⟨i1,i2⟩:=inPlace hle
    rcases hold with ⟨rfl,_,_⟩ | ⟨b,rfl,_⟩
    · simp only [slp_pure]
      exact i2 rfl
    · simp only [slp_bind,add_none]
      refine slp_mono (fun _ H'' y=>y) (fun _ _ y=>y) (i1 b rfl)
  · rw [if_neg hle]
    obtain ⟨i,i1,i2,i3,i4⟩:=Te.get
    rw [slp_bind]
    refine slp_typeInfo i1 ?_
    have e63:IntKind.i64.max = 9223372036854775807:=by decide
    rw [if_neg (by rw [e63]; omega)]
    rw [slp_bind]
    refine slp_typeInfo i1 ?_
    have hfit:=growslice_fits (bytes:=bytes) (show sCap < sLen + k by omega) hb
    rw [if_neg (by rw [i3]; omega)]
    rw [slp_bind]
    show Sem.slp P _ Ee (choose (Question.appendCap (sLen + k) sCap e)) H'
    simp only [choose,Sem.slp,Question.forced,Bool.false_eq_true,if_false]
    intro tp
    generalize hcap:(Question.appendCap (sLen + k) sCap e).cut tp = newCap
    have hge:sLen + k ≤ newCap:=by rw [← hcap]; exact Nat.le_add_right _ _
    rw [slp_bind]
    refine slp_typeInfo i1 ?_
    rw [slp_bind]
    refine slp_askRoom _ ?_
    rw [slp_bind]
    refine slp_firstCells ho (by
      rcases hold with ⟨rfl,rfl,rfl⟩ | ⟨b,rfl,hc⟩
      · exact .inl ⟨rfl,rfl⟩
      · exact .inr ⟨_,_,rfl,hc⟩) ?_
    rw [slp_bind]
    refine slp_firstCells hn hu ?_
    rw [slp_bind]
    refine slp_zeroValue Te ?_
    simp only [slp_bind,slp_pure,newRow,newObj]
    intro b hfree
    have:=grown b newCap (Builtin.zeroCells zero.cells (newCap - (sLen + k))).toList hge (by simp [size_zeroCells,hz]) hfree
    have e2:(olds.toArray++news.toArray++Builtin.zeroCells zero.cells (newCap - (sLen + k))) = (olds++news++(Builtin.zeroCells zero.cells (newCap - (sLen + k))).toList).toArray:=by apply Array.toList_inj.1; simp
    rw [e2]; exact this
theorem c_append {args : Array Operand} {ats : Array TypeId} {v u : Value} {xs ys : List α} (hv : evAll L args.toList = some [v, u]) (ht : ats = #[t, t]) (S : Ty P t (.slice e) size' bytes' zero') (Te : Ty P e D size bytes zero) (hz : zero.cells.size = size) (gr : Gr A v e fl xs) (hO : O.Perm (A ++ R)) (hsz : fl.sz = size)
    (src:Src h R u ys.length (ys.flatMap fl.f)) (one:∀ y ∈ ys,allOne (fl.f y) = true) (hb:(xs.length + ys.length) * bytes ≤ 140737488355328) (h63:xs.length + ys.length ≤ 4611686018427387904) (k:∀ v' A',Gr A' v' e fl (xs++ys)→K (.value v') (A'++R) h) :
    opo P n ⟨d,.call { callee:=.builtin .append,args,argTypes:=ats },ty,pos,af,g⟩ L O h K E:=fun F H r a ha=>by
  subst ht
  have r0:=r.perm hO.symm
  have rR:Rel F h R H:=r0.drop (List.sublist_append_right _ _)
  have hone:∀ w ∈ ys.flatMap fl.f,isOne w = true:=fun w hw=>by
    obtain ⟨y,hy,hw⟩:=List.mem_flatMap.1 hw
    exact List.all_eq_true.1 (one y hy) w hw
  refine o_builtin (s:=Builtin.append_ #[t,t] ty [v,u].toArray) hv (fun _=>rfl) ?_ a ha
  rcases gr.at' with ⟨rfl,rfl,rfl⟩ | ⟨b,cap,sp,rfl,rfl,h1,h2⟩
  · refine slp_append S Te hz (olds:=[]) (news:=ys.flatMap fl.f) (by simp) (by rw [flat_length,hsz]) (.inl ⟨rfl,rfl,rfl⟩) (src F H rR) (by simpa using hb) (by simpa using h63) (fun hle=>⟨fun b hb=>(by cases hb),fun _=>?_⟩) (fun b cap rest hc hr hfree=>?_)
    · obtain rfl:ys = []:=List.eq_nil_of_length_eq_zero (by omega)
      exact lift.here r0 (k _ [] (Gr.nil _ _))
    · refine lift.here (r0.alloc hfree _) (k _ [(b,_)] ⟨.inr ⟨b,cap,rest,by simp,by simp,?_,by simpa using hc⟩⟩)
      simp only [List.nil_append,List.length_append,flat_length,hsz,hr]
      rw [← Nat.add_mul]; congr 1; omega
  · obtain ⟨o1,o2,_⟩:=r0.own b (.cells (xs.flatMap fl.f++sp).toArray e) (by simp)
    have hcap:(xs.flatMap fl.f++sp).length = cap * size:=by rw [h1,hsz]
    have hlx:(xs.flatMap fl.f).length = xs.length * size:=by rw [flat_length,hsz]
    have hly:(ys.flatMap fl.f).length = ys.length * size:=by rw [flat_length,hsz]
    refine slp_append S Te hz (olds:=xs.flatMap fl.f) (news:=ys.flatMap fl.f) hlx hly (.inr ⟨b,rfl,fun j w hw=>?_⟩) (src F H rR) hb h63 (fun hle=>⟨fun b' hb'=>?_,fun hh=>by cases hh⟩) (fun b' cap' rest hc hr hfree=>?_)
    · rw [add_none,cell_of o1]
      have hj:j < (xs.flatMap fl.f).length:=by
        rcases Nat.lt_or_ge j (xs.flatMap fl.f).length with h | h
        · exact h
        · rw [List.getElem?_eq_none h] at hw; cases hw
      simp only [Nat.zero_add,List.getElem?_toArray]
      rw [List.getElem?_append_left hj]; exact hw
    · cases hb'
      have hfitc:xs.length * size + ys.length * size ≤ cap * size:=by rw [← Nat.add_mul]; exact Nat.mul_le_mul_right _ hle
      refine slp_storeCells (ys.flatMap fl.f) (0 + xs.length * size) 0 _ H o1 o2 (by rw [List.size_toArray,hcap,hly]; omega) hone (.inl (Nat.zero_le _)) ?_
      have e1:setCells (xs.flatMap fl.f++sp).toArray (0 + xs.length * size + 0) (ys.flatMap fl.f) = ((xs++ys).flatMap fl.f++sp.drop (ys.length * size)).toArray:=by
        apply Array.toList_inj.1
        rw [setCells_toList _ _ _ (by rw [List.size_toArray,hcap,hly]; omega)]
        simp only [Nat.zero_add,Nat.add_zero,List.flatMap_append]
        rw [← hlx,List.take_left,hly,hlx,List.drop_append]
        rw [List.drop_of_length_le (by rw [hlx]; omega),hlx]
        simp
      rw [e1]
      refine lift.here (Rel.set (pre:=[]) (post:=R) r0 _) (k _ [(b,_)] ⟨.inr ⟨b,cap,sp.drop (ys.length * size),by simp,rfl,?_,by simpa using hle⟩⟩)
      rw [List.length_append] at hcap
      rw [List.length_append,flat_length,List.length_append,List.length_drop,hsz,Nat.add_mul]
      omega
    · refine lift.here ((r0.drop (List.sublist_append_right _ _)).alloc hfree _) (k _ [(b',_)] ⟨.inr ⟨b',cap',rest,by simp,by simp,?_,by simpa using hc⟩⟩)
      simp only [List.length_append,hlx,hly,flat_length,hsz,hr]
      rw [← Nat.add_mul]; congr 1; omega
end
def isNilS:Value→Bool
  | .slice none _ _=>true
  | _=>false
theorem isNilS_nil {h:PHeap} {v:Value} {α:Type} {E:Flat α} {xs:List α} (s:Sl h v E xs) (e:isNilS v = true):xs = []∧v = .slice none 0 0:=by
  rcases s.reads with ⟨x,a,b⟩ | ⟨cap,a,_⟩
  · cases x with
    | none=>exact ⟨b,a⟩
    | some x=>rw [a] at e; cases e
  · rw [a] at e; cases e
theorem gr_lit {b m:Nat} {l:List Value} {T:TypeId} {α:Type} {E:Flat α} {xs:List α} (h1:l = xs.flatMap E.f) (h2:m = xs.length):Gr [(b,.cells l.toArray T)] (.slice (some ⟨b,0,none⟩) m m) T E xs:=by
  subst h1 h2
  exact ⟨.inr ⟨b,xs.length,[],rfl,by simp,by rw [List.append_nil,flat_length],Nat.le_refl _⟩⟩
section
variable {P:Program} {M:Jdg→Prop} [hM:IsCl P M] {n:Nat} {Q:Qo} {ops:Array Oper} {rest:List Oper} {L:Locals} {O R A:Own} {h:PHeap} {d:Option Nat} {ty:TypeId} {pos:String} {af:Array Edge} {g:Option (Nat × Bool)}
  {t e:TypeId} {D D':TypeDesc} {size bytes size' bytes':Nat} {zero zero':Value} {K:Next→Own→PHeap→Prop} {E:Value→Own→PHeap→Prop} {α:Type} {fl:Flat α} {x y:Operand} {t':TypeId}
theorem op_buildSlice (T : Ty P t (.slice e) size' bytes' zero') (Te : Ty P e D size bytes zero) {len : Nat} {parts : Array (Nat × Operand)} {ps : List (Nat × Value)} {l : List Value} (hp : evParts L parts.toList = some ps) (hl : Nat.beq ps.length len = true) (hs : Nat.ble (len * size) 16777216 = true) (hf : partsAll size 0 ps = some l)
    (k:∀ b,soOps P M n ops Q rest (setL d (.slice (some ⟨b,0,none⟩) len len) L) ((b,.cells l.toArray e) :: O) h) (hd:dstOk n d = true:=by rfl):soOps P M n ops Q (⟨d,.buildSlice t len parts,ty,pos,af,none⟩ :: rest) L O h:=
  so_plain rfl hd (c_buildSlice T Te hp hl hs hf k)
theorem op_append {args : Array Operand} {ats : Array TypeId} {v u : Value} {xs ys : List α} (hv : evAll L args.toList = some [v, u]) (ht : ats = #[t, t]) (S : Ty P t (.slice e) size' bytes' zero') (Te : Ty P e D size bytes zero) (hz : zero.cells.size = size) (gr : Gr A v e fl xs) (hO : O.Perm (A ++ R)) (hsz : fl.sz = size)
    (src:Src h R u ys.length (ys.flatMap fl.f)) (one:∀ y ∈ ys,allOne (fl.f y) = true) (hb:(xs.length + ys.length) * bytes ≤ 140737488355328) (h63:xs.length + ys.length ≤ 4611686018427387904)
    (k:∀ v' A',Gr A' v' e fl (xs++ys)→soOps P M n ops Q rest (setL d v' L) (A'++R) h) (hd:dstOk n d = true:=by rfl) :
    soOps P M n ops Q (⟨d,.call { callee:=.builtin .append,args,argTypes:=ats },ty,pos,af,none⟩ :: rest) L O h:=
  so_plain rfl hd (c_append hv ht S Te hz gr hO hsz src one hb h63 k)
omit hM in
theorem slp_eqNil {H : PHeap} {Kk : Value → PHeap → Prop} {Ee : Value → PHeap → Prop} (op : BinOp) (hop : op = .eql ∨ op = .neq) (S : Ty P t (.slice e) size bytes zero) {base : Option Addr} {len cap : Nat} (x y : Operand)
    (k:Kk (.bool (if op = .eql then base.isNone else !base.isNone)) H):(do eqGuard op t x y (.slice base len cap) (.slice none 0 0); binOp op t (.slice base len cap) (.slice none 0 0):Sem Value).slp P Kk Ee H:=by
  have e1:Sem.slp P (fun (b:Bool) H'=>b = base.isNone∧H' = H) Ee (Op.equal t (.slice base len cap) (.slice none 0 0)) H:=by
    unfold Op.equal Op.maxDepth
    rw [show (10000:Nat) = 9999 + 1 from rfl]
    unfold Op.equalIn
    rw [slp_bind]
    refine slp_underlying S.und ?_
    cases base <;> exact ⟨rfl,rfl⟩
  rcases hop with rfl | rfl
  · have eg:eqGuard .eql t x y (.slice base len cap) (.slice none 0 0) = pure ():=rfl
    rw [eg,slp_bind,slp_pure]
    simp only [binOp]
    rw [slp_bind]
    refine slp_mono ?_ (fun _ _ y=>y) e1
    rintro b H' ⟨rfl,rfl⟩
    rw [slp_pure]
    simpa using k
  · have eg:eqGuard .neq t x y (.slice base len cap) (.slice none 0 0) = pure ():=rfl
    rw [eg,slp_bind,slp_pure]
    simp only [binOp]
    rw [slp_bind]
    refine slp_mono ?_ (fun _ _ y=>y) e1
    rintro b H' ⟨rfl,rfl⟩
    rw [slp_pure]
    simpa using k
omit hM in
theorem q_eqNil {v:Value} {xs:List α} (S:Ty P t (.slice e) size bytes zero) (hx:ev L x = some v) (hy:ev L y = some (.slice none 0 0)) (s:Sl h v fl xs):Opq P n ⟨d,.binOp .eql t x y t',ty,pos,af,g⟩ L O h (.bool (isNilS v)):=by
  obtain ⟨base,cap,rfl⟩:=s.val
  refine q_of fun H K E k=>o_val (s:=fun a=>do eqGuard .eql t x y (a.eval x) (a.eval y); binOp .eql t (a.eval x) (a.eval y)) (fun _ _=>rfl) fun a ha=>?_
  rw [ha.ev hx,ha.ev hy]
  refine slp_eqNil .eql (.inl rfl) S x y ?_
  cases base <;> exact k
end
end Go.Sl
namespace Go.Sl
open Go Go.Conc
class BAt (h:PHeap) (b:Nat) (o:outParam Obj):Prop where
  at':h.obj b = some o
instance BAt.up {h h':PHeap} {b:Nat} {o:Obj} [l:Le h h'] [x:BAt h b o]:BAt h' b o:=⟨(l.le b o x.at').1⟩
theorem cell_sub {h h':PHeap} (l:∀ b o,h.obj b = some o→h'.obj b = some o) {a:Addr} {v:Value} (e:h.cell a = some v):h'.cell a = some v:=by
  obtain ⟨o,ho⟩:=cell_obj e
  unfold PHeap.cell at e ⊢
  rw [l _ _ ho,← ho]; exact e
theorem Cells.sub {h h':PHeap} (l:∀ b o,h.obj b = some o→h'.obj b = some o) {a:Addr} {cs:List Value} (c:Cells h a cs):Cells h' a cs:=fun j v e=>cell_sub l (c j v e)
theorem Sl.sub {h h':PHeap} (l:∀ b o,h.obj b = some o→h'.obj b = some o) {v:Value} {α:Type} {E:Flat α} {xs:List α} (s:Sl h v E xs):Sl h' v E xs:=
  ⟨s.small,s.reads.imp id fun ⟨cap,a,b,c⟩=>⟨cap,a,b,fun i x e=>(c i x e).sub l⟩⟩
section
variable {P:Program} {M:Jdg→Prop} [hM:IsCl P M] {n:Nat} {Q:Qo} {L:Locals} {O R:Own} {h:PHeap} {ops:Array Oper} {rest:List Oper} {d:Option Nat} {ty:TypeId} {pos:String} {af:Array Edge} {g:Option (Nat × Bool)} {x:Operand}
  {t:TypeId} {D:TypeDesc} {size bytes:Nat} {zero:Value}
omit hM in
theorem q_loadB (T : Ty P t D size bytes zero) {b off : Nat} {c : Array Value} {T' : TypeId} {fr : Nat × Nat} {cs : List Value} (hx : ev L x = some (.pointer (some ⟨b, off, none⟩))) (m : BAt h b (.cells c T' fr)) (hcs : takeCells c off size = some cs) (h1 : loadOk D size = true) :
    Opq P n ⟨d,.load t x,ty,pos,af,g⟩ L O h (ofCells D cs):=fun F H r=>
  o_loadB hx ((r.base b _ m.at').1) hcs h1 (lift.here r ⟨rfl,rfl,rfl⟩)
theorem op_callv {fo : Operand} {f : FuncId} (Fu : Fun P f) {first captured : Array Value} {args : Array Operand} {ats : Array TypeId} {vs : List Value} {RR : Value → Own → PHeap → Prop} {A : Own} (hf : ev L fo = some (.func (.func f) first captured)) (C : CallO P M f (first.toList ++ vs ++ captured.toList) A h RR) (hp : O.Perm (A ++ R)) (hv : evAll L args.toList = some vs)
    (k:∀ v A' h',Le h h'→RR v A' h'→soOps P M n ops Q rest (setL d v L) (A'++R) h') (hd:dstOk n d = true:=by rfl):soOps P M n ops Q (⟨d,.call { callee:=.value fo,args,argTypes:=ats },ty,pos,af,none⟩ :: rest) L O h:=
  so_plain rfl hd fun F H r=>o_callv hf hv (lift.here r ⟨A,R,hp,by simpa using CallsP.mono C (fun v O h' l x=>k v O h' l x) (fun _ _ _ _ x=>x.elim)⟩)
end
theorem sl_of_so {P : Program} {M : Jdg → Prop} {n : Nat} {c : Code} {Qo' : Qo} {Q : Qt} {L : Locals} {B H : PHeap} (x : c.so P M n Qo' L [] B) (hB : B ≤ H) (hg : H.gh = B.gh)
    (k:∀ e L' A h' H',Le B h'→Qo' e L' A h'→Rel ⟨fun _=>none,fun _=>false,[]⟩ h' A H'→Q e L' H'):c.sl P M n Q L H:=
  sl_mono (x ⟨fun _=>none,fun _=>false,[]⟩ H ⟨fun _ _ e=>(by cases e),hB,fun _ _ m=>(by cases m),List.nodup_nil,hg⟩) fun e L' H' ⟨A,h',u,r,q⟩=>k e L' A h' H' ⟨u.le,u.gh⟩ q r
end Go.Sl
namespace Go.Sl
open Go Go.Conc PHeap
theorem Rel.low {F h h' H:PHeap} {O:Own} (r:Rel F h' O H) (l:h ≤ h') (g:h'.gh = h.gh):Rel F h O H:=
  ⟨r.fr,le_trans l r.base,fun b o m=>⟨(r.own b o m).1,(r.own b o m).2.1,(r.own b o m).2.2.1,le_none l (r.own b o m).2.2.2⟩,r.nd,r.gh.trans g⟩
abbrev Qf:=Ex→Locals→Own→Prop
def fix {α:Type} (F h:PHeap) (K:α→Own→Prop) (r:α) (H:PHeap):Prop:=∃ O,Rel F h O H∧K r O
def fixQ (F h:PHeap) (Q:Qf):Qt:=fun e L H=>∃ O,Rel F h O H∧Q e L O
def _root_.Go.Code.sf (P:Program) (M:Jdg→Prop) (n:Nat) (c:Code) (Q:Qf) (L:Locals) (O:Own) (h:PHeap):Prop:=
  ∀ F H,Rel F h O H→c.sl P M n (fixQ F h Q) L H
def sfOps (P:Program) (M:Jdg→Prop) (n:Nat) (ops:Array Oper) (Q:Qf) (rest:List Oper) (L:Locals) (O:Own) (h:PHeap):Prop:=
  ∀ F H,Rel F h O H→slList P M n ops (fixQ F h Q) rest L H
def CallF (P:Program) (M:Jdg→Prop) (f:FuncId) (args:List Value) (A:Own) (h:PHeap) (R:Value→Own→Prop) (E:List PanicEntry→Own→Prop:=fun _ _=>False):Prop:=
  ∀ F H,Rel F h A H→CallsE P M f args.toArray H (fix F h R) (fix F h E)
def CallV (P:Program) (M:Jdg→Prop) (f:FuncId) (args:List Value) (h:PHeap) (v:Value):Prop:=CallF P M f args [] h fun v' A=>v' = v∧A = []
def thenF (K:Locals→Own→Prop) (Q:Qf):Qf:=fun e L O=>match e with
  | .nrm=>K L O
  | e=>Q e L O
class TakeL (O A:Own) (R:outParam Own):Prop where
  p:O.Perm (A++R)
instance TakeL.all {A:Own}:TakeL A A []:=⟨by simp⟩
instance TakeL.head {A X:Own}:TakeL (A++X) A X:=⟨.refl _⟩
instance TakeL.right {A X Y R:Own} [t:TakeL X A R]:TakeL (Y++X) A (Y++R):=⟨(t.p.append_left Y).trans (by
  rw [← List.append_assoc,← List.append_assoc]; exact List.perm_append_comm.append_right R)⟩
instance TakeL.left {A X Y R:Own} [t:TakeL X A R]:TakeL (X++Y) A (R++Y):=⟨by
  rw [← List.append_assoc]; exact t.p.append_right Y⟩
instance TakeL.tail {A X R:Own} {x:Nat × Obj} [t:TakeL X A R]:TakeL (x :: X) A (x :: R):=⟨(t.p.cons x).trans List.perm_middle.symm⟩
class Sp (O A:Own) (R:outParam Own):Prop where
  p:O.Perm (A++R)
instance (priority:=low) Sp.atom {O A R:Own} [t:TakeL O A R]:Sp O A R:=⟨t.p⟩
instance Sp.nil {O:Own}:Sp O [] O:=⟨.refl _⟩
instance Sp.cons {O A R S:Own} {b:Nat} {o:Obj} [t:Take O b o S] [s:Sp S A R]:Sp O ((b,o) :: A) R:=⟨t.p.trans (s.p.cons _)⟩
instance Sp.app {O A B R S:Own} [t:Sp O A S] [s:Sp S B R]:Sp O (A++B) R:=⟨by
  rw [List.append_assoc]; exact t.p.trans (s.p.append_left A)⟩
class InB (h:PHeap) (A:Own):Prop where
  at':∀ b o,(b,o) ∈ A→h.obj b = some o
instance InB.up {h h':PHeap} {A:Own} [l:Le h h'] [x:InB h A]:InB h' A:=⟨fun b o m=>(l.le b o (x.at' b o m)).1⟩
section
variable {P:Program} {M:Jdg→Prop} [hM:IsCl P M] {n:Nat} {Q Q':Qf} {L L':Locals} {O O' R A B:Own} {h:PHeap}
omit hM in
theorem fix.here {α:Type} {F:PHeap} {K:α→Own→Prop} {r:α} {H:PHeap} (x:Rel F h O H) (k:K r O):fix F h K r H:=⟨O,x,k⟩
omit hM in
theorem sf_mono {c:Code} (x:c.sf P M n Q L O h) (hq:∀ e L O,Q e L O→Q' e L O):c.sf P M n Q' L O h:=
  fun F H r=>sl_mono (x F H r) fun e L H ⟨O,y,z⟩=>⟨O,y,hq e L O z⟩
omit hM in
theorem sf_sub {c:Code} (L':Locals) (hs:L'.sub L) (x:c.sf P M n Q L' O h):c.sf P M n Q L O h:=fun F H r=>sl_sub (x F H r) hs
omit hM in
theorem sf_own {c:Code} (O':Own) [s:Sp O O' R] (x:c.sf P M n Q L O' h):c.sf P M n Q L O h:=fun F H r=>
  x F H ((r.perm s.p.symm).drop (List.sublist_append_left _ _))
omit hM in
theorem fops_own {ops:Array Oper} {rest:List Oper} (O':Own) [s:Sp O O' R] (x:sfOps P M n ops Q rest L O' h):sfOps P M n ops Q rest L O h:=fun F H r=>
  x F H ((r.perm s.p.symm).drop (List.sublist_append_left _ _))
omit hM in
theorem fops_sub {ops:Array Oper} {rest:List Oper} (L':Locals) (hs:L'.sub L) (x:sfOps P M n ops Q rest L' O h):sfOps P M n ops Q rest L O h:=fun F H r=>list_sub (x F H r) hs
omit hM in
theorem sf_of_so {c:Code} (x:c.so P M n (fun e L O _=>Q e L O) L O h):c.sf P M n Q L O h:=fun F H r=>
  sl_mono (x F H r) fun e L H ⟨O,h',u,rel,y⟩=>⟨O,rel.low u.le u.gh,y⟩
omit hM in
theorem so_of_sf {c:Code} (x:c.sf P M n Q L O h):c.so P M n (fun e L O _=>Q e L O) L O h:=fun F H r=>
  sl_mono (x F H r) fun e L H ⟨O,rel,y⟩=>⟨O,h,Up.refl _ _,rel,y⟩
omit hM in
theorem callsP_of {f:FuncId} {vs:List Value} {RF:Value→Own→Prop} {EF:List PanicEntry→Own→Prop} (x:CallF P M f vs A h RF EF):CallsP P M f vs A h (fun v O h'=>h' = h∧RF v O) (fun v O h'=>h' = h∧EF v O):=fun F H r=>
  CallsE.mono (x F H r) (fun v H' ⟨O,y,z⟩=>⟨O,h,Up.refl _ _,y,rfl,z⟩) (fun v H' ⟨O,y,z⟩=>⟨O,h,Up.refl _ _,y,rfl,z⟩)
omit hM in
theorem CallF.mono {f:FuncId} {vs:List Value} {RR RR':Value→Own→Prop} {EE EE':List PanicEntry→Own→Prop} (x:CallF P M f vs A h RR EE) (hr:∀ v O,RR v O→RR' v O) (he:∀ v O,EE v O→EE' v O):CallF P M f vs A h RR' EE':=fun F H r=>
  CallsE.mono (x F H r) (fun v H' ⟨O,y,z⟩=>⟨O,y,hr v O z⟩) (fun v H' ⟨O,y,z⟩=>⟨O,y,he v O z⟩)
omit hM in
theorem CallF.to {f:FuncId} {vs:List Value} {RR RR':Value→Own→Prop} {EE:List PanicEntry→Own→Prop} (x:CallF P M f vs A h RR EE) (hr:∀ v O,RR v O→RR' v O):CallF P M f vs A h RR' EE:=x.mono hr fun _ _ y=>y
theorem sf_skip (x:Q .nrm L O):Code.skip.sf P M n Q L O h:=fun F H r=>sl_skip ⟨O,r,x⟩
theorem sf_seq {x y:Code} (p:x.sf P M n (thenF (fun L O=>y.sf P M n Q L O h) Q) L O h):(Code.seq x y).sf P M n Q L O h:=fun F H r=>
  sl_seq (sl_mono (p F H r) fun e L H q=>by
    cases e with
    | nrm=>obtain ⟨O,r',k⟩:=q; exact k F H r'
    | _=>exact q)
theorem sf_cond {c:Operand} {x y:Code} {t:Bool} (hc:ev L c = some (.bool t)) (ht:t = true→x.sf P M n Q L O h) (hf:t = false→y.sf P M n Q L O h):(Code.cond c x y).sf P M n Q L O h:=
  fun F H r=>sl_cond hc (fun e=>ht e F H r) (fun e=>hf e F H r)
theorem sf_if {c:Operand} {x y:Code} {p:Prop} [dp:Decidable p] (ht:p→x.sf P M n Q L O h) (hf:¬p→y.sf P M n Q L O h) (hc:ev L c = some (.bool (decide p)):=by rfl):(Code.cond c x y).sf P M n Q L O h:=
  sf_cond hc (fun e=>ht (of_decide_eq_true e)) (fun e=>hf (of_decide_eq_false e))
theorem sf_ifn {c:Operand} {x y:Code} {p:Prop} [dp:Decidable p] (ht:¬p→x.sf P M n Q L O h) (hf:p→y.sf P M n Q L O h) (hc:ev L c = some (.bool !(decide p)):=by rfl):(Code.cond c x y).sf P M n Q L O h:=
  sf_cond hc (fun e=>ht (by simpa using e)) (fun e=>hf (by simpa using e))
theorem sf_T {c:Operand} {x y:Code} {t:Bool} (hb:t = true) (hx:x.sf P M n Q L O h) (hc:ev L c = some (.bool t):=by rfl):(Code.cond c x y).sf P M n Q L O h:=
  sf_cond hc (fun _=>hx) (fun e=>by rw [hb] at e; cases e)
theorem sf_N {c:Operand} {x y:Code} {t:Bool} (hb:t = false) (hy:y.sf P M n Q L O h) (hc:ev L c = some (.bool t):=by rfl):(Code.cond c x y).sf P M n Q L O h:=
  sf_cond hc (fun e=>by rw [hb] at e; cases e) (fun _=>hy)
def blockF (id:Nat) (Q:Qf):Qf:=fun e L O=>match e with
  | .exit id'=>bif Nat.beq id' id then Q .nrm L O else Q (.exit id') L O
  | e=>Q e L O
theorem sf_block {id:Nat} {c:Code} (x:c.sf P M n (blockF id Q) L O h):(Code.block id c).sf P M n Q L O h:=fun F H r=>
  sl_block (sl_mono (x F H r) fun e L H q=>by
    cases e with
    | exit id'=>
      obtain ⟨O',y,z⟩:=q
      simp only [blockQ]
      simp only [blockF] at z
      by_cases hid:id' = id
      · subst hid; simp only [Nat.beq_refl,cond_true] at z; rw [if_pos rfl]; exact ⟨O',y,z⟩
      · have : Nat.beq id' id = false := by
          cases hb:Nat.beq id' id with
          | true=>exact absurd (Nat.eq_of_beq_eq_true hb) hid
          | false=>rfl
        rw [this] at z
        rw [if_neg hid]; exact ⟨O',y,z⟩
    | _=>exact q)
theorem sf_exit {id:Nat} (x:Q (.exit id) L O):(Code.exit id).sf P M n Q L O h:=fun F H r=>sl_exit ⟨O,r,x⟩
theorem sf_ret (x:Q .ret L O):Code.ret.sf P M n Q L O h:=fun F H r=>sl_ret ⟨O,r,x⟩
theorem sf_loop {ι : Type} {c : Code} (A : ι → Locals → Own → Prop) (μ : ι → Nat) (x0 : ι) (L' : Locals) (O' : Own) (h0 : A x0 L' O') (hs : L'.sub L) [sp : Sp O O' R]
    (round:∀ x L O,A x L O→c.sf P M n (thenF (fun L O=>∃ y L' O',μ y < μ x∧A y L' O'∧L'.sub L∧∃ R,Sp O O' R) Q) L O h):(Code.loop c).sf P M n Q L O h:=by
  intro F H r
  have r':=(r.perm sp.p.symm).drop (List.sublist_append_left _ _)
  have key:=sl_loop (P:=P) (M:=M) (n:=n) (Q:=fixQ F h Q) (c:=c) (L:=L) (h:=H) (ι:=ι × Locals) (Lo:=fun z=>z.2) (A:=fun z H=>∃ O,Rel F h O H∧A z.1 z.2 O) (μ:=fun z=>μ z.1) (x0,L') hs ⟨O',r',h0⟩
  refine key fun z H ⟨O,r',a⟩=>sl_mono (round z.1 z.2 O a F H r') fun e L H q=>?_
  cases e with
  | nrm=>
    obtain ⟨O2,r2,y,L2,O3,h3,h5,h4,R3,s3⟩:=q
    exact ⟨(y,L2),h3,h4,O3,(r2.perm s3.p.symm).drop (List.sublist_append_left _ _),h5⟩
  | _=>exact q
theorem sf_reg {id:Nat} {l:List Oper} (x:sfOps P M n l.toArray Q l L O h):(Code.region id l.toArray false).sf P M n Q L O h:=fun F H r=>sl_reg (x F H r)
theorem sf_nil {ops:Array Oper} (x:Q .nrm L O):sfOps P M n ops Q [] L O h:=fun F H r=>l_nil ⟨O,r,x⟩
def nextF (P:Program) (M:Jdg→Prop) (n:Nat) (ops:Array Oper) (Q:Qf) (rest:List Oper) (L:Locals) (d:Option Nat) (h:PHeap) (r:Next) (O:Own) (h':PHeap):Prop:=
  h' = h∧match r with
  | .value v=>sfOps P M n ops Q rest (setL d v L) O h
  | .skip=>sfOps P M n ops Q rest (setL d undef L) O h
  | .enter f args=>∃ A R,O.Perm (A++R)∧CallF P M f args.toList A h (fun v A'=>sfOps P M n ops Q rest (setL d v L) (A'++R) h) (fun ch A'=>Q (.pan ch) L (A'++R))
  | _=>False
def panF (Q:Qf) (L:Locals):Value→Own→PHeap→Prop:=fun v O _=>Q (.pan [{ v,recovered:=false }]) L O
variable {ops:Array Oper} {rest:List Oper} {o:Oper}
omit hM in
theorem nextF_ok {F H:PHeap} {d:Option Nat} {r:Next} (x:lift F h (nextF P M n ops Q rest L d h) r H):nextL P M n ops (fixQ F h Q) rest L d r H:=by
  obtain ⟨O,h',u,rl,rfl,x⟩:=x
  cases r with
  | value v=>exact x F H rl
  | skip=>exact x F H rl
  | enter f args=>
    obtain ⟨A,R,hp,x⟩:=x
    have rl':=rl.perm hp.symm
    refine CallsE.mono (x _ _ rl'.down.1) (fun v H' q=>?_) (fun ch H' q=>?_)
    · obtain ⟨A',r2,q⟩:=q
      exact q F H' (rl'.back (Up.refl _ _) r2).1
    · obtain ⟨A',r2,q⟩:=q
      exact ⟨_,(rl'.back (Up.refl _ _) r2).1,q⟩
  | _=>exact x.elim
omit hM in
theorem panF_ok {F H:PHeap} {v:Value} (x:lift F h (panF Q L) v H):fixQ F h Q (.pan [{ v,recovered:=false }]) L H:=by
  obtain ⟨O,h',u,rl,x⟩:=x
  exact ⟨O,rl.low u.le u.gh,x⟩
theorem sf_plain (hg:o.guard = none) (hd:dstOk n o.dst = true) (x:opo P n o L O h (nextF P M n ops Q rest L o.dst h) (panF Q L)):sfOps P M n ops Q (o :: rest) L O h:=
  fun F H r=>l_plain hg hd fun a ha=>slp_mono (fun r H' y=>nextF_ok y) (fun v H' y=>panF_ok y) (x F H r a ha)
theorem sf_guard {j dj : Nat} {want b : Bool} (hg : o.guard = some (j, want)) (hd : dstOk n o.dst = true) (hj : (ops[j]?).bind (·.dst) = some dj) (hb : L.get dj = some (.bool b))
    (hT:b = want→opo P n o L O h (nextF P M n ops Q rest L o.dst h) (panF Q L)) (hF:b = !want→sfOps P M n ops Q rest (setL o.dst undef L) O h):sfOps P M n ops Q (o :: rest) L O h:=
  fun F H r=>l_guard hg hd hj hb (fun e a ha=>slp_mono (fun r H' y=>nextF_ok y) (fun v H' y=>panF_ok y) (hT e F H r a ha)) (fun e=>hF e F H r)
def retF (P:Program) (fn:Func) (n:Nat) (R:Value→Own→Prop) (E:List PanicEntry→Own→Prop):Qf:=fun e L O=>
  match e with
  | .nrm | .ret=>∀ F h H,Rel F h O H→∀ tm,Agree n L tm→(results fn tm).slp P (fix F h R) (fun _ _=>False) H
  | .pan ch=>E ch O
  | .exit _=>False
theorem calls_of_sf {f : FuncId} {fn : Func} {c : Code} {vs : List Value} {R : Value → Own → Prop} {E : List PanicEntry → Own → Prop}
    (hf:P.funcs[f]? = some fn) (hb:fn.body = some c) (hn:fn.ntmps = n) (x:c.sf P M n (retF P fn n R E) (argsL 0 vs) O h) (hsz:Nat.ble vs.length n = true:=by rfl):CallF P M f vs O h R E:=fun F H r=>
  calls_of_sl hf hb hn hsz (sl_mono (x F H r) fun e L H' q=>by
    obtain ⟨O',r',q⟩:=q
    cases e with
    | nrm=>exact fun tm ha=>q F h H' r' tm ha
    | ret=>exact fun tm ha=>q F h H' r' tm ha
    | pan ch=>exact ⟨O',r',q⟩
    | exit id=>exact q.elim)
def _root_.Go.Sl.PHeap.puts (h:PHeap):Own→PHeap
  | []=>h
  | (b,o) :: A=>(puts h A).put b o
theorem puts_gh (h:PHeap):∀ A:Own,(h.puts A).gh = h.gh
  | []=>rfl
  | (_,_) :: A=>puts_gh h A
theorem puts_obj (h:PHeap):∀ (A:Own),(A.map Prod.fst).Nodup→∀ b o,(b,o) ∈ A→(h.puts A).obj b = some o∧(h.puts A).wr b = true
  | [],_,_,_,m=>by cases m
  | (c,x) :: A,nd,b,o,m=>by
    have nd':=List.nodup_cons.1 nd
    rcases List.mem_cons.1 m with e | m
    · cases e; exact ⟨obj_put _ _ _,wr_put _ _ _⟩
    · have hne:b ≠ c:=fun e=>nd'.1 (List.mem_map.2 ⟨(b,o),m,e⟩)
      obtain ⟨a1,a2⟩:=puts_obj h A nd'.2 b o m
      exact ⟨by show ((h.puts A).put c x).obj b = _; rw [obj_put_ne hne]; exact a1,by show ((h.puts A).put c x).wr b = _; rw [wr_put_ne hne]; exact a2⟩
theorem puts_old (h:PHeap):∀ (A:Own) (b:Nat),b ∉ A.map Prod.fst→(h.puts A).obj b = h.obj b∧(h.puts A).wr b = h.wr b
  | [],_,_=>⟨rfl,rfl⟩
  | (c,x) :: A,b,m=>by
    simp only [List.map_cons,List.mem_cons,not_or] at m
    obtain ⟨a1,a2⟩:=puts_old h A b m.2
    exact ⟨by show ((h.puts A).put c x).obj b = _; rw [obj_put_ne m.1]; exact a1,by show ((h.puts A).put c x).wr b = _; rw [wr_put_ne m.1]; exact a2⟩
omit hM in
theorem Rel.lend {F H:PHeap} (r:Rel F h (A++R) H):Rel F (h.puts A) R H∧Le h (h.puts A)∧InB (h.puts A) A:=by
  have hnd:=r.nd
  rw [List.map_append,List.nodup_append] at hnd
  have hA:∀ b,b ∈ A.map Prod.fst→∃ o,(b,o) ∈ A:=fun b m=>by
    obtain ⟨⟨c,x⟩,m2,e⟩:=List.mem_map.1 m
    simp only at e; subst e; exact ⟨x,m2⟩
  have hle:h ≤ h.puts A:=fun b o e=>by
    have hb:b ∉ A.map Prod.fst:=fun m=>by
      obtain ⟨x,m⟩:=hA b m
      have:=(r.own b x (by simp [m])).2.2.2
      rw [e] at this; cases this
    rw [(puts_old h A b hb).1,(puts_old h A b hb).2]; exact ⟨e,rfl⟩
  refine ⟨⟨r.fr,fun b o e=>?_,fun b o m=>?_,hnd.2.1,by rw [puts_gh]; exact r.gh⟩,⟨hle,puts_gh h A⟩,⟨fun b o m=>(puts_obj h A hnd.1 b o m).1⟩⟩
  · by_cases hb:b ∈ A.map Prod.fst
    · obtain ⟨x,m⟩:=hA b hb
      obtain ⟨a1,a2⟩:=puts_obj h A hnd.1 b x m
      obtain rfl:x = o:=Option.some.inj (a1.symm.trans e)
      obtain ⟨c1,c2,_⟩:=r.own b x (by simp [m])
      exact ⟨c1,c2.trans a2.symm⟩
    · rw [(puts_old h A b hb).1] at e
      rw [(puts_old h A b hb).2]
      exact r.base b o e
  · obtain ⟨a1,a2,a3,a4⟩:=r.own b o (by simp [m])
    refine ⟨a1,a2,a3,?_⟩
    have hb:b ∉ A.map Prod.fst:=fun hm=>hnd.2.2 b hm b (List.mem_map.2 ⟨_,m,rfl⟩) rfl
    rw [(puts_old h A b hb).1]; exact a4
omit hM in
theorem Rel.unlend {F H H':PHeap} (r:Rel F h (A++R) H) (r':Rel F (h.puts A) O' H'):Rel F h (A++O') H':=by
  have hnd:=r.nd
  rw [List.map_append,List.nodup_append] at hnd
  obtain ⟨_,hle,_⟩:=r.lend
  refine ⟨r'.fr,le_trans hle.le r'.base,fun b o m=>?_,?_,r'.gh.trans (puts_gh h A)⟩
  · rcases List.mem_append.1 m with m | m
    · obtain ⟨_,_,a3,a4⟩:=r.own b o (by simp [m])
      obtain ⟨c1,c2⟩:=puts_obj h A hnd.1 b o m
      obtain ⟨d1,d2⟩:=r'.base b o c1
      exact ⟨d1,d2.trans c2,a3,a4⟩
    · obtain ⟨a1,a2,a3,a4⟩:=r'.own b o m
      exact ⟨a1,a2,a3,le_none hle.le a4⟩
  · rw [List.map_append,List.nodup_append]
    refine ⟨hnd.1,r'.nd,fun b hb c hc e=>?_⟩
    subst e
    obtain ⟨⟨c,x⟩,m,rfl⟩:=List.mem_map.1 hb
    obtain ⟨⟨d,y⟩,m',e⟩:=List.mem_map.1 hc
    simp only at e; subst e
    have:=(r'.own d y m').2.2.2
    rw [(puts_obj h A hnd.1 d x m).1] at this; cases this
omit hM in
theorem CallF.lend {f : FuncId} {vs : List Value} {RR : Value → Own → Prop} {EE : List PanicEntry → Own → Prop} (B : Own) (x : ∀ h', Le h h' → InB h' B → CallF P M f vs A h' RR EE) :
    CallF P M f vs (B++A) h (fun v A'=>∃ A2,A' = B++A2∧RR v A2) (fun v A'=>∃ A2,A' = B++A2∧EE v A2):=fun F H r=>by
  obtain ⟨r1,l,i⟩:=r.lend
  exact CallsE.mono (x _ l i F H r1) (fun v H' ⟨O',y,z⟩=>⟨_,r.unlend y,O',rfl,z⟩) (fun v H' ⟨O',y,z⟩=>⟨_,r.unlend y,O',rfl,z⟩)
omit hM in
theorem CallV.lend {f:FuncId} {vs:List Value} {v:Value} (B:Own) (x:∀ h',Le h h'→InB h' B→CallV P M f vs h' v):CallF P M f vs B h (fun v' A'=>v' = v∧A' = B):=by
  have:=CallF.lend (A:=[]) B x
  rw [List.append_nil] at this
  exact this.mono (fun v O ⟨A2,e,e1,e2⟩=>⟨e1,by rw [e,e2,List.append_nil]⟩) fun _ _ ⟨_,_,y⟩=>y.elim
end
section
variable {P:Program} {M:Jdg→Prop} [hM:IsCl P M] {n:Nat} {Q:Qf} {L L':Locals} {O O' R A B:Own} {h:PHeap} {ops:Array Oper} {rest:List Oper} {o:Oper}
  {d:Option Nat} {ty:TypeId} {pos:String} {af:Array Edge} {g:Option (Nat × Bool)} {op:Op} {x y:Operand}
  {t e:TypeId} {D D':TypeDesc} {size bytes size' bytes':Nat} {zero zero':Value} {α:Type} {fl:Flat α}
def Do1 (P:Program) (M:Jdg→Prop) (n:Nat) (ops:Array Oper) (Q:Qf) (o:Oper) (rest:List Oper) (L:Locals) (O:Own) (h:PHeap):Prop:=
  opo P n o L O h (nextF P M n ops Q rest L o.dst h) (panF Q L)
theorem f_p (x:Do1 P M n ops Q ⟨d,op,ty,pos,af,none⟩ rest L O h) (hd:dstOk n d = true:=by rfl):sfOps P M n ops Q (⟨d,op,ty,pos,af,none⟩ :: rest) L O h:=sf_plain rfl hd x
theorem f_g {j dj:Nat} {want b:Bool} (hj:(ops[j]?).bind (·.dst) = some dj) (hb:L.get dj = some (.bool b)) (hbw:b = want) (x:Do1 P M n ops Q ⟨d,op,ty,pos,af,some (j,want)⟩ rest L O h) (hd:dstOk n d = true:=by rfl):sfOps P M n ops Q (⟨d,op,ty,pos,af,some (j,want)⟩ :: rest) L O h:=
  sf_guard rfl hd hj hb (fun _=>x) (fun e=>by rw [hbw] at e; cases want <;> cases e)
theorem f_gF {j dj:Nat} {want b:Bool} (hj:(ops[j]?).bind (·.dst) = some dj) (hb:L.get dj = some (.bool b)) (hbw:b = !want) (k:sfOps P M n ops Q rest (setL d undef L) O h) (hd:dstOk n d = true:=by rfl):sfOps P M n ops Q (⟨d,op,ty,pos,af,some (j,want)⟩ :: rest) L O h:=
  sf_guard rfl hd hj hb (fun e=>by rw [hbw] at e; cases want <;> cases e) (fun _=>k)
theorem f_gU {j dj:Nat} {want:Bool} (hj:(ops[j]?).bind (·.dst) = some dj) (hb:L.get dj = some undef) (k:sfOps P M n ops Q rest (setL d undef L) O h) (hd:dstOk n d = true:=by rfl):sfOps P M n ops Q (⟨d,op,ty,pos,af,some (j,want)⟩ :: rest) L O h:=fun F H r=>by
  have hy:∀ tm,Agree n L tm→yielded ops tm j = none:=fun tm ha=>by simp [yielded,hj,ha.at' _ _ hb,undef]
  intro l e
  cases l with
  | nil=>simp at e
  | cons i l=>
    simp only [List.map_cons,List.cons.injEq] at e
    refine ops_skip e.1 (fun d' hd'=>?_) (fun tm ha=>by simp [Region.wanted,hy tm ha]) (k F H r l e.2)
    simp only at hd'
    rw [hd'] at hd; exact Nat.lt_of_lt_of_le (Nat.lt_succ_self d') (Nat.le_of_ble_eq_true hd)
omit hM in
theorem f_split {j dj : Nat} {want : Bool} {p : Prop} [dp : Decidable p] (kT : p → sfOps P M n ops Q (⟨d, op, ty, pos, af, some (j, want)⟩ :: rest) L O h) (kF : ¬p → sfOps P M n ops Q (⟨d, op, ty, pos, af, some (j, want)⟩ :: rest) L O h) (hj : (ops[j]?).bind (·.dst) = some dj := by rfl) (hb : L.get dj = some (.bool (decide p)) := by rfl) :
    sfOps P M n ops Q (⟨d,op,ty,pos,af,some (j,want)⟩ :: rest) L O h:=by
  by_cases e:p
  · exact kT e
  · exact kF e
omit hM in
theorem f_splitB {j dj : Nat} {want b : Bool} (kT : b = true → sfOps P M n ops Q (⟨d, op, ty, pos, af, some (j, want)⟩ :: rest) L O h) (kF : b = false → sfOps P M n ops Q (⟨d, op, ty, pos, af, some (j, want)⟩ :: rest) L O h) (hj : (ops[j]?).bind (·.dst) = some dj := by rfl) (hb : L.get dj = some (.bool b) := by rfl) :
    sfOps P M n ops Q (⟨d,op,ty,pos,af,some (j,want)⟩ :: rest) L O h:=by
  cases b
  · exact kF rfl
  · exact kT rfl
omit hM in
theorem x_q {v:Value} (x:Opq P n ⟨d,op,ty,pos,af,g⟩ L O h v) (k:sfOps P M n ops Q rest (setL d v L) O h):Do1 P M n ops Q ⟨d,op,ty,pos,af,g⟩ rest L O h:=
  opo_mono x (fun r O' h' _ y=>by obtain ⟨rfl,rfl,rfl⟩:=y; exact ⟨rfl,k⟩) (fun _ _ _ _ y=>y.elim)
omit hM in
theorem x_alloc (T:Ty P t D size bytes zero) (k:∀ b,sfOps P M n ops Q rest (setL d (.pointer (some ⟨b,0,none⟩)) L) ((b,.cells zero.cells t) :: O) h):Do1 P M n ops Q ⟨d,.alloc t,ty,pos,af,g⟩ rest L O h:=
  c_alloc T fun b=>⟨rfl,k b⟩
omit hM in
theorem x_box {v:Value} (hx:ev L x = some v) (k:∀ b,sfOps P M n ops Q rest (setL d (.pointer (some ⟨b,0,none⟩)) L) ((b,.cells v.cells t) :: O) h):Do1 P M n ops Q ⟨d,.box t x,ty,pos,af,g⟩ rest L O h:=
  c_box hx fun b=>⟨rfl,k b⟩
omit hM in
theorem x_store (T : Ty P t D size bytes zero) {v : Value} {b off : Nat} {c : Array Value} {T' : TypeId} (hx : ev L x = some (.pointer (some ⟨b, off, none⟩))) (hy : ev L y = some v) (m : OwnAt O b (.cells c T' (0, 0)))
    (hs:v.cells.size = size) (hle:Nat.ble (off + v.cells.toList.length) c.size = true) (ho:allOne v.cells.toList = true) (w:OwnSet O b (.cells (setCells c off v.cells.toList) T' (0,0)) O') (k:sfOps P M n ops Q rest (setL d undef L) O' h) :
    Do1 P M n ops Q ⟨d,.store t x y,ty,pos,af,g⟩ rest L O h:=c_store T hx hy m hs hle ho w ⟨rfl,k⟩
omit hM in
theorem x_call {f : FuncId} {args : Array Operand} {ats : Array TypeId} {vs : List Value} {RR : Value → Own → Prop} [Fu : Fun P f] (C : CallF P M f vs A h RR) (hv : evAll L args.toList = some vs) [sp : Sp O A R] (k : ∀ v A', RR v A' → sfOps P M n ops Q rest (setL d v L) (A' ++ R) h) :
    Do1 P M n ops Q ⟨d,.call { callee:=.value (.func f),args,argTypes:=ats },ty,pos,af,g⟩ rest L O h:=
  c_call Fu hv ⟨rfl,A,R,sp.p,by simpa using C.mono (fun v A' y=>k v A' y) (fun _ _ y=>y.elim)⟩
omit hM in
theorem x_callV {f : FuncId} {args : Array Operand} {ats : Array TypeId} {vs : List Value} {v : Value} [Fu : Fun P f] (C : CallV P M f vs h v) (hv : evAll L args.toList = some vs) (k : sfOps P M n ops Q rest (setL d v L) O h) :
    Do1 P M n ops Q ⟨d,.call { callee:=.value (.func f),args,argTypes:=ats },ty,pos,af,g⟩ rest L O h:=
  c_call Fu hv ⟨rfl,[],O,.refl _,by simpa using C.mono (fun v A' y=>by obtain ⟨rfl,rfl⟩:=y; exact k) (fun _ _ y=>y.elim)⟩
omit hM in
theorem x_lend {f : FuncId} {args : Array Operand} {ats : Array TypeId} {vs : List Value} {RR : Value → Own → Prop} [Fu : Fun P f] (B : Own) (C : ∀ h', Le h h' → InB h' B → CallF P M f vs A h' RR) (hv : evAll L args.toList = some vs) [sp : Sp O (B ++ A) R] (k : ∀ v A', RR v A' → sfOps P M n ops Q rest (setL d v L) (A' ++ (B ++ R)) h) :
    Do1 P M n ops Q ⟨d,.call { callee:=.value (.func f),args,argTypes:=ats },ty,pos,af,g⟩ rest L O h:=
  c_call Fu hv ⟨rfl,B++A,R,sp.p,by
    simpa using (CallF.lend B C).mono (fun v A' y=>by
      obtain ⟨A2,rfl,y⟩:=y
      have:=k v A2 y
      refine fun F H r=>this F H (r.perm ?_)
      rw [← List.append_assoc]
      exact List.perm_append_comm.append_right R) (fun _ _ y=>by obtain ⟨_,_,y⟩:=y; exact y.elim)⟩
omit hM in
theorem x_lendV {f : FuncId} {args : Array Operand} {ats : Array TypeId} {vs : List Value} {v : Value} [Fu : Fun P f] (B : Own) (C : ∀ h', Le h h' → InB h' B → CallV P M f vs h' v) (hv : evAll L args.toList = some vs) [sp : Sp O B R] (k : sfOps P M n ops Q rest (setL d v L) O h) :
    Do1 P M n ops Q ⟨d,.call { callee:=.value (.func f),args,argTypes:=ats },ty,pos,af,g⟩ rest L O h:=
  c_call Fu hv ⟨rfl,B,R,sp.p,by
    simpa using (CallV.lend B C).mono (fun v A' y=>by
      obtain ⟨rfl,rfl⟩:=y
      exact fun F H r=>k F H (r.perm sp.p)) (fun _ _ y=>y.elim)⟩
omit hM in
theorem x_callC {fo : Operand} {f : FuncId} {first captured : Array Value} {args : Array Operand} {ats : Array TypeId} {vs : List Value} {RR : Value → Own → Prop} [Fu : Fun P f] (hf : ev L fo = some (.func (.func f) first captured)) (hv : evAll L args.toList = some vs) (C : CallF P M f (first.toList ++ vs ++ captured.toList) A h RR) [sp : Sp O A R] (k : ∀ v A', RR v A' → sfOps P M n ops Q rest (setL d v L) (A' ++ R) h) :
    Do1 P M n ops Q ⟨d,.call { callee:=.value fo,args,argTypes:=ats },ty,pos,af,g⟩ rest L O h:=fun F H r=>
  o_callv hf hv (lift.here r ⟨rfl,A,R,sp.p,by simpa using C.mono (fun v A' y=>k v A' y) (fun _ _ y=>y.elim)⟩)
omit hM in
theorem x_callCV {fo : Operand} {f : FuncId} {first captured : Array Value} {args : Array Operand} {ats : Array TypeId} {vs : List Value} {v : Value} [Fu : Fun P f] (hf : ev L fo = some (.func (.func f) first captured)) (hv : evAll L args.toList = some vs) (C : CallV P M f (first.toList ++ vs ++ captured.toList) h v) (k : sfOps P M n ops Q rest (setL d v L) O h) :
    Do1 P M n ops Q ⟨d,.call { callee:=.value fo,args,argTypes:=ats },ty,pos,af,g⟩ rest L O h:=fun F H r=>
  o_callv hf hv (lift.here r ⟨rfl,[],O,.refl _,by simpa using C.mono (fun v A' y=>by obtain ⟨rfl,rfl⟩:=y; exact k) (fun _ _ y=>y.elim)⟩)
omit hM in
theorem rt {fn:Func} {RR:Value→Own→Prop} {E:List PanicEntry→Own→Prop} {v:Value} (O':Own) (hr:ResV P fn n L O v) [sp:Sp O O' R] (x:RR v O'):retF P fn n RR E .ret L O:=
  fun F h H r tm ha=>hr F h H tm r ha _ _ (fix.here ((r.perm sp.p.symm).drop (List.sublist_append_left _ _)) x)
omit hM in
theorem rn {fn:Func} {RR:Value→Own→Prop} {E:List PanicEntry→Own→Prop} {v:Value} (O':Own) (hr:ResV P fn n L O v) [sp:Sp O O' R] (x:RR v O'):retF P fn n RR E .nrm L O:=
  fun F h H r tm ha=>hr F h H tm r ha _ _ (fix.here ((r.perm sp.p.symm).drop (List.sublist_append_left _ _)) x)
omit hM in
theorem rv {fn:Func} {E:List PanicEntry→Own→Prop} {v v0:Value} (hr:ResV P fn n L O v) (x:v = v0):retF P fn n (fun v A=>v = v0∧A = []) E .ret L O:=
  fun F h H r tm ha=>hr F h H tm r ha _ _ (fix.here (r.drop (List.nil_sublist _)) ⟨x,rfl⟩)
omit hM in
theorem resV_three {fn:Func} {r s u:ResultVar} {v1 v2 v3:Value} (hf:fn.results = #[r,s,u]) (x:Res1 P n L O r v1) (y:Res1 P n L O s v2) (z:Res1 P n L O u v3):ResV P fn n L O (.tuple #[v1,v2,v3]):=fun F h H tm rl ha K E k=>by
  simp only [results_eq,hf,slp_bind]
  refine slp_mapM_res _ _ _ _ [r,s,u] [v1,v2,v3] rfl (fun i r' v' h1 h2 K E k=>?_) (by simpa [slp_pure] using k)
  match i,h1,h2 with
  | 0,h1,h2=>cases h1; cases h2; exact x.slp rl ha K E k
  | 1,h1,h2=>cases h1; cases h2; exact y.slp rl ha K E k
  | 2,h1,h2=>cases h1; cases h2; exact z.slp rl ha K E k
omit hM in
theorem resV_four {fn:Func} {r s u w:ResultVar} {v1 v2 v3 v4:Value} (hf:fn.results = #[r,s,u,w]) (x:Res1 P n L O r v1) (y:Res1 P n L O s v2) (z:Res1 P n L O u v3) (z':Res1 P n L O w v4):ResV P fn n L O (.tuple #[v1,v2,v3,v4]):=fun F h H tm rl ha K E k=>by
  simp only [results_eq,hf,slp_bind]
  refine slp_mapM_res _ _ _ _ [r,s,u,w] [v1,v2,v3,v4] rfl (fun i r' v' h1 h2 K E k=>?_) (by simpa [slp_pure] using k)
  match i,h1,h2 with
  | 0,h1,h2=>cases h1; cases h2; exact x.slp rl ha K E k
  | 1,h1,h2=>cases h1; cases h2; exact y.slp rl ha K E k
  | 2,h1,h2=>cases h1; cases h2; exact z.slp rl ha K E k
  | 3,h1,h2=>cases h1; cases h2; exact z'.slp rl ha K E k
theorem wrap_in {z:Int} (h1:-9223372036854775808 ≤ z) (h2:z ≤ 9223372036854775807):IntKind.i64.wrap z = z:=by
  rw [IntKind.wrap_i64]; omega
variable {kd:IntKind} {a b:Int} {t':TypeId} {h0:PHeap}
omit hM in
theorem q_add64 (hx:ev L x = some (.int .i64 a)) (hy:ev L y = some (.int .i64 b)) (h:-9223372036854775808 ≤ a + b∧a + b ≤ 9223372036854775807):Opq P n ⟨d,.binOp .add t x y t',ty,pos,af,g⟩ L O h0 (.int .i64 (a + b)):=by
  have:=q_num (P:=P) (n:=n) (O:=O) (h:=h0) (d:=d) (t:=t) (t':=t') (ty:=ty) (pos:=pos) (af:=af) (g:=g) (op:=.add) hx hy rfl
  rwa [wrap_in h.1 h.2] at this
omit hM in
theorem q_sub64 (hx:ev L x = some (.int .i64 a)) (hy:ev L y = some (.int .i64 b)) (h:-9223372036854775808 ≤ a - b∧a - b ≤ 9223372036854775807):Opq P n ⟨d,.binOp .sub t x y t',ty,pos,af,g⟩ L O h0 (.int .i64 (a - b)):=by
  have:=q_num (P:=P) (n:=n) (O:=O) (h:=h0) (d:=d) (t:=t) (t':=t') (ty:=ty) (pos:=pos) (af:=af) (g:=g) (op:=.sub) hx hy rfl
  rwa [wrap_in h.1 h.2] at this
omit hM in
theorem q_mul64 (hx:ev L x = some (.int .i64 a)) (hy:ev L y = some (.int .i64 b)) (h:-9223372036854775808 ≤ a * b∧a * b ≤ 9223372036854775807):Opq P n ⟨d,.binOp .mul t x y t',ty,pos,af,g⟩ L O h0 (.int .i64 (a * b)):=by
  have:=q_num (P:=P) (n:=n) (O:=O) (h:=h0) (d:=d) (t:=t) (t':=t') (ty:=ty) (pos:=pos) (af:=af) (g:=g) (op:=.mul) hx hy rfl
  rwa [wrap_in h.1 h.2] at this
end
class One (v:Value):Prop where
  cells:v.cells = #[v]
  one:isOne v = true
instance {b:Bool}:One (.bool b):=⟨rfl,rfl⟩
instance {k:IntKind} {z:Int}:One (.int k z):=⟨rfl,rfl⟩
instance {s:ByteArray}:One (.string s):=⟨rfl,rfl⟩
instance {a:Option Addr}:One (.pointer a):=⟨rfl,rfl⟩
instance {a:Option Addr} {l c:Nat}:One (.slice a l c):=⟨rfl,rfl⟩
instance {a:Option Nat}:One (.chan a):=⟨rfl,rfl⟩
instance {f:Fn} {a c:Array Value}:One (.func f a c):=⟨rfl,rfl⟩
instance {t:TypeId} {v:Value}:One (.iface t v):=⟨rfl,rfl⟩
instance:One .nilIface:=⟨rfl,rfl⟩
theorem Sl.one {h:PHeap} {v:Value} {α:Type} {E:Flat α} {xs:List α} (s:Sl h v E xs):One v:=by
  obtain ⟨_,_,rfl⟩:=s.val; infer_instance
theorem Gr.one {A:Own} {v:Value} {T:TypeId} {α:Type} {E:Flat α} {xs:List α} (g:Gr A v T E xs):One v:=by
  rcases g.at' with ⟨rfl,rfl,rfl⟩ | ⟨_,_,_,rfl,rfl,_⟩ <;> infer_instance
class AllOne (l:List Value):Prop where
  is:allOne l = true
instance:AllOne []:=⟨rfl⟩
instance {v:Value} {l:List Value} [o:One v] [a:AllOne l]:AllOne (v :: l):=⟨by unfold allOne; rw [List.all_cons,o.one]; exact a.is⟩
class CellsOf (v:Value) (l:outParam (List Value)):Prop where
  eq:v.cells = l.toArray
instance {l:List Value}:CellsOf (.agg l.toArray) l:=⟨rfl⟩
instance (priority:=low) {v:Value} [o:One v]:CellsOf v [v]:=⟨o.cells⟩
class GetR (l:List Value) (off n:Nat) (cs:outParam (List Value)):Prop where
  le:off + n ≤ l.length
  eq:(l.drop off).take n = cs
instance GetR.z {l:List Value}:GetR l 0 0 []:=⟨by simp,by simp⟩
instance GetR.here {x:Value} {l cs:List Value} {n:Nat} [g:GetR l 0 n cs]:GetR (x :: l) 0 (n + 1) (x :: cs):=⟨by have:=g.le; simp; omega,by have:=g.eq; simp at this; simp [this]⟩
instance GetR.there {x:Value} {l cs:List Value} {k n:Nat} [g:GetR l k n cs]:GetR (x :: l) (k + 1) n cs:=⟨by have:=g.le; simp; omega,by have:=g.eq; simpa using this⟩
theorem GetR.take {l cs:List Value} {off n:Nat} (g:GetR l off n cs):takeCells l.toArray off n = some cs:=by
  unfold takeCells
  rw [show Nat.ble (off + n) l.toArray.size = true from Nat.ble_eq_true_of_le (by simpa using g.le)]
  simp only [cond_true,g.eq]
class SetR (l:List Value) (off:Nat) (vs:List Value) (l':outParam (List Value)):Prop where
  le:off + vs.length ≤ l.length
  eq:l' = l.take off++vs++l.drop (off + vs.length)
instance SetR.z {l:List Value}:SetR l 0 [] l:=⟨by simp,by simp⟩
instance SetR.here {x v:Value} {l vs l':List Value} [s:SetR l 0 vs l']:SetR (x :: l) 0 (v :: vs) (v :: l'):=⟨by have:=s.le; simp; omega,by have:=s.eq; simp at this; simp [this]⟩
instance SetR.there {x:Value} {l vs l':List Value} {k:Nat} [s:SetR l k vs l']:SetR (x :: l) (k + 1) vs (x :: l'):=⟨by have:=s.le; simp; omega,by
  have:=s.eq
  rw [show k + 1 + vs.length = (k + vs.length) + 1 by omega]
  simp [this]⟩
theorem SetR.set {l vs l':List Value} {off:Nat} (s:SetR l off vs l'):setCells l.toArray off vs = l'.toArray:=by
  apply Array.toList_inj.1
  rw [setCells_toList _ _ _ (by simpa using s.le)]
  simpa using s.eq.symm
class LoadV (D:TypeDesc) (cs:List Value) (v:outParam Value):Prop where
  eq:ofCells D cs = v
  ok:∀ size,cs.length = size→loadOk D size = true
instance {v:Value}:LoadV .bool [v] v:=⟨rfl,fun _ e=>by subst e; rfl⟩
instance {k:IntKind} {v:Value}:LoadV (.int k) [v] v:=⟨rfl,fun _ e=>by subst e; rfl⟩
instance {t:TypeId} {v:Value}:LoadV (.slice t) [v] v:=⟨rfl,fun _ e=>by subst e; rfl⟩
instance {k:ChanDir} {e:TypeId} {v:Value}:LoadV (.chan k e) [v] v:=⟨rfl,fun _ e=>by subst e; rfl⟩
instance {a b:Array TypeId} {c:Bool} {v:Value}:LoadV (.func a b c) [v] v:=⟨rfl,fun _ e=>by subst e; rfl⟩
instance {a:Array (String × TypeId)} {v:Value}:LoadV (.interface a) [v] v:=⟨rfl,fun _ e=>by subst e; rfl⟩
instance {fs:Array Field} {cs:List Value}:LoadV (.struct fs) cs (.agg cs.toArray):=⟨rfl,fun _ _=>rfl⟩
instance {n:Nat} {t:TypeId} {cs:List Value}:LoadV (.array n t) cs (.agg cs.toArray):=⟨rfl,fun _ _=>rfl⟩
class FlatV {α:Type} (E:Flat α) (x:α) (cs:outParam (List Value)):Prop where
  eq:E.f x = cs
class LGet (L:Locals) (i:Nat) (v:outParam Value):Prop where
  get:L.get i = some v
instance LGet.here {i:Nat} {v:Value} {L:Locals}:LGet ((i,v) :: L) i v:=⟨by simp [Locals.get]⟩
class NthR (l:List Value) (i:Nat) (v:outParam Value):Prop where
  eq:l[i]? = some v
instance {v:Value} {l:List Value}:NthR (v :: l) 0 v:=⟨rfl⟩
instance {u v:Value} {l:List Value} {i:Nat} [x:NthR l i v]:NthR (u :: l) (i + 1) v:=⟨by simpa using x.eq⟩
class PartsA (i:Nat) (ps:List (Nat × Value)) (l:outParam (List Value)):Prop where
  all:partsAll 1 i ps = some l
instance {i:Nat}:PartsA i [] []:=⟨rfl⟩
instance {i:Nat} {v:Value} {ps:List (Nat × Value)} {l:List Value} [o:One v] [r:PartsA (i + 1) ps l]:PartsA i ((i,v) :: ps) (v :: l):=⟨by
  have hv:v.cells.toList = [v]:=by rw [o.cells]
  simp only [partsAll,hv,List.length_singleton,Nat.beq_refl,Bool.true_and,cond_true,r.all,List.singleton_append]⟩
class FldR (pl:List FldI) (i:Nat) (off size:outParam Nat):Prop where
  eq:∃ fi,pl[i]? = some fi∧fi.off = off∧fi.size = size
instance FldR.here {ft:TypeId} {ag:Bool} {fo fs:Nat} {pl:List FldI}:FldR (⟨ft,ag,fo,fs⟩ :: pl) 0 fo fs:=⟨_,rfl,rfl,rfl⟩
instance FldR.there {f:FldI} {pl:List FldI} {i off size:Nat} [x:FldR pl i off size]:FldR (f :: pl) (i + 1) off size:=⟨by simpa using x.eq⟩
class AddR (a b:Nat) (c:outParam Nat):Prop where
  eq:a + b = c
instance (priority:=high) {b:Nat}:AddR 0 b b:=⟨Nat.zero_add b⟩
instance (priority:=high) {a:Nat}:AddR a 0 a:=⟨rfl⟩
class LenR (l:List Value) (n:Nat):Prop where
  len:l.length = n
instance:LenR [] 0:=⟨rfl⟩
instance {v:Value} {l:List Value} {n:Nat} [x:LenR l n]:LenR (v :: l) (n + 1):=⟨by simp [x.len]⟩
class PartsR (pl:List FldI) (cs:List Value) (ps:List (Nat × Value)) (l:outParam (List Value)):Prop where
  fill:fillC pl cs ps = some l
instance PartsR.nil {pl:List FldI} {cs:List Value}:PartsR pl cs [] cs:=⟨rfl⟩
instance PartsR.cons {pl:List FldI} {cs vs cs' l:List Value} {i off size:Nat} {v:Value} {ps:List (Nat × Value)} [f:FldR pl i off size] [c:CellsOf v vs] [n:LenR vs size] [s:SetR cs off vs cs'] [r:PartsR pl cs' ps l]:PartsR pl cs ((i,v) :: ps) l:=⟨by
  obtain ⟨fi,h1,rfl,rfl⟩:=f.eq
  have hv:v.cells.toList = vs:=by rw [c.eq]
  have hl:=n.len
  simp only [fillC,h1,hv,hl,Nat.beq_refl,Bool.true_and]
  have hle:fi.off + fi.size ≤ cs.length:=by have:=s.le; rw [hl] at this; exact this
  rw [Nat.ble_eq_true_of_le hle]
  simp only [cond_true]
  have:splice cs fi.off vs = cs':=s.eq.symm
  rw [this]; exact r.fill⟩
section
variable {P:Program} {M:Jdg→Prop} [hM:IsCl P M] {n:Nat} {Q:Qf} {L L':Locals} {O O' R A B:Own} {h:PHeap} {ops:Array Oper} {rest:List Oper} {o:Oper}
  {d:Nat} {ty:TypeId} {pos:String} {af:Array Edge} {g:Option (Nat × Bool)} {op:Op} {x y:Operand}
  {t e:TypeId} {D D':TypeDesc} {size bytes size' bytes':Nat} {zero zero':Value} {α:Type} {fl:Flat α} {v u:Value} {l l' vs cs:List Value} {b off:Nat} {T':TypeId} {fr:Nat × Nat} {pl:List FldI}
omit hM in
theorem Rq (k:sfOps P M n ops Q rest ((d,v) :: L) O h) (x:Opq P n ⟨some d,op,ty,pos,af,g⟩ L O h v):Do1 P M n ops Q ⟨some d,op,ty,pos,af,g⟩ rest L O h:=x_q x k
omit hM in
theorem z_load (hx:ev L x = some (.pointer (some ⟨b,off,none⟩))) [T:Ty P t D size bytes zero] [m:OwnAt O b (.cells l.toArray T' fr)] [gr:GetR l off size cs] [lv:LoadV D cs v]:Opq P n ⟨some d,.load t x,ty,pos,af,g⟩ L O h (v):=by
  have hl:cs.length = size:=by have:=gr.eq; have:=gr.le; subst cs; simp; omega
  have:=q_loadO (P:=P) (n:=n) (O:=O) (h:=h) (d:=some d) (ty:=ty) (pos:=pos) (af:=af) (g:=g) T hx m gr.take (lv.ok _ hl)
  rw [lv.eq] at this
  exact this
omit hM in
theorem z_loadB (hx:ev L x = some (.pointer (some ⟨b,off,none⟩))) [T:Ty P t D size bytes zero] [m:BAt h b (.cells l.toArray T' fr)] [gr:GetR l off size cs] [lv:LoadV D cs v]:Opq P n ⟨some d,.load t x,ty,pos,af,g⟩ L O h (v):=by
  have hl:cs.length = size:=by have:=gr.eq; have:=gr.le; subst cs; simp; omega
  have:=q_loadB (P:=P) (n:=n) (O:=O) (h:=h) (d:=some d) (ty:=ty) (pos:=pos) (af:=af) (g:=g) T hx m gr.take (lv.ok _ hl)
  rw [lv.eq] at this
  exact this
omit hM in
theorem z_loadS {j:Nat} [Inhabited α] {E:Flat α} {xs:List α} (hx:ev L x = some (.pointer (some ⟨vb v,vo v + j * size + 0,none⟩))) [T:Ty P t D size bytes zero] (s:Sl h v E xs) [f:FlatV E (gt xs j) cs] [lv:LoadV D cs u] (hj:j < xs.length) (hz:E.sz = size):Opq P n ⟨some d,.load t x,ty,pos,af,g⟩ L O h (u):=by
  have hl:cs.length = size:=by rw [← f.eq,E.len,hz]
  have:=q_loadS (P:=P) (n:=n) (O:=O) (h:=h) (d:=some d) (ty:=ty) (pos:=pos) (af:=af) (g:=g) T hx s hj hz (lv.ok _ hl)
  rw [f.eq,lv.eq] at this
  exact this
omit hM in
theorem z_loadF {j sz:Nat} [Inhabited α] {E:Flat α} {xs:List α} (hx:ev L x = some (.pointer (some ⟨vb v,vo v + j * sz + off,none⟩))) [T:Ty P t D size bytes zero] (s:Sl h v E xs) [f:FlatV E (gt xs j) l] [gr:GetR l off size cs] [lv:LoadV D cs u] (hj:j < xs.length) (hz:E.sz = sz):Opq P n ⟨some d,.load t x,ty,pos,af,g⟩ L O h (u):=by
  have hl:cs.length = size:=by have:=gr.eq; have:=gr.le; subst cs; simp; omega
  have:=q_loadF (P:=P) (n:=n) (O:=O) (h:=h) (d:=some d) (ty:=ty) (pos:=pos) (af:=af) (g:=g) (cs:=cs) T hx s hj hz (by rw [f.eq]; exact gr.take) (lv.ok _ hl)
  rw [lv.eq] at this
  exact this
omit hM in
theorem z_fa0 {f fo:Nat} {fz:Nat} (hx:ev L x = some (.pointer (some ⟨b,0,none⟩))) [Fl:Flds P t pl] [fd:FldR pl f fo fz] (hs:Nat.blt 0 fz = true):Opq P n ⟨some d,.fieldAddr t x f,ty,pos,af,g⟩ L O h (.pointer (some ⟨b,fo,none⟩)):=by
  obtain ⟨fi,h1,rfl,rfl⟩:=fd.eq
  have:=q_fieldAddr (P:=P) (n:=n) (L:=L) (O:=O) (h:=h) (d:=some d) (ty:=ty) (pos:=pos) (af:=af) (g:=g) Fl hx h1 hs
  rw [Nat.zero_add] at this
  exact this
omit hM in
theorem z_fa {f fo:Nat} {fz:Nat} (hx:ev L x = some (.pointer (some ⟨b,off,none⟩))) [Fl:Flds P t pl] [fd:FldR pl f fo fz] (hs:Nat.blt 0 fz = true):Opq P n ⟨some d,.fieldAddr t x f,ty,pos,af,g⟩ L O h (.pointer (some ⟨b,off + fo,none⟩)):=by
  obtain ⟨fi,h1,rfl,rfl⟩:=fd.eq
  exact q_fieldAddr Fl hx h1 hs
omit hM in
theorem z_extract {i:Nat} (hx:ev L x = some (.tuple l.toArray)) [nt:NthR l i v]:Opq P n ⟨some d,.extract x i,ty,pos,af,g⟩ L O h v:=q_extract hx (by simpa using nt.eq)
omit hM in
theorem z_buildA {len:Nat} {parts:Array (Nat × Operand)} {ps:List (Nat × Value)} (hp:evParts L parts.toList = some ps) (T:Ty P t (.array len e) size' bytes' (.agg l.toArray)) (Te:Ty P e D 1 bytes zero) [pr:PartsA 0 ps l'] (hl:Nat.beq ps.length len = true) (hz:Nat.beq l.length (len * 1) = true):Opq P n ⟨some d,.build t parts,ty,pos,af,g⟩ L O h (.agg l'.toArray):=
  q_buildA T Te hp hl hz pr.all
omit hM in
theorem z_indexP1 {i:Operand} {len k:Nat} {kd:IntKind} (hx:ev L x = some (.pointer (some ⟨b,0,none⟩))) (hi:ev L i = some (.int kd (k:Int))) (S:Ty P t (.array len e) size' bytes' zero') (T:Ty P e D 1 bytes zero) (hk:k < len):Opq P n ⟨some d,.indexAddr t x i,ty,pos,af,g⟩ L O h (.pointer (some ⟨b,k,none⟩)):=by
  have:=q_indexP (P:=P) (n:=n) (L:=L) (O:=O) (h:=h) (d:=some d) (ty:=ty) (pos:=pos) (af:=af) (g:=g) S T hx hi (Int.natCast_nonneg _) (by omega)
  simpa using this
omit hM in
theorem z_faE {f fo o1 o2 o3:Nat} {fz:Nat} (hx:ev L x = some (.pointer (some ⟨b,o1 + o2,none⟩))) [Fl:Flds P t pl] [fd:FldR pl f fo fz] [ad:AddR o2 fo o3] (hs:Nat.blt 0 fz = true):Opq P n ⟨some d,.fieldAddr t x f,ty,pos,af,g⟩ L O h (.pointer (some ⟨b,o1 + o3,none⟩)):=by
  rw [← ad.eq,← Nat.add_assoc]
  exact z_fa hx hs
omit hM in
theorem y_store (k:sfOps P M n ops Q rest L O' h) (hx:ev L x = some (.pointer (some ⟨b,off,none⟩))) (hy:ev L y = some v) [T:Ty P t D size bytes zero] [m:OwnAt O b (.cells l.toArray T' (0,0))] [c:CellsOf v vs] [nl:LenR vs size] [ao:AllOne vs] [s:SetR l off vs l'] [w:OwnSet O b (.cells l'.toArray T' (0,0)) O']:Do1 P M n ops Q ⟨none,.store t x y,ty,pos,af,g⟩ rest L O h:=by
  have hv:v.cells.toList = vs:=by rw [c.eq]
  have hl:=nl.len
  refine x_store T hx hy m (by rw [c.eq]; simpa using hl) (by rw [hv]; exact Nat.ble_eq_true_of_le (by simpa using s.le)) (by rw [hv]; exact ao.is) (O':=O') ?_ k
  rw [hv,s.set]; exact w
omit hM in
theorem y_alloc [T:Ty P t D size bytes zero] [c:CellsOf zero l] (k:∀ b,sfOps P M n ops Q rest ((d,.pointer (some ⟨b,0,none⟩)) :: L) ((b,.cells l.toArray t) :: O) h):Do1 P M n ops Q ⟨some d,.alloc t,ty,pos,af,g⟩ rest L O h:=
  x_alloc T fun b=>by rw [c.eq]; exact k b
omit hM in
theorem y_box [c:CellsOf v l] (k:∀ b,sfOps P M n ops Q rest ((d,.pointer (some ⟨b,0,none⟩)) :: L) ((b,.cells l.toArray t) :: O) h) (hx:ev L x = some v):Do1 P M n ops Q ⟨some d,.box t x,ty,pos,af,g⟩ rest L O h:=
  x_box hx fun b=>by rw [c.eq]; exact k b
omit hM in
theorem z_build {parts:Array (Nat × Operand)} {ps:List (Nat × Value)} (hp:evParts L parts.toList = some ps) [T:Ty P t D size bytes (.agg l.toArray)] [Fl:Flds P t pl] [pr:PartsR pl l ps l']:Opq P n ⟨some d,.build t parts,ty,pos,af,g⟩ L O h (.agg l'.toArray):=
  q_build T Fl hp pr.fill
end
section
variable {P:Program} {M:Jdg→Prop} [hM:IsCl P M] {n:Nat} {L:Locals} {O O' R:Own} {t:TypeId} {D:TypeDesc} {size bytes:Nat} {zero v v0:Value} {l cs:List Value} {b off a:Nat} {T':TypeId} {fr:Nat × Nat} {fn:Func} {RR:Value→Own→Prop} {E:List PanicEntry→Own→Prop}
theorem yr_cell (h1:L.get a = some (.pointer (some ⟨b,off,none⟩))) [T:Ty P t D size bytes zero] [m:OwnAt O b (.cells l.toArray T' fr)] [gr:GetR l off size cs] [lv:LoadV D cs v]:Res1 P n L O (.cell a t) v:=by
  have hl:cs.length = size:=by have:=gr.eq; have:=gr.le; subst cs; simp; omega
  have:=res_cell (P:=P) (n:=n) (L:=L) (O:=O) (t:=t) h1 gr.take (lv.ok _ hl)
  rwa [lv.eq] at this
theorem rV (x : v = v0) (hr : ResV P fn n L O v := by
    first
      | exact resV_one rfl (by first|exact res_tmp rfl | exact yr_cell rfl)
      | exact resV_two rfl (by first|exact res_tmp rfl | exact yr_cell rfl) (by first|exact res_tmp rfl | exact yr_cell rfl)
      | exact resV_none rfl
      | exact resV_three rfl (by first|exact res_tmp rfl | exact yr_cell rfl) (by first|exact res_tmp rfl | exact yr_cell rfl) (by first|exact res_tmp rfl | exact yr_cell rfl)
      | exact resV_four rfl (by first|exact res_tmp rfl | exact yr_cell rfl) (by first|exact res_tmp rfl | exact yr_cell rfl) (by first|exact res_tmp rfl | exact yr_cell rfl) (by first|exact res_tmp rfl | exact yr_cell rfl)) :
    retF P fn n (fun v A=>v = v0∧A = []) E .ret L O:=rv hr x
theorem rO (O' : Own) (x : RR v O') [sp : Sp O O' R] (hr : ResV P fn n L O v := by
    first
      | exact resV_one rfl (by first|exact res_tmp rfl | exact yr_cell rfl)
      | exact resV_two rfl (by first|exact res_tmp rfl | exact yr_cell rfl) (by first|exact res_tmp rfl | exact yr_cell rfl)
      | exact resV_none rfl
      | exact resV_three rfl (by first|exact res_tmp rfl | exact yr_cell rfl) (by first|exact res_tmp rfl | exact yr_cell rfl) (by first|exact res_tmp rfl | exact yr_cell rfl)
      | exact resV_four rfl (by first|exact res_tmp rfl | exact yr_cell rfl) (by first|exact res_tmp rfl | exact yr_cell rfl) (by first|exact res_tmp rfl | exact yr_cell rfl) (by first|exact res_tmp rfl | exact yr_cell rfl)) :
    retF P fn n RR E .ret L O:=rt O' hr x
theorem nO (O' : Own) (x : RR v O') [sp : Sp O O' R] (hr : ResV P fn n L O v := by
    first
      | exact resV_one rfl (by first|exact res_tmp rfl | exact yr_cell rfl)
      | exact resV_none rfl) :
    retF P fn n RR E .nrm L O:=rn O' hr x
end
section
variable {P:Program} {M:Jdg→Prop} [hM:IsCl P M] {n:Nat} {Q:Qf} {L:Locals} {O R:Own} {h:PHeap} {ops:Array Oper} {rest:List Oper}
  {d:Option Nat} {ty:TypeId} {pos:String} {af:Array Edge} {g:Option (Nat × Bool)} {op:Op} {x y:Operand} {t t':TypeId} {kd:IntKind} {a b:Int}
def GOk (ops:Array Oper) (L:Locals) (g:Option (Nat × Bool)):Prop:=g = none ∨ ∃ j dj want b,g = some (j,want)∧(ops[j]?).bind (·.dst) = some dj∧L.get dj = some (.bool b)∧b = want
theorem fp (x:Do1 P M n ops Q ⟨d,op,ty,pos,af,g⟩ rest L O h) (hd:dstOk n d = true:=by rfl) (hg:GOk ops L g:=by first|exact .inl rfl | exact .inr ⟨_,_,_,_,rfl,by rfl,by rfl,by first|assumption | exact decide_eq_true (by assumption) | exact decide_eq_false (by assumption) | rfl⟩):sfOps P M n ops Q (⟨d,op,ty,pos,af,g⟩ :: rest) L O h:=by
  rcases hg with rfl | ⟨j,dj,want,b,rfl,h1,h2,h3⟩
  · exact f_p x hd
  · exact f_g h1 h2 h3 x hd
omit hM in
theorem q_div64 (hx:ev L x = some (.int .i64 a)) (hy:ev L y = some (.int .i64 b)) (h:0 ≤ a∧a ≤ 9223372036854775807∧0 < b) {h0:PHeap}:Opq P n ⟨d,.binOp .quo t x y t',ty,pos,af,g⟩ L O h0 (.int .i64 (a / b)):=by
  have:=q_quo (P:=P) (n:=n) (O:=O) (h:=h0) (d:=d) (t:=t) (t':=t') (ty:=ty) (pos:=pos) (af:=af) (g:=g) hx hy (by omega)
  rw [Int.tdiv_eq_ediv_of_nonneg h.1] at this
  have h1:a / b ≤ a:=Int.ediv_le_self _ h.1
  have h2:0 ≤ a / b:=Int.ediv_nonneg h.1 (by omega)
  rwa [wrap_in (by omega) (by omega)] at this
omit hM in
theorem q_mod64 (hx:ev L x = some (.int .i64 a)) (hy:ev L y = some (.int .i64 b)) (h:0 ≤ a∧0 < b) {h0:PHeap}:Opq P n ⟨d,.binOp .rem t x y t',ty,pos,af,g⟩ L O h0 (.int .i64 (a % b)):=by
  have:=q_rem (P:=P) (n:=n) (O:=O) (h:=h0) (d:=d) (t:=t) (t':=t') (ty:=ty) (pos:=pos) (af:=af) (g:=g) hx hy (by omega)
  rwa [Int.tmod_eq_emod_of_nonneg h.1] at this
omit hM in
theorem slp_eqBool {H : PHeap} {Kk : Value → PHeap → Prop} {Ee : Value → PHeap → Prop} (op : BinOp) (hop : op = .eql ∨ op = .neq) {size bytes : Nat} {zero : Value} (S : Ty P t .bool size bytes zero) {p q : Bool} (x y : Operand)
    (k:Kk (.bool (if op = .eql then decide (p = q) else !decide (p = q))) H):(do eqGuard op t x y (.bool p) (.bool q); binOp op t (.bool p) (.bool q):Sem Value).slp P Kk Ee H:=by
  have e1:Sem.slp P (fun (b:Bool) H'=>b = decide (p = q)∧H' = H) Ee (Op.equal t (.bool p) (.bool q)) H:=by
    unfold Op.equal Op.maxDepth
    rw [show (10000:Nat) = 9999 + 1 from rfl]
    unfold Op.equalIn
    rw [slp_bind]
    refine slp_underlying S.und ?_
    cases p <;> cases q <;> exact ⟨rfl,rfl⟩
  rcases hop with rfl | rfl
  · have eg:eqGuard .eql t x y (.bool p) (.bool q) = pure ():=rfl
    rw [eg,slp_bind,slp_pure]
    simp only [binOp]
    rw [slp_bind]
    refine slp_mono ?_ (fun _ _ y=>y) e1
    rintro b H' ⟨rfl,rfl⟩
    rw [slp_pure]
    simpa using k
  · have eg:eqGuard .neq t x y (.bool p) (.bool q) = pure ():=rfl
    rw [eg,slp_bind,slp_pure]
    simp only [binOp]
    rw [slp_bind]
    refine slp_mono ?_ (fun _ _ y=>y) e1
    rintro b H' ⟨rfl,rfl⟩
    rw [slp_pure]
    simpa using k
omit hM in
theorem q_eqB {p q:Bool} {size bytes:Nat} {zero:Value} (hx:ev L x = some (.bool p)) (hy:ev L y = some (.bool q)) (S:Ty P t .bool size bytes zero) {h0:PHeap}:Opq P n ⟨d,.binOp .eql t x y t',ty,pos,af,g⟩ L O h0 (.bool (decide (p = q))):=
  q_of fun H K E k=>o_val (s:=fun a=>do eqGuard .eql t x y (a.eval x) (a.eval y); binOp .eql t (a.eval x) (a.eval y)) (fun _ _=>rfl) fun a ha=>by
    rw [ha.ev hx,ha.ev hy]
    exact slp_eqBool .eql (.inl rfl) S x y (by simpa using k)
omit hM in
theorem q_neqB {p q:Bool} {size bytes:Nat} {zero:Value} (hx:ev L x = some (.bool p)) (hy:ev L y = some (.bool q)) (S:Ty P t .bool size bytes zero) {h0:PHeap}:Opq P n ⟨d,.binOp .neq t x y t',ty,pos,af,g⟩ L O h0 (.bool !(decide (p = q))):=
  q_of fun H K E k=>o_val (s:=fun a=>do eqGuard .neq t x y (a.eval x) (a.eval y); binOp .neq t (a.eval x) (a.eval y)) (fun _ _=>rfl) fun a ha=>by
    rw [ha.ev hx,ha.ev hy]
    exact slp_eqBool .neq (.inr rfl) S x y (by simpa using k)
def pickL (L:Locals):List Nat→Option Locals
  | []=>some []
  | i :: is=>match L.get i,pickL L is with
    | some v,some K=>some ((i,v) :: K)
    | _,_=>none
omit hM in
theorem pickL_sub {L:Locals}:∀ {is:List Nat} {K:Locals},pickL L is = some K→K.sub L
  | [],K,e=>by cases e; trivial
  | i :: is,K,e=>by
    simp only [pickL] at e
    split at e
    · rename_i v K' h1 h2; cases e; exact ⟨h1,pickL_sub h2⟩
    · cases e
omit hM in
theorem sub_app {L A B:Locals} (h1:A.sub L) (h2:B.sub L):Locals.sub (A++B) L:=by
  induction A with
  | nil=>exact h2
  | cons x A ih=>exact ⟨h1.1,ih h1.2⟩
omit hM in
theorem sf_keep {c:Code} {K:Locals} (is:List Nat) (x:c.sf P M n Q K O h) (hp:pickL L is = some K:=by rfl):c.sf P M n Q L O h:=sf_sub K (pickL_sub hp) x
theorem sf_lp {ι : Type} {c : Code} {K : Locals} (is : List Nat) (va : ι → Locals) (ow : ι → Own → Prop) (μ : ι → Nat) (x0 : ι) (O0 : Own) (ho : ow x0 O0)
    (round:∀ x O,ow x O→c.sf P M n (thenF (fun L O=>∃ y,μ y < μ x∧(va y).sub L∧pickL L is = some K∧∃ O' R,Sp O O' R∧ow y O') Q) (va x++K) O h) (hp:pickL L is = some K:=by rfl) (h0:(va x0).sub L:=by repeat (first|exact trivial|refine ⟨by rfl,?_⟩)) [sp:Sp O O0 R]:(Code.loop c).sf P M n Q L O h:=by
  refine sf_loop (ι:=ι) (fun x L O=>L = va x++K∧ow x O) μ x0 (va x0++K) O0 ⟨rfl,ho⟩ (sub_app h0 (pickL_sub hp)) ?_
  rintro x L O ⟨rfl,h2⟩
  refine sf_mono (round x O h2) fun e L O q=>?_
  cases e with
  | nrm=>
    obtain ⟨y,q1,q2,q3,O',R',q4,q5⟩:=q
    exact ⟨y,va y++K,O',q1,⟨rfl,q5⟩,sub_app q2 (pickL_sub q3),R',q4⟩
  | _=>exact q
theorem sf_rd {c : Code} {K : Locals} (is : List Nat) (i : Nat) (N k0 : Nat) (I : Nat → Prop) (hk : k0 ≤ N) (i0 : I k0)
    (round:∀ k:Nat,k ≤ N→I k→c.sf P M n (thenF (fun L O'=>(k < N∧I (k + 1))∧L.get i = some (.int .i64 ((k + 1:Nat):Int))∧pickL L is = some K∧∃ R,Sp O' O R) Q) ((i,.int .i64 (k:Int)) :: K) O h) (hp:pickL L is = some K:=by rfl) (h0:L.get i = some (.int .i64 (k0:Int)):=by rfl):(Code.loop c).sf P M n Q L O h:=by
  haveI:Sp O O []:=⟨by simp⟩
  refine sf_lp (ι:=Nat) (K:=K) is (fun k=>[(i,.int .i64 (k:Int))]) (fun k O'=>O' = O∧k ≤ N∧I k) (fun k=>N - k) k0 O ⟨rfl,hk,i0⟩ ?_ hp ⟨h0,trivial⟩
  rintro k O' ⟨rfl,h1,h2⟩
  refine sf_mono (round k h1 h2) fun e L O q=>?_
  cases e with
  | nrm=>
    obtain ⟨⟨q1,q2⟩,q3,q4,R',q5⟩:=q
    exact ⟨k + 1,by show N - (k + 1) < N - k; omega,⟨q3,trivial⟩,q4,_,R',q5,rfl,by omega,q2⟩
  | _=>exact q
end
section
variable {P:Program} {M:Jdg→Prop} {n:Nat} {Q:Qf} {L:Locals} {O R:Own} {h:PHeap} {ops:Array Oper} {rest:List Oper}
  {d:Nat} {ty:TypeId} {pos:String} {af:Array Edge} {g:Option (Nat × Bool)} {t e:TypeId} {size bytes:Nat} {zero:Value}
theorem z_len {ats : Array TypeId} {args : Array Operand} {v : Value} {α : Type} {E : Flat α} {xs : List α} {tl : List TypeId} (hv : evAll L args.toList = some [v]) (ht : ats.toList = t :: tl) [S : Ty P t (.slice e) size bytes zero] [s : Sl h v E xs] :
    Opq P n ⟨some d,.call { callee:=.builtin .len,args,argTypes:=ats },ty,pos,af,g⟩ L O h (.int .i64 xs.length):=
  q_len hv (by rw [← Array.getElem?_toList,ht]; rfl) S s
theorem z_lenV {ats : Array TypeId} {args : Array Operand} {base : Option Addr} {len cap : Nat} {tl : List TypeId} (hv : evAll L args.toList = some [.slice base len cap]) (ht : ats.toList = t :: tl) [S : Ty P t (.slice e) size bytes zero] :
    Opq P n ⟨some d,.call { callee:=.builtin .len,args,argTypes:=ats },ty,pos,af,g⟩ L O h (.int .i64 len):=
  q_lenV hv (by rw [← Array.getElem?_toList,ht]; rfl) S
theorem z_indexS {size' bytes' : Nat} {zero' v : Value} {D : TypeDesc} {x i : Operand} {α : Type} {E : Flat α} {xs : List α} {k : Nat} (hx : ev L x = some v) (hi : ev L i = some (.int .i64 (k : Int))) (s : Sl h v E xs) (hk : k < xs.length) [S : Ty P t (.slice e) size' bytes' zero'] [T : Ty P e D size bytes zero] :
    Opq P n ⟨some d,.indexAddr t x i,ty,pos,af,g⟩ L O h (.pointer (some ⟨vb v,vo v + k * size + 0,none⟩)):=
  q_indexS S T hx hi s (Int.natCast_nonneg _) (by simpa using hk)
theorem Gr.len {A:Own} {v:Value} {T:TypeId} {α:Type} {E:Flat α} {xs:List α} (g:Gr A v T E xs):∃ base cap,v = .slice base xs.length cap:=by
  rcases g.at' with ⟨rfl,rfl,rfl⟩ | ⟨_,_,_,rfl,rfl,_⟩
  · exact ⟨_,_,rfl⟩
  · exact ⟨_,_,rfl⟩
theorem z_lenG {ats : Array TypeId} {args : Array Operand} {v : Value} {A : Own} {T : TypeId} {α : Type} {E : Flat α} {xs : List α} {tl : List TypeId} (hv : evAll L args.toList = some [v]) (ht : ats.toList = t :: tl) (gr : Gr A v T E xs) [S : Ty P t (.slice e) size bytes zero] :
    Opq P n ⟨some d,.call { callee:=.builtin .len,args,argTypes:=ats },ty,pos,af,g⟩ L O h (.int .i64 xs.length):=by
  obtain ⟨base,cap,rfl⟩:=gr.len
  exact q_lenV hv (by rw [← Array.getElem?_toList,ht]; rfl) S
end
section
variable {P:Program} {M:Jdg→Prop} [hM:IsCl P M] {n:Nat} {Q:Qf} {L:Locals} {O R A:Own} {h:PHeap} {ops:Array Oper} {rest:List Oper}
  {d:Nat} {ty:TypeId} {pos:String} {af:Array Edge} {g:Option (Nat × Bool)} {op:Op} {f:FuncId} {args:Array Operand} {ats:Array TypeId} {vs:List Value} {RR:Value→Own→Prop} {v:Value}
theorem y_gF {j dj:Nat} {want b:Bool} (hj:(ops[j]?).bind (·.dst) = some dj) (hb:L.get dj = some (.bool b)) (hbw:b = !want) (k:sfOps P M n ops Q rest ((d,undef) :: L) O h) (hd:dstOk n (some d) = true:=by rfl):sfOps P M n ops Q (⟨some d,op,ty,pos,af,some (j,want)⟩ :: rest) L O h:=f_gF hj hb hbw k hd
theorem y_gU {j dj:Nat} {want:Bool} (hj:(ops[j]?).bind (·.dst) = some dj) (hb:L.get dj = some undef) (k:sfOps P M n ops Q rest ((d,undef) :: L) O h) (hd:dstOk n (some d) = true:=by rfl):sfOps P M n ops Q (⟨some d,op,ty,pos,af,some (j,want)⟩ :: rest) L O h:=f_gU hj hb k hd
omit hM in
theorem y_call [Fu : Fun P f] (C : CallF P M f vs A h RR) (hv : evAll L args.toList = some vs) [sp : Sp O A R] (k : ∀ v A', RR v A' → sfOps P M n ops Q rest ((d, v) :: L) (A' ++ R) h) :
    Do1 P M n ops Q ⟨some d,.call { callee:=.value (.func f),args,argTypes:=ats },ty,pos,af,g⟩ rest L O h:=x_call C hv k
omit hM in
theorem y_callV [Fu : Fun P f] (C : CallV P M f vs h v) (hv : evAll L args.toList = some vs) (k : sfOps P M n ops Q rest ((d, v) :: L) O h) :
    Do1 P M n ops Q ⟨some d,.call { callee:=.value (.func f),args,argTypes:=ats },ty,pos,af,g⟩ rest L O h:=x_callV C hv k
omit hM in
theorem y_lend [Fu : Fun P f] (B : Own) (C : ∀ h', Le h h' → InB h' B → CallF P M f vs A h' RR) (hv : evAll L args.toList = some vs) [sp : Sp O (B ++ A) R] (k : ∀ v A', RR v A' → sfOps P M n ops Q rest ((d, v) :: L) (A' ++ (B ++ R)) h) :
    Do1 P M n ops Q ⟨some d,.call { callee:=.value (.func f),args,argTypes:=ats },ty,pos,af,g⟩ rest L O h:=x_lend B C hv k
omit hM in
theorem y_lendV [Fu : Fun P f] (B : Own) (C : ∀ h', Le h h' → InB h' B → CallV P M f vs h' v) (hv : evAll L args.toList = some vs) [sp : Sp O B R] (k : sfOps P M n ops Q rest ((d, v) :: L) O h) :
    Do1 P M n ops Q ⟨some d,.call { callee:=.value (.func f),args,argTypes:=ats },ty,pos,af,g⟩ rest L O h:=x_lendV B C hv k
omit hM in
theorem y_callC {fo : Operand} {first captured : Array Value} [Fu : Fun P f] (C : CallF P M f (first.toList ++ vs ++ captured.toList) A h RR) (hf : ev L fo = some (.func (.func f) first captured)) (hv : evAll L args.toList = some vs) [sp : Sp O A R] (k : ∀ v A', RR v A' → sfOps P M n ops Q rest ((d, v) :: L) (A' ++ R) h) :
    Do1 P M n ops Q ⟨some d,.call { callee:=.value fo,args,argTypes:=ats },ty,pos,af,g⟩ rest L O h:=x_callC hf hv C k
omit hM in
theorem y_callCV {fo : Operand} {first captured : Array Value} [Fu : Fun P f] (C : CallV P M f (first.toList ++ vs ++ captured.toList) h v) (hf : ev L fo = some (.func (.func f) first captured)) (hv : evAll L args.toList = some vs) (k : sfOps P M n ops Q rest ((d, v) :: L) O h) :
    Do1 P M n ops Q ⟨some d,.call { callee:=.value fo,args,argTypes:=ats },ty,pos,af,g⟩ rest L O h:=x_callCV hf hv C k
end
structure Cell where
  kind:Int
  light:Int
deriving Inhabited,DecidableEq
structure Edit where
  at':Int
  cell:Cell
deriving Inhabited,DecidableEq
def intF:Flat Int:=⟨1,fun x=>[.int .i64 x],fun _=>rfl⟩
def boolF:Flat Bool:=⟨1,fun x=>[.bool x],fun _=>rfl⟩
def cellF:Flat Cell:=⟨2,fun c=>[.int .i64 c.kind,.int .i64 c.light],fun _=>rfl⟩
def editF:Flat Edit:=⟨3,fun c=>[.int .i64 c.at',.int .i64 c.cell.kind,.int .i64 c.cell.light],fun _=>rfl⟩
instance {x:Int}:FlatV intF x [.int .i64 x]:=⟨rfl⟩
instance {x:Bool}:FlatV boolF x [.bool x]:=⟨rfl⟩
instance {x:Cell}:FlatV cellF x [.int .i64 x.kind,.int .i64 x.light]:=⟨rfl⟩
instance {x:Edit}:FlatV editF x [.int .i64 x.at',.int .i64 x.cell.kind,.int .i64 x.cell.light]:=⟨rfl⟩
structure Grid where
  wide:Int
  cells:List Cell
deriving Inhabited,DecidableEq
def GridB (h:PHeap) (v:Value) (g:Grid):Prop:=∃ c,v = .agg #[.int .i64 g.wide,c]∧Sl h c cellF g.cells
theorem take_succ_gt {α:Type} [Inhabited α] {xs:List α} {k:Nat} (h:k < xs.length):xs.take (k + 1) = xs.take k++[gt xs k]:=by
  rw [gt_eq h]; exact List.take_succ_eq_append_getElem h
theorem all_take {α:Type} [Inhabited α] {p:α→Bool} {xs:List α} {k:Nat} (h:k < xs.length):(xs.take (k + 1)).all p = ((xs.take k).all p && p (gt xs k)):=by
  rw [take_succ_gt h]; simp
theorem all_false {α:Type} [Inhabited α] {p:α→Bool} {xs:List α} {k:Nat} (h:k < xs.length) (hp:p (gt xs k) = false):xs.all p = false:=by
  cases e:xs.all p with
  | false=>rfl
  | true=>
    rw [List.all_eq_true] at e
    rw [e _ (by rw [gt_eq h]; exact List.getElem_mem h)] at hp; cases hp
theorem take_ge {α:Type} {xs:List α} {k:Nat} (h1:k ≤ xs.length) (h2:¬ k < xs.length):xs.take k = xs:=List.take_of_length_le (by omega)
def GridO (T:TypeId) (A:Own) (v:Value) (g:Grid):Prop:=∃ c,v = .agg #[.int .i64 g.wide,c]∧Gr A c T cellF g.cells
theorem Gr.lent {A:Own} {v:Value} {T:TypeId} {α:Type} {E:Flat α} {xs:List α} (g:Gr A v T E xs) (hs:xs.length ≤ 281474976710656) {h:PHeap} (i:InB h A):Sl h v E xs:=by
  rcases g.at' with ⟨rfl,rfl,rfl⟩ | ⟨b,cap,sp,rfl,rfl,h1,h2⟩
  · exact Sl.nil _ _
  · refine ⟨hs,.inr ⟨cap,rfl,h2,?_⟩⟩
    refine cells_flat (fun j v e=>?_)
    rw [add_none]
    have e0:=i.at' b (.cells (xs.flatMap E.f++sp).toArray T) (by simp)
    simp only [vo,vb]
    rw [cell_of e0]
    have hj:j < (xs.flatMap E.f).length:=by
      rcases Nat.lt_or_ge j (xs.flatMap E.f).length with h | h
      · exact h
      · rw [List.getElem?_eq_none h] at e; cases e
    simp only [Nat.zero_add,List.getElem?_toArray]
    rw [List.getElem?_append_left hj]; exact e
theorem GridO.lent {T:TypeId} {A:Own} {v:Value} {g:Grid} (o:GridO T A v g) (hs:g.cells.length ≤ 281474976710656) {h:PHeap} (i:InB h A):GridB h v g:=
  let ⟨c,e,gr⟩:=o; ⟨c,e,gr.lent hs i⟩
theorem set_step {α:Type} [Inhabited α] {xs:List α} {k:Nat} {d:α} (h:k < xs.length):(xs.take k++List.replicate (xs.length - k) d).set k (gt xs k) = xs.take (k + 1)++List.replicate (xs.length - (k + 1)) d:=by
  rw [take_succ_gt h,List.set_append_right _ _ (by simp; omega),List.append_assoc]
  congr 1
  have:xs.length - k = (xs.length - (k + 1)) + 1:=by omega
  rw [this,List.replicate_succ]
  simp [Nat.min_eq_left (Nat.le_of_lt h)]
def cellOk (c:Cell):Bool:=if c.kind = 7 then decide (1 ≤ c.light) && decide (c.light ≤ 9) else decide (0 ≤ c.kind) && decide (c.kind ≤ 6) && decide (c.light = 0)
def gridOk (g:Grid):Bool:=decide (1 ≤ g.wide) && decide (g.wide ≤ 5) && decide ((g.cells.length:Int) % g.wide = 0) && decide (1 ≤ (g.cells.length:Int) / g.wide) && decide ((g.cells.length:Int) / g.wide ≤ 5) && g.cells.all cellOk
def xorN (a b:Int):Int:=((a.toNat ^^^ b.toNat:Nat):Int)
theorem xorN_nonneg (a b:Int):0 ≤ xorN a b:=Int.natCast_nonneg _
section
variable {P:Program} {n:Nat} {L:Locals} {O:Own} {h:PHeap} {d:Option Nat} {t t' ty:TypeId} {pos:String} {af:Array Edge} {g:Option (Nat × Bool)} {x y:Operand} {a b:Int}
theorem q_xor64 (hx:ev L x = some (.int .i64 a)) (hy:ev L y = some (.int .i64 b)) (hh:0 ≤ a∧a < 4611686018427387904∧0 ≤ b∧b < 4611686018427387904):Opq P n ⟨d,.binOp .xor t x y t',ty,pos,af,g⟩ L O h (.int .i64 (xorN a b)):=by
  refine q_of fun _ _ _ kk=>o_bin hx hy (fun K E=>?_) kk
  have e:binOp .xor t (.int .i64 a) (.int .i64 b) = .pure (.int .i64 (xorN a b)):=by
    obtain ⟨m,rfl⟩:∃ m:Nat,a = m:=⟨a.toNat,by omega⟩
    obtain ⟨k,rfl⟩:∃ k:Nat,b = k:=⟨b.toNat,by omega⟩
    have hx:m ^^^ k < 2 ^ 62:=Nat.xor_lt_two_pow (by omega) (by omega)
    have h1:(BitVec.ofInt 64 (m:Int)).toNat = m:=by
      rw [BitVec.ofInt_natCast,BitVec.toNat_ofNat]; exact Nat.mod_eq_of_lt (by omega)
    have h2:(BitVec.ofInt 64 (k:Int)).toNat = k:=by
      rw [BitVec.ofInt_natCast,BitVec.toNat_ofNat]; exact Nat.mod_eq_of_lt (by omega)
    show Sem.pure (Value.int .i64 (IntKind.i64.wrap ((BitVec.ofInt 64 (m:Int) ^^^ BitVec.ofInt 64 (k:Int)).toNat:Int))) = _
    rw [BitVec.toNat_xor,h1,h2,IntKind.wrap_i64]
    have e2:xorN (m:Int) (k:Int) = ((m ^^^ k:Nat):Int):=rfl
    rw [e2]
    generalize m ^^^ k = z at hx
    exact congrArg (fun q:Int=>(Sem.pure (Value.int .i64 q):Sem Value)) (by omega)
  rw [e]; rfl
theorem q_conv8 {D:TypeDesc} {size bytes size' bytes':Nat} {zero zero':Value} {c:Fin 256} (S:Ty P t D size bytes zero) (T:Ty P t' (.int .i64) size' bytes' zero') (hx:ev L x = some (.int .u8 (c.val:Int))):Opq P n ⟨d,.convert t t' x,ty,pos,af,g⟩ L O h (.int .i64 (c.val:Int)):=by
  have:=q_convert (P:=P) (n:=n) (O:=O) (h:=h) (d:=d) (ty:=ty) (pos:=pos) (af:=af) (g:=g) S T hx
  rwa [show IntKind.i64.wrap (c.val:Int) = (c.val:Int) by rw [IntKind.wrap_i64]; have:=c.isLt; omega] at this
end
end Go.Sl

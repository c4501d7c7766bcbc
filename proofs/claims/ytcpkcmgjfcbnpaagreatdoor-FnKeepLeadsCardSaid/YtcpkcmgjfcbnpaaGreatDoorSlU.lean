/- The fork of four workers and their join: what is held of the machine; other participants under a step. No program. -/
import Derived.Test.YtcpkcmgjfcbnpaaGreatDoorSlT
set_option linter.unusedVariables false
set_option linter.unusedSimpArgs false
set_option linter.unusedSectionVars false

namespace Go.Sl
open Go Go.Conc PHeap
open Go.ConcN (WgLive PayAt Has RW DWs AsideCell AtR0 AtK1 AtD1 AtD2 AtD3 AtD4 RelBy sumTo upd sumTo_upd upd_ne upd_same WSit)
open Go.ConcR (KK wgBlock WgAt stA smA rd wr mk Payload DC0)
inductive Wk where
  | bd (r:Rk)
  | sit (s m:Nat)
def Wk.s:Wk→Nat
  | .bd _=>8
  | .sit s _=>s
def Wk.cnt (k:Wk):Nat:=if 5 ≤ k.s then 1 else 0
def Wk.rk:Wk→Nat × Rk
  | .bd r=>(8,r)
  | .sit s m=>(s,.nat m)
def RelD (F:Fk) (T0:Nat) (t:Trace) (n:Nat):Prop:=∃ r,T0 ≤ r∧RelBy (stA F.Wg) t n r∧∀ x,r < x→t.g? x = some n→∀ a,touchAt t x = some a→blk a.loc = some F.Wg
@[reducible] def Fk.Sit (F:Fk) (C:Nat) (v:Value) (s m d:Nat) (g:Goroutine) (w:World):Prop:=
  @WSit F.pay F.P F.ty F.Wg C 1 (fun _ _=>False) (fun _ _=>False) 0 1 v s m d g w
def WkAt (F:Fk) (T0:Nat) (t:Trace) (w:World) (i n C:Nat) (v:Value) (H:PHeap) (g:Goroutine):Wk→Prop
  | .bd r=>WT F i C v r H g∧Deaf t n = 0∧(H.gh = [0] ∨ (H.gh = [1]∧H.obj C = none∧w.heap[C]? = some (.cells #[v] F.it (0,0))))
  | .sit s m=>F.Sit C v s m (Deaf t n) g w∧H.gh = [1]∧H.obj C = none∧(s < 7→RelD F T0 t n)∧s ≠ 8
theorem RelD.app {F:Fk} {T0:Nat} {t u:Trace} {n:Nat} (h:RelD F T0 t n) (hu:∀ x op,t.size ≤ x→(t++u)[x]? = some op→op.g = n→op.act.touch? = none ∨ ((∀ a,op.act.touch? = some a→blk a.loc = some F.Wg∧a.kind = .atomic)∧¬ (t++u).heard x)):RelD F T0 (t++u) n:=by
  obtain ⟨r,h0,h1,h2⟩:=h
  have hr:r < t.size:=lt_of_act? h1.act
  refine ⟨r,h0,h1.app fun i hi hg hc=>?_,fun x hx hg a ha=>?_⟩
  · obtain ⟨a,ha,hm,hk⟩:=hc
    obtain ⟨op,ho,hoa⟩:=touch_of ha
    have hg':=hg
    rw [g?_of ho] at hg'
    rcases hu i op hi ho (Option.some.inj hg') with y | ⟨y1,y2⟩
    · rw [y] at hoa; cases hoa
    · rcases hk with hk | hk
      · exact hk (y1 a hoa).2
      · exact y2 hk
  · rcases Nat.lt_or_ge x t.size with hlt | hge
    · rw [touchAt_old hlt] at ha
      rw [g?_old hlt] at hg
      exact h2 x hx hg a ha
    · obtain ⟨op,ho,hoa⟩:=touch_of ha
      have hg':=hg
      rw [g?_of ho] at hg'
      rcases hu x op hge ho (Option.some.inj hg') with y | ⟨y1,_⟩
      · rw [y] at hoa; cases hoa
      · exact (y1 a hoa).1
theorem RelD.away {F:Fk} {T0:Nat} {t u:Trace} {n:Nat} (h:RelD F T0 t n) (hu:∀ op ∈ u,op.g ≠ n):RelD F T0 (t++u) n:=
  h.app fun x op hx ho hg=>absurd hg (by
    rcases getElem?_append_cases ho with ⟨hlt,_⟩ | ⟨_,hou⟩
    · omega
    · exact hu op hou)
theorem RelD.deaf {F : Fk} {T0 : Nat} {t : Trace} {n : Nat} {fn : FuncId} {pos : String} {es : Array Event} (h : RelD F T0 t n)
    (he:∀ k e,es[k]? = some e→(MemAct.ofEvent e).touch? = none ∨ ((∀ a,(MemAct.ofEvent e).touch? = some a→blk a.loc = some F.Wg∧a.kind = .atomic)∧deafBehind (Deaf t n) (es.extract 0 k) ≠ 0)):RelD F T0 (t++MemOp.ofEvents n fn pos es) n:=
  h.app fun x op hx ho hg=>by
    have hk:(MemOp.ofEvents n fn pos es)[x - t.size]? = some op:=by rw [Array.getElem?_append_right hx] at ho; exact ho
    rw [ofEvents_eq,Array.getElem?_map] at hk
    obtain ⟨e,hee,rfl⟩:=Option.map_eq_some_iff.1 hk
    rcases he _ e hee with y | ⟨y1,y2⟩
    · exact .inl y
    · refine .inr ⟨y1,fun ⟨g,h1,h2⟩=>y2 ?_⟩
      rw [g?_of ho] at h1
      obtain rfl:n = g:=Option.some.inj h1
      have hlt:x - t.size < es.size:=(Array.getElem?_eq_some_iff.1 hee).1
      have:=deaf_inside t n fn pos es (x - t.size) (by omega)
      rw [show t.size + (x - t.size) = x by omega] at this
      rw [this] at h2
      exact h2
theorem rw1 {F:Fk} {w w':World} {C:Nat} (hl:WgLive F.ty F.Wg w') (hC:w'.heap[C]? = w.heap[C]?):@RW F.pay F.ty F.Wg C 1 0 0 w w':=
  letI:=F.pay
  ⟨fun b hb=>absurd hb (Nat.not_lt_zero _),fun _=>hl,fun ⟨cs,h1,h2⟩=>⟨cs,hC.trans h1,h2⟩,Go.ConcN.cell_of_block hC 0⟩
theorem sit_rely {F:Fk} {w w':World} {C:Nat} {v:Value} {s m d:Nat} {g:Goroutine} (h:F.Sit C v s m d g w) (hr:@RW F.pay F.ty F.Wg C 1 0 0 w w'):F.Sit C v s m d g w':=
  letI:=F.pay
  WSit.rely h hr
theorem WkAt.other {F : Fk} {T0 : Nat} {t u : Trace} {w w' : World} {i n C : Nat} {v : Value} {H : PHeap} {g : Goroutine} {k : Wk} (h : WkAt F T0 t w i n C v H g k) (hu : ∀ op ∈ u, op.g ≠ n) (hD : Deaf (t ++ u) n = Deaf t n)
    (hl:WgLive F.ty F.Wg w') (hC:w'.heap[C]? = w.heap[C]?):WkAt F T0 (t++u) w' i n C v H g k:=by
  cases k with
  | bd r=>
    obtain ⟨h1,h2,h3⟩:=h
    exact ⟨h1,hD.trans h2,h3.imp id fun ⟨a,b,c⟩=>⟨a,b,hC.trans c⟩⟩
  | sit s m=>
    obtain ⟨h1,h2,h3,h4,h5⟩:=h
    exact ⟨by rw [hD]; exact sit_rely h1 (rw1 hl hC),h2,h3,fun x=>(h4 x).away hu,h5⟩
theorem WT.running {F:Fk} {i C:Nat} {v:Value} {r:Rk} {h:PHeap} {g:Goroutine} (x:WT F i C v r h g):g.status = .running:=by
  cases r with
  | z=>exact x.elim
  | nd f=>exact x.1
theorem MT.running {F:Fk} {r:Rk} {h:PHeap} {g:Goroutine} (x:MT F r h g):g.status = .running:=by
  cases r with
  | z=>exact x.elim
  | nd f=>exact x.1
theorem sit_status {F:Fk} {w:World} {C:Nat} {v:Value} {s m d:Nat} {g:Goroutine} (h:F.Sit C v s m d g w):g.status = .running ∨ (s = 1∧∃ q e,QuitsD F.P q e g):=by
  letI:=F.pay
  have rf:@RW F.pay F.ty F.Wg C 1 0 0 w w:=Go.ConcN.RW.refl w
  cases h with
  | r0 h=>exact .inl (h.running (fun _ _ x=>x.1) w rf)
  | k1 h=>exact .inl (h.running (fun _ _ x=>x.1) w rf)
  | d1 h=>exact .inl (h.running (fun _ _ x=>x.1) w rf)
  | d2 h=>exact .inl (h.running (fun _ _ x=>x.1) w rf)
  | d3 h=>exact .inl (h.running (fun _ _ x=>x.1) w rf)
  | d4 h=>exact .inl (h.running (fun _ _ x=>x.1) w rf)
  | quit h=>exact .inr ⟨rfl,_,_,h⟩
theorem WkAt.woken {F:Fk} {T0:Nat} {t:Trace} {w w':World} {i n C:Nat} {v:Value} {H:PHeap} {g:Goroutine} {k:Wk} (h:WkAt F T0 t w i n C v H g k) (a a':Goroutine):woken F.P a a' w' g = g:=by
  cases k with
  | bd r=>exact woken_run h.1.running
  | sit s m=>
    rcases sit_status h.1 with x | ⟨_,q,e,x⟩
    · exact woken_run x
    · exact woken_quitsD x
theorem WkAt.status {F:Fk} {T0:Nat} {t:Trace} {w:World} {i n C:Nat} {v:Value} {H:PHeap} {g:Goroutine} {k:Wk} (h:WkAt F T0 t w i n C v H g k):g.status = .running ∨ (k.s = 1∧g.status = .finished):=by
  cases k with
  | bd r=>exact .inl h.1.running
  | sit s m=>
    rcases sit_status h.1 with x | ⟨y,q,e,x⟩
    · exact .inl x
    · rcases x.status with z | z
      · exact .inl z
      · exact .inr ⟨y,z⟩
def Mode (j:Nat) (ws:Nat→Wk) (wt sm:Nat):Nat→Prop
  | 0=>wt = 0∧sm = 0∧∀ i,i < j→5 ≤ (ws i).s ∨ (ws i).s = 1
  | 1 => (wt = 1 ∧ sm = 0 ∧ (∀ i, i < j → 5 ≤ (ws i).s ∨ (ws i).s = 1) ∧ ∃ i, i < j ∧ 5 ≤ (ws i).s) ∨
         (wt = 1∧sm = 0∧∃ i,i < j∧((ws i).s = 4 ∨ (ws i).s = 3)∧∀ i',i' < j→i' ≠ i→(ws i').s = 1) ∨
         (wt = 0∧sm = 0∧∃ i,i < j∧(ws i).s = 2∧∀ i',i' < j→i' ≠ i→(ws i').s = 1) ∨
         (wt = 0∧sm = 1∧∀ i,i < j→(ws i).s = 1)
  | _=>wt = 0∧sm = 0∧∀ i,i < j→(ws i).s = 1
structure Rows (F:Fk) (k0 j:Nat) (w:World) (H:Nat→PHeap) (rows:List (Nat × Value)):Prop where
  ch:w.heap[F.Ch]? = some (.chan 4 (rows.map Prod.snd).toArray false rows.length 0 false)
  nd:(rows.map Prod.fst).Nodup
  row:∀ x ∈ rows,x.1 < j∧(H (k0 + x.1)).gh = [1]∧∃ S:PHeap,(∀ b o,S.obj b = some o→(H (k0 + x.1)).obj b = some o∧(H (k0 + x.1)).wr b = false)∧F.Row x.1 x.2 S
  all:∀ i,i < j→(H (k0 + i)).gh = [1]→i ∈ rows.map Prod.fst
structure Hold (F:Fk) (k0 j:Nat) (w:World) (H:Nat→PHeap) (Cs:Nat→Nat):Prop where
  no:∀ n,act k0 (k0 + j) n→(H n).obj F.Wg = none∧(H n).obj F.Ch = none
  old:∀ n,act k0 (k0 + j) n→OldRo F.W (H n)
  new:∀ n,act k0 (k0 + j) n→∀ b,((H n).obj b).isSome = true→(F.h0.obj b).isSome = true ∨ F.W.heap.size ≤ b
  cs:∀ i,i < j→Cs i ≠ F.Wg∧Cs i ≠ F.Ch∧Cs i < w.heap.size∧F.W.heap.size ≤ Cs i
  inj:∀ i i',i < j→i' < j→i ≠ i'→Cs i ≠ Cs i'
  co:∀ i,i < j→∀ n,act k0 (k0 + j) n→n ≠ k0 + i→(H n).obj (Cs i) = none
  lt:F.Wg < w.heap.size∧F.Ch < w.heap.size
  kept:Kept F.W w
structure Fk.Ok (F:Fk):Prop where
  ne:F.Wg ≠ F.Ch
  wg:F.W.heap.size ≤ F.Wg
  ch:F.W.heap.size ≤ F.Ch
  h0:OldRo F.W F.h0
  k:∀ b,b = F.Wg ∨ b = F.Ch→F.h0.obj b = none
structure Core (F:Fk) (T0 k0 j:Nat) (gs:Array Goroutine) (w:World) (t:Trace) (H:Nat→PHeap) (Cs:Nat→Nat) (vs:Nat→Value) (ws:Nat→Wk) (q:Nat→Nat) (rows:List (Nat × Value)) (p wt sm:Nat):Prop where
  k1:1 ≤ k0
  t0:T0 ≤ t.size
  sz:gs.size = k0 + j
  fam:Fam w t (act k0 (k0 + j)) H
  tr:Tr F T0 k0 (k0 + j) H t
  leav:∀ i g,0 < i→i < k0→gs[i]? = some g→QuitsD F.P (q i) (Deaf t i) g
  above:∀ m,k0 + j ≤ m→Deaf t m = 0
  wk:∀ i,i < j→∃ g,gs[k0 + i]? = some g∧WkAt F T0 t w i (k0 + i) (Cs i) (vs i) (H (k0 + i)) g (ws i)
  wg:WgAt F.ty F.Wg w (((sumTo j (fun i=>(ws i).cnt) + p:Nat):Int) * KK + (wt:Int)) (sm:Int)
  rows:Rows F k0 j w H rows
  hold:Hold F k0 j w H Cs
section
variable {F:Fk} {T0 k0 j:Nat} {gs:Array Goroutine} {w:World} {t:Trace} {H:Nat→PHeap} {Cs:Nat→Nat} {vs:Nat→Value} {ws:Nat→Wk} {q:Nat→Nat} {rows:List (Nat × Value)} {p wt sm:Nat}
theorem Core.live (K:Core F T0 k0 j gs w t H Cs vs ws q rows p wt sm):WgLive F.ty F.Wg w:=⟨_,_,K.wg⟩
theorem Core.step (K : Core F T0 k0 j gs w t H Cs vs ws q rows p wt sm) {n : Nat} {g' : Goroutine} {gs' : Array Goroutine} {w' : World} {u : Trace} {h' : PHeap} {ws' : Nat → Wk} {q' : Nat → Nat} {rows' : List (Nat × Value)} {p' wt' sm' : Nat}
    (hu:∀ op ∈ u,op.g = n) (hn:n < k0 + j)
    (hsz:gs'.size = gs.size) (hgn:gs'[n]? = some g') (hgo:∀ m,0 < m→m ≠ n→gs'[m]? = gs[m]?)
    (fam':Fam w' (t++u) (act k0 (k0 + j)) (updH H n h')) (tr':Tr F T0 k0 (k0 + j) (updH H n h') (t++u))
    (hC:∀ i,i < j→k0 + i ≠ n→w'.heap[Cs i]? = w.heap[Cs i]?)
    (hws:∀ i,i < j→k0 + i ≠ n→ws' i = ws i) (own:∀ i,i < j→k0 + i = n→WkAt F T0 (t++u) w' i n (Cs i) (vs i) h' g' (ws' i))
    (hq:∀ m,m ≠ n→q' m = q m) (lv:0 < n→n < k0→QuitsD F.P (q' n) (Deaf (t++u) n) g')
    (wg':WgAt F.ty F.Wg w' (((sumTo j (fun i=>(ws' i).cnt) + p':Nat):Int) * KK + (wt':Int)) (sm':Int))
    (rws':Rows F k0 j w' (updH H n h') rows') (hold':Hold F k0 j w' (updH H n h') Cs) :
    Core F T0 k0 j gs' w' (t++u) (updH H n h') Cs vs ws' q' rows' p' wt' sm':=by
  have ho:∀ m,m ≠ n→Deaf (t++u) m = Deaf t m:=fun m hm=>Deaf_other t (g':=n) (fun e=>hm e.symm) _ hu
  refine ⟨K.k1,by have:=K.t0; simp; omega,hsz.trans K.sz,fam',tr',fun i g hi hk hg=>?_,fun m hm=>?_,fun i hi=>?_,wg',rws',hold'⟩
  · by_cases e:i = n
    · subst e
      rw [hgn] at hg
      obtain rfl:=Option.some.inj hg
      exact lv hi hk
    · rw [hgo i hi e] at hg
      rw [hq i e,ho i e]
      exact K.leav i g hi hk hg
  · rw [ho m (by omega)]; exact K.above m hm
  · by_cases e:k0 + i = n
    · exact ⟨g',by rw [e]; exact hgn,by rw [e,updH_same]; exact own i hi e⟩
    · obtain ⟨g,h1,h2⟩:=K.wk i hi
      have hk1:=K.k1
      refine ⟨g,by rw [hgo (k0 + i) (by omega) e]; exact h1,?_⟩
      rw [hws i hi e,updH_ne _ _ e]
      exact h2.other (fun op hop=>by rw [hu op hop]; exact fun x=>e x.symm) (ho _ e) ⟨_,_,wg'⟩ (hC i hi e)
end
end Go.Sl

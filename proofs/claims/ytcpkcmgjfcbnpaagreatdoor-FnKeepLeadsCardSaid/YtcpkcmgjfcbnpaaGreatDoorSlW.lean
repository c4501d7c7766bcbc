/- The fork of four workers and their join: a worker's steps behind its Done. No program. -/
import Derived.Test.YtcpkcmgjfcbnpaaGreatDoorSlV
set_option linter.unusedVariables false
set_option linter.unusedSimpArgs false
set_option linter.unusedSectionVars false

namespace Go.Sl
open Go Go.Conc
open Go.ConcN (WgLive PayAt Has RW DWs AsideCell AtR0 AtK1 AtD1 AtD2 AtD3 AtD4 RelBy sumTo upd sumTo_upd upd_ne upd_same sumTo_congr WSit le_sumTo)
open Go.ConcR (KK wgBlock WgAt stA smA rd wr mk Payload DC0)
theorem goes0 {P : Program} {R : World → World → Prop} {Stop : Goroutine → World → Prop} {n : Nat} {g : Goroutine} {w : World} (h : Goes P false R DC0 Stop n g w) (rf : R w w) :
    Stop g w ∨ ∃ m g',n = m + 1∧stepG P false g w = .go g' w #[]∧Goes P false R DC0 Stop m g' w:=by
  cases n with
  | zero=>exact .inl (h w rf)
  | succ n=>
    rcases h with h | ⟨_,h⟩
    · exact .inl (h w rf)
    · have:=h w rf
      cases e:stepG P false g w with
      | go g' w' es=>
        rw [e,goes_go] at this
        obtain ⟨⟨rfl,rfl⟩,hg⟩:=this
        exact .inr ⟨n,g',rfl,rfl,hg⟩
      | _=>rw [e] at this; exact this.elim
theorem asideSet (w:World) (a:Addr) (v:Value):Aside a.block w (w.setCell a v):=
  ⟨by simp [World.setCell],by simp [World.setCell],by simp [World.setCell],by simp [World.setCell],fun b hb=>Go.RowKit.Below.heap_setCell w a v b hb⟩
abbrev PR:Nat × Rk→Nat × Rk→Prop:=Prod.Lex (· < ·) Rk.lt
theorem pr_down {s s' m m':Nat} (h:s' < s ∨ (s' = s∧m = m' + 1)) (w:World):PR (Wk.sit s' m').rk (Wk.sit s m).rk:=by
  rcases h with h | ⟨rfl,rfl⟩
  · exact .left _ _ h
  · exact .right _ (Rk.nat_lt w m')
section
variable {F:Fk} {T0 k0 j:Nat} {gs:Array Goroutine} {w:World} {t:Trace} {H:Nat→PHeap} {Cs:Nat→Nat} {vs:Nat→Value} {ws:Nat→Wk} {q:Nat→Nat} {rows:List (Nat × Value)} {p wt sm:Nat}
theorem updH_self (H:Nat→PHeap) (n:Nat):updH H n (H n) = H:=by funext i; by_cases e:i = n <;> simp [updH,e]
theorem Wk.cnt_le (k:Wk):k.cnt ≤ 1:=by unfold Wk.cnt; split <;> omega
theorem sum_cnt_le (ws:Nat→Wk):∀ j,sumTo j (fun i=>(ws i).cnt) ≤ j
  | 0=>Nat.le_refl _
  | j + 1=>by
    have:=sum_cnt_le ws j
    have:=(ws j).cnt_le
    simp only [sumTo]; omega
theorem sum_cnt_zero {ws:Nat→Wk}:∀ {j:Nat},sumTo j (fun i=>(ws i).cnt) = 0→∀ i,i < j→(ws i).s < 5
  | 0,_,i,hi=>by omega
  | j + 1,h,i,hi=>by
    simp only [sumTo] at h
    rcases Nat.lt_or_ge i j with hlt | hge
    · exact sum_cnt_zero (by omega) i hlt
    · obtain rfl:i = j:=by omega
      have:(ws i).cnt = 0:=by omega
      unfold Wk.cnt at this
      split at this <;> omega
theorem sum_cnt_pos {ws:Nat→Wk} {j:Nat} (h:0 < sumTo j (fun i=>(ws i).cnt)):∃ i,i < j∧5 ≤ (ws i).s:=by
  induction j with
  | zero=>exact absurd h (by simp [sumTo])
  | succ j ih=>
    simp only [sumTo] at h
    by_cases e:5 ≤ (ws j).s
    · exact ⟨j,by omega,e⟩
    · have:(ws j).cnt = 0:=by unfold Wk.cnt; rw [if_neg e]
      obtain ⟨i,h1,h2⟩:=ih (by omega)
      exact ⟨i,by omega,h2⟩
theorem Core.sit (K : Core F T0 k0 j gs w t H Cs vs ws q rows p wt sm) (hF : F.Ok) {i : Nat} (hi : i < j) {g g' : Goroutine} {w' : World} {es : Array Event} {s m s' m' wt' sm' : Nat} (hg : gs[k0 + i]? = some g) (hk : ws i = .sit s m)
    (ho:w'.os = w.os) (hout:w'.output = w.output) (hsize:w'.heap.size = w.heap.size)
    (hb:∀ b,b ≠ F.Wg→b ≠ Cs i→w'.heap[b]? = w.heap[b]?) (he:∀ e ∈ es,GrpEv F (k0 + i) e) (fn:FuncId) (pos:String)
    (hS:F.Sit (Cs i) (vs i) s' m' (deafBehind (Deaf t (k0 + i)) es) g' w') (hrel:s' < 7→RelD F T0 (t++MemOp.ofEvents (k0 + i) fn pos es) (k0 + i)) (h8:s' ≠ 8)
    (wg':WgAt F.ty F.Wg w' (((sumTo j (fun a=>(upd ws i (.sit s' m') a).cnt) + p:Nat):Int) * KK + (wt':Int)) (sm':Int)) :
    Core F T0 k0 j ((gs.map (Go.Conc.woken F.P g g' w')).setIfInBounds (k0 + i) g') w' (t++MemOp.ofEvents (k0 + i) fn pos es) H Cs vs (upd ws i (.sit s' m')) q rows p wt' sm':=by
  obtain ⟨g0,h1,h2⟩:=K.wk i hi
  rw [hg] at h1
  obtain rfl:=Option.some.inj h1
  rw [hk] at h2
  obtain ⟨a1,a2,a3,a4,a5⟩:=h2
  have ha:act k0 (k0 + j) (k0 + i):=.inr ⟨by omega,by omega⟩
  have:=K.grp hF ha (gs':=(gs.map (Go.Conc.woken F.P g g' w')).setIfInBounds (k0 + i) g') (h':=H (k0 + i)) (ws':=upd ws i (.sit s' m')) (g':=g') (by simp) (K.at' hg _ _) (K.others _ _ _ _) ho hout hsize
    (fun b hbw=>by
      by_cases e:b = Cs i
      · exact .inr ⟨i,hi,rfl,e,by rw [e]; exact a3⟩
      · exact .inl (hb b hbw e)) he fn pos (fun b o hb=>⟨hb,rfl⟩) (fun _=>rfl) (fun i' _ hne=>upd_ne _ _ (by omega))
    (fun i' _ hin _=>by
      obtain rfl:i' = i:=by omega
      rw [upd_same]
      exact ⟨by rw [Deaf_own]; exact hS,a2,a3,hrel,h8⟩) (wt':=wt') (sm':=sm') wg'
  rw [updH_self] at this
  exact this
def SitNext (F:Fk) (T0 k0 j:Nat) (gs:Array Goroutine) (w:World) (t:Trace) (H:Nat→PHeap) (Cs:Nat→Nat) (vs:Nat→Value) (ws:Nat→Wk) (q:Nat→Nat) (rows:List (Nat × Value)) (p sm md i:Nat) (g:Goroutine):Prop:=
  ∃ g' w' es k' wt' sm',stepG F.P false g w = .go g' w' es ∧
    Core F T0 k0 j ((gs.map (Go.Conc.woken F.P g g' w')).setIfInBounds (k0 + i) g') w' (t++MemOp.ofEvents (k0 + i) g.frame.fn g.frame.place es) H Cs vs (upd ws i k') q rows p wt' sm' ∧
    PR k'.rk (ws i).rk∧Mode j (upd ws i k') wt' sm' md∧(sm' ≠ sm→∀ o:Goroutine,o.status = .blocked→o.offers = none→Go.Conc.woken F.P g g' w' o = { o with status:=.running })
theorem Core.sitTo (K : Core F T0 k0 j gs w t H Cs vs ws q rows p wt sm) (hF : F.Ok) {md i : Nat} (hi : i < j) {g g' : Goroutine} {w' : World} {es : Array Event} {s m s' m' wt' sm' : Nat} (hg : gs[k0 + i]? = some g) (hk : ws i = .sit s m)
    (hst:stepG F.P false g w = .go g' w' es) (ho:w'.os = w.os) (hout:w'.output = w.output) (hsize:w'.heap.size = w.heap.size)
    (hb:∀ b,b ≠ F.Wg→b ≠ Cs i→w'.heap[b]? = w.heap[b]?) (he:∀ e ∈ es,GrpEv F (k0 + i) e)
    (hS:F.Sit (Cs i) (vs i) s' m' (deafBehind (Deaf t (k0 + i)) es) g' w') (hrel:s' < 7→RelD F T0 (t++MemOp.ofEvents (k0 + i) g.frame.fn g.frame.place es) (k0 + i)) (h8:s' ≠ 8)
    (c':Nat) (hc:c' + (Wk.sit s m).cnt = sumTo j (fun a=>(ws a).cnt) + (Wk.sit s' m').cnt)
    (wg':WgAt F.ty F.Wg w' (((c' + p:Nat):Int) * KK + (wt':Int)) (sm':Int)) (hlt:s' < s ∨ (s' = s∧m = m' + 1))
    (hM:Mode j (upd ws i (.sit s' m')) wt' sm' md) (hwk:sm' ≠ sm→∀ o:Goroutine,o.status = .blocked→o.offers = none→Go.Conc.woken F.P g g' w' o = { o with status:=.running }) :
    SitNext F T0 k0 j gs w t H Cs vs ws q rows p sm md i g:=by
  have hsum:=sumTo_upd ws (.sit s' m') Wk.cnt hi
  have e:sumTo j (fun a=>(upd ws i (.sit s' m') a).cnt) = c':=by rw [hk] at hsum; omega
  exact ⟨g',w',es,_,wt',sm',hst,K.sit hF hi hg hk ho hout hsize hb he _ _ hS hrel h8 (by rw [e]; exact wg'),by rw [hk]; exact pr_down hlt w,hM,hwk⟩
theorem relD_new {n:Nat} (h0:T0 ≤ t.size) (hD:Deaf t n = 0) (fn:FuncId) (pos:String):RelD F T0 (t++MemOp.ofEvents n fn pos #[mk (.releaseMerge (stA F.Wg))]) n:=by
  have e:MemOp.ofEvents n fn pos #[mk (.releaseMerge (stA F.Wg))] = #[{ g:=n,fn,pos,act:=.mark (.releaseMerge (stA F.Wg)) }]:=by simp [ofEvents_eq,mk,MemAct.ofEvent]
  rw [e]
  have hl:(t++#[({ g:=n,fn,pos,act:=.mark (.releaseMerge (stA F.Wg)) }:MemOp)])[t.size]? = some { g:=n,fn,pos,act:=.mark (.releaseMerge (stA F.Wg)) }:=by rw [Array.getElem?_append_right (Nat.le_refl _)]; simp
  refine ⟨t.size,h0,⟨by rw [act?_of hl],by rw [g?_of hl],⟨n,by rw [g?_of hl],by rw [deaf_old (Nat.le_refl _)]; exact hD⟩,fun x hx hg=>?_⟩,fun x hx hg=>?_⟩
  · have:=lt_of_g? hg; simp at this; omega
  · have:=lt_of_g? hg; simp at this; omega
theorem Mode.same {ws':Nat→Wk} {md:Nat} (h:Mode j ws wt sm md) (e:∀ a,a < j→(ws' a).s = (ws a).s):Mode j ws' wt sm md:=by
  rcases md with _ | _ | md
  · exact ⟨h.1,h.2.1,fun i hi=>by rw [e i hi]; exact h.2.2 i hi⟩
  · rcases h with ⟨h1,h2,h3,i,h4,h5⟩ | ⟨h1,h2,i,h3,h4,h5⟩ | ⟨h1,h2,i,h3,h4,h5⟩ | ⟨h1,h2,h3⟩
    · exact .inl ⟨h1,h2,fun i hi=>by rw [e i hi]; exact h3 i hi,i,h4,by rw [e i h4]; exact h5⟩
    · exact .inr (.inl ⟨h1,h2,i,h3,by rw [e i h3]; exact h4,fun i' hi' hne=>by rw [e i' hi']; exact h5 i' hi' hne⟩)
    · exact .inr (.inr (.inl ⟨h1,h2,i,h3,by rw [e i h3]; exact h4,fun i' hi' hne=>by rw [e i' hi']; exact h5 i' hi' hne⟩))
    · exact .inr (.inr (.inr ⟨h1,h2,fun i hi=>by rw [e i hi]; exact h3 i hi⟩))
  · exact ⟨h.1,h.2.1,fun i hi=>by rw [e i hi]; exact h.2.2 i hi⟩
theorem Mode.five {md i:Nat} (h:Mode j ws wt sm md) (hi:i < j) (h5:5 ≤ (ws i).s):sm = 0∧(∀ a,a < j→5 ≤ (ws a).s ∨ (ws a).s = 1)∧((md = 0∧wt = 0) ∨ (md = 1∧wt = 1)):=by
  rcases md with _ | _ | md
  · exact ⟨h.2.1,h.2.2,.inl ⟨rfl,h.1⟩⟩
  · rcases h with ⟨h1,h2,h3,_⟩ | ⟨h1,h2,a,h3,h4,hx⟩ | ⟨h1,h2,a,h3,h4,hx⟩ | ⟨h1,h2,h3⟩
    · exact ⟨h2,h3,.inr ⟨rfl,h1⟩⟩
    · by_cases e:i = a
      · subst e; omega
      · have:=hx i hi e; omega
    · by_cases e:i = a
      · subst e; omega
      · have:=hx i hi e; omega
    · have:=h3 i hi; omega
  · have:=h.2.2 i hi; omega
theorem Mode.high {md i s m s' m':Nat} (h:Mode j ws wt sm md) (hi:i < j) (hk:ws i = .sit s m) (h5:5 ≤ s) (h5':5 ≤ s'):Mode j (upd ws i (.sit s' m')) wt sm md:=by
  have hs:5 ≤ (ws i).s:=by rw [hk]; exact h5
  obtain ⟨h1,h2,h3⟩:=h.five hi hs
  have key:∀ a,a < j→(5 ≤ (upd ws i (.sit s' m') a).s ∨ (upd ws i (.sit s' m') a).s = 1):=fun a ha=>by
    by_cases e:a = i
    · subst e; rw [upd_same]; exact .inl h5'
    · rw [upd_ne _ _ e]; exact h2 a ha
  rcases h3 with ⟨rfl,h3⟩ | ⟨rfl,h3⟩
  · exact ⟨h3,h1,key⟩
  · exact .inl ⟨h3,h1,key,i,hi,by rw [upd_same]; exact h5'⟩
theorem Mode.mid {md i:Nat} (h:Mode j ws wt sm md) (hi:i < j) (h2:2 ≤ (ws i).s) (h4:(ws i).s ≤ 4):md = 1∧sm = 0∧(∀ a,a < j→a ≠ i→(ws a).s = 1)∧(((ws i).s = 2∧wt = 0) ∨ (((ws i).s = 3 ∨ (ws i).s = 4)∧wt = 1)):=by
  rcases md with _ | _ | md
  · have:=h.2.2 i hi; omega
  · rcases h with ⟨h1,h2,h3,_⟩ | ⟨h1,h2,a,h3,h4,hx⟩ | ⟨h1,h2,a,h3,h4,hx⟩ | ⟨h1,h2,h3⟩
    · have:=h3 i hi; omega
    · by_cases e:i = a
      · subst e; exact ⟨rfl,h2,hx,by omega⟩
      · have:=hx i hi e; omega
    · by_cases e:i = a
      · subst e; exact ⟨rfl,h2,hx,by omega⟩
      · have:=hx i hi e; omega
    · have:=h3 i hi; omega
  · have:=h.2.2 i hi; omega
theorem sum_cnt_none {ws:Nat→Wk}:∀ {j:Nat},(∀ i,i < j→(ws i).s < 5)→sumTo j (fun i=>(ws i).cnt) = 0
  | 0,_=>rfl
  | j + 1,h=>by
    have:=sum_cnt_none (j:=j) fun i hi=>h i (by omega)
    have h2:(ws j).cnt = 0:=if_neg (by have:=h j (by omega); omega)
    simp only [sumTo,this,h2]
theorem Core.sitStep (K : Core F T0 k0 j gs w t H Cs vs ws q rows p wt sm) (hF : F.Ok) {md : Nat} (hM : Mode j ws wt sm md) (hp : p ≤ 1) (hp1 : md ≠ 0 → p = 0) (hj : j ≤ 4) {i : Nat} (hi : i < j) {g : Goroutine} {s m : Nat}
    (hg:gs[k0 + i]? = some g) (hr:g.status = .running) (hk:ws i = .sit s m):SitNext F T0 k0 j gs w t H Cs vs ws q rows p sm md i g:=by
  letI:=F.pay
  obtain ⟨g0,h1,h2⟩:=K.wk i hi
  rw [hg] at h1
  obtain rfl:=Option.some.inj h1
  rw [hk] at h2
  obtain ⟨a1,a2,a3,a4,a5⟩:=h2
  have rf:@RW F.pay F.ty F.Wg (Cs i) 1 0 0 w w:=Go.ConcN.RW.refl w
  have hCne:=K.hold.cs i hi
  have hws:(ws i).s = s:=by rw [hk]; rfl
  have K':=K.wg
  have idle:∀ {m':Nat} {g':Goroutine},m = m' + 1→stepG F.P false g w = .go g' w #[]→F.Sit (Cs i) (vs i) s m' (Deaf t (k0 + i)) g' w→SitNext F T0 k0 j gs w t H Cs vs ws q rows p sm md i g:=by
    intro m' g' hm hst hS
    have e1:∀ a,(upd ws i (.sit s m') a).s = (ws a).s:=fun a=>by
      by_cases e:a = i
      · subst e; rw [upd_same,hk]; rfl
      · rw [upd_ne _ _ e]
    exact K.sitTo hF hi hg hk hst rfl rfl rfl (fun _ _ _=>rfl) (by simp) hS (fun x=>(a4 x).deaf (by simp)) a5 (sumTo j (fun a=>(ws a).cnt)) rfl K.wg (.inr ⟨rfl,hm⟩) (hM.same fun a _=>e1 a) (fun x=>absurd rfl x)
  generalize hDt:Deaf t (k0 + i) = dt at a1
  have cases1:∀ {e:Event},(MemAct.ofEvent e).touch? = none→∀ k e',(#[e]:Array Event)[k]? = some e'→(MemAct.ofEvent e').touch? = none ∨ ((∀ a,(MemAct.ofEvent e').touch? = some a→blk a.loc = some F.Wg∧a.kind = .atomic)∧deafBehind (Deaf t (k0 + i)) ((#[e]:Array Event).extract 0 k) ≠ 0):=by
    intro e he k e' hk'
    have hlt:k < 1:=by simpa using (Array.getElem?_eq_some_iff.1 hk').1
    obtain rfl:k = 0:=by omega
    simp at hk'
    subst hk'
    exact .inl he
  have atom:∀ (a:Addr),a.block = F.Wg→∀ b x,(MemAct.ofEvent ⟨.cell a,b,true⟩).touch? = some x→blk x.loc = some F.Wg∧x.kind = .atomic:=by
    intro a ha b x hx
    cases b <;> simp only [MemAct.ofEvent,MemAct.touch?,Option.some.injEq] at hx <;> subst hx <;> simp [blk,ha]
  cases a1 with
  | r0 h=>
    have stop:AtR0 F.P F.ty F.Wg (Cs i) 1 0 1 (vs i) g w→SitNext F T0 k0 j gs w t H Cs vs ws q rows p sm md i g:=by
      rintro ⟨_,_,g',hst,m',hG⟩
      exact K.sitTo hF hi hg hk hst rfl rfl rfl (fun _ _ _=>rfl) (fun e he=>by simp at he; subst he; exact (GrpEv.mark _).1) (s':=6) (m':=m') (by rw [show deafBehind (Deaf t (k0 + i)) #[Go.ConcR.mk (.releaseMerge (stA F.Wg))] = 0 by rw [hDt]; rfl]; exact .k1 hG) (fun _=>relD_new K.t0 hDt _ _) (by decide) (sumTo j (fun a=>(ws a).cnt)) rfl K.wg (.inl (by decide)) (hM.high hi hk (by decide) (by decide)) (fun x=>absurd rfl x)
    cases m with
    | zero=>exact stop (h w rf)
    | succ m=>
      rcases h with h | ⟨_,h⟩
      · exact stop (h w rf)
      · have:=h w rf
        cases e:stepG F.P false g w with
        | go g' w' es=>
          rw [e,goes_go] at this
          obtain ⟨⟨hA,hev⟩,hG⟩:=this
          refine K.sitTo hF hi hg hk e hA.os hA.output hA.size (fun b _ hb=>hA.block b hb) (fun e he=>?_) (s':=7) (m':=m) ?_ (fun x=>absurd x (by decide)) (by decide) (sumTo j (fun a=>(ws a).cnt)) rfl ?_ (.inr ⟨rfl,rfl⟩) (hM.high hi hk (by decide) (by decide)) (fun x=>absurd rfl x)
          · obtain ⟨h1,h2,h3,h4⟩:=hev e he
            obtain ⟨_, h5⟩ := h1 0 ""
            refine ⟨fun x hx=>?_,fun hc=>?_⟩
            · rcases h5 x hx with ⟨⟨a,y1,y2⟩,y3,y4⟩ | y | ⟨y,_⟩
              · exact ⟨by rw [y1]; simp [blk,y2],y3,fun z=>absurd z y4⟩
              · exact y.elim
              · exact y.elim
            · obtain ⟨loc,b1,b2⟩:=e
              cases loc with
              | mark mm=>cases mm <;> simp_all [MemAct.ofEvent]
              | cell a=>cases b1 <;> cases b2 <;> simp [MemAct.ofEvent] at hc
              | obj r=>cases b1 <;> cases b2 <;> simp [MemAct.ofEvent] at hc
              | output=>cases b1 <;> cases b2 <;> simp [MemAct.ofEvent] at hc
              | goroutines=>cases b1 <;> cases b2 <;> simp [MemAct.ofEvent] at hc
          · have : deafBehind (Deaf t (k0 + i)) es = 0 := by
              rw [hDt]; exact deafBehind_still (fun e he=>⟨(hev e he).2.1,(hev e he).2.2.1⟩) _
            rw [this]; exact .r0 hG
          · show w'.heap[F.Wg]? = _
            rw [hA.block F.Wg (fun e=>hCne.1 e.symm)]
            exact K.wg
        | _=>rw [e] at this; exact this.elim
  | k1 h=>
    rcases goes0 h rf with ⟨_,g',hst,m',hG⟩ | ⟨m',g',hm,hst,hG⟩
    · refine K.sitTo hF hi hg hk hst rfl rfl rfl (fun _ _ _=>rfl) (fun e he=>by simp at he; subst he; exact GrpEv.mute rfl) (s':=5) (m':=m') ?_ (fun _=>(a4 (by decide)).deaf (cases1 rfl)) (by decide) (sumTo j (fun a=>(ws a).cnt)) rfl K.wg (.inl (by decide)) (hM.high hi hk (by decide) (by decide)) (fun x=>absurd rfl x)
      rw [hDt]; exact .d1 hG
    · exact idle hm hst (by rw [hDt]; exact .k1 hG)
  | d1 h=>
    rcases goes0 h rf with ⟨_,hstep⟩ | ⟨m',g',hm,hst,hG⟩
    · obtain ⟨m1,m2,m3⟩:=hM.five hi (by rw [hws]; decide)
      have hwt:wt ≤ 1:=by omega
      have hc:=sum_cnt_le ws j
      have hc1:=le_sumTo (f:=fun a=>(ws a).cnt) hi
      rw [show (ws i).cnt = 1 by rw [hk]; rfl] at hc1
      obtain ⟨c,hcc⟩:∃ c,sumTo j (fun a=>(ws a).cnt) = c + 1:=⟨_,(Nat.sub_add_cancel hc1).symm⟩
      have hW:WgAt F.ty F.Wg w ((((c + p:Nat):Int) + 1) * KK + (wt:Int)) 0:=by
        have:=K.wg
        rw [hcc,m1] at this
        rw [show ((c + p:Nat):Int) + 1 = ((c + 1 + p:Nat):Int) by omega]
        exact this
      obtain ⟨g',hst,hA,hB⟩:=hstep (c + p) wt hwt (by omega) hW
      have hW':WgAt F.ty F.Wg (w.setCell (stA F.Wg) (.int .u64 (((c + p:Nat):Int) * KK + (wt:Int)))) (((c + p:Nat):Int) * KK + (wt:Int)) ((sm:Nat):Int):=by
        rw [m1]; exact Go.ConcR.WgAt.setSt hW _
      have as:=asideSet w (stA F.Wg) (.int .u64 (((c + p:Nat):Int) * KK + (wt:Int)))
      have hes:∀ e ∈ (#[rd (stA F.Wg),wr (stA F.Wg)]:Array Event),GrpEv F (k0 + i) e:=fun e he=>by
        simp at he; rcases he with rfl | rfl
        · exact (GrpEv.at' _ rfl).1
        · exact (GrpEv.at' _ rfl).2
      have hde:deafBehind (Deaf t (k0 + i)) #[rd (stA F.Wg),wr (stA F.Wg)] = 1:=by rw [hDt]; rfl
      have hrl:RelD F T0 (t++MemOp.ofEvents (k0 + i) g.frame.fn g.frame.place #[rd (stA F.Wg),wr (stA F.Wg)]) (k0 + i):=(a4 (by decide)).deaf (by
        intro k e hk'
        have hlt:k < 2:=by simpa using (Array.getElem?_eq_some_iff.1 hk').1
        rw [hDt]
        obtain rfl | rfl:k = 0 ∨ k = 1:=by omega
        · simp at hk'; subst hk'; exact .inr ⟨fun x hx=>atom _ rfl _ x hx,by simp [deafBehind]⟩
        · simp at hk'; subst hk'; exact .inr ⟨fun x hx=>atom _ rfl _ x hx,by simp [deafBehind,rd]⟩)
      by_cases hl:c + p = 0∧wt = 1
      · obtain ⟨m',hG⟩:=hA hl
        have hmd:md = 1:=by omega
        refine K.sitTo hF hi hg hk hst as.os as.output as.size (fun b hb _=>as.block b hb) hes (s':=4) (m':=m') (by rw [hde]; exact .d2 hG) (fun _=>hrl) (by decide) c (by rw [hcc]; rfl) hW' (.inl (by decide)) ?_ (fun x=>absurd rfl x)
        subst hmd
        refine .inr (.inl ⟨hl.2,m1,i,hi,by rw [upd_same]; exact .inl rfl,fun a ha hne=>?_⟩)
        rw [upd_ne _ _ hne]
        rcases m2 a ha with y | y
        · exfalso
          have hsum:=sumTo_upd ws (.sit 4 m') Wk.cnt hi
          rw [hk,hcc,show (Wk.sit 5 m).cnt = 1 from rfl] at hsum
          have z4:∀ x,(Wk.sit 4 x).cnt = 0:=fun _=>rfl
          have z1:∀ x,(Wk.sit 1 x).cnt = 0:=fun _=>rfl
          simp only [z4,z1] at hsum
          have:=sum_cnt_zero (ws:=upd ws i (.sit 4 m')) (j:=j) (by omega) a ha
          rw [upd_ne _ _ hne] at this
          omega
        · exact y
      · obtain ⟨q',hQ⟩:=hB hl
        refine K.sitTo hF hi hg hk hst as.os as.output as.size (fun b hb _=>as.block b hb) hes (s':=1) (m':=q') (by rw [hde]; exact .quit hQ) (fun _=>hrl) (by decide) c (by rw [hcc]; rfl) hW' (.inl (by decide)) ?_ (fun x=>absurd rfl x)
        have key:∀ a,a < j→5 ≤ (upd ws i (.sit 1 q') a).s ∨ (upd ws i (.sit 1 q') a).s = 1:=fun a ha=>by
          by_cases e:a = i
          · subst e; rw [upd_same]; exact .inr rfl
          · rw [upd_ne _ _ e]; exact m2 a ha
        rcases m3 with ⟨rfl,h3⟩ | ⟨rfl,h3⟩
        · exact ⟨h3,m1,key⟩
        · have hp0:=hp1 (by decide)
          have hsum:=sumTo_upd ws (.sit 1 q') Wk.cnt hi
          rw [hk,hcc,show (Wk.sit 5 m).cnt = 1 from rfl] at hsum
          have z4:∀ x,(Wk.sit 4 x).cnt = 0:=fun _=>rfl
          have z1:∀ x,(Wk.sit 1 x).cnt = 0:=fun _=>rfl
          simp only [z4,z1] at hsum
          obtain ⟨a,ha,h5⟩:=sum_cnt_pos (ws:=upd ws i (.sit 1 q')) (j:=j) (by
            have:¬ (c + p = 0):=fun e=>hl ⟨e,h3⟩
            omega)
          exact .inl ⟨h3,m1,key,a,ha,h5⟩
    · exact idle hm hst (by rw [hDt]; exact .d1 hG)
  | d2 h=>
    rcases goes0 h rf with ⟨_,hstep⟩ | ⟨m',g',hm,hst,hG⟩
    · obtain ⟨m1,m2,m3,m4⟩:=hM.mid hi (by rw [hws]; decide) (by rw [hws]; decide)
      have hwt:wt = 1:=by rw [hws] at m4; omega
      have hc0:sumTo j (fun a=>(ws a).cnt) = 0:=sum_cnt_none fun a ha=>by
        by_cases e:a = i
        · subst e; rw [hws]; decide
        · rw [m3 a ha e]; decide
      have hp0:=hp1 (by omega)
      have hW:WgAt F.ty F.Wg w 1 0:=by
        have:=K.wg
        rw [hc0,hp0,hwt,m2] at this
        simpa using this
      obtain ⟨g',hst,m',hG⟩:=hstep hW
      refine K.sitTo hF hi hg hk hst rfl rfl rfl (fun _ _ _=>rfl) (fun e he=>by simp at he; subst he; exact (GrpEv.at' _ rfl).1) (s':=3) (m':=m') (by rw [show deafBehind (Deaf t (k0 + i)) #[rd (stA F.Wg)] = 1 by rw [hDt]; rfl]; exact .d3 hG) (fun _=>(a4 (by decide)).deaf (by
        intro k e hk'
        have hlt:k < 1:=by simpa using (Array.getElem?_eq_some_iff.1 hk').1
        rw [hDt]
        obtain rfl:k = 0:=by omega
        simp at hk'; subst hk'; exact .inr ⟨fun x hx=>atom _ rfl _ x hx,by simp [deafBehind]⟩)) (by decide) (sumTo j (fun a=>(ws a).cnt)) rfl K.wg (.inl (by decide)) ?_ (fun x=>absurd rfl x)
      subst m1
      exact .inr (.inl ⟨hwt,m2,i,hi,by rw [upd_same]; exact .inr rfl,fun a ha hne=>by rw [upd_ne _ _ hne]; exact m3 a ha hne⟩)
    · exact idle hm hst (by rw [hDt]; exact .d2 hG)
  | d3 h=>
    rcases goes0 h rf with ⟨_,hstep⟩ | ⟨m',g',hm,hst,hG⟩
    · obtain ⟨m1,m2,m3,m4⟩:=hM.mid hi (by rw [hws]; decide) (by rw [hws]; decide)
      have hwt:wt = 1:=by rw [hws] at m4; omega
      have hc0:sumTo j (fun a=>(ws a).cnt) = 0:=sum_cnt_none fun a ha=>by
        by_cases e:a = i
        · subst e; rw [hws]; decide
        · rw [m3 a ha e]; decide
      have hp0:=hp1 (by omega)
      have hW:WgAt F.ty F.Wg w 1 0:=by
        have:=K.wg
        rw [hc0,hp0,hwt,m2] at this
        simpa using this
      obtain ⟨g',hst,m',hG⟩:=hstep hW
      have as:=asideSet w (stA F.Wg) (.int .u64 0)
      refine K.sitTo hF hi hg hk hst as.os as.output as.size (fun b hb _=>as.block b hb) (fun e he=>by simp at he; subst he; exact (GrpEv.at' _ rfl).2) (s':=2) (m':=m') (wt':=0) (sm':=sm) (by rw [show deafBehind (Deaf t (k0 + i)) #[wr (stA F.Wg)] = 1 by rw [hDt]; rfl]; exact .d4 hG) (fun _=>(a4 (by decide)).deaf (by
        intro k e hk'
        have hlt:k < 1:=by simpa using (Array.getElem?_eq_some_iff.1 hk').1
        rw [hDt]
        obtain rfl:k = 0:=by omega
        simp at hk'; subst hk'; exact .inr ⟨fun x hx=>atom _ rfl _ x hx,by simp [deafBehind]⟩)) (by decide) 0 (by rw [hc0]; rfl) ?_ (.inl (by decide)) ?_ (fun x=>absurd rfl x)
      · rw [hp0,m2]; simpa using Go.ConcR.WgAt.setSt hW 0
      · subst m1
        exact .inr (.inr (.inl ⟨rfl,m2,i,hi,by rw [upd_same]; rfl,fun a ha hne=>by rw [upd_ne _ _ hne]; exact m3 a ha hne⟩))
    · exact idle hm hst (by rw [hDt]; exact .d3 hG)
  | d4 h=>
    rcases goes0 h rf with ⟨_,hmw,hstep⟩ | ⟨m',g',hm,hst,hG⟩
    · obtain ⟨m1,m2,m3,m4⟩:=hM.mid hi (by rw [hws]; decide) (by rw [hws]; decide)
      have hwt:wt = 0:=by rw [hws] at m4; omega
      have hc0:sumTo j (fun a=>(ws a).cnt) = 0:=sum_cnt_none fun a ha=>by
        by_cases e:a = i
        · subst e; rw [hws]; decide
        · rw [m3 a ha e]; decide
      have hp0:=hp1 (by omega)
      have hW:WgAt F.ty F.Wg w 0 0:=by
        have:=K.wg
        rw [hc0,hp0,hwt,m2] at this
        simpa using this
      obtain ⟨g',hst,q',hQ⟩:=hstep hW
      have as:=asideSet w (smA F.Wg) (.int .u32 1)
      refine K.sitTo hF hi hg hk hst as.os as.output as.size (fun b hb _ => as.block b hb) (fun e he => by
          simp [semEvents] at he
          rcases he with rfl | rfl | rfl | rfl
          · exact GrpEv.mute rfl
          · exact (GrpEv.at' _ rfl).1
          · exact (GrpEv.at' _ rfl).2
          · exact GrpEv.mute rfl) (s':=1) (m':=q') (wt':=0) (sm':=1) (by rw [show deafBehind (Deaf t (k0 + i)) (semEvents (smA F.Wg)) = 1 by rw [hDt]; rfl]; exact .quit hQ) (fun _=>(a4 (by decide)).deaf (by
        intro k e hk'
        have hlt:k < 4:=by simpa [semEvents] using (Array.getElem?_eq_some_iff.1 hk').1
        rw [hDt]
        obtain rfl | rfl | rfl | rfl:k = 0 ∨ k = 1 ∨ k = 2 ∨ k = 3:=by omega
        · simp [semEvents] at hk'; subst hk'; exact .inl rfl
        · simp [semEvents] at hk'; subst hk'; exact .inr ⟨fun x hx=>atom _ rfl _ x hx,by simp [deafBehind,semEvents]⟩
        · simp [semEvents] at hk'; subst hk'; exact .inr ⟨fun x hx=>atom _ rfl _ x hx,by simp [deafBehind,semEvents]⟩
        · simp [semEvents] at hk'; subst hk'; exact .inl rfl)) (by decide) 0 (by rw [hc0]; rfl) ?_ (.inl (by decide)) ?_ (fun _ o h1 h2=>?_)
      · rw [hp0]; simpa using Go.ConcR.WgAt.setSm hW 1
      · subst m1
        refine .inr (.inr (.inr ⟨rfl,rfl,fun a ha=>?_⟩))
        by_cases e:a = i
        · subst e; rw [upd_same]; rfl
        · rw [upd_ne _ _ e]; exact m3 a ha e
      · unfold Go.Conc.woken
        rw [if_pos (by rcases hQ.status with y | y <;> simp [hmw,y])]
        simp [Goroutine.again,h1,h2]
    · exact idle hm hst (by rw [hDt]; exact .d4 hG)
  | quit h=>
    cases m with
    | zero=>rw [h.1] at hr; cases hr
    | succ m=>
      rcases h with ⟨hf,_⟩ | ⟨_,g',es,hmu,hst,hQ⟩
      · rw [hf] at hr; cases hr
      have e1:∀ a,(upd ws i (.sit 1 m) a).s = (ws a).s:=fun a=>by
        by_cases e:a = i
        · subst e; rw [upd_same,hk]; rfl
        · rw [upd_ne _ _ e]
      exact K.sitTo hF hi hg hk (hst w) rfl rfl rfl (fun _ _ _=>rfl) (fun e he=>GrpEv.mute (hmu e he)) (s':=1) (m':=m) (by rw [hDt]; exact .quit hQ) (fun _=>(a4 (by decide)).deaf fun k e hk'=>.inl (touch_mute (hmu e (Array.mem_of_getElem? hk')))) (by decide) (sumTo j (fun a=>(ws a).cnt)) rfl K.wg (.inr ⟨rfl,rfl⟩) (hM.same fun a _=>e1 a) (fun x=>absurd rfl x)
end
end Go.Sl

/- The fork of four workers and their join: any step of a worker's; a leaver's step; a draw. No program. -/
import Derived.Test.YtcpkcmgjfcbnpaaGreatDoorSlW
set_option linter.unusedVariables false
set_option linter.unusedSimpArgs false
set_option linter.unusedSectionVars false

namespace Go.Sl
open Go Go.Conc
open Go.ConcN (WgLive PayAt Has RW DWs AsideCell AtR0 AtK1 AtD1 AtD2 AtD3 AtD4 RelBy sumTo upd sumTo_upd upd_ne upd_same sumTo_congr WSit le_sumTo)
open Go.ConcR (KK wgBlock WgAt stA smA rd wr Payload DC0)
section
variable {F:Fk} {T0 k0 j:Nat} {gs:Array Goroutine} {w:World} {t:Trace} {H:Nat→PHeap} {Cs:Nat→Nat} {vs:Nat→Value} {ws:Nat→Wk} {q:Nat→Nat} {rows:List (Nat × Value)} {p wt sm:Nat}
def Main0 (gs gs':Array Goroutine) (sm sm':Nat):Prop:=∀ g0,gs[0]? = some g0 →
  (g0.status = .running→gs'[0]? = some g0)∧(g0.status = .blocked→g0.offers = none→gs'[0]? = some { g0 with status:=.running } ∨ (gs'[0]? = some g0∧sm' = sm))
theorem main0_woken {n : Nat} (hn : 0 < n) {g g' : Goroutine} {w' : World} {sm' : Nat} (P : Program) (hw : sm' ≠ sm → ∀ o : Goroutine, o.status = .blocked → o.offers = none → woken P g g' w' o = { o with status := .running }) :
    Main0 gs ((gs.map (woken P g g' w')).setIfInBounds n g') sm sm':=by
  intro g0 h0
  have e:((gs.map (woken P g g' w')).setIfInBounds n g')[0]? = some (woken P g g' w' g0):=by
    rw [Array.getElem?_setIfInBounds_ne (by omega),Array.getElem?_map,h0]; rfl
  refine ⟨fun hr=>by rw [e,woken_run hr],fun hb hof=>?_⟩
  by_cases hs:sm' = sm
  · by_cases hm:(mayWake P g && g'.status != .blocked && g'.status != .waiting) = true
    · exact .inl (by rw [e]; simp [woken,hm,Goroutine.again,hb,hof])
    · exact .inr ⟨by rw [e]; simp [woken,hm],hs⟩
  · exact .inl (by rw [e,hw hs g0 hb hof])
def WNext (F:Fk) (T0 k0 j:Nat) (gs:Array Goroutine) (w:World) (sl:Option (Nat × Nat)) (t:Trace) (H:Nat→PHeap) (Cs:Nat→Nat) (vs:Nat→Value) (ws:Nat→Wk) (q:Nat→Nat) (p sm md i:Nat):Prop:=
  ∃ gs' w' ops H' k' rows' wt' sm',runT F.P (crowd gs w sl) (k0 + i) = (.next (crowd gs' w' sl),ops)∧Core F T0 k0 j gs' w' (t++ops) H' Cs vs (upd ws i k') q rows' p wt' sm' ∧
    PR k'.rk (ws i).rk∧Mode j (upd ws i k') wt' sm' md∧H' 0 = H 0∧Main0 gs gs' sm sm'∧Deaf (t++ops) 0 = Deaf t 0
theorem SitNext.next (K:Core F T0 k0 j gs w t H Cs vs ws q rows p wt sm) {md i:Nat} {g:Goroutine} (sl:Option (Nat × Nat)) (hg:gs[k0 + i]? = some g) (h:SitNext F T0 k0 j gs w t H Cs vs ws q rows p sm md i g):WNext F T0 k0 j gs w sl t H Cs vs ws q p sm md i:=by
  obtain ⟨g',w',es,k',wt',sm',hst,hC,hr,hM,hw⟩:=h
  have hk:=K.k1
  have h0:(k0 + i == 0) = false:=by simp; omega
  exact ⟨_,w',_,H,k',rows,wt',sm',runT_crowd_go (P:=F.P) (sl:=sl) (i:=k0 + i) hg (by rw [h0]; exact hst),hC,hr,hM,rfl,main0_woken (by omega) _ hw,Deaf_other t (g':=k0 + i) (by omega) _ g_ofEvents⟩
theorem Core.ghost (K : Core F T0 k0 j gs w t H Cs vs ws q rows p wt sm) {i : Nat} (hi : i < j) {g : Goroutine} (hg : gs[k0 + i]? = some g) {k' : Wk} (hc : k'.cnt = (ws i).cnt) (h : WkAt F T0 t w i (k0 + i) (Cs i) (vs i) (H (k0 + i)) g k') :
    Core F T0 k0 j gs w t H Cs vs (upd ws i k') q rows p wt sm:=by
  refine ⟨K.k1,K.t0,K.sz,K.fam,K.tr,K.leav,K.above,fun a ha=>?_,?_,K.rows,K.hold⟩
  · by_cases e:a = i
    · subst e; exact ⟨g,hg,by rw [upd_same]; exact h⟩
    · rw [upd_ne _ _ e]; exact K.wk a ha
  · have:=sumTo_upd ws k' Wk.cnt hi
    rw [show sumTo j (fun a=>(upd ws i k' a).cnt) = sumTo j (fun a=>(ws a).cnt) by omega]
    exact K.wg
theorem upd_upd {α:Type} (f:Nat→α) (i:Nat) (x y:α):upd (upd f i x) i y = upd f i y:=by
  funext a
  by_cases e:a = i
  · subst e; rw [upd_same,upd_same]
  · rw [upd_ne _ _ e,upd_ne _ _ e,upd_ne _ _ e]
theorem Mode.high' {md i:Nat} {k':Wk} (h:Mode j ws wt sm md) (hi:i < j) (h5:5 ≤ (ws i).s) (h5':5 ≤ k'.s):Mode j (upd ws i k') wt sm md:=by
  obtain ⟨h1,h2,h3⟩:=h.five hi h5
  have key:∀ a,a < j→(5 ≤ (upd ws i k' a).s ∨ (upd ws i k' a).s = 1):=fun a ha=>by
    by_cases e:a = i
    · subst e; rw [upd_same]; exact .inl h5'
    · rw [upd_ne _ _ e]; exact h2 a ha
  rcases h3 with ⟨rfl,h3⟩ | ⟨rfl,h3⟩
  · exact ⟨h3,h1,key⟩
  · exact .inl ⟨h3,h1,key,i,hi,by rw [upd_same]; exact h5'⟩
theorem nodup_lt:∀ {l:List Nat} {n:Nat},l.Nodup→(∀ x ∈ l,x < n)→l.length ≤ n
  | [],_,_,_=>Nat.zero_le _
  | a :: l,0,_,h=>absurd (h a (by simp)) (by omega)
  | a :: l,n + 1,hn,h=>by
    have hn':=List.nodup_cons.1 hn
    have:=nodup_lt (l:=(a :: l).erase n) (n:=n) (hn.erase n) (fun x hx=>by
      have h1:=h x (List.mem_of_mem_erase hx)
      have h2:x ≠ n:=fun e=>by subst e; exact (hn.mem_erase_iff.1 hx).1 rfl
      omega)
    have h3:=List.length_erase_le (a:=n) (l:=a :: l)
    by_cases hm:n ∈ a :: l
    · have:=List.length_erase_of_mem hm
      have hp:0 < (a :: l).length:=by simp
      omega
    · rw [List.erase_of_not_mem hm] at this; omega
theorem Core.send (K : Core F T0 k0 j gs w t H Cs vs ws q rows p wt sm) (hF : F.Ok) {md : Nat} (hM : Mode j ws wt sm md) (hj : j ≤ 4) {i : Nat} (hi : i < j) {g g2 : Goroutine} {f : World → Nat → Rk} {x zv : Value} {sh : CommShape} (sl : Option (Nat × Nat))
    (h0:∀ g0,gs[0]? = some g0→g0.status = .running ∨ (g0.status = .blocked∧g0.offers = none))
    (hg:gs[k0 + i]? = some g) (hk:ws i = .bd (.nd f)) (hgh:(H (k0 + i)).gh = [0]) (hCv:(H (k0 + i)).obj (Cs i) = some (.cells #[vs i] F.it (0,0)))
    (hst:∀ w,stepG F.P false g w = .comm g2 #[scase F.Ch x zv] true sh w #[]) (hRow:F.Row i x (delb (ro (H (k0 + i)) [1]) (Cs i)))
    (hW:WT F i (Cs i) (vs i) (f w 1) (delb (ro (H (k0 + i)) [1]) (Cs i)) (g2.finishComm F.P #[scase F.Ch x zv] sh 0 undef false)) :
    WNext F T0 k0 j gs w sl t H Cs vs ws q p sm md i:=by
  have hk1:=K.k1
  have hi0:(k0 + i == 0) = false:=by simp; omega
  obtain ⟨g0,h1,h2⟩:=K.wk i hi
  rw [hg] at h1
  obtain rfl:=Option.some.inj h1
  rw [hk] at h2
  obtain ⟨b1,b2,b3⟩:=h2
  have hlt:=K.hold.lt
  have hns:i ∉ rows.map Prod.fst:=fun hm=>by
    obtain ⟨y,hy,rfl⟩:=List.mem_map.1 hm
    obtain ⟨_,r2,_⟩:=K.rows.row y hy
    rw [hgh] at r2; cases r2
  have hlen:rows.length < 4:=by
    have hnd:(i :: rows.map Prod.fst).Nodup:=List.nodup_cons.2 ⟨hns,K.rows.nd⟩
    have:=nodup_lt (n:=4) hnd (fun a ha=>by
      rcases List.mem_cons.1 ha with rfl | ha
      · omega
      · obtain ⟨y,hy,rfl⟩:=List.mem_map.1 ha
        have:=(K.rows.row y hy).1
        omega)
    simp at this; omega
  have hpart:partners (gs.setIfInBounds (k0 + i) ph) F.Ch false = []:=partners_nil fun m gm hm=>by
    rcases getElem?_stand gs (k0 + i) m gm hm with ⟨_,rfl⟩ | ⟨hne,hm'⟩
    · rfl
    · rcases Nat.eq_zero_or_pos m with rfl | hpos
      · rcases h0 gm hm' with y | ⟨y,z⟩
        · exact offersAt_of_not_blocked (by rw [y]; simp) _ _
        · unfold offersAt; rw [y,z]
      · have hst : gm.status = .running ∨ gm.status = .finished := by
          rcases Nat.lt_or_ge m k0 with hl | hge
          · exact (K.leav m gm hpos hl hm').status
          · have hl:=(Array.getElem?_eq_some_iff.1 hm').1
            have hs:=K.sz
            obtain ⟨g3,c1,c2⟩:=K.wk (m - k0) (by omega)
            rw [show k0 + (m - k0) = m by omega,hm'] at c1
            obtain rfl:=Option.some.inj c1
            exact c2.status.imp id fun z=>z.2
        exact offersAt_of_not_blocked (by rcases hst with y | y <;> rw [y] <;> simp) _ _
  have hrun:=crowd_send_room (P:=F.P) (gs:=gs) (w:=w) (sl:=sl) (i:=k0 + i) (g:=g) hg (by rw [hi0]; exact hst w) K.rows.ch (by simp; exact hlen) hpart
  have eo:MemOp.ofEvents (k0 + i) g.frame.fn g.frame.place #[] = #[]:=by simp [ofEvents_eq]
  rw [eo,Array.empty_append] at hrun
  generalize hu:(#[({ g:=k0 + i,fn:=g2.frame.fn,pos:=g2.frame.place,act:=.send F.Ch rows.length }:MemOp),{ g:=k0 + i,fn:=g2.frame.fn,pos:=g2.frame.place,act:=.sendDone F.Ch rows.length }]:Trace) = u at hrun
  have hug:∀ op ∈ u,op.g = k0 + i:=by subst hu; intro op hop; simp at hop; rcases hop with rfl | rfl <;> rfl
  have hut:∀ op ∈ u,op.act.touch? = none:=by subst hu; intro op hop; simp at hop; rcases hop with rfl | rfl <;> rfl
  have hur:∀ op ∈ u,op.act ≠ .mark (.release (stA F.Wg)):=by subst hu; intro op hop; simp at hop; rcases hop with rfl | rfl <;> simp
  have hud:∀ m,Deaf (t++u) m = Deaf t m:=by
    intro m
    by_cases e:m = k0 + i
    · subst e
      subst hu
      rw [show (t++#[({ g:=k0 + i,fn:=g2.frame.fn,pos:=g2.frame.place,act:=.send F.Ch rows.length }:MemOp),{ g:=k0 + i,fn:=g2.frame.fn,pos:=g2.frame.place,act:=.sendDone F.Ch rows.length }]) = t++([({ g:=k0 + i,fn:=g2.frame.fn,pos:=g2.frame.place,act:=.send F.Ch rows.length }:MemOp),{ g:=k0 + i,fn:=g2.frame.fn,pos:=g2.frame.place,act:=.sendDone F.Ch rows.length }]:List MemOp).toArray from rfl]
      rw [Deaf_append]
      simp [deafStep]
    · exact Deaf_other t (g':=k0 + i) (fun e'=>e e'.symm) _ hug
  generalize hw':w.setChan F.Ch 4 ((rows.map Prod.snd).toArray.push x) false (rows.length + 1) 0 false = w' at hrun
  have hsz:w'.heap.size = w.heap.size:=by subst hw'; simp [World.setChan]
  have hheap:∀ b,b ≠ F.Ch→w'.heap[b]? = w.heap[b]?:=by
    intro b hb; subst hw'; simp only [World.setChan]; rw [Array.getElem?_setIfInBounds_ne (fun e=>hb e.symm)]
  have hch:w'.heap[F.Ch]? = some (.chan 4 ((rows.map Prod.snd).toArray.push x) false (rows.length + 1) 0 false):=by
    subst hw'; simp only [World.setChan]; rw [Array.getElem?_setIfInBounds_self_of_lt hlt.2]
  have hos:w'.os = w.os:=by subst hw'; rfl
  have hout:w'.output = w.output:=by subst hw'; rfl
  generalize hg':g2.finishComm F.P #[scase F.Ch x zv] sh 0 undef false = g' at hrun hW
  have hact:act k0 (k0 + j) (k0 + i):=.inr ⟨by omega,by omega⟩
  have hsub:∀ m b o,(updH H (k0 + i) (delb (ro (H (k0 + i)) [1]) (Cs i)) m).obj b = some o→(H m).obj b = some o∧((updH H (k0 + i) (delb (ro (H (k0 + i)) [1]) (Cs i)) m).wr b = true→(H m).wr b = true):=by
    intro m b o hb
    by_cases e:m = k0 + i
    · subst e
      rw [updH_same] at hb ⊢
      simp only [delb,ro] at hb ⊢
      split at hb
      · cases hb
      · exact ⟨hb,fun z=>by cases z⟩
    · rw [updH_ne _ _ e] at hb ⊢; exact ⟨hb,id⟩
  have hsubN:∀ m b,(H m).obj b = none→(updH H (k0 + i) (delb (ro (H (k0 + i)) [1]) (Cs i)) m).obj b = none:=by
    intro m b hb
    cases e:(updH H (k0 + i) (delb (ro (H (k0 + i)) [1]) (Cs i)) m).obj b with
    | none=>rfl
    | some o=>rw [(hsub m b o e).1] at hb; cases hb
  have hsubS:∀ m b,((updH H (k0 + i) (delb (ro (H (k0 + i)) [1]) (Cs i)) m).obj b).isSome = true→((H m).obj b).isSome = true:=by
    intro m b hb
    obtain ⟨o,ho⟩:=Option.isSome_iff_exists.1 hb
    simp [(hsub m b o ho).1]
  have hfam:Fam w' (t++u) (act k0 (k0 + j)) (updH H (k0 + i) (delb (ro (H (k0 + i)) [1]) (Cs i))):=by
    refine (K.fam.app (n:=k0 + i) hug (fun op hop x b hx=>by rw [hut op hop] at hx; cases hx) (fun said x a _ op hop b hb=>by rw [hut op hop] at hb; cases hb) (fun m hm b o e=>?_) (Nat.le_of_eq hsz.symm) (fun op hop x b hx=>by rw [hut op hop] at hx; cases hx)).shrink fun m hm b o e=>hsub m b o e
    have hne:b ≠ F.Ch:=fun e'=>by rw [e',(K.hold.no m hm).2] at e; cases e
    rw [hheap b hne]; exact K.fam.sat m hm b o e
  have htr:Tr F T0 k0 (k0 + j) (updH H (k0 + i) (delb (ro (H (k0 + i)) [1]) (Cs i))) (t++u):=
    K.tr.app (n:=k0 + i) (fun op hop=>⟨hug op hop,hur op hop,fun x hx=>(by rw [hut op hop] at hx; cases hx),fun x hx=>(by rw [hut op hop] at hx; cases hx),fun _ _=>hact⟩) fun m hm b hb=>.inl ⟨m,hm,hsubS m b hb⟩
  refine ⟨_,w',u,updH H (k0 + i) (delb (ro (H (k0 + i)) [1]) (Cs i)),.bd (f w 1),rows++[(i,x)],wt,sm,hrun,?_,by rw [hk]; exact .right _ (.mk f w 1),hM.high' hi (by rw [hk]; show 5 ≤ 8; decide) (by first|(show 5 ≤ 8; decide) | (show 5 ≤ 7; decide)),updH_ne _ _ (by omega),fun g0 hg0=>⟨fun _=>?_,fun _ _=>.inr ⟨?_,rfl⟩⟩,hud 0⟩
  · refine K.step (q':=q) (g':=g') hug (by omega) (by simp) (by simp [(Array.getElem?_eq_some_iff.1 hg).1]) (fun m _ hne=>Array.getElem?_setIfInBounds_ne (fun e=>hne e.symm)) hfam htr (fun a ha hne=>hheap _ (K.hold.cs a ha).2.1) (fun a _ hne=>upd_ne _ _ (by omega)) (fun a ha hin=>?_) (fun _ _=>rfl) (fun _ hl=>absurd hl (by omega)) ?_ ?_ ?_
    · obtain rfl:a = i:=by omega
      rw [upd_same]
      refine ⟨hW,(hud _).trans b2,.inr ⟨rfl,by simp [delb],?_⟩⟩
      rw [hheap _ (K.hold.cs a ha).2.1]
      exact K.fam.sat _ (.inr ⟨by omega,by omega⟩) _ _ hCv
    · have:=sumTo_upd ws (.bd (f w 1)) Wk.cnt hi
      rw [hk,show (Wk.bd (.nd f)).cnt = 1 from rfl,show (Wk.bd (f w 1)).cnt = 1 from rfl] at this
      rw [show sumTo j (fun a=>(upd ws i (.bd (f w 1)) a).cnt) = sumTo j (fun a=>(ws a).cnt) by omega]
      show w'.heap[F.Wg]? = _
      rw [hheap _ hF.ne]; exact K.wg
    · refine ⟨by rw [hch]; simp,?_,fun y hy=>?_,fun a ha hga=>?_⟩
      · rw [List.map_append,List.nodup_append]
        exact ⟨K.rows.nd,by simp,fun a hm b hb e=>by simp at hb; subst hb; subst e; exact hns hm⟩
      · rcases List.mem_append.1 hy with hy | hy
        · obtain ⟨r1,r2,S,r3,r4⟩:=K.rows.row y hy
          have hne:k0 + y.1 ≠ k0 + i:=fun e=>by
            have:y.1 = i:=by omega
            exact hns (List.mem_map.2 ⟨y,hy,this⟩)
          exact ⟨r1,by rw [updH_ne _ _ hne]; exact r2,S,fun b o hb=>by rw [updH_ne _ _ hne]; exact r3 b o hb,r4⟩
        · simp at hy
          subst hy
          refine ⟨hi,by rw [updH_same]; rfl,_,fun b o hb=>?_,hRow⟩
          rw [updH_same]; exact ⟨hb,rfl⟩
      · by_cases e:a = i
        · subst e; simp
        · rw [updH_ne _ _ (by omega)] at hga
          rw [List.map_append]
          exact List.mem_append.2 (.inl (K.rows.all a ha hga))
    · refine ⟨fun m hm=>⟨hsubN m _ (K.hold.no m hm).1,hsubN m _ (K.hold.no m hm).2⟩,fun m hm b hb hwb=>?_,fun m hm b hb=>K.hold.new m hm b (hsubS m b hb),fun a ha=>by rw [hsz]; exact K.hold.cs a ha,K.hold.inj,fun a ha m hm hne=>hsubN m _ (K.hold.co a ha m hm hne),by rw [hsz]; exact hlt,?_⟩
      · obtain ⟨o,ho⟩:=Option.isSome_iff_exists.1 hb
        exact K.hold.old m hm b (hsubS m b hb) ((hsub m b o ho).2 hwb)
      · have k:=K.hold.kept
        refine ⟨hos.trans k.os,hout.trans k.output,by rw [hsz]; exact k.size,fun b hb=>?_⟩
        rw [hheap b (fun e=>by subst e; have:=hF.ch; omega)]
        exact k.same b hb
  · rw [Array.getElem?_setIfInBounds_ne (by omega)]; exact hg0
  · rw [Array.getElem?_setIfInBounds_ne (by omega)]; exact hg0
theorem Core.wkStep (K : Core F T0 k0 j gs w t H Cs vs ws q rows p wt sm) (hF : F.Ok) {md : Nat} (hM : Mode j ws wt sm md) (hp : p ≤ 1) (hp1 : md ≠ 0 → p = 0) (hj : j ≤ 4) {i : Nat} (hi : i < j) {g : Goroutine} (sl : Option (Nat × Nat))
    (h0:∀ g0,gs[0]? = some g0→g0.status = .running ∨ (g0.status = .blocked∧g0.offers = none))
    (hg:gs[k0 + i]? = some g) (hr:g.status = .running):WNext F T0 k0 j gs w sl t H Cs vs ws q p sm md i:=by
  letI:=F.pay
  have hk1:=K.k1
  have hi0:(k0 + i == 0) = false:=by simp; omega
  have hact:act k0 (k0 + j) (k0 + i):=.inr ⟨by omega,by omega⟩
  obtain ⟨g0,h1,h2⟩:=K.wk i hi
  rw [hg] at h1
  obtain rfl:=Option.some.inj h1
  cases hk:ws i with
  | sit s m=>exact (K.sitStep hF hM hp hp1 hj hi hg hr hk).next K sl hg
  | bd r=>
    rw [hk] at h2
    obtain ⟨b1,b2,b3⟩:=h2
    cases r with
    | z=>exact b1.elim
    | nd f=>
      rcases b1.2 with hown | ⟨hgh,hCv,g2,x,zv,sh,hst,hRow,hW⟩ | ⟨hgh,hdone⟩
      · obtain ⟨g',w',es,h',hst,s',gr,he,hW⟩:=hown w (K.fam.sat _ hact) K.live
        refine ⟨_,w',_,updH H (k0 + i) h',.bd (f w 0),rows,wt,sm,runT_crowd_go (P:=F.P) (sl:=sl) (i:=k0 + i) hg (by rw [hi0]; exact hst),?_,by rw [hk]; exact .right _ (.mk f w 0),hM.high' hi (by rw [hk]; show 5 ≤ 8; decide) (by first|(show 5 ≤ 8; decide) | (show 5 ≤ 7; decide)),updH_ne _ _ (by omega),main0_woken (by omega) _ (fun x=>absurd rfl x),Deaf_other t (g':=k0 + i) (by omega) _ g_ofEvents⟩
        refine K.own hF hact hg s' gr he _ _ (fun a _ hne=>upd_ne _ _ (by omega)) (fun a ha'=>?_) (fun a ha' hin hD hor=>?_)
        · by_cases e:a = i
          · subst e; rw [upd_same,hk]; rfl
          · rw [upd_ne _ _ e]
        · obtain rfl:a = i:=by omega
          rw [upd_same]
          refine ⟨hW,hD.trans b2,?_⟩
          rcases b3 with b3 | ⟨c1,c2,c3⟩
          · exact .inl (gr.gh.trans b3)
          · refine .inr ⟨gr.gh.trans c1,?_,?_⟩
            · cases e:h'.obj (Cs a) with
              | none=>rfl
              | some o=>
                rcases gr.dom (Cs a) (by simp [e]) with y | y
                · rw [c2] at y; cases y
                · have:=(K.hold.cs a ha').2.2.1; omega
            · rcases hor with y | y
              · rw [y]; exact c3
              · rw [c2] at y; cases y
      · exact K.send hF hM hj hi sl h0 hg hk hgh hCv hst hRow (hW w)
      · rcases b3 with b3 | ⟨c1,c2,c3⟩
        · rw [hgh] at b3; cases b3
        have hHas:Has (Cs i) 0 (vs i) w:=by simp [Has,World.cell?,c3]
        obtain ⟨m,hG⟩:=hdone w K.live hHas
        have hW:WkAt F T0 t w i (k0 + i) (Cs i) (vs i) (H (k0 + i)) g (.sit 7 m):=⟨by rw [b2]; exact .r0 hG,c1,c2,fun x=>absurd x (by decide),by decide⟩
        have K2:=K.ghost hi hg (k':=.sit 7 m) (by rw [hk]; rfl) hW
        have hM2:Mode j (upd ws i (.sit 7 m)) wt sm md:=hM.high' hi (by rw [hk]; show 5 ≤ 8; decide) (by first|(show 5 ≤ 8; decide) | (show 5 ≤ 7; decide))
        obtain ⟨gs',w',ops,H',k',rows',wt',sm',z1,z2,z3,z4,z5,z6,z7⟩:=(K2.sitStep hF hM2 hp hp1 hj hi hg hr (upd_same _ _ _)).next K2 sl hg
        rw [upd_upd] at z2 z4
        refine ⟨gs',w',ops,H',k',rows',wt',sm',z1,z2,?_,z4,z5,z6,z7⟩
        rw [upd_same] at z3
        rw [hk]
        generalize k'.rk = kk at z3
        cases z3 with
        | left _ _ h=>exact .left _ _ (Nat.lt_trans h (by decide))
        | right _ h=>exact .left _ _ (by decide)
end
end Go.Sl

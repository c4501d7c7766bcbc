/- The fork of four workers and their join: the run. No program. -/
import Derived.Test.YtcpkcmgjfcbnpaaGreatDoorSlZ
set_option linter.unusedVariables false
set_option linter.unusedSimpArgs false
set_option linter.unusedSectionVars false

namespace Go.Sl
open Go Go.Conc
open Go.ConcN (WgLive PayAt Has RW DWs AsideCell AtR0 AtK1 AtD1 AtD2 AtD3 AtD4 RelBy sumTo upd sumTo_upd upd_ne upd_same sumTo_congr WSit le_sumTo fork_knows)
open Go.ConcR (KK wgBlock WgAt stA smA rd wr Payload DC0)
def StageOk (j p d md cnt:Nat):List Nat→Prop
  | [0,j']=>j = j'∧j ≤ 4∧p = 0∧d = 0∧md = 0
  | [1,j']=>j = j'∧j ≤ 4∧p = 0∧d = 1∧md = 0
  | [2,j']=>j = j'∧j ≤ 4∧p = 1∧d = 1∧md = 0
  | [3,j']=>j = j'∧j ≤ 4∧p = 1∧d = 0∧md = 0
  | [5,c]=>j = 4∧p = 0∧d = 1∧md = 0∧cnt ≤ c
  | [6]=>j = 4∧p = 0∧d = 1∧md = 1
  | [7]=>j = 4∧p = 0∧d = 1∧md = 2
  | [8]=>j = 4∧p = 0∧d = 1∧md = 2
  | [9]=>j = 4∧p = 0∧d = 0∧md = 2
  | _=>False
theorem StageOk.some {j p d md cnt:Nat}:∀ {s:List Nat},StageOk j p d md cnt s→j ≤ 4∧p ≤ 1∧(md ≠ 0→p = 0)
  | [0,_],h | [1,_],h | [2,_],h | [3,_],h=>by simp only [StageOk] at h; omega
  | [5,_],h=>by simp only [StageOk] at h; omega
  | [6],h | [7],h | [8],h | [9],h=>by simp only [StageOk] at h; omega
theorem StageOk.le {j p d md cnt cnt':Nat} (hc:cnt' ≤ cnt):∀ {s:List Nat},StageOk j p d md cnt s→StageOk j p d md cnt' s
  | [0,_],h | [1,_],h | [2,_],h | [3,_],h=>h
  | [5,_],h=>by simp only [StageOk] at h ⊢; omega
  | [6],h | [7],h | [8],h | [9],h=>h
structure FkSt (F:Fk) (T0 k0 j:Nat) (gs:Array Goroutine) (w:World) (t:Trace) (H:Nat→PHeap) (Cs:Nat→Nat) (vs:Nat→Value) (ws:Nat→Wk) (q:Nat→Nat) (rows:List (Nat × Value)) (p wt sm md:Nat) (r:Rk) (bl:Nat):Prop where
  core:Core F T0 k0 j gs w t H Cs vs ws q rows p wt sm
  ok:StageOk j p (Deaf t 0) md (sumTo j (fun i=>(ws i).cnt)) (H 0).gh
  mode:Mode j ws wt sm md
  main:∃ g,MT F r (H 0) g∧((bl = 1∧gs[0]? = some g) ∨ (bl = 0∧gs[0]? = some { g with status:=.blocked }∧g.offers = none∧(H 0).gh = [6]∧sm = 0))
def ranks (r:Rk) (ws:Nat→Wk):Nat→Nat × Rk:=fun i=>if i = 4 then (0,r) else (ws i).rk
theorem PR_wf:WellFounded PR:=(Prod.lex ⟨_,Nat.lt_wfRel.wf⟩ ⟨_,Rk.lt_wf⟩).wf
abbrev Ms:=Nat × (Nat→Nat × Rk) × Nat × Nat
abbrev MsLt:Ms→Ms→Prop:=Prod.Lex (· < ·) (Prod.Lex (Down PR 5) (Prod.Lex (· < ·) (· < ·)))
theorem MsLt_wf:WellFounded MsLt:=(Prod.lex ⟨_,Nat.lt_wfRel.wf⟩ (Prod.lex ⟨_,down_wf PR_wf 5⟩ (Prod.lex ⟨_,Nat.lt_wfRel.wf⟩ ⟨_,Nat.lt_wfRel.wf⟩))).wf
def ms (k0 j:Nat) (r:Rk) (ws:Nat→Wk) (q:Nat→Nat) (bl:Nat):Ms:=(4 - j,ranks r ws,sumTo k0 q,bl)
theorem ms_main {k0 j:Nat} {r r':Rk} {ws:Nat→Wk} {q:Nat→Nat} {bl bl':Nat} (h:Rk.lt r' r):MsLt (ms k0 j r' ws q bl') (ms k0 j r ws q bl):=
  .right _ (.left _ _ ⟨4,by decide,.right _ h,fun i hi=>by simp [ranks,hi]⟩)
theorem ms_wk {k0 j i:Nat} {r:Rk} {ws:Nat→Wk} {k':Wk} {q q':Nat→Nat} {bl bl':Nat} (hi:i < 4) (h:PR k'.rk (ws i).rk):MsLt (ms k0 j r (upd ws i k') q' bl') (ms k0 j r ws q bl):=
  .right _ (.left _ _ ⟨i,by omega,by simp only [ranks,show ¬ i = 4 by omega,if_false,upd_same]; exact h,fun a ha=>by
    simp only [ranks]; split
    · rfl
    · rw [upd_ne _ _ ha]⟩)
section
variable {F:Fk} {T0 k0 j:Nat} {gs:Array Goroutine} {w:World} {t:Trace} {H:Nat→PHeap} {Cs:Nat→Nat} {vs:Nat→Value} {ws:Nat→Wk} {q:Nat→Nat} {rows:List (Nat × Value)} {p wt sm md:Nat} {r:Rk}
theorem Core.mgrp (K : Core F T0 k0 j gs w t H Cs vs ws q rows p wt sm) (hF : F.Ok) {g g' : Goroutine} {w' : World} {es : Array Event} {p' wt' sm' : Nat} (s' : List Nat) (hg : gs[0]? = some g) (as : Aside F.Wg w w') (he : ∀ e ∈ es, GrpEv F 0 e)
    (wg':WgAt F.ty F.Wg w' (((sumTo j (fun i=>(ws i).cnt) + p':Nat):Int) * KK + (wt':Int)) (sm':Int)) :
    Core F T0 k0 j ((gs.map (Go.Conc.woken F.P g g' w')).setIfInBounds 0 g') w' (t++MemOp.ofEvents 0 g.frame.fn g.frame.place es) (updH H 0 (stay (H 0) s')) Cs vs ws q rows p' wt' sm':=
  K.grp hF (.inl rfl) (by simp) (K.at' hg _ _) (K.others _ _ _ _) as.os as.output as.size (fun b hb=>.inl (as.block b hb)) he _ _ (fun b o hb=>⟨hb,rfl⟩) (fun h=>absurd rfl h) (fun _ _ _=>rfl)
    (fun i _ hin=>absurd hin (by have:=K.k1; omega)) wg'
def MNext (F:Fk) (T0 k0 j:Nat) (gs:Array Goroutine) (w:World) (sl:Option (Nat × Nat)) (t:Trace) (r:Rk) (ws:Nat→Wk) (q:Nat→Nat):Prop:=
  ∃ m' ops,runT F.P (crowd gs w sl) 0 = (.next m',ops)∧(EndsOk F.P (EndPost F.W F.R) m' (t++ops) ∨
    ∃ j' gs' w' H' Cs' vs' ws' rows' p' wt' sm' md' r' bl',m' = crowd gs' w' sl∧FkSt F T0 k0 j' gs' w' (t++ops) H' Cs' vs' ws' q rows' p' wt' sm' md' r' bl'∧MsLt (ms k0 j' r' ws' q bl') (ms k0 j r ws q 1))
theorem mnext_grp (K : Core F T0 k0 j gs w t H Cs vs ws q rows p wt sm) (hF : F.Ok) {g g' : Goroutine} {w' : World} {es : Array Event} {p' wt' sm' md' : Nat} {f : World → Nat → Rk} (k : Nat) (s' : List Nat) (sl : Option (Nat × Nat)) (hg : gs[0]? = some g)
    (hst:stepG F.P true g w = .go g' w' es) (as:Aside F.Wg w w') (he:∀ e ∈ es,GrpEv F 0 e)
    (wg':WgAt F.ty F.Wg w' (((sumTo j (fun i=>(ws i).cnt) + p':Nat):Int) * KK + (wt':Int)) (sm':Int))
    (hT:MT F (f w k) (stay (H 0) s') g') (hok:StageOk j p' (deafBehind (Deaf t 0) es) md' (sumTo j (fun i=>(ws i).cnt)) s') (hM:Mode j ws wt' sm' md'):MNext F T0 k0 j gs w sl t (.nd f) ws q:=by
  refine ⟨_,_,runT_crowd_go (P:=F.P) (sl:=sl) (i:=0) hg (show stepG F.P (0 == 0) g w = _ from hst),.inr ⟨j,_,w',_,Cs,vs,ws,rows,p',wt',sm',md',f w k,1,rfl,⟨K.mgrp hF s' hg as he wg',?_,hM,g',?_,.inl ⟨rfl,K.at' hg _ _⟩⟩,ms_main (.mk f w k)⟩⟩
  · rw [updH_same,Deaf_own]; exact hok
  · rw [updH_same]; exact hT
theorem FkSt.turn (S:FkSt F T0 k0 j gs w t H Cs vs ws q rows p wt sm md r 1) (hF:F.Ok) {g:Goroutine} (sl:Option (Nat × Nat)) (hg:gs[0]? = some g):MNext F T0 k0 j gs w sl t r ws q:=by
  obtain ⟨K,hok,hM,g0,hT,hm⟩:=S
  rcases hm with ⟨_,hm⟩ | ⟨hm,_⟩
  case inr=>cases hm
  rw [hg] at hm
  obtain rfl:=Option.some.inj hm
  cases r with
  | z=>exact hT.elim
  | nd f=>
    have hW:=K.wg
    have hgh:∀ {s},(H 0).gh = s→StageOk j p (Deaf t 0) md (sumTo j (fun i=>(ws i).cnt)) s:=fun h=>h ▸ hok
    have hAs:=Aside.refl F.Wg w
    obtain ⟨hr,hT⟩:=hT
    rcases hT with ⟨hne,hown⟩ | ⟨j',hs,g',hst,hT⟩ | ⟨hs,g',hst,hT⟩ | ⟨j',hs,g',hst⟩ | ⟨j',hs,g',hst,hT⟩ | ⟨j',hs,g',hst,hT⟩ | ⟨j',hs,hj4,g',child,C,v,hst,hC,hCw,hC0,⟨r',hWT⟩,hT⟩ | ⟨c,hs,g',hst⟩ | ⟨c,hs,hc0,gh,gm,hhit,hTh,hmiss⟩ | ⟨hs,g',hst,hT⟩ | ⟨hs,hof,hwait,g',hst,hT⟩ | ⟨hs,g',hst,hT⟩ | ⟨hs,g',hst,hT⟩ | ⟨hs,g',hst,hL⟩
    ·
      have a0:act k0 (k0 + j) 0:=.inl rfl
      obtain ⟨g',w',es,h',hst,s',gr,he,hT⟩:=hown w (K.fam.sat 0 a0) K.live
      refine ⟨_,_,runT_crowd_go (P:=F.P) (sl:=sl) (i:=0) hg (show stepG F.P (0 == 0) g w = _ from hst),.inr ⟨j,_,w',_,Cs,vs,ws,rows,p,wt,sm,md,f w 0,1,rfl,⟨K.own hF a0 hg s' gr he _ _ (fun _ _ _=>rfl) (fun _ _=>rfl) (fun i _ hin=>absurd hin (by have:=K.k1; omega)),?_,hM,g',?_,.inl ⟨rfl,K.at' hg _ _⟩⟩,ms_main (.mk f w 0)⟩⟩
      · rw [updH_same,gr.gh,Deaf_own,deafBehind_still (fun e hx=>still_event (he e hx).1)]; exact hok
      · rw [updH_same]; exact hT
    ·
      obtain ⟨h1,h2,h3,h4,h5⟩:=hgh hs
      exact mnext_grp K hF 1 [1,j'] sl hg (hst w) hAs (fun e he=>by simp at he; subst he; exact GrpEv.mute rfl) hW (hT w) ⟨h1,h2,h3,by rw [h4]; rfl,h5⟩ hM
    ·
      obtain ⟨h1,h2,h3,h4,h5⟩:=hgh hs
      exact mnext_grp K hF 1 [5,4] sl hg (hst w) hAs (fun e he=>by simp at he; subst he; exact GrpEv.mute rfl) hW (hT w) ⟨h1,h3,by rw [h4]; rfl,h5,by have:=sum_cnt_le ws j; omega⟩ hM
    ·
      obtain ⟨h1,h2,rfl,h4,rfl⟩:=hgh hs
      obtain ⟨rfl,rfl,hM'⟩:=id hM
      obtain ⟨c,hc⟩:∃ c,sumTo j (fun i=>(ws i).cnt) = c:=⟨_,rfl⟩
      obtain ⟨hst,hT⟩:=hst c (by have:=sum_cnt_le ws j; omega)
      have hW':WgAt F.ty F.Wg w ((c:Int) * KK) 0:=by rw [hc] at hW; simpa using hW
      refine mnext_grp K hF c [2,j'] sl hg (hst w hW') (asideSet w (stA F.Wg) _) (p':=1) (wt':=0) (sm':=0) (fun e he=>?_) ?_ (hT w) ⟨h1,h2,rfl,by rw [h4]; rfl,rfl⟩ hM
      · simp at he; rcases he with rfl | rfl
        · exact (GrpEv.at' _ rfl).1
        · exact (GrpEv.at' _ rfl).2
      · rw [hc]
        have:=Go.ConcR.WgAt.setSt hW' (((c:Int) + 1) * KK)
        simpa using this
    ·
      exact mnext_grp K hF 1 [2,j'] sl hg (hst w K.live) hAs (fun e he=>by simp at he; subst he; exact (GrpEv.said _ rfl).1) hW (by have:=hT w; rw [← hs]; exact this) (hgh hs) hM
    ·
      obtain ⟨h1,h2,h3,h4,h5⟩:=hgh hs
      exact mnext_grp K hF 1 [3,j'] sl hg (hst w) hAs (fun e he=>by simp at he; subst he; exact GrpEv.mute rfl) hW (hT w) ⟨h1,h2,h3,by rw [h4]; rfl,h5⟩ hM
    ·
      obtain ⟨rfl,h2,rfl,h4,rfl⟩:=hgh hs
      obtain ⟨gs',ops,e1,e2,e3,K'⟩:=K.spawn hF sl hg h4 (hst w) hC hCw hC0 hWT (s':=[0,j + 1])
      refine ⟨_,_,e1,.inr ⟨j + 1,gs',w,_,_,_,_,rows,0,wt,sm,0,f w 1,1,rfl,⟨K',?_,?_,g',?_,.inl ⟨rfl,e2⟩⟩,?_⟩⟩
      · rw [updH_ne _ _ (by have:=K.k1; omega),updH_same,e3]
        exact ⟨rfl,by omega,rfl,rfl,rfl⟩
      · refine ⟨hM.1,hM.2.1,fun i hi=>?_⟩
        by_cases e:i = j
        · subst e; rw [upd_same]; exact .inl (by show 5 ≤ 8; decide)
        · rw [upd_ne _ _ e]; exact hM.2.2 i (by omega)
      · rw [updH_ne _ _ (by have:=K.k1; omega),updH_same]; exact hT w
      · exact .left _ _ (by omega)
    ·
      obtain ⟨rfl,rfl,h3,rfl,h5⟩:=hgh hs
      obtain ⟨rfl,rfl,hM'⟩:=id hM
      obtain ⟨c',hc⟩:∃ c',sumTo 4 (fun i=>(ws i).cnt) = c':=⟨_,rfl⟩
      obtain ⟨hst,hT⟩:=hst c' (by omega)
      have hW':WgAt F.ty F.Wg w ((c':Int) * KK) 0:=by rw [hc] at hW; simpa using hW
      by_cases h0:c' = 0
      · subst h0
        exact mnext_grp K hF 0 [8] sl hg (hst w hW') hAs (md':=2) (fun e he=>by simp at he; subst he; exact (GrpEv.at' _ rfl).1) hW (by have:=hT w; rw [if_pos rfl] at this; exact this) ⟨rfl,rfl,by rw [h3]; rfl,rfl⟩
          ⟨rfl,rfl,fun i hi=>(hM' i hi).resolve_left (by have:=sum_cnt_zero hc i hi; omega)⟩
      · exact mnext_grp K hF c' [5,c'] sl hg (hst w hW') hAs (md':=0) (fun e he=>by simp at he; subst he; exact (GrpEv.at' _ rfl).1) hW (by have:=hT w; rw [if_neg h0] at this; exact this) ⟨rfl,rfl,by rw [h3]; rfl,rfl,by omega⟩ hM
    ·
      obtain ⟨rfl,rfl,h3,rfl,h5⟩:=hgh hs
      obtain ⟨rfl,rfl,hM'⟩:=id hM
      obtain ⟨c',hc⟩:∃ c',sumTo 4 (fun i=>(ws i).cnt) = c':=⟨_,rfl⟩
      have hW':WgAt F.ty F.Wg w ((c':Int) * KK) 0:=by rw [hc] at hW; simpa using hW
      by_cases h0:c' = c
      · subst h0
        refine mnext_grp K hF 0 [6] sl hg (hhit w hW') (asideSet w (stA F.Wg) _) (p':=0) (wt':=1) (sm':=0) (md':=1) (fun e he=>?_) ?_ (hTh w) ⟨rfl,rfl,by rw [h3]; rfl,rfl⟩ (.inl ⟨rfl,rfl,hM',sum_cnt_pos (by omega)⟩)
        · simp at he; rcases he with rfl | rfl
          · exact (GrpEv.at' _ rfl).1
          · exact (GrpEv.at' _ rfl).2
        · rw [hc]
          have:=Go.ConcR.WgAt.setSt hW' ((c':Int) * KK + 1)
          simpa using this
      · obtain ⟨hst,hT⟩:=hmiss c' (by omega)
        exact mnext_grp K hF (c' + 1) [5,c'] sl hg (hst w hW') hAs (md':=0) (fun e he=>by simp at he; subst he; exact (GrpEv.at' _ rfl).1) hW (hT w) ⟨rfl,rfl,by rw [h3]; rfl,rfl,by omega⟩ hM
    ·
      exact mnext_grp K hF 1 [6] sl hg (hst w K.live) hAs (fun e he=>by simp at he; subst he; exact (GrpEv.said _ rfl).2) hW (by have:=hT w; rw [← hs]; exact this) (hgh hs) hM
    ·
      obtain ⟨rfl,rfl,h3,rfl⟩:=hgh hs
      by_cases h0:sm = 0
      · subst h0
        have hst':=hwait w _ (by simpa using hW)
        refine ⟨_,_,runT_crowd_go (P:=F.P) (sl:=sl) (i:=0) hg (show stepG F.P (0 == 0) g w = _ from hst'),.inr ⟨4,_,w,_,Cs,vs,ws,rows,0,wt,0,1,.nd f,0,rfl,⟨K.mgrp hF [6] hg hAs (by simp) hW,?_,hM,g,?_,.inr ⟨rfl,K.at' hg _ _,hof,by rw [updH_same]; rfl,rfl⟩⟩,?_⟩⟩
        · rw [updH_same,Deaf_own]; exact ⟨rfl,rfl,h3,rfl⟩
        · rw [updH_same]
          have e:stay (H 0) [6] = H 0:=by rw [← hs]; rfl
          rw [e]
          exact ⟨hr,.inr (.inr (.inr (.inr (.inr (.inr (.inr (.inr (.inr (.inr (.inl ⟨hs,hof,hwait,g',hst,hT⟩))))))))))⟩
        · exact .right _ (.right _ (.right _ (by decide)))
      · have hD : wt = 0 ∧ sm = 1 ∧ ∀ i, i < 4 → (ws i).s = 1 := by
          rcases hM with ⟨_,h,_⟩ | ⟨_,h,_⟩ | ⟨_,h,_⟩ | h
          · exact absurd h h0
          · exact absurd h h0
          · exact absurd h h0
          · exact h
        obtain ⟨rfl,rfl,hall⟩:=hD
        have hc:sumTo 4 (fun i=>(ws i).cnt) = 0:=sum_cnt_none fun i hi=>by rw [hall i hi]; decide
        have hW':WgAt F.ty F.Wg w 0 1:=by rw [hc] at hW; simpa using hW
        refine mnext_grp K hF 1 [7] sl hg (hst w hW') (asideSet w (smA F.Wg) _) (p':=0) (wt':=0) (sm':=0) (md':=2) (fun e he=>?_) ?_ (hT w) ⟨rfl,rfl,by rw [h3]; rfl,rfl⟩ ⟨rfl,rfl,hall⟩
        · simp [semEvents] at he
          rcases he with rfl | rfl | rfl | rfl
          · exact GrpEv.mute rfl
          · exact (GrpEv.at' _ rfl).1
          · exact (GrpEv.at' _ rfl).2
          · exact GrpEv.mute rfl
        · rw [hc]; simpa using Go.ConcR.WgAt.setSm hW' 0
    ·
      obtain ⟨rfl,rfl,h3,rfl⟩:=hgh hs
      obtain ⟨rfl,rfl,hall⟩:=id hM
      have hc:sumTo 4 (fun i=>(ws i).cnt) = 0:=sum_cnt_none fun i hi=>by rw [hall i hi]; decide
      have hW':WgAt F.ty F.Wg w 0 0:=by rw [hc] at hW; simpa using hW
      exact mnext_grp K hF 1 [8] sl hg (hst w hW') hAs (fun e he=>by simp at he; subst he; exact (GrpEv.at' _ rfl).1) hW (hT w) ⟨rfl,rfl,by rw [h3]; rfl,rfl⟩ hM
    ·
      obtain ⟨rfl,rfl,h3,rfl⟩:=hgh hs
      exact mnext_grp K hF 1 [9] sl hg (hst w) hAs (fun e he=>by simp at he; subst he; exact GrpEv.mute rfl) hW (hT w) ⟨rfl,rfl,by rw [h3]; rfl,rfl⟩ hM
    ·
      obtain ⟨rfl,rfl,h3,rfl⟩:=hgh hs
      obtain ⟨m',ops,e1,e2⟩:=K.join hF hM.2.2 h3 sl hg (hst w) hL
      exact ⟨m',ops,e1,.inl e2⟩
theorem fork_ends (hF : F.Ok) : ∀ (μ : Ms) {j : Nat} {gs : Array Goroutine} {w : World} {t : Trace} {H : Nat → PHeap} {Cs : Nat → Nat} {vs : Nat → Value} {ws : Nat → Wk} {q : Nat → Nat} {rows : List (Nat × Value)} {p wt sm md : Nat} {r : Rk} {bl : Nat} (sl : Option (Nat × Nat)),
    μ = ms k0 j r ws q bl→FkSt F T0 k0 j gs w t H Cs vs ws q rows p wt sm md r bl→EndsOk F.P (EndPost F.W F.R) (crowd gs w sl) t:=by
  intro μ
  induction μ using MsLt_wf.induction with
  | _ μ ih=>
  intro j gs w t H Cs vs ws q rows p wt sm md r bl sl hμ S
  subst hμ
  have K:=S.core
  obtain ⟨hj,hp,hp1⟩:=S.ok.some
  obtain ⟨g0,hT,hm⟩:=S.main
  have h0:∀ g1,gs[0]? = some g1→g1.status = .running ∨ (g1.status = .blocked∧g1.offers = none):=fun g1 hg1=>by
    rcases hm with ⟨_,hm⟩ | ⟨_,hm,hof,_⟩
    · rw [hg1] at hm; obtain rfl:=Option.some.inj hm; exact .inl hT.running
    · rw [hg1] at hm; obtain rfl:=Option.some.inj hm; exact .inr ⟨rfl,hof⟩
  have hst:∀ m gm,0 < m→gs[m]? = some gm→gm.status = .running ∨ gm.status = .finished:=fun m gm hpos hm'=>by
    rcases Nat.lt_or_ge m k0 with hl | hge
    · exact (K.leav m gm hpos hl hm').status
    · have hl:=(Array.getElem?_eq_some_iff.1 hm').1
      have hs:=K.sz
      obtain ⟨g3,c1,c2⟩:=K.wk (m - k0) (by omega)
      rw [show k0 + (m - k0) = m by omega,hm'] at c1
      obtain rfl:=Option.some.inj c1
      exact c2.status.imp id fun z=>z.2
  have haw:∀ g ∈ gs,awake g:=by
    intro g hg
    obtain ⟨i,hi,rfl⟩:=Array.mem_iff_getElem.1 hg
    rcases Nat.eq_zero_or_pos i with rfl | hpos
    · rcases h0 _ (Array.getElem?_eq_getElem hi) with y | ⟨y,_⟩
      · exact awake_of (.inl y)
      · exact awake_of (.inr (.inl y))
    · exact awake_of ((hst i _ hpos (Array.getElem?_eq_getElem hi)).imp id .inr)
  have some1:∃ (i:Nat) (g:Goroutine),gs[i]? = some g∧g.status = .running:=by
    rcases hm with ⟨_,hm⟩ | ⟨_,hm,hof,hgh,hsm⟩
    · exact ⟨0,g0,hm,hT.running⟩
    · have hok:=S.ok
      rw [hgh] at hok
      obtain ⟨rfl,rfl,h3,rfl⟩:=hok
      have hex:∃ i,i < 4∧2 ≤ (ws i).s:=by
        rcases S.mode with ⟨_,_,_,i,h1,h2⟩ | ⟨_,_,i,h1,h2,_⟩ | ⟨_,_,i,h1,h2,_⟩ | ⟨_,h,_⟩
        · exact ⟨i,h1,by omega⟩
        · exact ⟨i,h1,by omega⟩
        · exact ⟨i,h1,by omega⟩
        · omega
      obtain ⟨i,hi,h2⟩:=hex
      obtain ⟨gi,c1,c2⟩:=K.wk i hi
      exact ⟨_,gi,c1,c2.status.resolve_right fun z=>by omega⟩
  obtain ⟨i,g,d,sl',hi,hg,hstep⟩:=crowd_pick (P:=F.P) (w:=w) (sl:=sl) haw some1
  have S':FkSt F T0 k0 j gs (w.at d) t H Cs vs ws q rows p wt sm md r bl:=⟨K.drawn d,S.ok,S.mode,S.main⟩
  rcases Nat.eq_zero_or_pos i with rfl | hpos
  · have hbl : bl = 1 := by
      rcases hm with ⟨h,_⟩ | ⟨_,hm,_⟩
      · exact h
      · rw [hi] at hm; obtain rfl:=Option.some.inj hm; cases hg
    subst hbl
    obtain ⟨m',ops,e1,e2⟩:=S'.turn hF sl' hi
    refine EndsOk.prepend (hstep.trans e1) ?_
    rcases e2 with e2 | ⟨j',gs',w',H',Cs',vs',ws',rows',p',wt',sm',md',r',bl',rfl,S2,hlt⟩
    · exact e2
    · exact ih _ hlt sl' rfl S2
  · have main' : ∀ {gs' : Array Goroutine} {sm' : Nat} {H' : Nat → PHeap}, Main0 gs gs' sm sm' → H' 0 = H 0 → ∃ bl' g, MT F r (H' 0) g ∧ ((bl' = 1 ∧ gs'[0]? = some g) ∨ (bl' = 0 ∧ gs'[0]? = some { g with status := .blocked } ∧ g.offers = none ∧ (H' 0).gh = [6] ∧ sm' = 0)) := by
      intro gs' sm' H' hM0 hH
      rcases hm with ⟨_,hm⟩ | ⟨_,hm,hof,hgh,hsm⟩
      · exact ⟨1,g0,by rw [hH]; exact hT,.inl ⟨rfl,(hM0 g0 hm).1 hT.running⟩⟩
      · rcases (hM0 _ hm).2 rfl hof with y | ⟨y,z⟩
        · refine ⟨1,g0,by rw [hH]; exact hT,.inl ⟨rfl,?_⟩⟩
          rw [y]
          have:=hT.running
          cases g0
          simp only at this ⊢
          subst this
          rfl
        · exact ⟨0,g0,by rw [hH]; exact hT,.inr ⟨rfl,y,hof,by rw [hH]; exact hgh,by omega⟩⟩
    rcases Nat.lt_or_ge i k0 with hk | hk
    · obtain ⟨gs',ops,q',e1,K',e3,e4,e5⟩:=S'.core.leaver hpos hk sl' hi hg
      obtain ⟨bl',g1,f1,f2⟩:=main' (H':=H) e4 rfl
      refine EndsOk.prepend (hstep.trans e1) (ih (ms k0 j r ws q' bl') ?_ sl' rfl ⟨K',by rw [e5]; exact S.ok,S.mode,g1,f1,f2⟩)
      exact .right _ (.right _ (.left _ _ e3))
    · have hlt:=(Array.getElem?_eq_some_iff.1 hi).1
      have hs:=K.sz
      obtain ⟨a,rfl⟩:∃ a,i = k0 + a:=⟨i - k0,by omega⟩
      have ha:a < j:=by omega
      obtain ⟨gs',w',ops,H',k',rows',wt',sm',e1,K',e3,e4,e5,e6,e7⟩:=S'.core.wkStep hF S.mode hp hp1 hj ha sl' h0 hi hg
      obtain ⟨bl',g1,f1,f2⟩:=main' (H':=H') e6 e5
      refine EndsOk.prepend (hstep.trans e1) (ih (ms k0 j r (upd ws a k') q bl') (ms_wk (by omega) e3) sl' rfl ⟨K',?_,e4,g1,f1,f2⟩)
      rw [e7,e5]
      refine S.ok.le ?_
      have hsum:=sumTo_upd ws k' Wk.cnt ha
      have hle:k'.s ≤ (ws a).s:=by
        have e8:∀ k:Wk,k.rk.1 = k.s:=fun k=>by cases k <;> rfl
        rw [← e8,← e8]
        generalize k'.rk = x at e3
        generalize (ws a).rk = y at e3
        cases e3 with
        | left _ _ h=>exact Nat.le_of_lt h
        | right _ h=>exact Nat.le_refl _
      have:k'.cnt ≤ (ws a).cnt:=by unfold Wk.cnt; split <;> split <;> omega
      omega
end
end Go.Sl

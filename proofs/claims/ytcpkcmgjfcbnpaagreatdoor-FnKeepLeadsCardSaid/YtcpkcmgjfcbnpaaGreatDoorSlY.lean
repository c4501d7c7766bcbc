/- The fork of four workers and their join: a leaver's step, a draw, the go statement, the join. No program. -/
import Derived.Test.YtcpkcmgjfcbnpaaGreatDoorSlX
set_option linter.unusedVariables false
set_option linter.unusedSimpArgs false
set_option linter.unusedSectionVars false

namespace Go.Sl
open Go Go.Conc
open Go.ConcN (WgLive PayAt Has RW DWs AsideCell AtR0 AtK1 AtD1 AtD2 AtD3 AtD4 RelBy sumTo upd sumTo_upd upd_ne upd_same sumTo_congr WSit le_sumTo fork_knows)
open Go.ConcR (KK wgBlock WgAt stA smA rd wr Payload DC0)
section
variable {F:Fk} {T0 k0 j:Nat} {gs:Array Goroutine} {w:World} {t:Trace} {H:Nat→PHeap} {Cs:Nat→Nat} {vs:Nat→Value} {ws:Nat→Wk} {q:Nat→Nat} {rows:List (Nat × Value)} {p wt sm:Nat}
theorem Core.drawn (K:Core F T0 k0 j gs w t H Cs vs ws q rows p wt sm) (d:Nat):Core F T0 k0 j gs (w.at d) t H Cs vs ws q rows p wt sm:=by
  refine ⟨K.k1,K.t0,K.sz,K.fam.world rfl,K.tr,K.leav,K.above,fun i hi=>?_,K.wg,⟨K.rows.ch,K.rows.nd,K.rows.row,K.rows.all⟩,⟨K.hold.no,K.hold.old,K.hold.new,K.hold.cs,K.hold.inj,K.hold.co,K.hold.lt,K.hold.kept.heap rfl rfl rfl⟩⟩
  obtain ⟨g,h1,h2⟩:=K.wk i hi
  have:=h2.other (u:=#[]) (w':=w.at d) (by simp) (by simp) K.live rfl
  exact ⟨g,h1,by simpa using this⟩
theorem Core.leaver (K : Core F T0 k0 j gs w t H Cs vs ws q rows p wt sm) {n : Nat} (hn : 0 < n) (hk : n < k0) {g : Goroutine} (sl : Option (Nat × Nat)) (hg : gs[n]? = some g) (hr : g.status = .running) :
    ∃ gs' ops q',runT F.P (crowd gs w sl) n = (.next (crowd gs' w sl),ops)∧Core F T0 k0 j gs' w (t++ops) H Cs vs ws q' rows p wt sm∧sumTo k0 q' < sumTo k0 q∧Main0 gs gs' sm sm∧Deaf (t++ops) 0 = Deaf t 0:=by
  have hq:=K.leav n g hn hk hg
  have hn0:(n == 0) = false:=by simp; omega
  cases hqn:q n with
  | zero=>rw [hqn] at hq; rw [hq.1] at hr; cases hr
  | succ k=>
    rw [hqn] at hq
    rcases hq with ⟨hf,_⟩ | ⟨_,g',es,hm,hst,hq'⟩
    · rw [hf] at hr; cases hr
    refine ⟨_,_,upd q n k,runT_crowd_go (P:=F.P) (sl:=sl) (i:=n) hg (by rw [hn0]; exact hst w),?_,?_,main0_woken hn _ (fun x=>absurd rfl x),Deaf_other t (g':=n) (by omega) _ g_ofEvents⟩
    · have hut:∀ op ∈ MemOp.ofEvents n g.frame.fn g.frame.place es,op.act.touch? = none:=fun op hop=>by obtain ⟨e,he,rfl⟩:=mem_evs hop; exact touch_mute (hm e he)
      have:=K.step (n:=n) (g':=g') (gs':=(gs.map (Go.Conc.woken F.P g g' w)).setIfInBounds n g') (w':=w) (u:=MemOp.ofEvents n g.frame.fn g.frame.place es) (h':=H n) (ws':=ws) (q':=upd q n k) (rows':=rows) (p':=p) (wt':=wt) (sm':=sm) g_ofEvents (by have:=K.sz; omega) (by simp) (K.at' hg _ _) (K.others _ _ _ _)
        (by rw [updH_self]; exact K.fam.still rfl g_ofEvents hut)
        (by
          rw [updH_self]
          refine K.tr.app (n:=n) (fun op hop=>⟨g_ofEvents op hop,?_,fun x hx=>(by rw [hut op hop] at hx; cases hx),fun x hx=>(by rw [hut op hop] at hx; cases hx),fun x hx=>(by rw [hut op hop] at hx; cases hx)⟩) fun i hi b hb=>.inl ⟨i,hi,hb⟩
          obtain ⟨e,he,rfl⟩:=mem_evs hop
          exact (GrpEv.mute (F:=F) (n:=0) (hm e he)).rel)
        (fun _ _ _=>rfl) (fun _ _ _=>rfl) (fun i hi hin=>absurd hin (by omega)) (fun m hne=>upd_ne _ _ hne) (fun _ _=>by rw [upd_same,Deaf_own]; exact hq') K.wg (by rw [updH_self]; exact K.rows) (by rw [updH_self]; exact K.hold)
      rw [updH_self] at this
      exact this
    · have:=sumTo_upd q k id (j:=k0) hk
      simp only [id,hqn] at this
      have e1:sumTo k0 (fun a=>q a) = sumTo k0 q:=rfl
      have e2:sumTo k0 (fun a=>upd q n k a) = sumTo k0 (upd q n k):=rfl
      omega
theorem deaf_spawn (t:Trace) (n m:Nat) (a b:MemOp) (ha:a.act = .go n) (hb:b.act = .start):Deaf (t++#[a,b]) m = Deaf t m:=by
  rw [show (t++#[a,b]) = t++([a,b]:List MemOp).toArray from rfl,Deaf_append]
  simp [deafStep,ha,hb]
theorem Core.spawn (K : Core F T0 k0 j gs w t H Cs vs ws q rows 1 wt sm) (hF : F.Ok) {g g' child : Goroutine} {C : Nat} {v : Value} {r : Rk} {s' : List Nat} (sl : Option (Nat × Nat)) (hg : gs[0]? = some g) (hD : Deaf t 0 = 0)
    (hst:stepG F.P true g w = .spawn g' child w #[]) (hC:(H 0).obj C = some (.cells #[v] F.it (0,0))) (hCw:(H 0).wr C = true) (hC0:F.h0.obj C = none) (hW:WT F j C v r (ro (H 0) [0]) child) :
    ∃ gs' ops,runT F.P (crowd gs w sl) 0 = (.next (crowd gs' w sl),ops)∧gs'[0]? = some g'∧Deaf (t++ops) 0 = 0 ∧
      Core F T0 k0 (j + 1) gs' w (t++ops) (updH (updH H 0 (delb (ro (H 0) s') C)) (k0 + j) (ro (H 0) [0])) (upd Cs j C) (upd vs j v) (upd ws j (.bd r)) q rows 0 wt sm:=by
  have hk1:=K.k1
  have hsz:=K.sz
  have hrun:=runT_crowd_spawn (P:=F.P) (gs:=gs) (w:=w) (w':=w) (sl:=sl) (i:=0) hg (show stepG F.P (0 == 0) g w = _ from hst)
  rw [hsz] at hrun
  have eo:(((MemOp.ofEvents 0 g.frame.fn g.frame.place #[]).push { g:=0,fn:=g.frame.fn,pos:=g.frame.place,act:=.go (k0 + j) }).push { g:=k0 + j,fn:=child.frame.fn,pos:=g.frame.place,act:=.start }) = #[({ g:=0,fn:=g.frame.fn,pos:=g.frame.place,act:=.go (k0 + j) }:MemOp),{ g:=k0 + j,fn:=child.frame.fn,pos:=g.frame.place,act:=.start }]:=by simp [ofEvents_eq]
  rw [eo] at hrun
  generalize hx:({ g:=0,fn:=g.frame.fn,pos:=g.frame.place,act:=.go (k0 + j) }:MemOp) = x at hrun
  generalize hy:({ g:=k0 + j,fn:=child.frame.fn,pos:=g.frame.place,act:=.start }:MemOp) = y at hrun
  have hx1:x.g = 0∧x.act = .go (k0 + j):=by subst hx; exact ⟨rfl,rfl⟩
  have hy1:y.g = k0 + j∧y.act = .start:=by subst hy; exact ⟨rfl,rfl⟩
  have hud:∀ m,Deaf (t++#[x,y]) m = Deaf t m:=fun m=>deaf_spawn t (k0 + j) m x y hx1.2 hy1.2
  have hDk:Deaf t (k0 + j) = 0:=K.above _ (Nat.le_refl _)
  have a0:act k0 (k0 + j) 0:=.inl rfl
  have hut:∀ op ∈ (#[x,y]:Trace),op.act.touch? = none:=by
    intro op hop
    simp at hop
    rcases hop with rfl | rfl
    · rw [hx1.2]; rfl
    · rw [hy1.2]; rfl
  have old:∀ {z:Nat} {a:Touch},touchAt (t++#[x,y]) z = some a→z < t.size∧touchAt t z = some a:=by
    intro z a ha
    obtain ⟨op,ho,hoa⟩:=touch_of ha
    rcases getElem?_append_cases ho with ⟨hlt,ho'⟩ | ⟨_,hou⟩
    · exact ⟨hlt,by rw [touchAt_of ho']; exact hoa⟩
    · rw [hut op hou] at hoa; cases hoa
  have childK:∀ z,Knows t 0 z→Knows (t++#[x,y]) (k0 + j) z:=fun z h=>fork_knows hx1 hy1 hD hDk h
  generalize hH':updH (updH H 0 (delb (ro (H 0) s') C)) (k0 + j) (ro (H 0) [0]) = H'
  have hH0:H' 0 = delb (ro (H 0) s') C:=by subst hH'; rw [updH_ne _ _ (by omega),updH_same]
  have hHn:H' (k0 + j) = ro (H 0) [0]:=by subst hH'; rw [updH_same]
  have hHo:∀ m,m ≠ 0→m ≠ k0 + j→H' m = H m:=fun m h1 h2=>by subst hH'; rw [updH_ne _ _ h2,updH_ne _ _ h1]
  have hA:∀ {m},act k0 (k0 + (j + 1)) m→act k0 (k0 + j) m ∨ m = k0 + j:=fun {m} h=>by
    rcases h with h | ⟨h1,h2⟩
    · exact .inl (.inl h)
    · rcases Nat.lt_or_ge m (k0 + j) with h3 | h3
      · exact .inl (.inr ⟨h1,h3⟩)
      · exact .inr (by omega)
  have src:∀ m,act k0 (k0 + (j + 1)) m→∀ b o,(H' m).obj b = some o→∃ m',act k0 (k0 + j) m'∧(H m').obj b = some o∧((H' m).wr b = true→m' = m∧(H m).wr b = true):=by
    intro m hm b o hb
    by_cases e0:m = 0
    · subst e0
      rw [hH0] at hb
      refine ⟨0,a0,?_,fun z=>by rw [hH0] at z; cases z⟩
      simp only [delb,ro] at hb
      split at hb
      · cases hb
      · exact hb
    · by_cases en:m = k0 + j
      · subst en
        rw [hHn] at hb
        exact ⟨0,a0,hb,fun z=>by rw [hHn] at z; cases z⟩
      · rw [hHo m e0 en] at hb
        exact ⟨m,(hA hm).resolve_right en,hb,fun z=>by rw [hHo m e0 en] at z; exact ⟨rfl,z⟩⟩
  have srcS:∀ m,act k0 (k0 + (j + 1)) m→∀ b,((H' m).obj b).isSome = true→∃ m',act k0 (k0 + j) m'∧((H m').obj b).isSome = true:=by
    intro m hm b hb
    obtain ⟨o,ho⟩:=Option.isSome_iff_exists.1 hb
    obtain ⟨m',h1,h2,_⟩:=src m hm b o ho
    exact ⟨m',h1,by simp [h2]⟩
  have hCo:∀ i,i < j→(H 0).obj (Cs i) = none:=fun i hi=>K.hold.co i hi 0 a0 (by omega)
  refine ⟨_,_,hrun,?_,by rw [hud]; exact hD,?_⟩
  · have hlt:=(Array.getElem?_eq_some_iff.1 hg).1
    rw [Array.getElem?_push_lt (by simpa using hlt)]
    simp [hlt]
  refine ⟨hk1,by have:=K.t0; simp; omega,by simp; omega,⟨fun m hm b o hb=>?_,fun m m' hm hm' hne b hb hwb=>?_,fun m hm z a b hz hb hs hwr=>?_,fun said=>?_,fun op hop z b hz hb=>?_⟩,⟨fun z a b hz hb hh hw=>?_,fun z a hz hb=>?_,fun z a hz hb=>?_,fun z n hz hn hc=>?_,fun z hz e=>?_⟩,fun i gi hi hk hgi=>?_,fun m hm=>?_,fun i hi=>?_,?_,⟨K.rows.ch,K.rows.nd,fun z hz=>?_,fun i hi hgi=>?_⟩,⟨fun m hm=>?_,fun m hm b hb hwb=>?_,fun m hm b hb=>?_,fun i hi=>?_,fun i i' hi hi' hne=>?_,fun i hi m hm hne=>?_,K.hold.lt,K.hold.kept⟩⟩
  · obtain ⟨m',h1,h2,_⟩:=src m hm b o hb
    exact K.fam.sat m' h1 b o h2
  · obtain ⟨o,ho⟩:=Option.isSome_iff_exists.1 hb
    obtain ⟨m1,h1,h2,h3⟩:=src m hm b o ho
    obtain ⟨rfl,h4⟩:=h3 hwb
    cases e:(H' m').obj b with
    | none=>rfl
    | some o'=>
      obtain ⟨m2,e1,e2,_⟩:=src m' hm' b o' e
      by_cases hmm:m1 = m2
      ·
        subst hmm
        by_cases z0:m1 = 0
        · subst z0
          rw [hH0] at hwb; cases hwb
        · exfalso
          by_cases y0:m' = 0
          · subst y0
            rw [hH0] at e
            simp only [delb,ro] at e
            split at e
            · cases e
            · have:=K.fam.dis m1 0 h1 a0 z0 b (by simp [h2]) h4
              rw [this] at e; cases e
          · by_cases y1:m' = k0 + j
            · subst y1
              rw [hHn] at e
              have:=K.fam.dis m1 0 h1 a0 z0 b (by simp [h2]) h4
              simp only [ro] at e
              rw [this] at e; cases e
            · rw [hHo m' y0 y1] at e
              have:=K.fam.dis m1 m' h1 ((hA hm').resolve_right y1) hne b (by simp [h2]) h4
              rw [this] at e; cases e
      · have:=K.fam.dis m1 m2 h1 e1 hmm b (by simp [h2]) h4
        rw [this] at e2; cases e2
  · obtain ⟨_,hz'⟩:=old hz
    by_cases en:m = k0 + j
    · subst en
      rw [hHn] at hs hwr
      refine childK z (K.fam.know 0 a0 z a b hz' hb hs (.inl (hwr.resolve_right fun e=>by cases e)))
    · obtain ⟨o,ho⟩:=Option.isSome_iff_exists.1 hs
      by_cases e0:m = 0
      · subst e0
        rw [hH0] at hwr ho
        have ho' : (H 0).obj b = some o := by simp only [delb, ro] at ho; split at ho; · cases ho
                                              · exact ho
        exact (K.fam.know 0 a0 z a b hz' hb (by simp [ho']) (.inl (hwr.resolve_right fun e=>by cases e))).app _
      · rw [hHo m e0 en] at hs hwr
        exact (K.fam.know m ((hA hm).resolve_right en) z a b hz' hb hs hwr).app _
  · have e:t++#[x,y] = (t++#[x])++#[y]:=by apply Array.ext'; simp
    rw [e]
    refine noRace_append (g:=k0 + j) (noRace_append (g:=0) (K.fam.clean said) (fun op hop=>by simp at hop; rw [hop]; exact hx1.1) (fun i a _ op hop b hb _=>by rw [hut op (by simp at hop ⊢; exact .inl hop)] at hb; cases hb))
      (fun op hop=>by simp at hop; rw [hop]; exact hy1.1) (fun i a _ op hop b hb _=>by rw [hut op (by simp at hop ⊢; exact .inr hop)] at hb; cases hb)
  · rcases Array.mem_append.1 hop with h | h
    · exact K.fam.low op h z b hz hb
    · rw [hut op h] at hz; cases hz
  · obtain ⟨hlt,hz'⟩:=old hz
    obtain ⟨m,hm,hs⟩:=hh
    rcases K.tr.Q z a b hz' hb (srcS m hm b hs) hw with h | ⟨n,n1,n2,n3⟩
    · exact .inl (h.app _)
    · exact .inr ⟨n,n1,by omega,by rw [g?_old hlt]; exact n3⟩
  · obtain ⟨hlt,hz'⟩:=old hz
    obtain ⟨h1,h2⟩:=K.tr.wt z a hz' hb
    refine ⟨fun k m hm=>?_,fun k=>(h2 k).app _⟩
    rcases hA hm with h | rfl
    · exact (h1 k m h).app _
    · exact childK z (h1 k 0 a0)
  · obtain ⟨_,hz'⟩:=old hz
    exact (K.tr.ct z a hz' hb).app _
  · rcases Nat.lt_or_ge z t.size with hlt | hge
    · rw [g?_old hlt] at hz
      rcases K.tr.ho z n hz hn ((counts_old hlt).1 hc) with ⟨y',h1,h2⟩ | ⟨h1,h2⟩
      · exact .inl ⟨y',by rw [g?_old (lt_of_g? h1)]; exact h1,hb_app _ h2⟩
      · exact .inr ⟨h1,by omega⟩
    · obtain ⟨a,ha,_⟩:=hc
      have:=(old ha).1
      omega
  · obtain ⟨op,ho,hoa⟩:=Option.map_eq_some_iff.1 e
    rcases getElem?_append_cases ho with ⟨_,ho'⟩ | ⟨_,hou⟩
    · exact K.tr.norel z hz (by rw [act?_of ho',hoa])
    · simp at hou
      rcases hou with rfl | rfl
      · rw [hx1.2] at hoa; cases hoa
      · rw [hy1.2] at hoa; cases hoa
  · rw [hud]
    have hlt:i < gs.size:=by omega
    rw [Array.getElem?_push_lt (by simpa using hlt)] at hgi
    have:gs[i]? = some gi:=by
      rw [← hgi,← Array.getElem?_eq_getElem (by simpa using hlt),Array.getElem?_setIfInBounds_ne (by omega)]
    exact K.leav i gi hi hk this
  · rw [hud]; exact K.above m (by omega)
  · by_cases e:i = j
    · subst e
      refine ⟨child,?_,?_⟩
      · rw [show k0 + i = (gs.setIfInBounds 0 g').size by simp; omega,Array.getElem?_push_size]
      · rw [upd_same,upd_same,upd_same,hHn]
        exact ⟨hW,by rw [hud]; exact hDk,.inl rfl⟩
    · have hij:i < j:=by omega
      obtain ⟨gi,h1,h2⟩:=K.wk i hij
      have hlt:k0 + i < gs.size:=by omega
      refine ⟨gi,?_,?_⟩
      · rw [Array.getElem?_push_lt (by simpa using hlt),← Array.getElem?_eq_getElem (by simpa using hlt),Array.getElem?_setIfInBounds_ne (by omega)]; exact h1
      · rw [upd_ne _ _ e,upd_ne _ _ e,upd_ne _ _ e,hHo _ (by omega) (by omega)]
        refine h2.other (fun op hop=>?_) (hud _) K.live rfl
        simp at hop
        rcases hop with rfl | rfl
        · rw [hx1.1]; omega
        · rw [hy1.1]; omega
  · have e1:sumTo j (fun i=>(upd ws j (.bd r) i).cnt) = sumTo j (fun i=>(ws i).cnt):=sumTo_congr fun i hi=>by rw [upd_ne _ _ (by omega)]
    have e2:sumTo (j + 1) (fun i=>(upd ws j (.bd r) i).cnt) + 0 = sumTo j (fun i=>(ws i).cnt) + 1:=by
      simp only [sumTo,e1,upd_same]; rfl
    rw [e2]; exact K.wg
  · obtain ⟨r1,r2,S,r3,r4⟩:=K.rows.row z hz
    exact ⟨by omega,by rw [hHo _ (by omega) (by omega)]; exact r2,S,fun b o hb=>by rw [hHo _ (by omega) (by omega)]; exact r3 b o hb,r4⟩
  · by_cases e:i = j
    · subst e; rw [hHn] at hgi; cases hgi
    · rw [hHo _ (by omega) (by omega)] at hgi
      exact K.rows.all i (by omega) hgi
  · have key : ∀ b, (∀ m', act k0 (k0 + j) m' → (H m').obj b = none) → (H' m).obj b = none := fun b h => by
      cases e:(H' m).obj b with
      | none=>rfl
      | some o=>
        obtain ⟨m',h1,h2,_⟩:=src m hm b o e
        rw [h m' h1] at h2; cases h2
    exact ⟨key _ fun m' h=>(K.hold.no m' h).1,key _ fun m' h=>(K.hold.no m' h).2⟩
  · obtain ⟨o,ho⟩:=Option.isSome_iff_exists.1 hb
    obtain ⟨m',h1,h2,h3⟩:=src m hm b o ho
    obtain ⟨rfl,h4⟩:=h3 hwb
    exact K.hold.old m' h1 b (by simp [h2]) h4
  · obtain ⟨m',h1,h2⟩:=srcS m hm b hb
    exact K.hold.new m' h1 b h2
  · by_cases e:i = j
    · subst e
      rw [upd_same]
      have hno:=K.hold.no 0 a0
      refine ⟨fun e=>?_,fun e=>?_,(K.fam.sat 0 a0).lt hC,?_⟩
      · rw [e,hno.1] at hC; cases hC
      · rw [e,hno.2] at hC; cases hC
      · exact (K.hold.new 0 a0 C (by simp [hC])).resolve_left (by simp [hC0])
    · rw [upd_ne _ _ e]; exact K.hold.cs i (by omega)
  · by_cases e:i = j
    · by_cases e':i' = j
      · omega
      · subst e
        rw [upd_same,upd_ne _ _ e']
        intro h
        rw [h,hCo i' (by omega)] at hC; cases hC
    · by_cases e':i' = j
      · subst e'
        rw [upd_same,upd_ne _ _ e]
        intro h
        rw [← h,hCo i (by omega)] at hC; cases hC
      · rw [upd_ne _ _ e,upd_ne _ _ e']; exact K.hold.inj i i' (by omega) (by omega) hne
  · by_cases e:i = j
    · subst e
      rw [upd_same]
      by_cases e0:m = 0
      · subst e0; rw [hH0]; simp [delb]
      · rw [hHo m e0 hne]
        have hm':=(hA hm).resolve_right hne
        exact K.fam.dis 0 m a0 hm' (fun e=>e0 e.symm) C (by simp [hC]) hCw
    · rw [upd_ne _ _ e]
      have hij:i < j:=by omega
      by_cases e0:m = 0
      · subst e0; rw [hH0]; simp only [delb,ro]; split
        · rfl
        · exact hCo i hij
      · by_cases en:m = k0 + j
        · subst en; rw [hHn]; exact hCo i hij
        · rw [hHo m e0 en]; exact K.hold.co i hij m ((hA hm).resolve_right en) hne
end
end Go.Sl

/- The fork of four workers and their join: own steps, steps at the group, leavers' steps. No program. -/
import Derived.Test.YtcpkcmgjfcbnpaaGreatDoorSlU
set_option linter.unusedVariables false
set_option linter.unusedSimpArgs false
set_option linter.unusedSectionVars false

namespace Go.Sl
open Go Go.Conc
open Go.ConcN (WgLive PayAt Has RW DWs AsideCell AtR0 AtK1 AtD1 AtD2 AtD3 AtD4 RelBy sumTo upd sumTo_upd upd_ne upd_same sumTo_congr WSit)
open Go.ConcR (KK wgBlock WgAt stA smA rd wr mk Payload DC0)
section
variable {F:Fk} {T0 k0 j:Nat} {gs:Array Goroutine} {w:World} {t:Trace} {H:Nat→PHeap} {Cs:Nat→Nat} {vs:Nat→Value} {ws:Nat→Wk} {q:Nat→Nat} {rows:List (Nat × Value)} {p wt sm:Nat}
theorem Core.woken (K:Core F T0 k0 j gs w t H Cs vs ws q rows p wt sm) {m:Nat} {g:Goroutine} (hm:0 < m) (hg:gs[m]? = some g) (a a':Goroutine) (w':World):woken F.P a a' w' g = g:=by
  rcases Nat.lt_or_ge m k0 with h | h
  · exact woken_quitsD (K.leav m g hm h hg)
  · have hlt:m < gs.size:=(Array.getElem?_eq_some_iff.1 hg).1
    have hs:=K.sz
    obtain ⟨g2,h1,h2⟩:=K.wk (m - k0) (by omega)
    rw [show k0 + (m - k0) = m by omega] at h1
    rw [hg] at h1
    obtain rfl:=Option.some.inj h1
    exact h2.woken a a'
theorem Core.others (K:Core F T0 k0 j gs w t H Cs vs ws q rows p wt sm) {n:Nat} (a a' x:Goroutine) (w':World):∀ m,0 < m→m ≠ n→((gs.map (Go.Conc.woken F.P a a' w')).setIfInBounds n x)[m]? = gs[m]?:=by
  intro m hm hne
  rw [Array.getElem?_setIfInBounds_ne (fun e=>hne e.symm),Array.getElem?_map]
  cases e:gs[m]? with
  | none=>rfl
  | some g=>simp [K.woken hm e a a' w']
theorem Core.at' (K:Core F T0 k0 j gs w t H Cs vs ws q rows p wt sm) {n:Nat} {g:Goroutine} (hg:gs[n]? = some g) (f:Goroutine→Goroutine) (x:Goroutine):((gs.map f).setIfInBounds n x)[n]? = some x:=by
  have hlt:n < gs.size:=(Array.getElem?_eq_some_iff.1 hg).1
  simp [hlt]
theorem act_lt {n:Nat} (k1:1 ≤ k0) (h:act k0 (k0 + j) n):n < k0 + j:=by
  rcases h with h | h <;> omega
theorem Core.own (K : Core F T0 k0 j gs w t H Cs vs ws q rows p wt sm) (hF : F.Ok) {n : Nat} (ha : act k0 (k0 + j) n) {g g' : Goroutine} {w' : World} {es : Array Event} {h' : PHeap} {ws' : Nat → Wk} (hgn : gs[n]? = some g)
    (s':Sat w' h') (gr:Grow w w' (H n) h') (he:∀ e ∈ es,EvOk (H n) w.heap.size e∧EvLt w'.heap.size e) (fn:FuncId) (pos:String)
    (hws:∀ i,i < j→k0 + i ≠ n→ws' i = ws i) (hcnt:∀ i,i < j→(ws' i).cnt = (ws i).cnt)
    (own:∀ i,i < j→k0 + i = n→(Deaf (t++MemOp.ofEvents n fn pos es) n = Deaf t n)→w'.heap[Cs i]? = w.heap[Cs i]? ∨ ((H n).obj (Cs i)).isSome = true→WkAt F T0 (t++MemOp.ofEvents n fn pos es) w' i n (Cs i) (vs i) h' g' (ws' i)) :
    Core F T0 k0 j ((gs.map (Go.Conc.woken F.P g g' w')).setIfInBounds n g') w' (t++MemOp.ofEvents n fn pos es) (updH H n h') Cs vs ws' q rows p wt sm:=by
  have hD:Deaf (t++MemOp.ofEvents n fn pos es) n = Deaf t n:=by
    rw [Deaf_own]; exact deafBehind_still (fun e hx=>still_event (he e hx).1) _
  have hsat:Sat w (H n):=K.fam.sat n ha
  have hlt:=K.hold.lt
  have hno:=K.hold.no n ha
  have oldNone:∀ b,b < w.heap.size→(H n).obj b = none→h'.obj b = none:=by
    intro b hb hn
    cases e:h'.obj b with
    | none=>rfl
    | some o=>
      rcases gr.dom b (by simp [e]) with y | y
      · rw [hn] at y; cases y
      · omega
  have hWg:w'.heap[F.Wg]? = w.heap[F.Wg]?:=gr.other _ hlt.1 hno.1
  have hCh:w'.heap[F.Ch]? = w.heap[F.Ch]?:=gr.other _ hlt.2 hno.2
  have hsum:sumTo j (fun i=>(ws' i).cnt) = sumTo j (fun i=>(ws i).cnt):=sumTo_congr hcnt
  refine K.step (q':=q) g_ofEvents (act_lt K.k1 ha) (by simp) (K.at' hgn _ _) (K.others _ _ _ _) (K.fam.own ha s' gr he fn pos) ?_ ?_ hws ?_ (fun _ _=>rfl) (fun h1 h2=>?_) ?_ ?_ ?_
  · refine K.tr.app (fine_own ha ⟨hno.1,hlt.1⟩ ⟨hno.2,hlt.2⟩ he fn pos) fun i hi b hb=>?_
    by_cases e:i = n
    · subst e
      rw [updH_same] at hb
      rcases gr.dom b hb with y | y
      · exact .inl ⟨i,hi,y⟩
      · refine .inr fun x a hx hb'=>?_
        have:=K.fam.lowAt hx hb'
        omega
    · rw [updH_ne _ _ e] at hb
      exact .inl ⟨i,hi,hb⟩
  · intro i hi hne
    exact gr.other _ (K.hold.cs i hi).2.2.1 (K.hold.co i hi n ha fun e=>hne e.symm)
  · intro i hi hin
    refine own i hi hin hD ?_
    cases e:(H n).obj (Cs i) with
    | none=>exact .inl (gr.other _ (K.hold.cs i hi).2.2.1 e)
    | some o=>exact .inr (by simp)
  · rcases ha with ha | ⟨ha,_⟩ <;> omega
  · rw [hsum]
    show w'.heap[F.Wg]? = _
    rw [hWg]
    exact K.wg
  · refine ⟨hCh.trans K.rows.ch,K.rows.nd,fun x hx=>?_,fun i hi hg=>K.rows.all i hi ?_⟩
    · obtain ⟨r1,r2,S,r3,r4⟩:=K.rows.row x hx
      by_cases e:k0 + x.1 = n
      · refine ⟨r1,by rw [e,updH_same]; rw [e] at r2; exact gr.gh.trans r2,S,fun b o hb=>?_,r4⟩
        obtain ⟨a1,a2⟩:=r3 b o hb
        rw [e] at a1 a2
        obtain ⟨k1,k2,k3⟩:=gr.keep b (by simp [a1])
        rw [e,updH_same]
        exact ⟨by rw [k3 a2]; exact a1,k2.trans a2⟩
      · exact ⟨r1,by rw [updH_ne _ _ e]; exact r2,S,fun b o hb=>by rw [updH_ne _ _ e]; exact r3 b o hb,r4⟩
    · by_cases e:k0 + i = n
      · rw [e,updH_same] at hg; rw [e]; exact gr.gh.symm.trans hg
      · rw [updH_ne _ _ e] at hg; exact hg
  · refine ⟨fun m hm=>?_,fun m hm=>?_,fun m hm b hb=>?_,fun i hi=>?_,K.hold.inj,fun i hi m hm hne=>?_,⟨Nat.lt_of_lt_of_le hlt.1 gr.size,Nat.lt_of_lt_of_le hlt.2 gr.size⟩,K.hold.kept.own (K.hold.old n ha) hsat s' gr⟩
    · by_cases e:m = n
      · subst e; rw [updH_same]; exact ⟨oldNone _ hlt.1 hno.1,oldNone _ hlt.2 hno.2⟩
      · rw [updH_ne _ _ e]; exact K.hold.no m hm
    · by_cases e:m = n
      · subst e; rw [updH_same]; exact (K.hold.old m ha).own K.hold.kept gr
      · rw [updH_ne _ _ e]; exact K.hold.old m hm
    · by_cases e:m = n
      · subst e
        rw [updH_same] at hb
        rcases gr.dom b hb with y | y
        · exact K.hold.new m ha b y
        · exact .inr (Nat.le_trans K.hold.kept.size y)
      · rw [updH_ne _ _ e] at hb; exact K.hold.new m hm b hb
    · obtain ⟨c1,c2,c3,c4⟩:=K.hold.cs i hi
      exact ⟨c1,c2,Nat.lt_of_lt_of_le c3 gr.size,c4⟩
    · by_cases e:m = n
      · subst e; rw [updH_same]; exact oldNone _ (K.hold.cs i hi).2.2.1 (K.hold.co i hi m ha hne)
      · rw [updH_ne _ _ e]; exact K.hold.co i hi m hm hne
structure GrpEv (F:Fk) (n:Nat) (e:Event):Prop where
  touch:∀ x,(MemAct.ofEvent e).touch? = some x→blk x.loc = some F.Wg∧x.kind ≠ .plain∧(x.kind = .said→n = 0)
  rel:MemAct.ofEvent e ≠ .mark (.release (stA F.Wg))
theorem GrpEv.at' {n:Nat} (a:Addr) (ha:a.block = F.Wg):GrpEv F n (rd a)∧GrpEv F n (wr a):=
  ⟨⟨fun x hx=>by simp only [rd,MemAct.ofEvent,MemAct.touch?,Option.some.injEq] at hx; subst hx; simp [blk,ha],by simp [rd,MemAct.ofEvent]⟩,
   ⟨fun x hx=>by simp only [wr,MemAct.ofEvent,MemAct.touch?,Option.some.injEq] at hx; subst hx; simp [blk,ha],by simp [wr,MemAct.ofEvent]⟩⟩
theorem GrpEv.mute {n:Nat} {e:Event} (h:e.mute = true):GrpEv F n e:=
  ⟨fun x hx=>(by rw [touch_mute h] at hx; cases hx),fun hc=>by
    obtain ⟨loc,wr,sy⟩:=e
    cases loc <;> simp_all [Event.mute]
    rename_i m
    cases m <;> simp_all [MemAct.ofEvent]⟩
theorem GrpEv.mark {n:Nat} (a:Addr):GrpEv F n (Go.ConcR.mk (.releaseMerge a))∧GrpEv F n (Go.ConcR.mk (.acquire a)):=
  ⟨⟨fun x hx=>by simp [Go.ConcR.mk,MemAct.ofEvent,MemAct.touch?] at hx,by simp [Go.ConcR.mk,MemAct.ofEvent]⟩,⟨fun x hx=>by simp [Go.ConcR.mk,MemAct.ofEvent,MemAct.touch?] at hx,by simp [Go.ConcR.mk,MemAct.ofEvent]⟩⟩
theorem GrpEv.said (a:Addr) (ha:a.block = F.Wg):GrpEv F 0 (Go.ConcR.mk (.read a))∧GrpEv F 0 (Go.ConcR.mk (.write a)):=
  ⟨⟨fun x hx=>by simp only [Go.ConcR.mk,MemAct.ofEvent,MemAct.touch?,Option.some.injEq] at hx; subst hx; simp [blk,ha],by simp [Go.ConcR.mk,MemAct.ofEvent]⟩,
   ⟨fun x hx=>by simp only [Go.ConcR.mk,MemAct.ofEvent,MemAct.touch?,Option.some.injEq] at hx; subst hx; simp [blk,ha],by simp [Go.ConcR.mk,MemAct.ofEvent]⟩⟩
theorem fine_grp (hF:F.Ok) {n:Nat} (ha:act k0 (k0 + j) n) {es:Array Event} (he:∀ e ∈ es,GrpEv F n e) (fn:FuncId) (pos:String):∀ op ∈ MemOp.ofEvents n fn pos es,Fine F k0 (k0 + j) n op:=by
  intro op hop
  obtain ⟨e,hee,rfl⟩:=mem_evs hop
  refine ⟨rfl,(he e hee).rel,fun x hx hb=>?_,fun x hx _=>((he e hee).touch x hx).2,fun _ _=>ha⟩
  rw [((he e hee).touch x hx).1] at hb
  exact hF.ne (Option.some.inj hb)
theorem Core.grp (K : Core F T0 k0 j gs w t H Cs vs ws q rows p wt sm) (hF : F.Ok) {n : Nat} (ha : act k0 (k0 + j) n) {g' : Goroutine} {w' : World} {es : Array Event} {h' : PHeap} {ws' : Nat → Wk} {p' wt' sm' : Nat} {gs' : Array Goroutine}
    (hsz:gs'.size = gs.size) (hgn:gs'[n]? = some g') (hgo:∀ m,0 < m→m ≠ n→gs'[m]? = gs[m]?)
    (ho:w'.os = w.os) (hout:w'.output = w.output) (hsize:w'.heap.size = w.heap.size)
    (hb:∀ b,b ≠ F.Wg→w'.heap[b]? = w.heap[b]? ∨ ∃ i,i < j∧k0 + i = n∧b = Cs i∧(H n).obj b = none) (he:∀ e ∈ es,GrpEv F n e) (fn:FuncId) (pos:String)
    (hh:(∀ b o,h'.obj b = some o→(H n).obj b = some o∧h'.wr b = (H n).wr b)) (hh2:n ≠ 0→h' = H n)
    (hws:∀ i,i < j→k0 + i ≠ n→ws' i = ws i)
    (own:∀ i,i < j→k0 + i = n→WgLive F.ty F.Wg w'→WkAt F T0 (t++MemOp.ofEvents n fn pos es) w' i n (Cs i) (vs i) h' g' (ws' i))
    (wg':WgAt F.ty F.Wg w' (((sumTo j (fun i=>(ws' i).cnt) + p':Nat):Int) * KK + (wt':Int)) (sm':Int)) :
    Core F T0 k0 j gs' w' (t++MemOp.ofEvents n fn pos es) (updH H n h') Cs vs ws' q rows p' wt' sm':=by
  have hlt:=K.hold.lt
  have sub:∀ m,∀ b o,(updH H n h' m).obj b = some o→(H m).obj b = some o∧(updH H n h' m).wr b = (H m).wr b:=by
    intro m b o hb
    by_cases e:m = n
    · subst e; rw [updH_same] at hb ⊢; exact hh b o hb
    · rw [updH_ne _ _ e] at hb ⊢; exact ⟨hb,rfl⟩
  have subN:∀ m b,(H m).obj b = none→(updH H n h' m).obj b = none:=by
    intro m b hb
    cases e:(updH H n h' m).obj b with
    | none=>rfl
    | some o=>rw [(sub m b o e).1] at hb; cases hb
  have subS:∀ m b,((updH H n h' m).obj b).isSome = true→((H m).obj b).isSome = true:=by
    intro m b hb
    obtain ⟨o,ho⟩:=Option.isSome_iff_exists.1 hb
    simp [(sub m b o ho).1]
  have hT:=K.tr.app (fine_grp hF ha he fn pos) (H':=updH H n h') (fun i hi b hb=>.inl ⟨i,hi,subS i b hb⟩)
  have hfam:Fam w' (t++MemOp.ofEvents n fn pos es) (act k0 (k0 + j)) (updH H n h'):=by
    refine (K.fam.app (n:=n) g_ofEvents (fun op hop x b hx hb i hi=>?_) (fun said x a hx op hop b hb hc=>?_) (fun i hi b o e=>?_) (Nat.le_of_eq hsize.symm) (fun op hop x b hx hb=>?_)).shrink fun i hi b o e=>⟨(sub i b o e).1,fun z=>by rw [← (sub i b o e).2]; exact z⟩
    · obtain ⟨e,hee,rfl⟩:=mem_evs hop
      rw [((he e hee).touch x hx).1] at hb
      obtain rfl:=Option.some.inj hb
      exact (K.hold.no i hi).1
    · obtain ⟨e,hee,rfl⟩:=mem_evs hop
      obtain ⟨g1,g2,g3⟩:=(he e hee).touch b hb
      have hb':blk a.loc = some F.Wg:=by rw [hc.1]; exact g1
      obtain ⟨t1,t2⟩:=K.tr.wt x a hx hb'
      rcases hc.2.2.2 with y | y | ⟨_,y,z⟩
      · exact t1 y n ha
      · exact absurd y g2
      · rw [g3 z]; exact t2 y
    · have hne:b ≠ F.Wg:=fun e'=>by rw [e',(K.hold.no i hi).1] at e; cases e
      rcases hb b hne with y | ⟨i',i1,i2,i3,i4⟩
      · rw [y]; exact K.fam.sat i hi b o e
      · by_cases e':i = n
        · subst e'; rw [i4] at e; cases e
        · rw [i3,K.hold.co i' i1 i hi (by omega)] at e; cases e
    · obtain ⟨e,hee,rfl⟩:=mem_evs hop
      rw [((he e hee).touch x hx).1] at hb
      obtain rfl:=Option.some.inj hb
      rw [hsize]; exact hlt.1
  refine K.step (q':=q) g_ofEvents (act_lt K.k1 ha) hsz hgn hgo hfam hT (fun i hi hne=>(hb _ (K.hold.cs i hi).1).resolve_right fun ⟨i',i1,i2,i3,_⟩=>K.hold.inj i i' hi i1 (fun e=>hne (e ▸ i2)) i3) hws (fun i hi hin=>own i hi hin ⟨_,_,wg'⟩) (fun _ _=>rfl) (fun h1 h2=>?_) wg' ?_ ?_
  · rcases ha with ha | ⟨ha,_⟩ <;> omega
  · have e1 : ∀ i, updH H n h' (k0 + i) = H (k0 + i) := by
      intro i
      by_cases e:k0 + i = n
      · have hk1:=K.k1
        rw [e,updH_same]; exact hh2 (by omega)
      · rw [updH_ne _ _ e]
    refine ⟨((hb _ (fun e=>hF.ne e.symm)).resolve_right fun ⟨i',i1,i2,i3,_⟩=>(K.hold.cs i' i1).2.1 i3.symm).trans K.rows.ch,K.rows.nd,fun x hx=>?_,fun i hi hg=>K.rows.all i hi (by rw [← e1 i]; exact hg)⟩
    rw [e1]; exact K.rows.row x hx
  · refine ⟨fun m hm=>⟨subN m _ (K.hold.no m hm).1,subN m _ (K.hold.no m hm).2⟩,fun m hm b hb hwb=>?_,fun m hm b hb=>K.hold.new m hm b (subS m b hb),fun i hi=>by rw [hsize]; exact K.hold.cs i hi,K.hold.inj,fun i hi m hm hne=>subN m _ (K.hold.co i hi m hm hne),by rw [hsize]; exact hlt,?_⟩
    · obtain ⟨o,ho⟩:=Option.isSome_iff_exists.1 hb
      exact K.hold.old m hm b (subS m b hb) (by rw [← (sub m b o ho).2]; exact hwb)
    · have k:=K.hold.kept
      refine ⟨ho.trans k.os,hout.trans k.output,by rw [hsize]; exact k.size,fun b hlb=>?_⟩
      rcases hb b (fun e=>by subst e; have:=hF.wg; omega) with y | ⟨i',i1,i2,i3,_⟩
      · rw [y]; exact k.same b hlb
      · have:=(K.hold.cs i' i1).2.2.2; omega
end
end Go.Sl

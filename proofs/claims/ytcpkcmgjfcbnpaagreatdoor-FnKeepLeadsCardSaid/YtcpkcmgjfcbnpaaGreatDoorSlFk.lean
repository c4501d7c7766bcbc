/- The fork of four workers and their join: from 'Lone' to the phase; the judgements of the phase, closed. No program. -/
import Derived.Test.YtcpkcmgjfcbnpaaGreatDoorSlR
set_option linter.unusedVariables false
set_option linter.unusedSimpArgs false
set_option linter.unusedSectionVars false

namespace Go.Sl
open Go Go.Conc
open Go.ConcN (WgLive PayAt Has RW DWs AsideCell AtR0 AtK1 AtD1 AtD2 AtD3 AtD4 RelBy sumTo upd sumTo_upd upd_ne upd_same sumTo_congr WSit le_sumTo fork_knows)
open Go.ConcR (KK wgBlock WgAt stA smA rd wr Payload DC0)
structure Opens (F:Fk) (h:PHeap):Prop where
  gh:h.gh = []
  wg:h.obj F.Wg = some (wgBlock F.ty 0 0)
  wgw:h.wr F.Wg = true
  ch:h.obj F.Ch = some (.chan 4 #[] false 0 0 false)
  chw:h.wr F.Ch = true
  rest:∀ b,b ≠ F.Wg→b ≠ F.Ch→F.h0.obj b = h.obj b∧F.h0.wr b = h.wr b
  no:F.h0.obj F.Wg = none∧F.h0.obj F.Ch = none
theorem lone_fork {F:Fk} {h:PHeap} {g:Goroutine} {r:Rk} (O:Opens F h) (hT:MT F r (ro F.h0 [0,0]) g):Lone F.P F.W F.R h g:=by
  intro _ gs w sl t h0 hI
  obtain ⟨q,hL⟩:=hI.leav
  have hlt:0 < gs.size:=(Array.getElem?_eq_some_iff.1 h0).1
  have hsat:Sat w h:=hI.fam.sat 0 rfl
  have hne:F.Wg ≠ F.Ch:=fun e=>by have h1:=O.wg; rw [e,O.ch] at h1; cases h1
  have sub:∀ b o,F.h0.obj b = some o→b ≠ F.Wg∧b ≠ F.Ch∧h.obj b = some o∧F.h0.wr b = h.wr b:=by
    intro b o hb
    have h1:b ≠ F.Wg:=fun e=>by rw [e,O.no.1] at hb; cases hb
    have h2:b ≠ F.Ch:=fun e=>by rw [e,O.no.2] at hb; cases hb
    obtain ⟨h3,h4⟩:=O.rest b h1 h2
    exact ⟨h1,h2,by rw [← h3]; exact hb,h4⟩
  have hact:∀ {i},act gs.size (gs.size + 0) i→i = 0:=fun {i} hi=>by rcases hi with h | h <;> omega
  have hF:F.Ok:=⟨hne,hI.old _ (by simp [O.wg]) O.wgw,hI.old _ (by simp [O.ch]) O.chw,fun b hb hw=>by
    obtain ⟨o,ho⟩:=Option.isSome_iff_exists.1 hb
    obtain ⟨_,_,h3,h4⟩:=sub b o ho
    exact hI.old b (by simp [h3]) (by rw [← h4]; exact hw),fun b hb=>by rcases hb with rfl | rfl; exact O.no.1; exact O.no.2⟩
  refine fork_ends (F:=F) (T0:=t.size) (k0:=gs.size) hF _ (j:=0) (H:=fun _=>ro F.h0 [0,0]) (Cs:=fun _=>0) (vs:=fun _=>undef) (ws:=fun _=>.sit 1 0) (q:=q) (rows:=[]) (p:=0) (wt:=0) (sm:=0) (md:=0) (r:=r) (bl:=1) sl rfl ⟨⟨by omega,Nat.le_refl _,rfl,?_,?_,fun i gi hi _ hg=>hL.old i gi hi hg,fun m hm=>hL.above m hm,fun i hi=>absurd hi (Nat.not_lt_zero _),?_,⟨?_,List.nodup_nil,by simp,fun i hi=>absurd hi (Nat.not_lt_zero _)⟩,⟨fun n _=>⟨O.no.1,O.no.2⟩,fun n _ b _ hw=>(by cases hw),fun n _ b hb=>.inl hb,fun i hi=>absurd hi (Nat.not_lt_zero _),fun i i' hi=>absurd hi (Nat.not_lt_zero _),fun i hi=>absurd hi (Nat.not_lt_zero _),⟨hsat.lt O.wg,hsat.lt O.ch⟩,hI.kept⟩⟩,⟨rfl,by omega,rfl,hI.hears,rfl⟩,⟨rfl,rfl,fun i hi=>absurd hi (Nat.not_lt_zero _)⟩,g,hT,.inl ⟨rfl,h0⟩⟩
  · refine (hI.fam.fewer fun i hi=>hact hi).shrink fun i hi b o hb=>?_
    exact ⟨(sub b o hb).2.2.1,fun z=>by cases z⟩
  · refine ⟨fun x a b hx hb hh hw=>.inl ?_,fun x a hx hb=>⟨fun _ n hn=>?_,fun _=>?_⟩,fun x a hx hb=>?_,fun x n hx hn hc=>.inl ?_,fun x hx e=>?_⟩
    · obtain ⟨i,_,hs⟩:=hh
      obtain ⟨o,ho⟩:=Option.isSome_iff_exists.1 hs
      obtain ⟨_,_,h3,h4⟩:=sub b o ho
      refine hI.fam.know 0 rfl x a b hx hb (by simp [h3]) (hw.imp id fun z=>?_)
      unfold Fk.jw at z
      rw [if_pos (by have:F.h0.obj b = some o:=ho; simp [this]),h4] at z
      exact z
    · rw [hact hn]; exact hI.fam.know 0 rfl x a _ hx hb (by simp [O.wg]) (.inr O.wgw)
    · exact hI.fam.know 0 rfl x a _ hx hb (by simp [O.wg]) (.inr O.wgw)
    · exact hI.fam.know 0 rfl x a _ hx hb (by simp [O.ch]) (.inr O.chw)
    · exact hI.over x n hx hn hc
    · have:=lt_of_act? e; omega
  · have:=hsat _ _ O.wg
    simpa [WgAt,sumTo] using this
  · have:=hsat _ _ O.ch
    simpa using this
def JM (F:Fk):Jdg:=fun h g=>(h.gh = [10]→∀ hj,Joined F h hj→Lone F.P F.W F.R hj g)∧(h.gh ≠ [10]→∃ r,MT F r h g)
def JW (F:Fk) (i C:Nat) (v:Value):Jdg:=fun h g=>∃ r,WT F i C v r h g
section
variable {F:Fk} {h:PHeap} {g:Goroutine}
open Classical in
theorem jm_own (hr:g.status = .running) (hne:h.gh ≠ [10]) (hs:∀ w,Sat w h→WgLive F.ty F.Wg w→StepTo F.P true (JM F) h g w):JM F h g:=by
  refine ⟨fun e=>absurd e hne,fun _=>?_⟩
  have key:∀ w,∃ r:Rk,Sat w h→WgLive F.ty F.Wg w→∃ g' w' es h',stepG F.P true g w = .go g' w' es∧Sat w' h'∧Grow w w' h h'∧(∀ e ∈ es,EvOk h w.heap.size e∧EvLt w'.heap.size e)∧MT F r h' g':=by
    intro w
    by_cases e:Sat w h∧WgLive F.ty F.Wg w
    · obtain ⟨g',w',es,h',e1,e2,e3,e4,e5⟩:=hs w e.1 e.2
      obtain ⟨r,hT⟩:=e5.2 (by rw [e3.gh]; exact hne)
      exact ⟨r,fun _ _=>⟨g',w',es,h',e1,e2,e3,e4,hT⟩⟩
    · exact ⟨.z,fun a b=>absurd ⟨a,b⟩ e⟩
  refine ⟨.nd fun w _=>(key w).choose,hr,.inl ⟨hne,fun w hw hl=>(key w).choose_spec hw hl⟩⟩
theorem joined_frame {hj:PHeap} {w:World} (J:Joined F h hj) (hw:Sat w hj) (hs:StepTo F.P true (JM F) h g w) (hgh:h.gh = [10]):StepTo F.P true (Lone F.P F.W F.R) hj g w:=by
  obtain ⟨g',w',es,h',e1,e2,e3,e4,e5⟩:=hs
  have hsub:Sat w h:=fun b o e=>hw b o (J.obj b o e)
  have wrj:∀ b,(h.obj b).isSome = true→h.wr b = true→hj.wr b = true:=fun b h1 h2=>by rw [J.wr,h1,h2]; simp
  have h'none:∀ b,(hj.obj b).isSome = true→h.obj b = none→h'.obj b = none:=fun b h1 h2=>by
    cases e:h'.obj b with
    | none=>rfl
    | some o=>
      rcases e3.dom b (by simp [e]) with y | y
      · rw [h2] at y; cases y
      · obtain ⟨o',ho'⟩:=Option.isSome_iff_exists.1 h1
        have:=hw.lt ho'; omega
  let hj':PHeap:=⟨fun b=>match h'.obj b with | some o=>some o | none=>hj.obj b,fun b=>F.jw b || ((h'.obj b).isSome && h'.wr b),[]⟩
  have hobj:∀ b,h'.obj b = none→hj'.obj b = hj.obj b:=fun b e=>by simp only [hj',e]
  have hobj':∀ b o,h'.obj b = some o→hj'.obj b = some o:=fun b o e=>by simp only [hj',e]
  have keepN:∀ b,(hj.obj b).isSome = true→h.obj b = none→hj'.obj b = hj.obj b:=fun b h1 h2=>hobj b (h'none b h1 h2)
  have sat':Sat w' hj':=by
    intro b o e
    cases e6:h'.obj b with
    | some o'=>rw [hobj' b o' e6] at e; cases e; exact e2 b o e6
    | none=>
      rw [hobj b e6] at e
      have hn:h.obj b = none:=by
        cases e7:h.obj b with
        | none=>rfl
        | some o2=>have:=(e3.keep b (by simp [e7])).1; rw [e6] at this; cases this
      rw [e3.other b (hw.lt e) hn]; exact hw b o e
  refine ⟨g',w',es,hj',e1,sat',⟨e3.os,e3.tape,e3.output,e3.size,fun b hb hn=>?_,fun b hb=>?_,fun b hb=>?_,J.gh.symm ▸ rfl⟩,fun e he=>⟨?_,(e4 e he).2⟩,?_⟩
  · refine e3.other b hb ?_
    cases e7:h.obj b with
    | none=>rfl
    | some o2=>rw [J.obj b o2 e7] at hn; cases hn
  · cases e6:h'.obj b with
    | some o'=>
      rcases e3.dom b (by simp [e6]) with y | y
      · obtain ⟨o2,ho2⟩:=Option.isSome_iff_exists.1 y
        exact .inl (by simp [J.obj b o2 ho2])
      · exact .inr y
    | none=>rw [hobj b e6] at hb; exact .inl hb
  · cases e7:h.obj b with
    | some o2=>
      obtain ⟨k1,k2,k3⟩:=e3.keep b (by simp [e7])
      obtain ⟨o3,ho3⟩:=Option.isSome_iff_exists.1 k1
      refine ⟨by simp [hobj' b o3 ho3],?_,fun hwf=>?_⟩
      · show (F.jw b || ((h'.obj b).isSome && h'.wr b)) = hj.wr b
        rw [J.wr,e7,k2,k1]; simp
      · rw [J.wr,e7] at hwf
        simp at hwf
        rw [hobj' b o3 ho3,J.obj b o2 e7,← ho3,k3 hwf.2,e7]
    | none=>
      refine ⟨by rw [keepN b hb e7]; exact hb,?_,fun _=>keepN b hb e7⟩
      show (F.jw b || ((h'.obj b).isSome && h'.wr b)) = hj.wr b
      rw [J.wr,e7,h'none b hb e7]; simp
  · obtain ⟨loc,wr,sy⟩:=e
    have:=(e4 _ he).1
    have upS:∀ b,(h.obj b).isSome = true→(hj.obj b).isSome = true:=fun b hb=>by
      obtain ⟨o2,ho2⟩:=Option.isSome_iff_exists.1 hb
      simp [J.obj b o2 ho2]
    cases loc with
    | cell a=>
      obtain ⟨a1,a2,a3⟩:=this
      refine ⟨a1,a2.imp (upS _) id,fun z=>?_⟩
      rcases a2 with y | y
      · exact (a3 z).imp (wrj _ y) id
      · exact .inr y
    | obj rr=>
      obtain ⟨a2,a3⟩:=this
      refine ⟨a2.imp (upS _) id,fun z=>?_⟩
      rcases a2 with y | y
      · exact (a3 z).imp (wrj _ y) id
      · exact .inr y
    | output=>exact this.elim
    | goroutines=>exact this.elim
    | mark mm=>cases mm <;> first|exact this.elim | trivial
  · have hch : hj.obj F.Ch ≠ none := by
      obtain ⟨rows,_,h2,_⟩:=J.rows
      rw [h2]; simp
    have hchS:(hj.obj F.Ch).isSome = true:=Option.isSome_iff_ne_none.2 hch
    refine (e5.1 (e3.gh.trans hgh)) hj' ⟨rfl,hobj',fun _=>rfl,h'none _ hchS J.no,?_⟩
    obtain ⟨rows,r1,r2,r3⟩:=J.rows
    refine ⟨rows,r1,by rw [keepN _ hchS J.no]; exact r2,fun x hx=>?_⟩
    obtain ⟨S,s1,s2⟩:=r3 x hx
    refine ⟨S,fun b o hb=>?_,s2⟩
    obtain ⟨t1,t2,t3⟩:=s1 b o hb
    cases e7:h.obj b with
    | none=>
      refine ⟨by rw [keepN b (by simp [t1]) e7]; exact t1,t2,fun z=>?_⟩
      rw [h'none b (by simp [t1]) e7] at z; cases z
    | some o2=>
      obtain ⟨k1,k2,k3⟩:=e3.keep b (by simp [e7])
      have hf:=t3 (by simp [e7])
      refine ⟨?_,t2,fun _=>k2.trans hf⟩
      rw [J.obj b o2 e7] at t1
      obtain rfl:=Option.some.inj t1
      exact hobj' b o2 ((k3 hf).trans e7)
theorem jm_closed:Closed F.P true (JM F):=by
  intro h g hr hs
  by_cases e:h.gh = [10]
  · exact ⟨fun _ hj J=>lone_closed hj g hr fun w hw=>joined_frame J hw (hs w fun b o e=>hw b o (J.obj b o e)) e,fun x=>absurd e x⟩
  · exact jm_own hr e fun w hw _=>hs w hw
open Classical in
theorem jw_own {i C:Nat} {v:Value} (hr:g.status = .running) (hs:∀ w,Sat w h→WgLive F.ty F.Wg w→StepTo F.P false (JW F i C v) h g w):JW F i C v h g:=by
  have key:∀ w,∃ r:Rk,Sat w h→WgLive F.ty F.Wg w→∃ g' w' es h',stepG F.P false g w = .go g' w' es∧Sat w' h'∧Grow w w' h h'∧(∀ e ∈ es,EvOk h w.heap.size e∧EvLt w'.heap.size e)∧WT F i C v r h' g':=by
    intro w
    by_cases e:Sat w h∧WgLive F.ty F.Wg w
    · obtain ⟨g',w',es,h',e1,e2,e3,e4,r,hT⟩:=hs w e.1 e.2
      exact ⟨r,fun _ _=>⟨g',w',es,h',e1,e2,e3,e4,hT⟩⟩
    · exact ⟨.z,fun a b=>absurd ⟨a,b⟩ e⟩
  exact ⟨.nd fun w _=>(key w).choose,hr,.inl fun w hw hl=>(key w).choose_spec hw hl⟩
theorem jw_closed {i C:Nat} {v:Value}:Closed F.P false (JW F i C v):=fun h g hr hs=>jw_own hr fun w hw _=>hs w hw
instance:IsCl F.P (· = JM F):=⟨fun J e=>⟨true,e ▸ jm_closed⟩⟩
instance {i C:Nat} {v:Value}:IsCl F.P (· = JW F i C v):=⟨fun J e=>⟨false,e ▸ jw_closed⟩⟩
theorem jw_send {i C : Nat} {v x zv : Value} {g2 : Goroutine} {sh : CommShape} (hr : g.status = .running) (hgh : h.gh = [0]) (hC : h.obj C = some (.cells #[v] F.it (0, 0))) (hst : ∀ w, stepG F.P false g w = .comm g2 #[scase F.Ch x zv] true sh w #[])
    (hR:F.Row i x (delb (ro h [1]) C)) (hT:JW F i C v (delb (ro h [1]) C) (g2.finishComm F.P #[scase F.Ch x zv] sh 0 undef false)):JW F i C v h g:=by
  obtain ⟨r,hT⟩:=hT
  exact ⟨.nd fun _ _=>r,hr,.inr (.inl ⟨hgh,hC,g2,x,zv,sh,hst,hR,fun _=>hT⟩)⟩
theorem jw_done {i C : Nat} {v : Value} (hr : g.status = .running) (hgh : h.gh = [1])
    (hd:∀ w,WgLive F.ty F.Wg w→Has C 0 v w→∃ m,@Goes F.P false (@RW F.pay F.ty F.Wg C 1 0 0) (@DWs F.pay F.Wg (fun _ _=>False) (fun _ _=>False) C 1 1) (@AtR0 F.pay F.P F.ty F.Wg C 1 0 1 v) m g w):JW F i C v h g:=
  ⟨.nd fun _ _=>.z,hr,.inr (.inr ⟨hgh,hd⟩)⟩
theorem jm_rk {s:List Nat} (hs:s ≠ [10]) (hgh:h.gh = s) (hx:JM F h g):∃ r,MT F r h g:=hx.2 (by rw [hgh]; exact hs)
theorem jm_disable {j:Nat} {g':Goroutine} (hr:g.status = .running) (hgh:h.gh = [0,j]) (hst:∀ w,stepG F.P true g w = .go g' w #[Go.ConcR.mk .disable]) (hT:JM F (stay h [1,j]) g'):JM F h g:=by
  obtain ⟨r,hT⟩:=jm_rk (s:=[1,j]) (by simp) rfl hT
  exact ⟨fun e=>(by rw [hgh] at e; cases e),fun _=>⟨.nd fun _ _=>r,hr,.inr (.inl ⟨j,hgh,g',hst,fun _=>hT⟩)⟩⟩
theorem jm_disable' {g':Goroutine} (hr:g.status = .running) (hgh:h.gh = [0,4]) (hst:∀ w,stepG F.P true g w = .go g' w #[Go.ConcR.mk .disable]) (hT:JM F (stay h [5,4]) g'):JM F h g:=by
  obtain ⟨r,hT⟩:=jm_rk (s:=[5,4]) (by simp) rfl hT
  exact ⟨fun e=>(by rw [hgh] at e; cases e),fun _=>⟨.nd fun _ _=>r,hr,.inr (.inr (.inl ⟨hgh,g',hst,fun _=>hT⟩))⟩⟩
theorem jm_add {j : Nat} {g' : Nat → Goroutine} (hr : g.status = .running) (hgh : h.gh = [1, j])
    (hst:∀ c:Nat,c ≤ j→∀ w,WgAt F.ty F.Wg w (c * KK) 0→stepG F.P true g w = .go (g' c) (w.setCell (stA F.Wg) (.int .u64 ((c + 1) * KK))) #[rd (stA F.Wg),wr (stA F.Wg)]) (hT:∀ c,c ≤ j→JM F (stay h [2,j]) (g' c)):JM F h g:=by
  have key:∀ c,∃ r:Rk,c ≤ j→MT F r (stay h [2,j]) (g' c):=fun c=>by
    by_cases e:c ≤ j
    · obtain ⟨r,x⟩:=jm_rk (s:=[2,j]) (by simp) rfl (hT c e); exact ⟨r,fun _=>x⟩
    · exact ⟨.z,fun x=>absurd x e⟩
  exact ⟨fun e=>(by rw [hgh] at e; cases e),fun _=>⟨.nd fun _ c=>(key c).choose,hr,.inr (.inr (.inr (.inl ⟨j,hgh,g',fun c hc=>⟨hst c hc,fun _=>(key c).choose_spec hc⟩⟩)))⟩⟩
theorem jm_read {j:Nat} {g':Goroutine} (hr:g.status = .running) (hgh:h.gh = [2,j]) (hst:∀ w,WgLive F.ty F.Wg w→stepG F.P true g w = .go g' w #[Go.ConcR.mk (.read (smA F.Wg))]) (hT:JM F h g'):JM F h g:=by
  obtain ⟨r,hT⟩:=jm_rk (s:=[2,j]) (by simp) hgh hT
  exact ⟨fun e=>(by rw [hgh] at e; cases e),fun _=>⟨.nd fun _ _=>r,hr,.inr (.inr (.inr (.inr (.inl ⟨j,hgh,g',hst,fun _=>hT⟩))))⟩⟩
theorem jm_enable {j:Nat} {g':Goroutine} (hr:g.status = .running) (hgh:h.gh = [2,j]) (hst:∀ w,stepG F.P true g w = .go g' w #[Go.ConcR.mk .enable]) (hT:JM F (stay h [3,j]) g'):JM F h g:=by
  obtain ⟨r,hT⟩:=jm_rk (s:=[3,j]) (by simp) rfl hT
  exact ⟨fun e=>(by rw [hgh] at e; cases e),fun _=>⟨.nd fun _ _=>r,hr,.inr (.inr (.inr (.inr (.inr (.inl ⟨j,hgh,g',hst,fun _=>hT⟩)))))⟩⟩
theorem jm_go {j C : Nat} {v : Value} {g' child : Goroutine} (hr : g.status = .running) (hgh : h.gh = [3, j]) (hj : j < 4) (hst : ∀ w, stepG F.P true g w = .spawn g' child w #[]) (hC : h.obj C = some (.cells #[v] F.it (0, 0))) (hCw : h.wr C = true) (hC0 : F.h0.obj C = none)
    (hW:JW F j C v (ro h [0]) child) (hT:JM F (delb (ro h [0,j + 1]) C) g'):JM F h g:=by
  obtain ⟨r,hT⟩:=jm_rk (s:=[0,j + 1]) (by simp) rfl hT
  exact ⟨fun e=>(by rw [hgh] at e; cases e),fun _=>⟨.nd fun _ _=>r,hr,.inr (.inr (.inr (.inr (.inr (.inr (.inl ⟨j,hgh,hj,g',child,C,v,hst,hC,hCw,hC0,hW,fun _=>hT⟩))))))⟩⟩
theorem jm_load {c : Nat} {g' : Nat → Goroutine} (hr : g.status = .running) (hgh : h.gh = [5, c])
    (hst:∀ c':Nat,c' ≤ c→∀ w,WgAt F.ty F.Wg w (c' * KK) 0→stepG F.P true g w = .go (g' c') w #[rd (stA F.Wg)]) (hT:∀ c',c' ≤ c→JM F (stay h (if c' = 0 then [8] else [5,c'])) (g' c')):JM F h g:=by
  have key:∀ c',∃ r:Rk,c' ≤ c→MT F r (stay h (if c' = 0 then [8] else [5,c'])) (g' c'):=fun c'=>by
    by_cases e:c' ≤ c
    · obtain ⟨r,x⟩:=jm_rk (s:=if c' = 0 then [8] else [5,c']) (by split <;> simp) rfl (hT c' e); exact ⟨r,fun _=>x⟩
    · exact ⟨.z,fun x=>absurd x e⟩
  exact ⟨fun e=>(by rw [hgh] at e; cases e),fun _=>⟨.nd fun _ c=>(key c).choose,hr,.inr (.inr (.inr (.inr (.inr (.inr (.inr (.inl ⟨c,hgh,g',fun c hc=>⟨hst c hc,fun _=>(key c).choose_spec hc⟩⟩)))))))⟩⟩
theorem jm_cas {c : Nat} {gh gm : Goroutine} (hr : g.status = .running) (hgh : h.gh = [5, c]) (hc : 0 < c)
    (hhit:∀ w,WgAt F.ty F.Wg w (c * KK) 0→stepG F.P true g w = .go gh (w.setCell (stA F.Wg) (.int .u64 (c * KK + 1))) #[rd (stA F.Wg),wr (stA F.Wg)]) (hmiss:∀ c':Nat,c' < c→∀ w,WgAt F.ty F.Wg w (c' * KK) 0→stepG F.P true g w = .go gm w #[rd (stA F.Wg)])
    (hT:JM F (stay h [6]) gh) (hTm:∀ c',c' < c→JM F (stay h [5,c']) gm):JM F h g:=by
  have key:∀ c',∃ r:Rk,c' < c→MT F r (stay h [5,c']) gm:=fun c'=>by
    by_cases e:c' < c
    · obtain ⟨r,x⟩:=jm_rk (s:=[5,c']) (by simp) rfl (hTm c' e); exact ⟨r,fun _=>x⟩
    · exact ⟨.z,fun x=>absurd x e⟩
  obtain ⟨r,hT⟩:=jm_rk (s:=[6]) (by simp) rfl hT
  exact ⟨fun e=>(by rw [hgh] at e; cases e),fun _=>⟨.nd fun _ n=>match n with | 0=>r | n + 1=>(key n).choose,hr,.inr (.inr (.inr (.inr (.inr (.inr (.inr (.inr (.inl ⟨c,hgh,hc,gh,gm,hhit,fun _=>hT,fun c' hc'=>⟨hmiss c' hc',fun _=>(key c').choose_spec hc'⟩⟩))))))))⟩⟩
theorem jm_write {g':Goroutine} (hr:g.status = .running) (hgh:h.gh = [6]) (hst:∀ w,WgLive F.ty F.Wg w→stepG F.P true g w = .go g' w #[Go.ConcR.mk (.write (smA F.Wg))]) (hT:JM F h g'):JM F h g:=by
  obtain ⟨r,hT⟩:=jm_rk (s:=[6]) (by simp) hgh hT
  exact ⟨fun e=>(by rw [hgh] at e; cases e),fun _=>⟨.nd fun _ _=>r,hr,.inr (.inr (.inr (.inr (.inr (.inr (.inr (.inr (.inr (.inl ⟨hgh,g',hst,fun _=>hT⟩)))))))))⟩⟩
theorem jm_sem {g' : Goroutine} (hr : g.status = .running) (hgh : h.gh = [6]) (hof : g.offers = none) (hwait : ∀ w st, WgAt F.ty F.Wg w st 0 → stepG F.P true g w = .go { g with status := .blocked } w #[])
    (hst:∀ w,WgAt F.ty F.Wg w 0 1→stepG F.P true g w = .go g' (w.setCell (smA F.Wg) (.int .u32 0)) (semEvents (smA F.Wg))) (hT:JM F (stay h [7]) g'):JM F h g:=by
  obtain ⟨r,hT⟩:=jm_rk (s:=[7]) (by simp) rfl hT
  exact ⟨fun e=>(by rw [hgh] at e; cases e),fun _=>⟨.nd fun _ _=>r,hr,.inr (.inr (.inr (.inr (.inr (.inr (.inr (.inr (.inr (.inr (.inl ⟨hgh,hof,hwait,g',hst,fun _=>hT⟩))))))))))⟩⟩
theorem jm_last {g':Goroutine} (hr:g.status = .running) (hgh:h.gh = [7]) (hst:∀ w,WgAt F.ty F.Wg w 0 0→stepG F.P true g w = .go g' w #[rd (stA F.Wg)]) (hT:JM F (stay h [8]) g'):JM F h g:=by
  obtain ⟨r,hT⟩:=jm_rk (s:=[8]) (by simp) rfl hT
  exact ⟨fun e=>(by rw [hgh] at e; cases e),fun _=>⟨.nd fun _ _=>r,hr,.inr (.inr (.inr (.inr (.inr (.inr (.inr (.inr (.inr (.inr (.inr (.inl ⟨hgh,g',hst,fun _=>hT⟩)))))))))))⟩⟩
theorem jm_enable' {g':Goroutine} (hr:g.status = .running) (hgh:h.gh = [8]) (hst:∀ w,stepG F.P true g w = .go g' w #[Go.ConcR.mk .enable]) (hT:JM F (stay h [9]) g'):JM F h g:=by
  obtain ⟨r,hT⟩:=jm_rk (s:=[9]) (by simp) rfl hT
  exact ⟨fun e=>(by rw [hgh] at e; cases e),fun _=>⟨.nd fun _ _=>r,hr,.inr (.inr (.inr (.inr (.inr (.inr (.inr (.inr (.inr (.inr (.inr (.inr (.inl ⟨hgh,g',hst,fun _=>hT⟩))))))))))))⟩⟩
theorem jm_acquire {g':Goroutine} (hr:g.status = .running) (hgh:h.gh = [9]) (hst:∀ w,stepG F.P true g w = .go g' w #[Go.ConcR.mk (.acquire (stA F.Wg))]) (hT:JM F (stay h [10]) g'):JM F h g:=
  ⟨fun e=>(by rw [hgh] at e; cases e),fun _=>⟨.nd fun _ _=>.z,hr,.inr (.inr (.inr (.inr (.inr (.inr (.inr (.inr (.inr (.inr (.inr (.inr (.inr ⟨hgh,g',hst,fun hj J=>hT.1 rfl hj ⟨J.gh,J.obj,J.wr,J.no,J.rows⟩⟩))))))))))))⟩⟩
end
end Go.Sl

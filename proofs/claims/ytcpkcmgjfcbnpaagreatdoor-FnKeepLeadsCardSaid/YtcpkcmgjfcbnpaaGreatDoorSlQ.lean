/- Goroutine 0 alone beside leavers: the judgement 'Lone' is closed under own steps; its end. No program. -/
import Derived.Test.YtcpkcmgjfcbnpaaGreatDoorSlP
import Derived.Test.YtcpkcmgjfcbnpaaGreatDoorLibA
import Derived.Test.YtcpkcmgjfcbnpaaGreatDoorSlKp
set_option linter.unusedVariables false
set_option linter.unusedSimpArgs false
set_option linter.unusedSectionVars false

namespace Go.Sl
open Go Go.Conc PHeap
open Go.ConcN (sumTo upd sumTo_upd upd_ne upd_same)
def EndsOk (P:Program) (Post:Value→World→Prop) (m:Machine) (t:Trace):Prop:=
  ∃ N last o w' t',runNT P (N + 1) m t = (.ended o w',t')∧runN P N m = .next last∧step P last = .ended o w'∧Good P Post last o w' t'
theorem EndsOk.prepend {P:Program} {Post:Value→World→Prop} {m m':Machine} {t:Trace} {ops:Array MemOp} (h:stepT P m = (.next m',ops)) (x:EndsOk P Post m' (t++ops)):EndsOk P Post m t:=by
  obtain ⟨N,last,o,w',t',h1,h2,h3,h4⟩:=x
  refine ⟨N + 1,last,o,w',t',?_,?_,h3,h4⟩
  · rw [runNT,h]; exact h1
  · rw [runN]; simp only [step,h]; exact h2
theorem EndsOk.now {P:Program} {Post:Value→World→Prop} {m:Machine} {t:Trace} {ops:Array MemOp} {o:Outcome} {w':World} (h:stepT P m = (.ended o w',ops)) (x:Good P Post m o w' (t++ops)):EndsOk P Post m t:=by
  refine ⟨0,m,o,w',t++ops,?_,rfl,?_,x⟩
  · rw [runNT,h]
  · simp only [step,h]
structure LInv (P:Program) (W:World) (h:PHeap) (gs:Array Goroutine) (w:World) (t:Trace):Prop where
  fam:Fam w t (· = 0) (fun _=>h)
  leav:∃ q,Leavers P t gs q
  over:t.HandedOver
  hears:Deaf t 0 = 0
  kept:Kept W w
  old:OldRo W h
def EndPost (W:World) (R:Value→Prop) (v:Value) (w:World):Prop:=R v∧Kept W w
def Lone (P:Program) (W:World) (R:Value→Prop):Jdg:=fun h g=>h.gh = []→∀ (gs:Array Goroutine) (w:World) (sl:Option (Nat × Nat)) (t:Trace),gs[0]? = some g→LInv P W h gs w t→EndsOk P (EndPost W R) (crowd gs w sl) t
section
variable {P:Program} {W:World} {R:Value→Prop}
theorem g_ofEvents {g:Nat} {fn:FuncId} {pos:String} {es:Array Event}:∀ op ∈ MemOp.ofEvents g fn pos es,op.g = g:=fun op hop=>by obtain ⟨e,_,rfl⟩:=mem_evs hop; rfl
theorem leavers_awake {gs:Array Goroutine} {g:Goroutine} {t:Trace} {q:Nat→Nat} (h0:gs[0]? = some g) (hr:g.status = .running) (hL:Leavers P t gs q):∀ g ∈ gs,awake g:=by
  intro g' hg
  obtain ⟨i,hi,rfl⟩:=Array.mem_iff_getElem.1 hg
  rcases Nat.eq_zero_or_pos i with rfl | hpos
  · have:gs[0] = g:=by simpa [Array.getElem?_eq_getElem hi] using h0
    rw [this]; exact awake_of (.inl hr)
  · exact awake_of ((hL.old i _ hpos (Array.getElem?_eq_getElem hi)).status.elim .inl fun x=>.inr (.inr x))
theorem leavers_own {gs:Array Goroutine} {g g' g0:Goroutine} {t u:Trace} {q:Nat→Nat} {w':World} (h0:gs[0]? = some g0) (hL:Leavers P t gs q) (hu:∀ op ∈ u,op.g = 0):Leavers P (t++u) ((gs.map (woken P g g' w')).setIfInBounds 0 g') q:=by
  have hlt:0 < gs.size:=(Array.getElem?_eq_some_iff.1 h0).1
  refine ⟨fun j x hj hx=>?_,fun j hj=>?_⟩
  · have hne:0 ≠ j:=by omega
    rw [Array.getElem?_setIfInBounds_ne hne,Array.getElem?_map] at hx
    obtain ⟨y,hy,rfl⟩:=Option.map_eq_some_iff.1 hx
    have hq:=hL.old j y hj hy
    rw [woken_quitsD hq,Deaf_other t (g':=0) (by omega) _ hu]
    exact hq
  · have hj':gs.size ≤ j:=by simpa using hj
    rw [Deaf_other t (g':=0) (by omega) _ hu]
    exact hL.above j hj'
theorem leaver_slips {gs : Array Goroutine} {g a : Goroutine} {w : World} {sl : Option (Nat × Nat)} {t : Trace} {q : Nat → Nat} {h : PHeap} {i : Nat} (h0 : gs[0]? = some a) (ha : a.status = .running)
    (hL:Leavers P t gs q) (hI:LInv P W h gs w t) (hpos:0 < i) (hi:gs[i]? = some g) (hg:g.status = .running) :
    ∃ gs' t' q',runT P (crowd gs w sl) i = (.next (crowd gs' w sl),t')∧gs'[0]? = some a∧Leavers P (t++t') gs' q'∧sumTo gs'.size q' < sumTo gs.size q∧LInv P W h gs' w (t++t'):=by
  have hq:=hL.old i g hpos hi
  have hi0:(i == 0) = false:=by simp; omega
  have hlt:i < gs.size:=(Array.getElem?_eq_some_iff.1 hi).1
  cases hqi:q i with
  | zero=>rw [hqi] at hq; rw [hq.1] at hg; cases hg
  | succ k=>
    rw [hqi] at hq
    rcases hq with ⟨hf,_⟩ | ⟨_,g',es,hm,hstp,hq'⟩
    · rw [hf] at hg; cases hg
    have hrunT:=runT_crowd_go (P:=P) (sl:=sl) (i:=i) hi (by rw [hi0]; exact hstp w)
    have hsz:((gs.map (woken P g g' w)).setIfInBounds i g').size = gs.size:=by simp
    have hsum:sumTo gs.size (upd q i k) + (k + 1) = sumTo gs.size q + k:=by
      have:=sumTo_upd q k id hlt
      simpa [hqi] using this
    have hne:i ≠ 0:=by omega
    have hL':Leavers P (t++MemOp.ofEvents i g.frame.fn g.frame.place es) ((gs.map (woken P g g' w)).setIfInBounds i g') (upd q i k):=by
      refine ⟨fun j x hj hx=>?_,fun j hj=>?_⟩
      · by_cases hji:i = j
        · subst hji
          rw [Array.getElem?_setIfInBounds_self_of_lt (by simpa using hlt)] at hx
          obtain rfl:=Option.some.inj hx
          rw [upd_same,Deaf_own]
          exact hq'
        · rw [Array.getElem?_setIfInBounds_ne hji,Array.getElem?_map] at hx
          obtain ⟨y,hy,rfl⟩:=Option.map_eq_some_iff.1 hx
          have hqj:=hL.old j y hj hy
          rw [woken_quitsD hqj,upd_ne q k (Ne.symm hji),Deaf_other t hji _ g_ofEvents]
          exact hqj
      · rw [Deaf_other t (g':=i) (by simp at hj; omega) _ g_ofEvents]
        exact hL.above j (by simpa using hj)
    refine ⟨_,_,upd q i k,hrunT,?_,hL',by rw [hsz]; omega,?_⟩
    · rw [Array.getElem?_setIfInBounds_ne hne,Array.getElem?_map,h0]
      simp [woken_run ha]
    · refine ⟨hI.fam.still rfl g_ofEvents ?_,⟨_,hL'⟩,handedOver_app hI.over ?_,(Deaf_other t hne _ g_ofEvents).trans hI.hears,hI.kept,hI.old⟩
      · intro op hop; obtain ⟨e,he,rfl⟩:=mem_evs hop; exact touch_mute (hm e he)
      · intro op hop; obtain ⟨e,he,rfl⟩:=mem_evs hop; exact .inr (touch_mute (hm e he))
theorem lone_turn {h : PHeap} {g : Goroutine} (hr : g.status = .running)
    (turn:∀ (gs:Array Goroutine) (w:World) (sl:Option (Nat × Nat)) (t:Trace),gs[0]? = some g→LInv P W h gs w t →
      (∃ m' ops,runT P (crowd gs w sl) 0 = (.next m',ops)∧EndsOk P (EndPost W R) m' (t++ops)) ∨
      (∃ o w' ops,runT P (crowd gs w sl) 0 = (.ended o w',ops)∧∀ w0 sl0,Good P (EndPost W R) (crowd gs w0 sl0) o w' (t++ops))) :
    ∀ (n:Nat) (gs:Array Goroutine) (w:World) (sl:Option (Nat × Nat)) (t:Trace) (q:Nat→Nat),sumTo gs.size q ≤ n→Leavers P t gs q→gs[0]? = some g→LInv P W h gs w t→EndsOk P (EndPost W R) (crowd gs w sl) t:=by
  intro n
  induction n with
  | zero=>
    intro gs w sl t q hn hL h0 hI
    obtain ⟨i,g1,d,sl',hi,hg,hst⟩:=crowd_pick (P:=P) (w:=w) (sl:=sl) (leavers_awake h0 hr hL) ⟨0,g,h0,hr⟩
    have hI':LInv P W h gs (w.at d) t:=⟨hI.fam.world rfl,hI.leav,hI.over,hI.hears,hI.kept.heap rfl rfl rfl,hI.old⟩
    rcases Nat.eq_zero_or_pos i with rfl | hpos
    · rcases turn gs (w.at d) sl' t h0 hI' with ⟨m',ops,e1,e2⟩ | ⟨o,w',ops,e1,e2⟩
      · exact EndsOk.prepend (hst.trans e1) e2
      · exact EndsOk.now (hst.trans e1) (e2 _ _)
    · obtain ⟨gs',t',q',a1,a2,a3,a4,a5⟩:=leaver_slips (sl:=sl') h0 hr hL hI' hpos hi hg
      omega
  | succ n ih=>
    intro gs w sl t q hn hL h0 hI
    obtain ⟨i,g1,d,sl',hi,hg,hst⟩:=crowd_pick (P:=P) (w:=w) (sl:=sl) (leavers_awake h0 hr hL) ⟨0,g,h0,hr⟩
    have hI':LInv P W h gs (w.at d) t:=⟨hI.fam.world rfl,hI.leav,hI.over,hI.hears,hI.kept.heap rfl rfl rfl,hI.old⟩
    rcases Nat.eq_zero_or_pos i with rfl | hpos
    · rcases turn gs (w.at d) sl' t h0 hI' with ⟨m',ops,e1,e2⟩ | ⟨o,w',ops,e1,e2⟩
      · exact EndsOk.prepend (hst.trans e1) e2
      · exact EndsOk.now (hst.trans e1) (e2 _ _)
    · obtain ⟨gs',t',q',a1,a2,a3,a4,a5⟩:=leaver_slips (sl:=sl') h0 hr hL hI' hpos hi hg
      exact EndsOk.prepend (hst.trans a1) (ih gs' (w.at d) sl' (t++t') q' (by omega) a3 a2 a5)
theorem lone_closed:Closed P true (Lone P W R):=by
  intro h g hr hs hgh gs w sl t h0 hI
  obtain ⟨q,hL⟩:=hI.leav
  refine lone_turn hr (fun gs w sl t h0 hI=>.inl ?_) _ gs w sl t q (Nat.le_refl _) hL h0 hI
  obtain ⟨q,hL⟩:=hI.leav
  have hsat:Sat w h:=hI.fam.sat 0 rfl
  obtain ⟨g',w',es,h',e1,s',gr,he,hj⟩:=hs w hsat
  have hrunT:=runT_crowd_go (P:=P) (sl:=sl) (i:=0) h0 (show stepG P (0 == 0) g w = _ from e1)
  have hlt:0 < gs.size:=(Array.getElem?_eq_some_iff.1 h0).1
  refine ⟨_,_,hrunT,hj (gr.gh.trans hgh) _ _ _ _ (by simp [hlt]) ⟨?_,⟨q,leavers_own h0 hL g_ofEvents⟩,handedOver_app hI.over fun op hop=>.inl (g_ofEvents op hop),?_,hI.kept.own hI.old hsat s' gr,hI.old.own hI.kept gr⟩⟩
  · have:=hI.fam.own (i:=0) rfl s' gr he g.frame.fn g.frame.place
    refine ⟨fun i hi=>?_,fun i j hi hj hij=>absurd (hi.trans hj.symm) hij,fun i hi=>?_,this.clean,this.low⟩
    · have:=this.sat 0 rfl; rw [updH_same] at this; exact this
    · have k:=this.know 0 rfl; rw [updH_same] at k; subst hi; exact k
  · rw [Deaf_own]
    exact (deafBehind_still (fun e hx=>still_event (he e hx).1) _).trans hI.hears
theorem lone_end {h:PHeap} {g:Goroutine} (hr:g.status = .running) (hend:∀ w,Sat w h→∃ v w' es h',stepG P true g w = .ended (.done v) w' es∧Sat w' h'∧Grow w w' h h'∧(∀ e ∈ es,EvOk h w.heap.size e∧EvLt w'.heap.size e)∧R v):Lone P W R h g:=by
  intro hgh gs w sl t h0 hI
  obtain ⟨q,hL⟩:=hI.leav
  refine lone_turn hr (fun gs w sl t h0 hI=>.inr ?_) _ gs w sl t q (Nat.le_refl _) hL h0 hI
  obtain ⟨q,hL⟩:=hI.leav
  have hsat:Sat w h:=hI.fam.sat 0 rfl
  obtain ⟨v,w',es,h',e1,s',gr,he,hR⟩:=hend w hsat
  have hrunT:=runT_many_ended (P:=P) (sl:=sl) (i:=0) h0 (show stepG P (0 == 0) g w = _ from e1)
  have hF:=hI.fam.own (i:=0) (h':=h') rfl s' gr he g.frame.fn g.frame.place
  refine ⟨_,_,_,hrunT,fun w0 sl0=>⟨v,rfl,⟨hR,hI.kept.own hI.old hsat s' gr⟩,hF.clean,handedOver_app hI.over fun op hop=>.inl (g_ofEvents op hop),⟨fun x hx=>?_,rfl⟩,fun j x hx hj=>?_⟩⟩
  · obtain ⟨j,hj⟩:=List.mem_iff_getElem?.1 hx
    rw [List.getElem?_drop] at hj
    exact ⟨_,(hL.old (1 + j) x (by omega) (by simpa [crowd] using hj)).leaves⟩
  · have hq:=hL.old j x (by omega) hx
    refine ⟨q j,?_⟩
    have e:(t++MemOp.ofEvents 0 g.frame.fn g.frame.place es).deaf j (t++MemOp.ofEvents 0 g.frame.fn g.frame.place es).size = Deaf t j:=
      Deaf_other t (g:=j) (g':=0) (by omega) _ g_ofEvents
    rw [e]
    exact hq.hears _
theorem fam_nil {w:World} {h:PHeap} (s:Sat w h):Fam w #[] (· = 0) (fun _=>h):=
  ⟨fun _ _=>s,fun i j hi hj hij=>absurd (hi.trans hj.symm) hij,fun i hi x a b hx=>by simp [touchAt,Trace.act?] at hx,past_nil.clean,by simp⟩
theorem lone_run {h:PHeap} {g:Goroutine} (hL:Lone P W R h g) (hg:h.gh = []) (s:Sat W h) (ro:∀ b,(h.obj b).isSome = true→h.wr b = false):EndsOk P (EndPost W R) (solo g W) #[]:=
  hL hg #[g] W none #[] rfl ⟨fam_nil s,⟨_,leavers_one P g⟩,past_nil.over,rfl,Kept.refl W,fun b hb hw=>by rw [ro b hb] at hw; cases hw⟩
theorem stepG_last {b : Frame} {a : Act} {todo : List Item} {w w' : World} {fn : Func} {v : Value} {es : Array Event}
    (hn:b.kind = .normal) (hi:P.inits.idxOf? b.fn = none) (hd:a.defers = []) (hf:P.funcs[b.fn]? = some fn) (hr:(results fn a.tmps).run P w = .ok v w') (he:Sem.events P (results fn a.tmps) w #[] = es) :
    stepG P true (G { b.at a todo with mode:=.returning } []) w = .ended (.done v) w' (seen P b.fn es):=by
  simp [G,stepG,unwind,doReturn,Frame.at,hn,hd,hf,hr,he,hi,GStep.after]
instance:IsCl P (· = Lone P W R):=⟨fun J e=>⟨true,e ▸ lone_closed⟩⟩
theorem lone_of_sl {M : Jdg → Prop} [hM : IsCl P M] {f : FuncId} {fn : Func} {c : Code} {n : Nat} {vs : List Value} {h : PHeap} (hMem : M (Lone P W R))
    (hi:P.inits.idxOf? f = none) (hf:P.funcs[f]? = some fn) (hb:fn.body = some c) (hn:fn.ntmps = n) (hsz:Nat.ble vs.length n = true)
    (x:c.sl P M n (bodyQ P fn n (fun v _=>R v) noE) (argsL 0 vs) h):Lone P W R h (G (Frame.enter P f vs.toArray .normal) []):=by
  have hle:=Nat.le_of_ble_eq_true hsz
  rw [enter_at vs.toArray hf hb]
  have hag:Agree n (argsL 0 vs) (vs.toArray++Array.replicate (fn.ntmps - vs.toArray.size) undef):=by
    refine ⟨by simp; omega,fun i v e=>?_⟩
    obtain ⟨_,h2⟩:=argsL_get vs 0 i v e
    have hlt:i < vs.length:=by
      rcases Nat.lt_or_ge i vs.length with h | h
      · exact h
      · simp [List.getElem?_eq_none (show vs.length ≤ i by omega)] at h2
    rw [Array.getElem?_append]
    simpa [hlt] using h2
  have leave : ∀ (L : Locals) (h' : PHeap) (tm : Array Value) (todo : List Item), (∀ tm, Agree n L tm → (results fn tm).slp P (fun v _ => R v) (fun _ _ => False) h') → Agree n L tm →
      Lone P W R h' (G { (base f).at ⟨tm,[]⟩ todo with mode:=.returning } []):=by
    intro L h' tm todo q ha
    refine lone_end rfl fun w hsat=>?_
    obtain ⟨w',h'',es',s1,s2,s3,s4⟩:=slp_sound #[] (q tm ha) hsat
    rcases s4 with ⟨v,hr,hk⟩ | ⟨v,_,hk⟩
    · have hrr:(results fn tm).run P w = .ok v w':=by rw [← Sem.runT_fst P _ w #[],hr]
      have hre:Sem.events P (results fn tm) w #[] = es':=by rw [Sem.events,hr]; simp
      exact ⟨v,w',seen P f es',h'',stepG_last (b:=base f) (a:=⟨tm,[]⟩) rfl hi rfl hf hrr hre,s1,s2,fun e y=>s3 e (seen_sub y),hk⟩
    · exact hk.elim
  refine x _ hMem (base f) [] [] [] _ (by simp [base]) hag ?_
  intro e L h' tm q ha
  cases e with
  | nrm=>exact quiet (P:=P) hMem rfl (fun _ _=>stepG_end) (leave L h' tm [] q ha)
  | exit id=>exact q.elim
  | ret=>exact fun todo=>leave L h' tm todo q ha
  | pan ch=>exact False.elim q
end
end Go.Sl

/- Rows that say 'leaving': from a body told by own steps to one good run. No program. -/
import Derived.Test.YtcpkcmgjfcbnpaaGreatDoorSmL
import Derived.Test.YtcpkcmgjfcbnpaaGreatDoorSmO
import Derived.Conc.Holds
set_option linter.unusedVariables false
set_option linter.unusedSimpArgs false
set_option linter.unusedSectionVars false

namespace Go.Sl
open Go Go.Conc PHeap
open Go.ChangeShapes Go.WideShapes Go.RowKit
section
variable {P:Program} {W:World} {R:Value→Prop} {f:FuncId}
theorem ends_of_body {fn : Func} {vs : List Value} {h : PHeap} (hgh : h.gh = []) (hsat : Sat W h) (hro : ∀ b, h.wr b = false) (hi : P.inits.idxOf? f = none)
    (hf:P.funcs[f]? = some fn) (hsz:Nat.ble vs.length fn.ntmps = true)
    (x:∃ c,fn.body = some c∧c.sf P (· = Lone P W R) fn.ntmps (retF P fn fn.ntmps (fun v _=>R v) fun _ _=>False) (argsL 0 vs) [] h) :
    EndsOk P (EndPost W R) (solo (G (Frame.enter P f vs.toArray .normal) []) W) #[]:=by
  obtain ⟨c,hb,x⟩:=x
  have hrel:Rel h h [] h:=⟨le_refl h,le_refl h,(fun b o m=>by cases m),(by simp),rfl⟩
  refine lone_run (lone_of_sl (M:=(· = Lone P W R)) rfl hi hf hb rfl hsz (sl_mono (x h h hrel) ?_)) hgh hsat fun b _=>hro b
  rintro e L H ⟨O,r,q⟩
  cases e with
  | nrm=>exact fun tm ha=>slp_mono (fun v H' ⟨_,_,y⟩=>y) (fun _ _ y=>y) (q h h H r tm ha)
  | ret=>exact fun tm ha=>slp_mono (fun v H' ⟨_,_,y⟩=>y) (fun _ _ y=>y) (q h h H r tm ha)
  | pan ch=>exact q.elim
  | exit id=>exact q.elim
end
theorem below_still {W W':World} (k:Kept W W'):Below W.heap.size W { W' with tape:=W.tape }:=⟨k.os,rfl,k.output,k.size,k.same⟩
theorem frame_kept {W W':World} (k:Kept W W') (may:MemPlace→Prop):W.keptBut W' may:=(below_still k).frame may
theorem frozen_kept {W W':World} (k:Kept W W') {p:Addr} (hp:p.block < W.heap.size):W'.frozen? p = W.frozen? p:=(below_still k).frozen hp
theorem same_kept {W W':World} (k:Kept W W') {p:MemPlace} (hp:p.block < W.heap.size):W.sameAt W' p:=(below_still k).same hp
theorem post_of_kept {H : Type} {enc : TypeId × Value → H} {P : Program} {f : Func} {s : ChangeSpec} {apart fresh handsOn again : Bool} {W W' : World} {args : Array Value} {v : Value} {ds gs : List (DataW H)} {before pa pv : List MemPlace}
    (hW:DataW.Whole enc P f.params.toList s.vars apart W args.toList ds gs before)
    (hres:∀ (b:Nat) (sp:Nat→Bool) (hd:Bool),DataW.TrodAll enc P W' b sp hd f.resultTypes.toList (v.resultList f.resultTypes.size) (s.fn H (ds++gs)).results [])
    (hargs:∀ sp:Nat→Bool,(∀ p ∈ before,sp p.block = true)→DataW.TrodAll enc P W' 0 sp true f.params.toList args.toList (s.fn H (ds++gs)).args pa)
    (hvars:∀ sp:Nat→Bool,(∀ p ∈ before,sp p.block = true)→DataW.TrodVars enc P W' sp s.vars (s.fn H (ds++gs)).vars pv)
    (hps:before = pa++pv) (hk:Kept W W')
    (hok:∀ (j:Nat) (t:TypeId) (r:Value),f.resultTypes[j]? = some t→(v.resultList f.resultTypes.size)[j]? = some r→Value.okWide P W' .any 0 t r) :
    s.post enc P f apart fresh handsOn again W args v W':=by
  have hlt:=fun p hp=>hW.lt p hp
  have hold:∀ p ∈ before,(fun b=>decide (b < W.heap.size)) p.block = true:=fun p hp=>by simpa using hlt p hp
  refine ⟨ds,gs,before,[],pa,pv,hW,hres _ _ _,hargs _ hold,hvars _ hold,World.keptBut_mono (fun p hp=>⟨hp,?_⟩) (frame_kept hk (· ∈ before)),fun _=>?_⟩
  · rw [hps,List.mem_append] at hp
    exact Or.inr hp
  · obtain ⟨_,_,_,_,_,hz,hn⟩:=hW
    refine ⟨hok,_,_,([]++pa)++pv,⟨[]++pa,pv,trodAll_append (hargs _ (fun _ _=>rfl)) (hres _ _ _),hvars _ (fun _ _=>rfl),rfl,?_,?_⟩,?_⟩
    · intro b off hp
      have hp':MemPlace.cell b off ∈ before:=by rw [hps]; simpa using hp
      rw [frozen_kept hk (hlt _ hp')]
      exact hz b off hp'
    · intro ha
      have:=hn ha
      rw [hps] at this
      simpa using this
    · intro p hp _
      rw [hps]
      simpa using hp
section
variable {H:Type} {enc:TypeId × Value→H}
theorem leavingWide_of_runs {a : Assume} {C : Checked} {os : Os} {f : FuncId} {fn : Func} {s : ChangeSpec} {conds : List PathCond} {apart fresh handsOn again : Bool} {X : World → Array Value → Prop}
    (hX:∀ (w w':World) (args:Array Value),w.heap = w'.heap→X w args→X w' args)
    (own:ownKnob C.prog.godebug = none) (started:os.Started) (hfn:C.prog.funcs[f]? = some fn)
    (witness:∃ (w:World) (tape:Tape) (i:Input),w.os = os∧(w.forCall tape i).Shaped C.prog∧i.vars = []∧Input.okWide C.prog (w.forCall tape i) .any w.heap.size f i ∧
      ((s.pre enc C.prog fn conds apart (w.forCall tape i).memory i.args∧X (w.forCall tape i).memory i.args)∧sizedMet enc C.prog fn (OpenSpec.ofChange s) apart (w.forCall tape i).memory i.args)∧a.holds C.prog (lone (Frame.enter C.prog f i.args .normal) [] (w.forCall tape i)))
    (runs:∀ (W:World) (base:Nat) (args:Array Value) (ds gs:List (DataW H)) (before:List MemPlace),
      (∀ (j:Nat) t v,fn.params[j]? = some t→args[j]? = some v→Value.okWide C.prog W .any base t v) →
      DataW.Whole enc C.prog fn.params.toList s.vars apart W args.toList ds gs before →
      (DataW.weightsEach C.prog (fn.params.toList++s.plain.varTypes C.prog) (ds++gs)).all (· ≤ reachBytes) = true→W.ShapedOpen C.prog→X W args →
      ∃ R,EndsOk C.prog (EndPost W R) (solo (G (Frame.enter C.prog f args .normal) []) W) #[]∧∀ v W',R v→Kept W W'→s.post enc C.prog fn apart fresh handsOn again W args v W') :
    ReturnsInLeavingWide a C os f .any (fun w args=>(s.pre enc C.prog fn conds apart w args∧X w args)∧sizedMet enc C.prog fn (OpenSpec.ofChange s) apart w args) (s.post enc C.prog fn apart fresh handsOn again):=by
  refine returnsInLeavingWide_of_good own started witness ?_
  intro w tape i _ hsh _ hok hpre _
  obtain ⟨_,_,_,fn',hfn',_,_,_,_,hval⟩:=hok
  have e:fn' = fn:=Option.some.inj (hfn'.symm.trans hfn)
  subst e
  obtain ⟨⟨⟨ds,gs,before,hw,hc⟩,hx⟩,hz⟩:=hpre
  have hw':=DataW.Whole.of_heap (w':=w.forCall tape i) (by rfl) hw
  obtain ⟨R,⟨M,last,o,w',t',h1,h2,h3,h4⟩,h5⟩:=runs (w.forCall tape i) w.heap.size i.args ds gs before hval hw' (hz.weights hw) hsh (hX _ _ _ (by rfl) hx)
  exact ⟨M,last,o,w',t',h1,h2,h3,h4.elim fun v y=>⟨v,y.1,ChangeSpec.post_blind (h5 v w' y.2.1.1 y.2.1.2),y.2.2⟩⟩
end
end Go.Sl

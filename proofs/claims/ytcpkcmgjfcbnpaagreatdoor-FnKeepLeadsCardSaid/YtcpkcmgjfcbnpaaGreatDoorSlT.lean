/- The fork of four workers and their join: what is held of trace and heaps. No program. -/
import Derived.Test.YtcpkcmgjfcbnpaaGreatDoorSlS
set_option linter.unusedVariables false
set_option linter.unusedSimpArgs false
set_option linter.unusedSectionVars false

namespace Go.Sl
open Go Go.Conc PHeap
open Go.ConcN (WgLive PayAt Has RW DWs AsideCell AtR0 AtK1 AtD1 AtD2 AtD3 AtD4 RelBy sumTo upd sumTo_upd upd_ne upd_same)
open Go.ConcR (KK wgBlock WgAt stA smA rd wr mk Payload DC0)
def act (k0 sz:Nat) (i:Nat):Prop:=i = 0 ∨ (k0 ≤ i∧i < sz)
section
variable {w w':World} {t u:Trace} {A:Nat→Prop} {H H':Nat→PHeap} {n:Nat}
theorem Fam.app (F : Fam w t A H) (hu : ∀ op ∈ u, op.g = n) (hno : ∀ op ∈ u, ∀ x b, op.act.touch? = some x → blk x.loc = some b → ∀ i, A i → (H i).obj b = none)
    (hr:∀ said x a,touchAt t x = some a→∀ op ∈ u,∀ b,op.act.touch? = some b→a.conflicts said b→Knows t n x)
    (hs:∀ i,A i→Sat w' (H i)) (hsz:w.heap.size ≤ w'.heap.size) (hl:∀ op ∈ u,∀ x b,op.act.touch? = some x→blk x.loc = some b→b < w'.heap.size):Fam w' (t++u) A H:=by
  refine ⟨hs,F.dis,fun j hj x a b ha hb hs hwr=>?_,fun said=>noRace_append (F.clean said) hu (hr said),?_⟩
  · obtain ⟨op,ho,hoa⟩:=touch_of ha
    rcases getElem?_append_cases ho with ⟨hlt,ho'⟩ | ⟨hge,hou⟩
    · exact (F.know j hj x a b (by rw [touchAt_of ho']; exact hoa) hb hs hwr).app _
    · rw [hno op hou a b hoa hb j hj] at hs; cases hs
  · exact fun op hop x b hx hb=>(Array.mem_append.1 hop).elim (fun y=>Nat.lt_of_lt_of_le (F.low op y x b hx hb) hsz) fun y=>hl op y x b hx hb
theorem Fam.shrink (F:Fam w t A H) (h:∀ i,A i→∀ b o,(H' i).obj b = some o→(H i).obj b = some o∧((H' i).wr b = true→(H i).wr b = true)):Fam w t A H':=by
  refine ⟨fun i hi b o e=>F.sat i hi b o (h i hi b o e).1,fun i j hi hj hij b hb hw=>?_,fun i hi x a b ha hb hs hwr=>?_,F.clean,F.low⟩
  · obtain ⟨o,ho⟩:=Option.isSome_iff_exists.1 hb
    obtain ⟨h1,h2⟩:=h i hi b o ho
    have:=F.dis i j hi hj hij b (by simp [h1]) (h2 hw)
    cases e:(H' j).obj b with
    | none=>rfl
    | some o'=>rw [(h j hj b o' e).1] at this; cases this
  · obtain ⟨o,ho⟩:=Option.isSome_iff_exists.1 hs
    obtain ⟨h1,h2⟩:=h i hi b o ho
    exact F.know i hi x a b ha hb (by simp [h1]) (hwr.imp id h2)
theorem Fam.congr (F:Fam w t A H) (h:∀ i,A i→H' i = H i):Fam w t A H':=F.shrink fun i hi b o e=>by rw [h i hi] at e ⊢; exact ⟨e,id⟩
end
structure Tr (F:Fk) (T0 k0 sz:Nat) (H:Nat→PHeap) (t:Trace):Prop where
  /-- Every touch of what somebody holds is known to goroutine 0 or is a worker's. -/
  Q:∀ x a b,touchAt t x = some a→blk a.loc = some b→(∃ i,act k0 sz i∧((H i).obj b).isSome = true)→(a.write = true ∨ F.jw b = true)→Knows t 0 x ∨ ∃ n,k0 ≤ n∧n < sz∧t.g? x = some n
  wt:∀ x a,touchAt t x = some a→blk a.loc = some F.Wg→(a.kind = .plain→∀ n,act k0 sz n→Knows t n x)∧(a.kind = .said→Knows t 0 x)
  ct:∀ x a,touchAt t x = some a→blk a.loc = some F.Ch→Knows t 0 x
  ho:∀ x n,t.g? x = some n→n ≠ 0→t.counts x→(∃ y,t.g? y = some 0∧HappensBefore t x y) ∨ (k0 ≤ n∧n < sz)
  norel:∀ x,T0 ≤ x→t.act? x ≠ some (.mark (.release (stA F.Wg)))
structure Fine (F:Fk) (k0 sz n:Nat) (op:MemOp):Prop where
  g:op.g = n
  rel:op.act ≠ .mark (.release (stA F.Wg))
  ch:∀ x,op.act.touch? = some x→blk x.loc ≠ some F.Ch
  wg:∀ x,op.act.touch? = some x→blk x.loc = some F.Wg→x.kind ≠ .plain∧(x.kind = .said→n = 0)
  who:∀ x,op.act.touch? = some x→act k0 sz n
theorem g?_old {t u:Trace} {i:Nat} (h:i < t.size):(t++u).g? i = t.g? i:=by simp only [Trace.g?,getElem?_append_old h]
theorem g?_of {t:Trace} {i:Nat} {op:MemOp} (h:t[i]? = some op):t.g? i = some op.g:=by simp [Trace.g?,h]
theorem lt_of_g? {t:Trace} {i n:Nat} (h:t.g? i = some n):i < t.size:=by
  unfold Trace.g? at h
  obtain ⟨op,ho,_⟩:=Option.map_eq_some_iff.1 h
  exact lt_size_of_getElem? ho
theorem Tr.app {F : Fk} {T0 k0 sz : Nat} {H H' : Nat → PHeap} {t u : Trace} {n : Nat} (T : Tr F T0 k0 sz H t) (hu : ∀ op ∈ u, Fine F k0 sz n op)
    (hH:∀ i,act k0 sz i→∀ b,((H' i).obj b).isSome = true→(∃ i',act k0 sz i'∧((H i').obj b).isSome = true) ∨ ∀ x a,touchAt t x = some a→blk a.loc ≠ some b):Tr F T0 k0 sz H' (t++u):=by
  have old:∀ {x a},touchAt (t++u) x = some a→(x < t.size∧touchAt t x = some a) ∨ ∃ op ∈ u,(t++u)[x]? = some op∧op.act.touch? = some a:=by
    intro x a ha
    obtain ⟨op,ho,hoa⟩:=touch_of ha
    rcases getElem?_append_cases ho with ⟨hlt,ho'⟩ | ⟨_,hou⟩
    · exact .inl ⟨hlt,by rw [touchAt_of ho']; exact hoa⟩
    · exact .inr ⟨op,hou,ho,hoa⟩
  refine ⟨fun x a b ha hb hh hw=>?_,fun x a ha hb=>?_,fun x a ha hb=>?_,fun x m hx hm hc=>?_,fun x hx e=>?_⟩
  · rcases old ha with ⟨hlt,ha'⟩ | ⟨op,hou,ho,hoa⟩
    · obtain ⟨i,hi,hs⟩:=hh
      rcases hH i hi b hs with h' | h'
      · rcases T.Q x a b ha' hb h' hw with k | ⟨m,m1,m2,m3⟩
        · exact .inl (k.app u)
        · exact .inr ⟨m,m1,m2,by rw [g?_old hlt]; exact m3⟩
      · exact absurd hb (h' x a ha')
    · have hf:=hu op hou
      rcases hf.who a hoa with h0 | ⟨h1,h2⟩
      · have:=knows_own ho
        rw [hf.g,h0] at this
        exact .inl this
      · exact .inr ⟨n,h1,h2,by rw [g?_of ho,hf.g]⟩
  · rcases old ha with ⟨hlt,ha'⟩ | ⟨op,hou,ho,hoa⟩
    · obtain ⟨h1,h2⟩:=T.wt x a ha' hb
      exact ⟨fun k m hm=>(h1 k m hm).app u,fun k=>(h2 k).app u⟩
    · have hf:=hu op hou
      obtain ⟨h1,h2⟩:=hf.wg a hoa hb
      exact ⟨fun k=>absurd k h1,fun k=>by have:=knows_own ho; rw [hf.g,h2 k] at this; exact this⟩
  · rcases old ha with ⟨hlt,ha'⟩ | ⟨op,hou,ho,hoa⟩
    · exact (T.ct x a ha' hb).app u
    · exact absurd hb ((hu op hou).ch a hoa)
  · have hl:=lt_of_g? hx
    rcases Nat.lt_or_ge x t.size with hlt | hge
    · rw [g?_old hlt] at hx
      rcases T.ho x m hx hm ((counts_old hlt).1 hc) with ⟨y,h1,h2⟩ | h'
      · exact .inl ⟨y,by rw [g?_old (lt_of_g? h1)]; exact h1,hb_app u h2⟩
      · exact .inr h'
    · obtain ⟨a,ha,_⟩:=hc
      rcases old ha with ⟨hlt,_⟩ | ⟨op,hou,ho,hoa⟩
      · omega
      · have hf:=hu op hou
        rw [g?_of ho,hf.g] at hx
        obtain rfl:=Option.some.inj hx
        exact .inr ((hf.who a hoa).resolve_left hm)
  · obtain ⟨op,ho,hoa⟩:=Option.map_eq_some_iff.1 e
    rcases getElem?_append_cases ho with ⟨_,ho'⟩ | ⟨_,hou⟩
    · exact T.norel x hx (by rw [act?_of ho',hoa])
    · exact (hu op hou).rel hoa
theorem Tr.heaps {F:Fk} {T0 k0 sz:Nat} {H H':Nat→PHeap} {t:Trace} (T:Tr F T0 k0 sz H t) (hH:∀ i,act k0 sz i→∀ b,((H' i).obj b).isSome = true→∃ i',act k0 sz i'∧((H i').obj b).isSome = true):Tr F T0 k0 sz H' t:=by
  have:=T.app (H':=H') (u:=#[]) (n:=0) (by simp) (fun i hi b hb=>.inl (hH i hi b hb))
  simpa using this
theorem fine_own {F : Fk} {k0 sz n : Nat} {h : PHeap} {w : World} {es : Array Event} {m : Nat} (ha : act k0 sz n) (hWg : h.obj F.Wg = none ∧ F.Wg < w.heap.size) (hCh : h.obj F.Ch = none ∧ F.Ch < w.heap.size)
    (he:∀ e ∈ es,EvOk h w.heap.size e∧EvLt m e) (fn:FuncId) (pos:String):∀ op ∈ MemOp.ofEvents n fn pos es,Fine F k0 sz n op:=by
  intro op hop
  obtain ⟨e,hee,rfl⟩:=mem_evs hop
  have nob:∀ x b,(MemAct.ofEvent e).touch? = some x→blk x.loc = some b→h.obj b = none→w.heap.size ≤ b:=by
    intro x b hx hb hn
    have hmem:x.loc.isMemory = true:=by obtain ⟨loc,_,_⟩:=x; cases loc <;> first|rfl | cases hb
    rcases (touch_event hx hmem b hb (he e hee).1 (he e hee).2).1 with y | y
    · rw [hn] at y; cases y
    · exact y
  refine ⟨rfl,fun hc=>?_,fun x hx hb=>?_,fun x hx hb=>?_,fun _ _=>ha⟩
  · obtain ⟨loc,wr,sy⟩:=e
    have:=(he _ hee).1
    cases loc with
    | mark mm=>cases mm <;> first|exact this.elim | cases hc
    | cell a=>cases wr <;> cases sy <;> cases hc
    | obj r=>cases wr <;> cases sy <;> cases hc
    | output=>exact this.elim
    | goroutines=>exact this.elim
  · have:=nob x _ hx hb hCh.1; omega
  · have:=nob x _ hx hb hWg.1; omega
end Go.Sl

/- Who knows what: several goroutines, each with what it knows of memory, over one world and one trace. No program. -/
import Derived.Test.YtcpkcmgjfcbnpaaGreatDoorLibA
import Derived.Conc.Beside
set_option linter.unusedVariables false
set_option linter.unusedSimpArgs false
set_option linter.unusedSectionVars false

namespace Go.Sl
open Go Go.Conc PHeap
def blk:Loc→Option Nat
  | .cell a=>some a.block
  | .obj r=>some r
  | _=>none
theorem mem_evs {g:Nat} {fn:FuncId} {pos:String} {es:Array Event} {op:MemOp} (h:op ∈ MemOp.ofEvents g fn pos es):∃ e ∈ es,op = { g,fn,pos,act:=.ofEvent e }:=by
  rw [ofEvents_eq] at h
  obtain ⟨e,he,rfl⟩:=Array.mem_map.1 h
  exact ⟨e,he,rfl⟩
theorem touch_event {e : Event} {b : Touch} (h : (MemAct.ofEvent e).touch? = some b) (hm : b.loc.isMemory = true) (k : Nat) (hk : blk b.loc = some k) {h0 : PHeap} {n m : Nat} (ok : EvOk h0 n e) (lt : EvLt m e) :
    ((h0.obj k).isSome = true ∨ n ≤ k)∧k < m∧(b.write = true→h0.wr k = true ∨ n ≤ k):=by
  obtain ⟨loc,wr,sy⟩:=e
  cases loc with
  | cell a=>
    have e1:MemAct.ofEvent ⟨.cell a,wr,sy⟩ = .access ⟨.cell a,wr,sy⟩:=by cases wr <;> cases sy <;> rfl
    rw [e1] at h
    simp only [MemAct.touch?,Option.some.injEq] at h
    subst h
    simp only [blk,Option.some.injEq] at hk
    subst hk
    exact ⟨ok.2.1,lt,ok.2.2⟩
  | obj r=>
    cases wr <;> cases sy <;> simp only [MemAct.ofEvent,MemAct.touch?,Option.some.injEq,reduceCtorEq] at h <;> subst h <;> simp only [blk,Option.some.injEq] at hk <;> subst hk <;> exact ⟨ok.1,lt,ok.2⟩
  | output=>exact ok.elim
  | goroutines=>exact ok.elim
  | mark mm=>cases mm <;> simp_all [MemAct.ofEvent,MemAct.touch?,EvOk]
theorem low_event {e:Event} {h0:PHeap} {n m:Nat} (ok:EvOk h0 n e) (lt:EvLt m e):(MemAct.ofEvent e).low m:=by
  obtain ⟨loc,wr,sy⟩:=e
  cases loc with
  | cell a=>cases wr <;> cases sy <;> exact lt
  | obj r=>cases wr <;> cases sy <;> exact lt
  | output=>exact ok.elim
  | goroutines=>exact ok.elim
  | mark mm=>cases mm <;> first|trivial | exact ok.elim
theorem still_event {e:Event} {h0:PHeap} {n:Nat} (ok:EvOk h0 n e):e.loc ≠ .mark .disable∧e.loc ≠ .mark .enable:=by
  obtain ⟨loc,wr,sy⟩:=e
  constructor <;> (intro h; simp only at h; subst h; exact ok.elim)
theorem low_touch {B:Nat} {x:MemAct} {a:Touch} {b:Nat} (h:x.low B) (ht:x.touch? = some a) (hb:blk a.loc = some b):b < B:=by
  cases x with
  | access e=>
    simp only [MemAct.touch?,Option.some.injEq] at ht
    subst ht
    obtain ⟨loc,wr,sy⟩:=e
    cases loc <;> simp only [blk,Option.some.injEq,reduceCtorEq] at hb <;> subst hb <;> exact h
  | mark m=>cases m <;> simp only [MemAct.touch?,Option.some.injEq,reduceCtorEq] at ht <;> subst ht <;> simp only [blk,Option.some.injEq] at hb <;> subst hb <;> exact h
  | _=>cases ht
def updH (H:Nat→PHeap) (i:Nat) (h:PHeap):Nat→PHeap:=fun j=>if j = i then h else H j
theorem updH_same (H:Nat→PHeap) (i:Nat) (h:PHeap):updH H i h i = h:=by simp [updH]
theorem updH_ne (H:Nat→PHeap) {i j:Nat} (h:PHeap) (e:j ≠ i):updH H i h j = H j:=by simp [updH,e]
structure Fam (w:World) (t:Trace) (A:Nat→Prop) (H:Nat→PHeap):Prop where
  sat:∀ i,A i→Sat w (H i)
  dis:∀ i j,A i→A j→i ≠ j→∀ b,((H i).obj b).isSome = true→(H i).wr b = true→(H j).obj b = none
  know:∀ i,A i→∀ x a b,touchAt t x = some a→blk a.loc = some b→((H i).obj b).isSome = true→(a.write = true ∨ (H i).wr b = true)→Knows t i x
  clean:∀ said,¬ Race said t
  low:∀ op ∈ t,∀ x b,op.act.touch? = some x→blk x.loc = some b→b < w.heap.size
theorem blk_of_mem {l:Loc} (h:l.isMemory = true):∃ b,blk l = some b:=by cases l <;> first|exact ⟨_,rfl⟩ | cases h
section
variable {w w':World} {t:Trace} {A:Nat→Prop} {H:Nat→PHeap} {i:Nat} {h':PHeap} {es:Array Event}
theorem Fam.lowAt (F:Fam w t A H) {x:Nat} {a:Touch} {b:Nat} (hx:touchAt t x = some a) (hb:blk a.loc = some b):b < w.heap.size:=by
  obtain ⟨op,ho,hoa⟩:=touch_of hx
  exact F.low op (mem_of_getElem? ho) a b hoa hb
theorem Fam.isSome_lt (F:Fam w t A H) (hi:A i) {b:Nat} (hb:((H i).obj b).isSome = true):b < w.heap.size:=by
  obtain ⟨o,ho⟩:=Option.isSome_iff_exists.1 hb
  exact (F.sat i hi).lt ho
theorem Fam.own (F : Fam w t A H) (hi : A i) (s : Sat w' h') (g : Grow w w' (H i) h') (he : ∀ e ∈ es, EvOk (H i) w.heap.size e ∧ EvLt w'.heap.size e) (fn : FuncId) (pos : String) :
    Fam w' (t++MemOp.ofEvents i fn pos es) A (updH H i h'):=by
  have isf:∀ b,(h'.obj b).isSome = true→((H i).obj b).isSome = true ∨ w.heap.size ≤ b:=g.dom
  have other:∀ j,A j→j ≠ i→Sat w' (H j):=fun j hj hji b o hb=>by
    have hlt:=(F.sat j hj).lt hb
    rw [← (F.sat j hj) b o hb]
    cases hib:(H i).obj b with
    | none=>exact g.other b hlt hib
    | some x=>
      have hs:((H i).obj b).isSome = true:=by simp [hib]
      have hw:(H i).wr b = false:=by
        cases hwr:(H i).wr b with
        | false=>rfl
        | true=>have:=F.dis i j hi hj (fun e=>hji e.symm) b hs hwr; rw [this] at hb; cases hb
      obtain ⟨k1,k2,k3⟩:=g.keep b hs
      have e1:=k3 hw
      rw [hib] at e1
      rw [s b x e1,(F.sat i hi) b x hib]
  have hug:∀ op ∈ MemOp.ofEvents i fn pos es,op.g = i:=fun op hop=>by obtain ⟨e,_,rfl⟩:=mem_evs hop; rfl
  refine ⟨fun j hj=>?_,fun j k hj hk hjk b hb hw=>?_,fun j hj x a b ha hb hs hwr=>?_,fun said=>?_,?_⟩
  · by_cases e:j = i
    · subst e; rw [updH_same]; exact s
    · rw [updH_ne _ _ e]; exact other j hj e
  · by_cases e:j = i
    · subst e
      rw [updH_same] at hb hw
      rw [updH_ne _ _ (fun e=>hjk e.symm)]
      rcases isf b hb with y | y
      · exact F.dis j k hj hk hjk b y (by rw [← (g.keep b y).2.1]; exact hw)
      · cases e:(H k).obj b with
        | none=>rfl
        | some o=>have:=(F.sat k hk).lt e; omega
    · rw [updH_ne _ _ e] at hb hw
      by_cases e':k = i
      · subst e'
        rw [updH_same]
        have:=F.dis j k hj hk hjk b hb hw
        cases e2:h'.obj b with
        | none=>rfl
        | some o=>
          rcases isf b (by simp [e2]) with y | y
          · rw [this] at y; cases y
          · have:=F.isSome_lt hj hb; omega
      · rw [updH_ne _ _ e']; exact F.dis j k hj hk hjk b hb hw
  · obtain ⟨op,ho,hoa⟩:=touch_of ha
    rcases getElem?_append_cases ho with ⟨hlt,ho'⟩ | ⟨hge,hou⟩
    ·
      have ha':touchAt t x = some a:=by rw [touchAt_of ho']; exact hoa
      have hblt:=F.lowAt ha' hb
      by_cases e:j = i
      · subst e
        rw [updH_same] at hs hwr
        rcases isf b hs with y | y
        · exact (F.know j hj x a b ha' hb y (hwr.imp id fun z=>by rw [← (g.keep b y).2.1]; exact z)).app _
        · omega
      · rw [updH_ne _ _ e] at hs hwr
        exact (F.know j hj x a b ha' hb hs hwr).app _
    · have hk:=knows_own ho
      rw [hug op hou] at hk
      by_cases e:j = i
      · subst e; exact hk
      · rw [updH_ne _ _ e] at hs hwr
        obtain ⟨ev,hev,rfl⟩:=mem_evs hou
        have hmem:a.loc.isMemory = true:=by
          obtain ⟨loc,_,_⟩:=a
          cases loc <;> first|rfl | cases hb
        obtain ⟨z1,z2,z3⟩:=touch_event hoa hmem b hb (he ev hev).1 (he ev hev).2
        have hjb:=F.isSome_lt hj hs
        rcases z1 with y | y
        · rcases hwr with hw | hw
          · rcases z3 hw with u | u
            · have:=F.dis i j hi hj (fun e'=>e e'.symm) b y u
              rw [this] at hs; cases hs
            · omega
          · have:=F.dis j i hj hi e b hs hw
            rw [this] at y; cases y
        · omega
  · refine noRace_append (F.clean said) hug fun x a ha op hop b hb hc=>?_
    obtain ⟨ev,hev,rfl⟩:=mem_evs hop
    obtain ⟨k,hk⟩:=blk_of_mem hc.2.1
    obtain ⟨z1,z2,z3⟩:=touch_event hb (hc.1 ▸ hc.2.1) k (hc.1 ▸ hk) (he ev hev).1 (he ev hev).2
    have hlt:=F.lowAt ha hk
    rcases z1 with y | y
    · refine F.know i hi x a k ha hk y ?_
      rcases hc.2.2.1 with q | q
      · exact .inl q
      · rcases z3 q with u | u
        · exact .inr u
        · omega
    · omega
  · refine fun op hop x b hx hb=>(Array.mem_append.1 hop).elim (fun y=>Nat.lt_of_lt_of_le (F.low op y x b hx hb) g.size) fun y=>?_
    obtain ⟨ev,hev,rfl⟩:=mem_evs y
    exact low_touch (low_event (he ev hev).1 (he ev hev).2) hx hb
theorem Fam.still (F:Fam w t A H) {u:Trace} {g:Nat} (hw:w'.heap = w.heap) (hg:∀ op ∈ u,op.g = g) (hu:∀ op ∈ u,op.act.touch? = none):Fam w' (t++u) A H:=by
  refine ⟨fun j hj b o e=>by rw [hw]; exact F.sat j hj b o e,F.dis,fun j hj x a b ha hb hs hwr=>?_,fun said=>?_,?_⟩
  · obtain ⟨op,ho,hoa⟩:=touch_of ha
    rcases getElem?_append_cases ho with ⟨hlt,ho'⟩ | ⟨hge,hou⟩
    · exact (F.know j hj x a b (by rw [touchAt_of ho']; exact hoa) hb hs hwr).app _
    · rw [hu op hou] at hoa; cases hoa
  · exact noRace_append (F.clean said) hg fun x a _ op hop b hb _=>by rw [hu op hop] at hb; cases hb
  · rw [hw]; exact fun op hop x b hx hb=>(Array.mem_append.1 hop).elim (fun y=>F.low op y x b hx hb) fun y=>by rw [hu op y] at hx; cases hx
theorem Fam.world (F:Fam w t A H) (hw:w'.heap = w.heap):Fam w' t A H:=
  ⟨fun j hj b o e=>by rw [hw]; exact F.sat j hj b o e,F.dis,F.know,F.clean,by rw [hw]; exact F.low⟩
theorem Fam.fewer {A':Nat→Prop} (F:Fam w t A H) (h:∀ i,A' i→A i):Fam w t A' H:=
  ⟨fun i hi=>F.sat i (h i hi),fun i j hi hj=>F.dis i j (h i hi) (h j hj),fun i hi=>F.know i (h i hi),F.clean,F.low⟩
end
end Go.Sl

/- Goroutine 0 alone beside leavers: receiving from a channel that it knows. No program. -/
import Derived.Test.YtcpkcmgjfcbnpaaGreatDoorSlQ
import Derived.Conc.CrowdComm
set_option linter.unusedVariables false
set_option linter.unusedSimpArgs false
set_option linter.unusedSectionVars false

namespace Go.Sl
open Go Go.Conc
section
variable {P:Program} {W:World} {R:Value→Prop} {h h':PHeap} {g g':Goroutine}
theorem lone_partners {t:Trace} {gs:Array Goroutine} {q:Nat→Nat} (hL:Leavers P t gs q) (c:Nat) (b:Bool):partners (gs.setIfInBounds 0 ph) c b = []:=partners_nil fun m gm hm=>by
  rcases getElem?_stand gs 0 m gm hm with ⟨_,rfl⟩ | ⟨hne,hm'⟩
  · exact offersAt_ph _ _
  · exact offersAt_of_not_blocked (by rcases (hL.old m gm (by omega) hm').status with y | y <;> rw [y] <;> simp) _ _
theorem lone_comm (hr : g.status = .running) {c : Nat} {o' : Obj} (hw : h.wr c = true) (hc : (h.obj c).isSome = true)
    (turn:∀ (gs:Array Goroutine) (w:World) (sl:Option (Nat × Nat)) (q:Nat→Nat) (t:Trace),gs[0]? = some g→Leavers P t gs q→Sat w h →
      ∃ u:Trace,(∀ op ∈ u,op.g = 0∧op.act.touch? = none∧op.act ≠ .mark .disable∧op.act ≠ .mark .enable)∧runT P (crowd gs w sl) 0 = (.next (crowd (gs.setIfInBounds 0 g') { w with heap:=w.heap.setIfInBounds c o' } sl),u))
    (hT:Lone P W R (h.put c o') g'):Lone P W R h g:=by
  intro hgh gs w sl t h0 hI
  obtain ⟨q,hL⟩:=hI.leav
  refine lone_turn hr (fun gs w sl t h0 hI=>.inl ?_) _ gs w sl t q (Nat.le_refl _) hL h0 hI
  obtain ⟨q,hL⟩:=hI.leav
  have hsat:Sat w h:=hI.fam.sat 0 rfl
  have hlt:0 < gs.size:=(Array.getElem?_eq_some_iff.1 h0).1
  obtain ⟨u,hu,hrun⟩:=turn gs w sl q t h0 hL hsat
  have hug:∀ op ∈ u,op.g = 0:=fun op hop=>(hu op hop).1
  have hut:∀ op ∈ u,op.act.touch? = none:=fun op hop=>(hu op hop).2.1
  have hcl:c < w.heap.size:=by obtain ⟨o,ho⟩:=Option.isSome_iff_exists.1 hc; exact hsat.lt ho
  have hud:Deaf (t++u) 0 = Deaf t 0:=by
    have key:∀ (l:List MemOp) (d:Nat),(∀ op ∈ l,op.act ≠ .mark .disable∧op.act ≠ .mark .enable)→l.foldl (deafStep 0) d = d:=by
      intro l
      induction l with
      | nil=>intro d _; rfl
      | cons y l ih=>
        intro d hl
        have hy:deafStep 0 d y = d:=by
          obtain ⟨a1,a2⟩:=hl y (by simp)
          unfold deafStep
          split <;> simp_all
        rw [List.foldl_cons,hy]
        exact ih d fun op hop=>hl op (by simp [hop])
    have:=Deaf_append t 0 u.toList
    simp only [Array.toArray_toList] at this
    rw [this]
    exact key _ _ fun op hop=>⟨(hu op (Array.mem_toList_iff.1 hop)).2.2.1,(hu op (Array.mem_toList_iff.1 hop)).2.2.2⟩
  have sat':Sat { w with heap:=w.heap.setIfInBounds c o' } (h.put c o'):=by
    intro b o e
    simp only [PHeap.put] at e
    by_cases hb:b = c
    · subst hb
      rw [if_pos rfl] at e
      cases e
      simp [Array.getElem?_setIfInBounds_self_of_lt hcl]
    · rw [if_neg hb] at e
      simp only
      rw [Array.getElem?_setIfInBounds_ne (fun x=>hb x.symm)]; exact hsat b o e
  have isf:∀ b,((h.put c o').obj b).isSome = true→(h.obj b).isSome = true:=fun b hb=>by
    simp only [PHeap.put] at hb
    by_cases e:b = c
    · rw [e]; exact hc
    · rw [if_neg e] at hb; exact hb
  have wrf:∀ b,(h.put c o').wr b = true→h.wr b = true:=fun b hb=>by
    simp only [PHeap.put] at hb
    by_cases e:b = c
    · rw [e]; exact hw
    · rw [if_neg e] at hb; exact hb
  refine ⟨_,u,hrun,hT (show (h.put c o').gh = [] from hgh) _ _ _ _ (by simp [hlt]) ⟨⟨fun _ _=>sat',fun i j hi hj hij=>absurd (hi.trans hj.symm) hij,fun i hi x a b ha hb hs hwr=>?_,fun said=>?_,fun op hop x b hx hb=>?_⟩,⟨q,⟨fun j x hj hx=>?_,fun j hj=>?_⟩⟩,handedOver_app hI.over fun op hop=>.inl (hug op hop),hud.trans hI.hears,?_,fun b hb hwb=>hI.old b (isf b hb) (wrf b hwb)⟩⟩
  · subst hi
    obtain ⟨op,ho,hoa⟩:=touch_of ha
    rcases getElem?_append_cases ho with ⟨_,ho'⟩ | ⟨_,hou⟩
    · exact (hI.fam.know 0 rfl x a b (by rw [touchAt_of ho']; exact hoa) hb (isf b hs) (hwr.imp id (wrf b))).app _
    · rw [hut op hou] at hoa; cases hoa
  · exact noRace_append (hI.fam.clean said) hug fun x a _ op hop b hb _=>by rw [hut op hop] at hb; cases hb
  · rcases Array.mem_append.1 hop with y | y
    · simpa using hI.fam.low op y x b hx hb
    · rw [hut op y] at hx; cases hx
  · rw [Array.getElem?_setIfInBounds_ne (by omega)] at hx
    rw [Deaf_other t (g':=0) (by omega) _ hug]
    exact hL.old j x hj hx
  · rw [Deaf_other t (g':=0) (by simp at hj; omega) _ hug]
    exact hL.above j (by simpa using hj)
  · have k:=hI.kept
    have hold:=hI.old c hc hw
    refine ⟨k.os,k.output,by simpa using k.size,fun b hb=>?_⟩
    simp only
    rw [Array.getElem?_setIfInBounds_ne (by omega)]
    exact k.same b hb
theorem lone_recv (hr : g.status = .running) {c cap s r : Nat} {buf : Array Value} {closed tm ok : Bool} {z : Value} {g2 : Goroutine} (hst : ∀ w, stepG P true g w = .comm g2 #[rcase c z] true (.recv ok) w #[])
    (hc:h.obj c = some (.chan cap buf closed s r tm)) (hw:h.wr c = true) (hb:0 < buf.size) (hT:Lone P W R (h.put c (.chan cap (buf.extract 1 buf.size) closed s (r + 1) tm)) (Go.Conc.served g2 (recvd ok (buf.getD 0 undef) true))):Lone P W R h g:=by
  refine lone_comm hr hw (by simp [hc]) (fun gs w sl q t h0 hL hsat=>?_) hT
  have:=crowd_recv_buf (P:=P) (sl:=sl) (i:=0) h0 (show stepG P (0 == 0) g w = _ from hst w) (hsat _ _ hc) hb (lone_partners hL c true)
  rw [finishComm_recv] at this
  refine ⟨_,fun op hop=>?_,this⟩
  simp [ofEvents_eq] at hop
  rcases hop with rfl | rfl <;> simp [MemAct.touch?]
theorem setSame {α:Type} {a:Array α} {i:Nat} {x:α} (h:a[i]? = some x):a.setIfInBounds i x = a:=by
  apply Array.ext_getElem?
  intro j
  by_cases e:i = j
  · subst e; rw [Array.getElem?_setIfInBounds_self_of_lt (Array.getElem?_eq_some_iff.1 h).1,h]
  · rw [Array.getElem?_setIfInBounds_ne e]
theorem lone_shut (hr : g.status = .running) {c cap s r : Nat} {tm ok : Bool} {z : Value} {g2 : Goroutine} (hst : ∀ w, stepG P true g w = .comm g2 #[rcase c z] true (.recv ok) w #[])
    (hc:h.obj c = some (.chan cap #[] true s r tm)) (hw:h.wr c = true) (hT:Lone P W R (h.put c (.chan cap #[] true s r tm)) (Go.Conc.served g2 (recvd ok z false))):Lone P W R h g:=by
  refine lone_comm hr hw (by simp [hc]) (fun gs w sl q t h0 hL hsat=>?_) hT
  have:=crowd_recv_closed (P:=P) (sl:=sl) (i:=0) h0 (show stepG P (0 == 0) g w = _ from hst w) (hsat _ _ hc) (lone_partners hL c true)
  rw [finishComm_recv] at this
  have e:({ w with heap:=w.heap.setIfInBounds c (.chan cap #[] true s r tm) }:World) = w:=by rw [setSame (hsat _ _ hc)]
  rw [e]
  refine ⟨_,fun op hop=>?_,this⟩
  simp [ofEvents_eq] at hop
  subst hop
  simp [MemAct.touch?]
end
end Go.Sl

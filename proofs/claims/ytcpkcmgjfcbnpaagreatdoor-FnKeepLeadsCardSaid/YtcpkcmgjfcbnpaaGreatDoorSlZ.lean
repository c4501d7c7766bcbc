/- The fork of four workers and their join: the join. No program. -/
import Derived.Test.YtcpkcmgjfcbnpaaGreatDoorSlY
set_option linter.unusedVariables false
set_option linter.unusedSimpArgs false
set_option linter.unusedSectionVars false

namespace Go.Sl
open Go Go.Conc
open Go.ConcN (WgLive PayAt Has RW DWs AsideCell AtR0 AtK1 AtD1 AtD2 AtD3 AtD4 RelBy sumTo upd sumTo_upd upd_ne upd_same sumTo_congr WSit le_sumTo fork_knows)
open Go.ConcR (KK wgBlock WgAt stA smA rd wr Payload DC0)
section
variable {F:Fk} {T0 k0:Nat} {gs:Array Goroutine} {w:World} {t:Trace} {H:Nat→PHeap} {Cs:Nat→Nat} {vs:Nat→Value} {ws:Nat→Wk} {q:Nat→Nat} {rows:List (Nat × Value)} {wt sm:Nat}
open Classical in
noncomputable def joined (F:Fk) (k0:Nat) (w:World) (H:Nat→PHeap):PHeap:=
  ⟨fun b=>if b = F.Ch ∨ ∃ i,act k0 (k0 + 4) i∧((H i).obj b).isSome = true then w.heap[b]? else none,fun b=>F.jw b || (((H 0).obj b).isSome && (H 0).wr b),[]⟩
theorem joined_sat:Sat w (joined F k0 w H):=fun b o e=>by
  simp only [joined] at e
  split at e
  · exact e
  · cases e
theorem Core.join (K : Core F T0 k0 4 gs w t H Cs vs ws q rows 0 wt sm) (hF : F.Ok) (hall : ∀ i, i < 4 → (ws i).s = 1) (hD : Deaf t 0 = 0) {g g' : Goroutine} (sl : Option (Nat × Nat)) (hg : gs[0]? = some g)
    (hst:stepG F.P true g w = .go g' w #[Go.ConcR.mk (.acquire (stA F.Wg))]) (hL:∀ hj,Joined F (H 0) hj→Lone F.P F.W F.R hj g') :
    ∃ m' ops,runT F.P (crowd gs w sl) 0 = (.next m',ops)∧EndsOk F.P (EndPost F.W F.R) m' (t++ops):=by
  have hk1:=K.k1
  have a0:act k0 (k0 + 4) 0:=.inl rfl
  have hrun:=runT_crowd_go (P:=F.P) (sl:=sl) (i:=0) hg (show stepG F.P (0 == 0) g w = _ from hst)
  have eo:MemOp.ofEvents 0 g.frame.fn g.frame.place #[Go.ConcR.mk (.acquire (stA F.Wg))] = #[({ g:=0,fn:=g.frame.fn,pos:=g.frame.place,act:=.mark (.acquire (stA F.Wg)) }:MemOp)]:=by simp [ofEvents_eq,Go.ConcR.mk,MemAct.ofEvent]
  rw [eo] at hrun
  generalize hx:({ g:=0,fn:=g.frame.fn,pos:=g.frame.place,act:=.mark (.acquire (stA F.Wg)) }:MemOp) = x at hrun
  have hx1:x.g = 0∧x.act = .mark (.acquire (stA F.Wg)):=by subst hx; exact ⟨rfl,rfl⟩
  have hut:∀ op ∈ (#[x]:Trace),op.act.touch? = none:=by intro op hop; simp at hop; subst hop; rw [hx1.2]; rfl
  have hug:∀ op ∈ (#[x]:Trace),op.g = 0:=by intro op hop; simp at hop; subst hop; exact hx1.1
  have hud:∀ m,Deaf (t++#[x]) m = Deaf t m:=fun m=>by
    rw [show (t++#[x]) = t++([x]:List MemOp).toArray from rfl,Deaf_append]
    simp [deafStep,hx1.2]
  have hq:(t++#[x])[t.size]? = some x:=by rw [Array.getElem?_append_right (Nat.le_refl _)]; simp
  have old:∀ {z:Nat} {a:Touch},touchAt (t++#[x]) z = some a→z < t.size∧touchAt t z = some a:=by
    intro z a ha
    obtain ⟨op,ho,hoa⟩:=touch_of ha
    rcases getElem?_append_cases ho with ⟨hlt,ho'⟩ | ⟨_,hou⟩
    · exact ⟨hlt,by rw [touchAt_of ho']; exact hoa⟩
    · rw [hut op hou] at hoa; cases hoa
  have hoff:∀ i,i < 4→∃ gi m,ws i = .sit 1 m∧gs[k0 + i]? = some gi∧QuitsD F.P m (Deaf t (k0 + i)) gi∧(H (k0 + i)).gh = [1]∧RelD F T0 t (k0 + i):=by
    intro i hi
    obtain ⟨gi,h1,h2⟩:=K.wk i hi
    have hs:=hall i hi
    cases hk:ws i with
    | bd r=>rw [hk] at hs; cases hs
    | sit s m=>
      rw [hk] at hs h2
      obtain rfl:s = 1:=hs
      obtain ⟨b1,b2,b3,b4,b5⟩:=h2
      refine ⟨gi,m,rfl,h1,?_,b2,b4 (by decide)⟩
      generalize hd:Deaf t (k0 + i) = d at b1
      cases b1 with
      | quit h=>exact h
  have edge:∀ i r,i < 4→T0 ≤ r→RelBy (stA F.Wg) t (k0 + i) r→HappensBefore (t++#[x]) r t.size:=by
    intro i r hi hT hR
    have hr:r < t.size:=lt_of_act? hR.act
    refine .single (.inr ⟨.marked hr (.inr (by rw [act?_old hr]; exact hR.act)) (by rw [act?_of hq,hx1.2]) (fun k h1 h2=>?_),(heard_old hr).2 hR.heard,⟨0,by rw [g?_of hq,hx1.1],by rw [deaf_old (Nat.le_refl _)]; exact hD⟩⟩)
    rw [act?_old h2]
    exact K.tr.norel k (by omega)
  have toMain:∀ z n,k0 ≤ n→n < k0 + 4→t.g? z = some n→(∀ r,RelBy (stA F.Wg) t n r→(∀ x,r < x→t.g? x = some n→∀ a,touchAt t x = some a→blk a.loc = some F.Wg)→z ≤ r)→HappensBefore (t++#[x]) z t.size:=by
    intro z n h1 h2 hz hle
    obtain ⟨_,_,_,_,_,_,r,hT,hR,haf⟩:=hoff (n - k0) (by omega)
    rw [show k0 + (n - k0) = n by omega] at hR haf
    have hr:r < t.size:=lt_of_act? hR.act
    have e1:=edge (n - k0) r (by omega) hT (by rw [show k0 + (n - k0) = n by omega]; exact hR)
    rcases Nat.lt_or_ge z r with hlt | hge
    · exact .trans (.single (.inl ⟨hlt,n,by rw [g?_old (lt_of_g? hz)]; exact hz,by rw [g?_old hr]; exact hR.g⟩)) e1
    · obtain rfl:z = r:=by have:=hle r hR haf; omega
      exact e1
  refine ⟨_,_,hrun,hL (joined F k0 w H) ⟨rfl,fun b o hb=>?_,fun _=>rfl,(K.hold.no 0 a0).2,?_⟩ rfl _ _ _ _ (K.at' hg _ _) ⟨⟨fun i _=>joined_sat,fun i j hi hj hij=>absurd (hi.trans hj.symm) hij,fun i hi z a b hz hb hs hwr=>?_,fun said=>?_,fun op hop z b hz hb=>?_⟩,⟨fun n=>if n < k0 then q n else match ws (n - k0) with | .sit _ m=>m | .bd _=>0,fun n gn hn hgn=>?_,fun m hm=>?_⟩,fun z n hz hn hc=>?_,by rw [hud]; exact hD,K.hold.kept,fun b hb hwb=>?_⟩⟩
  · simp only [joined]
    rw [if_pos (.inr ⟨0,a0,by simp [hb]⟩)]
    exact K.fam.sat 0 a0 b o hb
  · have hperm : (rows.map Prod.fst).Perm [0, 1, 2, 3] := by
      refine (List.perm_ext_iff_of_nodup K.rows.nd (by decide)).2 fun a=>⟨fun ha=>?_,fun ha=>?_⟩
      · obtain ⟨y,hy,rfl⟩:=List.mem_map.1 ha
        have:=(K.rows.row y hy).1
        have h:y.1 = 0 ∨ y.1 = 1 ∨ y.1 = 2 ∨ y.1 = 3:=by omega
        simpa using h
      · have hlt:a < 4:=by simp at ha; omega
        obtain ⟨_,_,_,_,_,hgh,_⟩:=hoff a hlt
        exact K.rows.all a hlt hgh
    have hlen:rows.length = 4:=by simpa using hperm.length_eq
    refine ⟨rows,hperm,?_,fun y hy=>?_⟩
    · simp only [joined,true_or,if_true]
      rw [← hlen]
      have:=K.rows.ch
      rw [hlen] at this ⊢
      exact this
    · obtain ⟨r1,r2,S,r3,r4⟩:=K.rows.row y hy
      refine ⟨S,fun b o hb=>?_,r4⟩
      have h1:=(r3 b o hb).1
      have ha:act k0 (k0 + 4) (k0 + y.1):=.inr ⟨by omega,by omega⟩
      refine ⟨?_,fun e=>(by rw [e,(K.hold.no _ ha).2] at h1; cases h1),fun h2=>?_⟩
      · simp only [joined]
        rw [if_pos (.inr ⟨_,ha,by simp [h1]⟩)]
        exact K.fam.sat _ ha b o h1
      · cases e:(H 0).wr b with
        | false=>rfl
        | true=>
          have:=K.fam.dis 0 (k0 + y.1) a0 ha (by omega) b h2 e
          rw [this] at h1; cases h1
  · subst hi
    obtain ⟨hlt,hz'⟩:=old hz
    by_cases hbc:b = F.Ch
    · subst hbc; exact (K.tr.ct z a hz' hb).app _
    · have hh : ∃ i, act k0 (k0 + 4) i ∧ ((H i).obj b).isSome = true := by
        simp only [joined] at hs
        split at hs
        · rename_i h; exact h.resolve_left hbc
        · cases hs
      have hcase:(a.write = true ∨ F.jw b = true) ∨ (((H 0).obj b).isSome = true∧(H 0).wr b = true):=by
        rcases hwr with y | y
        · exact .inl (.inl y)
        · simp only [joined,Bool.or_eq_true,Bool.and_eq_true] at y
          exact y.elim (fun y=>.inl (.inr y)) .inr
      rcases hcase with hwr | ⟨y1,y2⟩
      case inr=>exact (K.fam.know 0 a0 z a b hz' hb y1 (.inr y2)).app _
      rcases K.tr.Q z a b hz' hb hh hwr with h | ⟨n,n1,n2,n3⟩
      · exact h.app _
      · refine ⟨t.size,x,hq,hx1.1,.inr (toMain z n n1 n2 n3 fun r hR haf=>Nat.le_of_not_lt fun hlt=>?_)⟩
        obtain ⟨i,hi,hs'⟩:=hh
        have:=haf z hlt n3 a hz'
        rw [hb] at this
        rw [Option.some.inj this,(K.hold.no i hi).1] at hs'
        cases hs'
  · exact noRace_append (K.fam.clean said) hug fun i a _ op hop b hb _=>by rw [hut op hop] at hb; cases hb
  · rcases Array.mem_append.1 hop with h | h
    · exact K.fam.low op h z b hz hb
    · rw [hut op h] at hz; cases hz
  · rw [K.others _ _ _ _ n hn (by omega)] at hgn
    rw [hud]
    split
    · rename_i h; exact K.leav n gn hn h hgn
    · rename_i h
      have hlt:=(Array.getElem?_eq_some_iff.1 hgn).1
      have hs:=K.sz
      obtain ⟨gi,m,h1,h2,h3,_⟩:=hoff (n - k0) (by omega)
      rw [show k0 + (n - k0) = n by omega] at h2 h3
      rw [hgn] at h2
      obtain rfl:=Option.some.inj h2
      rw [h1]
      exact h3
  · rw [hud]
    refine K.above m ?_
    have hs:=K.sz
    simp at hm
    omega
  · obtain ⟨a,ha,_⟩:=id hc
    have hlt:=(old ha).1
    rw [g?_old hlt] at hz
    rcases K.tr.ho z n hz hn ((counts_old hlt).1 hc) with ⟨y,h1,h2⟩ | ⟨h1,h2⟩
    · exact ⟨y,by rw [g?_old (lt_of_g? h1)]; exact h1,hb_app _ h2⟩
    · exact ⟨t.size,by rw [g?_of hq,hx1.1],toMain z n h1 h2 hz fun r hR _=>Nat.le_of_not_lt fun hr=>hR.after z hr hz ((counts_old hlt).1 hc)⟩
  · simp only [joined] at hb hwb
    split at hb
    · rename_i h
      rw [Bool.or_eq_true,Bool.and_eq_true] at hwb
      rcases hwb with hwb | ⟨y1,y2⟩
      case inr=>exact K.hold.old 0 a0 b y1 y2
      unfold Fk.jw at hwb
      split at hwb
      · rename_i h2; exact hF.h0 b h2 hwb
      · rename_i h2
        rcases h with rfl | ⟨i,hi,hs⟩
        · exact hF.ch
        · exact (K.hold.new i hi b hs).resolve_left h2
    · cases hb
end
end Go.Sl

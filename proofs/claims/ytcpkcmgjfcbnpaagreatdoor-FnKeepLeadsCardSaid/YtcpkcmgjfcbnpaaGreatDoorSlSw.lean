/- From 'alone' to the fork's phase and back, inside a function's code. No program. -/
import Derived.Test.YtcpkcmgjfcbnpaaGreatDoorSlFk
import Derived.Test.YtcpkcmgjfcbnpaaGreatDoorLibA
set_option linter.unusedVariables false
set_option linter.unusedSimpArgs false
set_option linter.unusedSectionVars false

namespace Go.Sl
open Go Go.Conc
open Go.ConcR (wgBlock)
def beyond (h0 S:PHeap):PHeap:=⟨fun b=>if (h0.obj b).isSome then none else S.obj b,fun _=>false,[]⟩
def mkFk (P:Program) (W:World) (R:Value→Prop) (Wg Ch:Nat) (ty it:TypeId) (h0:PHeap) (RowB:Nat→Value→PHeap→Prop) (hRB:∀ i v h h',(∀ b o,h.obj b = some o→h'.obj b = some o)→RowB i v h→RowB i v h'):Fk:=
  { P, W, R, Wg, Ch, ty, it, h0, Row := fun i v S => RowB i v (beyond h0 S), row_mono := fun i v h h' hh x => hRB i v _ _ (fun b o e => by
      simp only [beyond] at e ⊢
      split at e
      · cases e
      · rename_i hn; rw [if_neg hn]; exact hh b o e) x }
def less2 (H:PHeap) (a b:Nat):PHeap:=⟨fun x=>if x = a ∨ x = b then none else H.obj x,H.wr,[]⟩
section
variable {P:Program} {W:World} {RR:Value→Prop} {n:Nat} {Q:Qo} {L:Locals} {O R:Own} {h:PHeap} {c c1 c2 c3:Code} {Wg Ch:Nat} {ty it:TypeId}
theorem so_fork (RowB : Nat → Value → PHeap → Prop) (hRB : ∀ i v h h', (∀ b o, h.obj b = some o → h'.obj b = some o) → RowB i v h → RowB i v h') (K : Locals → Prop)
    (hp:O.Perm ((Wg,wgBlock ty 0 0) :: (Ch,.chan 4 #[] false 0 0 false) :: R))
    (walk:∀ H0:PHeap,h ≤ H0→(∀ b o,(b,o) ∈ R→H0.obj b = some o)→H0.obj Wg = none→H0.obj Ch = none →
      c1.sl P (· = JM (mkFk P W RR Wg Ch ty it H0 RowB hRB)) n (fun e L1 h1=>match e with
        | .nrm=>c2.sl P (· = JM (mkFk P W RR Wg Ch ty it H0 RowB hRB)) n (fun e L' h'=>match e with | .nrm=>h'.gh = [10]∧(∀ b o,H0.obj b = some o→h'.obj b = some o∧h'.wr b = false)∧K L' | _=>False) L1 h1
        | _=>False) L (ro H0 [0,0]))
    (k:∀ L' h2 (rows:List (Nat × Value)),Le h h2→K L'→(rows.map Prod.fst).Perm [0,1,2,3]→(∀ x ∈ rows,RowB x.1 x.2 h2)→c3.so P (· = Lone P W RR) n Q L' ((Ch,.chan 4 (rows.map Prod.snd).toArray false 4 0 false) :: R) h2) :
    (Code.seq c1 (Code.seq c2 c3)).so P (· = Lone P W RR) n Q L O h:=by
  intro F0 H r0 J hJ b kk cs ds tm hb ha he
  subst hJ
  have r:=r0.perm hp.symm
  by_cases hgh:H.gh = []
  case neg=>exact fun e=>absurd e hgh
  have own:=r.own
  obtain ⟨w1,w2,w3,w4⟩:=own Wg (wgBlock ty 0 0) (by simp)
  obtain ⟨y1,y2,y3,y4⟩:=own Ch (.chan 4 #[] false 0 0 false) (by simp)
  have hnd:=r.nd
  simp only [List.map_cons,List.nodup_cons,List.mem_cons,not_or] at hnd
  obtain ⟨⟨hne,hWR⟩,hCR,hRnd⟩:=hnd
  have H0:∀ x,x ≠ Wg→x ≠ Ch→(less2 H Wg Ch).obj x = H.obj x:=fun x h1 h2=>by simp only [less2]; rw [if_neg (by simp [h1,h2])]
  have H0s:∀ x o,(less2 H Wg Ch).obj x = some o→H.obj x = some o∧x ≠ Wg∧x ≠ Ch:=fun x o e=>by
    simp only [less2] at e
    split at e
    · cases e
    · rename_i hn; exact ⟨e,fun z=>hn (.inl z),fun z=>hn (.inr z)⟩
  have hR:∀ x o,(x,o) ∈ R→(less2 H Wg Ch).obj x = some o:=fun x o m=>by
    rw [H0 x (fun e=>hWR (List.mem_map.2 ⟨_,m,e⟩)) (fun e=>hCR (List.mem_map.2 ⟨_,m,e⟩))]
    exact (own x o (by simp [m])).1
  have hbase:∀ x o,h.obj x = some o→x ≠ Wg∧x ≠ Ch∧(less2 H Wg Ch).obj x = some o∧H.wr x = h.wr x:=fun x o e=>by
    have h1:x ≠ Wg:=fun z=>by rw [z,w4] at e; cases e
    have h2:x ≠ Ch:=fun z=>by rw [z,y4] at e; cases e
    obtain ⟨h3,h4⟩:=r.base x o e
    exact ⟨h1,h2,by rw [H0 x h1 h2]; exact h3,h4⟩
  have hfr:∀ x o,F0.obj x = some o→x ≠ Wg∧x ≠ Ch∧(less2 H Wg Ch).obj x = some o∧H.wr x = F0.wr x:=fun x o e=>by
    have h1:x ≠ Wg:=fun z=>by rw [z,w3] at e; cases e
    have h2:x ≠ Ch:=fun z=>by rw [z,y3] at e; cases e
    obtain ⟨h3,h4⟩:=r.fr x o e
    exact ⟨h1,h2,by rw [H0 x h1 h2]; exact h3,h4⟩
  have hwalk:=walk (less2 H Wg Ch) (fun x o e=>by obtain ⟨_,_,h3,h4⟩:=hbase x o e; exact ⟨h3,h4⟩) hR (by simp [less2]) (by simp [less2])
  have hop:Opens (mkFk P W RR Wg Ch ty it (less2 H Wg Ch) RowB hRB) H:=⟨hgh,w1,w2,y1,y2,fun x h1 h2=>⟨H0 x h1 h2,rfl⟩,by simp [mkFk,less2],by simp [mkFk,less2]⟩
  have hjm:JM (mkFk P W RR Wg Ch ty it (less2 H Wg Ch) RowB hRB) (ro (less2 H Wg Ch) [0,0]) (G (b.at ⟨tm,ds⟩ (.code (.seq c1 (.seq c2 c3)) :: kk)) cs):=by
    have Qu:∀ {g g':Goroutine} {h:PHeap},g.status = .running→(∀ main w,stepG P main g w = .go g' w)→JM (mkFk P W RR Wg Ch ty it (less2 H Wg Ch) RowB hRB) h g'→JM (mkFk P W RR Wg Ch ty it (less2 H Wg Ch) RowB hRB) h g:=fun {g g' h} hr hs x=>quiet (P:=(mkFk P W RR Wg Ch ty it (less2 H Wg Ch) RowB hRB).P) (M:=(· = JM (mkFk P W RR Wg Ch ty it (less2 H Wg Ch) RowB hRB))) rfl hr hs x
    refine Qu rfl (fun _ _=>stepG_seq) (hwalk _ rfl b (.code (.seq c2 c3) :: kk) cs ds tm hb ha ?_)
    intro e1 L1 h1 tm1 q1 ha1
    cases e1 with
    | ret=>exact q1.elim
    | exit _=>exact q1.elim
    | pan _=>exact q1.elim
    | nrm=>
    refine Qu rfl (fun _ _=>stepG_seq) (q1 _ rfl b (.code c3 :: kk) cs ds tm1 hb ha1 ?_)
    intro e L' h' tm' q ha'
    cases e with
    | nrm=>
      obtain ⟨q1,q2,q3⟩:=q
      refine ⟨fun _ hj J=>?_,fun x=>absurd q1 x⟩
      obtain ⟨rows,j1,j2,j3⟩:=J.rows
      have jobj:∀ x o,(less2 H Wg Ch).obj x = some o→hj.obj x = some o∧hj.wr x = H.wr x:=fun x o e=>by
        refine ⟨J.obj x o (q2 x o e).1,?_⟩
        rw [J.wr,(q2 x o e).2]
        have e2:((mkFk P W RR Wg Ch ty it (less2 H Wg Ch) RowB hRB).h0.obj x) = some o:=e
        simp only [Fk.jw,e2,Option.isSome_some,if_true,Bool.and_false,Bool.or_false]
        rfl
      let O':Own:=(Ch,.chan 4 (rows.map Prod.snd).toArray false 4 0 false) :: R
      let h2:PHeap:=⟨fun x=>if x ∈ O'.map Prod.fst ∨ ((F0.obj x).isSome = true∧h.obj x = none) then none else hj.obj x,hj.wr,[]⟩
      have h2sub:∀ x o,h2.obj x = some o→hj.obj x = some o:=fun x o e=>by
        simp only [h2] at e; split at e
        · cases e
        · exact e
      have hfst:∀ x,x ∈ O'.map Prod.fst→h.obj x = none∧F0.obj x = none:=fun x hx=>by
        obtain ⟨⟨y,o⟩,m,rfl⟩:=List.mem_map.1 hx
        rcases List.mem_cons.1 m with e | m
        · cases e; exact ⟨y4,y3⟩
        · exact ⟨(own y o (by simp [m])).2.2.2,(own y o (by simp [m])).2.2.1⟩
      have hh2:∀ x o,h.obj x = some o→h2.obj x = some o∧h2.wr x = h.wr x:=fun x o e=>by
        obtain ⟨h1,h3,h4,h5⟩:=hbase x o e
        obtain ⟨h6,h7⟩:=jobj x o h4
        refine ⟨?_,h7.trans h5⟩
        simp only [h2]
        rw [if_neg]
        · exact h6
        · rintro (z | ⟨_,z⟩)
          · rw [(hfst x z).1] at e; cases e
          · rw [z] at e; cases e
      have hgh2:h2.gh = h.gh:=(show ([]:List Nat) = h.gh by rw [← hgh,r.gh])
      have hup:Up F0 h h2:=⟨hh2,fun x hx=>by
        by_cases e1:h.obj x = none
        · refine .inr ?_
          cases e2:F0.obj x with
          | none=>rfl
          | some o=>
            simp only [h2] at hx
            rw [if_pos (.inr ⟨by simp [e2],e1⟩)] at hx
            cases hx
        · exact .inl (Option.isSome_iff_ne_none.2 e1),hgh2⟩
      have hrel:Rel F0 h2 O' hj:=by
        refine ⟨fun x o e=>?_,fun x o e=>⟨h2sub x o e,rfl⟩,fun x o m=>?_,?_,J.gh⟩
        · obtain ⟨_,_,h4,h5⟩:=hfr x o e
          obtain ⟨h6,h7⟩:=jobj x o h4
          exact ⟨h6,h7.trans h5⟩
        · have hm:x ∈ O'.map Prod.fst:=List.mem_map.2 ⟨_,m,rfl⟩
          have hn2:h2.obj x = none:=by simp only [h2]; rw [if_pos (.inl hm)]
          have hF:=(hfst x hm).2
          rcases List.mem_cons.1 m with e | m
          · cases e
            refine ⟨j2,?_,hF,hn2⟩
            rw [J.wr]
            have e2:((mkFk P W RR Wg Ch ty it (less2 H Wg Ch) RowB hRB).h0.obj Ch) = none:=by simp [mkFk,less2]
            simp [Fk.jw,e2]
          · obtain ⟨h6,h7⟩:=jobj x o (hR x o m)
            exact ⟨h6,h7.trans (own x o (by simp [m])).2.1,hF,hn2⟩
        · simp only [O',List.map_cons,List.nodup_cons]; exact ⟨hCR,hRnd⟩
      refine (k L' h2 rows ⟨hup.le,hup.gh⟩ q3 j1 fun x hx=>?_) F0 hj hrel _ rfl b kk cs ds tm' hb ha' (he.mono fun e L h z=>liftQ_up hup z)
      obtain ⟨S,s1,s2⟩:=j3 x hx
      refine hRB _ _ _ _ (fun y o e=>?_) s2
      simp only [beyond] at e
      split at e
      · cases e
      · rename_i hn
        have hn':(less2 H Wg Ch).obj y = none:=by
          cases z:(less2 H Wg Ch).obj y with
          | none=>rfl
          | some u=>exact absurd (by simp [mkFk,z]) hn
        obtain ⟨t1,t2,_⟩:=s1 y o e
        simp only [h2]
        rw [if_neg]
        · exact t1
        · rintro (z | ⟨z,_⟩)
          · obtain ⟨⟨y',o'⟩,m,rfl⟩:=List.mem_map.1 z
            rcases List.mem_cons.1 m with e | m
            · cases e; exact t2 rfl
            · rw [hR y' o' m] at hn'; cases hn'
          · obtain ⟨o',ho'⟩:=Option.isSome_iff_exists.1 z
            rw [(hfr y o' ho').2.2.1] at hn'; cases hn'
    | _=>exact q.elim
  obtain ⟨rk,hT⟩:=hjm.2 (by simp [ro])
  exact lone_fork hop hT
end
end Go.Sl

/- Rules of a calculus of our own, no program: SpQ SpR SpW SpU SpV SpVc SpL SpM. -/
import Derived.Test.YtcpkcmgjfcbnpaaGreatDoorLibE
set_option linter.unusedVariables false
set_option linter.unusedSimpArgs false
set_option linter.unusedSectionVars false
namespace Go.Sl
theorem natsI_snoc (ks:List Nat) (k:Nat):natsI (ks++[k]) = natsI ks++[(k:Int)]:=by simp [natsI]
theorem natsI_len (ks:List Nat):(natsI ks).length = ks.length:=by simp [natsI]
theorem natsI_at {ks:List Nat} {j:Nat} (h:j < ks.length):gt (natsI ks) j = ((gt ks j:Nat):Int):=by
  rw [gt_eq (by rw [natsI_len]; exact h),gt_eq h]; simp [natsI]
theorem manyOf_put (g:Grid) (e:Edit):manyOf (putCell g e) = manyOf g:=by simp [manyOf,rowsOf,putCell]
theorem mem_touched {feet:List (List Int)} {a:Int} {k:Nat} (h:k < feet.length):k ∈ touched feet a ↔ a ∈ gt feet k:=by simp [touched,touchTo,h]
theorem editsOk_one (g:Grid) (e:Edit):editsOk g [e] = editOk g e:=by simp [editsOk]
theorem feetOf_asc {g:Grid} {k:Nat} (h:k < (feetOf g).length):Asc (gt (feetOf g) k):=by
  rw [gt_eq h]
  simp only [feetOf,List.getElem_map]
  unfold footOf
  exact footIs_asc _ _
theorem feetOf_nodup {g:Grid} {k:Nat} (h:k < (feetOf g).length):(gt (feetOf g) k).Nodup:=(feetOf_asc h).imp fun h=>by omega
theorem heard_up {p:Painter} {w:Word} (h:p.up = false):paintHeard p w = p:=by simp [paintHeard,h]
theorem heard1 {p:Painter} {w:Word} (h:p.up = true) (k:w.kind = 1):paintHeard p w = if (0 ≤ w.ver∧w.ver ≤ 60)∧(p.has = true→p.ver < w.ver)∧gridOk w.grid = true then ⟨true,true,w.ver,sceneOf w.grid⟩ else p:=by simp [paintHeard,h,k]
theorem heard2 {p:Painter} {w:Word} (h:p.up = true) (k:w.kind = 2):paintHeard p w = if p.has = true∧w.ver = p.ver + 1∧w.ver ≤ 60∧editOk p.scene.grid w.edit = true then ⟨true,true,w.ver,editScene p.scene w.edit⟩ else p:=by simp [paintHeard,h,k]
theorem heard0 {p:Painter} {w:Word} (k:¬ w.kind = 1) (k2:¬ w.kind = 2):paintHeard p w = p:=by simp [paintHeard,k,k2]
def rightWord (k:Keeper) (x:Word):Word:=
  if x.kind = 1 then ⟨1,x.to,0,x.ver,gridAt k x.ver,noEdit,[]⟩
  else if x.kind = 2 then ⟨2,x.to,0,x.ver,noGrid,gt k.edits (x.ver - 1).toNat,[]⟩
  else if x.kind = 3 then ⟨3,0,x.frm,x.ver,noGrid,noEdit,partLights k x.frm.toNat x.ver⟩
  else ⟨4,0,x.frm,0,noGrid,noEdit,[]⟩
def wordWho (x:Word):Int:=if x.kind = 1 ∨ x.kind = 2 then x.to else x.frm
def wordTrue (k:Keeper) (x:Word):Bool:=
  verOk k x.ver && (decide (1 ≤ x.kind) && decide (x.kind ≤ 4)) && !(decide (x.kind = 2) && decide (x.ver = 0)) && idOk (wordWho x) k.parts.length && decide (x = rightWord k x)
def painterTrue (k:Keeper) (p:Painter):Bool:=verOk k p.ver && paintOk p && (!p.has || decide (p.scene.grid = gridAt k p.ver))
theorem wordTrue1 {k:Keeper} {x:Word} (h:x.kind = 1):wordTrue k x = (verOk k x.ver && idOk x.to k.parts.length && decide (x = ⟨1,x.to,0,x.ver,gridAt k x.ver,noEdit,[]⟩)):=by simp [wordTrue,wordWho,rightWord,h]
theorem wordTrue2 {k:Keeper} {x:Word} (h:x.kind = 2):wordTrue k x = (verOk k x.ver && !(decide (x.ver = 0)) && idOk x.to k.parts.length && decide (x = ⟨2,x.to,0,x.ver,noGrid,gt k.edits (x.ver - 1).toNat,[]⟩)):=by simp [wordTrue,wordWho,rightWord,h]
theorem wordTrue3 {k:Keeper} {x:Word} (h:x.kind = 3):wordTrue k x = (verOk k x.ver && idOk x.frm k.parts.length && decide (x = ⟨3,0,x.frm,x.ver,noGrid,noEdit,partLights k x.frm.toNat x.ver⟩)):=by simp [wordTrue,wordWho,rightWord,h]
theorem wordTrue4 {k:Keeper} {x:Word} (h:x.kind = 4):wordTrue k x = (verOk k x.ver && idOk x.frm k.parts.length && decide (x = ⟨4,0,x.frm,0,noGrid,noEdit,[]⟩)):=by simp [wordTrue,wordWho,rightWord,h]
theorem nextAt_same {g g':Grid} (h1:g'.wide = g.wide) (h2:g'.cells.length = g.cells.length) (a d:Int):nextAt g' a d = nextAt g a d:=by unfold nextAt; rw [h1,h2]
theorem rayAt_same {g g':Grid} (h1:g'.wide = g.wide) (h2:g'.cells.length = g.cells.length) (k:Int):rayAt g' k = rayAt g k:=by unfold rayAt rowsOf; rw [h1,h2]
theorem nextAt_put (g:Grid) (e:Edit) (a d:Int):nextAt (putCell g e) a d = nextAt g a d:=nextAt_same (g:=g) (g':=putCell g e) rfl (by simp [putCell]) a d
theorem rayAt_put (g:Grid) (e:Edit) (k:Int):rayAt (putCell g e) k = rayAt g k:=rayAt_same (g:=g) (g':=putCell g e) rfl (by simp [putCell]) k
theorem sightOf_put (g:Grid) (e:Edit) (a d:Int):sightOf (putCell g e) a d = sightOf g a d:=by
  unfold sightOf; rw [manyOf_put]; simp only [rayAt_put]
theorem cell_put {g:Grid} {e:Edit} {a:Int} (h0:0 ≤ a) (h1:a < g.cells.length) (he:0 ≤ e.at') (h:a ≠ e.at'):gt (putCell g e).cells a.toNat = gt g.cells a.toNat:=by
  rw [gt_eq (by simp [putCell]; omega),gt_eq (by omega)]
  simp only [putCell,List.getElem_set]
  rw [if_neg (by omega)]
theorem leaveF_put {g:Grid} {e:Edit} {f f':Int→Int→Int→Option Lit} {a d w:Int} (h:∀ b,nextAt g a d = some b→w ≠ 0→f' b d w = f b d w):leaveF (putCell g e) f' a d w = leaveF g f a d w:=by
  unfold leaveF
  split
  · rfl
  · rename_i hw
    rw [nextAt_put,sightOf_put]
    cases hn:nextAt g a d with
    | none=>rfl
    | some b=>exact h b hn hw
theorem comeF_put {g:Grid} {R:Int} (k:Gok g R) {e:Edit} (he:0 ≤ e.at'):∀ (n:Nat) (a d w:Int) (r:Lit),0 ≤ a→a < g.cells.length→comeF g n a d w = some r→(∀ v ∈ r.2.1,v.at' ≠ e.at')→comeF (putCell g e) n a d w = some r
  | 0,_,_,_,_,_,_,h,_=>by cases h
  | n + 1,a,d,w,r,h0,h1,h,hv=>by
    obtain ⟨n1,v1,e1,n2,v2,e2,q1,q2,rfl⟩:=comeF_inv h
    have ha:a ≠ e.at':=hv ⟨a,d,w⟩ (by simp)
    have hc:=cell_put h0 h1 he ha
    have go:∀ (d' w':Int) (m:Nat) (v:List Visit) (es:List LEnd),leaveF g (comeF g n) a d' w' = some (m,v,es)→(∀ x ∈ v,x.at' ≠ e.at')→leaveF (putCell g e) (comeF (putCell g e) n) a d' w' = some (m,v,es):=by
      intro d' w' m v es q hx
      rw [← q]
      refine leaveF_put fun b hb hw=>?_
      have hb':=nextAt_ok k h0 h1 hb
      have q':comeF g n b d' w' = some (m,v,es):=by
        unfold leaveF at q
        rw [if_neg hw,hb] at q
        exact q
      rw [q',comeF_put k he n b d' w' (m,v,es) hb'.1 hb'.2 q' hx]
    have:=comeF_eq (g:=putCell g e) (n:=n) (a:=a) (dir:=d) (w:=w) (by rw [hc]; exact go _ _ _ _ _ q1 fun x hx=>hv x (by simp [hx])) (by rw [hc]; exact go _ _ _ _ _ q2 fun x hx=>hv x (by simp [hx]))
    rw [this]
    unfold hereF
    rw [hc]
theorem ends_in {g:Grid}:∀ (n:Nat) (a d w:Int) (r:Lit),comeF g n a d w = some r→∀ x ∈ r.2.2,x.kind ≠ 0→∃ v ∈ r.2.1,v.at' = x.where'
  | 0,_,_,_,_,h=>by cases h
  | n + 1,a,d,w,r,h=>by
    obtain ⟨n1,v1,e1,n2,v2,e2,q1,q2,rfl⟩:=comeF_inv h
    have go:∀ (d' w':Int) (m:Nat) (v:List Visit) (es:List LEnd),leaveF g (comeF g n) a d' w' = some (m,v,es)→∀ x ∈ es,x.kind ≠ 0→∃ y ∈ v,y.at' = x.where':=by
      intro d' w' m v es q x hx hk
      unfold leaveF at q
      split at q
      · cases q; cases hx
      · split at q
        · cases q; simp at hx; subst hx; exact absurd rfl hk
        · exact ends_in n _ _ _ _ q x hx hk
    intro x hx hk
    simp only at hx ⊢
    rcases List.mem_append.1 hx with hx | hx
    · refine ⟨⟨a,d,w⟩,by simp,?_⟩
      unfold hereF endIf at hx
      rcases List.mem_append.1 hx with hx | hx <;> split at hx <;> simp at hx <;> subst hx <;> rfl
    · rcases List.mem_append.1 hx with hx | hx
      · obtain ⟨y,hy,e⟩:=go _ _ _ _ _ q1 x hx hk; exact ⟨y,by simp [hy],e⟩
      · obtain ⟨y,hy,e⟩:=go _ _ _ _ _ q2 x hx hk; exact ⟨y,by simp [hy],e⟩
theorem goLight_put {g:Grid} (hg:gridOk g = true) {e:Edit} (he:0 ≤ e.at') {j:Int} (h0:0 ≤ j) (h1:j < manyOf g) (hn:e.at' ∉ footOf g j):goLight (putCell g e) j = goLight g j∧trailLight (putCell g e) j = trailLight g j:=by
  have k:=gok hg
  obtain ⟨sz,v,es,q1,q2,_,ok⟩:=goLight_is k h0 h1
  obtain ⟨⟨⟨a0,a1⟩,_⟩,_⟩:=fresh_ray k h0 h1
  have hv:∀ x ∈ v,x.at' ≠ e.at':=fun x hx hxe=>by
    apply hn
    unfold footOf
    rw [q2,footIs_mem g v fun y hy=>⟨(ok.vs y hy).a0,(ok.vs y hy).a1⟩]
    exact List.mem_map.2 ⟨x,hx,hxe⟩
  have q3:=comeF_put k he _ _ _ _ _ a0 a1 q1 hv
  have e1:goLight (putCell g e) j = (v,es):=by
    unfold goLight; rw [rayAt_put]; simp only [] at q3; rw [q3]
  refine ⟨by rw [e1,q2],?_⟩
  unfold trailLight
  rw [e1,q2]
  unfold lightOf
  have:∀ l:List LEnd,(∀ x ∈ l,x ∈ es)→sumF (endLight (putCell g e)) l = sumF (endLight g) l:=by
    intro l
    induction l with
    | nil=>intro _; rfl
    | cons x l ih=>
      intro hl
      simp only [sumF]
      rw [ih fun y hy=>hl y (by simp [hy])]
      congr 1
      unfold endLight
      split
      · rename_i hk
        have hx:x ∈ es:=hl x (by simp)
        obtain ⟨y,hy,ey⟩:=ends_in _ _ _ _ _ q1 x hx (by omega)
        have hb:=(ok.es x hx).cell (by omega)
        rw [cell_put hb.1 hb.2 he (by rw [← ey]; exact hv y hy)]
      · rfl
  exact this es fun x hx=>hx
theorem look_at {α:Type} [Inhabited α] (f:Nat→α):∀ (ks:List Nat) (l:List α) (j:Nat),j < l.length→gt (ks.foldl (fun l k=>l.set k (f k)) l) j = if j ∈ ks then f j else gt l j
  | [],l,j,h=>by simp
  | k :: ks,l,j,h=>by
    simp only [List.foldl_cons]
    rw [look_at f ks (l.set k (f k)) j (by simpa using h)]
    by_cases hj:j ∈ ks
    · rw [if_pos hj,if_pos (by simp [hj])]
    · rw [if_neg hj,gt_eq (by simpa using h),gt_eq h,List.getElem_set]
      by_cases hk:k = j
      · subst hk; rw [if_pos rfl,if_pos (by simp)]
      · rw [if_neg hk,if_neg (by simp [hj]; omega)]
theorem ext_gt {α:Type} [Inhabited α] {xs ys:List α} (h:xs.length = ys.length) (h2:∀ j,j < xs.length→gt xs j = gt ys j):xs = ys:=by
  refine List.ext_getElem h fun j h1 h3=>?_
  have:=h2 j h1
  rwa [gt_eq h1,gt_eq h3] at this
theorem editScene_is {s:Scene} (hs:sceneOk s = true) {e:Edit} (he:editOk s.grid e = true):editScene s e = sceneOf (putCell s.grid e):=by
  obtain ⟨hg,hs2⟩:=sceneOk_is hs
  obtain ⟨_,e0,e1⟩:=editOk_is he
  have hm:=(gok hg).many
  generalize hgg:s.grid = g at hg hs2 he e1 hm ⊢
  have e2:s.lights = picOf g:=by rw [hs2]; rfl
  have e3:s.feet = feetOf g:=by rw [hs2]; rfl
  unfold editScene sceneOf
  rw [e2,e3,hgg]
  have l1:=picOf_len g
  have l2:=feetOf_len g
  have key:∀ j:Nat,j < (manyOf g).toNat→(j ∈ touched (feetOf g) e.at' ↔ e.at' ∈ footOf g j):=fun j hj=>by
    rw [mem_touched (by rw [l2]; exact hj),feetOf_at hj]
  congr 1
  · refine ext_gt (by rw [lookL_len,picOf_len,picOf_len,manyOf_put]) fun j hj=>?_
    have hj':j < (manyOf g).toNat:=by rwa [lookL_len,picOf_len] at hj
    unfold lookL
    rw [look_at (fun k=>trailLight (putCell g e) k) _ _ _ (by rw [l1]; exact hj'),picOf_at (g:=putCell g e) (by rw [manyOf_put]; exact hj')]
    split
    · rfl
    · rename_i hn
      rw [picOf_at hj']
      exact (goLight_put hg e0 (by omega) (by omega) fun h=>hn ((key j hj').2 h)).2.symm
  · refine ext_gt (by rw [lookF_len,feetOf_len,feetOf_len,manyOf_put]) fun j hj=>?_
    have hj':j < (manyOf g).toNat:=by rwa [lookF_len,feetOf_len] at hj
    unfold lookF
    rw [look_at (fun k=>footOf (putCell g e) k) _ _ _ (by rw [l2]; exact hj'),feetOf_at (g:=putCell g e) (by rw [manyOf_put]; exact hj')]
    split
    · rfl
    · rename_i hn
      rw [feetOf_at hj']
      unfold footOf
      rw [(goLight_put hg e0 (by omega) (by omega) fun h=>hn ((key j hj').2 h)).1]
      unfold footIs
      simp [putCell]
def wPut (w:World') (x:Word):World':=if w.nets.length < 10 then { w with nets:=w.nets++[x] } else w
def wTake (w:World') (i:Nat):World':={ w with nets:=w.nets.take i++w.nets.drop (i + 1) }
def setP (w:World') (i:Nat) (p:Painter):World':={ w with painters:=w.painters.set i p }
def wHear (w:World') (x:Word):World':=if x.to = 0 then { w with keeper:=heard w.keeper x } else setP w (x.to - 1).toNat (paintHeard (gt w.painters (x.to - 1).toNat) x)
def wBring (w:World') (i:Nat):World':=wHear (wTake w i) (gt w.nets i)
def wNet (w:World') (e:Event'):World':=
  if 0 ≤ e.a∧e.a < w.nets.length then (if e.kind = 4 then wBring w e.a.toNat else if e.kind = 5 then wTake w e.a.toNat else wPut w (gt w.nets e.a.toNat)) else w
def wPaint (w:World') (i:Nat):World':=
  if (paintTold (gt w.painters i) ((i + 1:Nat):Int) w.painters.length).2 = true then wPut w (paintTold (gt w.painters i) ((i + 1:Nat):Int) w.painters.length).1 else w
def upP (p:Painter):Painter:={ p with up:=true }
def wWho (w:World') (k:Int) (i:Nat):World':=
  if k = 2 then wPut w (toldTo w.keeper ((i + 1:Nat):Int)) else if k = 3 then wPaint w i else if k = 7 then setP w i noPainter else if k = 8 then setP w i (upP (gt w.painters i)) else w
def wOne (w:World') (e:Event'):World':=if 1 ≤ e.a∧e.a ≤ w.painters.length then wWho w e.kind (e.a - 1).toNat else w
def canEdit (k:Keeper) (e:Edit):Bool:=decide (k.edits.length < 60) && editOk k.first e
def wDo (w:World') (e:Event'):World':=
  if e.kind = 1 then (if canEdit w.keeper e.edit = true then { w with keeper:=withEdit w.keeper e.edit } else w)
  else if 4 ≤ e.kind∧e.kind ≤ 6 then wNet w e else wOne w e
theorem keepOk_iff (k:Keeper):keepOk k = true ↔ HeadOk k∧(∀ i,i < k.parts.length→partOk k (i + 1) (gt k.parts i) = true)∧∀ i,i < k.shown.length→shownOk k i = true:=by
  constructor
  · intro h
    refine ⟨keepOk_head h,fun i hi=>keepOk_part h hi,fun i hi=>?_⟩
    simp only [keepOk,Bool.and_eq_true] at h
    exact List.all_eq_true.1 h.2 i (List.mem_range.2 hi)
  · rintro ⟨h1,h2,h3⟩
    simp only [keepOk,Bool.and_eq_true]
    exact ⟨⟨h1.is,List.all_eq_true.2 fun i hi=>h2 i (List.mem_range.1 hi)⟩,List.all_eq_true.2 fun i hi=>h3 i (List.mem_range.1 hi)⟩
structure SameV (k k':Keeper):Prop where
  first:k'.first = k.first
  edits:k'.edits = k.edits
  many:k'.parts.length = k.parts.length
theorem SameV.grid {k k':Keeper} (s:SameV k k') (v:Int):gridAt k' v = gridAt k v:=by unfold gridAt; rw [s.first,s.edits]
theorem SameV.ver {k k':Keeper} (s:SameV k k') (v:Int):verOk k' v = verOk k v:=by unfold verOk; rw [s.edits]
theorem SameV.part {k k':Keeper} (s:SameV k k') (id:Nat) (v:Int):partLights k' id v = partLights k id v:=by unfold partLights; rw [s.grid,s.first,s.many]
theorem SameV.right {k k':Keeper} (s:SameV k k') (x:Word):rightWord k' x = rightWord k x:=by unfold rightWord; rw [s.grid,s.part,s.edits]
theorem SameV.word {k k':Keeper} (s:SameV k k') (x:Word):wordTrue k' x = wordTrue k x:=by unfold wordTrue; rw [s.ver,s.many,s.right]
theorem SameV.painter {k k':Keeper} (s:SameV k k') (p:Painter):painterTrue k' p = painterTrue k p:=by unfold painterTrue; rw [s.ver,s.grid]
theorem SameV.head {k k':Keeper} (s:SameV k k') (h:HeadOk k):HeadOk k':=⟨by rw [s.first]; exact h.grid,by rw [s.many]; exact h.n1,by rw [s.many]; exact h.n3,by rw [s.edits]; exact h.e60,by rw [s.first,s.edits]; exact h.edits⟩
theorem SameV.partOk {k k':Keeper} (s:SameV k k') (id:Nat) (p:Part):partOk k' id p = Sl.partOk k id p:=by unfold Sl.partOk; rw [s.ver,s.part]
theorem sameV_set (k:Keeper) (i:Nat) (p:Part):SameV k (setPart k i p):=⟨rfl,rfl,by simp [setPart]⟩
theorem sameV_pub (k:Keeper):SameV k (published k):=by unfold published; split <;> exact ⟨rfl,rfl,rfl⟩
theorem SameV.trans {a b c:Keeper} (x:SameV a b) (y:SameV b c):SameV a c:=⟨y.first.trans x.first,y.edits.trans x.edits,y.many.trans x.many⟩
theorem SameV.refl (k:Keeper):SameV k k:=⟨rfl,rfl,rfl⟩
theorem sameV_heard (k:Keeper) (x:Word):SameV k (heard k x):=by
  unfold heard
  (repeat' split) <;> first|exact sameV_set _ _ _ | exact (sameV_set _ _ _).trans (sameV_pub _) | exact SameV.refl k
theorem gt_setI {α:Type} [Inhabited α] {l:List α} {i j:Nat} {x:α} (h:j < l.length):gt (l.set i x) j = if i = j then x else gt l j:=by
  rw [gt_eq (by simpa using h),gt_eq h,List.getElem_set]
theorem gt_app {α:Type} [Inhabited α] {l:List α} {j:Nat} {x:α} (h:j < l.length):gt (l++[x]) j = gt l j:=by
  rw [gt_eq (by simp; omega),gt_eq h,List.getElem_append_left h]
theorem keepOk_set {k:Keeper} (h:keepOk k = true) {i:Nat} {p:Part} (hp:partOk k (i + 1) p = true):keepOk (setPart k i p) = true:=by
  obtain ⟨h1,h2,h3⟩:=(keepOk_iff k).1 h
  have s:=sameV_set k i p
  refine (keepOk_iff _).2 ⟨s.head h1,fun j hj=>?_,fun j hj=>?_⟩
  · have hj':j < k.parts.length:=by simpa [setPart] using hj
    rw [s.partOk]
    simp only [setPart]
    rw [gt_setI hj']
    split
    · rename_i e; subst e; exact hp
    · exact h2 j hj'
  · have:=h3 j hj
    unfold shownOk prevVer at this ⊢
    rw [s.ver,s.grid]
    exact this
theorem pubPic_is {k:Keeper} (h:keepOk k = true) (hs:partsSame k k.parts.length = true):pubPic k = picOf (gridAt k (gt k.parts 0).ver):=by
  obtain ⟨h1,h2,-⟩:=(keepOk_iff k).1 h
  have n1:=h1.n1
  have n3:=h1.n3
  refine ext_gt (by simp [pubPic,picOf_len,gridAt_many]) fun s hs'=>?_
  have hs1:s < (manyOf k.first).toNat:=by simpa [pubPic] using hs'
  have hi:s % k.parts.length < k.parts.length:=Nat.mod_lt _ (by omega)
  have e1:=List.all_eq_true.1 hs (s % k.parts.length) (List.mem_range.2 hi)
  simp only [Bool.and_eq_true,decide_eq_true_eq] at e1
  have e2:=h2 _ hi
  unfold partOk at e2
  rw [if_pos e1.1] at e2
  simp only [Bool.and_eq_true,decide_eq_true_eq] at e2
  rw [gt_eq hs']
  simp only [pubPic,List.getElem_map,List.getElem_range]
  rw [e2.2,e1.2]
  have hm:=Nat.mod_add_div s k.parts.length
  have hlt:s / k.parts.length < ownCnt (manyOf k.first).toNat k.parts.length (s % k.parts.length + 1):=by
    rw [ownCnt_lt (by omega) (by omega) n3,Nat.mul_comm]; simp only [Nat.add_sub_cancel]; omega
  unfold partLights
  rw [gt_eq (by rw [ownLights_len]; exact hlt)]
  simp only [ownLights,List.getElem_map]
  have hl:s / k.parts.length < (ownList (manyOf k.first).toNat k.parts.length (s % k.parts.length + 1)).length:=by rw [ownList_len]; exact hlt
  rw [← gt_eq hl,ownList_at hlt]
  have:(((s % k.parts.length + 1 - 1 + s / k.parts.length * k.parts.length:Nat):Int)).toNat = s:=by
    rw [Int.toNat_natCast,Nat.mul_comm]; simp only [Nat.add_sub_cancel]; exact hm
  rw [this]
theorem keepOk_pub {k:Keeper} (h:keepOk k = true):keepOk (published k) = true:=by
  unfold published
  split
  · rename_i hc
    simp only [Bool.and_eq_true] at hc
    obtain ⟨hp,hn⟩:=hc
    have hpic:=pubPic_is h hp
    obtain ⟨h1,h2,h3⟩:=(keepOk_iff k).1 h
    have s:SameV k { k with shown:=k.shown++[⟨(gt k.parts 0).ver,pubPic k⟩] }:=⟨rfl,rfl,rfl⟩
    have hv:verOk k (gt k.parts 0).ver = true:=by
      have e1:=List.all_eq_true.1 hp 0 (List.mem_range.2 h1.n1)
      simp only [Bool.and_eq_true] at e1
      have e2:=h2 0 h1.n1
      unfold partOk at e2
      rw [if_pos e1.1] at e2
      simp only [Bool.and_eq_true] at e2
      exact e2.1
    refine (keepOk_iff _).2 ⟨s.head h1,fun j hj=>?_,fun j hj=>?_⟩
    · rw [s.partOk]; exact h2 j hj
    · simp only [List.length_append,List.length_cons,List.length_nil] at hj
      by_cases e:j < k.shown.length
      · have:=h3 j e
        unfold shownOk prevVer at this ⊢
        rw [s.ver,s.grid]
        simp only
        rw [gt_app e]
        have hq:(if j = 0 then (-1:Int) else (gt (k.shown++[(⟨(gt k.parts 0).ver,pubPic k⟩:Shown)]) (j - 1)).ver) = if j = 0 then -1 else (gt k.shown (j - 1)).ver:=by
          split
          · rfl
          · rw [gt_app (by omega)]
        rw [hq]; exact this
      · have ej:j = k.shown.length:=by omega
        subst ej
        have eg:gt (k.shown++[⟨(gt k.parts 0).ver,pubPic k⟩]) k.shown.length = ⟨(gt k.parts 0).ver,pubPic k⟩:=gt_snoc
        unfold shownOk prevVer
        rw [s.ver,s.grid]
        simp only [eg]
        rw [hv,← hpic]
        simp only [decide_true,Bool.and_true,Bool.true_and,decide_eq_true_eq]
        split
        · have:0 ≤ (gt k.parts 0).ver:=by simp only [verOk,Bool.and_eq_true,decide_eq_true_eq] at hv; exact hv.1
          omega
        · rename_i h0
          unfold shownNewer at hn
          rw [gt_app (by omega)]
          simpa [h0] using hn
  · exact h
theorem keepOk_heard {k:Keeper} (h:keepOk k = true) {x:Word} (hx:x.kind = 3→wordTrue k x = true):keepOk (heard k x) = true:=by
  unfold heard
  split
  · rename_i hr
    split
    · exact keepOk_set h (by simp [partOk,noPart])
    · split
      · rename_i h3
        have hw:=hx h3.1
        rw [wordTrue3 h3.1] at hw
        simp only [Bool.and_eq_true,decide_eq_true_eq] at hw
        refine keepOk_pub (keepOk_set h ?_)
        unfold partOk
        rw [if_pos rfl]
        simp only [Bool.and_eq_true,decide_eq_true_eq]
        refine ⟨hw.1.1,?_⟩
        have e1:x.lights = partLights k x.frm.toNat x.ver:=by have:=hw.2; rw [this]
        rw [e1]; congr 1; omega
      · exact h
  · exact h
theorem gridAt_edit {k:Keeper} {e:Edit} {v:Int} (h:verOk k v = true):gridAt (withEdit k e) v = gridAt k v:=by
  simp only [verOk,Bool.and_eq_true,decide_eq_true_eq] at h
  unfold gridAt withEdit
  simp only
  rw [List.take_append_of_le_length (by omega)]
theorem verOk_edit {k:Keeper} {e:Edit} {v:Int} (h:verOk k v = true):verOk (withEdit k e) v = true:=by
  simp only [verOk,Bool.and_eq_true,decide_eq_true_eq,withEdit,List.length_append,List.length_cons,List.length_nil] at h ⊢; omega
theorem part_edit {k:Keeper} {e:Edit} {v:Int} (h:verOk k v = true) (id:Nat):partLights (withEdit k e) id v = partLights k id v:=by unfold partLights; rw [gridAt_edit h]; rfl
theorem keepOk_edit {k:Keeper} (h:keepOk k = true) {e:Edit} (he:canEdit k e = true):keepOk (withEdit k e) = true:=by
  simp only [canEdit,Bool.and_eq_true,decide_eq_true_eq] at he
  obtain ⟨h1,h2,h3⟩:=(keepOk_iff k).1 h
  refine (keepOk_iff _).2 ⟨⟨h1.grid,h1.n1,h1.n3,by simp [withEdit]; omega,?_⟩,fun j hj=>?_,fun j hj=>?_⟩
  · show editsOk k.first (k.edits++[e]) = true
    have:=h1.edits
    simp only [editsOk,List.all_append,Bool.and_eq_true] at this ⊢
    exact ⟨this,by simp [he.2]⟩
  · have:=h2 j hj
    unfold partOk at this ⊢
    show (if (gt k.parts j).has = true then _ else _) = true
    split
    · rename_i hh
      rw [if_pos hh] at this
      simp only [Bool.and_eq_true] at this ⊢
      refine ⟨verOk_edit this.1,?_⟩
      show decide ((gt k.parts j).lights = partLights (withEdit k e) (j + 1) (gt k.parts j).ver) = true
      rw [part_edit this.1]; exact this.2
    · rename_i hh
      rw [if_neg hh] at this; exact this
  · have:=h3 j hj
    unfold shownOk prevVer at this ⊢
    simp only [Bool.and_eq_true] at this ⊢
    show (verOk (withEdit k e) (gt k.shown j).ver = true∧_)∧decide ((gt k.shown j).pic = picOf (gridAt (withEdit k e) (gt k.shown j).ver)) = true
    rw [gridAt_edit this.1.1]
    exact ⟨⟨verOk_edit this.1.1,this.1.2⟩,this.2⟩
theorem wordTrue_edit {k:Keeper} {e:Edit} {x:Word} (h:wordTrue k x = true):wordTrue (withEdit k e) x = true:=by
  have hv:verOk k x.ver = true:=by simp only [wordTrue,Bool.and_eq_true] at h; exact h.1.1.1.1
  have hr:(x.kind = 2→x.ver ≠ 0)→rightWord (withEdit k e) x = rightWord k x:=fun h0=>by
    unfold rightWord
    rw [gridAt_edit hv,part_edit hv]
    by_cases h2:x.kind = 2
    · have:=h0 h2
      simp only [verOk,Bool.and_eq_true,decide_eq_true_eq] at hv
      have:gt (withEdit k e).edits (x.ver - 1).toNat = gt k.edits (x.ver - 1).toNat:=gt_app (by omega)
      rw [this]
    · simp [h2]
  unfold wordTrue at h ⊢
  simp only [Bool.and_eq_true] at h ⊢
  rw [hr (fun h2 h0=>by have:=h.1.1.2; simp [h2,h0] at this)]
  exact ⟨⟨⟨⟨verOk_edit hv,h.1.1.1.2⟩,h.1.1.2⟩,h.1.2⟩,h.2⟩
theorem painterTrue_edit {k:Keeper} {e:Edit} {p:Painter} (h:painterTrue k p = true):painterTrue (withEdit k e) p = true:=by
  unfold painterTrue at h ⊢
  simp only [Bool.and_eq_true] at h ⊢
  rw [gridAt_edit h.1.1]
  exact ⟨⟨verOk_edit h.1.1,h.1.2⟩,h.2⟩
theorem toldTo_true {k:Keeper} (h:keepOk k = true) {i:Nat} (hi:i < k.parts.length):wordTrue k (toldTo k ((i + 1:Nat):Int)) = true:=by
  obtain ⟨h1,h2,-⟩:=(keepOk_iff k).1 h
  have n3:=h1.n3
  have hid:idOk ((i + 1:Nat):Int) k.parts.length = true:=by simp only [idOk,Bool.and_eq_true,decide_eq_true_eq]; omega
  have ei:(((i + 1:Nat):Int) - 1).toNat = i:=by omega
  unfold toldTo
  simp only [ei]
  split
  · rename_i hc
    have hv:=partOk_ver (h2 i hi) hc.1
    rw [wordTrue2 rfl]
    simp only [Bool.and_eq_true,verOk,decide_eq_true_eq,Bool.not_eq_true',decide_eq_false_iff_not]
    refine ⟨⟨⟨by omega,by omega⟩,hid⟩,?_⟩
    rw [show (gt k.parts i).ver + 1 - 1 = (gt k.parts i).ver by omega]
  · rw [wordTrue1 rfl]
    simp only [Bool.and_eq_true,decide_eq_true_eq]
    exact ⟨⟨verOk_all k,hid⟩,trivial⟩
theorem painterTrue_is {k:Keeper} {p:Painter} (h:painterTrue k p = true):verOk k p.ver = true∧paintOk p = true∧(p.has = true→p.scene.grid = gridAt k p.ver):=by
  simp only [painterTrue,Bool.and_eq_true] at h
  refine ⟨h.1.1,h.1.2,fun hh=>?_⟩
  have:=h.2
  simpa [hh] using this
theorem painterTrue_scene {k:Keeper} {p:Painter} (h:painterTrue k p = true) (hh:p.has = true):p.scene = sceneOf (gridAt k p.ver):=by
  obtain ⟨_,h2,h3⟩:=painterTrue_is h
  have:=(sceneOk_is (paintOk_has h2 hh).2.2.2).2
  rw [h3 hh] at this; exact this
theorem painted_true {k:Keeper} (hk:HeadOk k) {p:Painter} (h:painterTrue k p = true) {i:Nat} (hi:i < k.parts.length) (ht:(paintTold p ((i + 1:Nat):Int) k.parts.length).2 = true):wordTrue k (paintTold p ((i + 1:Nat):Int) k.parts.length).1 = true:=by
  have n3:=hk.n3
  have hid:idOk ((i + 1:Nat):Int) k.parts.length = true:=by simp only [idOk,Bool.and_eq_true,decide_eq_true_eq]; omega
  obtain ⟨h1,h2,h3⟩:=painterTrue_is h
  unfold paintTold at ht ⊢
  split
  · rename_i hu; rw [if_pos hu] at ht; cases ht
  · split
    · rw [wordTrue4 rfl]
      simp only [Bool.and_eq_true,decide_eq_true_eq]
      exact ⟨⟨by simp [verOk],hid⟩,trivial⟩
    · rename_i hh
      have hh':p.has = true:=by simpa using hh
      have hs:=painterTrue_scene h hh'
      rw [wordTrue3 rfl]
      simp only [Bool.and_eq_true,decide_eq_true_eq]
      refine ⟨⟨h1,hid⟩,?_⟩
      rw [hs]
      unfold partLights sceneOf
      simp only [Int.toNat_natCast]
      rw [gridAt_many]
theorem painter_hear {k:Keeper} (hk:HeadOk k) {p:Painter} (h:painterTrue k p = true) {x:Word} (hx:wordTrue k x = true):painterTrue k (paintHeard p x) = true:=by
  obtain ⟨h1,h2,h3⟩:=painterTrue_is h
  have e60:=hk.e60
  unfold paintHeard
  split
  · exact h
  · split
    · rename_i hx1
      rw [wordTrue1 hx1] at hx
      simp only [Bool.and_eq_true,decide_eq_true_eq] at hx
      have eg:x.grid = gridAt k x.ver:=by have:=hx.2; rw [this]
      split
      · rename_i hc
        unfold painterTrue
        simp only [Bool.and_eq_true,Bool.not_true,Bool.false_or,decide_eq_true_eq]
        refine ⟨⟨hx.1.1,?_⟩,by rw [eg]; rfl⟩
        unfold paintOk
        simp only [if_true,Bool.true_and,Bool.and_eq_true,decide_eq_true_eq]
        exact ⟨hc.1,sceneOk_of hc.2.2⟩
      · exact h
    · split
      · rename_i hx2
        rw [wordTrue2 hx2] at hx
        simp only [Bool.and_eq_true,decide_eq_true_eq,Bool.not_eq_true',decide_eq_false_iff_not] at hx
        obtain ⟨⟨⟨w1,w2⟩,w3⟩,w4⟩:=hx
        split
        · rename_i hc
          obtain ⟨c1,c2,c3,c4⟩:=hc
          have eE:x.edit = gt k.edits (x.ver - 1).toNat:=by have:=w4; rw [this]
          have eg:=h3 c1
          have hs:=(paintOk_has h2 c1).2.2.2
          have hv0:0 ≤ p.ver:=(paintOk_has h2 c1).2.1
          simp only [verOk,Bool.and_eq_true,decide_eq_true_eq] at w1
          have el:p.ver.toNat < k.edits.length:=by omega
          have ev:(x.ver - 1).toNat = p.ver.toNat:=by omega
          have eg2:putCell p.scene.grid x.edit = gridAt k x.ver:=by
            rw [eg,eE,ev]
            unfold gridAt
            rw [show x.ver.toNat = p.ver.toNat + 1 by omega,gridAfter_step el]
          unfold painterTrue
          rw [editScene_is hs c4,eg2]
          simp only [Bool.and_eq_true,Bool.not_true,Bool.false_or,decide_eq_true_eq]
          refine ⟨⟨by simp only [verOk,Bool.and_eq_true,decide_eq_true_eq]; exact w1,?_⟩,rfl⟩
          unfold paintOk
          simp only [if_true,Bool.true_and,Bool.and_eq_true,decide_eq_true_eq]
          exact ⟨⟨w1.1,c3⟩,sceneOk_of (gridAt_ok hk.grid hk.edits _)⟩
        · exact h
      · exact h
theorem painterTrue_no (k:Keeper):painterTrue k noPainter = true:=by
  simp [painterTrue,noPainter,paintOk,verOk]
theorem painterTrue_up {k:Keeper} {p:Painter} (h:painterTrue k p = true):painterTrue k (upP p) = true:=by
  obtain ⟨h1,h2,h3⟩:=painterTrue_is h
  unfold painterTrue upP
  simp only [Bool.and_eq_true]
  refine ⟨⟨h1,?_⟩,?_⟩
  · unfold paintOk at h2 ⊢
    simp only at h2 ⊢
    split
    · rename_i hh
      rw [if_pos hh] at h2
      simp only [Bool.and_eq_true,Bool.true_and] at h2 ⊢
      exact ⟨h2.1.2,h2.2⟩
    · rename_i hh; rw [if_neg hh] at h2; exact h2
  · cases hh:p.has with
    | false=>rfl
    | true=>simpa [hh] using h3 hh
structure WOk (w:World'):Prop where
  keep:keepOk w.keeper = true
  many:w.painters.length = w.keeper.parts.length
  nets:w.nets.length ≤ 10
  ps:∀ p ∈ w.painters,painterTrue w.keeper p = true
  ns:∀ x ∈ w.nets,wordTrue w.keeper x = true
theorem gt_mem {α:Type} [Inhabited α] {l:List α} {i:Nat} (h:i < l.length):gt l i ∈ l:=by rw [gt_eq h]; exact List.getElem_mem h
section
variable {w:World'}
theorem WOk.head (h:WOk w):HeadOk w.keeper:=keepOk_head h.keep
theorem WOk.put (h:WOk w) {x:Word} (hx:wordTrue w.keeper x = true):WOk (wPut w x):=by
  unfold wPut
  split
  · refine ⟨h.keep,h.many,by simp; omega,h.ps,fun y hy=>?_⟩
    rcases List.mem_append.1 hy with hy | hy
    · exact h.ns y hy
    · simp at hy; subst hy; exact hx
  · exact h
theorem WOk.take (h:WOk w) (i:Nat):WOk (wTake w i):=by
  have h1:=h.nets
  refine ⟨h.keep,h.many,by simp [wTake]; omega,h.ps,fun y hy=>?_⟩
  rcases List.mem_append.1 hy with hy | hy
  · exact h.ns y (List.mem_of_mem_take hy)
  · exact h.ns y (List.mem_of_mem_drop hy)
theorem WOk.setP (h:WOk w) (i:Nat) {p:Painter} (hp:painterTrue w.keeper p = true):WOk (setP w i p):=by
  refine ⟨h.keep,by simp [Sl.setP,h.many],h.nets,fun y hy=>?_,h.ns⟩
  rcases List.mem_or_eq_of_mem_set hy with hy | rfl
  · exact h.ps y hy
  · exact hp
theorem wordTrue_to {k:Keeper} {x:Word} (h:wordTrue k x = true):(x.to = 0∧(x.kind = 3 ∨ x.kind = 4)∧1 ≤ x.frm∧x.frm ≤ k.parts.length) ∨ (1 ≤ x.to∧x.to ≤ k.parts.length∧(x.kind = 1 ∨ x.kind = 2)):=by
  have hk:1 ≤ x.kind∧x.kind ≤ 4:=by simp only [wordTrue,Bool.and_eq_true,decide_eq_true_eq] at h; exact h.1.1.1.2
  have:x.kind = 1 ∨ x.kind = 2 ∨ x.kind = 3 ∨ x.kind = 4:=by omega
  rcases this with e | e | e | e
  · rw [wordTrue1 e] at h
    simp only [Bool.and_eq_true,idOk,decide_eq_true_eq] at h
    exact .inr ⟨h.1.2.1.2,h.1.2.2,.inl e⟩
  · rw [wordTrue2 e] at h
    simp only [Bool.and_eq_true,idOk,decide_eq_true_eq] at h
    exact .inr ⟨h.1.2.1.2,h.1.2.2,.inr e⟩
  · rw [wordTrue3 e] at h
    simp only [Bool.and_eq_true,idOk,decide_eq_true_eq] at h
    exact .inl ⟨by have:=h.2; rw [this],.inl e,h.1.2.1.2,h.1.2.2⟩
  · rw [wordTrue4 e] at h
    simp only [Bool.and_eq_true,idOk,decide_eq_true_eq] at h
    exact .inl ⟨by have:=h.2; rw [this],.inr e,h.1.2.1.2,h.1.2.2⟩
theorem WOk.hear (h:WOk w) {x:Word} (hx:wordTrue w.keeper x = true):WOk (wHear w x):=by
  unfold wHear
  split
  · have s:=sameV_heard w.keeper x
    refine ⟨keepOk_heard h.keep fun _=>hx,by rw [h.many]; exact s.many.symm,h.nets,fun p hp=>?_,fun y hy=>?_⟩
    · rw [s.painter]; exact h.ps p hp
    · rw [s.word]; exact h.ns y hy
  · rename_i h0
    have hr:=wordTrue_to hx
    exact h.setP _ (painter_hear h.head (h.ps _ (gt_mem (by rw [h.many]; omega))) hx)
theorem WOk.bring (h:WOk w) {i:Nat} (hi:i < w.nets.length):WOk (wBring w i):=(h.take i).hear (h.ns _ (gt_mem hi))
theorem WOk.net (h:WOk w) (e:Event'):WOk (wNet w e):=by
  unfold wNet
  split
  · rename_i hr
    have hi:e.a.toNat < w.nets.length:=by omega
    split
    · exact h.bring hi
    · split
      · exact h.take _
      · exact h.put (h.ns _ (gt_mem hi))
  · exact h
theorem WOk.told (h:WOk w) {i:Nat} (hi:i < w.painters.length):WOk (wPut w (toldTo w.keeper ((i + 1:Nat):Int))):=h.put (toldTo_true h.keep (by rw [← h.many]; exact hi))
theorem WOk.paint (h:WOk w) {i:Nat} (hi:i < w.painters.length):WOk (wPaint w i):=by
  unfold wPaint
  split
  · rename_i ht
    refine h.put ?_
    rw [h.many] at ht hi ⊢
    exact painted_true h.head (h.ps _ (gt_mem (by rw [h.many]; exact hi))) hi ht
  · exact h
theorem WOk.who (h:WOk w) (k:Int) {i:Nat} (hi:i < w.painters.length):WOk (wWho w k i):=by
  unfold wWho
  (repeat' split)
  · exact h.told hi
  · exact h.paint hi
  · exact h.setP _ (painterTrue_no _)
  · exact h.setP _ (painterTrue_up (h.ps _ (gt_mem hi)))
  · exact h
theorem WOk.one (h:WOk w) (e:Event'):WOk (wOne w e):=by
  unfold wOne
  split
  · exact h.who _ (by omega)
  · exact h
theorem WOk.edit (h:WOk w) {e:Edit} (he:canEdit w.keeper e = true):WOk { w with keeper:=withEdit w.keeper e }:=
  ⟨keepOk_edit h.keep he,h.many,h.nets,fun p hp=>painterTrue_edit (h.ps p hp),fun x hx=>wordTrue_edit (h.ns x hx)⟩
theorem WOk.do (h:WOk w) (e:Event'):WOk (wDo w e):=by
  unfold wDo
  split
  · split
    · rename_i he; exact h.edit he
    · exact h
  · split
    · exact h.net e
    · exact h.one e
end
def wAllN:Nat→World'→World'
  | 0,w=>w
  | n + 1,w=>wAllN n (wBring w 0)
def wAll (w:World'):World':=wAllN w.nets.length w
theorem wHear_nets (w:World') (x:Word):(wHear w x).nets = w.nets:=by unfold wHear setP; split <;> rfl
theorem wHear_many (w:World') (x:Word):(wHear w x).painters.length = w.painters.length:=by unfold wHear setP; split <;> simp
theorem wBring_len (w:World') (h:0 < w.nets.length):(wBring w 0).nets.length = w.nets.length - 1:=by
  rw [wBring,wHear_nets]; simp [wTake]
theorem WOk.allN:∀ (n:Nat) {w:World'},w.nets.length = n→WOk w→WOk (wAllN n w)∧(wAllN n w).nets.length = 0∧(wAllN n w).painters.length = w.painters.length
  | 0,w,hn,h=>⟨h,hn,rfl⟩
  | n + 1,w,hn,h=>by
    have h1:=wBring_len w (by omega)
    obtain ⟨a,b,c⟩:=WOk.allN n (by omega) (h.bring (i:=0) (by omega))
    refine ⟨a,b,?_⟩
    show (wAllN n (wBring w 0)).painters.length = _
    rw [c,wBring,wHear_many]; rfl
theorem WOk.all {w:World'} (h:WOk w):WOk (wAll w):=(WOk.allN _ rfl h).1
theorem wAll_many {w:World'} (h:WOk w):(wAll w).painters.length = w.painters.length:=(WOk.allN _ rfl h).2.2
def wRise (w:World') (i:Nat):World':=setP w i (upP (gt w.painters i))
def wTells:Nat→World'→World'
  | 0,w=>w
  | n + 1,w=>wPaint (wRise (wTells n w) n) n
def wTolds:Nat→World'→World'
  | 0,w=>w
  | n + 1,w=>wPut (wTolds n w) (toldTo (wTolds n w).keeper ((n + 1:Nat):Int))
def wCalm (w:World'):World':=wAll (wTolds w.painters.length (wAll (wTells w.painters.length (wAll w))))
theorem wPut_many (w:World') (x:Word):(wPut w x).painters = w.painters∧(wPut w x).keeper = w.keeper:=by unfold wPut; split <;> exact ⟨rfl,rfl⟩
theorem wPaint_many (w:World') (i:Nat):(wPaint w i).painters = w.painters∧(wPaint w i).keeper = w.keeper:=by
  unfold wPaint
  split
  · exact wPut_many _ _
  · exact ⟨rfl,rfl⟩
theorem WOk.rise {w:World'} (h:WOk w) {i:Nat} (hi:i < w.painters.length):WOk (wRise w i):=h.setP _ (painterTrue_up (h.ps _ (gt_mem hi)))
theorem wTells_ok {w:World'} (h:WOk w):∀ n,n ≤ w.painters.length→WOk (wTells n w)∧(wTells n w).painters.length = w.painters.length
  | 0,_=>⟨h,rfl⟩
  | n + 1,hn=>by
    obtain ⟨a,b⟩:=wTells_ok h n (by omega)
    refine ⟨(a.rise (by omega)).paint (by simp [wRise,Sl.setP]; omega),?_⟩
    show (wPaint _ _).painters.length = _
    rw [(wPaint_many _ _).1]; simp [wRise,setP,b]
theorem wTolds_ok {w:World'} (h:WOk w):∀ n,n ≤ w.painters.length→WOk (wTolds n w)∧(wTolds n w).painters.length = w.painters.length
  | 0,_=>⟨h,rfl⟩
  | n + 1,hn=>by
    obtain ⟨a,b⟩:=wTolds_ok h n (by omega)
    refine ⟨a.told (by omega),?_⟩
    show (wPut _ _).painters.length = _
    rw [(wPut_many _ _).1]; exact b
theorem WOk.calm {w:World'} (h:WOk w):WOk (wCalm w)∧(wCalm w).painters.length = w.painters.length:=by
  have a1:=h.all
  have e1:=wAll_many h
  obtain ⟨a2,e2⟩:=wTells_ok a1 w.painters.length (by omega)
  have a3:=a2.all
  have e3:=wAll_many a2
  obtain ⟨a4,e4⟩:=wTolds_ok a3 w.painters.length (by omega)
  exact ⟨a4.all,by show (wAll _).painters.length = _; rw [wAll_many a4]; omega⟩
def wDos (w:World') (es:List Event'):World':=es.foldl wDo w
theorem WOk.dos {w:World'} (h:WOk w):∀ es,WOk (wDos w es)
  | []=>h
  | e :: es=>WOk.dos (h.do e) es
def noWorld:World':=⟨noKeeper,[],[]⟩
theorem keepGrid_ok {k:Keeper} (h:keepOk k = true) {v:Int} (hv:verOk k v = true):keepGrid k v = (gridAt k v,true):=by rw [keepGrid,h,hv]; rfl
theorem gridAt_succ {k:Keeper} {v:Int} (h1:1 ≤ v) (h2:v ≤ k.edits.length):gridAt k v = putCell (gridAt k (v - 1)) (gt k.edits (v - 1).toNat):=by
  unfold gridAt
  rw [show v.toNat = (v - 1).toNat + 1 by omega,gridAfter_step (by omega)]
theorem edit_fits {k:Keeper} (hk:HeadOk k) {i:Nat} (hi:i < k.edits.length) (v:Int):editOk (gridAt k v) (gt k.edits i) = true:=by
  have e:editOk (gridAt k v) (gt k.edits i) = editOk k.first (gt k.edits i):=editOk_congr (gridAfter_same _ _).2 _
  rw [e]; exact editsOk_at hk.edits hi
theorem verOk_iff {k:Keeper} {v:Int}:verOk k v = true ↔ 0 ≤ v∧v ≤ k.edits.length:=by simp [verOk]
def toldEdit (k:Keeper) (z:Int):Prop:=(gt k.parts (z - 1).toNat).has = true∧(1 ≤ (k.edits.length:Int) - (gt k.parts (z - 1).toNat).ver∧(k.edits.length:Int) - (gt k.parts (z - 1).toNat).ver ≤ 2)
theorem told_edit {k:Keeper} {z:Int} (h:toldEdit k z):toldTo k z = ⟨2,z,0,(gt k.parts (z - 1).toNat).ver + 1,noGrid,gt k.edits (gt k.parts (z - 1).toNat).ver.toNat,[]⟩:=by
  unfold toldEdit at h; unfold toldTo; simp only; rw [if_pos h]
theorem told_whole {k:Keeper} {z:Int} (h:¬ toldEdit k z):toldTo k z = ⟨1,z,0,k.edits.length,gridAt k k.edits.length,noEdit,[]⟩:=by
  unfold toldEdit at h; unfold toldTo; simp only; rw [if_neg h]
theorem paintOk_mk {v:Int} {s:Scene} (h0:0 ≤ v) (h1:v ≤ 60) (hs:sceneOk s = true):paintOk ⟨true,true,v,s⟩ = true:=by
  unfold paintOk; simp [h0,h1,hs]
def believed (k:Keeper) (z:Int):Painter:=if (gt k.parts (z - 1).toNat).has = true then ⟨true,true,(gt k.parts (z - 1).toNat).ver,sceneOf (gridAt k (gt k.parts (z - 1).toNat).ver)⟩ else ⟨true,false,0,noScene⟩
theorem leads {k:Keeper} (h:keepOk k = true) {z:Int} (h1:1 ≤ z) (h2:z ≤ k.parts.length):∃ x,x = paintHear (believed k z) (toldTo k z)∧paintOk (believed k z) = true∧x.has = true∧verOk k x.ver = true∧x.scene = sceneOf (gridAt k x.ver)∧(x.ver > (believed k z).ver ∨ ((believed k z).has = true∧(believed k z).ver = k.edits.length) ∨ ((believed k z).has = false∧k.edits.length = 0)):=by
  have hk:=keepOk_head h
  have hi:(z - 1).toNat < k.parts.length:=by omega
  have hp:=keepOk_part h hi
  have e60:=hk.e60
  unfold believed
  generalize hpt:gt k.parts (z - 1).toNat = p at *
  have hgo:∀ v,gridOk (gridAt k v) = true:=gridAt_ok hk.grid hk.edits
  by_cases hh:p.has = true
  · rw [if_pos hh]
    have hv:=partOk_ver hp hh
    have okb:paintOk ⟨true,true,p.ver,sceneOf (gridAt k p.ver)⟩ = true:=paintOk_mk hv.1 (by omega) (sceneOk_of (hgo _))
    refine ⟨_,rfl,okb,?_⟩
    rw [paintHear,if_pos okb]
    by_cases ht:toldEdit k z
    · rw [told_edit ht,hpt]
      unfold toldEdit at ht
      rw [hpt] at ht
      have hl:p.ver.toNat < k.edits.length:=by omega
      have he:=edit_fits hk hl p.ver
      rw [heard2 rfl rfl,if_pos ⟨rfl,rfl,by simp only; omega,he⟩]
      have hg:putCell (gridAt k p.ver) (gt k.edits p.ver.toNat) = gridAt k (p.ver + 1):=by
        rw [gridAt_succ (v:=p.ver + 1) (by omega) (by omega)]
        rw [show p.ver + 1 - 1 = p.ver by omega]
      refine ⟨rfl,verOk_iff.2 (by simp only; omega),?_,.inl (by simp only; omega)⟩
      simp only
      rw [editScene_is (sceneOk_of (hgo _)) he]
      rw [show (sceneOf (gridAt k p.ver)).grid = gridAt k p.ver from rfl,hg]
    · rw [told_whole ht]
      by_cases hn:p.ver < k.edits.length
      · rw [heard1 rfl rfl,if_pos ⟨by simp only; omega,fun _=>by simp only; omega,hgo _⟩]
        exact ⟨rfl,verOk_all k,rfl,.inl (by simp only; omega)⟩
      · rw [heard1 rfl rfl,if_neg (fun x=>by have:=x.2.1 rfl; simp only at this; omega)]
        exact ⟨rfl,verOk_iff.2 hv,rfl,.inr (.inl ⟨rfl,by simp only; omega⟩)⟩
  · rw [if_neg hh]
    have okb:paintOk ⟨true,false,0,noScene⟩ = true:=by decide
    refine ⟨_,rfl,okb,?_⟩
    have ht:¬ toldEdit k z:=fun x=>hh (by unfold toldEdit at x; rw [hpt] at x; exact x.1)
    rw [paintHear,if_pos okb,told_whole ht,heard1 rfl rfl,if_pos ⟨by simp only; omega,fun x=>(by cases x),hgo _⟩]
    refine ⟨rfl,verOk_all k,rfl,?_⟩
    by_cases hn:k.edits.length = 0
    · exact .inr (.inr ⟨rfl,hn⟩)
    · exact .inl (by simp only; omega)
end Go.Sl

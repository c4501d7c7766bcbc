/- Rules of a calculus of our own, no program: SpC SpK SpX SpT SpE SpH. -/
import Derived.Test.YtcpkcmgjfcbnpaaGreatDoorSmZ
import Derived.Test.YtcpkcmgjfcbnpaaGreatDoorSmH
set_option linter.unusedVariables false
set_option linter.unusedSimpArgs false
set_option linter.unusedSectionVars false
namespace Go.Sl
def beamFrom (g:Grid) (a d w:Int):Beam:=match nextAt g a d with
  | some b=>⟨b,d,w,-1⟩
  | none=>⟨0,0,w,sightOf g a d⟩
def BeamIs (g:Grid) (b:Beam) (r:Lit):Prop:=
  (b.weight = 0∧r = (1,[],[])) ∨ (b.weight ≠ 0∧0 ≤ b.out∧r = (1,[],[⟨0,b.out,b.weight⟩])) ∨
  (b.weight ≠ 0∧b.out < 0∧(0 ≤ b.at'∧b.at' < g.cells.length)∧(0 ≤ b.dir∧b.dir ≤ 3)∧∃ n,comeF g n b.at' b.dir b.weight = some r)
theorem beamIs_from {g:Grid} {R:Int} (k:Gok g R) {a d w:Int} {n:Nat} {r:Lit} (h0:0 ≤ a) (h1:a < g.cells.length) (d0:0 ≤ d) (d1:d ≤ 3) (h:leaveF g (comeF g n) a d w = some r):BeamIs g (beamFrom g a d w) r:=by
  unfold leaveF at h
  unfold beamFrom BeamIs
  split at h
  · rename_i hw
    cases h
    refine .inl ⟨?_,rfl⟩
    split <;> exact hw
  · rename_i hw
    split at h
    · rename_i hn
      cases h
      simp only [hn]
      exact .inr (.inl ⟨hw,(sightOf_edge k h0 h1 d0 d1 hn).1,trivial⟩)
    · rename_i b hn
      simp only [hn]
      exact .inr (.inr ⟨hw,by decide,nextAt_ok k h0 h1 hn,⟨d0,d1⟩,n,h⟩)
inductive Todo (g:Grid):List Beam→Nat→List Visit→List LEnd→Prop where
  | nil:Todo g [] 0 [] []
  | cons {b:Beam} {bs:List Beam} {n m:Nat} {v vs:List Visit} {e es:List LEnd}:BeamIs g b (n,v,e)→(0 ≤ b.weight∧b.weight ≤ 64)→1 ≤ n→Todo g bs m vs es→Todo g (b :: bs) (n + m) (v++vs) (e++es)
theorem Todo.len {g:Grid} {bs:List Beam} {m:Nat} {vs:List Visit} {es:List LEnd} (t:Todo g bs m vs es):bs.length ≤ m:=by
  induction t with
  | nil=>simp
  | cons _ _ _ _ ih=>simp; omega
theorem todo_two {g : Grid} {R : Int} (k : Gok g R) {a d w : Int} (h0 : 0 ≤ a) (h1 : a < g.cells.length) (d0 : 0 ≤ d) (d1 : d ≤ 3) (w0 : 1 ≤ w) (w1 : w ≤ 64) {n : Nat} {r : Lit} (hc : comeF g n a d w = some r)
    {bs:List Beam} {m:Nat} {vs:List Visit} {es:List LEnd} (t:Todo g bs m vs es):∃ n' v e,r = (n' + 1,⟨a,d,w⟩ :: v,hereF g a w++e) ∧
    Todo g (beamFrom g a d (spread (gt g.cells a.toNat).kind w).pass :: beamFrom g a (dirTurn (gt g.cells a.toNat).kind d) (spread (gt g.cells a.toNat).kind w).turn :: bs) (n' + m) (v++vs) (e++es):=by
  cases n with
  | zero=>cases hc
  | succ n=>
    obtain ⟨n1,v1,e1,n2,v2,e2,q1,q2,rfl⟩:=comeF_inv hc
    have hs:=spread_le (kind:=(gt g.cells a.toNat).kind) w0
    have hd:=dirTurn_ok (kind:=(gt g.cells a.toNat).kind) d0 d1
    have bw:∀ x y,(beamFrom g a x y).weight = y:=fun x y=>by unfold beamFrom; split <;> rfl
    have n1':∀ {x y:Int} {n':Nat} {v e},0 ≤ x→x ≤ 3→0 ≤ y→leaveF g (comeF g n) a x y = some (n',v,e)→1 ≤ n':=fun {x y n' v e} x0 x1 y0 h=>by
      unfold leaveF at h
      split at h
      · cases h; exact Nat.le_refl _
      · split at h
        · cases h; exact Nat.le_refl _
        · rename_i b hn
          have hb:=nextAt_ok k h0 h1 hn
          exact (comeF_ok k _ _ _ _ _ hb.1 hb.2 x0 x1 (by omega) h).n1
    refine ⟨n1 + n2,v1++v2,e1++e2,by rw [show 1 + n1 + n2 = n1 + n2 + 1 by omega],?_⟩
    have:=Todo.cons (beamIs_from k h0 h1 d0 d1 q1) (by rw [bw]; omega) (n1' d0 d1 hs.1 q1) (Todo.cons (beamIs_from k h0 h1 hd.1 hd.2 q2) (by rw [bw]; omega) (n1' hd.1 hd.2 hs.2.2.1 q2) t)
    simpa [Nat.add_assoc] using this
theorem snoc_of {α:Type} {xs:List α} (h:0 < xs.length):∃ ys y,xs = ys++[y]:=by
  have:xs ≠ []:=fun e=>by subst e; cases h
  exact ⟨xs.dropLast,xs.getLast this,(List.dropLast_concat_getLast this).symm⟩
theorem gt_snoc {α:Type} [Inhabited α] {ys:List α} {y:α}:gt (ys++[y]) ys.length = y:=by
  rw [gt_eq (by simp)]; simp
def editOk (g:Grid) (e:Edit):Bool:=cellOk e.cell && decide (0 ≤ e.at') && decide (e.at' < g.cells.length)
def editsOk (g:Grid) (es:List Edit):Bool:=es.all (editOk g)
def putCell (g:Grid) (e:Edit):Grid:=⟨g.wide,g.cells.set e.at'.toNat e.cell⟩
def gridAfter (g:Grid) (es:List Edit):Grid:=es.foldl putCell g
def gridAt (k:Keeper) (v:Int):Grid:=gridAfter k.first (k.edits.take v.toNat)
theorem gridAfter_same (es:List Edit):∀ g:Grid,(gridAfter g es).wide = g.wide∧(gridAfter g es).cells.length = g.cells.length:=by
  induction es with
  | nil=>intro g; exact ⟨rfl,rfl⟩
  | cons e es ih=>
    intro g
    obtain ⟨h1,h2⟩:=ih (putCell g e)
    exact ⟨h1,by rw [show gridAfter g (e :: es) = gridAfter (putCell g e) es from rfl,h2]; simp [putCell]⟩
theorem gridAfter_snoc (g:Grid) (es:List Edit) (e:Edit):gridAfter g (es++[e]) = putCell (gridAfter g es) e:=by simp [gridAfter]
theorem gridAfter_step {g:Grid} {es:List Edit} {i:Nat} (h:i < es.length):gridAfter g (es.take (i + 1)) = putCell (gridAfter g (es.take i)) (gt es i):=by
  rw [take_succ_gt h,gridAfter_snoc]
theorem editOk_congr {g g':Grid} (h:g.cells.length = g'.cells.length) (e:Edit):editOk g e = editOk g' e:=by unfold editOk; rw [h]
theorem editsOk_congr {g g':Grid} (h:g.cells.length = g'.cells.length) (es:List Edit):editsOk g es = editsOk g' es:=by
  unfold editsOk; congr 1; funext e; exact editOk_congr h e
theorem editOk_is {g:Grid} {e:Edit} (h:editOk g e = true):cellOk e.cell = true∧0 ≤ e.at'∧e.at' < g.cells.length:=by
  simp only [editOk,Bool.and_eq_true,decide_eq_true_eq] at h; exact ⟨h.1.1,h.1.2,h.2⟩
theorem editsOk_at {g:Grid} {es:List Edit} (h:editsOk g es = true) {i:Nat} (hi:i < es.length):editOk g (gt es i) = true:=by
  rw [gt_eq hi]; exact List.all_eq_true.1 h _ (List.getElem_mem hi)
theorem gridOk_put {g:Grid} {e:Edit} (h:gridOk g = true) (he:editOk g e = true):gridOk (putCell g e) = true:=by
  obtain ⟨h1,h2⟩:=(gridOk_iff g).1 h
  refine (gridOk_iff _).2 ⟨h1,?_⟩
  simp only [putCell,List.length_set]
  refine ⟨h2.1,h2.2.1,h2.2.2.1,List.all_eq_true.2 fun c hc=>?_⟩
  rcases List.mem_or_eq_of_mem_set hc with hc | rfl
  · exact List.all_eq_true.1 h2.2.2.2 c hc
  · exact (editOk_is he).1
theorem gridAfter_ok {es:List Edit}:∀ {g:Grid},gridOk g = true→editsOk g es = true→gridOk (gridAfter g es) = true:=by
  induction es with
  | nil=>intro g h _; exact h
  | cons e es ih=>
    intro g h he
    simp only [editsOk,List.all_cons,Bool.and_eq_true] at he
    refine ih (g:=putCell g e) (gridOk_put h he.1) ?_
    rw [show editsOk (putCell g e) es = editsOk g es from editsOk_congr (by simp [putCell]) es]; exact he.2
theorem editsOk_take {g:Grid} {es:List Edit} (h:editsOk g es = true) (i:Nat):editsOk g (es.take i) = true:=
  List.all_eq_true.2 fun e he=>List.all_eq_true.1 h e (List.mem_of_mem_take he)
theorem gridAt_ok {k:Keeper} (h:gridOk k.first = true) (he:editsOk k.first k.edits = true) (v:Int):gridOk (gridAt k v) = true:=gridAfter_ok h (editsOk_take he _)
theorem manyOf_same {g g':Grid} (h1:g.wide = g'.wide) (h2:g.cells.length = g'.cells.length):manyOf g = manyOf g':=by unfold manyOf rowsOf; rw [h1,h2]
theorem gridAt_many (k:Keeper) (v:Int):manyOf (gridAt k v) = manyOf k.first:=manyOf_same (gridAfter_same _ _).1 (gridAfter_same _ _).2
def ownCnt (S many id:Nat):Nat:=(S + many - id) / many
def ownList (S many id:Nat):List Int:=(List.range (ownCnt S many id)).map fun j=>((id - 1 + j * many:Nat):Int)
def ownLights (pic:List Int) (S many id:Nat):List Int:=(ownList S many id).map fun k=>gt pic k.toNat
def partLights (k:Keeper) (id:Nat) (v:Int):List Int:=ownLights (picOf (gridAt k v)) (manyOf k.first).toNat k.parts.length id
theorem ownCnt_lt {S many id j:Nat} (h1:1 ≤ id) (h2:id ≤ many) (h3:many ≤ 3):j < ownCnt S many id ↔ id - 1 + j * many < S:=by
  unfold ownCnt
  have:many = 1 ∨ many = 2 ∨ many = 3:=by omega
  rcases this with rfl | rfl | rfl <;> omega
theorem ownList_len (S many id:Nat):(ownList S many id).length = ownCnt S many id:=by simp [ownList]
theorem ownList_at {S many id j:Nat} (h:j < ownCnt S many id):gt (ownList S many id) j = ((id - 1 + j * many:Nat):Int):=by
  rw [gt_eq (by rw [ownList_len]; exact h)]; simp [ownList]
theorem ownList_step (many id n:Nat):((List.range (n + 1)).map fun j=>((id - 1 + j * many:Nat):Int)) = ((List.range n).map fun j=>((id - 1 + j * many:Nat):Int))++[((id - 1 + n * many:Nat):Int)]:=by
  rw [List.range_succ,List.map_append]; rfl
def verOk (k:Keeper) (v:Int):Bool:=decide (0 ≤ v) && decide (v ≤ k.edits.length)
def partOk (k:Keeper) (id:Nat) (p:Part):Bool:=
  if p.has = true then verOk k p.ver && decide (p.lights = partLights k id p.ver) else decide (p.ver = 0) && decide (p.lights.length = 0)
def prevVer (k:Keeper) (i:Nat):Int:=if i = 0 then -1 else (gt k.shown (i - 1)).ver
def shownOk (k:Keeper) (i:Nat):Bool:=verOk k (gt k.shown i).ver && decide (prevVer k i < (gt k.shown i).ver) && decide ((gt k.shown i).pic = picOf (gridAt k (gt k.shown i).ver))
def partsOk (k:Keeper) (n:Nat):Bool:=(List.range n).all fun i=>partOk k (i + 1) (gt k.parts i)
def shownsOk (k:Keeper) (n:Nat):Bool:=(List.range n).all (shownOk k)
def keepHead (k:Keeper):Bool:=gridOk k.first && (decide (1 ≤ k.parts.length) && decide (k.parts.length ≤ 3)) && (decide (k.edits.length ≤ 60) && editsOk k.first k.edits)
def keepOk (k:Keeper):Bool:=keepHead k && partsOk k k.parts.length && shownsOk k k.shown.length
theorem partsOk_step (k:Keeper) (n:Nat):partsOk k (n + 1) = (partsOk k n && partOk k (n + 1) (gt k.parts n)):=by simp [partsOk,List.range_succ]
theorem shownsOk_step (k:Keeper) (n:Nat):shownsOk k (n + 1) = (shownsOk k n && shownOk k n):=by simp [shownsOk,List.range_succ]
theorem partsOk_F {k:Keeper} {i n:Nat} (hi:i < n) (h:partOk k (i + 1) (gt k.parts i) = false):partsOk k n = false:=by
  cases e:partsOk k n with
  | false=>rfl
  | true=>have:=List.all_eq_true.1 e i (List.mem_range.2 hi); rw [h] at this; cases this
theorem shownsOk_F {k:Keeper} {i n:Nat} (hi:i < n) (h:shownOk k i = false):shownsOk k n = false:=by
  cases e:shownsOk k n with
  | false=>rfl
  | true=>have:=List.all_eq_true.1 e i (List.mem_range.2 hi); rw [h] at this; cases this
structure HeadOk (k:Keeper):Prop where
  grid:gridOk k.first = true
  n1:1 ≤ k.parts.length
  n3:k.parts.length ≤ 3
  e60:k.edits.length ≤ 60
  edits:editsOk k.first k.edits = true
theorem keepHead_is {k:Keeper} (h:keepHead k = true):HeadOk k:=by
  simp only [keepHead,Bool.and_eq_true,decide_eq_true_eq] at h
  exact ⟨h.1.1,h.1.2.1,h.1.2.2,h.2.1,h.2.2⟩
theorem HeadOk.is {k:Keeper} (h:HeadOk k):keepHead k = true:=by
  simp only [keepHead,Bool.and_eq_true,decide_eq_true_eq]
  exact ⟨⟨h.grid,h.n1,h.n3⟩,h.e60,h.edits⟩
theorem ownLights_len (pic:List Int) (S many id:Nat):(ownLights pic S many id).length = ownCnt S many id:=by rw [ownLights,List.length_map,ownList_len]
theorem partLights_le {k:Keeper} (hk:HeadOk k) (id:Nat) (v:Int):(partLights k id v).length ≤ 30:=by
  rw [partLights,ownLights_len]
  have h1:=(gok hk.grid).many
  have h2:=hk.n3
  have:ownCnt (manyOf k.first).toNat k.parts.length id ≤ (manyOf k.first).toNat + k.parts.length - id:=Nat.div_le_self _ _
  omega
def keepGrid (k:Keeper) (v:Int):Grid × Bool:=if keepOk k && verOk k v then (gridAt k v,true) else (noGrid,false)
def noEdit:Edit:=⟨0,⟨0,0⟩⟩
def noWord:Word:=⟨0,0,0,0,noGrid,noEdit,[]⟩
def toldTo (k:Keeper) (z:Int):Word:=
  let p:=gt k.parts (z - 1).toNat
  if p.has = true∧(1 ≤ (k.edits.length:Int) - p.ver∧(k.edits.length:Int) - p.ver ≤ 2) then ⟨2,z,0,p.ver + 1,noGrid,gt k.edits p.ver.toNat,[]⟩
  else ⟨1,z,0,k.edits.length,gridAt k k.edits.length,noEdit,[]⟩
def keepTell (k:Keeper) (z:Int):Word × Bool:=if keepOk k = true∧1 ≤ z∧z ≤ k.parts.length then (toldTo k z,true) else (noWord,false)
theorem verOk_all (k:Keeper):verOk k k.edits.length = true:=by simp [verOk]
theorem keepOk_part {k:Keeper} (h:keepOk k = true) {i:Nat} (hi:i < k.parts.length):partOk k (i + 1) (gt k.parts i) = true:=by
  simp only [keepOk,Bool.and_eq_true] at h
  exact List.all_eq_true.1 h.1.2 i (List.mem_range.2 hi)
theorem keepOk_head {k:Keeper} (h:keepOk k = true):HeadOk k:=by
  simp only [keepOk,Bool.and_eq_true] at h
  exact keepHead_is h.1.1
theorem partOk_ver {k:Keeper} {i:Nat} {p:Part} (h:partOk k i p = true) (hp:p.has = true):0 ≤ p.ver∧p.ver ≤ k.edits.length:=by
  unfold partOk at h
  rw [if_pos hp] at h
  simp only [verOk,Bool.and_eq_true,decide_eq_true_eq] at h
  exact h.1
def withEdit (k:Keeper) (e:Edit):Keeper:={ k with edits:=k.edits++[e] }
theorem szKeeper_parts {k:Keeper} (h:szKeeperN k ≤ 1048576):k.first.cells.length ≤ 1048576∧k.edits.length ≤ 1048576∧szPartSN k.parts ≤ 1048576∧szShownSN k.shown ≤ 1048576:=by
  unfold szKeeperN at h
  first|(simp only [szGridN] at h; refine ⟨?_,?_,?_,?_⟩ <;> omega) | (refine ⟨?_,?_,?_,?_⟩ <;> omega)
def pubPic (k:Keeper):List Int:=(List.range (manyOf k.first).toNat).map fun s=>gt (gt k.parts (s % k.parts.length)).lights (s / k.parts.length)
def partsSame (k:Keeper) (n:Nat):Bool:=(List.range n).all fun i=>(gt k.parts i).has && decide ((gt k.parts i).ver = (gt k.parts 0).ver)
def shownNewer (k:Keeper):Bool:=decide (k.shown.length = 0) || decide ((gt k.shown (k.shown.length - 1)).ver < (gt k.parts 0).ver)
def published (k:Keeper):Keeper:=if partsSame k k.parts.length && shownNewer k then { k with shown:=k.shown++[⟨(gt k.parts 0).ver,pubPic k⟩] } else k
def setPart (k:Keeper) (i:Nat) (p:Part):Keeper:={ k with parts:=k.parts.set i p }
def takesWord (k:Keeper) (w:Word):Bool:=verOk k w.ver && decide (w.lights.length = ownCnt (manyOf k.first).toNat k.parts.length w.frm.toNat)
def heard (k:Keeper) (w:Word):Keeper:=
  if 1 ≤ w.frm∧w.frm ≤ k.parts.length then
    if w.kind = 4 then setPart k (w.frm.toNat - 1) noPart
    else if w.kind = 3∧takesWord k w = true then published (setPart k (w.frm.toNat - 1) ⟨true,w.ver,w.lights⟩) else k
  else k
theorem partsSame_step (k:Keeper) (n:Nat):partsSame k (n + 1) = (partsSame k n && ((gt k.parts n).has && decide ((gt k.parts n).ver = (gt k.parts 0).ver))):=by simp [partsSame,List.range_succ]
theorem partsSame_F {k:Keeper} {i n:Nat} (hi:i < n) (h:((gt k.parts i).has && decide ((gt k.parts i).ver = (gt k.parts 0).ver)) = false):partsSame k n = false:=by
  cases e:partsSame k n with
  | false=>rfl
  | true=>have:=List.all_eq_true.1 e i (List.mem_range.2 hi); rw [h] at this; cases this
end Go.Sl

/- The program's data with depth. No program. -/
import Derived.Test.YtcpkcmgjfcbnpaaGreatDoorSmF
set_option linter.unusedVariables false
set_option linter.unusedSimpArgs false
set_option linter.unusedSectionVars false

namespace Go.Sl
open Go Go.Conc PHeap
theorem allOne_app {a b:List Value} (x:AllOne a) (y:AllOne b):AllOne (a++b):=⟨by unfold allOne; rw [List.all_append]; simp only [Bool.and_eq_true]; exact ⟨x.is,y.is⟩⟩
theorem allOne_v {v:Value} (o:One v):AllOne [v]:=inferInstance
theorem inb_l {h:PHeap} {A B:Own} (i:InB h (A++B)):InB h A:=⟨fun b o m=>i.at' b o (by simp [m])⟩
theorem inb_r {h:PHeap} {A B:Own} (i:InB h (A++B)):InB h B:=⟨fun b o m=>i.at' b o (by simp [m])⟩
def flatR {α:Type} (E:Flat α) (one:∀ x,allOne (E.f x) = true):Rep α:={
  sz:=E.sz
  B _ cs x:=cs = E.f x
  O A cs x:=A = []∧cs = E.f x
  lenB e:=by rw [e,E.len]
  lenO e:=by rw [e.2,E.len]
  oneB e:=⟨by rw [e]; exact one _⟩
  oneO e:=⟨by rw [e.2]; exact one _⟩
  lent e _:=e.2
  up _ e:=e }
def sliceF {α:Type} (E:Flat α) (T:TypeId):Rep (List α):={
  sz:=1
  B h cs xs:=∃ v,cs = [v]∧Sl h v E xs
  O A cs xs:=∃ v,cs = [v]∧Gr A v T E xs∧xs.length ≤ 281474976710656
  lenB:=by rintro _ _ _ ⟨v,rfl,_⟩; rfl
  lenO:=by rintro _ _ _ ⟨v,rfl,_⟩; rfl
  oneB:=by rintro _ _ _ ⟨v,rfl,s⟩; exact allOne_v s.one
  oneO:=by rintro _ _ _ ⟨v,rfl,s,_⟩; exact allOne_v s.one
  lent:=by rintro _ _ _ _ ⟨v,rfl,s,l⟩ i; exact ⟨v,rfl,s.lent l i⟩
  up:=by rintro _ _ _ _ l ⟨v,rfl,s⟩; exact ⟨v,rfl,s.le l.le⟩ }
def sliceR {α:Type} (R:Rep α) (T:TypeId):Rep (List α):={
  sz:=1
  B h cs xs:=∃ v,cs = [v]∧SlR R h v xs
  O A cs xs:=∃ v,cs = [v]∧GrR R A v T xs
  lenB:=by rintro _ _ _ ⟨v,rfl,_⟩; rfl
  lenO:=by rintro _ _ _ ⟨v,rfl,_⟩; rfl
  oneB:=by rintro _ _ _ ⟨v,rfl,s⟩; exact allOne_v s.one
  oneO:=by rintro _ _ _ ⟨v,rfl,s⟩; exact allOne_v s.one
  lent:=by rintro _ _ _ _ ⟨v,rfl,s⟩ i; exact ⟨v,rfl,s.lent i⟩
  up:=by rintro _ _ _ _ l ⟨v,rfl,s⟩; exact ⟨v,rfl,s.up l⟩ }
def prodR {α β:Type} (R:Rep α) (S:Rep β):Rep (α × β):={
  sz:=R.sz + S.sz
  B h cs x:=∃ c1 c2,cs = c1++c2∧R.B h c1 x.1∧S.B h c2 x.2
  O A cs x:=∃ c1 c2 A1 A2,cs = c1++c2∧A = A1++A2∧R.O A1 c1 x.1∧S.O A2 c2 x.2
  lenB:=by rintro _ _ _ ⟨c1,c2,rfl,a,b⟩; rw [List.length_append,R.lenB a,S.lenB b]
  lenO:=by rintro _ _ _ ⟨c1,c2,_,_,rfl,rfl,a,b⟩; rw [List.length_append,R.lenO a,S.lenO b]
  oneB:=by rintro _ _ _ ⟨c1,c2,rfl,a,b⟩; exact allOne_app (R.oneB a) (S.oneB b)
  oneO:=by rintro _ _ _ ⟨c1,c2,_,_,rfl,rfl,a,b⟩; exact allOne_app (R.oneO a) (S.oneO b)
  lent:=by rintro _ _ _ _ ⟨c1,c2,_,_,rfl,rfl,a,b⟩ i; exact ⟨c1,c2,rfl,R.lent a (inb_l i),S.lent b (inb_r i)⟩
  up:=by rintro _ _ _ _ l ⟨c1,c2,rfl,a,b⟩; exact ⟨c1,c2,rfl,R.up l a,S.up l b⟩ }
def mapR {α β:Type} (R:Rep α) (f:β→α):Rep β:={
  sz:=R.sz
  B h cs x:=R.B h cs (f x)
  O A cs x:=R.O A cs (f x)
  lenB a:=R.lenB a
  lenO a:=R.lenO a
  oneB a:=R.oneB a
  oneO a:=R.oneO a
  lent a i:=R.lent a i
  up l a:=R.up l a }
def intR:Rep Int:=flatR intF fun _=>rfl
def boolR:Rep Bool:=flatR boolF fun _=>rfl
def editR:Rep Edit:=flatR editF fun _=>rfl
structure Scene where
  grid:Grid
  lights:List Int
  feet:List (List Int)
deriving Inhabited,DecidableEq
structure Painter where
  up:Bool
  has:Bool
  ver:Int
  scene:Scene
deriving Inhabited,DecidableEq
structure Word where
  kind:Int
  to:Int
  frm:Int
  ver:Int
  grid:Grid
  edit:Edit
  lights:List Int
deriving Inhabited,DecidableEq
structure Part where
  has:Bool
  ver:Int
  lights:List Int
deriving Inhabited,DecidableEq
structure Shown where
  ver:Int
  pic:List Int
deriving Inhabited,DecidableEq
structure Keeper where
  first:Grid
  edits:List Edit
  parts:List Part
  shown:List Shown
deriving Inhabited,DecidableEq
structure World' where
  keeper:Keeper
  painters:List Painter
  nets:List Word
deriving Inhabited,DecidableEq
structure Event' where
  kind:Int
  a:Int
  edit:Edit
deriving Inhabited,DecidableEq
def eventF:Flat Event':=⟨5,fun c=>[.int .i64 c.kind,.int .i64 c.a,.int .i64 c.edit.at',.int .i64 c.edit.cell.kind,.int .i64 c.edit.cell.light],fun _=>rfl⟩
instance {a b c d e:Int}:ToFlat eventF [.int .i64 a,.int .i64 b,.int .i64 c,.int .i64 d,.int .i64 e] ⟨a,b,c,d,e⟩:=⟨rfl⟩
instance:FlatOne eventF:=⟨fun _=>rfl⟩
structure Tys where
  int:TypeId
  cell:TypeId
  edit:TypeId
  ints:TypeId
  part:TypeId
  shown:TypeId
  painter:TypeId
  word:TypeId
  event:TypeId
section
variable (τ:Tys)
def gridR:Rep Grid:=mapR (prodR intR (sliceF cellF τ.cell)) fun g=>(g.wide,g.cells)
def intSR:Rep (List Int):=sliceF intF τ.int
def intSSR:Rep (List (List Int)):=sliceR (intSR τ) τ.ints
def editSR:Rep (List Edit):=sliceF editF τ.edit
def sceneR:Rep Scene:=mapR (prodR (gridR τ) (prodR (intSR τ) (intSSR τ))) fun s=>(s.grid,s.lights,s.feet)
def partR:Rep Part:=mapR (prodR boolR (prodR intR (intSR τ))) fun p=>(p.has,p.ver,p.lights)
def shownR:Rep Shown:=mapR (prodR intR (intSR τ)) fun p=>(p.ver,p.pic)
def keeperR:Rep Keeper:=mapR (prodR (gridR τ) (prodR (editSR τ) (prodR (sliceR (partR τ) τ.part) (sliceR (shownR τ) τ.shown)))) fun k=>(k.first,k.edits,k.parts,k.shown)
def painterR:Rep Painter:=mapR (prodR boolR (prodR boolR (prodR intR (sceneR τ)))) fun p=>(p.up,p.has,p.ver,p.scene)
def wordR:Rep Word:=mapR (prodR intR (prodR intR (prodR intR (prodR intR (prodR (gridR τ) (prodR editR (intSR τ))))))) fun w=>(w.kind,w.to,w.frm,w.ver,w.grid,w.edit,w.lights)
def worldR:Rep World':=mapR (prodR (keeperR τ) (prodR (sliceR (painterR τ) τ.painter) (sliceR (wordR τ) τ.word))) fun w=>(w.keeper,w.painters,w.nets)
variable {τ:Tys} {h:PHeap} {A:Own} {cs:List Value}
theorem gridB {g:Grid} (b:(gridR τ).B h cs g):∃ c,cs = [.int .i64 g.wide,c]∧Sl h c cellF g.cells:=by
  obtain ⟨_,_,rfl,rfl,v,rfl,s⟩:=b; exact ⟨v,rfl,s⟩
theorem gridB_mk {g:Grid} {c:Value} (s:Sl h c cellF g.cells):(gridR τ).B h [.int .i64 g.wide,c] g:=⟨[_],[_],rfl,rfl,_,rfl,s⟩
theorem gridO {g:Grid} (b:(gridR τ).O A cs g):∃ c,cs = [.int .i64 g.wide,c]∧Gr A c τ.cell cellF g.cells∧g.cells.length ≤ 281474976710656:=by
  obtain ⟨_,_,_,_,rfl,rfl,⟨rfl,rfl⟩,v,rfl,s⟩:=b; exact ⟨v,rfl,s⟩
theorem gridO_mk {g:Grid} {c:Value} (s:Gr A c τ.cell cellF g.cells) (hs:g.cells.length ≤ 281474976710656):(gridR τ).O A [.int .i64 g.wide,c] g:=⟨[_],[_],[],A,rfl,rfl,⟨rfl,rfl⟩,_,rfl,s,hs⟩
theorem sceneB {s:Scene} (b:(sceneR τ).B h cs s):∃ c l f,cs = [.int .i64 s.grid.wide,c,l,f]∧Sl h c cellF s.grid.cells∧Sl h l intF s.lights∧SlR (intSR τ) h f s.feet:=by
  obtain ⟨_,_,rfl,⟨_,_,rfl,rfl,c,rfl,s1⟩,_,_,rfl,⟨l,rfl,s2⟩,f,rfl,s3⟩:=b; exact ⟨c,l,f,rfl,s1,s2,s3⟩
theorem sceneB_mk {s:Scene} {c l f:Value} (s1:Sl h c cellF s.grid.cells) (s2:Sl h l intF s.lights) (s3:SlR (intSR τ) h f s.feet):(sceneR τ).B h [.int .i64 s.grid.wide,c,l,f] s:=⟨[_,_],[_,_],rfl,gridB_mk s1,[_],[_],rfl,⟨_,rfl,s2⟩,_,rfl,s3⟩
theorem sceneO {s:Scene} (b:(sceneR τ).O A cs s):∃ c l f A1 A2 A3,cs = [.int .i64 s.grid.wide,c,l,f]∧A = A1++(A2++A3)∧(Gr A1 c τ.cell cellF s.grid.cells∧s.grid.cells.length ≤ 281474976710656)∧(Gr A2 l τ.int intF s.lights∧s.lights.length ≤ 281474976710656)∧GrR (intSR τ) A3 f τ.ints s.feet:=by
  obtain ⟨_,_,_,_,rfl,rfl,g,_,_,_,_,rfl,rfl,⟨l,rfl,s2⟩,f,rfl,s3⟩:=b
  obtain ⟨c,rfl,s1⟩:=gridO g
  exact ⟨c,l,f,_,_,_,rfl,rfl,s1,s2,s3⟩
theorem sceneO_mk {s:Scene} {c l f:Value} {A1 A2 A3:Own} (s1:Gr A1 c τ.cell cellF s.grid.cells) (l1:s.grid.cells.length ≤ 281474976710656) (s2:Gr A2 l τ.int intF s.lights) (l2:s.lights.length ≤ 281474976710656) (s3:GrR (intSR τ) A3 f τ.ints s.feet):(sceneR τ).O (A1++(A2++A3)) [.int .i64 s.grid.wide,c,l,f] s:=
  ⟨[_,_],[_,_],_,_,rfl,rfl,gridO_mk s1 l1,[_],[_],_,_,rfl,rfl,⟨_,rfl,s2,l2⟩,_,rfl,s3⟩
theorem partB {p:Part} (b:(partR τ).B h cs p):∃ l,cs = [.bool p.has,.int .i64 p.ver,l]∧Sl h l intF p.lights:=by
  obtain ⟨_,_,rfl,rfl,_,_,rfl,rfl,l,rfl,s⟩:=b; exact ⟨l,rfl,s⟩
theorem partO {p:Part} (b:(partR τ).O A cs p):∃ l,cs = [.bool p.has,.int .i64 p.ver,l]∧Gr A l τ.int intF p.lights∧p.lights.length ≤ 281474976710656:=by
  obtain ⟨_,_,_,_,rfl,rfl,⟨rfl,rfl⟩,_,_,_,_,rfl,rfl,⟨rfl,rfl⟩,l,rfl,s⟩:=b; exact ⟨l,rfl,s⟩
theorem partO_mk {p:Part} {l:Value} (s:Gr A l τ.int intF p.lights) (hs:p.lights.length ≤ 281474976710656):(partR τ).O A [.bool p.has,.int .i64 p.ver,l] p:=⟨[_],[_,_],[],A,rfl,rfl,⟨rfl,rfl⟩,[_],[_],[],A,rfl,rfl,⟨rfl,rfl⟩,_,rfl,s,hs⟩
theorem shownB {p:Shown} (b:(shownR τ).B h cs p):∃ l,cs = [.int .i64 p.ver,l]∧Sl h l intF p.pic:=by
  obtain ⟨_,_,rfl,rfl,l,rfl,s⟩:=b; exact ⟨l,rfl,s⟩
theorem shownO {p:Shown} (b:(shownR τ).O A cs p):∃ l,cs = [.int .i64 p.ver,l]∧Gr A l τ.int intF p.pic∧p.pic.length ≤ 281474976710656:=by
  obtain ⟨_,_,_,_,rfl,rfl,⟨rfl,rfl⟩,l,rfl,s⟩:=b; exact ⟨l,rfl,s⟩
theorem shownO_mk {p:Shown} {l:Value} (s:Gr A l τ.int intF p.pic) (hs:p.pic.length ≤ 281474976710656):(shownR τ).O A [.int .i64 p.ver,l] p:=⟨[_],[_],[],A,rfl,rfl,⟨rfl,rfl⟩,_,rfl,s,hs⟩
theorem keeperB {k:Keeper} (b:(keeperR τ).B h cs k):∃ c e p s,cs = [.int .i64 k.first.wide,c,e,p,s]∧Sl h c cellF k.first.cells∧Sl h e editF k.edits∧SlR (partR τ) h p k.parts∧SlR (shownR τ) h s k.shown:=by
  obtain ⟨_,_,rfl,g,_,_,rfl,⟨e,rfl,s2⟩,_,_,rfl,⟨p,rfl,s3⟩,s,rfl,s4⟩:=b
  obtain ⟨c,rfl,s1⟩:=gridB g
  exact ⟨c,e,p,s,rfl,s1,s2,s3,s4⟩
theorem keeperB_mk {k:Keeper} {c e p s:Value} (s1:Sl h c cellF k.first.cells) (s2:Sl h e editF k.edits) (s3:SlR (partR τ) h p k.parts) (s4:SlR (shownR τ) h s k.shown):(keeperR τ).B h [.int .i64 k.first.wide,c,e,p,s] k:=
  ⟨[_,_],[_,_,_],rfl,gridB_mk s1,[_],[_,_],rfl,⟨_,rfl,s2⟩,[_],[_],rfl,⟨_,rfl,s3⟩,_,rfl,s4⟩
theorem keeperO {k:Keeper} (b:(keeperR τ).O A cs k):∃ c e p s A1 A2 A3 A4,cs = [.int .i64 k.first.wide,c,e,p,s]∧A = A1++(A2++(A3++A4))∧(Gr A1 c τ.cell cellF k.first.cells∧k.first.cells.length ≤ 281474976710656)∧(Gr A2 e τ.edit editF k.edits∧k.edits.length ≤ 281474976710656)∧GrR (partR τ) A3 p τ.part k.parts∧GrR (shownR τ) A4 s τ.shown k.shown:=by
  obtain ⟨_,_,_,_,rfl,rfl,g,_,_,_,_,rfl,rfl,⟨e,rfl,s2⟩,_,_,_,_,rfl,rfl,⟨p,rfl,s3⟩,s,rfl,s4⟩:=b
  obtain ⟨c,rfl,s1⟩:=gridO g
  exact ⟨c,e,p,s,_,_,_,_,rfl,rfl,s1,s2,s3,s4⟩
theorem keeperO_mk {k:Keeper} {c e p s:Value} {A1 A2 A3 A4:Own} (s1:Gr A1 c τ.cell cellF k.first.cells) (l1:k.first.cells.length ≤ 281474976710656) (s2:Gr A2 e τ.edit editF k.edits) (l2:k.edits.length ≤ 281474976710656) (s3:GrR (partR τ) A3 p τ.part k.parts) (s4:GrR (shownR τ) A4 s τ.shown k.shown):(keeperR τ).O (A1++(A2++(A3++A4))) [.int .i64 k.first.wide,c,e,p,s] k:=
  ⟨[_,_],[_,_,_],_,_,rfl,rfl,gridO_mk s1 l1,[_],[_,_],_,_,rfl,rfl,⟨_,rfl,s2,l2⟩,[_],[_],_,_,rfl,rfl,⟨_,rfl,s3⟩,_,rfl,s4⟩
theorem painterB {p:Painter} (b:(painterR τ).B h cs p):∃ c l f,cs = [.bool p.up,.bool p.has,.int .i64 p.ver,.int .i64 p.scene.grid.wide,c,l,f]∧Sl h c cellF p.scene.grid.cells∧Sl h l intF p.scene.lights∧SlR (intSR τ) h f p.scene.feet:=by
  obtain ⟨_,_,rfl,rfl,_,_,rfl,rfl,_,_,rfl,rfl,q⟩:=b
  obtain ⟨c,l,f,rfl,q2⟩:=sceneB q
  exact ⟨c,l,f,rfl,q2⟩
theorem painterB_mk {p:Painter} {c l f:Value} (s1:Sl h c cellF p.scene.grid.cells) (s2:Sl h l intF p.scene.lights) (s3:SlR (intSR τ) h f p.scene.feet):(painterR τ).B h [.bool p.up,.bool p.has,.int .i64 p.ver,.int .i64 p.scene.grid.wide,c,l,f] p:=
  ⟨[_],_,rfl,rfl,[_],_,rfl,rfl,[_],_,rfl,rfl,sceneB_mk s1 s2 s3⟩
theorem painterO {p:Painter} (b:(painterR τ).O A cs p):∃ c l f A1 A2 A3,cs = [.bool p.up,.bool p.has,.int .i64 p.ver,.int .i64 p.scene.grid.wide,c,l,f]∧A = A1++(A2++A3)∧(Gr A1 c τ.cell cellF p.scene.grid.cells∧p.scene.grid.cells.length ≤ 281474976710656)∧(Gr A2 l τ.int intF p.scene.lights∧p.scene.lights.length ≤ 281474976710656)∧GrR (intSR τ) A3 f τ.ints p.scene.feet:=by
  obtain ⟨_,_,_,_,rfl,rfl,⟨rfl,rfl⟩,_,_,_,_,rfl,rfl,⟨rfl,rfl⟩,_,_,_,_,rfl,rfl,⟨rfl,rfl⟩,q⟩:=b
  obtain ⟨c,l,f,A1,A2,A3,rfl,e,q2⟩:=sceneO q
  exact ⟨c,l,f,A1,A2,A3,rfl,by simpa using e,q2⟩
theorem painterO_mk {p:Painter} {c l f:Value} {A1 A2 A3:Own} (s1:Gr A1 c τ.cell cellF p.scene.grid.cells) (l1:p.scene.grid.cells.length ≤ 281474976710656) (s2:Gr A2 l τ.int intF p.scene.lights) (l2:p.scene.lights.length ≤ 281474976710656) (s3:GrR (intSR τ) A3 f τ.ints p.scene.feet):(painterR τ).O (A1++(A2++A3)) [.bool p.up,.bool p.has,.int .i64 p.ver,.int .i64 p.scene.grid.wide,c,l,f] p:=
  ⟨[_],_,[],_,rfl,rfl,⟨rfl,rfl⟩,[_],_,[],_,rfl,rfl,⟨rfl,rfl⟩,[_],_,[],_,rfl,rfl,⟨rfl,rfl⟩,sceneO_mk s1 l1 s2 l2 s3⟩
abbrev wordCs (w:Word) (c l:Value):List Value:=[.int .i64 w.kind,.int .i64 w.to,.int .i64 w.frm,.int .i64 w.ver,.int .i64 w.grid.wide,c,.int .i64 w.edit.at',.int .i64 w.edit.cell.kind,.int .i64 w.edit.cell.light,l]
theorem wordB {w:Word} (b:(wordR τ).B h cs w):∃ c l,cs = wordCs w c l∧Sl h c cellF w.grid.cells∧Sl h l intF w.lights:=by
  obtain ⟨_,_,rfl,rfl,_,_,rfl,rfl,_,_,rfl,rfl,_,_,rfl,rfl,_,_,rfl,g,_,_,rfl,rfl,l,rfl,s2⟩:=b
  obtain ⟨c,rfl,s1⟩:=gridB g
  exact ⟨c,l,rfl,s1,s2⟩
theorem wordO {w:Word} (b:(wordR τ).O A cs w):∃ c l A1 A2,cs = wordCs w c l∧A = A1++A2∧(Gr A1 c τ.cell cellF w.grid.cells∧w.grid.cells.length ≤ 281474976710656)∧(Gr A2 l τ.int intF w.lights∧w.lights.length ≤ 281474976710656):=by
  obtain ⟨_,_,_,_,rfl,rfl,⟨rfl,rfl⟩,_,_,_,_,rfl,rfl,⟨rfl,rfl⟩,_,_,_,_,rfl,rfl,⟨rfl,rfl⟩,_,_,_,_,rfl,rfl,⟨rfl,rfl⟩,_,_,_,_,rfl,rfl,g,_,_,_,_,rfl,rfl,⟨rfl,rfl⟩,l,rfl,s2⟩:=b
  obtain ⟨c,rfl,s1⟩:=gridO g
  exact ⟨c,l,_,_,rfl,by simp,s1,s2⟩
theorem wordO_mk {w:Word} {c l:Value} {A1 A2:Own} (s1:Gr A1 c τ.cell cellF w.grid.cells) (l1:w.grid.cells.length ≤ 281474976710656) (s2:Gr A2 l τ.int intF w.lights) (l2:w.lights.length ≤ 281474976710656):(wordR τ).O (A1++A2) (wordCs w c l) w:=
  ⟨[_],_,[],_,rfl,rfl,⟨rfl,rfl⟩,[_],_,[],_,rfl,rfl,⟨rfl,rfl⟩,[_],_,[],_,rfl,rfl,⟨rfl,rfl⟩,[_],_,[],_,rfl,rfl,⟨rfl,rfl⟩,[_,_],_,_,_,rfl,rfl,gridO_mk s1 l1,[_,_,_],_,[],_,rfl,by simp,⟨rfl,rfl⟩,_,rfl,s2,l2⟩
theorem worldB {w:World'} (b:(worldR τ).B h cs w):∃ c e p s ps ns,cs = [.int .i64 w.keeper.first.wide,c,e,p,s,ps,ns]∧Sl h c cellF w.keeper.first.cells∧Sl h e editF w.keeper.edits∧SlR (partR τ) h p w.keeper.parts∧SlR (shownR τ) h s w.keeper.shown∧SlR (painterR τ) h ps w.painters∧SlR (wordR τ) h ns w.nets:=by
  obtain ⟨_,_,rfl,k,_,_,rfl,⟨ps,rfl,s5⟩,ns,rfl,s6⟩:=b
  obtain ⟨c,e,p,s,rfl,s1,s2,s3,s4⟩:=keeperB k
  exact ⟨c,e,p,s,ps,ns,rfl,s1,s2,s3,s4,s5,s6⟩
theorem worldO_mk {w:World'} {c e p s ps ns:Value} {A1 A2 A3 A4 A5 A6:Own} (s1:Gr A1 c τ.cell cellF w.keeper.first.cells) (l1:w.keeper.first.cells.length ≤ 281474976710656) (s2:Gr A2 e τ.edit editF w.keeper.edits) (l2:w.keeper.edits.length ≤ 281474976710656) (s3:GrR (partR τ) A3 p τ.part w.keeper.parts) (s4:GrR (shownR τ) A4 s τ.shown w.keeper.shown) (s5:GrR (painterR τ) A5 ps τ.painter w.painters) (s6:GrR (wordR τ) A6 ns τ.word w.nets):(worldR τ).O (A1++(A2++(A3++(A4++(A5++A6))))) [.int .i64 w.keeper.first.wide,c,e,p,s,ps,ns] w:=
  ⟨[_,_,_,_,_],[_,_],A1++(A2++(A3++A4)),A5++A6,rfl,by simp,keeperO_mk s1 l1 s2 l2 s3 s4,[_],[_],_,_,rfl,rfl,⟨_,rfl,s5⟩,_,rfl,s6⟩
end
class SzN (n:Nat) (m:outParam Nat):Prop where
  eq:n = m
instance {τ:Tys}:SzN (intSR τ).sz 1:=⟨rfl⟩
instance {τ:Tys}:SzN (partR τ).sz 3:=⟨rfl⟩
instance {τ:Tys}:SzN (shownR τ).sz 2:=⟨rfl⟩
instance {τ:Tys}:SzN (painterR τ).sz 7:=⟨rfl⟩
instance {τ:Tys}:SzN (wordR τ).sz 10:=⟨rfl⟩
instance {n:Nat} {x:List Value} {m:Nat} [s:SzN n m] [hl:LenR x m]:ToFlat (rawF n) x ⟨x,hl.len.trans s.eq.symm⟩:=⟨rfl⟩
end Go.Sl

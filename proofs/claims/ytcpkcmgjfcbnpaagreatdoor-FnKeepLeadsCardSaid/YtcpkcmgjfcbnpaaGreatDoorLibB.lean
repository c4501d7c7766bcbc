/- Rules of a calculus of our own, no program: SpA SpB. -/
import Derived.Test.YtcpkcmgjfcbnpaaGreatDoorSmH
set_option linter.unusedVariables false
set_option linter.unusedSimpArgs false
set_option linter.unusedSectionVars false
namespace Go.Sl
structure Visit where
  at':Int
  dir:Int
  weight:Int
deriving Inhabited,DecidableEq
structure LEnd where
  kind:Int
  where':Int
  weight:Int
deriving Inhabited,DecidableEq
structure Ray where
  at':Int
  dir:Int
deriving Inhabited,DecidableEq
def rowsOf (g:Grid):Int:=(g.cells.length:Int) / g.wide
def manyOf (g:Grid):Int:=2 * (g.wide + rowsOf g)
def dirTurn (kind dir:Int):Int:=
  if kind = 2 ∨ kind = 4 then (if dir = 0 then 1 else if dir = 1 then 0 else if dir = 2 then 3 else 2)
  else if kind = 3 ∨ kind = 5 then 3 - dir else dir
def nextAt (g:Grid) (a dir:Int):Option Int:=
  if dir = 0 then (if g.wide ≤ a then some (a - g.wide) else none)
  else if dir = 1 then (if a % g.wide ≠ g.wide - 1 then some (a + 1) else none)
  else if dir = 2 then (if a + g.wide < g.cells.length then some (a + g.wide) else none)
  else (if a % g.wide ≠ 0 then some (a - 1) else none)
def rayAt (g:Grid) (k:Int):Ray:=
  if k < g.wide then ⟨k,2⟩
  else if k - g.wide < rowsOf g then ⟨(k - g.wide) * g.wide + g.wide - 1,3⟩
  else if k - g.wide - rowsOf g < g.wide then ⟨g.cells.length - 1 - (k - g.wide - rowsOf g),0⟩
  else ⟨g.cells.length - g.wide - (k - g.wide - rowsOf g - g.wide) * g.wide,1⟩
def sightOf (g:Grid) (a dir:Int):Int:=
  match (List.range (manyOf g).toNat).find? (fun k=>decide (rayAt g (k:Nat) = ⟨a,(dir + 2) % 4⟩)) with
  | some k=>k
  | none=>-1
structure Spread where
  pass:Int
  turn:Int
  lost:Int
  stop:Int
deriving Inhabited,DecidableEq
def spread (kind w:Int):Spread:=
  if kind = 0 then ⟨w,0,0,0⟩ else if kind = 2 ∨ kind = 3 then ⟨0,w,0,0⟩ else if kind = 4 ∨ kind = 5 then ⟨w / 2,w / 2,w - w / 2 - w / 2,0⟩
  else if kind = 6 then ⟨w / 2,0,w - w / 2,0⟩ else ⟨0,0,0,w⟩
abbrev Lit:=Nat × List Visit × List LEnd
def endIf (kind a w:Int):List LEnd:=if 0 < w then [⟨kind,a,w⟩] else []
def leaveF (g:Grid) (come:Int→Int→Int→Option Lit) (a dir w:Int):Option Lit:=
  if w = 0 then some (1,[],[]) else match nextAt g a dir with
  | none=>some (1,[],[⟨0,sightOf g a dir,w⟩])
  | some b=>come b dir w
def hereF (g:Grid) (a w:Int):List LEnd:=
  endIf (if (gt g.cells a.toNat).kind = 7 then 2 else 1) a (spread (gt g.cells a.toNat).kind w).stop++endIf 3 a (spread (gt g.cells a.toNat).kind w).lost
def comeF (g:Grid):Nat→Int→Int→Int→Option Lit
  | 0,_,_,_=>none
  | n + 1,a,dir,w=>
    match leaveF g (comeF g n) a dir (spread (gt g.cells a.toNat).kind w).pass,leaveF g (comeF g n) a (dirTurn (gt g.cells a.toNat).kind dir) (spread (gt g.cells a.toNat).kind w).turn with
    | some (n1,v1,e1),some (n2,v2,e2)=>some (1 + n1 + n2,⟨a,dir,w⟩ :: (v1++v2),hereF g a w++(e1++e2))
    | _,_=>none
theorem comeF_eq {g : Grid} {n : Nat} {a dir w : Int} {n1 n2 : Nat} {v1 v2 : List Visit} {e1 e2 : List LEnd}
    (h1:leaveF g (comeF g n) a dir (spread (gt g.cells a.toNat).kind w).pass = some (n1,v1,e1))
    (h2:leaveF g (comeF g n) a (dirTurn (gt g.cells a.toNat).kind dir) (spread (gt g.cells a.toNat).kind w).turn = some (n2,v2,e2)) :
    comeF g (n + 1) a dir w = some (1 + n1 + n2,⟨a,dir,w⟩ :: (v1++v2),hereF g a w++(e1++e2)):=by
  simp only [comeF,h1,h2]
theorem comeF_inv {g : Grid} {n : Nat} {a dir w : Int} {r : Lit} (h : comeF g (n + 1) a dir w = some r) : ∃ n1 v1 e1 n2 v2 e2,
    leaveF g (comeF g n) a dir (spread (gt g.cells a.toNat).kind w).pass = some (n1,v1,e1) ∧
    leaveF g (comeF g n) a (dirTurn (gt g.cells a.toNat).kind dir) (spread (gt g.cells a.toNat).kind w).turn = some (n2,v2,e2) ∧
    r = (1 + n1 + n2,⟨a,dir,w⟩ :: (v1++v2),hereF g a w++(e1++e2)):=by
  simp only [comeF] at h
  split at h
  · rename_i n1 v1 e1 n2 v2 e2 h1 h2
    exact ⟨n1,v1,e1,n2,v2,e2,h1,h2,(Option.some.inj h).symm⟩
  · cases h
structure Gok (g:Grid) (R:Int):Prop where
  w1:1 ≤ g.wide
  w5:g.wide ≤ 5
  r1:1 ≤ R
  r5:R ≤ 5
  len:(g.cells.length:Int) = R * g.wide
  rows:rowsOf g = R
  cells:∀ c ∈ g.cells,cellOk c = true
theorem gok {g:Grid} (h:gridOk g = true):Gok g (rowsOf g):=by
  simp only [gridOk,Bool.and_eq_true,decide_eq_true_eq] at h
  obtain ⟨⟨⟨⟨⟨h1,h2⟩,h3⟩,h4⟩,h5⟩,h6⟩:=h
  refine ⟨h1,h2,h4,h5,?_,rfl,fun c hc=>List.all_eq_true.1 h6 c hc⟩
  have:=Int.mul_ediv_add_emod (g.cells.length:Int) g.wide
  unfold rowsOf
  rw [h3] at this
  rw [Int.mul_comm]; omega
theorem Gok.small {g:Grid} {R:Int} (k:Gok g R):(g.cells.length:Int) ≤ 25∧1 ≤ (g.cells.length:Int):=by
  have h1:=k.w1; have h2:=k.w5; have h3:=k.r1; have h4:=k.r5; have h5:=k.len
  have hw:g.wide = 1 ∨ g.wide = 2 ∨ g.wide = 3 ∨ g.wide = 4 ∨ g.wide = 5:=by omega
  rcases hw with e | e | e | e | e <;> rw [e] at h5 <;> omega
theorem Gok.kind {g:Grid} {R:Int} (k:Gok g R) {a:Int} (h0:0 ≤ a) (h1:a < g.cells.length):0 ≤ (gt g.cells a.toNat).kind∧(gt g.cells a.toNat).kind ≤ 7∧0 ≤ (gt g.cells a.toNat).light∧(gt g.cells a.toNat).light ≤ 9:=by
  have:=k.cells (gt g.cells a.toNat) (by rw [gt_eq (show a.toNat < g.cells.length by omega)]; exact List.getElem_mem _)
  unfold cellOk at this
  split at this <;> simp at this <;> omega
theorem dirTurn_ok {kind dir:Int} (h0:0 ≤ dir) (h1:dir ≤ 3):0 ≤ dirTurn kind dir∧dirTurn kind dir ≤ 3:=by
  unfold dirTurn
  split
  · split
    · omega
    · split
      · omega
      · split <;> omega
  · split <;> omega
theorem dirTurn_inj {kind d e:Int} (h0:0 ≤ d) (h1:d ≤ 3) (h2:0 ≤ e) (h3:e ≤ 3) (h:dirTurn kind d = dirTurn kind e):d = e:=by
  have hd:d = 0 ∨ d = 1 ∨ d = 2 ∨ d = 3:=by omega
  have he:e = 0 ∨ e = 1 ∨ e = 2 ∨ e = 3:=by omega
  unfold dirTurn at h
  by_cases k1:kind = 2 ∨ kind = 4
  · simp only [k1,if_true] at h
    rcases hd with rfl | rfl | rfl | rfl <;> rcases he with rfl | rfl | rfl | rfl <;> first|rfl | (exfalso; revert h; decide)
  · by_cases k2:kind = 3 ∨ kind = 5
    · simp only [k1,k2,if_true,if_false] at h; omega
    · simp only [k1,k2,if_false] at h; exact h
theorem nextAt_cases {g:Grid} {a b dir:Int} (h:nextAt g a dir = some b):(dir = 0∧g.wide ≤ a∧b = a - g.wide) ∨ (dir = 1∧a % g.wide ≠ g.wide - 1∧b = a + 1) ∨ (dir = 2∧a + g.wide < g.cells.length∧b = a + g.wide) ∨ ((dir ≠ 0∧dir ≠ 1∧dir ≠ 2)∧a % g.wide ≠ 0∧b = a - 1):=by
  unfold nextAt at h
  split at h
  · split at h
    · simp only [Option.some.injEq] at h; exact .inl ⟨by assumption,by assumption,h.symm⟩
    · cases h
  · split at h
    · split at h
      · simp only [Option.some.injEq] at h; exact .inr (.inl ⟨by assumption,by assumption,h.symm⟩)
      · cases h
    · split at h
      · split at h
        · simp only [Option.some.injEq] at h; exact .inr (.inr (.inl ⟨by assumption,by assumption,h.symm⟩))
        · cases h
      · split at h
        · simp only [Option.some.injEq] at h; exact .inr (.inr (.inr ⟨⟨by assumption,by assumption,by assumption⟩,by assumption,h.symm⟩))
        · cases h
theorem Gok.wides {g:Grid} {R:Int} (k:Gok g R):g.wide = 1 ∨ g.wide = 2 ∨ g.wide = 3 ∨ g.wide = 4 ∨ g.wide = 5:=by
  have h1:=k.w1; have h2:=k.w5; omega
theorem nextAt_ok {g:Grid} {R:Int} (k:Gok g R) {a b dir:Int} (h0:0 ≤ a) (h1:a < g.cells.length) (h:nextAt g a dir = some b):0 ≤ b∧b < g.cells.length:=by
  have h5:=k.len
  have hc:=nextAt_cases h
  rcases k.wides with e | e | e | e | e <;> rw [e] at hc h5 <;> omega
theorem nextAt_inj {g:Grid} {R:Int} (k:Gok g R) {a a' b dir:Int} (h:nextAt g a dir = some b) (h':nextAt g a' dir = some b):a = a':=by
  have hc:=nextAt_cases h
  have hc':=nextAt_cases h'
  omega
def Val (g:Grid) (s:Ray):Prop:=(0 ≤ s.at'∧s.at' < g.cells.length)∧0 ≤ s.dir∧s.dir ≤ 3
def kindAt (g:Grid) (a:Int):Int:=(gt g.cells a.toNat).kind
def pathNext (g:Grid) (s:Ray):Option Ray:=
  if kindAt g s.at' = 0 ∨ kindAt g s.at' = 2 ∨ kindAt g s.at' = 3 then (nextAt g s.at' (dirTurn (kindAt g s.at') s.dir)).map (fun b=>⟨b,dirTurn (kindAt g s.at') s.dir⟩) else none
theorem pathNext_inv {g:Grid} {s t:Ray} (h:pathNext g s = some t):(kindAt g s.at' = 0 ∨ kindAt g s.at' = 2 ∨ kindAt g s.at' = 3)∧t.dir = dirTurn (kindAt g s.at') s.dir∧nextAt g s.at' t.dir = some t.at':=by
  unfold pathNext at h
  split at h
  · rename_i hk
    cases e:nextAt g s.at' (dirTurn (kindAt g s.at') s.dir) with
    | none=>rw [e] at h; cases h
    | some b=>
      rw [e] at h
      simp only [Option.map_some,Option.some.injEq] at h
      subst h
      exact ⟨hk,rfl,e⟩
  · cases h
theorem pathNext_inj {g:Grid} {R:Int} (k:Gok g R) {s s' t:Ray} (v:Val g s) (v':Val g s') (h:pathNext g s = some t) (h':pathNext g s' = some t):s = s':=by
  obtain ⟨_,a2,a3⟩:=pathNext_inv h
  obtain ⟨_,b2,b3⟩:=pathNext_inv h'
  have e1:s.at' = s'.at':=nextAt_inj k a3 b3
  have e2:s.dir = s'.dir:=dirTurn_inj v.2.1 v.2.2 v'.2.1 v'.2.2 (by rw [← a2,e1,← b2])
  cases s; cases s'; simp only at e1 e2; subst e1 e2; rfl
theorem pathNext_val {g:Grid} {R:Int} (k:Gok g R) {s t:Ray} (v:Val g s) (h:pathNext g s = some t):Val g t:=by
  obtain ⟨_,a2,a3⟩:=pathNext_inv h
  refine ⟨nextAt_ok k v.1.1 v.1.2 a3,?_⟩
  rw [a2]; exact dirTurn_ok v.2.1 v.2.2
def Fresh (g:Grid) (s:Ray):Prop:=∀ t,Val g t→pathNext g t ≠ some s
inductive Way (g:Grid):List Ray→Ray→Prop where
  | start {s:Ray}:Val g s→Fresh g s→Way g [] s
  | go {vs:List Ray} {s t:Ray}:Way g vs s→pathNext g s = some t→Way g (s :: vs) t
theorem Way.props {g:Grid} {R:Int} (k:Gok g R) {vs:List Ray} {s:Ray} (w:Way g vs s):(∀ u ∈ s :: vs,Val g u)∧(s :: vs).Nodup∧∀ u ∈ s :: vs,Fresh g u ∨ ∃ p ∈ vs,pathNext g p = some u:=by
  induction w with
  | start v f=>exact ⟨by simpa using v,by simp,fun u hu=>.inl (by simp at hu; subst hu; exact f)⟩
  | @go vs s t w h ih=>
    obtain ⟨i1,i2,i3⟩:=ih
    refine ⟨fun u hu=>?_,List.nodup_cons.2 ⟨fun ht=>?_,i2⟩,fun u hu=>?_⟩
    · rcases List.mem_cons.1 hu with rfl | hu
      · exact pathNext_val k (i1 s (by simp)) h
      · exact i1 u hu
    · rcases i3 t ht with f | ⟨p,hp,e⟩
      · exact f s (i1 s (by simp)) h
      · have:p = s:=pathNext_inj k (i1 p (by simp [hp])) (i1 s (by simp)) e h
        subst this
        exact (List.nodup_cons.1 i2).1 hp
    · rcases List.mem_cons.1 hu with rfl | hu
      · exact .inr ⟨s,by simp,h⟩
      · rcases i3 u hu with f | ⟨p,hp,e⟩
        · exact .inl f
        · exact .inr ⟨p,by simp [hp],e⟩
theorem pigeon:∀ (N:Nat) (l:List Nat),l.Nodup→(∀ x ∈ l,x < N)→l.length ≤ N
  | 0,l,_,h=>by
    cases l with
    | nil=>simp
    | cons x l=>exact absurd (h x (by simp)) (by omega)
  | N + 1,l,nd,h=>by
    have h1:=pigeon N (l.erase N) (nd.erase N) (fun x hx=>by
      have h2:=h x (List.mem_of_mem_erase hx)
      have h3:x ≠ N:=fun e=>by subst e; exact (List.Nodup.not_mem_erase nd) hx
      omega)
    have h4:=List.length_erase (a:=N) (l:=l)
    split at h4 <;> omega
theorem map_nodup {α β:Type} {f:α→β}:∀ {l:List α},l.Nodup→(∀ x ∈ l,∀ y ∈ l,f x = f y→x = y)→(l.map f).Nodup
  | [],_,_=>by simp
  | x :: l,nd,h=>by
    have nd':=List.nodup_cons.1 nd
    refine List.nodup_cons.2 ⟨fun hm=>?_,map_nodup nd'.2 fun a ha b hb e=>h a (by simp [ha]) b (by simp [hb]) e⟩
    obtain ⟨y,hy,e⟩:=List.mem_map.1 hm
    have:=h x (by simp) y (by simp [hy]) e.symm
    subst this; exact nd'.1 hy
theorem Way.len {g:Grid} {R:Int} (k:Gok g R) {vs:List Ray} {s:Ray} (w:Way g vs s):vs.length ≤ 99:=by
  obtain ⟨i1,i2,_⟩:=w.props k
  have hs:=k.small
  have:=pigeon 100 ((s :: vs).map fun u=>(u.at' * 4 + u.dir).toNat) (map_nodup i2 fun x hx y hy e=>by
    have v1:=i1 x hx
    have v2:=i1 y hy
    obtain ⟨⟨_,_⟩,_,_⟩:=v1
    obtain ⟨⟨_,_⟩,_,_⟩:=v2
    have e1:x.at' = y.at':=by omega
    have e2:x.dir = y.dir:=by omega
    cases x; cases y; simp only at e1 e2; subst e1 e2; rfl) (fun x hx=>by
    obtain ⟨u,hu,rfl⟩:=List.mem_map.1 hx
    have v1:=i1 u hu
    obtain ⟨⟨_,_⟩,_,_⟩:=v1
    omega)
  simp only [List.length_map,List.length_cons] at this
  omega
theorem fresh_split {g:Grid} {R:Int} (k:Gok g R) {a b dir:Int} (hk:kindAt g a = 4 ∨ kindAt g a = 5 ∨ kindAt g a = 6) (h:nextAt g a dir = some b):Fresh g ⟨b,dir⟩:=fun t v e=>by
  obtain ⟨a1,a2,a3⟩:=pathNext_inv e
  have:t.at' = a:=nextAt_inj k a3 h
  rw [this] at a1
  omega
theorem fresh_ray {g:Grid} {R:Int} (k:Gok g R) {j:Int} (h0:0 ≤ j) (h1:j < manyOf g):Val g ⟨(rayAt g j).at',(rayAt g j).dir⟩∧Fresh g ⟨(rayAt g j).at',(rayAt g j).dir⟩:=by
  have h3:=k.w1; have h4:=k.w5; have h5:=k.len; have h6:=k.r1; have h7:=k.r5; have h8:=k.rows
  have hw:g.wide = 1 ∨ g.wide = 2 ∨ g.wide = 3 ∨ g.wide = 4 ∨ g.wide = 5:=by omega
  unfold manyOf at h1
  rw [h8] at h1
  unfold rayAt
  rw [h8]
  constructor
  · unfold Val
    split
    · simp only
      rcases hw with e | e | e | e | e <;> simp only [e] at h5 h1 ⊢ <;> omega
    · split
      · simp only
        rcases hw with e | e | e | e | e <;> simp only [e] at h5 h1 ⊢ <;> omega
      · split
        · simp only
          rcases hw with e | e | e | e | e <;> simp only [e] at h5 h1 ⊢ <;> omega
        · simp only
          rcases hw with e | e | e | e | e <;> simp only [e] at h5 h1 ⊢ <;> omega
  · intro t v e
    obtain ⟨⟨v1,v2⟩,v3,v4⟩:=v
    obtain ⟨_,_,a3⟩:=pathNext_inv e
    clear e
    have hc:=nextAt_cases a3
    clear a3
    split at hc
    · simp only at hc; omega
    · split at hc
      · simp only at hc
        rcases hw with e | e | e | e | e <;> simp only [e] at h5 h1 hc <;> omega
      · split at hc
        · simp only at hc
          rcases hw with e | e | e | e | e <;> simp only [e] at h5 h1 hc <;> omega
        · simp only at hc
          rcases hw with e | e | e | e | e <;> simp only [e] at h5 h1 hc <;> omega
theorem half_ends {g : Grid} {R : Int} (k : Gok g R) {a dir : Int} {n w : Nat} (hk : kindAt g a = 4 ∨ kindAt g a = 5 ∨ kindAt g a = 6) (ha : 0 ≤ a ∧ a < g.cells.length) (hd : 0 ≤ dir ∧ dir ≤ 3)
    (ih:1 ≤ w→∀ s,Way g [] s→∃ sz v e,comeF g n s.at' s.dir w = some (sz,v,e)∧(sz:Int) ≤ 200 + 404 * w - 401):∃ sz v e,leaveF g (comeF g n) a dir w = some (sz,v,e)∧((sz:Int) ≤ 1 ∨ (1 ≤ w∧(sz:Int) ≤ 404 * w - 201)):=by
  unfold leaveF
  by_cases hw:(w:Int) = 0
  · rw [if_pos hw]; exact ⟨_,_,_,rfl,.inl (by omega)⟩
  · rw [if_neg hw]
    cases e:nextAt g a dir with
    | none=>exact ⟨_,_,_,rfl,.inl (by omega)⟩
    | some b=>
      obtain ⟨sz,v,e',h1,h2⟩:=ih (by omega) ⟨b,dir⟩ (.start ⟨nextAt_ok k ha.1 ha.2 e,hd⟩ (fresh_split k hk e))
      exact ⟨sz,v,e',h1,.inr ⟨by omega,by omega⟩⟩
theorem come_ends {g:Grid} {R:Int} (k:Gok g R):∀ w:Nat,1 ≤ w→∀ (m:Nat) (vs:List Ray) (s:Ray),Way g vs s→100 - vs.length = m→∀ n,m + 101 * w ≤ n→∃ sz v e,comeF g n s.at' s.dir w = some (sz,v,e)∧(sz:Int) ≤ 2 * m + 404 * w - 401:=by
  intro w
  induction w using Nat.strongRecOn with
  | _ w ihw=>
    intro hw m
    induction m with
    | zero=>intro vs s hway hm; have:=hway.len k; omega
    | succ m ihm=>
      intro vs s hway hm n hn
      obtain ⟨n,rfl⟩:∃ n',n = n' + 1:=⟨n - 1,by omega⟩
      obtain ⟨hp1,_,_⟩:=hway.props k
      have hv:=hp1 s (by simp)
      obtain ⟨⟨v1,v2⟩,v3,v4⟩:=hv
      have hkk:=k.kind v1 v2
      have hdt:=fun kd=>dirTurn_ok (kind:=kd) v3 v4
      have path:∀ d,(kindAt g s.at' = 0 ∨ kindAt g s.at' = 2 ∨ kindAt g s.at' = 3)→d = dirTurn (kindAt g s.at') s.dir→∃ sz v e,leaveF g (comeF g n) s.at' d w = some (sz,v,e)∧(sz:Int) ≤ 2 * m + 404 * w - 401:=fun d hk hd=>by
        unfold leaveF
        rw [if_neg (by omega)]
        cases e:nextAt g s.at' d with
        | none=>exact ⟨_,_,_,rfl,by omega⟩
        | some b=>
          have hpn:pathNext g s = some ⟨b,d⟩:=by
            unfold pathNext; rw [if_pos hk,← hd,e]; rfl
          obtain ⟨sz,v,e',h1,h2⟩:=ihm (s :: vs) ⟨b,d⟩ (.go hway hpn) (by simp; omega) n (by omega)
          exact ⟨sz,v,e',h1,by omega⟩
      have zero:∀ d,leaveF g (comeF g n) s.at' d 0 = some (1,[],[]):=fun d=>rfl
      have half:∀ d,0 ≤ d∧d ≤ 3→(kindAt g s.at' = 4 ∨ kindAt g s.at' = 5 ∨ kindAt g s.at' = 6)→∃ sz v e,leaveF g (comeF g n) s.at' d ((w / 2:Nat):Int) = some (sz,v,e)∧((sz:Int) ≤ 1 ∨ (1 ≤ w / 2∧(sz:Int) ≤ 404 * (w / 2:Nat) - 201)):=fun d hd hk=>
        half_ends k hk ⟨v1,v2⟩ hd fun h1 s' hs'=>by
          obtain ⟨sz,v,e,q1,q2⟩:=ihw (w / 2) (by omega) h1 100 [] s' hs' rfl n (by omega)
          exact ⟨sz,v,e,q1,by omega⟩
      have kk:(gt g.cells s.at'.toNat).kind = kindAt g s.at':=rfl
      rw [kk] at hkk
      have hc:kindAt g s.at' = 0 ∨ (kindAt g s.at' = 2 ∨ kindAt g s.at' = 3) ∨ (kindAt g s.at' = 4 ∨ kindAt g s.at' = 5) ∨ kindAt g s.at' = 6 ∨ (kindAt g s.at' = 1 ∨ kindAt g s.at' = 7):=by omega
      rcases hc with h | h | h | h | h
      · have es:spread (kindAt g s.at') w = ⟨w,0,0,0⟩:=by unfold spread; rw [if_pos h]
        obtain ⟨sz,v,e,q1,q2⟩:=path s.dir (.inl h) (by rw [h]; rfl)
        exact ⟨_,_,_,comeF_eq (by rw [kk,es]; exact q1) (by rw [kk,es]; exact zero _),by omega⟩
      · have es:spread (kindAt g s.at') w = ⟨0,w,0,0⟩:=by unfold spread; rw [if_neg (by omega),if_pos h]
        obtain ⟨sz,v,e,q1,q2⟩:=path _ (.inr h) rfl
        exact ⟨_,_,_,comeF_eq (by rw [kk,es]; exact zero _) (by rw [kk,es]; exact q1),by omega⟩
      · have es:spread (kindAt g s.at') w = ⟨(w / 2:Nat),(w / 2:Nat),w - w / 2 - w / 2,0⟩:=by unfold spread; rw [if_neg (by omega),if_neg (by omega),if_pos h]; simp
        obtain ⟨sz,v,e,q1,q2⟩:=half s.dir ⟨v3,v4⟩ (by omega)
        obtain ⟨sz',v',e',q1',q2'⟩:=half _ (hdt (kindAt g s.at')) (by omega)
        exact ⟨_,_,_,comeF_eq (by rw [kk,es]; exact q1) (by rw [kk,es]; exact q1'),by omega⟩
      · have es:spread (kindAt g s.at') w = ⟨(w / 2:Nat),0,w - w / 2,0⟩:=by unfold spread; rw [if_neg (by omega),if_neg (by omega),if_neg (by omega),if_pos h]; simp
        obtain ⟨sz,v,e,q1,q2⟩:=half s.dir ⟨v3,v4⟩ (by omega)
        exact ⟨_,_,_,comeF_eq (by rw [kk,es]; exact q1) (by rw [kk,es]; exact zero _),by omega⟩
      · have es:spread (kindAt g s.at') w = ⟨0,0,0,w⟩:=by unfold spread; rw [if_neg (by omega),if_neg (by omega),if_neg (by omega),if_neg (by omega)]
        exact ⟨_,_,_,comeF_eq (by rw [kk,es]; exact zero _) (by rw [kk,es]; exact zero _),by omega⟩
theorem ray_ext {a b c d:Int} (h:a = b) (h':c = d):Ray.mk a c = Ray.mk b d:=by rw [h,h']
theorem ray_eq {r:Ray} {a d:Int} (h:r.at' = a) (h':r.dir = d):r = ⟨a,d⟩:=by cases r; simp only at h h'; rw [h,h']
theorem endIf_len (k a w:Int):(endIf k a w).length ≤ 1:=by
  unfold endIf; split <;> simp
theorem rayAt_inj {g:Grid} {R:Int} (k:Gok g R) {i j:Int} (i0:0 ≤ i) (i1:i < manyOf g) (j0:0 ≤ j) (j1:j < manyOf g) (h:rayAt g i = rayAt g j):i = j:=by
  have h5:=k.len; have h6:=k.r1; have h7:=k.r5; have h8:=k.rows
  unfold manyOf at i1 j1
  unfold rayAt at h
  rw [h8] at i1 j1 h
  rcases k.wides with e | e | e | e | e <;> simp only [e] at h5 i1 j1 h <;> (repeat' split at h) <;> simp only [Ray.mk.injEq] at h <;> omega
theorem rayAt_ok {g:Grid} {R:Int} (k:Gok g R) {j:Int} (h0:0 ≤ j) (h1:j < manyOf g):(0 ≤ (rayAt g j).at'∧(rayAt g j).at' < g.cells.length)∧0 ≤ (rayAt g j).dir∧(rayAt g j).dir ≤ 3:=(fresh_ray k h0 h1).1
def edgeSight (g:Grid) (a dir:Int):Int:=
  if dir = 0 then a else if dir = 1 then g.wide + a / g.wide else if dir = 2 then g.wide + rowsOf g + (g.cells.length - 1 - a) else 2 * g.wide + rowsOf g + (rowsOf g - 1 - a / g.wide)
theorem edge_ray {g : Grid} {R : Int} (k : Gok g R) {a dir : Int} (h0 : 0 ≤ a) (h1 : a < g.cells.length) (d0 : 0 ≤ dir) (d1 : dir ≤ 3) (h : nextAt g a dir = none) :
    0 ≤ edgeSight g a dir∧edgeSight g a dir < manyOf g∧rayAt g (edgeSight g a dir) = ⟨a,(dir + 2) % 4⟩:=by
  have h5:=k.len; have h6:=k.r1; have h7:=k.r5; have h8:=k.rows
  have hd:dir = 0 ∨ dir = 1 ∨ dir = 2 ∨ dir = 3:=by omega
  unfold nextAt at h
  unfold edgeSight manyOf rayAt
  rw [h8]
  have q:(2:Int) ≠ 0∧(2:Int) ≠ 1∧(3:Int) ≠ 0∧(3:Int) ≠ 1∧(3:Int) ≠ 2∧(1:Int) ≠ 0:=by decide
  rcases hd with rfl | rfl | rfl | rfl <;> rcases k.wides with e | e | e | e | e <;> simp only [e,q,if_true,if_false] at h h5 ⊢ <;> split at h <;> first|(cases h; done) | skip
  all_goals refine ⟨by omega,by omega,?_⟩
  all_goals (repeat' split) <;> first|(exfalso; omega) | (exact ray_ext (by omega) (by omega))
theorem sightOf_some {g:Grid} {R:Int} (k:Gok g R) {a dir i:Int} (i0:0 ≤ i) (i1:i < manyOf g) (h:rayAt g i = ⟨a,(dir + 2) % 4⟩):sightOf g a dir = i:=by
  unfold sightOf
  cases e:(List.range (manyOf g).toNat).find? (fun k=>decide (rayAt g (k:Nat) = ⟨a,(dir + 2) % 4⟩)) with
  | some j=>
    have h1:=List.find?_some e
    have h2:=List.mem_of_find?_eq_some e
    simp only [decide_eq_true_eq] at h1
    rw [List.mem_range] at h2
    show ((j:Nat):Int) = i
    exact rayAt_inj k (by omega) (by omega) i0 i1 (h1.trans h.symm)
  | none=>
    have:=List.find?_eq_none.1 e i.toNat (List.mem_range.2 (by omega))
    rw [Int.toNat_of_nonneg i0] at this
    simp [h] at this
theorem sightOf_none {g:Grid} {a dir:Int} (h:∀ i:Int,0 ≤ i→i < manyOf g→rayAt g i ≠ ⟨a,(dir + 2) % 4⟩):sightOf g a dir = -1:=by
  unfold sightOf
  have:(List.range (manyOf g).toNat).find? (fun k=>decide (rayAt g (k:Nat) = ⟨a,(dir + 2) % 4⟩)) = none:=by
    refine List.find?_eq_none.2 fun j hj=>?_
    rw [List.mem_range] at hj
    simpa using h j (by omega) (by omega)
  rw [this]
theorem sightOf_edge {g:Grid} {R:Int} (k:Gok g R) {a dir:Int} (h0:0 ≤ a) (h1:a < g.cells.length) (d0:0 ≤ dir) (d1:dir ≤ 3) (h:nextAt g a dir = none):0 ≤ sightOf g a dir∧sightOf g a dir < manyOf g:=by
  obtain ⟨e1,e2,e3⟩:=edge_ray k h0 h1 d0 d1 h
  rw [sightOf_some k e1 e2 e3]; exact ⟨e1,e2⟩
theorem Gok.many {g:Grid} {R:Int} (k:Gok g R):4 ≤ manyOf g∧manyOf g ≤ 20∧manyOf g = 2 * (g.wide + R):=by
  have h5:=k.w1; have h6:=k.w5; have h7:=k.r1; have h8:=k.r5; have h9:=k.rows
  unfold manyOf; rw [h9]; omega
structure EndOk (g:Grid) (w:Int) (e:LEnd):Prop where
  w0:1 ≤ e.weight
  w1:e.weight ≤ w
  k0:0 ≤ e.kind
  k3:e.kind ≤ 3
  out:e.kind = 0→0 ≤ e.where'∧e.where' < manyOf g
  cell:e.kind ≠ 0→0 ≤ e.where'∧e.where' < g.cells.length
structure VisitOk (g:Grid) (w:Int) (v:Visit):Prop where
  a0:0 ≤ v.at'
  a1:v.at' < g.cells.length
  d0:0 ≤ v.dir
  d1:v.dir ≤ 3
  w0:1 ≤ v.weight
  w1:v.weight ≤ w
theorem EndOk.up {g:Grid} {w w':Int} {e:LEnd} (x:EndOk g w e) (h:w ≤ w'):EndOk g w' e:=⟨x.w0,by have:=x.w1; omega,x.k0,x.k3,x.out,x.cell⟩
theorem VisitOk.up {g:Grid} {w w':Int} {e:Visit} (x:VisitOk g w e) (h:w ≤ w'):VisitOk g w' e:=⟨x.a0,x.a1,x.d0,x.d1,x.w0,by have:=x.w1; omega⟩
structure LitOk (g:Grid) (w:Int) (r:Lit):Prop where
  vs:∀ v ∈ r.2.1,VisitOk g w v
  es:∀ e ∈ r.2.2,EndOk g w e
  lv:r.2.1.length ≤ r.1
  le:r.2.2.length ≤ 2 * r.1
  n1:1 ≤ r.1
theorem spread_le {kind w:Int} (hw:1 ≤ w):0 ≤ (spread kind w).pass∧(spread kind w).pass ≤ w∧0 ≤ (spread kind w).turn∧(spread kind w).turn ≤ w∧0 ≤ (spread kind w).lost∧(spread kind w).lost ≤ w∧0 ≤ (spread kind w).stop∧(spread kind w).stop ≤ w:=by
  unfold spread
  (repeat' split) <;> simp only <;> omega
theorem hereF_ok {g:Grid} {a w:Int} (ha:0 ≤ a∧a < g.cells.length) (hw:1 ≤ w):(∀ e ∈ hereF g a w,EndOk g w e)∧(hereF g a w).length ≤ 2:=by
  have hs:=spread_le (kind:=(gt g.cells a.toNat).kind) hw
  constructor
  · intro e he
    unfold hereF endIf at he
    rcases List.mem_append.1 he with h | h
    · split at h
      · simp at h; subst h
        refine ⟨?_,?_,?_,?_,?_,?_⟩ <;> simp only <;> first|omega | (split <;> omega) | (intro h; split at h <;> omega) | exact fun _=>ha
      · cases h
    · split at h
      · simp at h; subst h
        refine ⟨?_,?_,?_,?_,?_,?_⟩ <;> simp only <;> first|omega | exact fun _=>ha
      · cases h
  · unfold hereF
    rw [List.length_append]
    exact Nat.add_le_add (endIf_len _ _ _) (endIf_len _ _ _)
theorem comeF_ok {g:Grid} {R:Int} (k:Gok g R):∀ (n:Nat) (a dir w:Int) (r:Lit),0 ≤ a→a < g.cells.length→0 ≤ dir→dir ≤ 3→1 ≤ w→comeF g n a dir w = some r→LitOk g w r
  | 0,_,_,_,_,_,_,_,_,_,h=>by cases h
  | n + 1,a,dir,w,r,a0,a1,d0,d1,hw,h=>by
    obtain ⟨n1,v1,e1,n2,v2,e2,h1,h2,rfl⟩:=comeF_inv h
    have hs:=spread_le (kind:=(gt g.cells a.toNat).kind) hw
    have lv:∀ (d w':Int) (r:Lit),0 ≤ d→d ≤ 3→0 ≤ w'→w' ≤ w→leaveF g (comeF g n) a d w' = some r→LitOk g w r:=by
      intro d w' r hd0 hd1 hw0 hw1 hr
      unfold leaveF at hr
      split at hr
      · cases hr; exact ⟨by simp,by simp,by simp,by simp,by simp⟩
      · split at hr
        · rename_i hn
          cases hr
          have he:=sightOf_edge k a0 a1 hd0 hd1 hn
          refine ⟨by simp,?_,by simp,by simp,by simp⟩
          intro e he'
          simp only [List.mem_singleton] at he'
          subst he'
          exact ⟨by simp only; omega,by simp only; omega,by simp,by simp,fun _=>he,fun h=>absurd rfl h⟩
        · rename_i b hn
          have hb:=nextAt_ok k a0 a1 hn
          have:=comeF_ok k n b d w' r hb.1 hb.2 hd0 hd1 (by omega) hr
          exact ⟨fun v hv=>(this.vs v hv).up hw1,fun e he=>(this.es e he).up hw1,this.lv,this.le,this.n1⟩
    have q1:=lv _ _ _ d0 d1 hs.1 hs.2.1 h1
    have q2:=lv _ _ _ (dirTurn_ok d0 d1).1 (dirTurn_ok d0 d1).2 hs.2.2.1 hs.2.2.2.1 h2
    obtain ⟨f1,f2⟩:=hereF_ok (g:=g) ⟨a0,a1⟩ hw
    have l1:=q1.lv; have l2:=q2.lv; have l3:=q1.le; have l4:=q2.le; have l5:=q1.n1; have l6:=q2.n1
    simp only at l1 l2 l3 l4 l5 l6
    refine ⟨fun v hv=>?_,fun e he=>?_,?_,?_,?_⟩
    · simp only at hv
      rcases List.mem_cons.1 hv with rfl | hv
      · exact ⟨a0,a1,d0,d1,hw,Int.le_refl _⟩
      · rcases List.mem_append.1 hv with hv | hv
        · exact q1.vs v hv
        · exact q2.vs v hv
    · simp only at he
      rcases List.mem_append.1 he with he | he
      · exact f1 e he
      · rcases List.mem_append.1 he with he | he
        · exact q1.es e he
        · exact q2.es e he
    · simp only [List.length_cons,List.length_append]; omega
    · simp only [List.length_append]; omega
    · simp only; omega
def goLight (g:Grid) (k:Int):List Visit × List LEnd:=
  match comeF g 6600 (rayAt g k).at' (rayAt g k).dir 64 with
  | some (_,v,e)=>(v,e)
  | none=>([],[])
theorem goLight_is {g:Grid} {R:Int} (k:Gok g R) {j:Int} (h0:0 ≤ j) (h1:j < manyOf g):∃ sz v e,comeF g 6600 (rayAt g j).at' (rayAt g j).dir 64 = some (sz,v,e)∧goLight g j = (v,e)∧sz ≤ 26000∧LitOk g 64 (sz,v,e):=by
  obtain ⟨f1,f2⟩:=fresh_ray k h0 h1
  obtain ⟨sz,v,e,q1,q2⟩:=come_ends k 64 (by decide) 100 [] _ (.start f1 f2) rfl 6600 (by decide)
  obtain ⟨⟨a0,a1⟩,d0,d1⟩:=f1
  have q1':comeF g 6600 (rayAt g j).at' (rayAt g j).dir 64 = some (sz,v,e):=q1
  refine ⟨sz,v,e,q1',?_,by omega,comeF_ok k _ _ _ _ _ a0 a1 d0 d1 (by decide) q1'⟩
  unfold goLight; rw [q1']
def sumF {α:Type} (f:α→Int):List α→Int
  | []=>0
  | x :: xs=>f x + sumF f xs
theorem sumF_snoc {α:Type} {f:α→Int} {x:α}:∀ xs:List α,sumF f (xs++[x]) = sumF f xs + f x
  | []=>by simp [sumF]
  | y :: xs=>by simp only [List.cons_append,sumF,sumF_snoc xs]; omega
theorem sumF_step {α:Type} [Inhabited α] {f:α→Int} {xs:List α} {k:Nat} (h:k < xs.length):sumF f (xs.take (k + 1)) = sumF f (xs.take k) + f (gt xs k):=by
  rw [take_succ_gt h,sumF_snoc]
theorem sumF_bd {α:Type} {f:α→Int} {c:Int}:∀ xs:List α,(∀ x ∈ xs,0 ≤ f x∧f x ≤ c)→0 ≤ sumF f xs∧sumF f xs ≤ c * xs.length
  | [],_=>by simp [sumF]
  | x :: xs,h=>by
    have h1:=h x (by simp)
    have h2:=sumF_bd xs fun y hy=>h y (by simp [hy])
    simp only [sumF,List.length_cons]
    have:c * ((xs.length + 1:Nat):Int) = c * xs.length + c:=by rw [Int.natCast_add,Int.mul_add]; simp
    rw [this]; omega
def endLight (g:Grid) (e:LEnd):Int:=if e.kind = 2 then e.weight * (gt g.cells e.where'.toNat).light else 0
theorem endLight_bd {g:Grid} {R:Int} (k:Gok g R) {e:LEnd} (x:EndOk g 64 e):0 ≤ endLight g e∧endLight g e ≤ 576:=by
  unfold endLight
  split
  · rename_i hk
    obtain ⟨c1,c2⟩:=x.cell (by omega)
    have h1:=k.kind c1 c2
    have h2:=x.w0; have h3:=x.w1
    have:=Int.mul_nonneg (show 0 ≤ e.weight by omega) h1.2.2.1
    have h4:e.weight * (gt g.cells e.where'.toNat).light ≤ 64 * 9:=Int.mul_le_mul h3 h1.2.2.2 h1.2.2.1 (by decide)
    omega
  · omega
def lightOf (g:Grid) (es:List LEnd):Int:=sumF (endLight g) es
theorem lightOf_bd {g:Grid} {R:Int} (k:Gok g R) {es:List LEnd} (h:∀ e ∈ es,EndOk g 64 e) (i:Nat) (hl:es.length ≤ 100000):0 ≤ sumF (endLight g) (es.take i)∧sumF (endLight g) (es.take i) ≤ 57600000:=by
  have:=sumF_bd (f:=endLight g) (c:=576) (es.take i) fun e he=>endLight_bd k (h e (List.mem_of_mem_take he))
  have h2:(es.take i).length ≤ 100000:=by rw [List.length_take]; omega
  omega
def trailLight (g:Grid) (k:Int):Int:=lightOf g (goLight g k).2
def picOf (g:Grid):List Int:=(List.range (manyOf g).toNat).map fun k=>trailLight g (k:Nat)
theorem picOf_len (g:Grid):(picOf g).length = (manyOf g).toNat:=by simp [picOf]
theorem picOf_at {g:Grid} {k:Nat} (h:k < (manyOf g).toNat):gt (picOf g) k = trailLight g k:=by
  rw [gt_eq (by rw [picOf_len]; exact h)]; simp [picOf]
def footIs (g:Grid) (vs:List Visit):List Int:=((List.range g.cells.length).filter fun i=>vs.any fun v=>decide (v.at' = (i:Nat))).map fun i=>((i:Nat):Int)
def footOf (g:Grid) (k:Int):List Int:=footIs g (goLight g k).1
def feetOf (g:Grid):List (List Int):=(List.range (manyOf g).toNat).map fun k=>footOf g (k:Nat)
def sceneOf (g:Grid):Scene:=⟨g,picOf g,feetOf g⟩
end Go.Sl

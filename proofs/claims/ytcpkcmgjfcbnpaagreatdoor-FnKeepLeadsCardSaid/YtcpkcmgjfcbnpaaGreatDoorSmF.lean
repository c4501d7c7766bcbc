/- Data with depth, in the base and of one's own. No program. -/
import Derived.Test.YtcpkcmgjfcbnpaaGreatDoorSmE
set_option linter.unusedVariables false
set_option linter.unusedSimpArgs false
set_option linter.unusedSectionVars false

namespace Go.Sl
open Go Go.Conc PHeap
structure Raw (n:Nat) where
  cs:List Value
  len:cs.length = n
instance {n:Nat}:Inhabited (Raw n):=⟨⟨List.replicate n undef,by simp⟩⟩
def rawF (n:Nat):Flat (Raw n):=⟨n,fun r=>r.cs,fun r=>r.len⟩
structure Rep (α:Type) where
  sz:Nat
  B:PHeap→List Value→α→Prop
  O:Own→List Value→α→Prop
  lenB:∀ {h cs x},B h cs x→cs.length = sz
  lenO:∀ {A cs x},O A cs x→cs.length = sz
  oneB:∀ {h cs x},B h cs x→AllOne cs
  oneO:∀ {A cs x},O A cs x→AllOne cs
  lent:∀ {A cs x h},O A cs x→InB h A→B h cs x
  up:∀ {h h' cs x},Le h h'→B h cs x→B h' cs x
inductive OAll {α:Type} (R:Rep α):Own→List (Raw R.sz)→List α→Prop where
  | nil:OAll R [] [] []
  | cons {A A':Own} {r:Raw R.sz} {rs:List (Raw R.sz)} {x:α} {xs:List α}:R.O A r.cs x→OAll R A' rs xs→OAll R (A++A') (r :: rs) (x :: xs)
inductive BAll {α:Type} (R:Rep α) (h:PHeap):List (Raw R.sz)→List α→Prop where
  | nil:BAll R h [] []
  | cons {r:Raw R.sz} {rs:List (Raw R.sz)} {x:α} {xs:List α}:R.B h r.cs x→BAll R h rs xs→BAll R h (r :: rs) (x :: xs)
section
variable {α:Type} {R:Rep α} {A A':Own} {h h':PHeap} {r:Raw R.sz} {rs rs':List (Raw R.sz)} {x:α} {xs xs':List α}
theorem OAll.len (o:OAll R A rs xs):rs.length = xs.length:=by induction o with | nil=>rfl | cons _ _ ih=>simp [ih]
theorem BAll.len (o:BAll R h rs xs):rs.length = xs.length:=by induction o with | nil=>rfl | cons _ _ ih=>simp [ih]
theorem OAll.app (o:OAll R A rs xs) (p:OAll R A' rs' xs'):OAll R (A++A') (rs++rs') (xs++xs'):=by
  induction o with
  | nil=>exact p
  | cons a _ ih=>rw [List.append_assoc]; exact .cons a ih
theorem OAll.one (o:R.O A r.cs x):OAll R A [r] [x]:=by have:=OAll.cons o .nil; rwa [List.append_nil] at this
theorem OAll.snoc (o:OAll R A rs xs) (p:R.O A' r.cs x):OAll R (A++A') (rs++[r]) (xs++[x]):=o.app (.one p)
theorem OAll.lent (o:OAll R A rs xs) (i:InB h A):BAll R h rs xs:=by
  induction o with
  | nil=>exact .nil
  | cons a _ ih=>exact .cons (R.lent a ⟨fun b o m=>i.at' b o (by simp [m])⟩) (ih ⟨fun b o m=>i.at' b o (by simp [m])⟩)
theorem BAll.up (l:Le h h') (o:BAll R h rs xs):BAll R h' rs xs:=by
  induction o with
  | nil=>exact .nil
  | cons a _ ih=>exact .cons (R.up l a) ih
theorem BAll.at [Inhabited α] (o:BAll R h rs xs):∀ {k:Nat},k < xs.length→R.B h (gt rs k).cs (gt xs k):=by
  induction o with
  | nil=>intro k hk; cases hk
  | cons a _ ih=>
    intro k hk
    cases k with
    | zero=>exact a
    | succ k=>exact ih (k:=k) (by simpa using hk)
theorem OAll.at [Inhabited α] (o:OAll R A rs xs):∀ {k:Nat},k < xs.length→∃ A1 Ak A2,A = A1++(Ak++A2)∧R.O Ak (gt rs k).cs (gt xs k)∧∀ Ak' r' x',R.O Ak' r'.cs x'→OAll R (A1++(Ak'++A2)) (rs.set k r') (xs.set k x'):=by
  induction o with
  | nil=>intro k hk; cases hk
  | @cons B B' r rs x xs a t ih=>
    intro k hk
    cases k with
    | zero=>exact ⟨[],B,B',rfl,a,fun Ak' r' x' q=>by have:=OAll.cons q t; simpa using this⟩
    | succ k=>
      obtain ⟨A1,Ak,A2,rfl,q1,q2⟩:=ih (k:=k) (by simpa using hk)
      refine ⟨B++A1,Ak,A2,by simp,q1,fun Ak' r' x' q=>?_⟩
      have:=OAll.cons a (q2 Ak' r' x' q)
      simpa using this
theorem OAll.take (o:OAll R A rs xs):∀ k:Nat,∃ A1 A2,A = A1++A2∧OAll R A1 (rs.take k) (xs.take k)∧OAll R A2 (rs.drop k) (xs.drop k):=by
  induction o with
  | nil=>intro k; exact ⟨[],[],rfl,by simpa using OAll.nil,by simpa using OAll.nil⟩
  | @cons B B' r rs x xs a t ih=>
    intro k
    cases k with
    | zero=>exact ⟨[],_,rfl,.nil,.cons a t⟩
    | succ k=>
      obtain ⟨A1,A2,rfl,q1,q2⟩:=ih k
      exact ⟨B++A1,A2,by simp,.cons a q1,q2⟩
end
def SlR {α:Type} (R:Rep α) (h:PHeap) (v:Value) (xs:List α):Prop:=∃ rs:List (Raw R.sz),Sl h v (rawF R.sz) rs∧BAll R h rs xs
def GrR {α:Type} (R:Rep α) (A:Own) (v:Value) (T:TypeId) (xs:List α):Prop:=∃ A0 A1,A = A0++A1∧∃ rs:List (Raw R.sz),Gr A0 v T (rawF R.sz) rs∧OAll R A1 rs xs∧xs.length ≤ 281474976710656
theorem SlR.one {α:Type} {R:Rep α} {h:PHeap} {v:Value} {xs:List α} (s:SlR R h v xs):One v:=let ⟨_,s,_⟩:=s; s.one
theorem GrR.one {α:Type} {R:Rep α} {A:Own} {v:Value} {T:TypeId} {xs:List α} (s:GrR R A v T xs):One v:=let ⟨_,_,_,_,g,_⟩:=s; g.one
theorem SlR.up {α:Type} {R:Rep α} {h h':PHeap} {v:Value} {xs:List α} (l:Le h h') (s:SlR R h v xs):SlR R h' v xs:=let ⟨rs,s,b⟩:=s; ⟨rs,s.le l.le,b.up l⟩
theorem GrR.lent {α:Type} {R:Rep α} {A:Own} {v:Value} {T:TypeId} {xs:List α} {h:PHeap} (s:GrR R A v T xs) (i:InB h A):SlR R h v xs:=by
  obtain ⟨A0,A1,rfl,rs,g,o,hs⟩:=s
  exact ⟨rs,g.lent (by rw [o.len]; exact hs) ⟨fun b o m=>i.at' b o (by simp [m])⟩,o.lent ⟨fun b o m=>i.at' b o (by simp [m])⟩⟩
theorem GrR.nil {α:Type} {R:Rep α} {T:TypeId}:GrR R [] (.slice none 0 0) T []:=⟨[],[],rfl,[],Gr.nil _ _,.nil,by simp⟩
theorem SlR.nil {α:Type} {R:Rep α} {h:PHeap}:SlR R h (.slice none 0 0) []:=⟨[],Sl.nil _ _,.nil⟩
end Go.Sl

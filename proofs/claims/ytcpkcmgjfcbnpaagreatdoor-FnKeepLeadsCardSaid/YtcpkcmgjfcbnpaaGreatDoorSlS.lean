/- The fork of four workers and their join: what is asked of each goroutine. No program. -/
import Derived.Test.YtcpkcmgjfcbnpaaGreatDoorSlQ
import Derived.Conc.CrowdSit
import Derived.Conc.CrowdComm
set_option linter.unusedVariables false
set_option linter.unusedSimpArgs false
set_option linter.unusedSectionVars false

namespace Go.Sl
open Go Go.Conc PHeap
open Go.ConcN (WgLive PayAt Has RW DWs AsideCell AtR0 AtK1 AtD1 AtD2 AtD3 AtD4 RelBy)
open Go.ConcR (KK wgBlock WgAt stA smA rd wr mk Payload DC0)
inductive Rk where
  | z
  | nd (f:World→Nat→Rk)
inductive Rk.lt:Rk→Rk→Prop
  | mk (f:World→Nat→Rk) (w:World) (n:Nat):Rk.lt (f w n) (.nd f)
theorem Rk.lt_wf:WellFounded Rk.lt:=by
  refine ⟨fun r=>?_⟩
  induction r with
  | z=>exact ⟨_,fun y h=>by cases h⟩
  | nd f ih=>exact ⟨_,fun y h=>by cases h; exact ih _ _⟩
def Rk.nat:Nat→Rk
  | 0=>.z
  | n + 1=>.nd fun _ _=>Rk.nat n
theorem Rk.nat_lt (w:World) (n:Nat):Rk.lt (Rk.nat n) (Rk.nat (n + 1)):=.mk (fun _ _=>Rk.nat n) w 0
def Down {α:Type} (lt:α→α→Prop) (n:Nat) (f g:Nat→α):Prop:=∃ i,i < n∧lt (f i) (g i)∧∀ j,j ≠ i→f j = g j
theorem down_wf {α:Type} {lt:α→α→Prop} (hw:WellFounded lt):∀ n,WellFounded (Down lt n):=by
  intro n
  induction n with
  | zero=>exact ⟨fun f=>⟨_,fun g h=>by obtain ⟨i,hi,_⟩:=h; omega⟩⟩
  | succ n ih=>
    have key:∀ (a:α) (f:Nat→α),f n = a→_root_.Acc (Down lt (n + 1)) f:=by
      intro a
      induction a using hw.induction with
      | _ a iha=>
      intro f
      induction f using ih.induction with
      | _ f ihf=>
      intro hf
      refine ⟨_,fun g ⟨i,hi,hl,ho⟩=>?_⟩
      by_cases e:i = n
      · subst e; exact iha (g i) (by rw [← hf]; exact hl) g rfl
      · exact ihf g ⟨i,by omega,hl,ho⟩ (by rw [ho n (fun x=>e x.symm)]; exact hf)
    exact ⟨fun f=>key (f n) f rfl⟩
structure Fk where
  P:Program
  W:World
  R:Value→Prop
  Wg:Nat
  Ch:Nat
  ty:TypeId
  it:TypeId
  h0:PHeap
  Row:Nat→Value→PHeap→Prop
  row_mono:∀ i v h h',(∀ b o,h.obj b = some o→h'.obj b = some o)→Row i v h→Row i v h'
def stay (h:PHeap) (s:List Nat):PHeap:=⟨h.obj,h.wr,s⟩
def ro (h:PHeap) (s:List Nat):PHeap:=⟨h.obj,fun _=>false,s⟩
def delb (h:PHeap) (C:Nat):PHeap:=⟨fun b=>if b = C then none else h.obj b,h.wr,h.gh⟩
def Fk.jw (F:Fk) (b:Nat):Bool:=if (F.h0.obj b).isSome then F.h0.wr b else true
@[reducible] def Fk.pay (F:Fk):Payload:=⟨F.it⟩
section
variable (F:Fk)
def WT (i C:Nat) (v:Value):Rk→PHeap→Goroutine→Prop
  | .z,_,_=>False
  | .nd f,h,g=>g.status = .running ∧
    ((∀ w,Sat w h→WgLive F.ty F.Wg w→∃ g' w' es h',stepG F.P false g w = .go g' w' es∧Sat w' h'∧Grow w w' h h'∧(∀ e ∈ es,EvOk h w.heap.size e∧EvLt w'.heap.size e)∧WT i C v (f w 0) h' g') ∨
     (h.gh = [0] ∧ h.obj C = some (.cells #[v] F.it (0, 0)) ∧ ∃ g2 x zv sh, (∀ w, stepG F.P false g w = .comm g2 #[scase F.Ch x zv] true sh w #[]) ∧ F.Row i x (delb (ro h [1]) C) ∧
        ∀ w,WT i C v (f w 1) (delb (ro h [1]) C) (g2.finishComm F.P #[scase F.Ch x zv] sh 0 undef false)) ∨
     (h.gh = [1]∧∀ w,WgLive F.ty F.Wg w→Has C 0 v w→∃ m,@Goes F.P false (@RW F.pay F.ty F.Wg C 1 0 0) (@DWs F.pay F.Wg (fun _ _=>False) (fun _ _=>False) C 1 1) (@AtR0 F.pay F.P F.ty F.Wg C 1 0 1 v) m g w))
structure Joined (h hj:PHeap):Prop where
  gh:hj.gh = []
  obj:∀ b o,h.obj b = some o→hj.obj b = some o
  wr:∀ b,hj.wr b = (F.jw b || ((h.obj b).isSome && h.wr b))
  no:h.obj F.Ch = none
  rows:∃ rows:List (Nat × Value),(rows.map Prod.fst).Perm [0,1,2,3]∧hj.obj F.Ch = some (.chan 4 (rows.map Prod.snd).toArray false 4 0 false) ∧
    ∀ x ∈ rows,∃ S:PHeap,(∀ b o,S.obj b = some o→hj.obj b = some o∧b ≠ F.Ch∧((h.obj b).isSome = true→h.wr b = false))∧F.Row x.1 x.2 S
def MT:Rk→PHeap→Goroutine→Prop
  | .z,_,_=>False
  | .nd f,h,g=>g.status = .running ∧
    ((h.gh ≠ [10]∧∀ w,Sat w h→WgLive F.ty F.Wg w→∃ g' w' es h',stepG F.P true g w = .go g' w' es∧Sat w' h'∧Grow w w' h h'∧(∀ e ∈ es,EvOk h w.heap.size e∧EvLt w'.heap.size e)∧MT (f w 0) h' g') ∨
     (∃ j,h.gh = [0,j]∧∃ g',(∀ w,stepG F.P true g w = .go g' w #[mk .disable])∧∀ w,MT (f w 1) (stay h [1,j]) g') ∨
     (h.gh = [0,4]∧∃ g',(∀ w,stepG F.P true g w = .go g' w #[mk .disable])∧∀ w,MT (f w 1) (stay h [5,4]) g') ∨
     (∃ j,h.gh = [1,j]∧∃ g':Nat→Goroutine,∀ c,c ≤ j→(∀ w,WgAt F.ty F.Wg w (c * KK) 0→stepG F.P true g w = .go (g' c) (w.setCell (stA F.Wg) (.int .u64 ((c + 1) * KK))) #[rd (stA F.Wg),wr (stA F.Wg)])∧∀ w,MT (f w c) (stay h [2,j]) (g' c)) ∨
     (∃ j,h.gh = [2,j]∧∃ g',(∀ w,WgLive F.ty F.Wg w→stepG F.P true g w = .go g' w #[mk (.read (smA F.Wg))])∧∀ w,MT (f w 1) h g') ∨
     (∃ j,h.gh = [2,j]∧∃ g',(∀ w,stepG F.P true g w = .go g' w #[mk .enable])∧∀ w,MT (f w 1) (stay h [3,j]) g') ∨
     (∃ j, h.gh = [3, j] ∧ j < 4 ∧ ∃ g' child C v, (∀ w, stepG F.P true g w = .spawn g' child w #[]) ∧ h.obj C = some (.cells #[v] F.it (0, 0)) ∧ h.wr C = true ∧ F.h0.obj C = none ∧ (∃ r, WT F j C v r (ro h [0]) child) ∧
        ∀ w,MT (f w 1) (delb (ro h [0,j + 1]) C) g') ∨
     (∃ c,h.gh = [5,c]∧∃ g':Nat→Goroutine,∀ c',c' ≤ c→(∀ w,WgAt F.ty F.Wg w (c' * KK) 0→stepG F.P true g w = .go (g' c') w #[rd (stA F.Wg)])∧∀ w,MT (f w c') (stay h (if c' = 0 then [8] else [5,c'])) (g' c')) ∨
     (∃ c, h.gh = [5, c] ∧ 0 < c ∧ ∃ gh gm, (∀ w, WgAt F.ty F.Wg w (c * KK) 0 → stepG F.P true g w = .go gh (w.setCell (stA F.Wg) (.int .u64 (c * KK + 1))) #[rd (stA F.Wg), wr (stA F.Wg)]) ∧ (∀ w, MT (f w 0) (stay h [6]) gh) ∧
        ∀ c',c' < c→(∀ w,WgAt F.ty F.Wg w (c' * KK) 0→stepG F.P true g w = .go gm w #[rd (stA F.Wg)])∧∀ w,MT (f w (c' + 1)) (stay h [5,c']) gm) ∨
     (h.gh = [6]∧∃ g',(∀ w,WgLive F.ty F.Wg w→stepG F.P true g w = .go g' w #[mk (.write (smA F.Wg))])∧∀ w,MT (f w 1) h g') ∨
     (h.gh = [6] ∧ g.offers = none ∧ (∀ w st, WgAt F.ty F.Wg w st 0 → stepG F.P true g w = .go { g with status := .blocked } w #[]) ∧
        ∃ g',(∀ w,WgAt F.ty F.Wg w 0 1→stepG F.P true g w = .go g' (w.setCell (smA F.Wg) (.int .u32 0)) (semEvents (smA F.Wg)))∧∀ w,MT (f w 1) (stay h [7]) g') ∨
     (h.gh = [7]∧∃ g',(∀ w,WgAt F.ty F.Wg w 0 0→stepG F.P true g w = .go g' w #[rd (stA F.Wg)])∧∀ w,MT (f w 1) (stay h [8]) g') ∨
     (h.gh = [8]∧∃ g',(∀ w,stepG F.P true g w = .go g' w #[mk .enable])∧∀ w,MT (f w 1) (stay h [9]) g') ∨
     (h.gh = [9]∧∃ g',(∀ w,stepG F.P true g w = .go g' w #[mk (.acquire (stA F.Wg))])∧∀ hj,Joined F h hj→Lone F.P F.W F.R hj g'))
end
end Go.Sl

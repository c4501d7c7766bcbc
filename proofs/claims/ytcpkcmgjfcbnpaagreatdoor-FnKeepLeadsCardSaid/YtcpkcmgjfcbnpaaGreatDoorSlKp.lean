/- What stood at the start stands. No program. -/
import Derived.Test.YtcpkcmgjfcbnpaaGreatDoorLibA
set_option linter.unusedVariables false
set_option linter.unusedSimpArgs false
set_option linter.unusedSectionVars false

namespace Go.Sl
open Go Go.Conc PHeap
structure Kept (W w:World):Prop where
  os:w.os = W.os
  output:w.output = W.output
  size:W.heap.size ≤ w.heap.size
  same:∀ b,b < W.heap.size→w.heap[b]? = W.heap[b]?
theorem Kept.refl (W:World):Kept W W:=⟨rfl,rfl,Nat.le_refl _,fun _ _=>rfl⟩
theorem Kept.heap {W w w':World} (k:Kept W w) (h1:w'.os = w.os) (h2:w'.output = w.output) (h3:w'.heap = w.heap):Kept W w':=
  ⟨h1.trans k.os,h2.trans k.output,by rw [h3]; exact k.size,by rw [h3]; exact k.same⟩
def OldRo (W:World) (h:PHeap):Prop:=∀ b,(h.obj b).isSome = true→h.wr b = true→W.heap.size ≤ b
theorem Kept.own {W w w':World} {h h':PHeap} (k:Kept W w) (o:OldRo W h) (s:Sat w h) (s':Sat w' h') (g:Grow w w' h h'):Kept W w':=by
  refine ⟨g.os.trans k.os,g.output.trans k.output,Nat.le_trans k.size g.size,fun b hb=>?_⟩
  rw [← k.same b hb]
  have hbw:b < w.heap.size:=Nat.lt_of_lt_of_le hb k.size
  cases e:h.obj b with
  | none=>exact g.other b hbw e
  | some x=>
    have hs:(h.obj b).isSome = true:=by simp [e]
    obtain ⟨_,_,k3⟩:=g.keep b hs
    have hw:h.wr b = false:=by
      cases hw:h.wr b with
      | false=>rfl
      | true=>have:=o b hs hw; omega
    have e1:=k3 hw
    rw [e] at e1
    rw [s' b x e1,s b x e]
theorem OldRo.own {W w w':World} {h h':PHeap} (k:Kept W w) (o:OldRo W h) (g:Grow w w' h h'):OldRo W h':=fun b hb hw=>by
  rcases g.dom b hb with y | y
  · exact o b y (by rw [← (g.keep b y).2.1]; exact hw)
  · exact Nat.le_trans k.size y
end Go.Sl

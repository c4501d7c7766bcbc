/- A world's beginning. No program. -/
import Derived.Test.YtcpkcmgjfcbnpaaGreatDoorSmH
import Derived.Test.YtcpkcmgjfcbnpaaGreatDoorLibG
set_option linter.unusedVariables false
set_option linter.unusedSimpArgs false
set_option linter.unusedSectionVars false

namespace Go.Sl
open Go Go.Conc PHeap
def freshPainter:Painter:=⟨true,false,0,noScene⟩
def worldNew (g:Grid) (many:Int):World' × Bool:=if (keepNew g many).2 then (⟨(keepNew g many).1,List.replicate many.toNat freshPainter,[]⟩,true) else (noWorld,false)
theorem keepNew_many {g:Grid} {many:Int} (h:(keepNew g many).2 = true):1 ≤ many∧many ≤ 3:=by
  unfold keepNew at h
  split at h
  · rename_i e; simp only [Bool.and_eq_true,decide_eq_true_eq] at e; exact e.2
  · cases h
theorem worldNew_T {g:Grid} {many:Int} (h:(keepNew g many).2 = true):worldNew g many = (⟨(keepNew g many).1,List.replicate many.toNat freshPainter,[]⟩,true):=if_pos h
theorem worldNew_F {g:Grid} {many:Int} (h:¬ (keepNew g many).2 = true):worldNew g many = (noWorld,false):=if_neg h
theorem noWorldO {τ:Tys}:(worldR τ).O [] [.int .i64 0,.slice none 0 0,.slice none 0 0,.slice none 0 0,.slice none 0 0,.slice none 0 0,.slice none 0 0] noWorld:=
  worldO_mk (τ:=τ) (w:=noWorld) (Gr.nil τ.cell cellF) (by decide) (Gr.nil τ.edit editF) (by decide) (GrR.nil (R:=partR τ)) (GrR.nil (R:=shownR τ)) (GrR.nil (R:=painterR τ)) (GrR.nil (R:=wordR τ))
theorem freshPainterO {τ:Tys}:(painterR τ).O [] [.bool true,.bool false,.int .i64 0,.int .i64 0,.slice none 0 0,.slice none 0 0,.slice none 0 0] freshPainter:=
  painterO_mk (τ:=τ) (p:=freshPainter) (Gr.nil τ.cell cellF) (by decide) (Gr.nil τ.int intF) (by decide) (GrR.nil (R:=intSR τ))
theorem worldNew_ok {g:Grid} {many:Int} (h:(worldNew g many).2 = true):WOk (worldNew g many).1∧((worldNew g many).1.painters.length:Int) = many∧(worldNew g many).1.nets = []∧1 ≤ many∧many ≤ 3:=by
  unfold worldNew at h ⊢
  split at h
  · rename_i hk
    rw [if_pos hk]
    have hm:=keepNew_many hk
    unfold keepNew at hk ⊢
    split at hk
    · rename_i e
      rw [if_pos e]
      simp only [Bool.and_eq_true,decide_eq_true_eq] at e
      have hp:∀ (k:Keeper),painterTrue k freshPainter = true:=fun k=>by simp [painterTrue,freshPainter,paintOk,verOk]
      refine ⟨⟨(keepOk_iff _).2 ⟨⟨e.1,by simp; omega,by simp; omega,by simp,rfl⟩,fun i hi=>?_,fun i hi=>by simp at hi⟩,by simp,by simp,fun p hp'=>?_,fun x hx=>by cases hx⟩,by simp; omega,rfl,hm⟩
      · have hi':i < many.toNat:=by simpa using hi
        have:gt (List.replicate many.toNat noPart) i = noPart:=by rw [gt_eq (by simpa using hi')]; simp
        simp only at hi ⊢
        rw [this]
        simp [partOk,noPart]
      · obtain ⟨-,rfl⟩:=List.mem_replicate.1 hp'
        exact hp _
    · cases hk
  · cases h
end Go.Sl

/- A world's beginning. No program. -/
import Derived.Test.YtcefbjpebgofjaaSmH
namespace Go.Sl
open Go Go.Conc PHeap

def noScene : Scene := ⟨noGrid, [], []⟩
def freshPainter : Painter := ⟨true, false, 0, noScene⟩
def noWorld : World' := ⟨noKeeper, [], []⟩
def worldNew (g : Grid) (many : Int) : World' × Bool := if (keepNew g many).2 then (⟨(keepNew g many).1, List.replicate many.toNat freshPainter, []⟩, true) else (noWorld, false)
theorem keepNew_many {g : Grid} {many : Int} (h : (keepNew g many).2 = true) : 1 ≤ many ∧ many ≤ 3 := by
  unfold keepNew at h
  split at h
  · rename_i e; simp only [Bool.and_eq_true, decide_eq_true_eq] at e; exact e.2
  · cases h
theorem worldNew_T {g : Grid} {many : Int} (h : (keepNew g many).2 = true) : worldNew g many = (⟨(keepNew g many).1, List.replicate many.toNat freshPainter, []⟩, true) := if_pos h
theorem worldNew_F {g : Grid} {many : Int} (h : ¬ (keepNew g many).2 = true) : worldNew g many = (noWorld, false) := if_neg h
theorem noWorldO {τ : Tys} : (worldR τ).O [] [.int .i64 0, .slice none 0 0, .slice none 0 0, .slice none 0 0, .slice none 0 0, .slice none 0 0, .slice none 0 0] noWorld :=
  worldO_mk (τ := τ) (w := noWorld) (Gr.nil τ.cell cellF) (by decide) (Gr.nil τ.edit editF) (by decide) (GrR.nil (R := partR τ)) (GrR.nil (R := shownR τ)) (GrR.nil (R := painterR τ)) (GrR.nil (R := wordR τ))
theorem freshPainterO {τ : Tys} : (painterR τ).O [] [.bool true, .bool false, .int .i64 0, .int .i64 0, .slice none 0 0, .slice none 0 0, .slice none 0 0] freshPainter :=
  painterO_mk (τ := τ) (p := freshPainter) (Gr.nil τ.cell cellF) (by decide) (Gr.nil τ.int intF) (by decide) (GrR.nil (R := intSR τ))
theorem worldNew_c (g : Grid) (many : Int) : cWorld (worldNew g many).1 ≤ 2 * g.cells.length + 18 := by
  unfold worldNew
  have := keepNew_c g many
  split
  · rename_i h
    have hm := keepNew_many h
    simp only [cWorld, cPainterS, cWordS, sizeL, sizeL_replicate, cPainterE, freshPainter, noScene, noGrid, cCellS, cIntS, cIntSS]
    omega
  · simp [cWorld, noWorld, cKeeper, noKeeper, noGrid, cGrid, cCellS, cEditS, cPartS, cShownS, cPainterS, cWordS, sizeL]
end Go.Sl

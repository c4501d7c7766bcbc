/- Rules of a calculus of our own, no program: SpQ SpR SpW. -/
import Derived.Test.YtekjikbaefgncaaGreatDoorLibE
set_option linter.unusedVariables false
set_option linter.unusedSimpArgs false
set_option linter.unusedSectionVars false
namespace Go.Sl
def rightWord (k : Keeper) (x : Word) : Word :=
  if x.kind = 1 then ⟨1, x.to, 0, x.ver, gridAt k x.ver, noEdit, []⟩
  else if x.kind = 2 then ⟨2, x.to, 0, x.ver, noGrid, gt k.edits (x.ver - 1).toNat, []⟩
  else if x.kind = 3 then ⟨3, 0, x.frm, x.ver, noGrid, noEdit, partLights k x.frm.toNat x.ver⟩
  else ⟨4, 0, x.frm, 0, noGrid, noEdit, []⟩
def wordWho (x : Word) : Int := if x.kind = 1 ∨ x.kind = 2 then x.to else x.frm
def wordTrue (k : Keeper) (x : Word) : Bool :=
  verOk k x.ver && (decide (1 ≤ x.kind) && decide (x.kind ≤ 4)) && !(decide (x.kind = 2) && decide (x.ver = 0)) && idOk (wordWho x) k.parts.length && decide (x = rightWord k x)
def painterTrue (k : Keeper) (p : Painter) : Bool := verOk k p.ver && paintOk p && (!p.has || decide (p.scene.grid = gridAt k p.ver))
def worldOk (w : World') : Bool := keepOk w.keeper && decide (w.painters.length = w.keeper.parts.length) && decide (w.nets.length ≤ 10) && (w.painters.all (painterTrue w.keeper) && w.nets.all (wordTrue w.keeper))
theorem wordTrue1 {k : Keeper} {x : Word} (h : x.kind = 1) : wordTrue k x = (verOk k x.ver && idOk x.to k.parts.length && decide (x = ⟨1, x.to, 0, x.ver, gridAt k x.ver, noEdit, []⟩)) := by simp [wordTrue, wordWho, rightWord, h]
theorem wordTrue2 {k : Keeper} {x : Word} (h : x.kind = 2) : wordTrue k x = (verOk k x.ver && !(decide (x.ver = 0)) && idOk x.to k.parts.length && decide (x = ⟨2, x.to, 0, x.ver, noGrid, gt k.edits (x.ver - 1).toNat, []⟩)) := by simp [wordTrue, wordWho, rightWord, h]
theorem wordTrue3 {k : Keeper} {x : Word} (h : x.kind = 3) : wordTrue k x = (verOk k x.ver && idOk x.frm k.parts.length && decide (x = ⟨3, 0, x.frm, x.ver, noGrid, noEdit, partLights k x.frm.toNat x.ver⟩)) := by simp [wordTrue, wordWho, rightWord, h]
theorem wordTrue4 {k : Keeper} {x : Word} (h : x.kind = 4) : wordTrue k x = (verOk k x.ver && idOk x.frm k.parts.length && decide (x = ⟨4, 0, x.frm, 0, noGrid, noEdit, []⟩)) := by simp [wordTrue, wordWho, rightWord, h]
theorem wordTrue0 {k : Keeper} {x : Word} (h1 : ¬ x.kind = 1) (h2 : ¬ x.kind = 2) (h3 : ¬ x.kind = 3) (h4 : ¬ x.kind = 4) : wordTrue k x = false := by
  have : (decide (1 ≤ x.kind) && decide (x.kind ≤ 4)) = false := by
    rcases Int.lt_or_le x.kind 1 with a | a
    · rw [decide_eq_false (by omega : ¬ 1 ≤ x.kind)]; rfl
    · rw [decide_eq_false (by omega : ¬ x.kind ≤ 4), Bool.and_false]
  simp only [wordTrue, this, Bool.and_false, Bool.false_and]
end Go.Sl

/- Scenes and painters, told as plain data. No program. -/
import Derived.Test.YtcpkcmgjfcbnpaaGreatDoorLibC
set_option linter.unusedVariables false
set_option linter.unusedSimpArgs false
set_option linter.unusedSectionVars false

namespace Go.Sl
theorem footIs_mem (g : Grid) (vs : List Visit) (hv : ∀ v ∈ vs, 0 ≤ v.at' ∧ v.at' < g.cells.length) (z : Int) : z ∈ footIs g vs ↔ z ∈ vs.map Visit.at' := by
  unfold footIs
  simp only [List.mem_map, List.mem_filter, List.mem_range, List.any_eq_true, decide_eq_true_eq]
  constructor
  · rintro ⟨i, ⟨hi, v, hv', e⟩, rfl⟩; exact ⟨v, hv', e⟩
  · rintro ⟨v, hv', rfl⟩
    have := hv v hv'
    exact ⟨v.at'.toNat, ⟨by omega, v, hv', by omega⟩, by omega⟩
theorem footIs_len (g : Grid) (vs : List Visit) : (footIs g vs).length ≤ g.cells.length := by
  unfold footIs
  rw [List.length_map]
  have := List.length_filter_le (fun i => vs.any fun v => decide (v.at' = (i : Nat))) (List.range g.cells.length)
  simpa using this
theorem feetOf_len (g : Grid) : (feetOf g).length = (manyOf g).toNat := by simp [feetOf]
theorem feetOf_at {g : Grid} {k : Nat} (h : k < (manyOf g).toNat) : gt (feetOf g) k = footOf g k := by
  rw [gt_eq (by rw [feetOf_len]; exact h)]; simp [feetOf]
def noScene : Scene := ⟨noGrid, [], []⟩
def sceneOk (s : Scene) : Bool := gridOk s.grid && decide (s = sceneOf s.grid)
theorem sceneOk_is {s : Scene} (h : sceneOk s = true) : gridOk s.grid = true ∧ s = sceneOf s.grid := by simpa [sceneOk] using h
theorem sceneOk_of {g : Grid} (h : gridOk g = true) : sceneOk (sceneOf g) = true := by simp [sceneOk, sceneOf, h]
def sceneNew (g : Grid) : Scene × Bool := if gridOk g = true then (sceneOf g, true) else (noScene, false)
def touchTo (feet : List (List Int)) (a : Int) (n : Nat) : List Nat := (List.range n).filter fun k => decide (a ∈ gt feet k)
def touched (feet : List (List Int)) (a : Int) : List Nat := touchTo feet a feet.length
theorem touchTo_step (feet : List (List Int)) (a : Int) (n : Nat) : touchTo feet a (n + 1) = if a ∈ gt feet n then touchTo feet a n ++ [n] else touchTo feet a n := by
  unfold touchTo
  rw [List.range_succ, List.filter_append]
  split <;> simp_all
theorem touchTo_lt {feet : List (List Int)} {a : Int} {n k : Nat} (h : k ∈ touchTo feet a n) : k < n := by
  unfold touchTo at h; simp at h; exact h.1
theorem touchTo_len (feet : List (List Int)) (a : Int) (n : Nat) : (touchTo feet a n).length ≤ n := by
  unfold touchTo
  have := List.length_filter_le (fun k => decide (a ∈ gt feet k)) (List.range n)
  simpa using this
def natsI (ks : List Nat) : List Int := ks.map fun k => ((k : Nat) : Int)
def lookL (g : Grid) (ks : List Nat) (l : List Int) : List Int := ks.foldl (fun l k => l.set k (trailLight g k)) l
def lookF (g : Grid) (ks : List Nat) (l : List (List Int)) : List (List Int) := ks.foldl (fun l k => l.set k (footOf g k)) l
theorem lookL_len (g : Grid) (ks : List Nat) : ∀ l, (lookL g ks l).length = l.length := by
  induction ks with
  | nil => intro l; rfl
  | cons k ks ih => intro l; show (lookL g ks _).length = _; rw [ih]; simp
theorem lookF_len (g : Grid) (ks : List Nat) : ∀ l, (lookF g ks l).length = l.length := by
  induction ks with
  | nil => intro l; rfl
  | cons k ks ih => intro l; show (lookF g ks _).length = _; rw [ih]; simp
theorem lookL_snoc (g : Grid) (ks : List Nat) (k : Nat) (l : List Int) : lookL g (ks ++ [k]) l = (lookL g ks l).set k (trailLight g k) := by simp [lookL]
theorem lookF_snoc (g : Grid) (ks : List Nat) (k : Nat) (l : List (List Int)) : lookF g (ks ++ [k]) l = (lookF g ks l).set k (footOf g k) := by simp [lookF]
def editScene (s : Scene) (e : Edit) : Scene :=
  ⟨putCell s.grid e, lookL (putCell s.grid e) (touched s.feet e.at') s.lights, lookF (putCell s.grid e) (touched s.feet e.at') s.feet⟩
def noPainter : Painter := ⟨false, false, 0, noScene⟩
def paintOk (p : Painter) : Bool := if p.has = true then p.up && (decide (0 ≤ p.ver) && decide (p.ver ≤ 60)) && sceneOk p.scene else decide (p.ver = 0) && decide (p.scene = noScene)
theorem paintOk_has {p : Painter} (h : paintOk p = true) (hp : p.has = true) : p.up = true ∧ 0 ≤ p.ver ∧ p.ver ≤ 60 ∧ sceneOk p.scene = true := by
  unfold paintOk at h
  rw [if_pos hp] at h
  simpa [and_assoc] using h
def idOk (id many : Int) : Bool := decide (1 ≤ many) && decide (many ≤ 3) && decide (1 ≤ id) && decide (id ≤ many)
def paintTold (p : Painter) (id many : Int) : Word × Bool :=
  if p.up = false then (noWord, false)
  else if p.has = false then (⟨4, 0, id, 0, noGrid, noEdit, []⟩, true)
  else (⟨3, 0, id, p.ver, noGrid, noEdit, ownLights p.scene.lights (manyOf p.scene.grid).toNat many.toNat id.toNat⟩, true)
def paintHeard (p : Painter) (w : Word) : Painter :=
  if p.up = false then p
  else if w.kind = 1 then (if (0 ≤ w.ver ∧ w.ver ≤ 60) ∧ (p.has = true → p.ver < w.ver) ∧ gridOk w.grid = true then ⟨true, true, w.ver, sceneOf w.grid⟩ else p)
  else if w.kind = 2 then (if p.has = true ∧ w.ver = p.ver + 1 ∧ w.ver ≤ 60 ∧ editOk p.scene.grid w.edit = true then ⟨true, true, w.ver, editScene p.scene w.edit⟩ else p)
  else p
end Go.Sl

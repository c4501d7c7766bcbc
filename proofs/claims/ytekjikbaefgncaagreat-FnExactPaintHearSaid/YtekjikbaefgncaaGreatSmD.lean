/- How the data of the program lie: cells, grids and the like. No program. -/
import Derived.Test.YtekjikbaefgncaaGreatLibA
set_option linter.unusedVariables false
set_option linter.unusedSimpArgs false
set_option linter.unusedSectionVars false

namespace Go.Sl
open Go Go.Conc PHeap
structure Cell where
  kind : Int
  light : Int
deriving Inhabited, DecidableEq
structure Edit where
  at' : Int
  cell : Cell
deriving Inhabited, DecidableEq
def intF : Flat Int := ⟨1, fun x => [.int .i64 x], fun _ => rfl⟩
def boolF : Flat Bool := ⟨1, fun x => [.bool x], fun _ => rfl⟩
def cellF : Flat Cell := ⟨2, fun c => [.int .i64 c.kind, .int .i64 c.light], fun _ => rfl⟩
def editF : Flat Edit := ⟨3, fun c => [.int .i64 c.at', .int .i64 c.cell.kind, .int .i64 c.cell.light], fun _ => rfl⟩
def valF : Flat Value := ⟨1, fun v => [v], fun _ => rfl⟩
instance {x : Int} : FlatV intF x [.int .i64 x] := ⟨rfl⟩
instance {x : Bool} : FlatV boolF x [.bool x] := ⟨rfl⟩
instance {x : Cell} : FlatV cellF x [.int .i64 x.kind, .int .i64 x.light] := ⟨rfl⟩
instance {x : Edit} : FlatV editF x [.int .i64 x.at', .int .i64 x.cell.kind, .int .i64 x.cell.light] := ⟨rfl⟩
instance {x : Value} : FlatV valF x [x] := ⟨rfl⟩
structure Grid where
  wide : Int
  cells : List Cell
deriving Inhabited, DecidableEq
def GridB (h : PHeap) (v : Value) (g : Grid) : Prop := ∃ c, v = .agg #[.int .i64 g.wide, c] ∧ Sl h c cellF g.cells
theorem take_succ_gt {α : Type} [Inhabited α] {xs : List α} {k : Nat} (h : k < xs.length) : xs.take (k + 1) = xs.take k ++ [gt xs k] := by
  rw [gt_eq h]; exact List.take_succ_eq_append_getElem h
theorem all_take {α : Type} [Inhabited α] {p : α → Bool} {xs : List α} {k : Nat} (h : k < xs.length) : (xs.take (k + 1)).all p = ((xs.take k).all p && p (gt xs k)) := by
  rw [take_succ_gt h]; simp
theorem all_false {α : Type} [Inhabited α] {p : α → Bool} {xs : List α} {k : Nat} (h : k < xs.length) (hp : p (gt xs k) = false) : xs.all p = false := by
  cases e : xs.all p with
  | false => rfl
  | true =>
    rw [List.all_eq_true] at e
    rw [e _ (by rw [gt_eq h]; exact List.getElem_mem h)] at hp; cases hp
theorem take_ge {α : Type} {xs : List α} {k : Nat} (h1 : k ≤ xs.length) (h2 : ¬ k < xs.length) : xs.take k = xs := List.take_of_length_le (by omega)
def GridO (T : TypeId) (A : Own) (v : Value) (g : Grid) : Prop := ∃ c, v = .agg #[.int .i64 g.wide, c] ∧ Gr A c T cellF g.cells
theorem Gr.lent {A : Own} {v : Value} {T : TypeId} {α : Type} {E : Flat α} {xs : List α} (g : Gr A v T E xs) (hs : xs.length ≤ 281474976710656) {h : PHeap} (i : InB h A) : Sl h v E xs := by
  rcases g.at' with ⟨rfl, rfl, rfl⟩ | ⟨b, cap, sp, rfl, rfl, h1, h2⟩
  · exact Sl.nil _ _
  · refine ⟨hs, .inr ⟨cap, rfl, h2, ?_⟩⟩
    refine cells_flat (fun j v e => ?_)
    rw [add_none]
    have e0 := i.at' b (.cells (xs.flatMap E.f ++ sp).toArray T) (by simp)
    simp only [vo, vb]
    rw [cell_of e0]
    have hj : j < (xs.flatMap E.f).length := by
      rcases Nat.lt_or_ge j (xs.flatMap E.f).length with h | h
      · exact h
      · rw [List.getElem?_eq_none h] at e; cases e
    simp only [Nat.zero_add, List.getElem?_toArray]
    rw [List.getElem?_append_left hj]; exact e
theorem GridO.lent {T : TypeId} {A : Own} {v : Value} {g : Grid} (o : GridO T A v g) (hs : g.cells.length ≤ 281474976710656) {h : PHeap} (i : InB h A) : GridB h v g :=
  let ⟨c, e, gr⟩ := o; ⟨c, e, gr.lent hs i⟩
theorem set_step {α : Type} [Inhabited α] {xs : List α} {k : Nat} {d : α} (h : k < xs.length) : (xs.take k ++ List.replicate (xs.length - k) d).set k (gt xs k) = xs.take (k + 1) ++ List.replicate (xs.length - (k + 1)) d := by
  rw [take_succ_gt h, List.set_append_right _ _ (by simp; omega), List.append_assoc]
  congr 1
  have : xs.length - k = (xs.length - (k + 1)) + 1 := by omega
  rw [this, List.replicate_succ]
  simp [Nat.min_eq_left (Nat.le_of_lt h)]
def cellOk (c : Cell) : Bool := if c.kind = 7 then decide (1 ≤ c.light) && decide (c.light ≤ 9) else decide (0 ≤ c.kind) && decide (c.kind ≤ 6) && decide (c.light = 0)
def gridOk (g : Grid) : Bool := decide (1 ≤ g.wide) && decide (g.wide ≤ 5) && decide ((g.cells.length : Int) % g.wide = 0) && decide (1 ≤ (g.cells.length : Int) / g.wide) && decide ((g.cells.length : Int) / g.wide ≤ 5) && g.cells.all cellOk
end Go.Sl

/- Rules for the operations of a region, told on partial heaps. No program. -/
import Derived.Test.YtcefbjpebgofjaaSlB
namespace Go.Sl
open Go Go.Conc PHeap

/-- What a type is like. -/
class Ty (P : Program) (t : TypeId) (d : outParam TypeDesc) (size : outParam Nat) (bytes : outParam Nat) (zero : outParam Value) : Prop where
  und : P.underlying t = some d
  inf : (P.info? t).map (fun i => (i.size, i.bytes, i.zero)) = some (size, bytes, some zero)

def aggD : TypeDesc → Bool
  | .struct _ | .array _ _ => true
  | _ => false

/-- A struct's fields: the type, whether it is a struct or an array, the place and the size of each. -/
structure FldI where
  type : TypeId
  agg : Bool
  off : Nat
  size : Nat
def Program.fldsOf (P : Program) (t : TypeId) : Option (List (Option FldI)) :=
  match P.underlying t with
  | some (.struct fs) => some (fs.toList.map fun f => (P.info? f.type).bind fun i => (P.underlying f.type).map fun d => ⟨f.type, aggD d, f.offset, i.size⟩)
  | _ => none
class Flds (P : Program) (t : TypeId) (pl : outParam (List FldI)) : Prop where
  und : Program.fldsOf P t = some (pl.map some)
/-- A function with a body. -/
class Fun (P : Program) (f : FuncId) : Prop where
  is : (P.funcs[f]?).any (fun fn => !(fn.name == "runtime.NumGoroutine") && fn.body.isSome) = true

section
variable {P : Program} {E : Value → PHeap → Prop} {h : PHeap}

theorem slp_underlying {K : TypeDesc → PHeap → Prop} {t : TypeId} {d : TypeDesc} (e : P.underlying t = some d) (x : K d h) : (underlying t).slp P K E h := by
  simp only [underlying, program, slp_bind]
  show Sem.slp P K E (match P.underlying t with | some d => pure d | none => stuck "no such type") h
  rw [e]; exact x
theorem slp_typeInfo {K : TypeInfo → PHeap → Prop} {t : TypeId} {i : TypeInfo} (e : P.info? t = some i) (x : K i h) : (typeInfo t).slp P K E h := by
  simp only [typeInfo, program, slp_bind]
  show Sem.slp P K E (match P.info? t with | some i => pure i | none => stuck "no such type") h
  rw [e]; exact x
theorem Ty.get {t : TypeId} {d : TypeDesc} {size bytes : Nat} {zero : Value} (T : Ty P t d size bytes zero) : ∃ i, P.info? t = some i ∧ i.size = size ∧ i.bytes = bytes ∧ i.zero = some zero := by
  have := T.inf
  cases e : P.info? t with
  | none => rw [e] at this; cases this
  | some i => rw [e] at this; simp at this; exact ⟨i, rfl, this.1, this.2.1, this.2.2⟩
variable {t : TypeId} {d : TypeDesc} {size bytes : Nat} {zero : Value}
theorem slp_sizeOf {K : Nat → PHeap → Prop} (T : Ty P t d size bytes zero) (x : K size h) : (sizeOf t).slp P K E h := by
  obtain ⟨i, h1, h2, h3, h4⟩ := T.get
  simp only [sizeOf, slp_bind, slp_pure]
  exact slp_typeInfo h1 (by rw [h2]; exact x)
theorem slp_zeroValue {K : Value → PHeap → Prop} (T : Ty P t d size bytes zero) (x : K zero h) : (zeroValue t).slp P K E h := by
  obtain ⟨i, h1, h2, h3, h4⟩ := T.get
  simp only [zeroValue, slp_bind]
  refine slp_typeInfo h1 ?_
  rw [h4]; exact x
theorem slp_isAgg {K : Bool → PHeap → Prop} (e : P.underlying t = some d) (x : K (aggD d) h) : (isAgg t).slp P K E h := by
  simp only [isAgg, slp_bind]
  refine slp_underlying e ?_
  cases d <;> exact x

/-! ### cells -/
theorem add_none (b off n : Nat) : (Addr.mk b off none).add n = ⟨b, off + n, none⟩ := by
  unfold Addr.add; split
  · rename_i e; subst e; rfl
  · rfl

/-- 'n' cells from 'a' on. -/
def Cells (h : PHeap) (a : Addr) (cs : List Value) : Prop := ∀ j v, cs[j]? = some v → h.cell (a.add j) = some v

theorem slp_loadCellsFrom {K : Array Value → PHeap → Prop} {a : Addr} : ∀ (cs : List Value) (i : Nat) (acc : Array Value), (∀ j v, cs[j]? = some v → h.cell (a.add (i + j)) = some v) →
    K (acc ++ cs.toArray) h → (loadCellsFrom a i cs.length acc).slp P K E h
  | [], i, acc, _, x => by simpa [loadCellsFrom, slp_pure] using x
  | c :: cs, i, acc, hc, x => by
    simp only [List.length_cons, loadCellsFrom, load, slp_bind]
    refine ⟨rfl, c, by simpa using hc 0 c rfl, ?_⟩
    refine slp_loadCellsFrom cs (i + 1) (acc.push c) (fun j v e => ?_) (by simpa using x)
    have := hc (j + 1) v (by simpa using e)
    rwa [show i + (j + 1) = i + 1 + j from by omega] at this
theorem slp_loadCells {K : Array Value → PHeap → Prop} {a : Addr} {cs : List Value} {n : Nat} (hn : n = cs.length) (hc : Cells h a cs) (x : K cs.toArray h) : (loadCells a n).slp P K E h := by
  subst hn
  exact slp_loadCellsFrom cs 0 #[] (fun j v e => by simpa using hc j v e) (by simpa using x)

/-- A value of a type as its cells. -/
def ofCells (d : TypeDesc) (cs : List Value) : Value := if aggD d then .agg cs.toArray else cs.headD undef

theorem slp_loadVar {K : Value → PHeap → Prop} {a : Addr} {cs : List Value} (T : Ty P t d size bytes zero) (hl : cs.length = size) (h1 : aggD d = false → size = 1) (hc : Cells h a cs) (x : K (ofCells d cs) h) : (loadVar t a).slp P K E h := by
  simp only [loadVar, slp_bind]
  refine slp_isAgg T.und ?_
  unfold ofCells at x
  by_cases hd : aggD d = true
  · rw [if_pos hd] at x ⊢
    simp only [slp_bind, slp_pure]
    exact slp_sizeOf T (slp_loadCells hl.symm hc x)
  · rw [if_neg hd] at x ⊢
    have hs := h1 (by simpa using hd)
    rw [hs] at hl
    obtain ⟨c, rfl⟩ := List.length_eq_one_iff.1 hl
    exact ⟨rfl, c, by simpa [Addr.add] using hc 0 c rfl, x⟩

/-- The cells of a block, some of them laid anew. -/
def setCells (c : Array Value) : Nat → List Value → Array Value
  | _, [] => c
  | off, v :: vs => setCells (c.setIfInBounds off v) (off + 1) vs
theorem setCells_size : ∀ (vs : List Value) (c : Array Value) (off : Nat), (setCells c off vs).size = c.size
  | [], c, off => rfl
  | v :: vs, c, off => by simp [setCells, setCells_size vs]

theorem PHeap.ext' {a b : PHeap} (h1 : ∀ r, a.obj r = b.obj r) (h2 : ∀ r, a.wr r = b.wr r) (h3 : a.gh = b.gh) : a = b := by
  cases a; cases b; congr <;> first | exact h3 | (funext r; first | exact h1 r | exact h2 r)
theorem put_put (h : PHeap) (r : Nat) (o o' : Obj) : (h.put r o).put r o' = h.put r o' := by
  refine PHeap.ext' ?_ ?_ rfl <;> intro b <;> simp only [PHeap.put] <;> split <;> rfl
theorem setCell_put {b off : Nat} {c : Array Value} {T : TypeId} {fr : Nat × Nat} (hb : h.obj b = some (.cells c T fr)) (hw : h.wr b = true) (v : Value) :
    h.setCell ⟨b, off, none⟩ v = h.put b (.cells (c.setIfInBounds off v) T fr) := by
  refine PHeap.ext' ?_ ?_ rfl <;> intro r <;> simp only [PHeap.setCell, PHeap.upd, PHeap.put]
  · split
    · rename_i e; subst e; simp [hb, cellsSet]
    · rfl
  · split
    · rename_i e; subst e; exact hw
    · rfl
theorem cell_of {b off : Nat} {c : Array Value} {T : TypeId} {fr : Nat × Nat} (hb : h.obj b = some (.cells c T fr)) : h.cell ⟨b, off, none⟩ = c[off]? := by
  simp [PHeap.cell, hb]
theorem obj_put (h : PHeap) (r : Nat) (o : Obj) : (h.put r o).obj r = some o := by simp [PHeap.put]
theorem wr_put (h : PHeap) (r : Nat) (o : Obj) : (h.put r o).wr r = true := by simp [PHeap.put]
theorem obj_put_ne {b r : Nat} {o : Obj} (e : b ≠ r) : (h.put r o).obj b = h.obj b := by simp [PHeap.put, e]
theorem wr_put_ne {b r : Nat} {o : Obj} (e : b ≠ r) : (h.put r o).wr b = h.wr b := by simp [PHeap.put, e]
theorem obj_put_fresh {b r : Nat} {o x : Obj} (hr : h.obj r = none) (hb : h.obj b = some x) : (h.put r o).obj b = some x := by
  rw [obj_put_ne (fun e => by rw [e, hr] at hb; cases hb)]; exact hb
theorem wr_put_fresh {b r : Nat} {o x : Obj} (hr : h.obj r = none) (hb : h.obj b = some x) (hw : h.wr b = true) : (h.put r o).wr b = true := by
  rw [wr_put_ne (fun e => by rw [e, hr] at hb; cases hb)]; exact hw
theorem obj_le {h h' : PHeap} {b : Nat} {x : Obj} (l : h ≤ h') (hb : h.obj b = some x) : h'.obj b = some x := (l b x hb).1
theorem wr_le {h h' : PHeap} {b : Nat} {x : Obj} (l : h ≤ h') (hb : h.obj b = some x) (hw : h.wr b = true) : h'.wr b = true := (l b x hb).2.trans hw
theorem none_put {b r : Nat} {o : Obj} (hb : (h.put r o).obj b = none) : h.obj b = none := by
  simp only [PHeap.put] at hb; split at hb
  · cases hb
  · exact hb
theorem ne_of_none {b r : Nat} {x : Obj} (hr : h.obj r = none) (hb : h.obj b = some x) : b ≠ r := fun e => by rw [e, hr] at hb; cases hb

def noFrozen (fr : Nat × Nat) (off n : Nat) : Prop := fr.2 ≤ off ∨ off + n ≤ fr.1

theorem slp_storeCells {K : Unit → PHeap → Prop} {b : Nat} {T : TypeId} {fr : Nat × Nat} : ∀ (vs : List Value) (off i : Nat) (c : Array Value) (h : PHeap), h.obj b = some (.cells c T fr) → h.wr b = true →
    off + i + vs.length ≤ c.size → (∀ v ∈ vs, isOne v = true) → noFrozen fr (off + i) vs.length → K () (h.put b (.cells (setCells c (off + i) vs) T fr)) → (storeCells ⟨b, off, none⟩ vs i).slp P K E h
  | [], off, i, c, h, hb, hw, _, _, _, x => by
    have : h.put b (.cells c T fr) = h := by
      refine PHeap.ext' ?_ ?_ rfl <;> intro r <;> simp only [PHeap.put] <;> split <;> rename_i e <;> (try subst e) <;> first | exact hb.symm | exact hw.symm | rfl
    simp only [setCells, this] at x
    exact x
  | v :: vs, off, i, c, h, hb, hw, hl, ho, hf, x => by
    simp only [storeCells, store, slp_bind]
    simp only [List.length_cons] at hl hf
    refine ⟨rfl, ho v (by simp), by rw [add_none]; exact hw, ⟨c[off + i]'(by omega), ?_⟩, ?_, ?_⟩
    · rw [add_none, cell_of hb]; simp [show off + i < c.size from by omega]
    · rw [add_none]; simp only [PHeap.frozen, hb]
      unfold noFrozen at hf
      obtain ⟨lo, hi⟩ := fr
      simp only [Bool.and_eq_false_iff, decide_eq_false_iff_not]
      simp only at hf; omega
    · rw [add_none, setCell_put hb hw]
      refine slp_storeCells vs off (i + 1) (c.setIfInBounds (off + i) v) _ (obj_put _ _ _) (wr_put _ _ _) (by simp; omega) (fun u hu => ho u (by simp [hu])) (by unfold noFrozen at *; omega) ?_
      rw [put_put, ← Nat.add_assoc]; exact x
end
end Go.Sl

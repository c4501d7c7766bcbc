/- Rules for what builds data and for slices that grow. No program. -/
import Derived.Test.YtcefbjpebgofjaaSlJ
import Derived.Laws.Append
namespace Go.Sl
open Go Go.Conc PHeap

theorem setCells_toList : ∀ (vs : List Value) (c : Array Value) (off : Nat), off + vs.length ≤ c.size → (setCells c off vs).toList = c.toList.take off ++ vs ++ c.toList.drop (off + vs.length)
  | [], c, off, _ => by simp [setCells]
  | v :: vs, c, off, h => by
    simp only [List.length_cons] at h
    rw [setCells, setCells_toList vs _ _ (by simp; omega)]
    apply List.ext_getElem?
    intro i
    have e : (c.setIfInBounds off v).toList = c.toList.set off v := by simp
    rw [e]
    simp only [List.getElem?_append, List.length_append, List.length_take, List.length_set, Array.length_toList, List.length_cons, List.getElem?_take, List.getElem?_drop, List.getElem?_set]
    rcases Nat.lt_trichotomy i off with hi | hi | hi
    · simp [show i < min (off + 1) c.size by omega, show i < min (off+1) c.size + vs.length by omega, show i < min off c.size by omega, show i < min off c.size + (vs.length + 1) by omega, show i < off + 1 by omega, hi, show ¬ off = i by omega]
    · subst hi
      simp [show i < c.size by omega, show i < min (i + 1) c.size by omega, show i < min (i+1) c.size + vs.length by omega, show ¬ i < min i c.size by omega, show i < min i c.size + (vs.length + 1) by omega, show i - min i c.size = 0 by omega]
    · by_cases h2 : i < off + 1 + vs.length
      · simp [show ¬ i < min (off + 1) c.size by omega, show i < min (off+1) c.size + vs.length by omega, show ¬ i < min off c.size by omega, show i < min off c.size + (vs.length + 1) by omega, show i - min off c.size = (i - min (off+1) c.size) + 1 by omega]
      · simp [show ¬ i < min (off + 1) c.size by omega, show ¬ i < min (off+1) c.size + vs.length by omega, show ¬ i < min off c.size by omega, show ¬ i < min off c.size + (vs.length + 1) by omega]
        have e1 : off + 1 + vs.length + (i - (min (off + 1) c.size + vs.length)) = i := by omega
        have e2 : off + (vs.length + 1) + (i - (min off c.size + (vs.length + 1))) = i := by omega
        rw [e1, e2]; simp [show ¬ off = i by omega]
theorem fill_setCells (cs : Array Value) (off : Nat) (vs : Array Value) : vs.zipIdx.foldl (fun cs (x : Value × Nat) => cs.setIfInBounds (off + x.2) x.1) cs = setCells cs off vs.toList := by
  have key : ∀ (l : List Value) (k : Nat) (cs : Array Value), (l.zipIdx k).foldl (fun cs (x : Value × Nat) => cs.setIfInBounds (off + x.2) x.1) cs = setCells cs (off + k) l := by
    intro l
    induction l with
    | nil => intro k cs; rfl
    | cons v l ih => intro k cs; simp only [List.zipIdx_cons, List.foldl_cons, setCells, ih, Nat.add_assoc]
  rw [← Array.foldl_toList, Array.toList_zipIdx]
  simpa using key vs.toList 0 cs

/-! ### a struct's value out of its parts -/
def splice (cs : List Value) (off : Nat) (vs : List Value) : List Value := cs.take off ++ vs ++ cs.drop (off + vs.length)
def fillC (pl : List FldI) : List Value → List (Nat × Value) → Option (List Value)
  | cs, [] => some cs
  | cs, (i, v) :: ps => match pl[i]? with
    | some fi => bif Nat.beq v.cells.toList.length fi.size && Nat.ble (fi.off + fi.size) cs.length then fillC pl (splice cs fi.off v.cells.toList) ps else none
    | none => none
theorem splice_length {cs vs : List Value} {off : Nat} (h : off + vs.length ≤ cs.length) : (splice cs off vs).length = cs.length := by simp [splice]; omega
theorem fill_fillC {pl : List FldI} {places : Nat → Option (Nat × Nat)} (hp : ∀ i (fi : FldI), pl[i]? = some fi → places i = some (fi.off, fi.size)) : ∀ {ps : List (Nat × Value)} {cs l : List Value}, fillC pl cs ps = some l → Instr.fill places cs.toArray ps = some l.toArray
  | [], cs, l, e => by cases e; rfl
  | (i, v) :: ps, cs, l, e => by
    simp only [fillC] at e
    cases hf : pl[i]? with
    | none => rw [hf] at e; cases e
    | some fi =>
      rw [hf] at e
      simp only at e
      cases hc : Nat.beq v.cells.toList.length fi.size && Nat.ble (fi.off + fi.size) cs.length with
      | false => rw [hc] at e; cases e
      | true =>
        rw [hc] at e
        simp only [Bool.and_eq_true] at hc
        have h1 := Nat.eq_of_beq_eq_true hc.1
        have h2 := Nat.le_of_ble_eq_true hc.2
        simp only [Array.length_toList] at h1
        simp only [Instr.fill, hp i fi hf]
        rw [if_neg (by simp [h1]; omega), fill_setCells]
        have : setCells cs.toArray fi.off v.cells.toList = (splice cs fi.off v.cells.toList).toArray := by
          apply Array.toList_inj.1
          rw [setCells_toList _ _ _ (by simp [h1]; omega)]
          rfl
        rw [this]
        exact fill_fillC hp e

section
variable {P : Program} {M : Jdg → Prop} {n : Nat} {L : Locals} {O R A : Own} {h : PHeap} {d : Option Nat} {ty : TypeId} {pos : String} {af : Array Edge} {g : Option (Nat × Bool)}
  {t e : TypeId} {D D' : TypeDesc} {size bytes size' bytes' : Nat} {zero zero' : Value} {K : Next → Own → PHeap → Prop} {E : Value → Own → PHeap → Prop}

theorem slp_fieldPlaces {Kk : Array (Nat × Nat) → PHeap → Prop} {Ee : Value → PHeap → Prop} {H : PHeap} {fs : List Field} {pl : List FldI} (hl : fs.length = pl.length) (hf : ∀ (i : Nat) f (x : FldI), fs[i]? = some f → pl[i]? = some x → f.offset = x.off ∧ ∃ y, P.info? f.type = some y ∧ y.size = x.size)
    (k : Kk (pl.map fun x => (x.off, x.size)).toArray H) : (fs.toArray.mapM fun f => (do pure (f.offset, ← sizeOf f.type) : Sem (Nat × Nat))).slp P Kk Ee H := by
  simp only [List.mapM_toArray]
  rw [slp_map]
  have key : ∀ (fs : List Field) (pl : List FldI) (Kk : List (Nat × Nat) → PHeap → Prop), fs.length = pl.length → (∀ (i : Nat) f (x : FldI), fs[i]? = some f → pl[i]? = some x → f.offset = x.off ∧ ∃ y, P.info? f.type = some y ∧ y.size = x.size) → Kk (pl.map fun x => (x.off, x.size)) H →
      (fs.mapM fun f => (do pure (f.offset, ← sizeOf f.type) : Sem (Nat × Nat))).slp P Kk Ee H := by
    intro fs
    induction fs with
    | nil => intro pl Kk hl _ k; cases pl with
      | nil => simpa [slp_pure] using k
      | cons => cases hl
    | cons f fs ih =>
      intro pl Kk hl hf k
      cases pl with
      | nil => cases hl
      | cons x pl =>
        obtain ⟨h1, y, h2, h3⟩ := hf 0 f x rfl rfl
        rw [List.mapM_cons, slp_bind, slp_bind]
        refine slp_sizeOf' h2 ?_
        rw [slp_pure, slp_bind]
        refine ih pl _ (by simpa using hl) (fun i f x a b => hf (i + 1) f x (by simpa using a) (by simpa using b)) ?_
        rw [slp_pure, h1, h3]; exact k
  exact key fs pl _ hl hf k

theorem flds_len {pl : List FldI} (F : Flds P t pl) : ∃ fs, P.underlying t = some (.struct fs) ∧ fs.toList.length = pl.length ∧ ∀ (i : Nat) (x : FldI), pl[i]? = some x → ∃ f : Field, fs[i]? = some f ∧ f.type = x.type ∧ f.offset = x.off ∧ (∃ y, P.info? f.type = some y ∧ y.size = x.size) ∧ ∃ d, P.underlying f.type = some d ∧ aggD d = x.agg := by
  obtain ⟨fs, h1, h2⟩ := Flds.get F
  refine ⟨fs, h1, ?_, h2⟩
  have e := F.und
  unfold Program.fldsOf at e
  rw [h1] at e
  have := congrArg List.length (Option.some.inj e)
  simpa using this

/-- A struct's value. -/
theorem o_build {pl : List FldI} (T : Ty P t D size bytes zero) (Fl : Flds P t pl) {parts : Array (Nat × Operand)} {ps : List (Nat × Value)} {l : List Value} (hp : evParts L parts.toList = some ps) (hf : fillC pl zero.cells.toList ps = some l) {H : PHeap} {K : Next → PHeap → Prop} {E : Value → PHeap → Prop} (k : K (.value (.agg l.toArray)) H) : opv P n ⟨d, .build t parts, ty, pos, af, g⟩ L H K E :=
  o_val (s := fun a => Instr.build t (parts.map fun (i, x) => (i, a.eval x))) (fun _ _ => rfl) (fun a ha => by
    obtain ⟨fs, h1, h2, h3⟩ := flds_len Fl
    have e1 : (parts.map fun (x : Nat × Operand) => (x.1, a.eval x.2)) = ps.toArray := Array.ext' (by rw [Array.toList_map, evParts_map ha hp])
    simp only [e1, Instr.build, slp_bind]
    refine slp_zeroValue T ?_
    refine slp_underlying h1 ?_
    simp only [slp_bind]
    have : fs = fs.toList.toArray := by simp
    rw [this]
    refine slp_fieldPlaces h2 (fun i f x a b => ?_) ?_
    · obtain ⟨f', c1, c2, c3, c4, _⟩ := h3 i x b
      have : f' = f := by
        have : fs[i]? = some f := by simpa using a
        rw [this] at c1; exact (Option.some.inj c1).symm
      subst this
      exact ⟨c3, c4⟩
    · have hz : zero.cells = zero.cells.toList.toArray := by simp
      rw [hz]
      have := fill_fillC (places := fun i => ((pl.map fun x => (x.off, x.size)).toArray)[i]?) (fun i fi hi => by simp [hi]) hf
      simp only [this]
      exact k)
theorem q_build {pl : List FldI} (T : Ty P t D size bytes zero) (Fl : Flds P t pl) {parts : Array (Nat × Operand)} {ps : List (Nat × Value)} {l : List Value} (hp : evParts L parts.toList = some ps) (hf : fillC pl zero.cells.toList ps = some l) :
    Opq P n ⟨d, .build t parts, ty, pos, af, g⟩ L O h (.agg l.toArray) := q_of fun H K E k => o_build T Fl hp hf k
/-- An array's value, all parts told in order. -/
def partsAll (size : Nat) : Nat → List (Nat × Value) → Option (List Value)
  | _, [] => some []
  | i, (j, v) :: ps => bif Nat.beq i j && Nat.beq v.cells.toList.length size then (match partsAll size (i + 1) ps with | some l => some (v.cells.toList ++ l) | none => none) else none
theorem partsAll_length {size : Nat} : ∀ {ps : List (Nat × Value)} {i : Nat} {l : List Value}, partsAll size i ps = some l → l.length = ps.length * size
  | [], _, l, e => by cases e; simp
  | (j, v) :: ps, i, l, e => by
    simp only [partsAll] at e
    cases hc : Nat.beq i j && Nat.beq v.cells.toList.length size with
    | false => rw [hc] at e; cases e
    | true =>
      rw [hc] at e
      simp only [cond_true] at e
      cases hr : partsAll size (i + 1) ps with
      | none => rw [hr] at e; cases e
      | some l' =>
        rw [hr] at e; cases e
        simp only [Bool.and_eq_true] at hc
        have := Nat.eq_of_beq_eq_true hc.2
        rw [List.length_append, partsAll_length hr, this, List.length_cons, Nat.add_mul]; omega
theorem fill_partsAll {size : Nat} : ∀ {ps : List (Nat × Value)} {i : Nat} {l cs : List Value}, partsAll size i ps = some l → cs.length = (i + ps.length) * size →
    Instr.fill (fun i => some (i * size, size)) cs.toArray ps = some (cs.take (i * size) ++ l).toArray
  | [], i, l, cs, e, hl => by cases e; simp [Instr.fill]; rw [List.take_of_length_le (by simp at hl; omega)]
  | (j, v) :: ps, i, l, cs, e, hl => by
    simp only [partsAll] at e
    cases hc : Nat.beq i j && Nat.beq v.cells.toList.length size with
    | false => rw [hc] at e; cases e
    | true =>
      rw [hc] at e
      simp only [cond_true] at e
      cases hr : partsAll size (i + 1) ps with
      | none => rw [hr] at e; cases e
      | some l' =>
        rw [hr] at e; cases e
        simp only [Bool.and_eq_true] at hc
        have h2 := Nat.eq_of_beq_eq_true hc.2
        obtain rfl := Nat.eq_of_beq_eq_true hc.1
        simp only [Array.length_toList] at h2
        simp only [List.length_cons] at hl
        have hle : i * size + size ≤ cs.length := by
          rw [hl, Nat.add_mul, Nat.add_mul, Nat.one_mul]; omega
        simp only [Instr.fill]
        rw [if_neg (by simp [h2]; omega), fill_setCells]
        have e3 : setCells cs.toArray (i * size) v.cells.toList = (splice cs (i * size) v.cells.toList).toArray := by
          apply Array.toList_inj.1
          rw [setCells_toList _ _ _ (by simp [h2]; omega)]
          rfl
        rw [e3, fill_partsAll hr (by rw [splice_length (by simp [h2]; omega), hl]; congr 1; omega)]
        congr 2
        rw [← List.append_assoc]; congr 1
        simp only [splice]
        rw [List.take_append_of_le_length (by simp [h2, Nat.add_mul]; omega), List.take_of_length_le (by simp [h2, Nat.add_mul]; omega)]
theorem q_buildA {len : Nat} (T : Ty P t (.array len e) size' bytes' zero') (Te : Ty P e D size bytes zero) {parts : Array (Nat × Operand)} {ps : List (Nat × Value)} {l : List Value} (hp : evParts L parts.toList = some ps) (hl : Nat.beq ps.length len = true) (hz : Nat.beq zero'.cells.toList.length (len * size) = true) (hf : partsAll size 0 ps = some l) :
    Opq P n ⟨d, .build t parts, ty, pos, af, g⟩ L O h (.agg l.toArray) := q_of fun H K E k =>
  o_val (s := fun a => Instr.build t (parts.map fun (i, x) => (i, a.eval x))) (fun _ _ => rfl) (fun a ha => by
    have e1 : (parts.map fun (x : Nat × Operand) => (x.1, a.eval x.2)) = ps.toArray := Array.ext' (by rw [Array.toList_map, evParts_map ha hp])
    simp only [e1, Instr.build, slp_bind]
    refine slp_zeroValue T ?_
    refine slp_underlying T.und ?_
    simp only [slp_bind]
    refine slp_sizeOf Te ?_
    have hz' : zero'.cells = zero'.cells.toList.toArray := by simp
    rw [hz']
    have := fill_partsAll (cs := zero'.cells.toList) hf (by rw [Nat.eq_of_beq_eq_true hz, Nat.eq_of_beq_eq_true hl]; simp)
    simp only [this]
    rw [slp_pure]
    simpa using k)

/-- A slice that is written out. -/
theorem c_buildSlice (T : Ty P t (.slice e) size' bytes' zero') (Te : Ty P e D size bytes zero) {len : Nat} {parts : Array (Nat × Operand)} {ps : List (Nat × Value)} {l : List Value} (hp : evParts L parts.toList = some ps) (hl : Nat.beq ps.length len = true) (hs : Nat.ble (len * size) 16777216 = true) (hf : partsAll size 0 ps = some l)
    (k : ∀ b, K (.value (.slice (some ⟨b, 0, none⟩) len len)) ((b, .cells l.toArray e) :: O) h) : opo P n ⟨d, .buildSlice t len parts, ty, pos, af, g⟩ L O h K E := fun F H r => fun a ha => by
    have e1 : (parts.map fun (x : Nat × Operand) => (x.1, a.eval x.2)) = ps.toArray := Array.ext' (by rw [Array.toList_map, evParts_map ha hp])
    have hs' := Nat.le_of_ble_eq_true hs
    have hl' := Nat.eq_of_beq_eq_true hl
    have ex : execOp a.eval ⟨d, .buildSlice t len parts, ty, pos, af, g⟩ = (do pure (Next.value (← Instr.buildSlice t len (parts.map fun (x : Nat × Operand) => (x.1, a.eval x.2))))) := rfl
    rw [ex, slp_bind, e1]
    unfold Instr.buildSlice
    rw [slp_bind]
    refine slp_underlying T.und ?_
    simp only []
    rw [slp_bind]
    refine slp_sizeOf Te ?_
    rw [if_neg (by simpa using hs')]
    have fin : ∀ z : Array Value, Instr.fill (fun i => some (i * size, size)) ((Array.range (len * size)).map (z[· % z.size]!)) ps = some l.toArray := by
      intro z
      generalize hc : ((Array.range (len * size)).map (z[· % z.size]!)) = cs
      have hsz : cs.size = len * size := by rw [← hc]; simp
      have := fill_partsAll (cs := cs.toList) hf (by simp [hl', hsz])
      rw [show cs.toList.toArray = cs from by simp] at this
      rw [this]; simp
    by_cases hz : len * size = 0
    · rw [if_pos hz]
      simp only [slp_bind, slp_pure, fin, newRow, newObj]
      exact fun b hb => lift.here (r.alloc hb _) (k b)
    · rw [if_neg hz]
      simp only [slp_bind]
      refine slp_zeroValue Te ?_
      simp only [slp_bind, slp_pure, fin, newRow, newObj]
      exact fun b hb => lift.here (r.alloc hb _) (k b)
end
end Go.Sl

/- Rules for the operations of a region, one a kind of operation. No program. -/
import Derived.Test.YtcefbjpebgofjaaSlC
namespace Go.Sl
open Go Go.Conc PHeap

def slList (P : Program) (M : Jdg → Prop) (n : Nat) (ops : Array Oper) (Q : Qt) (rest : List Oper) (L : Locals) (h : PHeap) : Prop :=
  ∀ l : List Nat, l.map (fun i => ops[i]?) = rest.map some → slOps P M n ops Q l L h

def nextL (P : Program) (M : Jdg → Prop) (n : Nat) (ops : Array Oper) (Q : Qt) (rest : List Oper) (L : Locals) (d : Option Nat) (r : Next) (h : PHeap) : Prop :=
  match r with
  | .value v => slList P M n ops Q rest (setL d v L) h
  | .skip => slList P M n ops Q rest (setL d undef L) h
  | .enter f args => CallsE P M f args h (fun v h' => slList P M n ops Q rest (setL d v L) h') (fun ch h' => Q (.pan ch) L h')
  | _ => False
/-- One operation, carried out; behind it K. -/
def opv (P : Program) (n : Nat) (o : Oper) (L : Locals) (h : PHeap) (K : Next → PHeap → Prop) (E : Value → PHeap → Prop) : Prop :=
  ∀ a : Act, Agree n L a.tmps → (execOp a.eval o).slp P K E h

def dstOk (n : Nat) : Option Nat → Bool
  | none => true
  | some i => Nat.blt i n

def evAll (L : Locals) : List Operand → Option (List Value)
  | [] => some []
  | x :: xs => match ev L x, evAll L xs with
    | some v, some vs => some (v :: vs)
    | _, _ => none
def evParts (L : Locals) : List (Nat × Operand) → Option (List (Nat × Value))
  | [] => some []
  | (i, x) :: xs => match ev L x, evParts L xs with
    | some v, some vs => some ((i, v) :: vs)
    | _, _ => none

section
variable {P : Program} {M : Jdg → Prop} [hM : IsCl P M] {n : Nat} {Q : Qt} {L : Locals} {h : PHeap} {ops : Array Oper} {rest : List Oper} {o : Oper}

theorem evAll_map {a : Act} (ha : Agree n L a.tmps) : ∀ {xs : List Operand} {vs : List Value}, evAll L xs = some vs → xs.map a.eval = vs
  | [], vs, e => by cases e; rfl
  | x :: xs, vs, e => by
    simp only [evAll] at e
    split at e
    · rename_i v us h1 h2; cases e; simp [ha.ev h1, evAll_map ha h2]
    · cases e
theorem evParts_map {a : Act} (ha : Agree n L a.tmps) : ∀ {xs : List (Nat × Operand)} {vs : List (Nat × Value)}, evParts L xs = some vs → xs.map (fun x => (x.1, a.eval x.2)) = vs
  | [], vs, e => by cases e; rfl
  | (i, x) :: xs, vs, e => by
    simp only [evParts] at e
    split at e
    · rename_i v us h1 h2; cases e; simp [ha.ev h1, evParts_map ha h2]
    · cases e

theorem sl_reg {id : Nat} {l : List Oper} (x : slList P M n l.toArray Q l L h) : (Code.region id l.toArray false).sl P M n Q L h :=
  sl_region (x _ (by
    apply List.ext_getElem?; intro i
    simp only [List.getElem?_map, List.size_toArray]
    rcases Nat.lt_or_ge i l.length with hi | hi
    · simp [List.getElem?_range, hi]
    · simp [hi]))
theorem l_nil (x : Q .nrm L h) : slList P M n ops Q [] L h := fun l e => by
  have : l = [] := by simpa using e
  subst this; exact ops_nil x

omit hM in
theorem nextL_ok {l : List Nat} (el : l.map (fun i => ops[i]?) = rest.map some) {d : Option Nat} {r : Next} {h : PHeap} (x : nextL P M n ops Q rest L d r h) : nextOk P M n ops Q l L d r h := by
  cases r <;> first | exact x.elim | exact x l el | exact CallsE.mono x (fun v h' y => y l el) (fun _ _ y => y)

theorem l_op (hd : dstOk n o.dst = true) (hw : ∀ tm, Agree n L tm → Region.wanted o (yielded ops tm) = true) (x : opv P n o L h (fun r h' => nextL P M n ops Q rest L o.dst r h') (fun v h' => Q (.pan [{ v, recovered := false }]) L h')) : slList P M n ops Q (o :: rest) L h := by
  intro l e
  cases l with
  | nil => simp at e
  | cons i l =>
    simp only [List.map_cons, List.cons.injEq] at e
    refine ops_op e.1 (fun d hd' => ?_) hw fun a ha => slp_mono (fun r h' y => nextL_ok e.2 y) (fun _ _ y => y) (x a ha)
    rw [hd'] at hd; exact Nat.lt_of_lt_of_le (Nat.lt_succ_self d) (Nat.le_of_ble_eq_true hd)
/-- An operation without a guard. -/
theorem l_plain (hg : o.guard = none) (hd : dstOk n o.dst = true) (x : opv P n o L h (fun r h' => nextL P M n ops Q rest L o.dst r h') (fun v h' => Q (.pan [{ v, recovered := false }]) L h')) : slList P M n ops Q (o :: rest) L h :=
  l_op hd (fun tm _ => by simp [Region.wanted, hg]) x
/-- An operation behind '&&' or '||'. -/
theorem l_guard {j dj : Nat} {want b : Bool} (hg : o.guard = some (j, want)) (hd : dstOk n o.dst = true) (hj : (ops[j]?).bind (·.dst) = some dj) (hb : L.get dj = some (.bool b))
    (hT : b = want → opv P n o L h (fun r h' => nextL P M n ops Q rest L o.dst r h') (fun v h' => Q (.pan [{ v, recovered := false }]) L h')) (hF : b = !want → slList P M n ops Q rest (setL o.dst undef L) h) : slList P M n ops Q (o :: rest) L h := by
  have hy : ∀ tm, Agree n L tm → yielded ops tm j = some b := fun tm ha => by simp [yielded, hj, ha.at' _ _ hb]
  by_cases hbw : b = want
  · exact l_op hd (fun tm ha => by simp [Region.wanted, hg, hy tm ha, hbw]) (hT hbw)
  · intro l e
    cases l with
    | nil => simp at e
    | cons i l =>
      simp only [List.map_cons, List.cons.injEq] at e
      refine ops_skip e.1 (fun d hd' => ?_) (fun tm ha => by simp [Region.wanted, hg, hy tm ha, hbw]) (hF (by cases b <;> cases want <;> simp_all) l e.2)
      rw [hd'] at hd; exact Nat.lt_of_lt_of_le (Nat.lt_succ_self d) (Nat.le_of_ble_eq_true hd)

variable {K : Next → PHeap → Prop} {E : Value → PHeap → Prop} {d : Option Nat} {ty : TypeId} {pos : String} {af : Array Edge} {g : Option (Nat × Bool)}
omit hM in
theorem o_val {s : Act → Sem Value} {op : Op} (he : ∀ a, Agree n L a.tmps → execOp a.eval ⟨d, op, ty, pos, af, g⟩ = (do pure (.value (← s a))))
    (x : ∀ a, Agree n L a.tmps → (s a).slp P (fun v h' => K (.value v) h') E h) : opv P n ⟨d, op, ty, pos, af, g⟩ L h K E := by
  intro a ha
  rw [he a ha, slp_bind]
  exact slp_mono (fun v h' y => y) (fun _ _ y => y) (x a ha)

omit hM in
theorem o_move {x : Operand} {v : Value} (hx : ev L x = some v) (k : K (.value v) h) : opv P n ⟨d, .move x, ty, pos, af, g⟩ L h K E := fun a ha => by
  show K (.value (a.eval x)) h
  rw [ha.ev hx]; exact k
omit hM in
theorem o_assign {x : Operand} {v : Value} (hx : ev L x = some v) (k : K (.value v) h) : opv P n ⟨d, .assign x, ty, pos, af, g⟩ L h K E := fun a ha => by
  show K (.value (a.eval x)) h
  rw [ha.ev hx]; exact k
omit hM in
theorem o_pickT {c x y : Operand} {v : Value} (hc : ev L c = some (.bool true)) (hx : ev L x = some v) (k : K (.value v) h) : opv P n ⟨d, .pick c x y, ty, pos, af, g⟩ L h K E := fun a ha => by
  have e : execOp a.eval ⟨d, .pick c x y, ty, pos, af, g⟩ = (do pure (.value (if ← asBool (a.eval c) then a.eval x else a.eval y))) := rfl
  rw [e, ha.ev hc, ha.ev hx]; exact k
omit hM in
theorem o_pickF {c x y : Operand} {v : Value} (hc : ev L c = some (.bool false)) (hx : ev L y = some v) (k : K (.value v) h) : opv P n ⟨d, .pick c x y, ty, pos, af, g⟩ L h K E := fun a ha => by
  have e : execOp a.eval ⟨d, .pick c x y, ty, pos, af, g⟩ = (do pure (.value (if ← asBool (a.eval c) then a.eval x else a.eval y))) := rfl
  rw [e, ha.ev hc, ha.ev hx]; exact k

variable {t : TypeId} {D : TypeDesc} {size bytes : Nat} {zero : Value}
omit hM in
theorem o_alloc [T : Ty P t D size bytes zero] (k : ∀ r, h.obj r = none → K (.value (.pointer (some ⟨r, 0, none⟩))) (h.put r (.cells zero.cells t))) :
    opv P n ⟨d, .alloc t, ty, pos, af, g⟩ L h K E :=
  o_val (s := fun _ => Instr.alloc t true (.tuple #[])) (fun _ _ => rfl) fun a ha => by
    simp only [Instr.alloc, slp_bind]
    refine slp_zeroValue T ?_
    simp only [slp_bind, slp_pure, newVar, newRow, newObj]
    exact fun r hr => k r hr
omit hM in
theorem o_box {x : Operand} {v : Value} (hx : ev L x = some v) (k : ∀ r, h.obj r = none → K (.value (.pointer (some ⟨r, 0, none⟩))) (h.put r (.cells v.cells t))) :
    opv P n ⟨d, .box t x, ty, pos, af, g⟩ L h K E :=
  o_val (s := fun a => Instr.box t (a.eval x)) (fun _ _ => rfl) fun a ha => by
    simp only [Instr.box, slp_bind, slp_pure, newVar, newRow, newObj, ha.ev hx]
    exact fun r hr => k r hr

def loadOk (D : TypeDesc) (size : Nat) : Bool := aggD D || Nat.beq size 1
omit hM in
theorem o_load [T : Ty P t D size bytes zero] {x : Operand} {ad : Addr} {cs : List Value} (hx : ev L x = some (.pointer (some ad))) (hl : cs.length = size) (h1 : loadOk D size = true) (hc : Cells h ad cs)
    (k : K (.value (ofCells D cs)) h) : opv P n ⟨d, .load t x, ty, pos, af, g⟩ L h K E :=
  o_val (s := fun a => Instr.loadAt t (a.eval x)) (fun _ _ => rfl) fun a ha => by
    simp only [Instr.loadAt, slp_bind, ha.ev hx, Instr.sureAddr, slp_pure]
    refine slp_loadVar T hl (fun e => ?_) hc k
    unfold loadOk at h1; rw [e] at h1; exact Nat.eq_of_beq_eq_true h1
/-- 'n' cells of a block whose cells are written out. -/
def takeCells (c : Array Value) (off n : Nat) : Option (List Value) := bif Nat.ble (off + n) c.size then some ((c.toList.drop off).take n) else none
theorem cells_take {b off n : Nat} {c : Array Value} {T : TypeId} {fr : Nat × Nat} {cs : List Value} (hb : h.obj b = some (.cells c T fr)) (e : takeCells c off n = some cs) : cs.length = n ∧ Cells h ⟨b, off, none⟩ cs := by
  unfold takeCells at e
  cases hle : Nat.ble (off + n) c.size with
  | false => rw [hle] at e; cases e
  | true =>
    rw [hle] at e
    have hle' := Nat.le_of_ble_eq_true hle
    obtain rfl := Option.some.inj e
    refine ⟨by simp; omega, fun j v ev => ?_⟩
    rw [add_none, cell_of hb]
    have hj : j < n := by
      rcases Nat.lt_or_ge j n with h | h
      · exact h
      · rw [List.getElem?_eq_none (by simp; omega)] at ev; cases ev
    rw [List.getElem?_take_of_lt hj, List.getElem?_drop] at ev
    simpa using ev
omit hM in
theorem o_loadB [T : Ty P t D size bytes zero] {x : Operand} {b off : Nat} {c : Array Value} {T' : TypeId} {fr : Nat × Nat} {cs : List Value} (hx : ev L x = some (.pointer (some ⟨b, off, none⟩))) (hb : h.obj b = some (.cells c T' fr))
    (hcs : takeCells c off size = some cs) (h1 : loadOk D size = true) (k : K (.value (ofCells D cs)) h) : opv P n ⟨d, .load t x, ty, pos, af, g⟩ L h K E :=
  let ⟨a, b⟩ := cells_take hb hcs
  o_load hx a h1 b k

def allOne (vs : List Value) : Bool := vs.all isOne
omit hM in
/-- A store into a block of which all cells are known. -/
theorem o_store [T : Ty P t D size bytes zero] {x y : Operand} {v : Value} {b off : Nat} {c : Array Value} {T' : TypeId} (hx : ev L x = some (.pointer (some ⟨b, off, none⟩))) (hy : ev L y = some v)
    (hb : h.obj b = some (.cells c T')) (hw : h.wr b = true) (hs : v.cells.size = size) (hle : off + v.cells.toList.length ≤ c.size) (ho : allOne v.cells.toList = true)
    (k : K .skip (h.put b (.cells (setCells c off v.cells.toList) T'))) : opv P n ⟨d, .store t x y, ty, pos, af, g⟩ L h K E := fun a ha => by
  have e : execOp a.eval ⟨d, .store t x y, ty, pos, af, g⟩ = (do Instr.storeAt t (a.eval x) (a.eval y); pure .skip) := rfl
  rw [e, ha.ev hx, ha.ev hy, slp_bind]
  simp only [Instr.storeAt, Instr.sureAddr, slp_bind, slp_pure, storeVar]
  refine slp_sizeOf T ?_
  rw [if_neg (by simp [hs])]
  refine slp_storeCells v.cells.toList off 0 c h hb hw (by simpa using hle) (fun u hu => List.all_eq_true.1 ho u hu) (.inl (Nat.zero_le _)) ?_
  exact k

theorem Flds.get {pl : List FldI} (F : Flds P t pl) : ∃ fs, P.underlying t = some (.struct fs) ∧ ∀ (i : Nat) (x : FldI), pl[i]? = some x → ∃ f : Field, fs[i]? = some f ∧ f.type = x.type ∧ f.offset = x.off ∧ (∃ y, P.info? f.type = some y ∧ y.size = x.size) ∧ ∃ d, P.underlying f.type = some d ∧ aggD d = x.agg := by
  have e := F.und
  unfold Program.fldsOf at e
  cases hu : P.underlying t with
  | none => rw [hu] at e; cases e
  | some D =>
    rw [hu] at e
    cases D with
    | struct fs =>
      refine ⟨fs, rfl, fun i x hi => ?_⟩
      have e' := congrArg (fun l => l[i]?) (Option.some.inj e)
      simp only [List.getElem?_map, hi, Option.map_some, Array.getElem?_toList] at e'
      cases hf : fs[i]? with
      | none => rw [hf] at e'; cases e'
      | some f =>
        rw [hf] at e'
        simp only [Option.map_some, Option.some.injEq] at e'
        cases hi' : P.info? f.type with
        | none => rw [hi'] at e'; cases e'
        | some y =>
          rw [hi'] at e'
          cases hd : P.underlying f.type with
          | none => rw [hd] at e'; cases e'
          | some d =>
            rw [hd] at e'
            simp only [Option.bind_some, Option.map_some, Option.some.injEq] at e'
            subst e'
            exact ⟨f, rfl, rfl, rfl, ⟨y, hi', rfl⟩, d, hd, rfl⟩
    | _ => cases e
theorem slp_sizeOf' {K : Nat → PHeap → Prop} {E : Value → PHeap → Prop} {t : TypeId} {y : TypeInfo} (e : P.info? t = some y) (x : K y.size h) : (sizeOf t).slp P K E h := by
  simp only [sizeOf, slp_bind, slp_pure]
  exact slp_typeInfo e x
omit hM in
theorem o_fieldAddr {pl : List FldI} [F : Flds P t pl] {x : Operand} {f b off : Nat} {fi : FldI} (hx : ev L x = some (.pointer (some ⟨b, off, none⟩))) (hf : pl[f]? = some fi) (hs : Nat.blt 0 fi.size = true)
    (k : K (.value (.pointer (some ⟨b, off + fi.off, none⟩))) h) : opv P n ⟨d, .fieldAddr t x f, ty, pos, af, g⟩ L h K E :=
  o_val (s := fun a => Instr.fieldAt t (a.eval x) f) (fun _ _ => rfl) fun a ha => by
    obtain ⟨fs, h1, h2⟩ := Flds.get F
    obtain ⟨fd, h3, h4, h5, ⟨y, h6, h7⟩, _⟩ := h2 f fi hf
    simp only [Instr.fieldAt, slp_bind, ha.ev hx]
    refine slp_underlying h1 ?_
    simp only [h3, slp_bind, Instr.sureAddr, slp_pure, fieldPlace]
    refine slp_sizeOf' h6 ?_
    rw [if_neg (by rw [h7]; have := Nat.le_of_ble_eq_true hs; omega)]
    simp only [slp_pure, add_none, h5]
    exact k
/-- A part of a struct's or an array's value. -/
def partOfV (agg : Bool) (cs : Array Value) (off size : Nat) : Option Value := bif agg then some (.agg (cs.extract off (off + size))) else cs[off]?
omit hM in
theorem slp_part {K : Value → PHeap → Prop} {E : Value → PHeap → Prop} {ft : TypeId} {cs : Array Value} {off sz : Nat} {agg : Bool} {y : TypeInfo} {dd : TypeDesc} {v : Value} (h6 : P.info? ft = some y) (h7 : y.size = sz) (h8 : P.underlying ft = some dd) (h9 : aggD dd = agg)
    (e : partOfV agg cs off sz = some v) (x : K v h) : (part ft cs off).slp P K E h := by
  simp only [part, slp_bind]
  refine slp_isAgg h8 ?_
  rw [h9]
  cases agg with
  | true =>
    simp only [if_true, slp_bind, slp_pure]
    refine slp_sizeOf' h6 ?_
    simp only [partOfV, cond_true, Option.some.injEq] at e
    rw [h7, e]; exact x
  | false =>
    simp only [partOfV, cond_false] at e
    simp only [Bool.false_eq_true, if_false, e]; exact x
omit hM in
theorem o_field {pl : List FldI} [F : Flds P t pl] {x : Operand} {f : Nat} {fi : FldI} {cs : Array Value} {v : Value} (hx : ev L x = some (.agg cs)) (hf : pl[f]? = some fi) (hv : partOfV fi.agg cs fi.off fi.size = some v)
    (k : K (.value v) h) : opv P n ⟨d, .field t x f, ty, pos, af, g⟩ L h K E :=
  o_val (s := fun a => Instr.field t (a.eval x) f) (fun _ _ => rfl) fun a ha => by
    obtain ⟨fs, h1, h2⟩ := Flds.get F
    obtain ⟨fd, h3, h4, h5, ⟨y, h6, h7⟩, dd, h8, h9⟩ := h2 f fi hf
    simp only [Instr.field, slp_bind, ha.ev hx]
    refine slp_underlying h1 ?_
    simp only [h3, slp_bind, asAgg, slp_pure, h5]
    exact slp_part h6 h7 h8 h9 hv k

variable {e : TypeId} {size' bytes' : Nat} {zero' : Value} {D' : TypeDesc}
omit hM in
theorem o_indexAddr [S : Ty P t (.slice e) size' bytes' zero'] [T : Ty P e D size bytes zero] {x i : Operand} {b off len cap : Nat} {k : IntKind} {z : Int} (hx : ev L x = some (.slice (some ⟨b, off, none⟩) len cap)) (hi : ev L i = some (.int k z))
    (h0 : 0 ≤ z) (h1 : z < len) (kk : K (.value (.pointer (some ⟨b, off + z.toNat * size, none⟩))) h) : opv P n ⟨d, .indexAddr t x i, ty, pos, af, g⟩ L h K E :=
  o_val (s := fun a => Instr.indexAt t (a.eval x) (a.eval i)) (fun _ _ => rfl) fun a ha => by
    simp only [Instr.indexAt, slp_bind, ha.ev hx, ha.ev hi, asIntOf, slp_pure]
    refine slp_underlying S.und ?_
    simp only [slp_bind, slp_pure]
    refine slp_underlying S.und ?_
    simp only [slp_bind, slp_pure, h0, h1, and_self, if_true]
    refine slp_sizeOf T ?_
    simp only [add_none]; exact kk
omit hM in
theorem o_indexAddrA {len : Nat} [S : Ty P t (.array len e) size' bytes' zero'] [T : Ty P e D size bytes zero] {x i : Operand} {b off : Nat} {k : IntKind} {z : Int} (hx : ev L x = some (.pointer (some ⟨b, off, none⟩))) (hi : ev L i = some (.int k z))
    (h0 : 0 ≤ z) (h1 : z < len) (kk : K (.value (.pointer (some ⟨b, off + z.toNat * size, none⟩))) h) : opv P n ⟨d, .indexAddr t x i, ty, pos, af, g⟩ L h K E :=
  o_val (s := fun a => Instr.indexAt t (a.eval x) (a.eval i)) (fun _ _ => rfl) fun a ha => by
    simp only [Instr.indexAt, slp_bind, ha.ev hx, ha.ev hi, asIntOf, slp_pure]
    refine slp_underlying S.und ?_
    simp only [slp_bind, slp_pure, Instr.sureAddr]
    refine slp_underlying S.und ?_
    simp only [slp_bind, slp_pure, h0, h1, and_self, if_true]
    refine slp_sizeOf T ?_
    simp only [add_none]; exact kk
omit hM in
theorem o_indexA {len : Nat} [S : Ty P t (.array len e) size' bytes' zero'] [T : Ty P e D size bytes zero] {x i : Operand} {cs : Array Value} {k : IntKind} {z : Int} {v : Value} (hx : ev L x = some (.agg cs)) (hi : ev L i = some (.int k z))
    (h0 : 0 ≤ z) (h1 : z < len) (hv : partOfV (aggD D) cs (z.toNat * size) size = some v) (kk : K (.value v) h) : opv P n ⟨d, .index t x i, ty, pos, af, g⟩ L h K E :=
  o_val (s := fun a => Instr.index t (a.eval x) (a.eval i)) (fun _ _ => rfl) fun a ha => by
    obtain ⟨y, h6, h7, _⟩ := T.get
    simp only [Instr.index, slp_bind, ha.ev hx, ha.ev hi, asIntOf, slp_pure]
    refine slp_underlying S.und ?_
    simp only [h0, h1, and_self, if_true, slp_bind]
    refine slp_sizeOf T ?_
    exact slp_part h6 h7 T.und rfl hv kk
omit hM in
theorem o_extract {x : Operand} {i : Nat} {vs : Array Value} {v : Value} (hx : ev L x = some (.tuple vs)) (hv : vs[i]? = some v) (k : K (.value v) h) : opv P n ⟨d, .extract x i, ty, pos, af, g⟩ L h K E :=
  o_val (s := fun a => Instr.extract (a.eval x) i) (fun _ _ => rfl) fun a ha => by
    simp only [ha.ev hx, Instr.extract, hv]; exact k
omit hM in
theorem o_not {x : Operand} {b : Bool} (hx : ev L x = some (.bool b)) (k : K (.value (.bool !b)) h) : opv P n ⟨d, .unOp .not t x, ty, pos, af, g⟩ L h K E :=
  o_val (s := fun a => Op.unary .not (a.eval x)) (fun _ _ => rfl) fun a ha => by
    simp only [ha.ev hx, Op.unary]; exact k
omit hM in
theorem o_neg {x : Operand} {k : IntKind} {z : Int} (hx : ev L x = some (.int k z)) (kk : K (.value (.int k (k.wrap (0 - z)))) h) : opv P n ⟨d, .unOp .neg t x, ty, pos, af, g⟩ L h K E :=
  o_val (s := fun a => Op.unary .neg (a.eval x)) (fun _ _ => rfl) fun a ha => by
    simp only [ha.ev hx, Op.unary, Op.intArith]; exact kk
omit hM in
theorem o_makeInterface [T : Ty P t D size bytes zero] {x : Operand} {v : Value} (hx : ev L x = some v) (hd : (match D with | .interface _ => false | _ => true) = true) (k : K (.value (.iface t v)) h) :
    opv P n ⟨d, .makeInterface t x, ty, pos, af, g⟩ L h K E :=
  o_val (s := fun a => Instr.makeInterface t (a.eval x)) (fun _ _ => rfl) fun a ha => by
    rw [ha.ev hx]
    unfold Instr.makeInterface
    rw [slp_bind]
    refine slp_underlying T.und ?_
    cases D <;> first | (cases hd; done) | exact k
omit hM in
theorem o_makeFunc {fn : Fn} {first captured : Array Operand} {vs us : List Value} (h1 : evAll L first.toList = some vs) (h2 : evAll L captured.toList = some us) (k : K (.value (.func fn vs.toArray us.toArray)) h) :
    opv P n ⟨d, .makeFunc fn first captured, ty, pos, af, g⟩ L h K E :=
  o_val (s := fun a => Instr.makeFunc fn (first.map a.eval) (captured.map a.eval)) (fun _ _ => rfl) fun a ha => by
    have e1 : first.map a.eval = vs.toArray := Array.ext' (by rw [Array.toList_map, evAll_map ha h1])
    have e2 : captured.map a.eval = us.toArray := Array.ext' (by rw [Array.toList_map, evAll_map ha h2])
    rw [e1, e2]; exact k
omit hM in
theorem o_convert [S : Ty P t D size bytes zero] {t' : TypeId} {k : IntKind} [T : Ty P t' (.int k) size' bytes' zero'] {x : Operand} {k' : IntKind} {z : Int} (hx : ev L x = some (.int k' z)) (kk : K (.value (.int k (k.wrap z))) h) :
    opv P n ⟨d, .convert t t' x, ty, pos, af, g⟩ L h K E :=
  o_val (s := fun a => convert t t' (a.eval x)) (fun _ _ => rfl) fun a ha => by
    rw [ha.ev hx]
    unfold convert
    rw [slp_bind]
    refine slp_underlying S.und ?_
    rw [slp_bind]
    refine slp_underlying T.und ?_
    exact kk

/-! ### whole numbers -/
theorem eqGuard_int (op : BinOp) (t : TypeId) (x y : Operand) (k : IntKind) (a b : Int) : eqGuard op t x y (.int k a) (.int k b) = pure () := by
  cases op <;> rfl
omit hM in
theorem o_bin {op : BinOp} {x y : Operand} {k : IntKind} {a b : Int} {v : Value} (hx : ev L x = some (.int k a)) (hy : ev L y = some (.int k b))
    (hv : ∀ K E, (binOp op t (.int k a) (.int k b)).slp P K E h = K v h) (kk : K (.value v) h) {t' : TypeId} : opv P n ⟨d, .binOp op t x y t', ty, pos, af, g⟩ L h K E :=
  o_val (s := fun a => do eqGuard op t x y (a.eval x) (a.eval y); binOp op t (a.eval x) (a.eval y)) (fun _ _ => rfl) fun a ha => by
    rw [slp_bind, ha.ev hx, ha.ev hy, eqGuard_int, slp_pure, hv]; exact kk
variable {x y : Operand} {k : IntKind} {a b : Int} {t' : TypeId}
omit hM in
theorem o_add (hx : ev L x = some (.int k a)) (hy : ev L y = some (.int k b)) (kk : K (.value (.int k (k.wrap (a + b)))) h) : opv P n ⟨d, .binOp .add t x y t', ty, pos, af, g⟩ L h K E :=
  o_bin hx hy (fun _ _ => by simp [binOp, Op.intArith, slp_pure]) kk
omit hM in
theorem o_sub (hx : ev L x = some (.int k a)) (hy : ev L y = some (.int k b)) (kk : K (.value (.int k (k.wrap (a - b)))) h) : opv P n ⟨d, .binOp .sub t x y t', ty, pos, af, g⟩ L h K E :=
  o_bin hx hy (fun _ _ => by simp [binOp, Op.intArith, slp_pure]) kk
omit hM in
theorem o_mul (hx : ev L x = some (.int k a)) (hy : ev L y = some (.int k b)) (kk : K (.value (.int k (k.wrap (a * b)))) h) : opv P n ⟨d, .binOp .mul t x y t', ty, pos, af, g⟩ L h K E :=
  o_bin hx hy (fun _ _ => by simp [binOp, Op.intArith, slp_pure]) kk
omit hM in
theorem o_quo (hx : ev L x = some (.int k a)) (hy : ev L y = some (.int k b)) (h0 : b ≠ 0) (kk : K (.value (.int k (k.wrap (a.tdiv b)))) h) : opv P n ⟨d, .binOp .quo t x y t', ty, pos, af, g⟩ L h K E :=
  o_bin hx hy (fun _ _ => by simp [binOp, Op.intDiv, h0, slp_pure]) kk
omit hM in
theorem o_rem (hx : ev L x = some (.int k a)) (hy : ev L y = some (.int k b)) (h0 : b ≠ 0) (kk : K (.value (.int k (a.tmod b))) h) : opv P n ⟨d, .binOp .rem t x y t', ty, pos, af, g⟩ L h K E :=
  o_bin hx hy (fun _ _ => by simp [binOp, Op.intDiv, h0, slp_pure]) kk
omit hM in
theorem o_eql (hx : ev L x = some (.int k a)) (hy : ev L y = some (.int k b)) (kk : K (.value (.bool (decide (a = b)))) h) : opv P n ⟨d, .binOp .eql t x y t', ty, pos, af, g⟩ L h K E :=
  o_bin hx hy (fun _ _ => by simp [binOp, Op.intCmp, slp_pure]; rfl) kk
omit hM in
theorem o_neq (hx : ev L x = some (.int k a)) (hy : ev L y = some (.int k b)) (kk : K (.value (.bool (decide (a ≠ b)))) h) : opv P n ⟨d, .binOp .neq t x y t', ty, pos, af, g⟩ L h K E :=
  o_bin hx hy (fun _ _ => by simp [binOp, Op.intCmp, slp_pure, bne]; rfl) kk
omit hM in
theorem o_lss (hx : ev L x = some (.int k a)) (hy : ev L y = some (.int k b)) (kk : K (.value (.bool (decide (a < b)))) h) : opv P n ⟨d, .binOp .lss t x y t', ty, pos, af, g⟩ L h K E :=
  o_bin hx hy (fun _ _ => by simp [binOp, Op.intCmp, slp_pure]) kk
omit hM in
theorem o_leq (hx : ev L x = some (.int k a)) (hy : ev L y = some (.int k b)) (kk : K (.value (.bool (decide (a ≤ b)))) h) : opv P n ⟨d, .binOp .leq t x y t', ty, pos, af, g⟩ L h K E :=
  o_bin hx hy (fun _ _ => by simp [binOp, Op.intCmp, slp_pure]) kk
omit hM in
theorem o_gtr (hx : ev L x = some (.int k a)) (hy : ev L y = some (.int k b)) (kk : K (.value (.bool (decide (a > b)))) h) : opv P n ⟨d, .binOp .gtr t x y t', ty, pos, af, g⟩ L h K E :=
  o_bin hx hy (fun _ _ => by simp [binOp, Op.intCmp, slp_pure]) kk
omit hM in
theorem o_geq (hx : ev L x = some (.int k a)) (hy : ev L y = some (.int k b)) (kk : K (.value (.bool (decide (a ≥ b)))) h) : opv P n ⟨d, .binOp .geq t x y t', ty, pos, af, g⟩ L h K E :=
  o_bin hx hy (fun _ _ => by simp [binOp, Op.intCmp, slp_pure]) kk

/-! ### calls -/
theorem Fun.get {f : FuncId} (F : Fun P f) : ∃ fn, P.funcs[f]? = some fn ∧ (fn.name == "runtime.NumGoroutine") = false ∧ fn.body.isNone = false := by
  have := F.is
  cases e : P.funcs[f]? with
  | none => rw [e] at this; cases this
  | some fn =>
    rw [e] at this
    simp only [Option.any_some, Bool.and_eq_true, Bool.not_eq_true'] at this
    refine ⟨fn, rfl, this.1, ?_⟩
    cases hb : fn.body with
    | none => rw [hb] at this; simp at this
    | some c => rfl
theorem slp_callFunc {K : Next → PHeap → Prop} {E : Value → PHeap → Prop} {f : FuncId} [F : Fun P f] {args : Array Value} (x : K (.enter f args) h) : (callFunc f args).slp P K E h := by
  obtain ⟨fn, h1, h2, h3⟩ := Fun.get F
  simp only [callFunc, program, slp_bind]
  show Sem.slp P K E (match P.funcs[f]? with | none => _ | some fn => _) h
  rw [h1]
  simp only [h2, h3, Bool.false_eq_true, if_false]
  exact x
omit hM in
theorem o_call {f : FuncId} [F : Fun P f] {args : Array Operand} {ats : Array TypeId} {vs : List Value} (hv : evAll L args.toList = some vs)
    (x : K (.enter f vs.toArray) h) : opv P n ⟨d, .call { callee := .value (.func f), args, argTypes := ats }, ty, pos, af, g⟩ L h K E := fun a ha => by
  have e : execOp a.eval ⟨d, .call { callee := .value (.func f), args, argTypes := ats }, ty, pos, af, g⟩ = callFunc f (#[] ++ args.map a.eval ++ #[]) := rfl
  have e1 : args.map a.eval = vs.toArray := Array.ext' (by rw [Array.toList_map, evAll_map ha hv])
  rw [e, e1]
  refine slp_callFunc ?_
  simpa [nextL] using x
omit hM in
theorem o_callv {fo : Operand} {f : FuncId} [F : Fun P f] {first captured : Array Value} {args : Array Operand} {ats : Array TypeId} {vs : List Value} (hf : ev L fo = some (.func (.func f) first captured)) (hv : evAll L args.toList = some vs)
    (x : K (.enter f (first.toList ++ vs ++ captured.toList).toArray) h) : opv P n ⟨d, .call { callee := .value fo, args, argTypes := ats }, ty, pos, af, g⟩ L h K E := fun a ha => by
  have e : execOp a.eval ⟨d, .call { callee := .value fo, args, argTypes := ats }, ty, pos, af, g⟩ = (do let d ← Deferred.ofValue (a.eval fo) (args.map a.eval); invoke d.target d.args) := rfl
  have e1 : args.map a.eval = vs.toArray := Array.ext' (by rw [Array.toList_map, evAll_map ha hv])
  rw [e, e1, ha.ev hf]
  show (callFunc f (first ++ vs.toArray ++ captured)).slp P _ _ h
  refine slp_callFunc ?_
  have e2 : first ++ vs.toArray ++ captured = (first.toList ++ vs ++ captured.toList).toArray := by simp
  rw [e2]; exact x
omit hM in
theorem o_builtin {bn : Builtin} {args : Array Operand} {ats : Array TypeId} {vs : List Value} {s : Sem Value} (hv : evAll L args.toList = some vs)
    (hs : ∀ consts, builtin bn ats ty consts vs.toArray = (do pure (.value (← s))))
    (x : s.slp P (fun v h' => K (.value v) h') E h) : opv P n ⟨d, .call { callee := .builtin bn, args, argTypes := ats }, ty, pos, af, g⟩ L h K E := fun a ha => by
  have e : execOp a.eval ⟨d, .call { callee := .builtin bn, args, argTypes := ats }, ty, pos, af, g⟩ = builtin bn ats ty (args.map fun | .const _ => true | _ => false) (args.map a.eval) := rfl
  have e1 : args.map a.eval = vs.toArray := Array.ext' (by rw [Array.toList_map, evAll_map ha hv])
  rw [e, e1, hs, slp_bind]
  exact slp_mono (fun v h' y => y) (fun _ _ y => y) x
omit hM in
theorem o_len [S : Ty P t (.slice e) size bytes zero] {ats : Array TypeId} {args : Array Operand} {base : Option Addr} {len cap : Nat} (hv : evAll L args.toList = some [.slice base len cap]) (ht : ats[0]? = some t)
    (kk : K (.value (.int .i64 len)) h) : opv P n ⟨d, .call { callee := .builtin .len, args, argTypes := ats }, ty, pos, af, g⟩ L h K E :=
  o_builtin hv (fun _ => rfl) (by
    simp only [Builtin.len_, ht]
    simp only [slp_bind, List.getElem?_toArray, List.getElem?_cons_zero]
    exact slp_underlying S.und kk)
end
end Go.Sl

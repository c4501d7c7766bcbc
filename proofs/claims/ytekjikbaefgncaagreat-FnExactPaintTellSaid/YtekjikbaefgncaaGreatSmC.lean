/- Normal forms found by instances; one step of a walk over a fixed base. No program. -/
import Derived.Test.YtekjikbaefgncaaGreatSmB
set_option linter.unusedVariables false
set_option linter.unusedSimpArgs false
set_option linter.unusedSectionVars false

namespace Go.Sl
open Go Go.Conc PHeap

/-- A value that takes one cell. -/
class One (v : Value) : Prop where
  cells : v.cells = #[v]
  one : isOne v = true
instance {b : Bool} : One (.bool b) := ⟨rfl, rfl⟩
instance {k : IntKind} {z : Int} : One (.int k z) := ⟨rfl, rfl⟩
instance {s : ByteArray} : One (.string s) := ⟨rfl, rfl⟩
instance {a : Option Addr} : One (.pointer a) := ⟨rfl, rfl⟩
instance {a : Option Addr} {l c : Nat} : One (.slice a l c) := ⟨rfl, rfl⟩
instance {a : Option Nat} : One (.map a) := ⟨rfl, rfl⟩
instance {a : Option Nat} : One (.chan a) := ⟨rfl, rfl⟩
instance {f : Fn} {a c : Array Value} : One (.func f a c) := ⟨rfl, rfl⟩
instance : One .nilFunc := ⟨rfl, rfl⟩
instance {t : TypeId} {v : Value} : One (.iface t v) := ⟨rfl, rfl⟩
instance : One .nilIface := ⟨rfl, rfl⟩
theorem Sl.one {h : PHeap} {v : Value} {α : Type} {E : Flat α} {xs : List α} (s : Sl h v E xs) : One v := by
  obtain ⟨_, _, rfl⟩ := s.val; infer_instance
theorem Gr.one {A : Own} {v : Value} {T : TypeId} {α : Type} {E : Flat α} {xs : List α} (g : Gr A v T E xs) : One v := by
  rcases g.at' with ⟨rfl, rfl, rfl⟩ | ⟨_, _, _, rfl, rfl, _⟩ <;> infer_instance

class AllOne (l : List Value) : Prop where
  is : allOne l = true
instance : AllOne [] := ⟨rfl⟩
instance {v : Value} {l : List Value} [o : One v] [a : AllOne l] : AllOne (v :: l) := ⟨by unfold allOne; rw [List.all_cons, o.one]; exact a.is⟩

/-- A value's cells. -/
class CellsOf (v : Value) (l : outParam (List Value)) : Prop where
  eq : v.cells = l.toArray
instance {l : List Value} : CellsOf (.agg l.toArray) l := ⟨rfl⟩
instance (priority := low) {v : Value} [o : One v] : CellsOf v [v] := ⟨o.cells⟩

/-- A stretch of cells. -/
class GetR (l : List Value) (off n : Nat) (cs : outParam (List Value)) : Prop where
  le : off + n ≤ l.length
  eq : (l.drop off).take n = cs
instance GetR.z {l : List Value} : GetR l 0 0 [] := ⟨by simp, by simp⟩
instance GetR.here {x : Value} {l cs : List Value} {n : Nat} [g : GetR l 0 n cs] : GetR (x :: l) 0 (n + 1) (x :: cs) := ⟨by have := g.le; simp; omega, by have := g.eq; simp at this; simp [this]⟩
instance GetR.there {x : Value} {l cs : List Value} {k n : Nat} [g : GetR l k n cs] : GetR (x :: l) (k + 1) n cs := ⟨by have := g.le; simp; omega, by have := g.eq; simpa using this⟩
theorem GetR.take {l cs : List Value} {off n : Nat} (g : GetR l off n cs) : takeCells l.toArray off n = some cs := by
  unfold takeCells
  rw [show Nat.ble (off + n) l.toArray.size = true from Nat.ble_eq_true_of_le (by simpa using g.le)]
  simp only [cond_true, g.eq]

/-- A stretch of cells anew. -/
class SetR (l : List Value) (off : Nat) (vs : List Value) (l' : outParam (List Value)) : Prop where
  le : off + vs.length ≤ l.length
  eq : l' = l.take off ++ vs ++ l.drop (off + vs.length)
instance SetR.z {l : List Value} : SetR l 0 [] l := ⟨by simp, by simp⟩
instance SetR.here {x v : Value} {l vs l' : List Value} [s : SetR l 0 vs l'] : SetR (x :: l) 0 (v :: vs) (v :: l') := ⟨by have := s.le; simp; omega, by have := s.eq; simp at this; simp [this]⟩
instance SetR.there {x : Value} {l vs l' : List Value} {k : Nat} [s : SetR l k vs l'] : SetR (x :: l) (k + 1) vs (x :: l') := ⟨by have := s.le; simp; omega, by
  have := s.eq
  rw [show k + 1 + vs.length = (k + vs.length) + 1 by omega]
  simp [this]⟩
theorem SetR.set {l vs l' : List Value} {off : Nat} (s : SetR l off vs l') : setCells l.toArray off vs = l'.toArray := by
  apply Array.toList_inj.1
  rw [setCells_toList _ _ _ (by simpa using s.le)]
  simpa using s.eq.symm

/-- What a load of a type yields. -/
class LoadV (D : TypeDesc) (cs : List Value) (v : outParam Value) : Prop where
  eq : ofCells D cs = v
  ok : ∀ size, cs.length = size → loadOk D size = true
instance {v : Value} : LoadV .bool [v] v := ⟨rfl, fun _ e => by subst e; rfl⟩
instance {k : IntKind} {v : Value} : LoadV (.int k) [v] v := ⟨rfl, fun _ e => by subst e; rfl⟩
instance {v : Value} : LoadV .string [v] v := ⟨rfl, fun _ e => by subst e; rfl⟩
instance {t : TypeId} {v : Value} : LoadV (.pointer t) [v] v := ⟨rfl, fun _ e => by subst e; rfl⟩
instance {t : TypeId} {v : Value} : LoadV (.slice t) [v] v := ⟨rfl, fun _ e => by subst e; rfl⟩
instance {k e : TypeId} {v : Value} : LoadV (.map k e) [v] v := ⟨rfl, fun _ e => by subst e; rfl⟩
instance {k : ChanDir} {e : TypeId} {v : Value} : LoadV (.chan k e) [v] v := ⟨rfl, fun _ e => by subst e; rfl⟩
instance {a b : Array TypeId} {c : Bool} {v : Value} : LoadV (.func a b c) [v] v := ⟨rfl, fun _ e => by subst e; rfl⟩
instance {a : Array (String × TypeId)} {v : Value} : LoadV (.interface a) [v] v := ⟨rfl, fun _ e => by subst e; rfl⟩
instance {fs : Array Field} {cs : List Value} : LoadV (.struct fs) cs (.agg cs.toArray) := ⟨rfl, fun _ _ => rfl⟩
instance {n : Nat} {t : TypeId} {cs : List Value} : LoadV (.array n t) cs (.agg cs.toArray) := ⟨rfl, fun _ _ => rfl⟩

/-- How one piece of data lies. -/
class FlatV {α : Type} (E : Flat α) (x : α) (cs : outParam (List Value)) : Prop where
  eq : E.f x = cs

/-! ### building -/
class LGet (L : Locals) (i : Nat) (v : outParam Value) : Prop where
  get : L.get i = some v
instance LGet.here {i : Nat} {v : Value} {L : Locals} : LGet ((i, v) :: L) i v := ⟨by simp [Locals.get]⟩
theorem LGet.there' {i j : Nat} {u v : Value} {L : Locals} (hne : Nat.beq j i = false) (g : LGet L i v) : LGet ((j, u) :: L) i v := ⟨by simp only [Locals.get, hne, cond_false]; exact g.get⟩
class EvR (L : Locals) (o : Operand) (v : outParam Value) : Prop where
  ev : Go.Sl.ev L o = some v
instance {L : Locals} {v : Value} : EvR L (.const v) v := ⟨rfl⟩
class NthR (l : List Value) (i : Nat) (v : outParam Value) : Prop where
  eq : l[i]? = some v
instance {v : Value} {l : List Value} : NthR (v :: l) 0 v := ⟨rfl⟩
instance {u v : Value} {l : List Value} {i : Nat} [x : NthR l i v] : NthR (u :: l) (i + 1) v := ⟨by simpa using x.eq⟩
/-- Elements of an array of one cell each. -/
class PartsA (i : Nat) (ps : List (Nat × Value)) (l : outParam (List Value)) : Prop where
  all : partsAll 1 i ps = some l
instance {i : Nat} : PartsA i [] [] := ⟨rfl⟩
instance {i : Nat} {v : Value} {ps : List (Nat × Value)} {l : List Value} [o : One v] [r : PartsA (i + 1) ps l] : PartsA i ((i, v) :: ps) (v :: l) := ⟨by
  have hv : v.cells.toList = [v] := by rw [o.cells]
  simp only [partsAll, hv, List.length_singleton, Nat.beq_refl, Bool.true_and, cond_true, r.all, List.singleton_append]⟩
class FldR (pl : List FldI) (i : Nat) (off size : outParam Nat) : Prop where
  eq : ∃ fi, pl[i]? = some fi ∧ fi.off = off ∧ fi.size = size
instance FldR.here {ft : TypeId} {ag : Bool} {fo fs : Nat} {pl : List FldI} : FldR (⟨ft, ag, fo, fs⟩ :: pl) 0 fo fs := ⟨_, rfl, rfl, rfl⟩
instance FldR.there {f : FldI} {pl : List FldI} {i off size : Nat} [x : FldR pl i off size] : FldR (f :: pl) (i + 1) off size := ⟨by simpa using x.eq⟩
class AddR (a b : Nat) (c : outParam Nat) : Prop where
  eq : a + b = c
instance (priority := high) {b : Nat} : AddR 0 b b := ⟨Nat.zero_add b⟩
instance (priority := high) {a : Nat} : AddR a 0 a := ⟨rfl⟩
instance {a b c : Nat} [x : AddR a b c] : AddR (a + 1) b (c + 1) := ⟨by have := x.eq; omega⟩
class LenR (l : List Value) (n : Nat) : Prop where
  len : l.length = n
instance : LenR [] 0 := ⟨rfl⟩
instance {v : Value} {l : List Value} {n : Nat} [x : LenR l n] : LenR (v :: l) (n + 1) := ⟨by simp [x.len]⟩
/-- The parts of a struct, laid one behind the other. -/
class PartsR (pl : List FldI) (cs : List Value) (ps : List (Nat × Value)) (l : outParam (List Value)) : Prop where
  fill : fillC pl cs ps = some l
instance PartsR.nil {pl : List FldI} {cs : List Value} : PartsR pl cs [] cs := ⟨rfl⟩
instance PartsR.cons {pl : List FldI} {cs vs cs' l : List Value} {i off size : Nat} {v : Value} {ps : List (Nat × Value)} [f : FldR pl i off size] [c : CellsOf v vs] [n : LenR vs size] [s : SetR cs off vs cs'] [r : PartsR pl cs' ps l] : PartsR pl cs ((i, v) :: ps) l := ⟨by
  obtain ⟨fi, h1, rfl, rfl⟩ := f.eq
  have hv : v.cells.toList = vs := by rw [c.eq]
  have hl := n.len
  simp only [fillC, h1, hv, hl, Nat.beq_refl, Bool.true_and]
  have hle : fi.off + fi.size ≤ cs.length := by have := s.le; rw [hl] at this; exact this
  rw [Nat.ble_eq_true_of_le hle]
  simp only [cond_true]
  have : splice cs fi.off vs = cs' := s.eq.symm
  rw [this]; exact r.fill⟩
/-- Elements, one behind the other. -/
class ElemsR (size i : Nat) (ps : List (Nat × Value)) (l : outParam (List Value)) : Prop where
  all : partsAll size i ps = some l
instance {size i : Nat} : ElemsR size i [] [] := ⟨rfl⟩

section
variable {P : Program} {M : Jdg → Prop} [hM : IsCl P M] {n : Nat} {Q : Qf} {L L' : Locals} {O O' R A B : Own} {h : PHeap} {ops : Array Oper} {rest : List Oper} {o : Oper}
  {d : Nat} {ty : TypeId} {pos : String} {af : Array Edge} {g : Option (Nat × Bool)} {op : Op} {x y : Operand}
  {t e : TypeId} {D D' : TypeDesc} {size bytes size' bytes' : Nat} {zero zero' : Value} {α : Type} {fl : Flat α} {v u : Value} {l l' vs cs : List Value} {b off : Nat} {T' : TypeId} {fr : Nat × Nat} {pl : List FldI}

omit hM in
theorem Rq (k : sfOps P M n ops Q rest ((d, v) :: L) O h) (x : Opq P n ⟨some d, op, ty, pos, af, g⟩ L O h v) : Do1 P M n ops Q ⟨some d, op, ty, pos, af, g⟩ rest L O h := x_q x k
omit hM in
theorem z_load (hx : ev L x = some (.pointer (some ⟨b, off, none⟩))) [T : Ty P t D size bytes zero] [m : OwnAt O b (.cells l.toArray T' fr)] [gr : GetR l off size cs] [lv : LoadV D cs v] : Opq P n ⟨some d, .load t x, ty, pos, af, g⟩ L O h (v) := by
  have hl : cs.length = size := by have := gr.eq; have := gr.le; subst cs; simp; omega
  have := q_loadO (P := P) (n := n) (O := O) (h := h) (d := some d) (ty := ty) (pos := pos) (af := af) (g := g) T hx m gr.take (lv.ok _ hl)
  rw [lv.eq] at this
  exact this
omit hM in
theorem z_loadB (hx : ev L x = some (.pointer (some ⟨b, off, none⟩))) [T : Ty P t D size bytes zero] [m : BAt h b (.cells l.toArray T' fr)] [gr : GetR l off size cs] [lv : LoadV D cs v] : Opq P n ⟨some d, .load t x, ty, pos, af, g⟩ L O h (v) := by
  have hl : cs.length = size := by have := gr.eq; have := gr.le; subst cs; simp; omega
  have := q_loadB (P := P) (n := n) (O := O) (h := h) (d := some d) (ty := ty) (pos := pos) (af := af) (g := g) T hx m gr.take (lv.ok _ hl)
  rw [lv.eq] at this
  exact this
omit hM in
/-- A load of an element of a slice of the base. -/
theorem z_loadS {j : Nat} [Inhabited α] {E : Flat α} {xs : List α} (hx : ev L x = some (.pointer (some ⟨vb v, vo v + j * size + 0, none⟩))) [T : Ty P t D size bytes zero] (s : Sl h v E xs) [f : FlatV E (gt xs j) cs] [lv : LoadV D cs u] (hj : j < xs.length) (hz : E.sz = size) : Opq P n ⟨some d, .load t x, ty, pos, af, g⟩ L O h (u) := by
  have hl : cs.length = size := by rw [← f.eq, E.len, hz]
  have := q_loadS (P := P) (n := n) (O := O) (h := h) (d := some d) (ty := ty) (pos := pos) (af := af) (g := g) T hx s hj hz (lv.ok _ hl)
  rw [f.eq, lv.eq] at this
  exact this
omit hM in
theorem z_loadF {j sz : Nat} [Inhabited α] {E : Flat α} {xs : List α} (hx : ev L x = some (.pointer (some ⟨vb v, vo v + j * sz + off, none⟩))) [T : Ty P t D size bytes zero] (s : Sl h v E xs) [f : FlatV E (gt xs j) l] [gr : GetR l off size cs] [lv : LoadV D cs u] (hj : j < xs.length) (hz : E.sz = sz) : Opq P n ⟨some d, .load t x, ty, pos, af, g⟩ L O h (u) := by
  have hl : cs.length = size := by have := gr.eq; have := gr.le; subst cs; simp; omega
  have := q_loadF (P := P) (n := n) (O := O) (h := h) (d := some d) (ty := ty) (pos := pos) (af := af) (g := g) (cs := cs) T hx s hj hz (by rw [f.eq]; exact gr.take) (lv.ok _ hl)
  rw [lv.eq] at this
  exact this
omit hM in
theorem z_fa0 {f fo : Nat} {fz : Nat} (hx : ev L x = some (.pointer (some ⟨b, 0, none⟩))) [Fl : Flds P t pl] [fd : FldR pl f fo fz] (hs : Nat.blt 0 fz = true) : Opq P n ⟨some d, .fieldAddr t x f, ty, pos, af, g⟩ L O h (.pointer (some ⟨b, fo, none⟩)) := by
  obtain ⟨fi, h1, rfl, rfl⟩ := fd.eq
  have := q_fieldAddr (P := P) (n := n) (L := L) (O := O) (h := h) (d := some d) (ty := ty) (pos := pos) (af := af) (g := g) Fl hx h1 hs
  rw [Nat.zero_add] at this
  exact this
omit hM in
theorem z_fa {f fo : Nat} {fz : Nat} (hx : ev L x = some (.pointer (some ⟨b, off, none⟩))) [Fl : Flds P t pl] [fd : FldR pl f fo fz] (hs : Nat.blt 0 fz = true) : Opq P n ⟨some d, .fieldAddr t x f, ty, pos, af, g⟩ L O h (.pointer (some ⟨b, off + fo, none⟩)) := by
  obtain ⟨fi, h1, rfl, rfl⟩ := fd.eq
  exact q_fieldAddr Fl hx h1 hs
omit hM in
theorem z_extract {i : Nat} (hx : ev L x = some (.tuple l.toArray)) [nt : NthR l i v] : Opq P n ⟨some d, .extract x i, ty, pos, af, g⟩ L O h v := q_extract hx (by simpa using nt.eq)
omit hM in
theorem z_buildA {len : Nat} {parts : Array (Nat × Operand)} {ps : List (Nat × Value)} (hp : evParts L parts.toList = some ps) (T : Ty P t (.array len e) size' bytes' (.agg l.toArray)) (Te : Ty P e D 1 bytes zero) [pr : PartsA 0 ps l'] (hl : Nat.beq ps.length len = true) (hz : Nat.beq l.length (len * 1) = true) : Opq P n ⟨some d, .build t parts, ty, pos, af, g⟩ L O h (.agg l'.toArray) :=
  q_buildA T Te hp hl hz pr.all
omit hM in
/-- The place of an element of an array in memory, one cell each. -/
theorem z_indexP1 {i : Operand} {len k : Nat} {kd : IntKind} (hx : ev L x = some (.pointer (some ⟨b, 0, none⟩))) (hi : ev L i = some (.int kd (k : Int))) (S : Ty P t (.array len e) size' bytes' zero') (T : Ty P e D 1 bytes zero) (hk : k < len) : Opq P n ⟨some d, .indexAddr t x i, ty, pos, af, g⟩ L O h (.pointer (some ⟨b, k, none⟩)) := by
  have := q_indexP (P := P) (n := n) (L := L) (O := O) (h := h) (d := some d) (ty := ty) (pos := pos) (af := af) (g := g) S T hx hi (Int.natCast_nonneg _) (by omega)
  simpa using this
omit hM in
theorem z_faE {f fo o1 o2 o3 : Nat} {fz : Nat} (hx : ev L x = some (.pointer (some ⟨b, o1 + o2, none⟩))) [Fl : Flds P t pl] [fd : FldR pl f fo fz] [ad : AddR o2 fo o3] (hs : Nat.blt 0 fz = true) : Opq P n ⟨some d, .fieldAddr t x f, ty, pos, af, g⟩ L O h (.pointer (some ⟨b, o1 + o3, none⟩)) := by
  rw [← ad.eq, ← Nat.add_assoc]
  exact z_fa hx hs
omit hM in
theorem y_store (k : sfOps P M n ops Q rest L O' h) (hx : ev L x = some (.pointer (some ⟨b, off, none⟩))) (hy : ev L y = some v) [T : Ty P t D size bytes zero] [m : OwnAt O b (.cells l.toArray T' (0, 0))] [c : CellsOf v vs] [nl : LenR vs size] [ao : AllOne vs] [s : SetR l off vs l'] [w : OwnSet O b (.cells l'.toArray T' (0, 0)) O'] : Do1 P M n ops Q ⟨none, .store t x y, ty, pos, af, g⟩ rest L O h := by
  have hv : v.cells.toList = vs := by rw [c.eq]
  have hl := nl.len
  refine x_store T hx hy m (by rw [c.eq]; simpa using hl) (by rw [hv]; exact Nat.ble_eq_true_of_le (by simpa using s.le)) (by rw [hv]; exact ao.is) (O' := O') ?_ k
  rw [hv, s.set]; exact w
omit hM in
theorem y_alloc [T : Ty P t D size bytes zero] [c : CellsOf zero l] (k : ∀ b, sfOps P M n ops Q rest ((d, .pointer (some ⟨b, 0, none⟩)) :: L) ((b, .cells l.toArray t) :: O) h) : Do1 P M n ops Q ⟨some d, .alloc t, ty, pos, af, g⟩ rest L O h :=
  x_alloc T fun b => by rw [c.eq]; exact k b
omit hM in
theorem y_box [c : CellsOf v l] (k : ∀ b, sfOps P M n ops Q rest ((d, .pointer (some ⟨b, 0, none⟩)) :: L) ((b, .cells l.toArray t) :: O) h) (hx : ev L x = some v) : Do1 P M n ops Q ⟨some d, .box t x, ty, pos, af, g⟩ rest L O h :=
  x_box hx fun b => by rw [c.eq]; exact k b
omit hM in
theorem z_build {parts : Array (Nat × Operand)} {ps : List (Nat × Value)} (hp : evParts L parts.toList = some ps) [T : Ty P t D size bytes (.agg l.toArray)] [Fl : Flds P t pl] [pr : PartsR pl l ps l'] : Opq P n ⟨some d, .build t parts, ty, pos, af, g⟩ L O h (.agg l'.toArray) :=
  q_build T Fl hp pr.fill
omit hM in
theorem z_field {f : Nat} (hx : ev L x = some (.agg l.toArray)) [Fl : Flds P t pl] (fi : FldI) (hf : pl[f]? = some fi) (hv : partOfV fi.agg l.toArray fi.off fi.size = some v) : Opq P n ⟨some d, .field t x f, ty, pos, af, g⟩ L O h (v) := q_field Fl hx hf hv
end

section
variable {P : Program} {M : Jdg → Prop} [hM : IsCl P M] {n : Nat} {L : Locals} {O O' R : Own} {t : TypeId} {D : TypeDesc} {size bytes : Nat} {zero v v0 : Value} {l cs : List Value} {b off a : Nat} {T' : TypeId} {fr : Nat × Nat} {fn : Func} {RR : Value → Own → Prop} {E : List PanicEntry → Own → Prop}
theorem yr_cell (h1 : L.get a = some (.pointer (some ⟨b, off, none⟩))) [T : Ty P t D size bytes zero] [m : OwnAt O b (.cells l.toArray T' fr)] [gr : GetR l off size cs] [lv : LoadV D cs v] : Res1 P n L O (.cell a t) v := by
  have hl : cs.length = size := by have := gr.eq; have := gr.le; subst cs; simp; omega
  have := res_cell (P := P) (n := n) (L := L) (O := O) (t := t) h1 gr.take (lv.ok _ hl)
  rwa [lv.eq] at this
/-- The end of a function, where its value is told. -/
theorem rV (x : v = v0) (hr : ResV P fn n L O v := by
    first
      | exact resV_one rfl (by first | exact res_tmp rfl | exact yr_cell rfl)
      | exact resV_two rfl (by first | exact res_tmp rfl | exact yr_cell rfl) (by first | exact res_tmp rfl | exact yr_cell rfl)
      | exact resV_none rfl
      | exact resV_three rfl (by first | exact res_tmp rfl | exact yr_cell rfl) (by first | exact res_tmp rfl | exact yr_cell rfl) (by first | exact res_tmp rfl | exact yr_cell rfl)
      | exact resV_four rfl (by first | exact res_tmp rfl | exact yr_cell rfl) (by first | exact res_tmp rfl | exact yr_cell rfl) (by first | exact res_tmp rfl | exact yr_cell rfl) (by first | exact res_tmp rfl | exact yr_cell rfl)) :
    retF P fn n (fun v A => v = v0 ∧ A = []) E .ret L O := rv hr x
theorem rO (O' : Own) (x : RR v O') [sp : Sp O O' R] (hr : ResV P fn n L O v := by
    first
      | exact resV_one rfl (by first | exact res_tmp rfl | exact yr_cell rfl)
      | exact resV_two rfl (by first | exact res_tmp rfl | exact yr_cell rfl) (by first | exact res_tmp rfl | exact yr_cell rfl)
      | exact resV_none rfl
      | exact resV_three rfl (by first | exact res_tmp rfl | exact yr_cell rfl) (by first | exact res_tmp rfl | exact yr_cell rfl) (by first | exact res_tmp rfl | exact yr_cell rfl)
      | exact resV_four rfl (by first | exact res_tmp rfl | exact yr_cell rfl) (by first | exact res_tmp rfl | exact yr_cell rfl) (by first | exact res_tmp rfl | exact yr_cell rfl) (by first | exact res_tmp rfl | exact yr_cell rfl)) :
    retF P fn n RR E .ret L O := rt O' hr x
theorem nO (O' : Own) (x : RR v O') [sp : Sp O O' R] (hr : ResV P fn n L O v := by
    first
      | exact resV_one rfl (by first | exact res_tmp rfl | exact yr_cell rfl)
      | exact resV_none rfl) :
    retF P fn n RR E .nrm L O := rn O' hr x
end

section
variable {P : Program} {M : Jdg → Prop} [hM : IsCl P M] {n : Nat} {Q : Qf} {L : Locals} {O R : Own} {h : PHeap} {ops : Array Oper} {rest : List Oper}
  {d : Option Nat} {ty : TypeId} {pos : String} {af : Array Edge} {g : Option (Nat × Bool)} {op : Op} {x y : Operand} {t t' : TypeId} {kd : IntKind} {a b : Int}
/-- The guard lets it pass. -/
def GOk (ops : Array Oper) (L : Locals) (g : Option (Nat × Bool)) : Prop := g = none ∨ ∃ j dj want b, g = some (j, want) ∧ (ops[j]?).bind (·.dst) = some dj ∧ L.get dj = some (.bool b) ∧ b = want
theorem fp (x : Do1 P M n ops Q ⟨d, op, ty, pos, af, g⟩ rest L O h) (hd : dstOk n d = true := by rfl) (hg : GOk ops L g := by first | exact .inl rfl | exact .inr ⟨_, _, _, _, rfl, by rfl, by rfl, by first | assumption | exact decide_eq_true (by assumption) | exact decide_eq_false (by assumption) | rfl⟩) : sfOps P M n ops Q (⟨d, op, ty, pos, af, g⟩ :: rest) L O h := by
  rcases hg with rfl | ⟨j, dj, want, b, rfl, h1, h2, h3⟩
  · exact f_p x hd
  · exact f_g h1 h2 h3 x hd
omit hM in
theorem q_div64 (hx : ev L x = some (.int .i64 a)) (hy : ev L y = some (.int .i64 b)) (h : 0 ≤ a ∧ a ≤ 9223372036854775807 ∧ 0 < b) {h0 : PHeap} : Opq P n ⟨d, .binOp .quo t x y t', ty, pos, af, g⟩ L O h0 (.int .i64 (a / b)) := by
  have := q_quo (P := P) (n := n) (O := O) (h := h0) (d := d) (t := t) (t' := t') (ty := ty) (pos := pos) (af := af) (g := g) hx hy (by omega)
  rw [Int.tdiv_eq_ediv_of_nonneg h.1] at this
  have h1 : a / b ≤ a := Int.ediv_le_self _ h.1
  have h2 : 0 ≤ a / b := Int.ediv_nonneg h.1 (by omega)
  rwa [wrap_in (by omega) (by omega)] at this
omit hM in
theorem q_mod64 (hx : ev L x = some (.int .i64 a)) (hy : ev L y = some (.int .i64 b)) (h : 0 ≤ a ∧ 0 < b) {h0 : PHeap} : Opq P n ⟨d, .binOp .rem t x y t', ty, pos, af, g⟩ L O h0 (.int .i64 (a % b)) := by
  have := q_rem (P := P) (n := n) (O := O) (h := h0) (d := d) (t := t) (t' := t') (ty := ty) (pos := pos) (af := af) (g := g) hx hy (by omega)
  rwa [Int.tmod_eq_emod_of_nonneg h.1] at this
omit hM in
theorem slp_eqBool {H : PHeap} {Kk : Value → PHeap → Prop} {Ee : Value → PHeap → Prop} (op : BinOp) (hop : op = .eql ∨ op = .neq) {size bytes : Nat} {zero : Value} (S : Ty P t .bool size bytes zero) {p q : Bool} (x y : Operand)
    (k : Kk (.bool (if op = .eql then decide (p = q) else !decide (p = q))) H) : (do eqGuard op t x y (.bool p) (.bool q); binOp op t (.bool p) (.bool q) : Sem Value).slp P Kk Ee H := by
  have e1 : Sem.slp P (fun (b : Bool) H' => b = decide (p = q) ∧ H' = H) Ee (Op.equal t (.bool p) (.bool q)) H := by
    unfold Op.equal Op.maxDepth
    rw [show (10000 : Nat) = 9999 + 1 from rfl]
    unfold Op.equalIn
    rw [slp_bind]
    refine slp_underlying S.und ?_
    cases p <;> cases q <;> exact ⟨rfl, rfl⟩
  rcases hop with rfl | rfl
  · have eg : eqGuard .eql t x y (.bool p) (.bool q) = pure () := rfl
    rw [eg, slp_bind, slp_pure]
    simp only [binOp]
    rw [slp_bind]
    refine slp_mono ?_ (fun _ _ y => y) e1
    rintro b H' ⟨rfl, rfl⟩
    rw [slp_pure]
    simpa using k
  · have eg : eqGuard .neq t x y (.bool p) (.bool q) = pure () := rfl
    rw [eg, slp_bind, slp_pure]
    simp only [binOp]
    rw [slp_bind]
    refine slp_mono ?_ (fun _ _ y => y) e1
    rintro b H' ⟨rfl, rfl⟩
    rw [slp_pure]
    simpa using k
omit hM in
theorem q_eqB {p q : Bool} {size bytes : Nat} {zero : Value} (hx : ev L x = some (.bool p)) (hy : ev L y = some (.bool q)) (S : Ty P t .bool size bytes zero) {h0 : PHeap} : Opq P n ⟨d, .binOp .eql t x y t', ty, pos, af, g⟩ L O h0 (.bool (decide (p = q))) :=
  q_of fun H K E k => o_val (s := fun a => do eqGuard .eql t x y (a.eval x) (a.eval y); binOp .eql t (a.eval x) (a.eval y)) (fun _ _ => rfl) fun a ha => by
    rw [ha.ev hx, ha.ev hy]
    exact slp_eqBool .eql (.inl rfl) S x y (by simpa using k)
omit hM in
theorem q_neqB {p q : Bool} {size bytes : Nat} {zero : Value} (hx : ev L x = some (.bool p)) (hy : ev L y = some (.bool q)) (S : Ty P t .bool size bytes zero) {h0 : PHeap} : Opq P n ⟨d, .binOp .neq t x y t', ty, pos, af, g⟩ L O h0 (.bool !(decide (p = q))) :=
  q_of fun H K E k => o_val (s := fun a => do eqGuard .neq t x y (a.eval x) (a.eval y); binOp .neq t (a.eval x) (a.eval y)) (fun _ _ => rfl) fun a ha => by
    rw [ha.ev hx, ha.ev hy]
    exact slp_eqBool .neq (.inr rfl) S x y (by simpa using k)
/-- Some of the temporaries. -/
def pickL (L : Locals) : List Nat → Option Locals
  | [] => some []
  | i :: is => match L.get i, pickL L is with
    | some v, some K => some ((i, v) :: K)
    | _, _ => none
omit hM in
theorem pickL_sub {L : Locals} : ∀ {is : List Nat} {K : Locals}, pickL L is = some K → K.sub L
  | [], K, e => by cases e; trivial
  | i :: is, K, e => by
    simp only [pickL] at e
    split at e
    · rename_i v K' h1 h2; cases e; exact ⟨h1, pickL_sub h2⟩
    · cases e
omit hM in
theorem sub_app {L A B : Locals} (h1 : A.sub L) (h2 : B.sub L) : Locals.sub (A ++ B) L := by
  induction A with
  | nil => exact h2
  | cons x A ih => exact ⟨h1.1, ih h1.2⟩
omit hM in
/-- The other temporaries are forgotten. -/
theorem sf_keep {c : Code} {K : Locals} (is : List Nat) (x : c.sf P M n Q K O h) (hp : pickL L is = some K := by rfl) : c.sf P M n Q L O h := sf_sub K (pickL_sub hp) x
/-- A loop: 'is' stay as they are, 'va' tells those that turn, 'ow' one's own blocks. -/
theorem sf_lp {ι : Type} {c : Code} {K : Locals} (is : List Nat) (va : ι → Locals) (ow : ι → Own → Prop) (μ : ι → Nat) (x0 : ι) (O0 : Own) (ho : ow x0 O0)
    (round : ∀ x O, ow x O → c.sf P M n (thenF (fun L O => ∃ y, μ y < μ x ∧ (va y).sub L ∧ pickL L is = some K ∧ ∃ O' R, Sp O O' R ∧ ow y O') Q) (va x ++ K) O h) (hp : pickL L is = some K := by rfl) (h0 : (va x0).sub L := by repeat (first | exact trivial | refine ⟨by rfl, ?_⟩)) [sp : Sp O O0 R] : (Code.loop c).sf P M n Q L O h := by
  refine sf_loop (ι := ι) (fun x L O => L = va x ++ K ∧ ow x O) μ x0 (va x0 ++ K) O0 ⟨rfl, ho⟩ (sub_app h0 (pickL_sub hp)) ?_
  rintro x L O ⟨rfl, h2⟩
  refine sf_mono (round x O h2) fun e L O q => ?_
  cases e with
  | nrm =>
    obtain ⟨y, q1, q2, q3, O', R', q4, q5⟩ := q
    exact ⟨y, va y ++ K, O', q1, ⟨rfl, q5⟩, sub_app q2 (pickL_sub q3), R', q4⟩
  | _ => exact q
/-- A loop that counts and turns no block. -/
theorem sf_rd {c : Code} {K : Locals} (is : List Nat) (i : Nat) (N k0 : Nat) (I : Nat → Prop) (hk : k0 ≤ N) (i0 : I k0)
    (round : ∀ k : Nat, k ≤ N → I k → c.sf P M n (thenF (fun L O' => (k < N ∧ I (k + 1)) ∧ L.get i = some (.int .i64 ((k + 1 : Nat) : Int)) ∧ pickL L is = some K ∧ ∃ R, Sp O' O R) Q) ((i, .int .i64 (k : Int)) :: K) O h) (hp : pickL L is = some K := by rfl) (h0 : L.get i = some (.int .i64 (k0 : Int)) := by rfl) : (Code.loop c).sf P M n Q L O h := by
  haveI : Sp O O [] := ⟨by simp⟩
  refine sf_lp (ι := Nat) (K := K) is (fun k => [(i, .int .i64 (k : Int))]) (fun k O' => O' = O ∧ k ≤ N ∧ I k) (fun k => N - k) k0 O ⟨rfl, hk, i0⟩ ?_ hp ⟨h0, trivial⟩
  rintro k O' ⟨rfl, h1, h2⟩
  refine sf_mono (round k h1 h2) fun e L O q => ?_
  cases e with
  | nrm =>
    obtain ⟨⟨q1, q2⟩, q3, q4, R', q5⟩ := q
    exact ⟨k + 1, by show N - (k + 1) < N - k; omega, ⟨q3, trivial⟩, q4, _, R', q5, rfl, by omega, q2⟩
  | _ => exact q
end

section
variable {P : Program} {M : Jdg → Prop} {n : Nat} {Q : Qf} {L : Locals} {O R : Own} {h : PHeap} {ops : Array Oper} {rest : List Oper}
  {d : Nat} {ty : TypeId} {pos : String} {af : Array Edge} {g : Option (Nat × Bool)} {t e : TypeId} {size bytes : Nat} {zero : Value}
theorem z_len {ats : Array TypeId} {args : Array Operand} {v : Value} {α : Type} {E : Flat α} {xs : List α} {tl : List TypeId} (hv : evAll L args.toList = some [v]) (ht : ats.toList = t :: tl) [S : Ty P t (.slice e) size bytes zero] [s : Sl h v E xs] :
    Opq P n ⟨some d, .call { callee := .builtin .len, args, argTypes := ats }, ty, pos, af, g⟩ L O h (.int .i64 xs.length) :=
  q_len hv (by rw [← Array.getElem?_toList, ht]; rfl) S s
theorem z_lenV {ats : Array TypeId} {args : Array Operand} {base : Option Addr} {len cap : Nat} {tl : List TypeId} (hv : evAll L args.toList = some [.slice base len cap]) (ht : ats.toList = t :: tl) [S : Ty P t (.slice e) size bytes zero] :
    Opq P n ⟨some d, .call { callee := .builtin .len, args, argTypes := ats }, ty, pos, af, g⟩ L O h (.int .i64 len) :=
  q_lenV hv (by rw [← Array.getElem?_toList, ht]; rfl) S
theorem z_indexS {size' bytes' : Nat} {zero' v : Value} {D : TypeDesc} {x i : Operand} {α : Type} {E : Flat α} {xs : List α} {k : Nat} (hx : ev L x = some v) (hi : ev L i = some (.int .i64 (k : Int))) (s : Sl h v E xs) (hk : k < xs.length) [S : Ty P t (.slice e) size' bytes' zero'] [T : Ty P e D size bytes zero] :
    Opq P n ⟨some d, .indexAddr t x i, ty, pos, af, g⟩ L O h (.pointer (some ⟨vb v, vo v + k * size + 0, none⟩)) :=
  q_indexS S T hx hi s (Int.natCast_nonneg _) (by simpa using hk)
theorem Gr.len {A : Own} {v : Value} {T : TypeId} {α : Type} {E : Flat α} {xs : List α} (g : Gr A v T E xs) : ∃ base cap, v = .slice base xs.length cap := by
  rcases g.at' with ⟨rfl, rfl, rfl⟩ | ⟨_, _, _, rfl, rfl, _⟩
  · exact ⟨_, _, rfl⟩
  · exact ⟨_, _, rfl⟩
theorem z_lenG {ats : Array TypeId} {args : Array Operand} {v : Value} {A : Own} {T : TypeId} {α : Type} {E : Flat α} {xs : List α} {tl : List TypeId} (hv : evAll L args.toList = some [v]) (ht : ats.toList = t :: tl) (gr : Gr A v T E xs) [S : Ty P t (.slice e) size bytes zero] :
    Opq P n ⟨some d, .call { callee := .builtin .len, args, argTypes := ats }, ty, pos, af, g⟩ L O h (.int .i64 xs.length) := by
  obtain ⟨base, cap, rfl⟩ := gr.len
  exact q_lenV hv (by rw [← Array.getElem?_toList, ht]; rfl) S
end

section
variable {P : Program} {M : Jdg → Prop} [hM : IsCl P M] {n : Nat} {Q : Qf} {L : Locals} {O R A : Own} {h : PHeap} {ops : Array Oper} {rest : List Oper}
  {d : Nat} {ty : TypeId} {pos : String} {af : Array Edge} {g : Option (Nat × Bool)} {op : Op} {f : FuncId} {args : Array Operand} {ats : Array TypeId} {vs : List Value} {RR : Value → Own → Prop} {v : Value}
theorem y_gF {j dj : Nat} {want b : Bool} (hj : (ops[j]?).bind (·.dst) = some dj) (hb : L.get dj = some (.bool b)) (hbw : b = !want) (k : sfOps P M n ops Q rest ((d, undef) :: L) O h) (hd : dstOk n (some d) = true := by rfl) : sfOps P M n ops Q (⟨some d, op, ty, pos, af, some (j, want)⟩ :: rest) L O h := f_gF hj hb hbw k hd
theorem y_gU {j dj : Nat} {want : Bool} (hj : (ops[j]?).bind (·.dst) = some dj) (hb : L.get dj = some undef) (k : sfOps P M n ops Q rest ((d, undef) :: L) O h) (hd : dstOk n (some d) = true := by rfl) : sfOps P M n ops Q (⟨some d, op, ty, pos, af, some (j, want)⟩ :: rest) L O h := f_gU hj hb k hd
omit hM in
theorem y_call [Fu : Fun P f] (C : CallF P M f vs A h RR) (hv : evAll L args.toList = some vs) [sp : Sp O A R] (k : ∀ v A', RR v A' → sfOps P M n ops Q rest ((d, v) :: L) (A' ++ R) h) :
    Do1 P M n ops Q ⟨some d, .call { callee := .value (.func f), args, argTypes := ats }, ty, pos, af, g⟩ rest L O h := x_call C hv k
omit hM in
theorem y_callV [Fu : Fun P f] (C : CallV P M f vs h v) (hv : evAll L args.toList = some vs) (k : sfOps P M n ops Q rest ((d, v) :: L) O h) :
    Do1 P M n ops Q ⟨some d, .call { callee := .value (.func f), args, argTypes := ats }, ty, pos, af, g⟩ rest L O h := x_callV C hv k
omit hM in
theorem y_lend [Fu : Fun P f] (B : Own) (C : ∀ h', Le h h' → InB h' B → CallF P M f vs A h' RR) (hv : evAll L args.toList = some vs) [sp : Sp O (B ++ A) R] (k : ∀ v A', RR v A' → sfOps P M n ops Q rest ((d, v) :: L) (A' ++ (B ++ R)) h) :
    Do1 P M n ops Q ⟨some d, .call { callee := .value (.func f), args, argTypes := ats }, ty, pos, af, g⟩ rest L O h := x_lend B C hv k
omit hM in
theorem y_lendV [Fu : Fun P f] (B : Own) (C : ∀ h', Le h h' → InB h' B → CallV P M f vs h' v) (hv : evAll L args.toList = some vs) [sp : Sp O B R] (k : sfOps P M n ops Q rest ((d, v) :: L) O h) :
    Do1 P M n ops Q ⟨some d, .call { callee := .value (.func f), args, argTypes := ats }, ty, pos, af, g⟩ rest L O h := x_lendV B C hv k
omit hM in
theorem y_callC {fo : Operand} {first captured : Array Value} [Fu : Fun P f] (C : CallF P M f (first.toList ++ vs ++ captured.toList) A h RR) (hf : ev L fo = some (.func (.func f) first captured)) (hv : evAll L args.toList = some vs) [sp : Sp O A R] (k : ∀ v A', RR v A' → sfOps P M n ops Q rest ((d, v) :: L) (A' ++ R) h) :
    Do1 P M n ops Q ⟨some d, .call { callee := .value fo, args, argTypes := ats }, ty, pos, af, g⟩ rest L O h := x_callC hf hv C k
omit hM in
theorem y_callCV {fo : Operand} {first captured : Array Value} [Fu : Fun P f] (C : CallV P M f (first.toList ++ vs ++ captured.toList) h v) (hf : ev L fo = some (.func (.func f) first captured)) (hv : evAll L args.toList = some vs) (k : sfOps P M n ops Q rest ((d, v) :: L) O h) :
    Do1 P M n ops Q ⟨some d, .call { callee := .value fo, args, argTypes := ats }, ty, pos, af, g⟩ rest L O h := x_callCV hf hv C k
end

end Go.Sl

/- Data in cells; rules for operations over own blocks and a base, one a kind of operation. No program. -/
import Derived.Test.YtcefbjpebgofjaaSlH
namespace Go.Sl
open Go Go.Conc PHeap

/-- How data without an address of their own lie in cells. -/
structure Flat (α : Type) where
  sz : Nat
  f : α → List Value
  len : ∀ x, (f x).length = sz

def vb : Value → Nat
  | .slice (some a) _ _ => a.block
  | _ => 0
def vo : Value → Nat
  | .slice (some a) _ _ => a.off
  | _ => 0
def gt {α : Type} [Inhabited α] (xs : List α) (i : Nat) : α := xs.getD i default
theorem gt_eq {α : Type} [Inhabited α] {xs : List α} {i : Nat} (h : i < xs.length) : gt xs i = xs[i] := by simp [gt, List.getD, h]
theorem get_gt {α : Type} [Inhabited α] {xs : List α} {i : Nat} (h : i < xs.length) : xs[i]? = some (gt xs i) := by rw [gt_eq h]; exact List.getElem?_eq_getElem h

/-- A slice value that reads as a list. -/
class Sl (h : PHeap) (v : Value) {α : outParam Type} (E : outParam (Flat α)) (xs : outParam (List α)) : Prop where
  small : xs.length ≤ 281474976710656
  reads : (v = .slice none 0 0 ∧ xs = []) ∨ ∃ cap, v = .slice (some ⟨vb v, vo v, none⟩) xs.length cap ∧ xs.length ≤ cap ∧ ∀ i x, xs[i]? = some x → Cells h ⟨vb v, vo v + i * E.sz, none⟩ (E.f x)

theorem cell_le {h h' : PHeap} (l : h ≤ h') {a : Addr} {v : Value} (e : h.cell a = some v) : h'.cell a = some v := by
  obtain ⟨o, ho⟩ := cell_obj e
  unfold PHeap.cell at e ⊢
  rw [(l _ _ ho).1, ← ho]; exact e
theorem Cells.le {h h' : PHeap} (l : h ≤ h') {a : Addr} {cs : List Value} (c : Cells h a cs) : Cells h' a cs := fun j v e => cell_le l (c j v e)
theorem Sl.le {h h' : PHeap} (l : h ≤ h') {v : Value} {α : Type} {E : Flat α} {xs : List α} (s : Sl h v E xs) : Sl h' v E xs :=
  ⟨s.small, s.reads.imp id fun ⟨cap, a, b, c⟩ => ⟨cap, a, b, fun i x e => (c i x e).le l⟩⟩
instance Sl.up {h h' : PHeap} {v : Value} {α : Type} {E : Flat α} {xs : List α} [l : Le h h'] [s : Sl h v E xs] : Sl h' v E xs := s.le l.le
theorem Sl.nil (h : PHeap) {α : Type} (E : Flat α) : Sl h (.slice none 0 0) E [] := ⟨by simp, .inl ⟨rfl, rfl⟩⟩
theorem Sl.val {h : PHeap} {v : Value} {α : Type} {E : Flat α} {xs : List α} (s : Sl h v E xs) : ∃ base cap, v = .slice base xs.length cap := by
  rcases s.reads with ⟨a, b⟩ | ⟨cap, a, _⟩
  · exact ⟨_, _, by rw [b]; exact a⟩
  · exact ⟨_, _, a⟩
theorem Sl.at {h : PHeap} {v : Value} {α : Type} [Inhabited α] {E : Flat α} {xs : List α} (s : Sl h v E xs) {i : Nat} (hi : i < xs.length) :
    (∃ cap, v = .slice (some ⟨vb v, vo v, none⟩) xs.length cap) ∧ Cells h ⟨vb v, vo v + i * E.sz, none⟩ (E.f (gt xs i)) := by
  rcases s.reads with ⟨a, b⟩ | ⟨cap, a, _, c⟩
  · rw [b] at hi; cases hi
  · exact ⟨⟨cap, a⟩, c i _ (get_gt hi)⟩
theorem Cells.part {h : PHeap} {b off f k : Nat} {cs ds : List Value} (c : Cells h ⟨b, off, none⟩ cs) (e : takeCells cs.toArray f k = some ds) : ds.length = k ∧ Cells h ⟨b, off + f, none⟩ ds := by
  unfold takeCells at e
  cases hle : Nat.ble (f + k) cs.toArray.size with
  | false => rw [hle] at e; cases e
  | true =>
    rw [hle] at e
    have hle' := Nat.le_of_ble_eq_true hle
    simp only [List.size_toArray] at hle'
    obtain rfl := Option.some.inj e
    refine ⟨by simp; omega, fun j v ev => ?_⟩
    have hj : j < k := by
      rcases Nat.lt_or_ge j k with h | h
      · exact h
      · rw [List.getElem?_eq_none (by simp; omega)] at ev; cases ev
    rw [List.getElem?_take_of_lt hj, List.getElem?_drop] at ev
    have := c (f + j) v (by simpa using ev)
    rw [add_none] at this ⊢
    rwa [Nat.add_assoc]

/-! ### finding a block of one's own -/
class OwnAt (O : Own) (b : Nat) (o : outParam Obj) : Prop where
  mem : (b, o) ∈ O
instance OwnAt.head {O : Own} {b : Nat} {o : Obj} : OwnAt ((b, o) :: O) b o := ⟨by simp⟩
instance OwnAt.tail {O : Own} {x : Nat × Obj} {b : Nat} {o : Obj} [m : OwnAt O b o] : OwnAt (x :: O) b o := ⟨by simp [m.mem]⟩
instance OwnAt.right {O A : Own} {b : Nat} {o : Obj} [m : OwnAt O b o] : OwnAt (A ++ O) b o := ⟨by simp [m.mem]⟩
instance OwnAt.left {O A : Own} {b : Nat} {o : Obj} [m : OwnAt A b o] : OwnAt (A ++ O) b o := ⟨by simp [m.mem]⟩
class OwnSet (O : Own) (b : Nat) (o' : Obj) (O' : outParam Own) : Prop where
  at' : ∃ pre o post, O = pre ++ (b, o) :: post ∧ O' = pre ++ (b, o') :: post
instance OwnSet.head {O : Own} {b : Nat} {o o' : Obj} : OwnSet ((b, o) :: O) b o' ((b, o') :: O) := ⟨[], o, O, rfl, rfl⟩
instance OwnSet.tail {O O' : Own} {x : Nat × Obj} {b : Nat} {o' : Obj} [m : OwnSet O b o' O'] : OwnSet (x :: O) b o' (x :: O') :=
  let ⟨pre, o, post, h1, h2⟩ := m.at'; ⟨x :: pre, o, post, by simp [h1], by simp [h2]⟩
instance OwnSet.right {O O' A : Own} {b : Nat} {o' : Obj} [m : OwnSet O b o' O'] : OwnSet (A ++ O) b o' (A ++ O') :=
  let ⟨pre, o, post, h1, h2⟩ := m.at'; ⟨A ++ pre, o, post, by simp [h1], by simp [h2]⟩
instance OwnSet.left {O O' A : Own} {b : Nat} {o' : Obj} [m : OwnSet O b o' O'] : OwnSet (O ++ A) b o' (O' ++ A) :=
  let ⟨pre, o, post, h1, h2⟩ := m.at'; ⟨pre, o, post ++ A, by simp [h1], by simp [h2]⟩
class Take (O : Own) (b : Nat) (o : outParam Obj) (R : outParam Own) : Prop where
  p : O.Perm ((b, o) :: R)
instance Take.head {O : Own} {b : Nat} {o : Obj} : Take ((b, o) :: O) b o O := ⟨.refl _⟩
instance Take.tail {O R : Own} {x : Nat × Obj} {b : Nat} {o : Obj} [m : Take O b o R] : Take (x :: O) b o (x :: R) := ⟨(m.p.cons x).trans (.swap _ _ _)⟩
instance Take.right {O A R : Own} {b : Nat} {o : Obj} [m : Take O b o R] : Take (A ++ O) b o (A ++ R) := ⟨(m.p.append_left A).trans List.perm_middle⟩
instance Take.left {O A R : Own} {b : Nat} {o : Obj} [m : Take O b o R] : Take (O ++ A) b o (R ++ A) := ⟨m.p.append_right A⟩

section
variable {P : Program} {M : Jdg → Prop} [hM : IsCl P M] {n : Nat} {Q : Qo} {L L' : Locals} {O O' R : Own} {h : PHeap} {ops : Array Oper} {rest : List Oper} {o : Oper}
  {d : Option Nat} {ty : TypeId} {pos : String} {af : Array Edge}

/-- The operation yields 'v' and leaves all as it was. -/
def Opq (P : Program) (n : Nat) (o : Oper) (L : Locals) (O : Own) (h : PHeap) (v : Value) : Prop := opo P n o L O h (fun r O' h' => r = .value v ∧ O' = O ∧ h' = h) (fun _ _ _ => False)
omit hM in
theorem opo_mono {K K' : Next → Own → PHeap → Prop} {E E' : Value → Own → PHeap → Prop} (x : opo P n o L O h K E) (hk : ∀ r O h', Le h h' → K r O h' → K' r O h') (he : ∀ r O h', Le h h' → E r O h' → E' r O h') : opo P n o L O h K' E' :=
  fun F H r a ha => slp_mono (fun _ _ y => lift.mono y (hk _)) (fun _ _ y => lift.mono y (he _)) (x F H r a ha)
theorem so_q {op : Op} {v : Value} (x : Opq P n ⟨d, op, ty, pos, af, none⟩ L O h v) (k : soOps P M n ops Q rest (setL d v L) O h) (hd : dstOk n d = true := by rfl) : soOps P M n ops Q (⟨d, op, ty, pos, af, none⟩ :: rest) L O h :=
  so_plain rfl hd (opo_mono x (fun r O h' _ y => by obtain ⟨rfl, rfl, rfl⟩ := y; exact k) (fun _ _ _ _ y => y.elim))
/-- An operation behind '&&' or '||' that is carried out. -/
theorem so_gT {op : Op} {j dj : Nat} {want b : Bool} (hj : (ops[j]?).bind (·.dst) = some dj) (hb : L.get dj = some (.bool b)) (hbw : b = want) {v : Value} (x : Opq P n ⟨d, op, ty, pos, af, some (j, want)⟩ L O h v) (k : soOps P M n ops Q rest (setL d v L) O h) (hd : dstOk n d = true := by rfl) : soOps P M n ops Q (⟨d, op, ty, pos, af, some (j, want)⟩ :: rest) L O h :=
  so_guard rfl hd hj hb (fun _ => opo_mono x (fun r O h' _ y => by obtain ⟨rfl, rfl, rfl⟩ := y; exact k) (fun _ _ _ _ y => y.elim)) (fun e => by rw [hbw] at e; cases want <;> cases e)
/-- .. that is not. -/
theorem so_gF {op : Op} {j dj : Nat} {want b : Bool} (hj : (ops[j]?).bind (·.dst) = some dj) (hb : L.get dj = some (.bool b)) (hbw : b = !want) (k : soOps P M n ops Q rest (setL d undef L) O h) (hd : dstOk n d = true := by rfl) : soOps P M n ops Q (⟨d, op, ty, pos, af, some (j, want)⟩ :: rest) L O h :=
  so_guard rfl hd hj hb (fun e => by rw [hbw] at e; cases want <;> cases e) (fun _ => k)
omit hM in
/-- Which of the two it is, is asked ahead. -/
theorem so_split {op : Op} {j dj : Nat} {want b : Bool} (hj : (ops[j]?).bind (·.dst) = some dj) (hb : L.get dj = some (.bool b)) (kT : b = want → soOps P M n ops Q (⟨d, op, ty, pos, af, some (j, want)⟩ :: rest) L O h) (kF : b = !want → soOps P M n ops Q (⟨d, op, ty, pos, af, some (j, want)⟩ :: rest) L O h) :
    soOps P M n ops Q (⟨d, op, ty, pos, af, some (j, want)⟩ :: rest) L O h := by
  by_cases e : b = want
  · exact kT e
  · exact kF (by cases b <;> cases want <;> simp_all)
theorem so_gTc {op : Op} {j dj : Nat} {want b : Bool} (hj : (ops[j]?).bind (·.dst) = some dj) (hb : L.get dj = some (.bool b)) (hbw : b = want) (x : opo P n ⟨d, op, ty, pos, af, some (j, want)⟩ L O h (nextO P M n ops Q rest L d) (fun v O h' => Q (.pan [{ v, recovered := false }]) L O h')) (hd : dstOk n d = true := by rfl) : soOps P M n ops Q (⟨d, op, ty, pos, af, some (j, want)⟩ :: rest) L O h :=
  so_guard rfl hd hj hb (fun _ => x) (fun e => by rw [hbw] at e; cases want <;> cases e)

/-! ### giving up blocks -/
omit hM in
theorem so_perm (hp : O'.Perm O) (x : soOps P M n ops Q rest L O' h) : soOps P M n ops Q rest L O h := fun F H r => x F H (r.perm hp)
omit hM in
theorem so_drop (hp : O'.Sublist O) (x : soOps P M n ops Q rest L O' h) : soOps P M n ops Q rest L O h := fun F H r => x F H (r.drop hp)
omit hM in
theorem code_drop {c : Code} (hp : O'.Sublist O) (x : c.so P M n Q L O' h) : c.so P M n Q L O h := fun F H r => x F H (r.drop hp)
omit hM in
/-- A block of one's own becomes a part of the base. -/
theorem so_pub (b : Nat) {o : Obj} [t : Take O b o R] (x : ∀ h', Le h h' → h' = h.put b o → soOps P M n ops Q rest L R h') : soOps P M n ops Q rest L O h := fun F H r l e => by
  obtain ⟨r2, u⟩ := (r.perm t.p.symm).pub
  exact ops_mono (x _ ⟨u.le, u.gh⟩ rfl F H r2 l e) fun e L H y => liftQ_up u y
omit hM in
theorem code_pub (b : Nat) {c : Code} {o : Obj} [t : Take O b o R] (x : ∀ h', Le h h' → h' = h.put b o → c.so P M n Q L R h') : c.so P M n Q L O h := fun F H r => by
  obtain ⟨r2, u⟩ := (r.perm t.p.symm).pub
  exact sl_mono (x _ ⟨u.le, u.gh⟩ rfl F H r2) fun e L H y => liftQ_up u y

/-! ### operations that turn nothing -/
variable {g : Option (Nat × Bool)}
omit hM in
theorem q_of {v : Value} (hp : ∀ H K E, K (.value v) H → opv P n o L H K E) : Opq P n o L O h v := fun F H r => hp H _ _ (lift.here r ⟨rfl, rfl, rfl⟩)
omit hM in
theorem q_move {x : Operand} {v : Value} (hx : ev L x = some v) : Opq P n ⟨d, .move x, ty, pos, af, g⟩ L O h v := q_of fun _ _ _ => o_move hx
omit hM in
theorem q_assign {x : Operand} {v : Value} (hx : ev L x = some v) : Opq P n ⟨d, .assign x, ty, pos, af, g⟩ L O h v := q_of fun _ _ _ => o_assign hx
def pickV : Value → Value → Value → Option Value
  | .bool b, x, y => some (bif b then x else y)
  | _, _, _ => none
omit hM in
theorem q_pick {c x y : Operand} {b : Bool} {v u : Value} (hc : ev L c = some (.bool b)) (hx : ev L x = some v) (hy : ev L y = some u) : Opq P n ⟨d, .pick c x y, ty, pos, af, g⟩ L O h (bif b then v else u) := by
  cases b with
  | true => exact q_of fun _ _ _ => o_pickT hc hx
  | false => exact q_of fun _ _ _ => o_pickF hc hy
omit hM in
theorem q_pickT {c x y : Operand} {b : Bool} {v : Value} (hc : ev L c = some (.bool b)) (hb : b = true) (hx : ev L x = some v) : Opq P n ⟨d, .pick c x y, ty, pos, af, g⟩ L O h v := by
  subst hb; exact q_of fun _ _ _ => o_pickT hc hx
omit hM in
theorem q_pickF {c x y : Operand} {b : Bool} {v : Value} (hc : ev L c = some (.bool b)) (hb : b = false) (hx : ev L y = some v) : Opq P n ⟨d, .pick c x y, ty, pos, af, g⟩ L O h v := by
  subst hb; exact q_of fun _ _ _ => o_pickF hc hx
omit hM in
theorem q_nilCheck {x : Operand} {a : Addr} (hx : ev L x = some (.pointer (some a))) : Opq P n ⟨d, .nilCheck x, ty, pos, af, g⟩ L O h (.pointer (some a)) :=
  q_of fun _ _ _ k a ha => by simp only [execOp, ha.ev hx]; exact k
variable {t : TypeId} {D : TypeDesc} {size bytes : Nat} {zero : Value}
omit hM in
theorem q_fieldAddr {pl : List FldI} (Fl : Flds P t pl) {x : Operand} {f b off : Nat} {fi : FldI} (hx : ev L x = some (.pointer (some ⟨b, off, none⟩))) (hf : pl[f]? = some fi) (hs : Nat.blt 0 fi.size = true) :
    Opq P n ⟨d, .fieldAddr t x f, ty, pos, af, g⟩ L O h (.pointer (some ⟨b, off + fi.off, none⟩)) := q_of fun _ _ _ => o_fieldAddr hx hf hs
omit hM in
theorem q_field {pl : List FldI} (Fl : Flds P t pl) {x : Operand} {f : Nat} {fi : FldI} {cs : Array Value} {v : Value} (hx : ev L x = some (.agg cs)) (hf : pl[f]? = some fi) (hv : partOfV fi.agg cs fi.off fi.size = some v) :
    Opq P n ⟨d, .field t x f, ty, pos, af, g⟩ L O h v := q_of fun _ _ _ => o_field hx hf hv
omit hM in
theorem q_extract {x : Operand} {i : Nat} {vs : Array Value} {v : Value} (hx : ev L x = some (.tuple vs)) (hv : vs[i]? = some v) : Opq P n ⟨d, .extract x i, ty, pos, af, g⟩ L O h v := q_of fun _ _ _ => o_extract hx hv
omit hM in
theorem q_not {x : Operand} {b : Bool} (hx : ev L x = some (.bool b)) : Opq P n ⟨d, .unOp .not t x, ty, pos, af, g⟩ L O h (.bool !b) := q_of fun _ _ _ => o_not hx
omit hM in
theorem q_neg {x : Operand} {kd : IntKind} {z : Int} (hx : ev L x = some (.int kd z)) : Opq P n ⟨d, .unOp .neg t x, ty, pos, af, g⟩ L O h (.int kd (kd.wrap (0 - z))) := q_of fun _ _ _ => o_neg hx
def notIface (D : TypeDesc) : Bool := match D with | .interface _ => false | _ => true
omit hM in
theorem q_makeInterface (T : Ty P t D size bytes zero) {x : Operand} {v : Value} (hx : ev L x = some v) (hD : notIface D = true) : Opq P n ⟨d, .makeInterface t x, ty, pos, af, g⟩ L O h (.iface t v) := q_of fun _ _ _ => o_makeInterface hx hD
omit hM in
theorem q_makeFunc {fn : Fn} {first captured : Array Operand} {vs us : List Value} (h1 : evAll L first.toList = some vs) (h2 : evAll L captured.toList = some us) : Opq P n ⟨d, .makeFunc fn first captured, ty, pos, af, g⟩ L O h (.func fn vs.toArray us.toArray) := q_of fun _ _ _ => o_makeFunc h1 h2
variable {size' bytes' : Nat} {zero' : Value} {D' : TypeDesc}
omit hM in
theorem q_convert (S : Ty P t D size bytes zero) {t' : TypeId} {kd : IntKind} (T : Ty P t' (.int kd) size' bytes' zero') {x : Operand} {k' : IntKind} {z : Int} (hx : ev L x = some (.int k' z)) : Opq P n ⟨d, .convert t t' x, ty, pos, af, g⟩ L O h (.int kd (kd.wrap z)) := q_of fun _ _ _ => o_convert hx
omit hM in
theorem q_index {e : TypeId} {len : Nat} (S : Ty P t (.array len e) size' bytes' zero') (T : Ty P e D size bytes zero) {x i : Operand} {cs : Array Value} {kd : IntKind} {z : Int} {v : Value} (hx : ev L x = some (.agg cs)) (hi : ev L i = some (.int kd z))
    (h0 : 0 ≤ z) (h1 : z < len) (hv : partOfV (aggD D) cs (z.toNat * size) size = some v) : Opq P n ⟨d, .index t x i, ty, pos, af, g⟩ L O h v := q_of fun _ _ _ => o_indexA hx hi h0 h1 hv

/-- Whole numbers. -/
def numV (op : BinOp) (k : IntKind) (a b : Int) : Option Value :=
  match op with
  | .add => some (.int k (k.wrap (a + b)))
  | .sub => some (.int k (k.wrap (a - b)))
  | .mul => some (.int k (k.wrap (a * b)))
  | .eql => some (.bool (decide (a = b)))
  | .neq => some (.bool (decide (a ≠ b)))
  | .lss => some (.bool (decide (a < b)))
  | .leq => some (.bool (decide (a ≤ b)))
  | .gtr => some (.bool (decide (a > b)))
  | .geq => some (.bool (decide (a ≥ b)))
  | _ => none
variable {x y : Operand} {kd : IntKind} {a b : Int} {t' : TypeId}
omit hM in
theorem q_num {op : BinOp} {v : Value} (hx : ev L x = some (.int kd a)) (hy : ev L y = some (.int kd b)) (hv : numV op kd a b = some v) : Opq P n ⟨d, .binOp op t x y t', ty, pos, af, g⟩ L O h v :=
  q_of fun _ _ _ kk => by
    cases op <;> simp only [numV, Option.some.injEq, reduceCtorEq] at hv <;> subst hv <;>
      first | exact o_add hx hy kk | exact o_sub hx hy kk | exact o_mul hx hy kk | exact o_eql hx hy kk | exact o_neq hx hy kk | exact o_lss hx hy kk | exact o_leq hx hy kk | exact o_gtr hx hy kk | exact o_geq hx hy kk
omit hM in
theorem q_quo (hx : ev L x = some (.int kd a)) (hy : ev L y = some (.int kd b)) (h0 : b ≠ 0) : Opq P n ⟨d, .binOp .quo t x y t', ty, pos, af, g⟩ L O h (.int kd (kd.wrap (a.tdiv b))) := q_of fun _ _ _ => o_quo hx hy h0
omit hM in
theorem q_rem (hx : ev L x = some (.int kd a)) (hy : ev L y = some (.int kd b)) (h0 : b ≠ 0) : Opq P n ⟨d, .binOp .rem t x y t', ty, pos, af, g⟩ L O h (.int kd (a.tmod b)) := q_of fun _ _ _ => o_rem hx hy h0

/-! ### the length of a slice; the place of an element -/
omit hM in
theorem q_len {e : TypeId} {ats : Array TypeId} {args : Array Operand} {v : Value} {α : Type} {E : Flat α} {xs : List α} (hv : evAll L args.toList = some [v]) (ht : ats[0]? = some t) (S : Ty P t (.slice e) size bytes zero) (s : Sl h v E xs) :
    Opq P n ⟨d, .call { callee := .builtin .len, args, argTypes := ats }, ty, pos, af, g⟩ L O h (.int .i64 xs.length) := by
  obtain ⟨base, cap, rfl⟩ := s.val
  exact q_of fun _ _ _ => o_len hv ht
omit hM in
/-- .. of a slice that is written out. -/
theorem q_lenV {e : TypeId} {ats : Array TypeId} {args : Array Operand} {base : Option Addr} {len cap : Nat} (hv : evAll L args.toList = some [.slice base len cap]) (ht : ats[0]? = some t) (S : Ty P t (.slice e) size bytes zero) :
    Opq P n ⟨d, .call { callee := .builtin .len, args, argTypes := ats }, ty, pos, af, g⟩ L O h (.int .i64 len) := q_of fun _ _ _ => o_len hv ht
omit hM in
theorem q_indexS {e : TypeId} (S : Ty P t (.slice e) size' bytes' zero') (T : Ty P e D size bytes zero) {x i : Operand} {v : Value} {α : Type} {E : Flat α} {xs : List α} {kd : IntKind} {z : Int} (hx : ev L x = some v) (hi : ev L i = some (.int kd z)) (s : Sl h v E xs)
    (h0 : 0 ≤ z) (h1 : z.toNat < xs.length) : Opq P n ⟨d, .indexAddr t x i, ty, pos, af, g⟩ L O h (.pointer (some ⟨vb v, vo v + z.toNat * size, none⟩)) := by
  have hv : ∃ cap, v = .slice (some ⟨vb v, vo v, none⟩) xs.length cap := by
    rcases s.reads with ⟨a, b⟩ | ⟨cap, a, _⟩
    · rw [b] at h1; cases h1
    · exact ⟨cap, a⟩
  obtain ⟨cap, hv⟩ := hv
  exact q_of fun _ _ _ => o_indexAddr (by rw [hx, ← hv]) hi h0 (by omega)
omit hM in
/-- .. of a slice that is written out. -/
theorem q_indexV {e : TypeId} (S : Ty P t (.slice e) size' bytes' zero') (T : Ty P e D size bytes zero) {x i : Operand} {b off len cap : Nat} {kd : IntKind} {z : Int} (hx : ev L x = some (.slice (some ⟨b, off, none⟩) len cap)) (hi : ev L i = some (.int kd z))
    (h0 : 0 ≤ z) (h1 : z < len) : Opq P n ⟨d, .indexAddr t x i, ty, pos, af, g⟩ L O h (.pointer (some ⟨b, off + z.toNat * size, none⟩)) := q_of fun _ _ _ => o_indexAddr hx hi h0 h1
omit hM in
/-- .. of an array in memory. -/
theorem q_indexP {e : TypeId} {len : Nat} (S : Ty P t (.array len e) size' bytes' zero') (T : Ty P e D size bytes zero) {x i : Operand} {b off : Nat} {kd : IntKind} {z : Int} (hx : ev L x = some (.pointer (some ⟨b, off, none⟩))) (hi : ev L i = some (.int kd z))
    (h0 : 0 ≤ z) (h1 : z < len) : Opq P n ⟨d, .indexAddr t x i, ty, pos, af, g⟩ L O h (.pointer (some ⟨b, off + z.toNat * size, none⟩)) := q_of fun _ _ _ => o_indexAddrA hx hi h0 h1

/-! ### reading memory -/
omit hM in
/-- A load out of a block of one's own. -/
theorem q_loadO (T : Ty P t D size bytes zero) {b off : Nat} {c : Array Value} {T' : TypeId} {fr : Nat × Nat} {cs : List Value} (hx : ev L x = some (.pointer (some ⟨b, off, none⟩))) (m : OwnAt O b (.cells c T' fr))
    (hcs : takeCells c off size = some cs) (h1 : loadOk D size = true) : Opq P n ⟨d, .load t x, ty, pos, af, g⟩ L O h (ofCells D cs) :=
  fun F H r => o_loadB hx (r.own _ _ m.mem).1 hcs h1 (lift.here r ⟨rfl, rfl, rfl⟩)
omit hM in
/-- A load of an element of a slice of the base. -/
theorem q_loadS (T : Ty P t D size bytes zero) {v : Value} {j : Nat} {α : Type} [Inhabited α] {E : Flat α} {xs : List α} (hx : ev L x = some (.pointer (some ⟨vb v, vo v + j * size, none⟩))) (s : Sl h v E xs) (hj : j < xs.length)
    (hz : E.sz = size) (h1 : loadOk D size = true) : Opq P n ⟨d, .load t x, ty, pos, af, g⟩ L O h (ofCells D (E.f (gt xs j))) :=
  fun F H r => by
    have c := (s.at hj).2
    rw [hz] at c
    exact o_load hx ((E.len _).trans hz) h1 (c.le r.base) (lift.here r ⟨rfl, rfl, rfl⟩)
omit hM in
/-- .. of a field of an element. -/
theorem q_loadF (T : Ty P t D size bytes zero) {v : Value} {j sz f : Nat} {α : Type} [Inhabited α] {E : Flat α} {xs : List α} {cs : List Value} (hx : ev L x = some (.pointer (some ⟨vb v, vo v + j * sz + f, none⟩))) (s : Sl h v E xs) (hj : j < xs.length)
    (hz : E.sz = sz) (hcs : takeCells (E.f (gt xs j)).toArray f size = some cs) (h1 : loadOk D size = true) : Opq P n ⟨d, .load t x, ty, pos, af, g⟩ L O h (ofCells D cs) :=
  fun F H r => by
    have c := (s.at hj).2
    rw [hz] at c
    obtain ⟨h2, h3⟩ := c.part hcs
    exact o_load hx h2 h1 (h3.le r.base) (lift.here r ⟨rfl, rfl, rfl⟩)

/-! ### operations that turn what is one's own -/
omit hM in
theorem c_alloc (T : Ty P t D size bytes zero) {K : Next → Own → PHeap → Prop} {E : Value → Own → PHeap → Prop} (k : ∀ b, K (.value (.pointer (some ⟨b, 0, none⟩))) ((b, .cells zero.cells t) :: O) h) : opo P n ⟨d, .alloc t, ty, pos, af, g⟩ L O h K E :=
  fun F H r => o_alloc fun b hb => lift.here (r.alloc hb _) (k b)
omit hM in
theorem c_box {v : Value} {K : Next → Own → PHeap → Prop} {E : Value → Own → PHeap → Prop} (hx : ev L x = some v) (k : ∀ b, K (.value (.pointer (some ⟨b, 0, none⟩))) ((b, .cells v.cells t) :: O) h) : opo P n ⟨d, .box t x, ty, pos, af, g⟩ L O h K E :=
  fun F H r => o_box hx fun b hb => lift.here (r.alloc hb _) (k b)
omit hM in
/-- A store into a block of one's own. -/
theorem c_store (T : Ty P t D size bytes zero) {K : Next → Own → PHeap → Prop} {E : Value → Own → PHeap → Prop} {v : Value} {b off : Nat} {c : Array Value} {T' : TypeId} (hx : ev L x = some (.pointer (some ⟨b, off, none⟩))) (hy : ev L y = some v) (m : OwnAt O b (.cells c T' (0, 0)))
    (hs : v.cells.size = size) (hle : Nat.ble (off + v.cells.toList.length) c.size = true) (ho : allOne v.cells.toList = true) (w : OwnSet O b (.cells (setCells c off v.cells.toList) T' (0, 0)) O') (k : K .skip O' h) :
    opo P n ⟨d, .store t x y, ty, pos, af, g⟩ L O h K E :=
  fun F H r => by
    obtain ⟨h1, h2, _⟩ := r.own _ _ m.mem
    refine o_store hx hy h1 h2 hs (Nat.le_of_ble_eq_true hle) ho ?_
    obtain ⟨pre, o, post, rfl, rfl⟩ := w.at'
    exact lift.here (r.set _) k
theorem op_alloc (T : Ty P t D size bytes zero) (k : ∀ b, soOps P M n ops Q rest (setL d (.pointer (some ⟨b, 0, none⟩)) L) ((b, .cells zero.cells t) :: O) h) (hd : dstOk n d = true := by rfl) : soOps P M n ops Q (⟨d, .alloc t, ty, pos, af, none⟩ :: rest) L O h :=
  so_plain rfl hd (c_alloc T k)
theorem op_box {v : Value} (hx : ev L x = some v) (k : ∀ b, soOps P M n ops Q rest (setL d (.pointer (some ⟨b, 0, none⟩)) L) ((b, .cells v.cells t) :: O) h) (hd : dstOk n d = true := by rfl) : soOps P M n ops Q (⟨d, .box t x, ty, pos, af, none⟩ :: rest) L O h :=
  so_plain rfl hd (c_box hx k)
theorem op_store (T : Ty P t D size bytes zero) {v : Value} {b off : Nat} {c : Array Value} {T' : TypeId} (hx : ev L x = some (.pointer (some ⟨b, off, none⟩))) (hy : ev L y = some v) (m : OwnAt O b (.cells c T' (0, 0)))
    (hs : v.cells.size = size) (hle : Nat.ble (off + v.cells.toList.length) c.size = true) (ho : allOne v.cells.toList = true) (w : OwnSet O b (.cells (setCells c off v.cells.toList) T' (0, 0)) O') (k : soOps P M n ops Q rest (setL d undef L) O' h) (hd : dstOk n d = true := by rfl) :
    soOps P M n ops Q (⟨d, .store t x y, ty, pos, af, none⟩ :: rest) L O h := so_plain rfl hd (c_store T hx hy m hs hle ho w k)

/-! ### calls -/
omit hM in
theorem c_call {f : FuncId} (Fu : Fun P f) {args : Array Operand} {ats : Array TypeId} {vs : List Value} {K : Next → Own → PHeap → Prop} {E : Value → Own → PHeap → Prop} (hv : evAll L args.toList = some vs) (k : K (.enter f vs.toArray) O h) :
    opo P n ⟨d, .call { callee := .value (.func f), args, argTypes := ats }, ty, pos, af, g⟩ L O h K E := fun F H r => o_call hv (lift.here r k)
theorem op_call {f : FuncId} (Fu : Fun P f) {args : Array Operand} {ats : Array TypeId} {vs : List Value} {RR : Value → Own → PHeap → Prop} {A : Own} (C : CallO P M f vs A h RR) (hp : O.Perm (A ++ R)) (hv : evAll L args.toList = some vs)
    (k : ∀ v A' h', Le h h' → RR v A' h' → soOps P M n ops Q rest (setL d v L) (A' ++ R) h') (hd : dstOk n d = true := by rfl) : soOps P M n ops Q (⟨d, .call { callee := .value (.func f), args, argTypes := ats }, ty, pos, af, none⟩ :: rest) L O h :=
  so_plain rfl hd (c_call Fu hv ⟨A, R, hp, by simpa using CallsP.mono C (fun v O h' l x => k v O h' l x) (fun _ _ _ _ x => x.elim)⟩)
/-- A callee that is handed nothing of one's own and leaves nothing. -/
def CallsR (P : Program) (M : Jdg → Prop) (f : FuncId) (args : List Value) (h : PHeap) (R : Value → PHeap → Prop) : Prop := CallO P M f args [] h fun v A h' => A = [] ∧ R v h'
theorem op_callG {j dj : Nat} {want b : Bool} {f : FuncId} (Fu : Fun P f) {args : Array Operand} {ats : Array TypeId} {vs : List Value} {RR : Value → PHeap → Prop} (hj : (ops[j]?).bind (·.dst) = some dj) (hb : L.get dj = some (.bool b)) (hbw : b = want) (hv : evAll L args.toList = some vs) (C : CallsR P M f vs h RR)
    (k : ∀ v h', Le h h' → RR v h' → soOps P M n ops Q rest (setL d v L) O h') (hd : dstOk n d = true := by rfl) : soOps P M n ops Q (⟨d, .call { callee := .value (.func f), args, argTypes := ats }, ty, pos, af, some (j, want)⟩ :: rest) L O h :=
  so_gTc hj hb hbw (c_call Fu hv ⟨[], O, .refl _, by simpa using CallsP.mono C (fun v O' h' l x => by obtain ⟨rfl, x⟩ := x; exact k v h' l x) (fun _ _ _ _ x => x.elim)⟩) hd
theorem op_callR {f : FuncId} (Fu : Fun P f) {args : Array Operand} {ats : Array TypeId} {vs : List Value} {RR : Value → PHeap → Prop} (hv : evAll L args.toList = some vs) (C : CallsR P M f vs h RR)
    (k : ∀ v h', Le h h' → RR v h' → soOps P M n ops Q rest (setL d v L) O h') (hd : dstOk n d = true := by rfl) : soOps P M n ops Q (⟨d, .call { callee := .value (.func f), args, argTypes := ats }, ty, pos, af, none⟩ :: rest) L O h :=
  op_call Fu C (.refl _) hv (fun v A' h' l x => by obtain ⟨rfl, x⟩ := x; exact k v h' l x) hd

/-! ### handing back -/
/-- What 'results' yields. -/
def ResV (P : Program) (fn : Func) (n : Nat) (L : Locals) (O : Own) (v : Value) : Prop := ∀ F h H tm, Rel F h O H → Agree n L tm → ∀ K E, K v H → (results fn tm).slp P K E H
omit hM in
theorem ret_at {fn : Func} {RR : Value → Own → PHeap → Prop} {E : List PanicEntry → Own → PHeap → Prop} {v : Value} (hr : ResV P fn n L O v) (hs : O'.Sublist O) (x : RR v O' h) : retO P fn n RR E .ret L O h :=
  fun F H r tm ha => hr F h H tm r ha _ _ (lift.here (r.drop hs) x)
omit hM in
theorem nrm_at {fn : Func} {RR : Value → Own → PHeap → Prop} {E : List PanicEntry → Own → PHeap → Prop} {v : Value} (hr : ResV P fn n L O v) (hs : O'.Sublist O) (x : RR v O' h) : retO P fn n RR E .nrm L O h :=
  fun F H r tm ha => hr F h H tm r ha _ _ (lift.here (r.drop hs) x)
omit hM in
/-- .. with one's own blocks given up first. -/
theorem ret_pub {fn : Func} {RR : Value → Own → PHeap → Prop} {E : List PanicEntry → Own → PHeap → Prop} {v : Value} (hr : ResV P fn n L O v) (b : Nat) {o : Obj} [t : Take O b o R] (x : ∀ h', Le h h' → h' = h.put b o → RR v [] h') : retO P fn n RR E .ret L O h :=
  fun F H r tm ha => hr F h H tm r ha _ _ (by
    obtain ⟨r2, u⟩ := (r.perm t.p.symm).pub
    exact lift.up u (lift.here (r2.drop (List.nil_sublist _)) (x _ ⟨u.le, u.gh⟩ rfl)))
omit hM in
theorem slp_mapM_res (f : ResultVar → Sem Value) (K : Array Value → PHeap → Prop) (E : Value → PHeap → Prop) (H : PHeap) (rs : List ResultVar) (vs : List Value) (hl : rs.length = vs.length) (hf : ∀ (i : Nat) r v, rs[i]? = some r → vs[i]? = some v → ∀ K E, K v H → (f r).slp P K E H) (k : K vs.toArray H) : (rs.toArray.mapM f).slp P K E H := by
  simp only [List.mapM_toArray]
  rw [slp_map]
  have key : ∀ (rs : List ResultVar) (vs : List Value) (K : List Value → PHeap → Prop), rs.length = vs.length → (∀ (i : Nat) r v, rs[i]? = some r → vs[i]? = some v → ∀ K E, K v H → (f r).slp P K E H) → K vs H → (rs.mapM f).slp P K E H := by
    intro rs
    induction rs with
    | nil => intro vs K hl _ k; cases vs with
      | nil => simpa [slp_pure] using k
      | cons => cases hl
    | cons r rs ih =>
      intro vs K hl hf k
      cases vs with
      | nil => cases hl
      | cons v vs =>
        rw [List.mapM_cons, slp_bind]
        refine hf 0 r v rfl rfl _ _ ?_
        rw [slp_bind]
        exact ih vs _ (by simpa using hl) (fun i r v h1 h2 => hf (i + 1) r v (by simpa using h1) (by simpa using h2)) (by simpa [slp_pure] using k)
  exact key rs vs _ hl hf k
/-- The value of one result. -/
def Res1 (P : Program) (n : Nat) (L : Locals) (O : Own) (r : ResultVar) (v : Value) : Prop :=
  match r with
  | .tmp t => L.get t = some v
  | .cell a t => ∃ D size bytes zero b off c T' fr cs, Ty P t D size bytes zero ∧ L.get a = some (.pointer (some ⟨b, off, none⟩)) ∧ (b, Obj.cells c T' fr) ∈ O ∧ takeCells c off size = some cs ∧ loadOk D size = true ∧ v = ofCells D cs
def resOne (tm : Array Value) : ResultVar → Sem Value
  | .tmp t => pure (tm.getD t undef)
  | .cell a t => do loadVar t (← asAddr (tm.getD a undef))
theorem results_eq (fn : Func) (tm : Array Value) : results fn tm = (do let vs ← fn.results.mapM (resOne tm); pure (if h : vs.size = 1 then vs[0] else .tuple vs)) := by
  unfold results
  congr 2
omit hM in
theorem Res1.slp {r : ResultVar} {v : Value} (x : Res1 P n L O r v) {F H : PHeap} {tm : Array Value} (rl : Rel F h O H) (ha : Agree n L tm) (K : Value → PHeap → Prop) (E : Value → PHeap → Prop) (k : K v H) :
    (resOne tm r).slp P K E H := by
  cases r with
  | tmp t =>
    have := ha.at' _ _ x
    simpa [resOne, slp_pure, Array.getD_eq_getD_getElem?, this] using k
  | cell a t =>
    obtain ⟨D, size, bytes, zero, b, off, c, T', fr, cs, T, h1, h2, h3, h4, rfl⟩ := x
    have := ha.at' _ _ h1
    simp only [resOne, Array.getD_eq_getD_getElem?, this, Option.getD_some, asAddr, slp_bind, slp_pure]
    obtain ⟨h5, h6⟩ := cells_take (rl.own _ _ h2).1 h3
    exact slp_loadVar T h5 (fun e => by unfold loadOk at h4; rw [e] at h4; exact Nat.eq_of_beq_eq_true h4) h6 k
omit hM in
theorem resV_one {fn : Func} {r : ResultVar} {v : Value} (hf : fn.results = #[r]) (x : Res1 P n L O r v) : ResV P fn n L O v := fun F h H tm rl ha K E k => by
  simp only [results_eq, hf, slp_bind]
  refine slp_mapM_res _ _ _ _ [r] [v] rfl (fun i r' v' h1 h2 K E k => ?_) (by simpa [slp_pure] using k)
  cases i with
  | zero => cases h1; cases h2; exact x.slp rl ha K E k
  | succ i => cases h1
omit hM in
theorem resV_two {fn : Func} {r s : ResultVar} {v u : Value} (hf : fn.results = #[r, s]) (x : Res1 P n L O r v) (y : Res1 P n L O s u) : ResV P fn n L O (.tuple #[v, u]) := fun F h H tm rl ha K E k => by
  simp only [results_eq, hf, slp_bind]
  refine slp_mapM_res _ _ _ _ [r, s] [v, u] rfl (fun i r' v' h1 h2 K E k => ?_) (by simpa [slp_pure] using k)
  match i, h1, h2 with
  | 0, h1, h2 => cases h1; cases h2; exact x.slp rl ha K E k
  | 1, h1, h2 => cases h1; cases h2; exact y.slp rl ha K E k
omit hM in
theorem resV_none {fn : Func} (hf : fn.results = #[]) : ResV P fn n L O (.tuple #[]) := fun F h H tm rl ha K E k => by
  simp only [results_eq, hf, slp_bind]
  exact slp_mapM_res _ _ _ _ [] [] rfl (fun i r v h1 => by cases h1) (by simpa [slp_pure] using k)
omit hM in
theorem res_tmp {t : Nat} {v : Value} (e : L.get t = some v) : Res1 P n L O (.tmp t) v := e
omit hM in
theorem res_cell [T : Ty P t D size bytes zero] {a b off : Nat} {c : Array Value} {T' : TypeId} {fr : Nat × Nat} {cs : List Value} (h1 : L.get a = some (.pointer (some ⟨b, off, none⟩))) [m : OwnAt O b (.cells c T' fr)] (h2 : takeCells c off size = some cs) (h3 : loadOk D size = true) :
    Res1 P n L O (.cell a t) (ofCells D cs) := ⟨D, size, bytes, zero, b, off, c, T', fr, cs, T, h1, m.mem, h2, h3, rfl⟩
end
end Go.Sl

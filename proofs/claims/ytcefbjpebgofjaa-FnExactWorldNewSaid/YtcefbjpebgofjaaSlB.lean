/- Contracts told by closure: a judgement on a goroutine and what it knows of memory, closed under the goroutine's own steps; rules for the code of a function. No program. -/
import Derived.Test.YtcefbjpebgofjaaSlA
namespace Go.Sl
open Go Go.Conc PHeap

abbrev Jdg := PHeap → Goroutine → Prop

def StepTo (P : Program) (main : Bool) (J : Jdg) (h : PHeap) (g : Goroutine) (w : World) : Prop :=
  ∃ g' w' es h', stepG P main g w = .go g' w' es ∧ Sat w' h' ∧ Grow w w' h h' ∧ (∀ e ∈ es, EvOk h w.heap.size e ∧ EvLt w'.heap.size e) ∧ J h' g'

/-- Closed under own steps: whatever the world is like beside what is known. -/
def Closed (P : Program) (main : Bool) (J : Jdg) : Prop := ∀ h g, g.status = .running → (∀ w, Sat w h → StepTo P main J h g w) → J h g

class IsCl (P : Program) (M : Jdg → Prop) : Prop where
  cl : ∀ J, M J → ∃ main, Closed P main J

/-! ### what is known of the temporaries -/
abbrev Locals := List (Nat × Value)
def Locals.get : Locals → Nat → Option Value
  | [], _ => none
  | (d, v) :: L, i => bif Nat.beq d i then some v else Locals.get L i
/-- All that the first list tells the second tells. -/
def Locals.sub : Locals → Locals → Prop
  | [], _ => True
  | (d, v) :: K, L => L.get d = some v ∧ Locals.sub K L

structure Agree (n : Nat) (L : Locals) (tm : Array Value) : Prop where
  size : tm.size = n
  at' : ∀ i v, L.get i = some v → tm[i]? = some v

theorem Locals.sub_get {K L : Locals} (h : K.sub L) : ∀ {i v}, K.get i = some v → L.get i = some v := by
  induction K with
  | nil => intro i v e; cases e
  | cons x K ih =>
    obtain ⟨d, u⟩ := x
    intro i v e
    simp only [Locals.get] at e
    cases hd : Nat.beq d i with
    | true => rw [hd] at e; cases e; rw [← Nat.eq_of_beq_eq_true hd]; exact h.1
    | false => rw [hd] at e; exact ih h.2 e
theorem Locals.sub_nil (L : Locals) : Locals.sub [] L := trivial
theorem Agree.sub {n : Nat} {K L : Locals} {tm : Array Value} (a : Agree n L tm) (h : K.sub L) : Agree n K tm := ⟨a.size, fun _ _ e => a.at' _ _ (Locals.sub_get h e)⟩

def setL (d : Option Nat) (v : Value) (L : Locals) : Locals :=
  match d with
  | some d => (d, v) :: L
  | none => L

theorem Agree.put {n : Nat} {L : Locals} {a : Act} (x : Agree n L a.tmps) {d : Option Nat} (hd : ∀ i, d = some i → i < n) (v : Value) : Agree n (setL d v L) (a.put d v).tmps := by
  cases d with
  | none => exact x
  | some d =>
    refine ⟨by simp [Act.put, x.size], fun i u e => ?_⟩
    simp only [setL, Locals.get] at e
    have hlt : d < a.tmps.size := by rw [x.size]; exact hd d rfl
    cases hb : Nat.beq d i with
    | true =>
      rw [hb] at e; cases e
      obtain rfl := Nat.eq_of_beq_eq_true hb
      simp [Act.put, hlt]
    | false =>
      rw [hb] at e
      have hne : d ≠ i := Nat.ne_of_beq_eq_false hb
      simp [Act.put, Array.getElem?_setIfInBounds, hne, x.at' _ _ e]
theorem put_defers (a : Act) (d : Option Nat) (v : Value) : (a.put d v).defers = a.defers := by cases d <;> rfl

def ev (L : Locals) : Operand → Option Value
  | .tmp t => L.get t
  | .const v => some v
  | .global g => some (.pointer (some ⟨g, 0, none⟩))
  | .func f => some (.func (.func f) #[] #[])

theorem Agree.ev {n : Nat} {L : Locals} {a : Act} (x : Agree n L a.tmps) {o : Operand} {v : Value} (e : ev L o = some v) : a.eval o = v := by
  cases o with
  | tmp t => simp [Act.eval, x.at' _ _ e]
  | const u => exact Option.some.inj e
  | global g => exact Option.some.inj e
  | func f => exact Option.some.inj e

/-! ### the ways out of a piece of code -/
inductive Ex where
  | nrm
  | exit (id : Nat)
  | ret
  | pan (chain : List PanicEntry)

def arrive (J : Jdg) (b : Frame) (k : List Item) (cs : List Frame) (ds : List Deferred) : Ex → Array Value → PHeap → Prop
  | .nrm, tm, h => J h (G (b.at ⟨tm, ds⟩ k) cs)
  | .exit id, tm, h => ∃ k', exitTo id k = some k' ∧ J h (G (b.at ⟨tm, ds⟩ k') cs)
  | .ret, tm, h => ∀ todo, J h (G { b.at ⟨tm, ds⟩ todo with mode := .returning } cs)
  | .pan ch, tm, h => ∀ todo, J h (G { b.at ⟨tm, ds⟩ todo with mode := .panicking ch } cs)

abbrev Qt := Ex → Locals → PHeap → Prop

def Ends (J : Jdg) (n : Nat) (b : Frame) (k : List Item) (cs : List Frame) (ds : List Deferred) (Q : Qt) : Prop :=
  ∀ e L h tm, Q e L h → Agree n L tm → arrive J b k cs ds e tm h

/-- From here code 'c' comes to a way out that meets 'Q'. -/
def _root_.Go.Code.sl (P : Program) (M : Jdg → Prop) (n : Nat) (c : Code) (Q : Qt) (L : Locals) (h : PHeap) : Prop :=
  ∀ J, M J → ∀ (b : Frame) (k : List Item) (cs : List Frame) (ds : List Deferred) (tm : Array Value), b.kind ≠ .early → Agree n L tm → Ends J n b k cs ds Q →
    J h (G (b.at ⟨tm, ds⟩ (.code c :: k)) cs)
/-- The same for operations of a region that are still to do. -/
def slOps (P : Program) (M : Jdg → Prop) (n : Nat) (ops : Array Oper) (Q : Qt) (l : List Nat) (L : Locals) (h : PHeap) : Prop :=
  ∀ J, M J → ∀ (b : Frame) (k : List Item) (cs : List Frame) (ds : List Deferred) (tm : Array Value), b.kind ≠ .early → Agree n L tm → Ends J n b k cs ds Q →
    J h (G (b.at ⟨tm, ds⟩ (.inRegion ops l :: k)) cs)

/-- THE CONTRACT OF A CALL: it comes back with a value and a heap that meet R, or panics so that E holds. -/
def CallsE (P : Program) (M : Jdg → Prop) (f : FuncId) (args : Array Value) (h : PHeap) (R : Value → PHeap → Prop) (E : List PanicEntry → PHeap → Prop) : Prop :=
  ∀ J, M J → ∀ (c : Frame) (cs : List Frame), (∀ v h', R v h' → J h' (G (c.finish v) cs)) → (∀ ch h', E ch h' → J h' (G (c.raise ch) cs)) →
    J h (G (Frame.enter P f args .normal) (c :: cs))
def noE : List PanicEntry → PHeap → Prop := fun _ _ => False
abbrev CallsJ (P : Program) (M : Jdg → Prop) (f : FuncId) (args : Array Value) (h : PHeap) (R : Value → PHeap → Prop) : Prop := CallsE P M f args h R noE

theorem CallsE.mono {P : Program} {M : Jdg → Prop} {f : FuncId} {args : Array Value} {h : PHeap} {R R' : Value → PHeap → Prop} {E E' : List PanicEntry → PHeap → Prop}
    (x : CallsE P M f args h R E) (hr : ∀ v h', R v h' → R' v h') (he : ∀ v h', E v h' → E' v h') : CallsE P M f args h R' E' :=
  fun J hJ c cs r e => x J hJ c cs (fun v h' y => r v h' (hr v h' y)) (fun v h' y => e v h' (he v h' y))
theorem CallsJ.mono {P : Program} {M : Jdg → Prop} {f : FuncId} {args : Array Value} {h : PHeap} {R R' : Value → PHeap → Prop} {E' : List PanicEntry → PHeap → Prop}
    (x : CallsJ P M f args h R) (hr : ∀ v h', R v h' → R' v h') : CallsE P M f args h R' E' := CallsE.mono x hr fun _ _ y => y.elim

def thenQ (K : Locals → PHeap → Prop) (Q : Qt) : Qt := fun e L h => match e with
  | .nrm => K L h
  | e => Q e L h

section
variable {P : Program} {M : Jdg → Prop} [hM : IsCl P M] {n : Nat} {Q Q' : Qt} {L L' : Locals} {h : PHeap}

theorem Ends.mono {J : Jdg} {b : Frame} {k : List Item} {cs : List Frame} {ds : List Deferred} (x : Ends J n b k cs ds Q) (hq : ∀ e L h, Q' e L h → Q e L h) : Ends J n b k cs ds Q' :=
  fun e L h tm y z => x e L h tm (hq e L h y) z

omit hM in
theorem sl_mono {c : Code} (x : c.sl P M n Q L h) (hq : ∀ e L h, Q e L h → Q' e L h) : c.sl P M n Q' L h :=
  fun J hJ b k cs ds tm hb ha he => x J hJ b k cs ds tm hb ha (he.mono hq)
omit hM in
theorem ops_mono {ops : Array Oper} {l : List Nat} (x : slOps P M n ops Q l L h) (hq : ∀ e L h, Q e L h → Q' e L h) : slOps P M n ops Q' l L h :=
  fun J hJ b k cs ds tm hb ha he => x J hJ b k cs ds tm hb ha (he.mono hq)
omit hM in
theorem sl_sub {c : Code} (x : c.sl P M n Q L' h) (hs : L'.sub L) : c.sl P M n Q L h :=
  fun J hJ b k cs ds tm hb ha he => x J hJ b k cs ds tm hb (ha.sub hs) he
omit hM in
theorem ops_sub {ops : Array Oper} {l : List Nat} (x : slOps P M n ops Q l L' h) (hs : L'.sub L) : slOps P M n ops Q l L h :=
  fun J hJ b k cs ds tm hb ha he => x J hJ b k cs ds tm hb (ha.sub hs) he

/-- A step that touches nothing: the goroutine's own business. -/
theorem quiet {J : Jdg} (hJ : M J) {g g' : Goroutine} (hr : g.status = .running) (hs : ∀ main w, stepG P main g w = .go g' w) (x : J h g') : J h g := by
  obtain ⟨main, hc⟩ := hM.cl J hJ
  refine hc h g hr fun w hw => ⟨g', w, #[], h, hs main w, hw, Grow.refl _ _, by simp, x⟩

theorem sl_skip (x : Q .nrm L h) : Code.skip.sl P M n Q L h :=
  fun J hJ b k cs ds tm _ ha he => quiet (P := P) hJ rfl (fun _ _ => stepG_skip) (he .nrm L h tm x ha)
theorem sl_label {l : Nat} (x : Q .nrm L h) : (Code.label l).sl P M n Q L h :=
  fun J hJ b k cs ds tm _ ha he => quiet (P := P) hJ rfl (fun _ _ => stepG_label) (he .nrm L h tm x ha)
theorem sl_seq {x y : Code} (p : x.sl P M n (thenQ (fun L h => y.sl P M n Q L h) Q) L h) : (Code.seq x y).sl P M n Q L h := by
  intro J hJ b k cs ds tm hb ha he
  refine quiet (P := P) hJ rfl (fun _ _ => stepG_seq) (p J hJ b (.code y :: k) cs ds tm hb ha ?_)
  intro e L' h' tm' q ha'
  cases e with
  | nrm => exact q J hJ b k cs ds tm' hb ha' he
  | exit id => exact he (.exit id) L' h' tm' q ha'
  | ret => exact he .ret L' h' tm' q ha'
  | pan ch => exact he (.pan ch) L' h' tm' q ha'
/-- A cut: what holds behind the first piece is told once. -/
theorem sl_cut {x y : Code} (Mid : Locals → PHeap → Prop) (p : x.sl P M n (thenQ Mid Q) L h) (r : ∀ L h, Mid L h → y.sl P M n Q L h) : (Code.seq x y).sl P M n Q L h :=
  sl_seq (sl_mono p fun e L h q => by cases e <;> first | exact r _ _ q | exact q)
theorem sl_cond {c : Operand} {x y : Code} {t : Bool} (hc : ev L c = some (.bool t)) (ht : t = true → x.sl P M n Q L h) (hf : t = false → y.sl P M n Q L h) : (Code.cond c x y).sl P M n Q L h := by
  intro J hJ b k cs ds tm hb ha he
  have e : (Act.mk tm ds).eval c = .bool t := Agree.ev (a := ⟨tm, ds⟩) ha hc
  refine quiet (P := P) hJ rfl (fun _ _ => stepG_cond e) ?_
  cases t with
  | true => exact ht rfl J hJ b k cs ds tm hb ha he
  | false => exact hf rfl J hJ b k cs ds tm hb ha he
def blockQ (id : Nat) (Q : Qt) : Qt := fun e L h => match e with
  | .exit id' => if id' = id then Q .nrm L h else Q (.exit id') L h
  | e => Q e L h
theorem sl_block {id : Nat} {c : Code} (x : c.sl P M n (blockQ id Q) L h) : (Code.block id c).sl P M n Q L h := by
  intro J hJ b k cs ds tm hb ha he
  refine quiet (P := P) hJ rfl (fun _ _ => stepG_block) (x J hJ b (.inBlock id :: k) cs ds tm hb ha ?_)
  intro e L' h' tm' q ha'
  cases e with
  | nrm => exact quiet (P := P) hJ rfl (fun _ _ => stepG_inBlock) (he .nrm L' h' tm' q ha')
  | exit id' =>
    simp only [blockQ] at q
    by_cases hid : id' = id
    · rw [if_pos hid] at q
      exact ⟨k, by simp [exitTo, hid], he .nrm L' h' tm' q ha'⟩
    · rw [if_neg hid] at q
      obtain ⟨k', h1, h2⟩ := he (.exit id') L' h' tm' q ha'
      have : (id == id') = false := by simpa using fun h => hid h.symm
      exact ⟨k', by simp [exitTo, this, h1], h2⟩
  | ret => exact he .ret L' h' tm' q ha'
  | pan ch => exact he (.pan ch) L' h' tm' q ha'
theorem sl_exit {id : Nat} (x : Q (.exit id) L h) : (Code.exit id).sl P M n Q L h := by
  intro J hJ b k cs ds tm hb ha he
  obtain ⟨k', h1, h2⟩ := he (.exit id) L h tm x ha
  exact quiet (P := P) hJ rfl (fun _ _ => stepG_exit h1) h2
theorem stepG_ret' {main : Bool} {b : Frame} {a : Act} {k : List Item} {cs : List Frame} {w : World} :
    stepG P main (G (b.at a (.code .ret :: k)) cs) w = .go (G { b.at a (.code .ret :: k) with mode := .returning } cs) w := by simp [G, stepG, stepG.exec, Frame.at]
theorem sl_ret (x : Q .ret L h) : Code.ret.sl P M n Q L h := by
  intro J hJ b k cs ds tm hb ha he
  exact quiet (P := P) hJ rfl (fun _ _ => stepG_ret') (he .ret L h tm x ha _)

/-- A loop: 'x' tells where it stands; each round lowers the measure. -/
theorem sl_loop {ι : Type} {c : Code} (Lo : ι → Locals) (A : ι → PHeap → Prop) (μ : ι → Nat) (x0 : ι) (hL : (Lo x0).sub L) (h0 : A x0 h)
    (round : ∀ x h, A x h → c.sl P M n (thenQ (fun L' h' => ∃ y, μ y < μ x ∧ (Lo y).sub L' ∧ A y h') Q) (Lo x) h) : (Code.loop c).sl P M n Q L h := by
  intro J hJ b k cs ds tm hb ha he
  have key : ∀ m x h tm, μ x = m → A x h → Agree n (Lo x) tm → J h (G (b.at ⟨tm, ds⟩ (.code c :: .inLoop c :: k)) cs) := by
    intro m
    induction m using Nat.strongRecOn with
    | _ m ih =>
      intro x h tm hm hA ha
      refine round x h hA J hJ b (.inLoop c :: k) cs ds tm hb ha ?_
      intro e L' h' tm' q ha'
      cases e with
      | nrm =>
        obtain ⟨y, h1, h2, h3⟩ := q
        exact quiet (P := P) hJ rfl (fun _ _ => stepG_inLoop) (ih (μ y) (hm ▸ h1) y h' tm' rfl h3 (ha'.sub h2))
      | exit id => exact he (.exit id) L' h' tm' q ha'
      | ret => exact he .ret L' h' tm' q ha'
      | pan ch => exact he (.pan ch) L' h' tm' q ha'
  exact quiet (P := P) hJ rfl (fun _ _ => stepG_loop) (key _ x0 h tm rfl h0 (ha.sub hL))

theorem sl_region {id : Nat} {ops : Array Oper} (x : slOps P M n ops Q (List.range ops.size) L h) : (Code.region id ops false).sl P M n Q L h :=
  fun J hJ b k cs ds tm hb ha he => quiet (P := P) hJ rfl (fun _ _ => stepG_region) (x J hJ b k cs ds tm hb ha he)
theorem ops_nil {ops : Array Oper} (x : Q .nrm L h) : slOps P M n ops Q [] L h :=
  fun J hJ b k cs ds tm _ ha he => quiet (P := P) hJ rfl (fun _ _ => stepG_region_end) (he .nrm L h tm x ha)

/-- An operation that is not wanted. -/
theorem ops_skip {ops : Array Oper} {i : Nat} {rest : List Nat} {o : Oper} (ho : ops[i]? = some o) (hd : ∀ d, o.dst = some d → d < n)
    (hw : ∀ tm, Agree n L tm → Region.wanted o (yielded ops tm) = false) (x : slOps P M n ops Q rest (setL o.dst undef L) h) : slOps P M n ops Q (i :: rest) L h := by
  intro J hJ b k cs ds tm hb ha he
  have hfin : (b.at ⟨tm, ds⟩ (.inRegion ops (i :: rest) :: k)).finish undef = b.at ((Act.mk tm ds).put o.dst undef) (.inRegion ops rest :: k) := by rw [Frame.finish_at, ho]; rfl
  have hds : ((Act.mk tm ds).put o.dst undef) = ⟨((Act.mk tm ds).put o.dst undef).tmps, ds⟩ := by
    cases hx : o.dst <;> rfl
  refine quiet (P := P) hJ (g' := G (b.at ((Act.mk tm ds).put o.dst undef) (.inRegion ops rest :: k)) cs) rfl (fun main w => ?_) ?_
  · rw [← hfin]
    have := hw tm ha
    simp [G, stepG, stepG.exec, Frame.at, ho, this]
  · rw [hds]
    exact x J hJ b k cs ds _ hb (Agree.put (a := ⟨tm, ds⟩) ha hd undef) he

theorem seen_sub {fn : FuncId} {es : Array Event} {e : Event} (x : e ∈ seen P fn es) : e ∈ es := by
  dsimp only [seen] at x
  rw [← Array.foldl_toList] at x
  have key : ∀ (l : List Event) (q : Bool) (kept : Array Event), (∀ e ∈ kept, e ∈ es) → (∀ e ∈ l, e ∈ es) →
      ∀ e ∈ (l.foldl (fun (x : Bool × Array Event) e => match x with | (q, kept) => match e.loc with
        | .mark (.extern f) => ((P.funcs[f]?).any (·.norace), kept)
        | _ => (q, if q && !e.sync then kept else kept.push e)) (q, kept)).2, e ∈ es := by
    intro l
    induction l with
    | nil => intro q kept hk _ e he; exact hk e he
    | cons a l ih =>
      intro q kept hk hl e he
      simp only [List.foldl_cons] at he
      have ha := hl a (by simp)
      have hl' : ∀ e ∈ l, e ∈ es := fun e h => hl e (by simp [h])
      split at he
      · exact ih _ _ hk hl' e he
      · refine ih _ _ (fun e' h' => ?_) hl' e he
        split at h'
        · exact hk e' h'
        · rcases Array.mem_push.1 h' with y | y
          · exact hk e' y
          · rw [y]; exact ha
  exact key es.toList _ _ (by simp) (fun e h => Array.mem_toList_iff.1 h) e x

/-- What an operation may come to. -/
def nextOk (P : Program) (M : Jdg → Prop) (n : Nat) (ops : Array Oper) (Q : Qt) (rest : List Nat) (L : Locals) (d : Option Nat) (r : Next) (h : PHeap) : Prop :=
  match r with
  | .value v => slOps P M n ops Q rest (setL d v L) h
  | .skip => slOps P M n ops Q rest (setL d undef L) h
  | .enter f args => CallsE P M f args h (fun v h' => slOps P M n ops Q rest (setL d v L) h') (fun ch h' => Q (.pan ch) L h')
  | _ => False

theorem ops_op {ops : Array Oper} {i : Nat} {rest : List Nat} {o : Oper} (ho : ops[i]? = some o) (hd : ∀ d, o.dst = some d → d < n)
    (hw : ∀ tm, Agree n L tm → Region.wanted o (yielded ops tm) = true)
    (hs : ∀ a : Act, Agree n L a.tmps → (execOp a.eval o).slp P (fun r h' => nextOk P M n ops Q rest L o.dst r h') (fun v h' => Q (.pan [{ v, recovered := false }]) L h') h) :
    slOps P M n ops Q (i :: rest) L h := by
  intro J hJ b k cs ds tm hb ha he
  obtain ⟨main, hc⟩ := hM.cl J hJ
  have hfin : ∀ v, (b.at ⟨tm, ds⟩ (.inRegion ops (i :: rest) :: k)).finish v = b.at ((Act.mk tm ds).put o.dst v) (.inRegion ops rest :: k) := fun v => by rw [Frame.finish_at, ho]; rfl
  have hds : ∀ v, ((Act.mk tm ds).put o.dst v) = ⟨((Act.mk tm ds).put o.dst v).tmps, ds⟩ := fun v => by cases hx : o.dst <;> rfl
  refine hc h _ rfl fun w hsat => ?_
  have hk' : (b.kind == CallKind.early) = false := by simpa using hb
  obtain ⟨w', h', es', s1, s2, s3, s4⟩ := slp_sound #[] (hs ⟨tm, ds⟩ ha) hsat
  have hseen : ∀ e ∈ seen P b.fn es', EvOk h w.heap.size e ∧ EvLt w'.heap.size e := fun e x => s3 e (seen_sub x)
  rcases s4 with ⟨r, hr, hk⟩ | ⟨v, hr, hk⟩
  · have hrr : (execOp (Act.mk tm ds).eval o).run P w = .ok r w' := by rw [← Sem.runT_fst P _ w #[], hr]
    have hre : Sem.events P (execOp (Act.mk tm ds).eval o) w #[] = es' := by rw [Sem.events, hr]; simp
    cases r with
    | value v =>
      refine ⟨G (b.at ((Act.mk tm ds).put o.dst v) (.inRegion ops rest :: k)) cs, w', seen P b.fn es', h', ?_, s1, s2, hseen, ?_⟩
      · rw [stepG_oper ho (hw tm ha), ← hfin]
        simp [stepG.apply, hrr, hre, G, Frame.at, hk', GStep.after]
      · rw [hds]; exact hk J hJ b k cs ds _ hb (Agree.put (a := ⟨tm, ds⟩) ha hd v) he
    | skip =>
      refine ⟨G (b.at ((Act.mk tm ds).put o.dst undef) (.inRegion ops rest :: k)) cs, w', seen P b.fn es', h', ?_, s1, s2, hseen, ?_⟩
      · rw [stepG_oper ho (hw tm ha), ← hfin]
        simp [stepG.apply, hrr, hre, G, Frame.at, hk', GStep.after]
      · rw [hds]; exact hk J hJ b k cs ds _ hb (Agree.put (a := ⟨tm, ds⟩) ha hd undef) he
    | enter f args =>
      refine ⟨G (Frame.enter P f args .normal) (b.at ⟨tm, ds⟩ (.inRegion ops (i :: rest) :: k) :: cs), w', seen P b.fn es', h', ?_, s1, s2, hseen, ?_⟩
      · rw [stepG_oper ho (hw tm ha)]
        simp [stepG.apply, hrr, hre, G, Frame.at, hk', GStep.after]
      · refine hk J hJ _ cs (fun v h'' x => ?_) (fun ch h'' x => ?_)
        · rw [hfin, hds]; exact x J hJ b k cs ds _ hb (Agree.put (a := ⟨tm, ds⟩) ha hd v) he
        · rw [Frame.raise_at]; exact he (.pan ch) L h'' tm x ha _
    | _ => exact hk.elim
  · have hrr : (execOp (Act.mk tm ds).eval o).run P w = .halt (.panic v) w' := by rw [← Sem.runT_fst P _ w #[], hr]
    have hre : Sem.events P (execOp (Act.mk tm ds).eval o) w #[] = es' := by rw [Sem.events, hr]; simp
    refine ⟨G { b.at ⟨tm, ds⟩ (.inRegion ops (i :: rest) :: k) with mode := .panicking [{ v, recovered := false }] } cs, w', seen P b.fn es', h', ?_, s1, s2, hseen, ?_⟩
    · rw [stepG_oper ho (hw tm ha), ← Frame.raise_at]
      simp [stepG.apply, hrr, hre, G, Frame.at, hk', GStep.after]
    · exact he (.pan _) L h' tm hk ha _

/-! ### the call of a function with a body -/
def bodyQ (P : Program) (fn : Func) (n : Nat) (R : Value → PHeap → Prop) (E : List PanicEntry → PHeap → Prop) : Qt := fun e L h =>
  match e with
  | .nrm | .ret => ∀ tm, Agree n L tm → (results fn tm).slp P R (fun _ _ => False) h
  | .pan ch => E ch h
  | .exit _ => False

def argsL : Nat → List Value → Locals
  | _, [] => []
  | i, v :: vs => (i, v) :: argsL (i + 1) vs
theorem argsL_get (vs : List Value) : ∀ (i j : Nat) (v : Value), (argsL i vs).get j = some v → i ≤ j ∧ vs[j - i]? = some v := by
  induction vs with
  | nil => intro i j v e; cases e
  | cons x vs ih =>
    intro i j v e
    simp only [argsL, Locals.get] at e
    cases hb : Nat.beq i j with
    | true => rw [hb] at e; cases e; obtain rfl := Nat.eq_of_beq_eq_true hb; simp
    | false =>
      rw [hb] at e
      obtain ⟨h1, h2⟩ := ih (i + 1) j v e
      refine ⟨by omega, ?_⟩
      have : j - i = (j - (i + 1)) + 1 := by omega
      rw [this]; simpa using h2

theorem stepG_leave' {main : Bool} {b : Frame} {a : Act} {todo : List Item} {cs : List Frame} {w w' : World} {fn : Func} {c : Frame} {v : Value} {es : Array Event} (hn : b.kind = .normal) (hd : a.defers = []) (hf : P.funcs[b.fn]? = some fn)
    (hr : (results fn a.tmps).run P w = .ok v w') (he : (results fn a.tmps).events P w #[] = es) :
    stepG P main (G { b.at a todo with mode := .returning } (c :: cs)) w = .go (G (c.finish v) cs) w' (seen P b.fn es) := by
  simp [G, stepG, unwind, doReturn, Frame.at, hn, hd, hf, hr, he, GStep.after]

theorem calls_of_sl {f : FuncId} {fn : Func} {c : Code} {vs : List Value} {R : Value → PHeap → Prop} {E : List PanicEntry → PHeap → Prop}
    (hf : P.funcs[f]? = some fn) (hb : fn.body = some c) (hn : fn.ntmps = n) (hsz : Nat.ble vs.length n = true)
    (x : c.sl P M n (bodyQ P fn n R E) (argsL 0 vs) h) : CallsE P M f vs.toArray h R E := by
  intro J hJ cf cs hR hE
  obtain ⟨main, hc⟩ := hM.cl J hJ
  have hle := Nat.le_of_ble_eq_true hsz
  rw [enter_at vs.toArray hf hb]
  have hag : Agree n (argsL 0 vs) (vs.toArray ++ Array.replicate (fn.ntmps - vs.toArray.size) undef) := by
    refine ⟨by simp; omega, fun i v e => ?_⟩
    obtain ⟨_, h2⟩ := argsL_get vs 0 i v e
    have hlt : i < vs.length := by
      rcases Nat.lt_or_ge i vs.length with h | h
      · exact h
      · simp [List.getElem?_eq_none (show vs.length ≤ i by omega)] at h2
    rw [Array.getElem?_append]
    simpa [hlt] using h2
  have leave : ∀ (L : Locals) (h' : PHeap) (tm : Array Value) (todo : List Item), (∀ tm, Agree n L tm → (results fn tm).slp P R (fun _ _ => False) h') → Agree n L tm →
      J h' (G { (base f).at ⟨tm, []⟩ todo with mode := .returning } (cf :: cs)) := by
    intro L h' tm todo q ha
    refine hc h' _ rfl fun w hsat => ?_
    obtain ⟨w', h'', es', s1, s2, s3, s4⟩ := slp_sound #[] (q tm ha) hsat
    rcases s4 with ⟨v, hr, hk⟩ | ⟨v, _, hk⟩
    · have hrr : (results fn tm).run P w = .ok v w' := by rw [← Sem.runT_fst P _ w #[], hr]
      have hre : Sem.events P (results fn tm) w #[] = es' := by rw [Sem.events, hr]; simp
      exact ⟨_, w', seen P f es', h'', stepG_leave' (b := base f) (a := ⟨tm, []⟩) rfl rfl hf hrr hre, s1, s2, fun e y => s3 e (seen_sub y), hR v h'' hk⟩
    · exact hk.elim
  refine x J hJ (base f) [] (cf :: cs) [] _ (by simp [base]) hag ?_
  intro e L h' tm q ha
  cases e with
  | nrm => exact quiet (P := P) hJ rfl (fun _ _ => stepG_end) (leave L h' tm [] q ha)
  | exit id => exact q.elim
  | ret => exact fun todo => leave L h' tm todo q ha
  | pan ch =>
    intro todo
    refine quiet (P := P) hJ (g' := G (cf.raise ch) cs) rfl (fun main w => ?_) (hE ch h' q)
    simp [G, stepG, unwind, Frame.at, base, Frame.catches, hf]
end
end Go.Sl

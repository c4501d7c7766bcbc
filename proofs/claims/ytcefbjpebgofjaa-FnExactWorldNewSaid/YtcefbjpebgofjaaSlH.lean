/- Own blocks beside what is only read: what a goroutine's code knows is a base that only grows and a list of blocks of its own; judgements and rules of control. No program. -/
import Derived.Test.YtcefbjpebgofjaaSlG
namespace Go.Sl
open Go Go.Conc PHeap

abbrev Own := List (Nat × Obj)

structure Rel (F h : PHeap) (O : Own) (H : PHeap) : Prop where
  fr : F ≤ H
  base : h ≤ H
  own : ∀ b o, (b, o) ∈ O → H.obj b = some o ∧ H.wr b = true ∧ F.obj b = none ∧ h.obj b = none
  nd : (O.map Prod.fst).Nodup
  gh : H.gh = h.gh

/-- What is known has grown. -/
class Le (h : outParam PHeap) (h' : PHeap) : Prop where
  le : h ≤ h'
  gh : h'.gh = h.gh

structure Up (F h h' : PHeap) : Prop where
  le : h ≤ h'
  new : ∀ b, (h'.obj b).isSome = true → (h.obj b).isSome = true ∨ F.obj b = none
  gh : h'.gh = h.gh

theorem Up.refl (F h : PHeap) : Up F h h := ⟨le_refl _, fun _ x => .inl x, rfl⟩
theorem Up.trans {F h h' h'' : PHeap} (a : Up F h h') (b : Up F h' h'') : Up F h h'' :=
  ⟨le_trans a.le b.le, fun r x => (b.new r x).elim (a.new r) .inr, b.gh.trans a.gh⟩

def lift {α : Type} (F h : PHeap) (K : α → Own → PHeap → Prop) (r : α) (H : PHeap) : Prop := ∃ O h', Up F h h' ∧ Rel F h' O H ∧ K r O h'
theorem lift.here {α : Type} {F h : PHeap} {K : α → Own → PHeap → Prop} {r : α} {O : Own} {H : PHeap} (x : Rel F h O H) (k : K r O h) : lift F h K r H := ⟨O, h, Up.refl _ _, x, k⟩
theorem lift.up {α : Type} {F h h' : PHeap} {K : α → Own → PHeap → Prop} {r : α} {H : PHeap} (u : Up F h h') (x : lift F h' K r H) : lift F h K r H :=
  let ⟨O, h2, u2, r2, k⟩ := x; ⟨O, h2, u.trans u2, r2, k⟩
theorem lift.mono {α : Type} {F h : PHeap} {K K' : α → Own → PHeap → Prop} {r : α} {H : PHeap} (x : lift F h K r H) (k : ∀ O h', Le h h' → K r O h' → K' r O h') : lift F h K' r H :=
  let ⟨O, h2, u2, r2, k2⟩ := x; ⟨O, h2, u2, r2, k O h2 ⟨u2.le, u2.gh⟩ k2⟩

abbrev Qo := Ex → Locals → Own → PHeap → Prop
def liftQ (F h : PHeap) (Q : Qo) : Qt := fun e L H => lift F h (fun (_ : Unit) => Q e L) () H
theorem liftQ_up {F h h' : PHeap} (u : Up F h h') {Q : Qo} {e : Ex} {L : Locals} {H : PHeap} (x : liftQ F h' Q e L H) : liftQ F h Q e L H := lift.up u x

def _root_.Go.Code.so (P : Program) (M : Jdg → Prop) (n : Nat) (c : Code) (Q : Qo) (L : Locals) (O : Own) (h : PHeap) : Prop :=
  ∀ F H, Rel F h O H → c.sl P M n (liftQ F h Q) L H
def soOps (P : Program) (M : Jdg → Prop) (n : Nat) (ops : Array Oper) (Q : Qo) (rest : List Oper) (L : Locals) (O : Own) (h : PHeap) : Prop :=
  ∀ F H, Rel F h O H → slList P M n ops (liftQ F h Q) rest L H

/-- THE CONTRACT OF A CALL. -/
def CallsP (P : Program) (M : Jdg → Prop) (f : FuncId) (args : List Value) (O : Own) (h : PHeap) (R : Value → Own → PHeap → Prop) (E : List PanicEntry → Own → PHeap → Prop) : Prop :=
  ∀ F H, Rel F h O H → CallsE P M f args.toArray H (lift F h R) (lift F h E)
def noP : List PanicEntry → Own → PHeap → Prop := fun _ _ _ => False
abbrev CallO (P : Program) (M : Jdg → Prop) (f : FuncId) (args : List Value) (O : Own) (h : PHeap) (R : Value → Own → PHeap → Prop) : Prop := CallsP P M f args O h R noP

def thenO (K : Locals → Own → PHeap → Prop) (Q : Qo) : Qo := fun e L O h => match e with
  | .nrm => K L O h
  | e => Q e L O h

section
variable {P : Program} {M : Jdg → Prop} [hM : IsCl P M] {n : Nat} {Q Q' : Qo} {L L' : Locals} {O O' : Own} {h : PHeap}

omit hM in
theorem so_mono {c : Code} (x : c.so P M n Q L O h) (hq : ∀ e L O h', Le h h' → Q e L O h' → Q' e L O h') : c.so P M n Q' L O h :=
  fun F H r => sl_mono (x F H r) fun e L H y => lift.mono y fun O h' l z => hq e L O h' l z
omit hM in
theorem list_sub {ops : Array Oper} {rest : List Oper} {Q : Qt} {H : PHeap} (x : slList P M n ops Q rest L' H) (hs : L'.sub L) : slList P M n ops Q rest L H := fun l e => ops_sub (x l e) hs
omit hM in
theorem so_sub {c : Code} (L' : Locals) (hs : L'.sub L) (x : c.so P M n Q L' O h) : c.so P M n Q L O h := fun F H r => sl_sub (x F H r) hs

/-! ### what is one's own -/
theorem Rel.drop {F H : PHeap} (r : Rel F h O H) (hs : O'.Sublist O) : Rel F h O' H :=
  ⟨r.fr, r.base, fun b o m => r.own b o (hs.subset m), r.nd.sublist (hs.map _), r.gh⟩
theorem Rel.perm {F H : PHeap} (r : Rel F h O H) (hp : O'.Perm O) : Rel F h O' H :=
  ⟨r.fr, r.base, fun b o m => r.own b o (hp.subset m), (hp.map _).nodup_iff.2 r.nd, r.gh⟩
theorem Rel.pub {F H : PHeap} {b : Nat} {o : Obj} (r : Rel F h ((b, o) :: O) H) : Rel F (h.put b o) O H ∧ Up F h (h.put b o) := by
  obtain ⟨h1, h2, h3, h4⟩ := r.own b o (by simp)
  have hnd := List.nodup_cons.1 r.nd
  refine ⟨⟨r.fr, fun c x e => ?_, fun c x m => ?_, hnd.2, r.gh⟩, ⟨le_put h4, fun c hc => ?_, rfl⟩⟩
  · simp only [PHeap.put] at e ⊢
    split at e
    · rename_i hb; subst hb; cases e; simp [h1, h2]
    · rename_i hb; simp [hb, (r.base c x e).1, (r.base c x e).2]
  · obtain ⟨a1, a2, a3, a4⟩ := r.own c x (by simp [m])
    have hne : c ≠ b := fun e => by subst e; exact hnd.1 (List.mem_map.2 ⟨_, m, rfl⟩)
    exact ⟨a1, a2, a3, by rw [obj_put_ne hne]; exact a4⟩
  · simp only [PHeap.put] at hc
    split at hc
    · rename_i hb; subst hb; exact .inr h3
    · exact .inl hc
theorem Rel.alloc {F H : PHeap} {b : Nat} (r : Rel F h O H) (hb : H.obj b = none) (o : Obj) : Rel F h ((b, o) :: O) (H.put b o) := by
  refine ⟨le_put_of r.fr (le_none r.fr hb), le_put_of r.base (le_none r.base hb), fun c x m => ?_, ?_, r.gh⟩
  · rcases List.mem_cons.1 m with e | m
    · cases e; exact ⟨obj_put _ _ _, wr_put _ _ _, le_none r.fr hb, le_none r.base hb⟩
    · obtain ⟨a1, a2, a3, a4⟩ := r.own c x m
      exact ⟨obj_put_fresh hb a1, wr_put_fresh hb a1 a2, a3, a4⟩
  · refine List.nodup_cons.2 ⟨fun m => ?_, r.nd⟩
    obtain ⟨⟨c, x⟩, mm, rfl⟩ := List.mem_map.1 m
    rw [(r.own c x mm).1] at hb; cases hb
theorem Rel.set {F H : PHeap} {pre post : Own} {b : Nat} {o : Obj} (r : Rel F h (pre ++ (b, o) :: post) H) (o' : Obj) : Rel F h (pre ++ (b, o') :: post) (H.put b o') := by
  obtain ⟨h1, h2, h3, h4⟩ := r.own b o (by simp)
  have hnd := r.nd
  simp only [List.map_append, List.map_cons] at hnd
  have hne : ∀ c x, (c, x) ∈ pre ∨ (c, x) ∈ post → c ≠ b := by
    rintro c x m rfl
    rw [List.nodup_append] at hnd
    rcases m with m | m
    · exact hnd.2.2 c (List.mem_map.2 ⟨_, m, rfl⟩) c (by simp) rfl
    · exact (List.nodup_cons.1 hnd.2.1).1 (List.mem_map.2 ⟨_, m, rfl⟩)
  refine ⟨le_put_of r.fr h3, le_put_of r.base h4, fun c x m => ?_, by simpa using hnd, r.gh⟩
  rcases List.mem_append.1 m with m | m
  · obtain ⟨a1, a2, a3, a4⟩ := r.own c x (by simp [m])
    have := hne c x (.inl m)
    exact ⟨by rw [obj_put_ne this]; exact a1, by rw [wr_put_ne this]; exact a2, a3, a4⟩
  · rcases List.mem_cons.1 m with e | m
    · cases e; exact ⟨obj_put _ _ _, wr_put _ _ _, h3, h4⟩
    · obtain ⟨a1, a2, a3, a4⟩ := r.own c x (by simp [m])
      have := hne c x (.inr m)
      exact ⟨by rw [obj_put_ne this]; exact a1, by rw [wr_put_ne this]; exact a2, a3, a4⟩

/-- A heap without some blocks. -/
def _root_.Go.Sl.PHeap.del (H : PHeap) (A : Own) : PHeap := { obj := fun b => if b ∈ A.map Prod.fst then none else H.obj b, wr := H.wr, gh := H.gh }
theorem del_le (H : PHeap) (A : Own) : H.del A ≤ H := fun b o e => by
  simp only [PHeap.del] at e; split at e
  · cases e
  · exact ⟨e, rfl⟩
theorem le_del {F H : PHeap} {A : Own} (l : F ≤ H) (hf : ∀ b o, (b, o) ∈ A → F.obj b = none) : F ≤ H.del A := fun b o e => by
  have : b ∉ A.map Prod.fst := fun m => by
    obtain ⟨⟨c, x⟩, mm, rfl⟩ := List.mem_map.1 m
    rw [hf c x mm] at e; cases e
  simp only [PHeap.del, this, if_false]; exact l b o e
theorem Rel.down {F H : PHeap} {A R : Own} (r : Rel F h (A ++ R) H) : Rel (H.del A) h A H ∧ F ≤ H.del A :=
  ⟨⟨del_le _ _, r.base, fun b o m => by
    obtain ⟨a1, a2, a3, a4⟩ := r.own b o (by simp [m])
    exact ⟨a1, a2, by simp only [PHeap.del]; rw [if_pos (List.mem_map.2 ⟨_, m, rfl⟩)], a4⟩, by have := r.nd; rw [List.map_append] at this; exact (List.nodup_append.1 this).1, r.gh⟩,
   le_del r.fr fun b o m => (r.own b o (by simp [m])).2.2.1⟩
theorem Rel.back {F H H' h' : PHeap} {A A' R : Own} (r : Rel F h (A ++ R) H) (u : Up (H.del A) h h') (r' : Rel (H.del A) h' A' H') : Rel F h' (A' ++ R) H' ∧ Up F h h' := by
  obtain ⟨_, hF⟩ := r.down
  have hnd := r.nd
  rw [List.map_append, List.nodup_append] at hnd
  have hR : ∀ b o, (b, o) ∈ R → (H.del A).obj b = some o ∧ H.wr b = true ∧ F.obj b = none ∧ h.obj b = none := fun b o m => by
    obtain ⟨a1, a2, a3, a4⟩ := r.own b o (by simp [m])
    refine ⟨?_, a2, a3, a4⟩
    have : b ∉ A.map Prod.fst := fun hm => hnd.2.2 b hm b (List.mem_map.2 ⟨_, m, rfl⟩) rfl
    simp only [PHeap.del, this, if_false]; exact a1
  refine ⟨⟨le_trans hF r'.fr, r'.base, fun b o m => ?_, ?_, r'.gh⟩, ⟨u.le, fun b x => (u.new b x).elim .inl fun y => ?_, u.gh⟩⟩
  · rcases List.mem_append.1 m with m | m
    · obtain ⟨a1, a2, a3, a4⟩ := r'.own b o m
      exact ⟨a1, a2, le_none hF a3, a4⟩
    · obtain ⟨a1, a2, a3, a4⟩ := hR b o m
      obtain ⟨c1, c2⟩ := r'.fr b o a1
      refine ⟨c1, c2.trans a2, a3, ?_⟩
      cases e : h'.obj b with
      | none => rfl
      | some y =>
        rcases u.new b (by simp [e]) with z | z
        · rw [a4] at z; cases z
        · rw [a1] at z; cases z
  · rw [List.map_append, List.nodup_append]
    refine ⟨r'.nd, hnd.2.1, fun b hb c hc e => ?_⟩
    subst e
    obtain ⟨⟨c, x⟩, m, rfl⟩ := List.mem_map.1 hb
    obtain ⟨⟨d, y⟩, m', e⟩ := List.mem_map.1 hc
    simp only at e; subst e
    have := (r'.own d x m).2.2.1
    rw [(hR d y m').1] at this; cases this
  · exact .inr (le_none hF y)

/-! ### control -/
theorem so_skip (x : Q .nrm L O h) : Code.skip.so P M n Q L O h := fun F H r => sl_skip (lift.here r x)
theorem so_label {l : Nat} (x : Q .nrm L O h) : (Code.label l).so P M n Q L O h := fun F H r => sl_label (lift.here r x)
theorem so_seq {x y : Code} (p : x.so P M n (thenO (fun L O h => y.so P M n Q L O h) Q) L O h) : (Code.seq x y).so P M n Q L O h := fun F H r =>
  sl_seq (sl_mono (p F H r) fun e L H q => by
    cases e with
    | nrm =>
      obtain ⟨O, h', u, r', k⟩ := q
      exact sl_mono (k F H r') fun e L H z => liftQ_up u z
    | _ => exact q)
/-- What holds behind the first piece is told once. -/
theorem so_cut {x y : Code} (Mid : Locals → Own → PHeap → Prop) (p : x.so P M n (thenO Mid Q) L O h) (k : ∀ L O h', Le h h' → Mid L O h' → y.so P M n Q L O h') : (Code.seq x y).so P M n Q L O h :=
  so_seq (so_mono p fun e L O h' l q => by cases e <;> first | exact k _ _ _ l q | exact q)
theorem so_cond {c : Operand} {x y : Code} {t : Bool} (hc : ev L c = some (.bool t)) (ht : t = true → x.so P M n Q L O h) (hf : t = false → y.so P M n Q L O h) : (Code.cond c x y).so P M n Q L O h :=
  fun F H r => sl_cond hc (fun e => ht e F H r) (fun e => hf e F H r)
def blockO (id : Nat) (Q : Qo) : Qo := fun e L O h => match e with
  | .exit id' => if id' = id then Q .nrm L O h else Q (.exit id') L O h
  | e => Q e L O h
theorem so_block {id : Nat} {c : Code} (x : c.so P M n (blockO id Q) L O h) : (Code.block id c).so P M n Q L O h := fun F H r =>
  sl_block (sl_mono (x F H r) fun e L H q => by
    cases e with
    | exit id' =>
      simp only [blockQ]
      by_cases hid : id' = id
      · rw [if_pos hid]; exact lift.mono q fun O h' _ z => by simpa [blockO, hid] using z
      · rw [if_neg hid]; exact lift.mono q fun O h' _ z => by simpa [blockO, hid] using z
    | _ => exact q)
theorem so_exit {id : Nat} (x : Q (.exit id) L O h) : (Code.exit id).so P M n Q L O h := fun F H r => sl_exit (lift.here r x)
theorem so_ret (x : Q .ret L O h) : Code.ret.so P M n Q L O h := fun F H r => sl_ret (lift.here r x)

/-- A loop: 'x' tells where it stands; each round lowers the measure. -/
theorem so_loop {ι : Type} {c : Code} (A : ι → Locals → Own → PHeap → Prop) (μ : ι → Nat) (x0 : ι) (hs : L'.sub L) (h0 : A x0 L' O h)
    (round : ∀ x L O h', Le h h' → A x L O h' → c.so P M n (thenO (fun L O h'' => ∃ y L', μ y < μ x ∧ L'.sub L ∧ A y L' O h'') Q) L O h') : (Code.loop c).so P M n Q L O h := by
  intro F H r
  have key := sl_loop (P := P) (M := M) (n := n) (Q := liftQ F h Q) (c := c) (L := L) (h := H) (ι := ι × Locals) (Lo := fun z => z.2) (A := fun z H => ∃ O h', Up F h h' ∧ Rel F h' O H ∧ A z.1 z.2 O h') (μ := fun z => μ z.1) (x0, L') hs ⟨O, h, Up.refl _ _, r, h0⟩
  refine key fun z H ⟨O, h', u, r', a⟩ => sl_mono (round z.1 z.2 O h' ⟨u.le, u.gh⟩ a F H r') fun e L H q => ?_
  cases e with
  | nrm =>
    obtain ⟨O2, h2, u2, r2, y, L2, h3, h4, h5⟩ := q
    exact ⟨(y, L2), h3, h4, O2, h2, u.trans u2, r2, h5⟩
  | _ => exact liftQ_up u q

/-! ### regions -/
theorem so_reg {id : Nat} {l : List Oper} (x : soOps P M n l.toArray Q l L O h) : (Code.region id l.toArray false).so P M n Q L O h := fun F H r => sl_reg (x F H r)
theorem so_nil {ops : Array Oper} (x : Q .nrm L O h) : soOps P M n ops Q [] L O h := fun F H r => l_nil (lift.here r x)
omit hM in
theorem ops_keep {ops : Array Oper} {rest : List Oper} (L' : Locals) (hs : L'.sub L) (x : soOps P M n ops Q rest L' O h) : soOps P M n ops Q rest L O h := fun F H r => list_sub (x F H r) hs

/-- One operation of one's own, carried out. -/
def opo (P : Program) (n : Nat) (o : Oper) (L : Locals) (O : Own) (h : PHeap) (K : Next → Own → PHeap → Prop) (E : Value → Own → PHeap → Prop) : Prop :=
  ∀ F H, Rel F h O H → opv P n o L H (lift F h K) (lift F h E)
def nextO (P : Program) (M : Jdg → Prop) (n : Nat) (ops : Array Oper) (Q : Qo) (rest : List Oper) (L : Locals) (d : Option Nat) (r : Next) (O : Own) (h : PHeap) : Prop :=
  match r with
  | .value v => soOps P M n ops Q rest (setL d v L) O h
  | .skip => soOps P M n ops Q rest (setL d undef L) O h
  | .enter f args => ∃ A R, O.Perm (A ++ R) ∧ CallsP P M f args.toList A h (fun v A' h' => soOps P M n ops Q rest (setL d v L) (A' ++ R) h') (fun ch A' h' => Q (.pan ch) L (A' ++ R) h')
  | _ => False
variable {ops : Array Oper} {rest : List Oper} {o : Oper}
omit hM in
theorem nextO_ok {F H : PHeap} {d : Option Nat} {r : Next} (x : lift F h (nextO P M n ops Q rest L d) r H) : nextL P M n ops (liftQ F h Q) rest L d r H := by
  obtain ⟨O, h', u, rl, x⟩ := x
  have tr : ∀ {L O h' H}, Up F h h' → Rel F h' O H → soOps P M n ops Q rest L O h' → slList P M n ops (liftQ F h Q) rest L H := fun u r x l e => ops_mono (x F _ r l e) fun e L H z => liftQ_up u z
  cases r with
  | value v => exact tr u rl x
  | skip => exact tr u rl x
  | enter f args =>
    obtain ⟨A, R, hp, x⟩ := x
    have rl' := rl.perm hp.symm
    refine CallsE.mono (x _ _ rl'.down.1) (fun v H' q => ?_) (fun ch H' q => ?_)
    · obtain ⟨A', h2, u2, r2, q⟩ := q
      obtain ⟨r3, u3⟩ := rl'.back u2 r2
      exact tr (u.trans u3) r3 q
    · obtain ⟨A', h2, u2, r2, q⟩ := q
      obtain ⟨r3, u3⟩ := rl'.back u2 r2
      exact ⟨_, h2, u.trans u3, r3, q⟩
  | _ => exact x.elim
theorem so_plain (hg : o.guard = none) (hd : dstOk n o.dst = true) (x : opo P n o L O h (nextO P M n ops Q rest L o.dst) (fun v O h' => Q (.pan [{ v, recovered := false }]) L O h')) : soOps P M n ops Q (o :: rest) L O h :=
  fun F H r => l_plain hg hd fun a ha => slp_mono (fun r H' y => nextO_ok y) (fun v H' y => y) (x F H r a ha)
theorem so_guard {j dj : Nat} {want b : Bool} (hg : o.guard = some (j, want)) (hd : dstOk n o.dst = true) (hj : (ops[j]?).bind (·.dst) = some dj) (hb : L.get dj = some (.bool b))
    (hT : b = want → opo P n o L O h (nextO P M n ops Q rest L o.dst) (fun v O h' => Q (.pan [{ v, recovered := false }]) L O h')) (hF : b = !want → soOps P M n ops Q rest (setL o.dst undef L) O h) : soOps P M n ops Q (o :: rest) L O h :=
  fun F H r => l_guard hg hd hj hb (fun e a ha => slp_mono (fun r H' y => nextO_ok y) (fun v H' y => y) (hT e F H r a ha)) (fun e => hF e F H r)

/-! ### the body of a function -/
/-- What the body's end hands back. -/
def retO (P : Program) (fn : Func) (n : Nat) (R : Value → Own → PHeap → Prop) (E : List PanicEntry → Own → PHeap → Prop) : Qo := fun e L O h =>
  match e with
  | .nrm | .ret => ∀ F H, Rel F h O H → ∀ tm, Agree n L tm → (results fn tm).slp P (lift F h R) (fun _ _ => False) H
  | .pan ch => E ch O h
  | .exit _ => False
theorem calls_of_so {f : FuncId} {fn : Func} {c : Code} {vs : List Value} {R : Value → Own → PHeap → Prop} {E : List PanicEntry → Own → PHeap → Prop}
    (hf : P.funcs[f]? = some fn) (hb : fn.body = some c) (hn : fn.ntmps = n) (hsz : Nat.ble vs.length n = true)
    (x : c.so P M n (retO P fn n R E) (argsL 0 vs) O h) : CallsP P M f vs O h R E := fun F H r =>
  calls_of_sl hf hb hn hsz (sl_mono (x F H r) fun e L H' q => by
    obtain ⟨O', h', u, r', q⟩ := q
    cases e with
    | nrm => exact fun tm ha => slp_mono (fun v H y => lift.up u y) (fun _ _ y => y) (q F H' r' tm ha)
    | ret => exact fun tm ha => slp_mono (fun v H y => lift.up u y) (fun _ _ y => y) (q F H' r' tm ha)
    | pan ch => exact ⟨O', h', u, r', q⟩
    | exit id => exact q.elim)
omit hM in
theorem CallsP.mono {f : FuncId} {vs : List Value} {R R' : Value → Own → PHeap → Prop} {E E' : List PanicEntry → Own → PHeap → Prop} (x : CallsP P M f vs O h R E)
    (hr : ∀ v O h', Le h h' → R v O h' → R' v O h') (he : ∀ v O h', Le h h' → E v O h' → E' v O h') : CallsP P M f vs O h R' E' := fun F H r =>
  CallsE.mono (x F H r) (fun v H' y => lift.mono y (hr v)) (fun v H' y => lift.mono y (he v))
end
end Go.Sl

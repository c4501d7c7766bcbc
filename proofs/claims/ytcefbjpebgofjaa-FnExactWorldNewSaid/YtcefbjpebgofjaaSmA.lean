/- A base that stays and blocks of one's own: judgements and rules of control over a fixed base. No program. -/
import Derived.Test.YtcefbjpebgofjaaSlN
import Derived.Test.YtcefbjpebgofjaaSlBx
namespace Go.Sl
open Go Go.Conc PHeap

theorem Rel.low {F h h' H : PHeap} {O : Own} (r : Rel F h' O H) (l : h ≤ h') (g : h'.gh = h.gh) : Rel F h O H :=
  ⟨r.fr, le_trans l r.base, fun b o m => ⟨(r.own b o m).1, (r.own b o m).2.1, (r.own b o m).2.2.1, le_none l (r.own b o m).2.2.2⟩, r.nd, r.gh.trans g⟩

abbrev Qf := Ex → Locals → Own → Prop
def fix {α : Type} (F h : PHeap) (K : α → Own → Prop) (r : α) (H : PHeap) : Prop := ∃ O, Rel F h O H ∧ K r O
def fixQ (F h : PHeap) (Q : Qf) : Qt := fun e L H => ∃ O, Rel F h O H ∧ Q e L O
theorem fix_of_lift {α : Type} {F h : PHeap} {K : α → Own → PHeap → Prop} {K' : α → Own → Prop} {r : α} {H : PHeap} (x : lift F h K r H) (k : ∀ O h', Le h h' → K r O h' → K' r O) : fix F h K' r H :=
  let ⟨O, h', u, rel, y⟩ := x; ⟨O, rel.low u.le u.gh, k O h' ⟨u.le, u.gh⟩ y⟩

def _root_.Go.Code.sf (P : Program) (M : Jdg → Prop) (n : Nat) (c : Code) (Q : Qf) (L : Locals) (O : Own) (h : PHeap) : Prop :=
  ∀ F H, Rel F h O H → c.sl P M n (fixQ F h Q) L H
def sfOps (P : Program) (M : Jdg → Prop) (n : Nat) (ops : Array Oper) (Q : Qf) (rest : List Oper) (L : Locals) (O : Own) (h : PHeap) : Prop :=
  ∀ F H, Rel F h O H → slList P M n ops (fixQ F h Q) rest L H

/-- THE CONTRACT OF A CALL: it is handed the blocks A, and leaves others in their place. -/
def CallF (P : Program) (M : Jdg → Prop) (f : FuncId) (args : List Value) (A : Own) (h : PHeap) (R : Value → Own → Prop) (E : List PanicEntry → Own → Prop := fun _ _ => False) : Prop :=
  ∀ F H, Rel F h A H → CallsE P M f args.toArray H (fix F h R) (fix F h E)
/-- A callee that is handed nothing, leaves nothing, and whose value is known. -/
def CallV (P : Program) (M : Jdg → Prop) (f : FuncId) (args : List Value) (h : PHeap) (v : Value) : Prop := CallF P M f args [] h fun v' A => v' = v ∧ A = []

def thenF (K : Locals → Own → Prop) (Q : Qf) : Qf := fun e L O => match e with
  | .nrm => K L O
  | e => Q e L O

/-! ### finding what is handed on -/
class TakeL (O A : Own) (R : outParam Own) : Prop where
  p : O.Perm (A ++ R)
instance TakeL.all {A : Own} : TakeL A A [] := ⟨by simp⟩
instance TakeL.head {A X : Own} : TakeL (A ++ X) A X := ⟨.refl _⟩
instance TakeL.right {A X Y R : Own} [t : TakeL X A R] : TakeL (Y ++ X) A (Y ++ R) := ⟨(t.p.append_left Y).trans (by
  rw [← List.append_assoc, ← List.append_assoc]; exact List.perm_append_comm.append_right R)⟩
instance TakeL.left {A X Y R : Own} [t : TakeL X A R] : TakeL (X ++ Y) A (R ++ Y) := ⟨by
  rw [← List.append_assoc]; exact t.p.append_right Y⟩
instance TakeL.tail {A X R : Own} {x : Nat × Obj} [t : TakeL X A R] : TakeL (x :: X) A (x :: R) := ⟨(t.p.cons x).trans List.perm_middle.symm⟩
class Sp (O A : Own) (R : outParam Own) : Prop where
  p : O.Perm (A ++ R)
instance (priority := low) Sp.atom {O A R : Own} [t : TakeL O A R] : Sp O A R := ⟨t.p⟩
instance Sp.nil {O : Own} : Sp O [] O := ⟨.refl _⟩
instance Sp.cons {O A R S : Own} {b : Nat} {o : Obj} [t : Take O b o S] [s : Sp S A R] : Sp O ((b, o) :: A) R := ⟨t.p.trans (s.p.cons _)⟩
instance Sp.app {O A B R S : Own} [t : Sp O A S] [s : Sp S B R] : Sp O (A ++ B) R := ⟨by
  rw [List.append_assoc]; exact t.p.trans (s.p.append_left A)⟩

/-- What stands in the base. -/
class InB (h : PHeap) (A : Own) : Prop where
  at' : ∀ b o, (b, o) ∈ A → h.obj b = some o
instance InB.up {h h' : PHeap} {A : Own} [l : Le h h'] [x : InB h A] : InB h' A := ⟨fun b o m => (l.le b o (x.at' b o m)).1⟩

section
variable {P : Program} {M : Jdg → Prop} [hM : IsCl P M] {n : Nat} {Q Q' : Qf} {L L' : Locals} {O O' R A B : Own} {h : PHeap}

omit hM in
theorem fix.here {α : Type} {F : PHeap} {K : α → Own → Prop} {r : α} {H : PHeap} (x : Rel F h O H) (k : K r O) : fix F h K r H := ⟨O, x, k⟩
omit hM in
theorem sf_mono {c : Code} (x : c.sf P M n Q L O h) (hq : ∀ e L O, Q e L O → Q' e L O) : c.sf P M n Q' L O h :=
  fun F H r => sl_mono (x F H r) fun e L H ⟨O, y, z⟩ => ⟨O, y, hq e L O z⟩
omit hM in
theorem sf_sub {c : Code} (L' : Locals) (hs : L'.sub L) (x : c.sf P M n Q L' O h) : c.sf P M n Q L O h := fun F H r => sl_sub (x F H r) hs
omit hM in
theorem sf_own {c : Code} (O' : Own) [s : Sp O O' R] (x : c.sf P M n Q L O' h) : c.sf P M n Q L O h := fun F H r =>
  x F H ((r.perm s.p.symm).drop (List.sublist_append_left _ _))
omit hM in
theorem fops_own {ops : Array Oper} {rest : List Oper} (O' : Own) [s : Sp O O' R] (x : sfOps P M n ops Q rest L O' h) : sfOps P M n ops Q rest L O h := fun F H r =>
  x F H ((r.perm s.p.symm).drop (List.sublist_append_left _ _))
omit hM in
theorem fops_sub {ops : Array Oper} {rest : List Oper} (L' : Locals) (hs : L'.sub L) (x : sfOps P M n ops Q rest L' O h) : sfOps P M n ops Q rest L O h := fun F H r => list_sub (x F H r) hs
omit hM in
theorem sf_of_so {c : Code} (x : c.so P M n (fun e L O _ => Q e L O) L O h) : c.sf P M n Q L O h := fun F H r =>
  sl_mono (x F H r) fun e L H ⟨O, h', u, rel, y⟩ => ⟨O, rel.low u.le u.gh, y⟩
omit hM in
theorem so_of_sf {c : Code} (x : c.sf P M n Q L O h) : c.so P M n (fun e L O _ => Q e L O) L O h := fun F H r =>
  sl_mono (x F H r) fun e L H ⟨O, rel, y⟩ => ⟨O, h, Up.refl _ _, rel, y⟩
omit hM in
theorem callF_of {f : FuncId} {vs : List Value} {RR : Value → Own → PHeap → Prop} {EE : List PanicEntry → Own → PHeap → Prop} {RF : Value → Own → Prop} {EF : List PanicEntry → Own → Prop} (x : CallsP P M f vs A h RR EE)
    (hr : ∀ v O h', Le h h' → RR v O h' → RF v O) (he : ∀ v O h', Le h h' → EE v O h' → EF v O) : CallF P M f vs A h RF EF := fun F H r =>
  CallsE.mono (x F H r) (fun v H' y => fix_of_lift y (hr v)) (fun v H' y => fix_of_lift y (he v))
omit hM in
theorem callsP_of {f : FuncId} {vs : List Value} {RF : Value → Own → Prop} {EF : List PanicEntry → Own → Prop} (x : CallF P M f vs A h RF EF) : CallsP P M f vs A h (fun v O h' => h' = h ∧ RF v O) (fun v O h' => h' = h ∧ EF v O) := fun F H r =>
  CallsE.mono (x F H r) (fun v H' ⟨O, y, z⟩ => ⟨O, h, Up.refl _ _, y, rfl, z⟩) (fun v H' ⟨O, y, z⟩ => ⟨O, h, Up.refl _ _, y, rfl, z⟩)
omit hM in
theorem CallF.mono {f : FuncId} {vs : List Value} {RR RR' : Value → Own → Prop} {EE EE' : List PanicEntry → Own → Prop} (x : CallF P M f vs A h RR EE) (hr : ∀ v O, RR v O → RR' v O) (he : ∀ v O, EE v O → EE' v O) : CallF P M f vs A h RR' EE' := fun F H r =>
  CallsE.mono (x F H r) (fun v H' ⟨O, y, z⟩ => ⟨O, y, hr v O z⟩) (fun v H' ⟨O, y, z⟩ => ⟨O, y, he v O z⟩)
omit hM in
theorem CallF.to {f : FuncId} {vs : List Value} {RR RR' : Value → Own → Prop} {EE : List PanicEntry → Own → Prop} (x : CallF P M f vs A h RR EE) (hr : ∀ v O, RR v O → RR' v O) : CallF P M f vs A h RR' EE := x.mono hr fun _ _ y => y

/-! ### control -/
theorem sf_skip (x : Q .nrm L O) : Code.skip.sf P M n Q L O h := fun F H r => sl_skip ⟨O, r, x⟩
theorem sf_label {l : Nat} (x : Q .nrm L O) : (Code.label l).sf P M n Q L O h := fun F H r => sl_label ⟨O, r, x⟩
theorem sf_seq {x y : Code} (p : x.sf P M n (thenF (fun L O => y.sf P M n Q L O h) Q) L O h) : (Code.seq x y).sf P M n Q L O h := fun F H r =>
  sl_seq (sl_mono (p F H r) fun e L H q => by
    cases e with
    | nrm => obtain ⟨O, r', k⟩ := q; exact k F H r'
    | _ => exact q)
/-- What holds behind the first piece is told once. -/
theorem sf_cut {x y : Code} (Mid : Locals → Own → Prop) (p : x.sf P M n (thenF Mid Q) L O h) (k : ∀ L O, Mid L O → y.sf P M n Q L O h) : (Code.seq x y).sf P M n Q L O h :=
  sf_seq (sf_mono p fun e L O q => by cases e <;> first | exact k _ _ q | exact q)
theorem sf_cond {c : Operand} {x y : Code} {t : Bool} (hc : ev L c = some (.bool t)) (ht : t = true → x.sf P M n Q L O h) (hf : t = false → y.sf P M n Q L O h) : (Code.cond c x y).sf P M n Q L O h :=
  fun F H r => sl_cond hc (fun e => ht e F H r) (fun e => hf e F H r)
/-- A test that is told as a proposition. -/
theorem sf_if {c : Operand} {x y : Code} {p : Prop} [dp : Decidable p] (ht : p → x.sf P M n Q L O h) (hf : ¬p → y.sf P M n Q L O h) (hc : ev L c = some (.bool (decide p)) := by rfl) : (Code.cond c x y).sf P M n Q L O h :=
  sf_cond hc (fun e => ht (of_decide_eq_true e)) (fun e => hf (of_decide_eq_false e))
theorem sf_ifn {c : Operand} {x y : Code} {p : Prop} [dp : Decidable p] (ht : ¬p → x.sf P M n Q L O h) (hf : p → y.sf P M n Q L O h) (hc : ev L c = some (.bool !(decide p)) := by rfl) : (Code.cond c x y).sf P M n Q L O h :=
  sf_cond hc (fun e => ht (by simpa using e)) (fun e => hf (by simpa using e))
theorem sf_T {c : Operand} {x y : Code} {t : Bool} (hb : t = true) (hx : x.sf P M n Q L O h) (hc : ev L c = some (.bool t) := by rfl) : (Code.cond c x y).sf P M n Q L O h :=
  sf_cond hc (fun _ => hx) (fun e => by rw [hb] at e; cases e)
theorem sf_N {c : Operand} {x y : Code} {t : Bool} (hb : t = false) (hy : y.sf P M n Q L O h) (hc : ev L c = some (.bool t) := by rfl) : (Code.cond c x y).sf P M n Q L O h :=
  sf_cond hc (fun e => by rw [hb] at e; cases e) (fun _ => hy)
def blockF (id : Nat) (Q : Qf) : Qf := fun e L O => match e with
  | .exit id' => bif Nat.beq id' id then Q .nrm L O else Q (.exit id') L O
  | e => Q e L O
theorem sf_block {id : Nat} {c : Code} (x : c.sf P M n (blockF id Q) L O h) : (Code.block id c).sf P M n Q L O h := fun F H r =>
  sl_block (sl_mono (x F H r) fun e L H q => by
    cases e with
    | exit id' =>
      obtain ⟨O', y, z⟩ := q
      simp only [blockQ]
      simp only [blockF] at z
      by_cases hid : id' = id
      · subst hid; simp only [Nat.beq_refl, cond_true] at z; rw [if_pos rfl]; exact ⟨O', y, z⟩
      · have : Nat.beq id' id = false := by
          cases hb : Nat.beq id' id with
          | true => exact absurd (Nat.eq_of_beq_eq_true hb) hid
          | false => rfl
        rw [this] at z
        rw [if_neg hid]; exact ⟨O', y, z⟩
    | _ => exact q)
theorem sf_exit {id : Nat} (x : Q (.exit id) L O) : (Code.exit id).sf P M n Q L O h := fun F H r => sl_exit ⟨O, r, x⟩
theorem sf_ret (x : Q .ret L O) : Code.ret.sf P M n Q L O h := fun F H r => sl_ret ⟨O, r, x⟩

/-- A loop: 'x' tells where it stands; each round lowers the measure. -/
theorem sf_loop {ι : Type} {c : Code} (A : ι → Locals → Own → Prop) (μ : ι → Nat) (x0 : ι) (L' : Locals) (O' : Own) (h0 : A x0 L' O') (hs : L'.sub L) [sp : Sp O O' R]
    (round : ∀ x L O, A x L O → c.sf P M n (thenF (fun L O => ∃ y L' O', μ y < μ x ∧ A y L' O' ∧ L'.sub L ∧ ∃ R, Sp O O' R) Q) L O h) : (Code.loop c).sf P M n Q L O h := by
  intro F H r
  have r' := (r.perm sp.p.symm).drop (List.sublist_append_left _ _)
  have key := sl_loop (P := P) (M := M) (n := n) (Q := fixQ F h Q) (c := c) (L := L) (h := H) (ι := ι × Locals) (Lo := fun z => z.2) (A := fun z H => ∃ O, Rel F h O H ∧ A z.1 z.2 O) (μ := fun z => μ z.1) (x0, L') hs ⟨O', r', h0⟩
  refine key fun z H ⟨O, r', a⟩ => sl_mono (round z.1 z.2 O a F H r') fun e L H q => ?_
  cases e with
  | nrm =>
    obtain ⟨O2, r2, y, L2, O3, h3, h5, h4, R3, s3⟩ := q
    exact ⟨(y, L2), h3, h4, O3, (r2.perm s3.p.symm).drop (List.sublist_append_left _ _), h5⟩
  | _ => exact q

/-! ### regions -/
theorem sf_reg {id : Nat} {l : List Oper} (x : sfOps P M n l.toArray Q l L O h) : (Code.region id l.toArray false).sf P M n Q L O h := fun F H r => sl_reg (x F H r)
theorem sf_nil {ops : Array Oper} (x : Q .nrm L O) : sfOps P M n ops Q [] L O h := fun F H r => l_nil ⟨O, r, x⟩

def nextF (P : Program) (M : Jdg → Prop) (n : Nat) (ops : Array Oper) (Q : Qf) (rest : List Oper) (L : Locals) (d : Option Nat) (h : PHeap) (r : Next) (O : Own) (h' : PHeap) : Prop :=
  h' = h ∧ match r with
  | .value v => sfOps P M n ops Q rest (setL d v L) O h
  | .skip => sfOps P M n ops Q rest (setL d undef L) O h
  | .enter f args => ∃ A R, O.Perm (A ++ R) ∧ CallF P M f args.toList A h (fun v A' => sfOps P M n ops Q rest (setL d v L) (A' ++ R) h) (fun ch A' => Q (.pan ch) L (A' ++ R))
  | _ => False
def panF (Q : Qf) (L : Locals) : Value → Own → PHeap → Prop := fun v O _ => Q (.pan [{ v, recovered := false }]) L O
variable {ops : Array Oper} {rest : List Oper} {o : Oper}
omit hM in
theorem nextF_ok {F H : PHeap} {d : Option Nat} {r : Next} (x : lift F h (nextF P M n ops Q rest L d h) r H) : nextL P M n ops (fixQ F h Q) rest L d r H := by
  obtain ⟨O, h', u, rl, rfl, x⟩ := x
  cases r with
  | value v => exact x F H rl
  | skip => exact x F H rl
  | enter f args =>
    obtain ⟨A, R, hp, x⟩ := x
    have rl' := rl.perm hp.symm
    refine CallsE.mono (x _ _ rl'.down.1) (fun v H' q => ?_) (fun ch H' q => ?_)
    · obtain ⟨A', r2, q⟩ := q
      exact q F H' (rl'.back (Up.refl _ _) r2).1
    · obtain ⟨A', r2, q⟩ := q
      exact ⟨_, (rl'.back (Up.refl _ _) r2).1, q⟩
  | _ => exact x.elim
omit hM in
theorem panF_ok {F H : PHeap} {v : Value} (x : lift F h (panF Q L) v H) : fixQ F h Q (.pan [{ v, recovered := false }]) L H := by
  obtain ⟨O, h', u, rl, x⟩ := x
  exact ⟨O, rl.low u.le u.gh, x⟩
theorem sf_plain (hg : o.guard = none) (hd : dstOk n o.dst = true) (x : opo P n o L O h (nextF P M n ops Q rest L o.dst h) (panF Q L)) : sfOps P M n ops Q (o :: rest) L O h :=
  fun F H r => l_plain hg hd fun a ha => slp_mono (fun r H' y => nextF_ok y) (fun v H' y => panF_ok y) (x F H r a ha)
theorem sf_guard {j dj : Nat} {want b : Bool} (hg : o.guard = some (j, want)) (hd : dstOk n o.dst = true) (hj : (ops[j]?).bind (·.dst) = some dj) (hb : L.get dj = some (.bool b))
    (hT : b = want → opo P n o L O h (nextF P M n ops Q rest L o.dst h) (panF Q L)) (hF : b = !want → sfOps P M n ops Q rest (setL o.dst undef L) O h) : sfOps P M n ops Q (o :: rest) L O h :=
  fun F H r => l_guard hg hd hj hb (fun e a ha => slp_mono (fun r H' y => nextF_ok y) (fun v H' y => panF_ok y) (hT e F H r a ha)) (fun e => hF e F H r)

/-! ### the body of a function -/
def retF (P : Program) (fn : Func) (n : Nat) (R : Value → Own → Prop) (E : List PanicEntry → Own → Prop) : Qf := fun e L O =>
  match e with
  | .nrm | .ret => ∀ F h H, Rel F h O H → ∀ tm, Agree n L tm → (results fn tm).slp P (fix F h R) (fun _ _ => False) H
  | .pan ch => E ch O
  | .exit _ => False
theorem calls_of_sf {f : FuncId} {fn : Func} {c : Code} {vs : List Value} {R : Value → Own → Prop} {E : List PanicEntry → Own → Prop}
    (hf : P.funcs[f]? = some fn) (hb : fn.body = some c) (hn : fn.ntmps = n) (x : c.sf P M n (retF P fn n R E) (argsL 0 vs) O h) (hsz : Nat.ble vs.length n = true := by rfl) : CallF P M f vs O h R E := fun F H r =>
  calls_of_sl hf hb hn hsz (sl_mono (x F H r) fun e L H' q => by
    obtain ⟨O', r', q⟩ := q
    cases e with
    | nrm => exact fun tm ha => q F h H' r' tm ha
    | ret => exact fun tm ha => q F h H' r' tm ha
    | pan ch => exact ⟨O', r', q⟩
    | exit id => exact q.elim)

/-! ### lending -/
def _root_.Go.Sl.PHeap.puts (h : PHeap) : Own → PHeap
  | [] => h
  | (b, o) :: A => (puts h A).put b o
theorem puts_gh (h : PHeap) : ∀ A : Own, (h.puts A).gh = h.gh
  | [] => rfl
  | (_, _) :: A => puts_gh h A
theorem puts_obj (h : PHeap) : ∀ (A : Own), (A.map Prod.fst).Nodup → ∀ b o, (b, o) ∈ A → (h.puts A).obj b = some o ∧ (h.puts A).wr b = true
  | [], _, _, _, m => by cases m
  | (c, x) :: A, nd, b, o, m => by
    have nd' := List.nodup_cons.1 nd
    rcases List.mem_cons.1 m with e | m
    · cases e; exact ⟨obj_put _ _ _, wr_put _ _ _⟩
    · have hne : b ≠ c := fun e => nd'.1 (List.mem_map.2 ⟨(b, o), m, e⟩)
      obtain ⟨a1, a2⟩ := puts_obj h A nd'.2 b o m
      exact ⟨by show ((h.puts A).put c x).obj b = _; rw [obj_put_ne hne]; exact a1, by show ((h.puts A).put c x).wr b = _; rw [wr_put_ne hne]; exact a2⟩
theorem puts_old (h : PHeap) : ∀ (A : Own) (b : Nat), b ∉ A.map Prod.fst → (h.puts A).obj b = h.obj b ∧ (h.puts A).wr b = h.wr b
  | [], _, _ => ⟨rfl, rfl⟩
  | (c, x) :: A, b, m => by
    simp only [List.map_cons, List.mem_cons, not_or] at m
    obtain ⟨a1, a2⟩ := puts_old h A b m.2
    exact ⟨by show ((h.puts A).put c x).obj b = _; rw [obj_put_ne m.1]; exact a1, by show ((h.puts A).put c x).wr b = _; rw [wr_put_ne m.1]; exact a2⟩
omit hM in
theorem Rel.lend {F H : PHeap} (r : Rel F h (A ++ R) H) : Rel F (h.puts A) R H ∧ Le h (h.puts A) ∧ InB (h.puts A) A := by
  have hnd := r.nd
  rw [List.map_append, List.nodup_append] at hnd
  have hA : ∀ b, b ∈ A.map Prod.fst → ∃ o, (b, o) ∈ A := fun b m => by
    obtain ⟨⟨c, x⟩, m2, e⟩ := List.mem_map.1 m
    simp only at e; subst e; exact ⟨x, m2⟩
  have hle : h ≤ h.puts A := fun b o e => by
    have hb : b ∉ A.map Prod.fst := fun m => by
      obtain ⟨x, m⟩ := hA b m
      have := (r.own b x (by simp [m])).2.2.2
      rw [e] at this; cases this
    rw [(puts_old h A b hb).1, (puts_old h A b hb).2]; exact ⟨e, rfl⟩
  refine ⟨⟨r.fr, fun b o e => ?_, fun b o m => ?_, hnd.2.1, by rw [puts_gh]; exact r.gh⟩, ⟨hle, puts_gh h A⟩, ⟨fun b o m => (puts_obj h A hnd.1 b o m).1⟩⟩
  · by_cases hb : b ∈ A.map Prod.fst
    · obtain ⟨x, m⟩ := hA b hb
      obtain ⟨a1, a2⟩ := puts_obj h A hnd.1 b x m
      obtain rfl : x = o := Option.some.inj (a1.symm.trans e)
      obtain ⟨c1, c2, _⟩ := r.own b x (by simp [m])
      exact ⟨c1, c2.trans a2.symm⟩
    · rw [(puts_old h A b hb).1] at e
      rw [(puts_old h A b hb).2]
      exact r.base b o e
  · obtain ⟨a1, a2, a3, a4⟩ := r.own b o (by simp [m])
    refine ⟨a1, a2, a3, ?_⟩
    have hb : b ∉ A.map Prod.fst := fun hm => hnd.2.2 b hm b (List.mem_map.2 ⟨_, m, rfl⟩) rfl
    rw [(puts_old h A b hb).1]; exact a4
omit hM in
theorem Rel.unlend {F H H' : PHeap} (r : Rel F h (A ++ R) H) (r' : Rel F (h.puts A) O' H') : Rel F h (A ++ O') H' := by
  have hnd := r.nd
  rw [List.map_append, List.nodup_append] at hnd
  obtain ⟨_, hle, _⟩ := r.lend
  refine ⟨r'.fr, le_trans hle.le r'.base, fun b o m => ?_, ?_, r'.gh.trans (puts_gh h A)⟩
  · rcases List.mem_append.1 m with m | m
    · obtain ⟨_, _, a3, a4⟩ := r.own b o (by simp [m])
      obtain ⟨c1, c2⟩ := puts_obj h A hnd.1 b o m
      obtain ⟨d1, d2⟩ := r'.base b o c1
      exact ⟨d1, d2.trans c2, a3, a4⟩
    · obtain ⟨a1, a2, a3, a4⟩ := r'.own b o m
      exact ⟨a1, a2, a3, le_none hle.le a4⟩
  · rw [List.map_append, List.nodup_append]
    refine ⟨hnd.1, r'.nd, fun b hb c hc e => ?_⟩
    subst e
    obtain ⟨⟨c, x⟩, m, rfl⟩ := List.mem_map.1 hb
    obtain ⟨⟨d, y⟩, m', e⟩ := List.mem_map.1 hc
    simp only at e; subst e
    have := (r'.own d y m').2.2.2
    rw [(puts_obj h A hnd.1 d x m).1] at this; cases this
omit hM in
/-- Blocks of one's own are lent to the base. -/
theorem sf_lend {c : Code} (A : Own) [s : Sp O A R] (x : ∀ h', Le h h' → InB h' A → c.sf P M n (fun e L O' => Q e L (A ++ O')) L R h') : c.sf P M n Q L O h := fun F H r => by
  have r0 := r.perm s.p.symm
  obtain ⟨r1, l, i⟩ := r0.lend
  exact sl_mono (x _ l i F H r1) fun e L H' ⟨O', y, z⟩ => ⟨_, r0.unlend y, z⟩
omit hM in
theorem fops_lend {ops : Array Oper} {rest : List Oper} (A : Own) [s : Sp O A R] (x : ∀ h', Le h h' → InB h' A → sfOps P M n ops (fun e L O' => Q e L (A ++ O')) rest L R h') : sfOps P M n ops Q rest L O h := fun F H r l e => by
  have r0 := r.perm s.p.symm
  obtain ⟨r1, l', i⟩ := r0.lend
  exact ops_mono (x _ l' i F H r1 l e) fun e L H' ⟨O', y, z⟩ => ⟨_, r0.unlend y, z⟩
omit hM in
theorem CallF.lend {f : FuncId} {vs : List Value} {RR : Value → Own → Prop} {EE : List PanicEntry → Own → Prop} (B : Own) (x : ∀ h', Le h h' → InB h' B → CallF P M f vs A h' RR EE) :
    CallF P M f vs (B ++ A) h (fun v A' => ∃ A2, A' = B ++ A2 ∧ RR v A2) (fun v A' => ∃ A2, A' = B ++ A2 ∧ EE v A2) := fun F H r => by
  obtain ⟨r1, l, i⟩ := r.lend
  exact CallsE.mono (x _ l i F H r1) (fun v H' ⟨O', y, z⟩ => ⟨_, r.unlend y, O', rfl, z⟩) (fun v H' ⟨O', y, z⟩ => ⟨_, r.unlend y, O', rfl, z⟩)
omit hM in
theorem CallV.lend {f : FuncId} {vs : List Value} {v : Value} (B : Own) (x : ∀ h', Le h h' → InB h' B → CallV P M f vs h' v) : CallF P M f vs B h (fun v' A' => v' = v ∧ A' = B) := by
  have := CallF.lend (A := []) B x
  rw [List.append_nil] at this
  exact this.mono (fun v O ⟨A2, e, e1, e2⟩ => ⟨e1, by rw [e, e2, List.append_nil]⟩) fun _ _ ⟨_, _, y⟩ => y.elim
end
end Go.Sl

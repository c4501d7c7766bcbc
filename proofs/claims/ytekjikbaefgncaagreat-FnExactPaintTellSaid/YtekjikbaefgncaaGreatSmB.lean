/- Rules for operations over a fixed base; the walk straight on. No program. -/
import Derived.Test.YtekjikbaefgncaaGreatLibA
set_option linter.unusedVariables false
set_option linter.unusedSimpArgs false
set_option linter.unusedSectionVars false

namespace Go.Sl
open Go Go.Conc PHeap

section
variable {P : Program} {M : Jdg → Prop} [hM : IsCl P M] {n : Nat} {Q : Qf} {L L' : Locals} {O O' R A B : Own} {h : PHeap} {ops : Array Oper} {rest : List Oper} {o : Oper}
  {d : Option Nat} {ty : TypeId} {pos : String} {af : Array Edge} {g : Option (Nat × Bool)} {op : Op} {x y : Operand}
  {t e : TypeId} {D D' : TypeDesc} {size bytes size' bytes' : Nat} {zero zero' : Value} {α : Type} {fl : Flat α}

/-- One operation to carry out. -/
def Do1 (P : Program) (M : Jdg → Prop) (n : Nat) (ops : Array Oper) (Q : Qf) (o : Oper) (rest : List Oper) (L : Locals) (O : Own) (h : PHeap) : Prop :=
  opo P n o L O h (nextF P M n ops Q rest L o.dst h) (panF Q L)

theorem f_p (x : Do1 P M n ops Q ⟨d, op, ty, pos, af, none⟩ rest L O h) (hd : dstOk n d = true := by rfl) : sfOps P M n ops Q (⟨d, op, ty, pos, af, none⟩ :: rest) L O h := sf_plain rfl hd x
theorem f_g {j dj : Nat} {want b : Bool} (hj : (ops[j]?).bind (·.dst) = some dj) (hb : L.get dj = some (.bool b)) (hbw : b = want) (x : Do1 P M n ops Q ⟨d, op, ty, pos, af, some (j, want)⟩ rest L O h) (hd : dstOk n d = true := by rfl) : sfOps P M n ops Q (⟨d, op, ty, pos, af, some (j, want)⟩ :: rest) L O h :=
  sf_guard rfl hd hj hb (fun _ => x) (fun e => by rw [hbw] at e; cases want <;> cases e)
theorem f_gF {j dj : Nat} {want b : Bool} (hj : (ops[j]?).bind (·.dst) = some dj) (hb : L.get dj = some (.bool b)) (hbw : b = !want) (k : sfOps P M n ops Q rest (setL d undef L) O h) (hd : dstOk n d = true := by rfl) : sfOps P M n ops Q (⟨d, op, ty, pos, af, some (j, want)⟩ :: rest) L O h :=
  sf_guard rfl hd hj hb (fun e => by rw [hbw] at e; cases want <;> cases e) (fun _ => k)
theorem f_gU {j dj : Nat} {want : Bool} (hj : (ops[j]?).bind (·.dst) = some dj) (hb : L.get dj = some undef) (k : sfOps P M n ops Q rest (setL d undef L) O h) (hd : dstOk n d = true := by rfl) : sfOps P M n ops Q (⟨d, op, ty, pos, af, some (j, want)⟩ :: rest) L O h := fun F H r => by
  have hy : ∀ tm, Agree n L tm → yielded ops tm j = none := fun tm ha => by simp [yielded, hj, ha.at' _ _ hb, undef]
  intro l e
  cases l with
  | nil => simp at e
  | cons i l =>
    simp only [List.map_cons, List.cons.injEq] at e
    refine ops_skip e.1 (fun d' hd' => ?_) (fun tm ha => by simp [Region.wanted, hy tm ha]) (k F H r l e.2)
    simp only at hd'
    rw [hd'] at hd; exact Nat.lt_of_lt_of_le (Nat.lt_succ_self d') (Nat.le_of_ble_eq_true hd)
omit hM in
/-- Which of the two it is, is asked ahead. -/
theorem f_split {j dj : Nat} {want : Bool} {p : Prop} [dp : Decidable p] (kT : p → sfOps P M n ops Q (⟨d, op, ty, pos, af, some (j, want)⟩ :: rest) L O h) (kF : ¬p → sfOps P M n ops Q (⟨d, op, ty, pos, af, some (j, want)⟩ :: rest) L O h) (hj : (ops[j]?).bind (·.dst) = some dj := by rfl) (hb : L.get dj = some (.bool (decide p)) := by rfl) :
    sfOps P M n ops Q (⟨d, op, ty, pos, af, some (j, want)⟩ :: rest) L O h := by
  by_cases e : p
  · exact kT e
  · exact kF e
omit hM in
theorem f_splitn {j dj : Nat} {want : Bool} {p : Prop} [dp : Decidable p] (kT : ¬p → sfOps P M n ops Q (⟨d, op, ty, pos, af, some (j, want)⟩ :: rest) L O h) (kF : p → sfOps P M n ops Q (⟨d, op, ty, pos, af, some (j, want)⟩ :: rest) L O h) (hj : (ops[j]?).bind (·.dst) = some dj := by rfl) (hb : L.get dj = some (.bool !(decide p)) := by rfl) :
    sfOps P M n ops Q (⟨d, op, ty, pos, af, some (j, want)⟩ :: rest) L O h := by
  by_cases e : p
  · exact kF e
  · exact kT e
omit hM in
theorem f_splitB {j dj : Nat} {want b : Bool} (kT : b = true → sfOps P M n ops Q (⟨d, op, ty, pos, af, some (j, want)⟩ :: rest) L O h) (kF : b = false → sfOps P M n ops Q (⟨d, op, ty, pos, af, some (j, want)⟩ :: rest) L O h) (hj : (ops[j]?).bind (·.dst) = some dj := by rfl) (hb : L.get dj = some (.bool b) := by rfl) :
    sfOps P M n ops Q (⟨d, op, ty, pos, af, some (j, want)⟩ :: rest) L O h := by
  cases b
  · exact kF rfl
  · exact kT rfl

omit hM in
theorem x_q {v : Value} (x : Opq P n ⟨d, op, ty, pos, af, g⟩ L O h v) (k : sfOps P M n ops Q rest (setL d v L) O h) : Do1 P M n ops Q ⟨d, op, ty, pos, af, g⟩ rest L O h :=
  opo_mono x (fun r O' h' _ y => by obtain ⟨rfl, rfl, rfl⟩ := y; exact ⟨rfl, k⟩) (fun _ _ _ _ y => y.elim)
omit hM in
theorem x_alloc (T : Ty P t D size bytes zero) (k : ∀ b, sfOps P M n ops Q rest (setL d (.pointer (some ⟨b, 0, none⟩)) L) ((b, .cells zero.cells t) :: O) h) : Do1 P M n ops Q ⟨d, .alloc t, ty, pos, af, g⟩ rest L O h :=
  c_alloc T fun b => ⟨rfl, k b⟩
omit hM in
theorem x_box {v : Value} (hx : ev L x = some v) (k : ∀ b, sfOps P M n ops Q rest (setL d (.pointer (some ⟨b, 0, none⟩)) L) ((b, .cells v.cells t) :: O) h) : Do1 P M n ops Q ⟨d, .box t x, ty, pos, af, g⟩ rest L O h :=
  c_box hx fun b => ⟨rfl, k b⟩
omit hM in
theorem x_store (T : Ty P t D size bytes zero) {v : Value} {b off : Nat} {c : Array Value} {T' : TypeId} (hx : ev L x = some (.pointer (some ⟨b, off, none⟩))) (hy : ev L y = some v) (m : OwnAt O b (.cells c T' (0, 0)))
    (hs : v.cells.size = size) (hle : Nat.ble (off + v.cells.toList.length) c.size = true) (ho : allOne v.cells.toList = true) (w : OwnSet O b (.cells (setCells c off v.cells.toList) T' (0, 0)) O') (k : sfOps P M n ops Q rest (setL d undef L) O' h) :
    Do1 P M n ops Q ⟨d, .store t x y, ty, pos, af, g⟩ rest L O h := c_store T hx hy m hs hle ho w ⟨rfl, k⟩
omit hM in
theorem x_buildSlice (T : Ty P t (.slice e) size' bytes' zero') (Te : Ty P e D size bytes zero) {len : Nat} {parts : Array (Nat × Operand)} {ps : List (Nat × Value)} {l : List Value} (hp : evParts L parts.toList = some ps) (hl : Nat.beq ps.length len = true) (hs : Nat.ble (len * size) 16777216 = true) (hf : partsAll size 0 ps = some l)
    (k : ∀ b, sfOps P M n ops Q rest (setL d (.slice (some ⟨b, 0, none⟩) len len) L) ((b, .cells l.toArray e) :: O) h) : Do1 P M n ops Q ⟨d, .buildSlice t len parts, ty, pos, af, g⟩ rest L O h :=
  c_buildSlice T Te hp hl hs hf fun b => ⟨rfl, k b⟩

/-! ### calls -/
omit hM in
theorem x_call {f : FuncId} {args : Array Operand} {ats : Array TypeId} {vs : List Value} {RR : Value → Own → Prop} [Fu : Fun P f] (C : CallF P M f vs A h RR) (hv : evAll L args.toList = some vs) [sp : Sp O A R] (k : ∀ v A', RR v A' → sfOps P M n ops Q rest (setL d v L) (A' ++ R) h) :
    Do1 P M n ops Q ⟨d, .call { callee := .value (.func f), args, argTypes := ats }, ty, pos, af, g⟩ rest L O h :=
  c_call Fu hv ⟨rfl, A, R, sp.p, by simpa using C.mono (fun v A' y => k v A' y) (fun _ _ y => y.elim)⟩
omit hM in
theorem x_callV {f : FuncId} {args : Array Operand} {ats : Array TypeId} {vs : List Value} {v : Value} [Fu : Fun P f] (C : CallV P M f vs h v) (hv : evAll L args.toList = some vs) (k : sfOps P M n ops Q rest (setL d v L) O h) :
    Do1 P M n ops Q ⟨d, .call { callee := .value (.func f), args, argTypes := ats }, ty, pos, af, g⟩ rest L O h :=
  c_call Fu hv ⟨rfl, [], O, .refl _, by simpa using C.mono (fun v A' y => by obtain ⟨rfl, rfl⟩ := y; exact k) (fun _ _ y => y.elim)⟩
omit hM in
/-- A call that may panic. -/
theorem x_callE {f : FuncId} {args : Array Operand} {ats : Array TypeId} {vs : List Value} {RR : Value → Own → Prop} {EE : List PanicEntry → Own → Prop} [Fu : Fun P f] (C : CallF P M f vs A h RR EE) (hv : evAll L args.toList = some vs) [sp : Sp O A R] (k : ∀ v A', RR v A' → sfOps P M n ops Q rest (setL d v L) (A' ++ R) h)
    (ke : ∀ ch A', EE ch A' → Q (.pan ch) L (A' ++ R)) : Do1 P M n ops Q ⟨d, .call { callee := .value (.func f), args, argTypes := ats }, ty, pos, af, g⟩ rest L O h :=
  c_call Fu hv ⟨rfl, A, R, sp.p, by simpa using C.mono (fun v A' y => k v A' y) (fun v A' y => ke v A' y)⟩
omit hM in
/-- A call with blocks of one's own lent. -/
theorem x_lend {f : FuncId} {args : Array Operand} {ats : Array TypeId} {vs : List Value} {RR : Value → Own → Prop} [Fu : Fun P f] (B : Own) (C : ∀ h', Le h h' → InB h' B → CallF P M f vs A h' RR) (hv : evAll L args.toList = some vs) [sp : Sp O (B ++ A) R] (k : ∀ v A', RR v A' → sfOps P M n ops Q rest (setL d v L) (A' ++ (B ++ R)) h) :
    Do1 P M n ops Q ⟨d, .call { callee := .value (.func f), args, argTypes := ats }, ty, pos, af, g⟩ rest L O h :=
  c_call Fu hv ⟨rfl, B ++ A, R, sp.p, by
    simpa using (CallF.lend B C).mono (fun v A' y => by
      obtain ⟨A2, rfl, y⟩ := y
      have := k v A2 y
      refine fun F H r => this F H (r.perm ?_)
      rw [← List.append_assoc]
      exact List.perm_append_comm.append_right R) (fun _ _ y => by obtain ⟨_, _, y⟩ := y; exact y.elim)⟩
omit hM in
theorem x_lendV {f : FuncId} {args : Array Operand} {ats : Array TypeId} {vs : List Value} {v : Value} [Fu : Fun P f] (B : Own) (C : ∀ h', Le h h' → InB h' B → CallV P M f vs h' v) (hv : evAll L args.toList = some vs) [sp : Sp O B R] (k : sfOps P M n ops Q rest (setL d v L) O h) :
    Do1 P M n ops Q ⟨d, .call { callee := .value (.func f), args, argTypes := ats }, ty, pos, af, g⟩ rest L O h :=
  c_call Fu hv ⟨rfl, B, R, sp.p, by
    simpa using (CallV.lend B C).mono (fun v A' y => by
      obtain ⟨rfl, rfl⟩ := y
      exact fun F H r => k F H (r.perm sp.p)) (fun _ _ y => y.elim)⟩
omit hM in
/-- A call of a function value. -/
theorem x_callC {fo : Operand} {f : FuncId} {first captured : Array Value} {args : Array Operand} {ats : Array TypeId} {vs : List Value} {RR : Value → Own → Prop} [Fu : Fun P f] (hf : ev L fo = some (.func (.func f) first captured)) (hv : evAll L args.toList = some vs) (C : CallF P M f (first.toList ++ vs ++ captured.toList) A h RR) [sp : Sp O A R] (k : ∀ v A', RR v A' → sfOps P M n ops Q rest (setL d v L) (A' ++ R) h) :
    Do1 P M n ops Q ⟨d, .call { callee := .value fo, args, argTypes := ats }, ty, pos, af, g⟩ rest L O h := fun F H r =>
  o_callv hf hv (lift.here r ⟨rfl, A, R, sp.p, by simpa using C.mono (fun v A' y => k v A' y) (fun _ _ y => y.elim)⟩)
omit hM in
theorem x_callCV {fo : Operand} {f : FuncId} {first captured : Array Value} {args : Array Operand} {ats : Array TypeId} {vs : List Value} {v : Value} [Fu : Fun P f] (hf : ev L fo = some (.func (.func f) first captured)) (hv : evAll L args.toList = some vs) (C : CallV P M f (first.toList ++ vs ++ captured.toList) h v) (k : sfOps P M n ops Q rest (setL d v L) O h) :
    Do1 P M n ops Q ⟨d, .call { callee := .value fo, args, argTypes := ats }, ty, pos, af, g⟩ rest L O h := fun F H r =>
  o_callv hf hv (lift.here r ⟨rfl, [], O, .refl _, by simpa using C.mono (fun v A' y => by obtain ⟨rfl, rfl⟩ := y; exact k) (fun _ _ y => y.elim)⟩)

/-! ### handing back -/
omit hM in
theorem rt {fn : Func} {RR : Value → Own → Prop} {E : List PanicEntry → Own → Prop} {v : Value} (O' : Own) (hr : ResV P fn n L O v) [sp : Sp O O' R] (x : RR v O') : retF P fn n RR E .ret L O :=
  fun F h H r tm ha => hr F h H tm r ha _ _ (fix.here ((r.perm sp.p.symm).drop (List.sublist_append_left _ _)) x)
omit hM in
theorem rn {fn : Func} {RR : Value → Own → Prop} {E : List PanicEntry → Own → Prop} {v : Value} (O' : Own) (hr : ResV P fn n L O v) [sp : Sp O O' R] (x : RR v O') : retF P fn n RR E .nrm L O :=
  fun F h H r tm ha => hr F h H tm r ha _ _ (fix.here ((r.perm sp.p.symm).drop (List.sublist_append_left _ _)) x)
omit hM in
theorem rv {fn : Func} {E : List PanicEntry → Own → Prop} {v v0 : Value} (hr : ResV P fn n L O v) (x : v = v0) : retF P fn n (fun v A => v = v0 ∧ A = []) E .ret L O :=
  fun F h H r tm ha => hr F h H tm r ha _ _ (fix.here (r.drop (List.nil_sublist _)) ⟨x, rfl⟩)
omit hM in
theorem resV_three {fn : Func} {r s u : ResultVar} {v1 v2 v3 : Value} (hf : fn.results = #[r, s, u]) (x : Res1 P n L O r v1) (y : Res1 P n L O s v2) (z : Res1 P n L O u v3) : ResV P fn n L O (.tuple #[v1, v2, v3]) := fun F h H tm rl ha K E k => by
  simp only [results_eq, hf, slp_bind]
  refine slp_mapM_res _ _ _ _ [r, s, u] [v1, v2, v3] rfl (fun i r' v' h1 h2 K E k => ?_) (by simpa [slp_pure] using k)
  match i, h1, h2 with
  | 0, h1, h2 => cases h1; cases h2; exact x.slp rl ha K E k
  | 1, h1, h2 => cases h1; cases h2; exact y.slp rl ha K E k
  | 2, h1, h2 => cases h1; cases h2; exact z.slp rl ha K E k
omit hM in
theorem resV_four {fn : Func} {r s u w : ResultVar} {v1 v2 v3 v4 : Value} (hf : fn.results = #[r, s, u, w]) (x : Res1 P n L O r v1) (y : Res1 P n L O s v2) (z : Res1 P n L O u v3) (z' : Res1 P n L O w v4) : ResV P fn n L O (.tuple #[v1, v2, v3, v4]) := fun F h H tm rl ha K E k => by
  simp only [results_eq, hf, slp_bind]
  refine slp_mapM_res _ _ _ _ [r, s, u, w] [v1, v2, v3, v4] rfl (fun i r' v' h1 h2 K E k => ?_) (by simpa [slp_pure] using k)
  match i, h1, h2 with
  | 0, h1, h2 => cases h1; cases h2; exact x.slp rl ha K E k
  | 1, h1, h2 => cases h1; cases h2; exact y.slp rl ha K E k
  | 2, h1, h2 => cases h1; cases h2; exact z.slp rl ha K E k
  | 3, h1, h2 => cases h1; cases h2; exact z'.slp rl ha K E k

/-! ### numbers -/
theorem wrap_in {z : Int} (h1 : -9223372036854775808 ≤ z) (h2 : z ≤ 9223372036854775807) : IntKind.i64.wrap z = z := by
  rw [IntKind.wrap_i64]; omega
variable {kd : IntKind} {a b : Int} {t' : TypeId} {h0 : PHeap}
omit hM in
theorem q_add64 (hx : ev L x = some (.int .i64 a)) (hy : ev L y = some (.int .i64 b)) (h : -9223372036854775808 ≤ a + b ∧ a + b ≤ 9223372036854775807) : Opq P n ⟨d, .binOp .add t x y t', ty, pos, af, g⟩ L O h0 (.int .i64 (a + b)) := by
  have := q_num (P := P) (n := n) (O := O) (h := h0) (d := d) (t := t) (t' := t') (ty := ty) (pos := pos) (af := af) (g := g) (op := .add) hx hy rfl
  rwa [wrap_in h.1 h.2] at this
omit hM in
theorem q_sub64 (hx : ev L x = some (.int .i64 a)) (hy : ev L y = some (.int .i64 b)) (h : -9223372036854775808 ≤ a - b ∧ a - b ≤ 9223372036854775807) : Opq P n ⟨d, .binOp .sub t x y t', ty, pos, af, g⟩ L O h0 (.int .i64 (a - b)) := by
  have := q_num (P := P) (n := n) (O := O) (h := h0) (d := d) (t := t) (t' := t') (ty := ty) (pos := pos) (af := af) (g := g) (op := .sub) hx hy rfl
  rwa [wrap_in h.1 h.2] at this
omit hM in
theorem q_mul64 (hx : ev L x = some (.int .i64 a)) (hy : ev L y = some (.int .i64 b)) (h : -9223372036854775808 ≤ a * b ∧ a * b ≤ 9223372036854775807) : Opq P n ⟨d, .binOp .mul t x y t', ty, pos, af, g⟩ L O h0 (.int .i64 (a * b)) := by
  have := q_num (P := P) (n := n) (O := O) (h := h0) (d := d) (t := t) (t' := t') (ty := ty) (pos := pos) (af := af) (g := g) (op := .mul) hx hy rfl
  rwa [wrap_in h.1 h.2] at this
end
end Go.Sl

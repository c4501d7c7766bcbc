/- Wrappers at the walk's own level; tests for nil; make; cutting. No program. -/
import Derived.Test.YtcefbjpebgofjaaSlM
namespace Go.Sl
open Go Go.Conc PHeap

def isNilS : Value → Bool
  | .slice none _ _ => true
  | _ => false
theorem isNilS_nil {h : PHeap} {v : Value} {α : Type} {E : Flat α} {xs : List α} (s : Sl h v E xs) (e : isNilS v = true) : xs = [] ∧ v = .slice none 0 0 := by
  rcases s.reads with ⟨a, b⟩ | ⟨cap, a, _⟩
  · exact ⟨b, a⟩
  · rw [a] at e; cases e
theorem gr_lit {b m : Nat} {l : List Value} {T : TypeId} {α : Type} {E : Flat α} {xs : List α} (h1 : l = xs.flatMap E.f) (h2 : m = xs.length) : Gr [(b, .cells l.toArray T)] (.slice (some ⟨b, 0, none⟩) m m) T E xs := by
  subst h1 h2
  exact ⟨.inr ⟨b, xs.length, [], rfl, by simp, by rw [List.append_nil, flat_length], Nat.le_refl _⟩⟩

section
variable {P : Program} {M : Jdg → Prop} [hM : IsCl P M] {n : Nat} {Q : Qo} {ops : Array Oper} {rest : List Oper} {L : Locals} {O R A : Own} {h : PHeap} {d : Option Nat} {ty : TypeId} {pos : String} {af : Array Edge} {g : Option (Nat × Bool)}
  {t e : TypeId} {D D' : TypeDesc} {size bytes size' bytes' : Nat} {zero zero' : Value} {K : Next → Own → PHeap → Prop} {E : Value → Own → PHeap → Prop} {α : Type} {fl : Flat α} {x y : Operand} {t' : TypeId}

theorem op_buildSlice (T : Ty P t (.slice e) size' bytes' zero') (Te : Ty P e D size bytes zero) {len : Nat} {parts : Array (Nat × Operand)} {ps : List (Nat × Value)} {l : List Value} (hp : evParts L parts.toList = some ps) (hl : Nat.beq ps.length len = true) (hs : Nat.ble (len * size) 16777216 = true) (hf : partsAll size 0 ps = some l)
    (k : ∀ b, soOps P M n ops Q rest (setL d (.slice (some ⟨b, 0, none⟩) len len) L) ((b, .cells l.toArray e) :: O) h) (hd : dstOk n d = true := by rfl) : soOps P M n ops Q (⟨d, .buildSlice t len parts, ty, pos, af, none⟩ :: rest) L O h :=
  so_plain rfl hd (c_buildSlice T Te hp hl hs hf k)
theorem op_append {args : Array Operand} {ats : Array TypeId} {v u : Value} {xs ys : List α} (hv : evAll L args.toList = some [v, u]) (ht : ats = #[t, t]) (S : Ty P t (.slice e) size' bytes' zero') (Te : Ty P e D size bytes zero) (hz : zero.cells.size = size) (gr : Gr A v e fl xs) (hO : O.Perm (A ++ R)) (hsz : fl.sz = size)
    (src : Src h R u ys.length (ys.flatMap fl.f)) (one : ∀ y ∈ ys, allOne (fl.f y) = true) (hb : (xs.length + ys.length) * bytes ≤ 140737488355328) (h63 : xs.length + ys.length ≤ 4611686018427387904)
    (k : ∀ v' A', Gr A' v' e fl (xs ++ ys) → soOps P M n ops Q rest (setL d v' L) (A' ++ R) h) (hd : dstOk n d = true := by rfl) :
    soOps P M n ops Q (⟨d, .call { callee := .builtin .append, args, argTypes := ats }, ty, pos, af, none⟩ :: rest) L O h :=
  so_plain rfl hd (c_append hv ht S Te hz gr hO hsz src one hb h63 k)

omit hM in
theorem slp_eqNil {H : PHeap} {Kk : Value → PHeap → Prop} {Ee : Value → PHeap → Prop} (op : BinOp) (hop : op = .eql ∨ op = .neq) (S : Ty P t (.slice e) size bytes zero) {base : Option Addr} {len cap : Nat} (x y : Operand)
    (k : Kk (.bool (if op = .eql then base.isNone else !base.isNone)) H) : (do eqGuard op t x y (.slice base len cap) (.slice none 0 0); binOp op t (.slice base len cap) (.slice none 0 0) : Sem Value).slp P Kk Ee H := by
  have e1 : Sem.slp P (fun (b : Bool) H' => b = base.isNone ∧ H' = H) Ee (Op.equal t (.slice base len cap) (.slice none 0 0)) H := by
    unfold Op.equal Op.maxDepth
    rw [show (10000 : Nat) = 9999 + 1 from rfl]
    unfold Op.equalIn
    rw [slp_bind]
    refine slp_underlying S.und ?_
    cases base <;> exact ⟨rfl, rfl⟩
  rcases hop with rfl | rfl
  · have eg : eqGuard .eql t x y (.slice base len cap) (.slice none 0 0) = pure () := rfl
    rw [eg, slp_bind, slp_pure]
    simp only [binOp]
    rw [slp_bind]
    refine slp_mono ?_ (fun _ _ y => y) e1
    rintro b H' ⟨rfl, rfl⟩
    rw [slp_pure]
    simpa using k
  · have eg : eqGuard .neq t x y (.slice base len cap) (.slice none 0 0) = pure () := rfl
    rw [eg, slp_bind, slp_pure]
    simp only [binOp]
    rw [slp_bind]
    refine slp_mono ?_ (fun _ _ y => y) e1
    rintro b H' ⟨rfl, rfl⟩
    rw [slp_pure]
    simpa using k
omit hM in
theorem q_eqNil {v : Value} {xs : List α} (S : Ty P t (.slice e) size bytes zero) (hx : ev L x = some v) (hy : ev L y = some (.slice none 0 0)) (s : Sl h v fl xs) : Opq P n ⟨d, .binOp .eql t x y t', ty, pos, af, g⟩ L O h (.bool (isNilS v)) := by
  obtain ⟨base, cap, rfl⟩ := s.val
  refine q_of fun H K E k => o_val (s := fun a => do eqGuard .eql t x y (a.eval x) (a.eval y); binOp .eql t (a.eval x) (a.eval y)) (fun _ _ => rfl) fun a ha => ?_
  rw [ha.ev hx, ha.ev hy]
  refine slp_eqNil .eql (.inl rfl) S x y ?_
  cases base <;> exact k
omit hM in
theorem q_neqNil {v : Value} {xs : List α} (S : Ty P t (.slice e) size bytes zero) (hx : ev L x = some v) (hy : ev L y = some (.slice none 0 0)) (s : Sl h v fl xs) : Opq P n ⟨d, .binOp .neq t x y t', ty, pos, af, g⟩ L O h (.bool (!isNilS v)) := by
  obtain ⟨base, cap, rfl⟩ := s.val
  refine q_of fun H K E k => o_val (s := fun a => do eqGuard .neq t x y (a.eval x) (a.eval y); binOp .neq t (a.eval x) (a.eval y)) (fun _ _ => rfl) fun a ha => ?_
  rw [ha.ev hx, ha.ev hy]
  refine slp_eqNil .neq (.inr rfl) S x y ?_
  cases base <;> exact k

/-- The end of a function whose results are temporaries. -/
theorem fin_tmp {fn : Func} {RR : Value → Own → PHeap → Prop} {EE : List PanicEntry → Own → PHeap → Prop} {tt : Nat} {v : Value} (hf : fn.results = #[.tmp tt]) (hv : L.get tt = some v) (x : RR v [] h) : retO P fn n RR EE .ret L O h := ret_at (resV_one hf (res_tmp hv)) (List.nil_sublist _) x
end
end Go.Sl

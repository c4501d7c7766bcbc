/- Boxes of the base; calls of function values; slices under more objects. No program. -/
import Derived.Test.YtcefbjpebgofjaaSlN
namespace Go.Sl
open Go Go.Conc

/-- A block of the base. -/
class BAt (h : PHeap) (b : Nat) (o : outParam Obj) : Prop where
  at' : h.obj b = some o
instance BAt.up {h h' : PHeap} {b : Nat} {o : Obj} [l : Le h h'] [x : BAt h b o] : BAt h' b o := ⟨(l.le b o x.at').1⟩

theorem cell_sub {h h' : PHeap} (l : ∀ b o, h.obj b = some o → h'.obj b = some o) {a : Addr} {v : Value} (e : h.cell a = some v) : h'.cell a = some v := by
  obtain ⟨o, ho⟩ := cell_obj e
  unfold PHeap.cell at e ⊢
  rw [l _ _ ho, ← ho]; exact e
theorem Cells.sub {h h' : PHeap} (l : ∀ b o, h.obj b = some o → h'.obj b = some o) {a : Addr} {cs : List Value} (c : Cells h a cs) : Cells h' a cs := fun j v e => cell_sub l (c j v e)
theorem Sl.sub {h h' : PHeap} (l : ∀ b o, h.obj b = some o → h'.obj b = some o) {v : Value} {α : Type} {E : Flat α} {xs : List α} (s : Sl h v E xs) : Sl h' v E xs :=
  ⟨s.small, s.reads.imp id fun ⟨cap, a, b, c⟩ => ⟨cap, a, b, fun i x e => (c i x e).sub l⟩⟩

section
variable {P : Program} {M : Jdg → Prop} [hM : IsCl P M] {n : Nat} {Q : Qo} {L : Locals} {O R : Own} {h : PHeap} {ops : Array Oper} {rest : List Oper} {d : Option Nat} {ty : TypeId} {pos : String} {af : Array Edge} {g : Option (Nat × Bool)} {x : Operand}
  {t : TypeId} {D : TypeDesc} {size bytes : Nat} {zero : Value}
omit hM in
/-- A load from a block of the base. -/
theorem q_loadB (T : Ty P t D size bytes zero) {b off : Nat} {c : Array Value} {T' : TypeId} {fr : Nat × Nat} {cs : List Value} (hx : ev L x = some (.pointer (some ⟨b, off, none⟩))) (m : BAt h b (.cells c T' fr)) (hcs : takeCells c off size = some cs) (h1 : loadOk D size = true) :
    Opq P n ⟨d, .load t x, ty, pos, af, g⟩ L O h (ofCells D cs) := fun F H r =>
  o_loadB hx ((r.base b _ m.at').1) hcs h1 (lift.here r ⟨rfl, rfl, rfl⟩)

theorem op_callv {fo : Operand} {f : FuncId} (Fu : Fun P f) {first captured : Array Value} {args : Array Operand} {ats : Array TypeId} {vs : List Value} {RR : Value → Own → PHeap → Prop} {A : Own} (hf : ev L fo = some (.func (.func f) first captured)) (C : CallO P M f (first.toList ++ vs ++ captured.toList) A h RR) (hp : O.Perm (A ++ R)) (hv : evAll L args.toList = some vs)
    (k : ∀ v A' h', Le h h' → RR v A' h' → soOps P M n ops Q rest (setL d v L) (A' ++ R) h') (hd : dstOk n d = true := by rfl) : soOps P M n ops Q (⟨d, .call { callee := .value fo, args, argTypes := ats }, ty, pos, af, none⟩ :: rest) L O h :=
  so_plain rfl hd fun F H r => o_callv hf hv (lift.here r ⟨A, R, hp, by simpa using CallsP.mono C (fun v O h' l x => k v O h' l x) (fun _ _ _ _ x => x.elim)⟩)
end

/-- A piece walked over a base, told of one exact heap. -/
theorem sl_of_so {P : Program} {M : Jdg → Prop} {n : Nat} {c : Code} {Qo' : Qo} {Q : Qt} {L : Locals} {B H : PHeap} (x : c.so P M n Qo' L [] B) (hB : B ≤ H) (hg : H.gh = B.gh)
    (k : ∀ e L' A h' H', Le B h' → Qo' e L' A h' → Rel ⟨fun _ => none, fun _ => false, []⟩ h' A H' → Q e L' H') : c.sl P M n Q L H :=
  sl_mono (x ⟨fun _ => none, fun _ => false, []⟩ H ⟨fun _ _ e => (by cases e), hB, fun _ _ m => (by cases m), List.nodup_nil, hg⟩) fun e L' H' ⟨A, h', u, r, q⟩ => k e L' A h' H' ⟨u.le, u.gh⟩ q r
end Go.Sl

/- Partial heaps with permissions, and a weakest precondition over the model's operations that is told on them. No program. -/
import Derived.Conc.Own3
import Derived.Laws.Sem
namespace Go.Sl
open Go Go.Conc

/-- What one goroutine knows of memory: some blocks, each with what it holds and whether it may be written. -/
structure PHeap where
  obj : Nat → Option Obj
  wr : Nat → Bool
  /-- Where the goroutine stands among others: no operation of its own turns it. -/
  gh : List Nat

namespace PHeap
def cell (h : PHeap) (a : Addr) : Option Value :=
  match h.obj a.block with
  | some (.cells c _ _) => if a.spot.isSome then none else c[a.off]?
  | _ => none
def frozen (h : PHeap) (a : Addr) : Bool :=
  match h.obj a.block with
  | some (.cells _ _ (lo, hi)) => lo ≤ a.off && a.off < hi
  | _ => false
def shape (h : PHeap) (r : Nat) : Option (TypeId × Nat) :=
  match h.obj r with
  | some (.cells c elem _) => some (elem, c.size)
  | _ => none
/-- One block laid (or laid anew), writable. -/
def put (h : PHeap) (r : Nat) (o : Obj) : PHeap :=
  { obj := fun b => if b = r then some o else h.obj b, wr := fun b => if b = r then true else h.wr b, gh := h.gh }
/-- One block turned. -/
def upd (h : PHeap) (r : Nat) (f : Obj → Obj) : PHeap :=
  { obj := fun b => if b = r then (h.obj b).map f else h.obj b, wr := h.wr, gh := h.gh }
def cellsSet (a : Addr) (v : Value) : Obj → Obj
  | .cells c elem fr => .cells (if a.spot.isSome then c else c.setIfInBounds a.off v) elem fr
  | o => o
def cellsFreeze (a : Addr) (n : Nat) : Obj → Obj
  | .cells c elem (lo, hi) => .cells c elem (if lo == hi then (a.off, a.off + n) else (min lo a.off, max hi (a.off + n)))
  | o => o
def setCell (h : PHeap) (a : Addr) (v : Value) : PHeap := h.upd a.block (cellsSet a v)
def freeze (h : PHeap) (a : Addr) (n : Nat) : PHeap := if n = 0 then h else h.upd a.block (cellsFreeze a n)

/-- h' knows all that h knows. -/
def le (h h' : PHeap) : Prop := ∀ b o, h.obj b = some o → h'.obj b = some o ∧ h'.wr b = h.wr b
instance : LE PHeap := ⟨PHeap.le⟩
theorem le_refl (h : PHeap) : h ≤ h := fun _ _ e => ⟨e, rfl⟩
theorem le_trans {a b c : PHeap} (x : a ≤ b) (y : b ≤ c) : a ≤ c := fun r o e =>
  ⟨(y r o (x r o e).1).1, (y r o (x r o e).1).2.trans (x r o e).2⟩
theorem le_put {h : PHeap} {r : Nat} {o : Obj} (hr : h.obj r = none) : h ≤ h.put r o := fun b x e => by
  have : b ≠ r := fun e' => by rw [e', hr] at e; cases e
  simp [put, this, e]
theorem le_put_of {h0 h : PHeap} {r : Nat} {o : Obj} (hl : h0 ≤ h) (hr : h0.obj r = none) : h0 ≤ h.put r o := fun b x e => by
  have : b ≠ r := fun e' => by rw [e', hr] at e; cases e
  simp [put, this, (hl b x e).1, (hl b x e).2]
theorem le_upd_of {h0 h : PHeap} {r : Nat} {f : Obj → Obj} (hl : h0 ≤ h) (hr : h0.obj r = none) : h0 ≤ h.upd r f := fun b x e => by
  have : b ≠ r := fun e' => by rw [e', hr] at e; cases e
  simp [upd, this, (hl b x e).1, (hl b x e).2]
theorem le_none {h h' : PHeap} {r : Nat} (hl : h ≤ h') (hr : h'.obj r = none) : h.obj r = none := by
  cases e : h.obj r with
  | none => rfl
  | some o => rw [(hl r o e).1] at hr; cases hr
end PHeap
open PHeap

/-- The world holds what the heap says. -/
def Sat (w : World) (h : PHeap) : Prop := ∀ b o, h.obj b = some o → w.heap[b]? = some o

theorem Sat.lt {w : World} {h : PHeap} (s : Sat w h) {b : Nat} {o : Obj} (e : h.obj b = some o) : b < w.heap.size :=
  (Array.getElem?_eq_some_iff.1 (s b o e)).1
theorem Sat.fresh {w : World} {h : PHeap} (s : Sat w h) : h.obj w.heap.size = none := by
  cases e : h.obj w.heap.size with
  | none => rfl
  | some o => have := s.lt e; omega
theorem Sat.cell {w : World} {h : PHeap} (s : Sat w h) {a : Addr} {v : Value} (e : h.cell a = some v) : w.cell? a = some v := by
  unfold PHeap.cell at e
  unfold World.cell?
  split at e
  · rename_i c x y hb; rw [s _ _ hb]; exact e
  · cases e
theorem Sat.frozen {w : World} {h : PHeap} (s : Sat w h) {a : Addr} {o : Obj} (e : h.obj a.block = some o) : w.frozen? a = h.frozen a := by
  have := s _ _ e
  unfold PHeap.frozen World.frozen?
  simp only [this, e]
  cases o <;> rfl
theorem Sat.shape {w : World} {h : PHeap} (s : Sat w h) {r : Nat} {x : TypeId × Nat} (e : h.shape r = some x) : w.shape? r = some x := by
  unfold PHeap.shape at e
  unfold World.shape?
  split at e
  · rename_i c t y hb; rw [s _ _ hb]; exact e
  · cases e
theorem cell_obj {h : PHeap} {a : Addr} {v : Value} (e : h.cell a = some v) : ∃ o, h.obj a.block = some o := by
  unfold PHeap.cell at e
  split at e
  · rename_i c x y hb; exact ⟨_, hb⟩
  · cases e
theorem shape_obj {h : PHeap} {r : Nat} {x : TypeId × Nat} (e : h.shape r = some x) : ∃ o, h.obj r = some o := by
  unfold PHeap.shape at e
  split at e
  · rename_i c t y hb; exact ⟨_, hb⟩
  · cases e

/-- What a step may list: plain touches of blocks that are known (or made in the step), writes of those that may be written. -/
def EvOk (h : PHeap) (n : Nat) (e : Event) : Prop :=
  match e.loc with
  | .cell a => e.sync = false ∧ ((h.obj a.block).isSome = true ∨ n ≤ a.block) ∧ (e.write = true → h.wr a.block = true ∨ n ≤ a.block)
  | .obj r => ((h.obj r).isSome = true ∨ n ≤ r) ∧ (e.write = true → h.wr r = true ∨ n ≤ r)
  | .mark (.extern _) => True
  | .mark .noRoom => True
  | _ => False

/-- .. and no block that is not there behind the step. -/
def EvLt (m : Nat) (e : Event) : Prop :=
  match e.loc with
  | .cell a => a.block < m
  | .obj r => r < m
  | _ => True
theorem EvLt.mono {m m' : Nat} (h : m ≤ m') {e : Event} (x : EvLt m e) : EvLt m' e := by
  unfold EvLt at x ⊢
  split at x <;> first | (exact Nat.lt_of_lt_of_le x h) | trivial

/-- How world and heap go on together: what is not known is not touched; what may not be written stays. -/
structure Grow (w w' : World) (h h' : PHeap) : Prop where
  os : w'.os = w.os
  tape : w'.tape = w.tape
  output : w'.output = w.output
  size : w.heap.size ≤ w'.heap.size
  other : ∀ b, b < w.heap.size → h.obj b = none → w'.heap[b]? = w.heap[b]?
  dom : ∀ b, (h'.obj b).isSome = true → (h.obj b).isSome = true ∨ w.heap.size ≤ b
  keep : ∀ b, (h.obj b).isSome = true → (h'.obj b).isSome = true ∧ h'.wr b = h.wr b ∧ (h.wr b = false → h'.obj b = h.obj b)
  gh : h'.gh = h.gh

theorem Grow.refl (w : World) (h : PHeap) : Grow w w h h :=
  ⟨rfl, rfl, rfl, Nat.le_refl _, fun _ _ _ => rfl, fun _ x => .inl x, fun _ x => ⟨x, rfl, fun _ => rfl⟩, rfl⟩
theorem Grow.trans {w w' w'' : World} {h h' h'' : PHeap} (a : Grow w w' h h') (b : Grow w' w'' h' h'') : Grow w w'' h h'' := by
  refine ⟨b.os.trans a.os, b.tape.trans a.tape, b.output.trans a.output, Nat.le_trans a.size b.size, fun r hr hn => ?_, fun r hr => ?_, fun r hr => ?_, b.gh.trans a.gh⟩
  · have h' : h'.obj r = none := by
      cases e : h'.obj r with
      | none => rfl
      | some o =>
        rcases a.dom r (by simp [e]) with x | x
        · simp [hn] at x
        · omega
    exact (b.other r (by have := a.size; omega) h').trans (a.other r hr hn)
  · rcases b.dom r hr with x | x
    · exact a.dom r x
    · exact .inr (Nat.le_trans a.size x)
  · obtain ⟨x1, x2, x3⟩ := a.keep r hr
    obtain ⟨y1, y2, y3⟩ := b.keep r x1
    exact ⟨y1, y2.trans x2, fun e => (y3 (x2.trans e)).trans (x3 e)⟩

theorem EvOk.back {w w' : World} {h h' : PHeap} (g : Grow w w' h h') {e : Event} (x : EvOk h' w'.heap.size e) : EvOk h w.heap.size e := by
  have hs := g.size
  unfold EvOk at x ⊢
  split at x
  · rename_i a _
    obtain ⟨x1, x2, x3⟩ := x
    refine ⟨x1, ?_, fun hw => ?_⟩
    · rcases x2 with y | y
      · exact g.dom _ y
      · exact .inr (by omega)
    · rcases x2 with y | y
      · rcases g.dom _ y with z | z
        · rcases x3 hw with u | u
          · exact .inl (by rw [← (g.keep _ z).2.1]; exact u)
          · exact .inr (by omega)
        · exact .inr z
      · exact .inr (by omega)
  · rename_i r _
    obtain ⟨x2, x3⟩ := x
    refine ⟨?_, fun hw => ?_⟩
    · rcases x2 with y | y
      · exact g.dom _ y
      · exact .inr (by omega)
    · rcases x2 with y | y
      · rcases g.dom _ y with z | z
        · rcases x3 hw with u | u
          · exact .inl (by rw [← (g.keep _ z).2.1]; exact u)
          · exact .inr (by omega)
        · exact .inr z
      · exact .inr (by omega)
  · trivial
  · trivial
  · exact x.elim

/-- The value of one cell. -/
def isOne : Value → Bool
  | .agg _ | .tuple _ => false
  | _ => true

def isCells : Obj → Bool
  | .cells .. => true
  | _ => false

/-- THE WEAKEST PRECONDITION OVER A PARTIAL HEAP: 'K' at its value, 'E' at a panic. A new block may be any that is not known. -/
def _root_.Go.Sem.slp {α : Type} (P : Program) (K : α → PHeap → Prop) (E : Value → PHeap → Prop) : Sem α → PHeap → Prop
  | .pure a, h => K a h
  | .load m a k, h => m = .plain ∧ ∃ v, h.cell a = some v ∧ (k v).slp P K E h
  | .store m a v k, h => m = .plain ∧ isOne v = true ∧ h.wr a.block = true ∧ (∃ u, h.cell a = some u) ∧ h.frozen a = false ∧ k.slp P K E (h.setCell a v)
  | .new o k, h => ∀ r, h.obj r = none → (k r).slp P K E (h.put r o)
  | .shape r k, h => ∃ x, h.shape r = some x ∧ (k (some x)).slp P K E h
  | .freeze a n k, h => h.wr a.block = true ∧ (∃ o, h.obj a.block = some o) ∧ k.slp P K E (h.freeze a n)
  | .frozen a k, h => (∃ o, h.obj a.block = some o) ∧ (k (h.frozen a)).slp P K E h
  | .getObj r k, h => ∃ o, h.obj r = some o ∧ isCells o = false ∧ (k o).slp P K E h
  | .setObj r o k, h => h.wr r = true ∧ (∃ u, h.obj r = some u ∧ isCells u = false) ∧ k.slp P K E (h.put r o)
  | .choose q k, h => if q.forced then (k 0).slp P K E h else ∀ t, (k (q.cut t)).slp P K E h
  | .sys _ _, _ => False
  | .program k, h => (k P).slp P K E h
  | .mark m k, h => ((∃ f, m = .extern f) ∨ m = .noRoom) ∧ k.slp P K E h
  | .halt (.panic v), h => E v h
  | .halt _, _ => False

section
variable {α β : Type} {P : Program} {K K' : α → PHeap → Prop} {E E' : Value → PHeap → Prop}

theorem slp_mono {s : Sem α} (hk : ∀ a h, K a h → K' a h) (he : ∀ v h, E v h → E' v h) : ∀ {h : PHeap}, s.slp P K E h → s.slp P K' E' h := by
  induction s with
  | pure a => exact fun x => hk _ _ x
  | load m a k ih => exact fun ⟨x, v, y, z⟩ => ⟨x, v, y, ih v z⟩
  | store m a v k ih => exact fun ⟨x1, x2, x3, x4, x5, x6⟩ => ⟨x1, x2, x3, x4, x5, ih x6⟩
  | new o k ih => exact fun x r hr => ih r (x r hr)
  | shape r k ih => exact fun ⟨x, y, z⟩ => ⟨x, y, ih _ z⟩
  | freeze a n k ih => exact fun ⟨x, y, z⟩ => ⟨x, y, ih z⟩
  | frozen a k ih => exact fun ⟨x, y⟩ => ⟨x, ih _ y⟩
  | getObj r k ih => exact fun ⟨o, x, y, u⟩ => ⟨o, x, y, ih _ u⟩
  | setObj r o k ih => exact fun ⟨x, y, u⟩ => ⟨x, y, ih u⟩
  | choose q k ih =>
    intro h x
    simp only [Sem.slp] at x ⊢
    split
    · rename_i hq; rw [if_pos hq] at x; exact ih _ x
    · rename_i hq; rw [if_neg hq] at x; exact fun t => ih _ (x t)
  | sys c k ih => exact fun x => x
  | program k ih => exact fun x => ih _ x
  | mark m k ih => exact fun ⟨x, y⟩ => ⟨x, ih y⟩
  | halt g => cases g <;> first | exact fun x => he _ _ x | exact fun x => x

theorem slp_bind' (s : Sem β) (f : β → Sem α) : ∀ (h : PHeap), (s.bind f).slp P K E h = s.slp P (fun b h' => (f b).slp P K E h') E h := by
  induction s with
  | pure a => exact fun h => rfl
  | load m a k ih => intro h; simp only [Sem.bind, Sem.slp, ih]
  | store m a v k ih => intro h; simp only [Sem.bind, Sem.slp, ih]
  | new o k ih => intro h; simp only [Sem.bind, Sem.slp, ih]
  | shape r k ih => intro h; simp only [Sem.bind, Sem.slp, ih]
  | freeze a n k ih => intro h; simp only [Sem.bind, Sem.slp, ih]
  | frozen a k ih => intro h; simp only [Sem.bind, Sem.slp, ih]
  | getObj r k ih => intro h; simp only [Sem.bind, Sem.slp, ih]
  | setObj r o k ih => intro h; simp only [Sem.bind, Sem.slp, ih]
  | choose q k ih => intro h; simp only [Sem.bind, Sem.slp, ih]
  | sys c k ih => intro h; simp only [Sem.bind, Sem.slp]
  | program k ih => intro h; simp only [Sem.bind, Sem.slp, ih]
  | mark m k ih => intro h; simp only [Sem.bind, Sem.slp, ih]
  | halt g => intro h; cases g <;> rfl

theorem slp_bind (s : Sem β) (f : β → Sem α) (h : PHeap) : (s >>= f).slp P K E h = s.slp P (fun b h' => (f b).slp P K E h') E h := slp_bind' s f h
theorem slp_map (s : Sem β) (f : β → α) (h : PHeap) : (f <$> s).slp P K E h = s.slp P (fun b h' => K (f b) h') E h := slp_bind' s _ h
theorem slp_pure (a : α) (h : PHeap) : (Pure.pure a : Sem α).slp P K E h = K a h := rfl
theorem slp_pure' (a : α) (h : PHeap) : (Sem.pure a : Sem α).slp P K E h = K a h := rfl
theorem slp_ite (c : Prop) [Decidable c] (x y : Sem α) (h : PHeap) : (if c then x else y).slp P K E h = if c then x.slp P K E h else y.slp P K E h := by split <;> rfl
end

theorem sat_put {w : World} {h : PHeap} (s : Sat w h) (o : Obj) : Sat { w with heap := w.heap.push o } (h.put w.heap.size o) := by
  intro b x e
  simp only [PHeap.put] at e
  split at e
  · rename_i hb; subst hb; cases e; simp
  · have := s.lt e
    simp [Array.getElem?_push, Nat.ne_of_lt this, s b x e]

theorem sat_upd {w : World} {h : PHeap} (s : Sat w h) (r : Nat) (f : Obj → Obj) : Sat { w with heap := w.heap.modify r f } (h.upd r f) := by
  intro b x e
  simp only [PHeap.upd] at e
  split at e
  · rename_i hb; subst hb
    obtain ⟨y, hy, rfl⟩ := Option.map_eq_some_iff.1 e
    simp [Array.getElem?_modify, s _ _ hy]
  · rename_i hb
    simp only [Array.getElem?_modify, s _ _ e]
    split
    · rename_i h'; exact absurd h'.symm hb
    · rfl

theorem grow_put {w : World} {h : PHeap} (s : Sat w h) (o : Obj) : Grow w { w with heap := w.heap.push o } h (h.put w.heap.size o) := by
  refine ⟨rfl, rfl, rfl, by simp, fun b hb hn => ?_, fun b hb => ?_, fun b hb => ?_, rfl⟩
  · simp [Array.getElem?_push, Nat.ne_of_lt hb]
  · simp only [PHeap.put] at hb
    split at hb
    · rename_i e; exact .inr (by omega)
    · exact .inl hb
  · obtain ⟨x, hx⟩ := Option.isSome_iff_exists.1 hb
    have := s.lt hx
    simp [PHeap.put, Nat.ne_of_lt this, hx]

theorem grow_upd {w : World} {h : PHeap} (r : Nat) (f : Obj → Obj) (hw : h.wr r = true) (ho : ∃ o, h.obj r = some o) : Grow w { w with heap := w.heap.modify r f } h (h.upd r f) := by
  obtain ⟨o, ho⟩ := ho
  refine ⟨rfl, rfl, rfl, by simp, fun b hb hn => ?_, fun b hb => ?_, fun b hb => ?_, rfl⟩
  · have : ¬ r = b := fun e => by subst e; rw [ho] at hn; cases hn
    simp [Array.getElem?_modify, this]
  · simp only [PHeap.upd] at hb
    split at hb
    · rename_i e; subst e; exact .inl (by simp [ho])
    · exact .inl hb
  · simp only [PHeap.upd]
    refine ⟨?_, by trivial, fun hf => ?_⟩
    · split
      · simpa using hb
      · exact hb
    · split
      · rename_i e; subst e; rw [hw] at hf; cases hf
      · rfl

theorem sat_drawn {w : World} {h : PHeap} (s : Sat w h) (d : Nat) : Sat { w with drawn := d } h := s
theorem grow_drawn (w : World) (h : PHeap) (d : Nat) : Grow w { w with drawn := d } h h :=
  ⟨rfl, rfl, rfl, Nat.le_refl _, fun _ _ _ => rfl, fun _ x => .inl x, fun _ x => ⟨x, rfl, fun _ => rfl⟩, rfl⟩

theorem setCell_modify (w : World) (a : Addr) (v : Value) : w.setCell a v = { w with heap := w.heap.modify a.block (cellsSet a v) } := rfl
theorem freeze_modify (w : World) (a : Addr) (n : Nat) : w.freeze a n = if n = 0 then w else { w with heap := w.heap.modify a.block (cellsFreeze a n) } := rfl

/-- How a run of an operation ends, as the weakest precondition tells it. -/
def RunsTo {α : Type} (P : Program) (K : α → PHeap → Prop) (E : Value → PHeap → Prop) (s : Sem α) (w : World) (h : PHeap) (es : Array Event) : Prop :=
  ∃ w' h' es', Sat w' h' ∧ Grow w w' h h' ∧ (∀ e ∈ es', EvOk h w.heap.size e ∧ EvLt w'.heap.size e) ∧
    ((∃ a, s.runT P w es = (.ok a w', es ++ es') ∧ K a h') ∨ ∃ v, s.runT P w es = (.halt (.panic v) w', es ++ es') ∧ E v h')

theorem RunsTo.step {α : Type} {P : Program} {K : α → PHeap → Prop} {E : Value → PHeap → Prop} {s s' : Sem α} {w w₁ : World} {h h₁ : PHeap} {es es₁ : Array Event}
    (g : Grow w w₁ h h₁) (he : ∀ e ∈ es₁, EvOk h w.heap.size e ∧ EvLt w₁.heap.size e) (hr : s.runT P w es = s'.runT P w₁ (es ++ es₁)) (x : RunsTo P K E s' w₁ h₁ (es ++ es₁)) : RunsTo P K E s w h es := by
  obtain ⟨w', h', es', x1, x2, x3, x4⟩ := x
  refine ⟨w', h', es₁ ++ es', x1, g.trans x2, fun e hm => ?_, ?_⟩
  · rcases Array.mem_append.1 hm with y | y
    · exact ⟨(he e y).1, (he e y).2.mono x2.size⟩
    · exact ⟨EvOk.back g (x3 e y).1, (x3 e y).2⟩
  · rw [hr, ← Array.append_assoc]; exact x4

theorem slp_sound {α : Type} {P : Program} {K : α → PHeap → Prop} {E : Value → PHeap → Prop} {s : Sem α} : ∀ {h : PHeap} {w : World} (es : Array Event), s.slp P K E h → Sat w h → RunsTo P K E s w h es := by
  induction s with
  | pure a => exact fun es x hs => ⟨_, _, #[], hs, Grow.refl _ _, by simp, .inl ⟨a, by simp [Sem.runT], x⟩⟩
  | load m a k ih =>
    rintro h w es ⟨rfl, v, hc, x⟩ hs
    obtain ⟨o, ho⟩ := cell_obj hc
    refine RunsTo.step (s' := k v) (es₁ := #[⟨.cell a, false, false⟩]) (Grow.refl _ _) (by simp [EvOk, EvLt, ho, hs.lt ho]) ?_ (ih v _ x hs)
    simp only [Sem.runT, hs.cell hc]; rfl
  | store m a v k ih =>
    rintro h w es ⟨rfl, h1, h2, ⟨u, h3⟩, h4, x⟩ hs
    obtain ⟨o, ho⟩ := cell_obj h3
    have hf : w.frozen? a = false := by rw [hs.frozen ho]; exact h4
    refine RunsTo.step (s' := k) (es₁ := #[⟨.cell a, true, false⟩]) (grow_upd a.block (cellsSet a v) h2 ⟨o, ho⟩) (by simp [EvOk, EvLt, ho, h2, hs.lt ho]) ?_ (ih _ x (sat_upd hs _ _))
    cases v <;> first | (simp [isOne] at h1; done) | (simp only [Sem.runT, hs.cell h3, hf, setCell_modify]; rfl)
  | new o k ih =>
    intro h w es x hs
    refine RunsTo.step (s' := k w.heap.size) (es₁ := #[]) (grow_put hs o) (by simp) ?_ (ih _ _ (x _ hs.fresh) (sat_put hs o))
    simp [Sem.runT]
  | shape r k ih =>
    rintro h w es ⟨x, hx, y⟩ hs
    refine RunsTo.step (s' := k (some x)) (es₁ := #[]) (Grow.refl _ _) (by simp) ?_ (ih _ _ y hs)
    simp [Sem.runT, hs.shape hx]
  | freeze a n k ih =>
    rintro h w es ⟨h1, h2, x⟩ hs
    by_cases hn : n = 0
    · subst hn
      refine RunsTo.step (s' := k) (es₁ := #[]) (Grow.refl _ _) (by simp) ?_ (ih _ (by simpa [PHeap.freeze] using x) hs)
      simp [Sem.runT, freeze_modify]
    · refine RunsTo.step (s' := k) (es₁ := #[]) (grow_upd a.block (cellsFreeze a n) h1 h2) (by simp) ?_ (ih _ (by simpa [PHeap.freeze, hn] using x) (sat_upd hs _ _))
      simp [Sem.runT, freeze_modify, hn]
  | frozen a k ih =>
    rintro h w es ⟨⟨o, ho⟩, x⟩ hs
    refine RunsTo.step (s' := k (h.frozen a)) (es₁ := #[]) (Grow.refl _ _) (by simp) ?_ (ih _ _ x hs)
    simp [Sem.runT, hs.frozen ho]
  | getObj r k ih =>
    rintro h w es ⟨o, ho, h1, x⟩ hs
    refine RunsTo.step (s' := k o) (es₁ := #[⟨.obj r, false, o.isChan⟩]) (Grow.refl _ _) (by simp [EvOk, EvLt, ho, hs.lt ho]) ?_ (ih _ _ x hs)
    have := hs r o ho
    cases o <;> first | (simp [isCells] at h1; done) | (simp only [Sem.runT, this]; rfl)
  | setObj r o k ih =>
    rintro h w es ⟨h1, ⟨u, hu, h2⟩, x⟩ hs
    have hg : Grow w { w with heap := w.heap.setIfInBounds r o } h (h.put r o) := by
      refine ⟨rfl, rfl, rfl, by simp, fun b hb hn => ?_, fun b hb => ?_, fun b hb => ?_, rfl⟩
      · have : ¬ r = b := fun e => by subst e; rw [hu] at hn; cases hn
        simp [Array.getElem?_setIfInBounds, this]
      · simp only [PHeap.put] at hb
        split at hb
        · rename_i e; subst e; exact .inl (by simp [hu])
        · exact .inl hb
      · simp only [PHeap.put]
        refine ⟨by split <;> simp_all, by split <;> simp_all, fun hf => ?_⟩
        split
        · rename_i e; subst e; rw [h1] at hf; cases hf
        · rfl
    have hsat : Sat { w with heap := w.heap.setIfInBounds r o } (h.put r o) := by
      intro b y e
      simp only [PHeap.put] at e
      split at e
      · rename_i hb; subst hb; cases e
        have := hs.lt hu
        simp [this]
      · rename_i hb
        have hb' : ¬ r = b := fun e => hb e.symm
        simp [Array.getElem?_setIfInBounds, hb', hs b y e]
    refine RunsTo.step (s' := k) (es₁ := #[⟨.obj r, true, o.isChan⟩]) hg (by simp [EvOk, EvLt, hu, h1, hs.lt hu]) ?_ (ih _ x hsat)
    have := hs r u hu
    cases u <;> first | (simp [isCells] at h2; done) | (simp only [Sem.runT, this]; rfl)
  | choose q k ih =>
    intro h w es x hs
    simp only [Sem.slp] at x
    split at x
    · rename_i hq
      refine RunsTo.step (s' := k 0) (es₁ := #[]) (Grow.refl _ _) (by simp) ?_ (ih _ _ x hs)
      simp [Sem.runT, hq]
    · rename_i hq
      refine RunsTo.step (s' := k (q.cut (w.tape w.drawn q))) (es₁ := #[]) (grow_drawn w h (w.drawn + 1)) (by simp) ?_ (ih _ _ (x _) (sat_drawn hs _))
      simp [Sem.runT, hq]
  | sys c k ih => intro h w es x hs; exact x.elim
  | program k ih =>
    intro h w es x hs
    refine RunsTo.step (s' := k P) (es₁ := #[]) (Grow.refl _ _) (by simp) ?_ (ih _ _ x hs)
    simp [Sem.runT]
  | mark m k ih =>
    rintro h w es ⟨hm, x⟩ hs
    refine RunsTo.step (s' := k) (es₁ := #[⟨.mark m, false, true⟩]) (Grow.refl _ _) ?_ ?_ (ih _ x hs)
    · rcases hm with ⟨f, rfl⟩ | rfl <;> simp [EvOk, EvLt]
    · simp only [Sem.runT]; rfl
  | halt g =>
    intro h w es x hs
    cases g <;> first | exact x.elim | exact ⟨_, _, #[], hs, Grow.refl _ _, by simp, .inr ⟨_, by simp [Sem.runT], x⟩⟩
end Go.Sl

/- Arguments that read as data, opened; the post where old memory stands. No program. -/
import Derived.Test.YtekjikbaefgncaaGreatDoorSmP
import Derived.HandedShaped
set_option linter.unusedVariables false
set_option linter.unusedSimpArgs false
set_option linter.unusedSectionVars false

namespace Go.Sl
open Go Go.Conc PHeap
open Go.ChangeShapes Go.WideShapes Go.RowKit
section
variable {P : Program} {W : World} {H : Type} {enc : TypeId × Value → H} {base : Nat} {spare : Nat → Bool} {held : Bool}
theorem allOf_cell (W : World) (a : Addr) : (allOf W).cell a = W.cell? a := by
  unfold PHeap.cell World.cell? allOf
  rfl
theorem cellsOf_ty {t : TypeId} {D : TypeDesc} {size bytes : Nat} {zero : Value} [T : Ty P t D size bytes zero] : P.cellsOf t = size := by
  have := T.inf
  unfold Program.cellsOf
  cases e : P.info? t with
  | none => rw [e] at this; cases this
  | some i => rw [e] at this; simp at this; simp [this.1]
theorem bytesOf_ty {t : TypeId} {D : TypeDesc} {size bytes : Nat} {zero : Value} [T : Ty P t D size bytes zero] : P.bytesOf t = bytes := by
  have := T.inf
  unfold Program.bytesOf
  cases e : P.info? t with
  | none => rw [e] at this; cases this
  | some i => rw [e] at this; simp at this; simp [this.2.1]
theorem trod_flds {t : TypeId} {pl : List FldI} [F : Flds P t pl] {cs : List Value} {fuel : Nat} {x : DataW H × List MemPlace} (h : DataW.trod enc P W base spare held fuel t cs = some x) :
    cs.length = P.cellsOf t ∧ ∃ n : Nat, ∀ (i : Nat) (fi : FldI), pl[i]? = some fi → ∃ y, DataW.trod enc P W base spare held n fi.type ((cs.drop fi.off).take fi.size) = some y ∧ ∀ m ∈ y.1.weights P fi.type, m ∈ x.1.weights P t := by
  have hu := F.und
  unfold Program.fldsOf at hu
  split at hu
  case h_2 => cases hu
  rename_i fs ht
  obtain ⟨xs, n, _, rfl, hl, hlen, hf⟩ := DataW.trod_struct ht h
  refine ⟨hl, n, fun i fi hi => ?_⟩
  have e : (fs.toList.map fun f => (P.info? f.type).bind fun i => (P.underlying f.type).map fun d => (⟨f.type, aggD d, f.offset, i.size⟩ : FldI))[i]? = some (some fi) := by
    rw [Option.some.inj hu]; simp [hi]
  rw [List.getElem?_map] at e
  obtain ⟨f, hfi, e⟩ := Option.map_eq_some_iff.1 e
  obtain ⟨inf, h1, e⟩ := Option.bind_eq_some_iff.1 e
  obtain ⟨d, h2, e⟩ := Option.map_eq_some_iff.1 e
  have hfi' : fs[i]? = some f := by simpa using hfi
  have := hf i f hfi'
  have hc : P.cellsOf f.type = inf.size := by simp [Program.cellsOf, h1]
  rw [hc] at this
  subst e
  have hlt : i < xs.length := by rw [hlen]; exact (Array.getElem?_eq_some_iff.1 hfi').1
  refine ⟨xs[i], by rw [this]; exact List.getElem?_eq_getElem hlt, fun m hm => ?_⟩
  simp only [DataW.weights, ht]
  exact DataW.weights_mem_each (j := i) (by simp [hfi']) (by simp [List.getElem?_eq_getElem hlt]) m hm
class OpensF (P : Program) (t : TypeId) {α : Type} (E : Flat α) : Prop where
  op : ∀ {H : Type} {enc : TypeId × Value → H} {W : World} {fuel : Nat} {cs : List Value} {x : DataW H × List MemPlace}, DataW.trod enc P W 0 (fun _ => true) true fuel t cs = some x → ∃ a, cs = E.f a
class OpensR (P : Program) (t : TypeId) {α : Type} (R : Rep α) : Prop where
  op : ∀ {H : Type} {enc : TypeId × Value → H} {W : World} {fuel : Nat} {cs : List Value} {x : DataW H × List MemPlace}, DataW.trod enc P W 0 (fun _ => true) true fuel t cs = some x → (∀ m ∈ x.1.weights P t, m ≤ reachBytes) → ∃ a, R.B (allOf W) cs a
instance {t : TypeId} {size bytes : Nat} {zero : Value} [T : Ty P t (.int .i64) size bytes zero] : OpensF P t intF := ⟨fun h => by
  obtain ⟨n, rfl, _⟩ := DataW.trod_int T.und h; exact ⟨n, rfl⟩⟩
instance {t : TypeId} {size bytes : Nat} {zero : Value} [T : Ty P t .bool size bytes zero] : OpensF P t boolF := ⟨fun h => by
  obtain ⟨n, rfl, _⟩ := DataW.trod_bool T.und h; exact ⟨n, rfl⟩⟩
theorem two_parts {cs : List Value} {a b n : Nat} (hl : cs.length = n) (hn : n = a + b) : cs = (cs.drop 0).take a ++ (cs.drop a).take b := by
  rw [List.drop_zero, List.take_of_length_le (l := cs.drop a) (by simp; omega), List.take_append_drop]
theorem opens_cell {t u : TypeId} {D : TypeDesc} {bytes b1 s1 : Nat} {zero z1 : Value} [T : Ty P t D 2 bytes zero] [F : Flds P t [⟨u, false, 0, 1⟩, ⟨u, false, 1, 1⟩]] [U : Ty P u (.int .i64) s1 b1 z1] : OpensF P t cellF := ⟨fun h => by
  obtain ⟨hl, n, k⟩ := trod_flds (F := F) h
  obtain ⟨y1, e1, _⟩ := k 0 _ rfl
  obtain ⟨y2, e2, _⟩ := k 1 _ rfl
  obtain ⟨a, e1, _⟩ := DataW.trod_int U.und e1
  obtain ⟨b, e2, _⟩ := DataW.trod_int U.und e2
  refine ⟨⟨a, b⟩, ?_⟩
  rw [two_parts (a := 1) (b := 1) hl cellsOf_ty]
  simp only at e1 e2
  rw [e1, e2]
  rfl⟩
theorem opens_edit {t u w : TypeId} {D : TypeDesc} {bytes b1 s1 : Nat} {zero z1 : Value} [T : Ty P t D 3 bytes zero] [F : Flds P t [⟨u, false, 0, 1⟩, ⟨w, true, 1, 2⟩]] [U : Ty P u (.int .i64) s1 b1 z1] [O : OpensF P w cellF] : OpensF P t editF := ⟨fun h => by
  obtain ⟨hl, n, k⟩ := trod_flds (F := F) h
  obtain ⟨y1, e1, _⟩ := k 0 _ rfl
  obtain ⟨y2, e2, _⟩ := k 1 _ rfl
  obtain ⟨a, e1, _⟩ := DataW.trod_int U.und e1
  obtain ⟨b, e2⟩ := O.op e2
  refine ⟨⟨a, b⟩, ?_⟩
  rw [two_parts (a := 1) (b := 2) hl cellsOf_ty]
  simp only at e1 e2
  rw [e1, e2]
  rfl⟩
theorem mapM_get {α β : Type} {f : α → Option β} : ∀ {l : List α} {ys : List β}, l.mapM f = some ys → ys.length = l.length ∧ ∀ (i : Nat) (a : α), l[i]? = some a → f a = ys[i]?
  | [], ys, h => by simp at h; subst h; simp
  | a :: l, ys, h => by
    rw [List.mapM_cons] at h
    simp only [Option.bind_eq_bind, Option.bind_eq_some_iff, Option.pure_def, Option.some.injEq] at h
    obtain ⟨y, e1, zs, e2, rfl⟩ := h
    obtain ⟨k1, k2⟩ := mapM_get e2
    refine ⟨by simp [k1], fun i a' hi => ?_⟩
    cases i with
    | zero => simp at hi; subst hi; simpa using e1
    | succ i => simpa using k2 i a' (by simpa using hi)
theorem cells_at {b off n : Nat} {cs : List Value} (h : W.cells? 0 ⟨b, off, none⟩ n = some cs) : cs.length = n ∧ Cells (allOf W) ⟨b, off, none⟩ cs := by
  unfold World.cells? at h
  rw [if_pos (Nat.zero_le _)] at h
  obtain ⟨h1, h2⟩ := mapM_get h
  refine ⟨by simpa using h1, fun j v e => ?_⟩
  have hj : j < n := by
    have := (List.getElem?_eq_some_iff.1 e).1
    simpa using (by rw [h1] at this; simpa using this)
  rw [allOf_cell, h2 j j (by simp [hj]), e]
theorem weights_mem_all {H : Type} {P : Program} {e : TypeId} : ∀ {ds : List (DataW H)} {d : DataW H}, d ∈ ds → ∀ m ∈ d.weights P e, m ∈ DataW.weightsAll P e ds
  | d0 :: ds, d, hd, m, hm => by
    rw [DataW.weightsAll, List.mem_append]
    rcases List.mem_cons.1 hd with rfl | h
    · exact .inl hm
    · exact .inr (weights_mem_all h m hm)
theorem trod_elems {t e : TypeId} {size bytes size' bytes' : Nat} {zero zero' : Value} {D : TypeDesc} [T : Ty P t (.slice e) size bytes zero] [T' : Ty P e D size' bytes' zero']
    {cs : List Value} {fuel : Nat} {x : DataW H × List MemPlace} (hz : 0 < size') (hb : 0 < bytes') (h : DataW.trod enc P W 0 (fun _ => true) true fuel t cs = some x) (hw : ∀ m ∈ x.1.weights P t, m ≤ reachBytes) :
    ∃ (v : Value) (n : Nat) (l : List (List Value)), cs = [v] ∧ l.length ≤ 281474976710656 ∧ (∀ c ∈ l, c.length = size' ∧ ∃ y, DataW.trod enc P W 0 (fun _ => true) true n e c = some y ∧ ∀ m ∈ y.1.weights P e, m ≤ reachBytes) ∧
      ((∃ a, v = .slice a 0 0 ∧ l = []) ∨ ∃ cap, v = .slice (some ⟨vb v, vo v, none⟩) l.length cap ∧ l.length ≤ cap ∧ ∀ i c, l[i]? = some c → Cells (allOf W) ⟨vb v, vo v + i * size', none⟩ c) := by
  have hh := DataW.trod_slice T.und h
  clear h
  rcases hh with ⟨rfl, _⟩ | ⟨a, len, cap, elems, rest, n, _, rfl, rfl, _, hle, hcap, hel, hget, hrest, _⟩
  · exact ⟨_, 0, [], rfl, by simp, by simp, .inl ⟨none, rfl, rfl⟩⟩
  · have hc : P.cellsOf e = size' := cellsOf_ty (T := T')
    have hre := hrest rfl
    by_cases h0 : cap = 0
    · subst h0
      obtain rfl : len = 0 := by omega
      exact ⟨_, 0, [], rfl, by simp, by simp, .inl ⟨_, rfl, rfl⟩⟩
    have hsp : a.spot = none := by
      have g0 : ∃ cs0, W.cells? 0 (a.add (0 * P.cellsOf e)) (P.cellsOf e) = some cs0 := by
        by_cases hl0 : len = 0
        · have g := hre.2 0 (by omega)
          have hlt : 0 < rest.length := by rw [hre.1]; omega
          rw [List.getElem?_eq_getElem hlt, hl0] at g
          obtain ⟨cs, h1, _⟩ := Option.bind_eq_some_iff.1 g
          exact ⟨cs, by simpa using h1⟩
        · have g := hget 0 (by omega)
          have hlt : 0 < elems.length := by omega
          rw [List.getElem?_eq_getElem hlt] at g
          obtain ⟨cs, h1, _⟩ := Option.bind_eq_some_iff.1 g
          exact ⟨cs, h1⟩
      obtain ⟨cs0, g0⟩ := g0
      rw [Nat.zero_mul, hc] at g0
      unfold World.cells? at g0
      rw [if_pos (Nat.zero_le _)] at g0
      obtain ⟨k1, k2⟩ := mapM_get g0
      have := k2 0 0 (by simp [hz])
      have hc0 : 0 < cs0.length := by rw [k1]; simpa using hz
      rw [List.getElem?_eq_getElem hc0] at this
      simp only [Addr.add, if_true] at this
      unfold World.cell? at this
      split at this
      · by_cases hs : a.spot.isSome = true
        · rw [if_pos hs] at this; cases this
        · simpa using hs
      · cases this
    obtain ⟨b, off, spot⟩ := a
    obtain rfl : spot = none := hsp
    have k : ∀ i, i < len → ∃ c, (c.length = size' ∧ Cells (allOf W) ⟨b, off + i * size', none⟩ c) ∧ ∃ y, DataW.trod enc P W 0 (fun _ => true) true n e c = some y ∧ ∀ m ∈ y.1.weights P e, m ≤ reachBytes := by
      intro i hi
      have g := hget i hi
      have hlt : i < elems.length := by omega
      have hs : elems[i]? = some (elems[i]'hlt) := List.getElem?_eq_getElem _
      rw [hs, hc, add_none] at g
      obtain ⟨cs, h1, h2⟩ := Option.bind_eq_some_iff.1 g
      refine ⟨cs, cells_at h1, _, h2, fun m hm => hw m ?_⟩
      simp only [DataW.weights, T.und]
      refine List.mem_cons_of_mem _ (List.mem_append_left _ ?_)
      exact weights_mem_all (List.mem_map.2 ⟨_, List.getElem_mem hlt, rfl⟩) m hm
    obtain ⟨g, hg⟩ : ∃ g : ∀ i, i < len → List Value, ∀ i (hi : i < len), ((g i hi).length = size' ∧ Cells (allOf W) ⟨b, off + i * size', none⟩ (g i hi)) ∧ ∃ y, DataW.trod enc P W 0 (fun _ => true) true n e (g i hi) = some y ∧ ∀ m ∈ y.1.weights P e, m ≤ reachBytes :=
      ⟨fun i hi => Classical.choose (k i hi), fun i hi => Classical.choose_spec (k i hi)⟩
    refine ⟨_, n, (List.range len).pmap g (fun i hi => by simpa using hi), rfl, ?_, ?_, .inr ⟨cap, by simp [vb, vo], by simpa using hle, fun i x hx => ?_⟩⟩
    · have hb' : P.bytesOf e = bytes' := bytesOf_ty (T := T')
      have hm := hw ((elems.length + rest.length) * P.bytesOf e) (by simp [DataW.weights, T.und])
      rw [hb'] at hm
      have h1 : elems.length + rest.length ≤ (elems.length + rest.length) * bytes' := Nat.le_mul_of_pos_right _ hb
      have h2 : reachBytes ≤ 281474976710656 := by decide
      simp; omega
    · intro c hc
      obtain ⟨i, hi, rfl⟩ := List.mem_pmap.1 hc
      have := hg i (by simpa using hi)
      exact ⟨this.1.1, this.2⟩
    · rw [List.getElem?_pmap] at hx
      have hi : i < len := by
        rcases Nat.lt_or_ge i len with y | y
        · exact y
        · simp [List.getElem?_range, Nat.not_lt.2 y] at hx
      simp [List.getElem?_range, hi] at hx
      subst hx
      exact (hg i hi).1.2
theorem opens_slF {t e : TypeId} {size bytes size' bytes' : Nat} {zero zero' : Value} {D : TypeDesc} {α : Type} {E : Flat α} [T : Ty P t (.slice e) size bytes zero] [T' : Ty P e D size' bytes' zero'] [O : OpensF P e E] (hE : E.sz = size') (hz : 0 < size')
    {cs : List Value} {fuel : Nat} {x : DataW H × List MemPlace} (hb : 0 < bytes') (h : DataW.trod enc P W 0 (fun _ => true) true fuel t cs = some x) (hw : ∀ m ∈ x.1.weights P t, m ≤ reachBytes) : ∃ v xs, cs = [v] ∧ Sl (allOf W) v E xs := by
  obtain ⟨v, n, l, rfl, hl, hc, hr⟩ := trod_elems (T := T) (T' := T') hz hb h hw
  have k : ∀ c ∈ l, ∃ y, c = E.f y := fun c hm => by
    obtain ⟨_, y, hy, _⟩ := hc c hm
    exact O.op hy
  refine ⟨v, l.pmap (fun c hm => Classical.choose (k c hm)) (fun c hm => hm), rfl, by simpa using hl, ?_⟩
  rcases hr with ⟨a, rfl, rfl⟩ | ⟨cap, e1, e2, e3⟩
  · exact .inl ⟨_, rfl, rfl⟩
  · refine .inr ⟨cap, by simpa using e1, by simpa using e2, fun i y hy => ?_⟩
    rw [List.getElem?_pmap] at hy
    obtain ⟨c, hi, he⟩ : ∃ c, l[i]? = some c ∧ c = E.f y := by
      cases hi : l[i]? with
      | none => simp [hi] at hy
      | some c =>
        simp [hi] at hy
        refine ⟨c, rfl, ?_⟩
        rw [← hy]
        exact Classical.choose_spec (k c (List.mem_of_getElem? hi))
    subst he
    have := e3 i _ hi
    rwa [← hE] at this
theorem opens_slR {t e : TypeId} {size bytes size' bytes' : Nat} {zero zero' : Value} {D : TypeDesc} {α : Type} {R : Rep α} [T : Ty P t (.slice e) size bytes zero] [T' : Ty P e D size' bytes' zero'] [O : OpensR P e R] (hE : R.sz = size') (hz : 0 < size')
    {cs : List Value} {fuel : Nat} {x : DataW H × List MemPlace} (hb : 0 < bytes') (h : DataW.trod enc P W 0 (fun _ => true) true fuel t cs = some x) (hw : ∀ m ∈ x.1.weights P t, m ≤ reachBytes) : ∃ v xs, cs = [v] ∧ SlR R (allOf W) v xs := by
  obtain ⟨v, n, l, rfl, hl, hc, hr⟩ := trod_elems (T := T) (T' := T') hz hb h hw
  have k : ∀ c ∈ l, ∃ a, R.B (allOf W) c a := fun c hm => by
    obtain ⟨_, y, hy, hwy⟩ := hc c hm
    exact O.op hy hwy
  have z : ∀ c ∈ l, c.length = R.sz := fun c hm => (hc c hm).1.trans hE.symm
  have ba : ∀ (l : List (List Value)) (z : ∀ c ∈ l, c.length = R.sz) (k : ∀ c ∈ l, ∃ a, R.B (allOf W) c a), ∃ xs, BAll R (allOf W) (l.pmap (fun c (hm : c.length = R.sz) => (⟨c, hm⟩ : Raw R.sz)) z) xs := by
    intro l
    induction l with
    | nil => intro _ _; exact ⟨[], .nil⟩
    | cons c l ih =>
      intro z k
      obtain ⟨a, ha⟩ := k c (by simp)
      obtain ⟨xs, hx⟩ := ih (fun c hm => z c (by simp [hm])) (fun c hm => k c (by simp [hm]))
      refine ⟨a :: xs, ?_⟩
      rw [List.pmap_cons]
      exact .cons ha hx
  obtain ⟨xs, hx⟩ := ba l z k
  refine ⟨v, xs, rfl, _, ⟨by simpa using hl, ?_⟩, hx⟩
  rcases hr with ⟨a, rfl, rfl⟩ | ⟨cap, e1, e2, e3⟩
  · exact .inl ⟨_, rfl, rfl⟩
  · refine .inr ⟨cap, by simpa using e1, by simpa using e2, fun i y hy => ?_⟩
    have : l[i]? = some y.cs := by
      rw [List.getElem?_pmap] at hy
      cases hi : l[i]? with
      | none => simp [hi] at hy
      | some c => simp [hi] at hy; rw [← hy]
    have := e3 i _ this
    rwa [← hE] at this
class Pos (n : Nat) : Prop where
  pos : 0 < n
instance {n : Nat} : Pos (n + 1) := ⟨Nat.succ_pos n⟩
class SzE {α : Type} (E : Flat α) (n : Nat) : Prop where
  eq : E.sz = n
instance : SzE intF 1 := ⟨rfl⟩
instance : SzE cellF 2 := ⟨rfl⟩
instance {t e : TypeId} {size bytes size' bytes' : Nat} {zero zero' : Value} {D : TypeDesc} {α : Type} {E : Flat α} {X : TypeId} [T : Ty P t (.slice e) size bytes zero] [T' : Ty P e D size' bytes' zero'] [O : OpensF P e E] [hE : SzE E size'] [hz : Pos size'] [hb : Pos bytes'] : OpensR P t (sliceF E X) := ⟨fun h hw =>
  let ⟨v, xs, a, s⟩ := opens_slF hE.eq hz.pos hb.pos h hw; ⟨xs, v, a, s⟩⟩
instance : SzE editF 3 := ⟨rfl⟩
class SzR {α : Type} (R : Rep α) (n : Nat) : Prop where
  eq : R.sz = n
instance {t e : TypeId} {size bytes size' bytes' : Nat} {zero zero' : Value} {D : TypeDesc} {α : Type} {R : Rep α} {X : TypeId} [T : Ty P t (.slice e) size bytes zero] [T' : Ty P e D size' bytes' zero'] [O : OpensR P e R] [hE : SzR R size'] [hz : Pos size'] [hb : Pos bytes'] : OpensR P t (sliceR R X) := ⟨fun h hw =>
  let ⟨v, xs, a, s⟩ := opens_slR hE.eq hz.pos hb.pos h hw; ⟨xs, v, a, s⟩⟩
instance {t : TypeId} {size bytes : Nat} {zero : Value} [T : Ty P t (.int .i64) size bytes zero] : OpensR P t intR := ⟨fun h _ => OpensF.op (E := intF) h⟩
instance {t : TypeId} {size bytes : Nat} {zero : Value} [T : Ty P t .bool size bytes zero] : OpensR P t boolR := ⟨fun h _ => OpensF.op (E := boolF) h⟩
theorem opens_flat {t : TypeId} {α : Type} {E : Flat α} {one : ∀ x, allOne (E.f x) = true} [O : OpensF P t E] : OpensR P t (flatR E one) := ⟨fun h _ => O.op h⟩
def Fs (P : Program) (pl : List FldI) (off : Nat) {α : Type} (R : Rep α) : Prop :=
  ∀ {H : Type} {enc : TypeId × Value → H} {W : World} {n : Nat} {cs : List Value}, cs.length = off + R.sz → (∀ (i : Nat) (fi : FldI), pl[i]? = some fi → ∃ y, DataW.trod enc P W 0 (fun _ => true) true n fi.type ((cs.drop fi.off).take fi.size) = some y ∧ ∀ m ∈ y.1.weights P fi.type, m ≤ reachBytes) → ∃ a, R.B (allOf W) (cs.drop off) a
theorem fs_one {t : TypeId} {a : Bool} {off n : Nat} {α : Type} {R : Rep α} [O : OpensR P t R] (hn : R.sz = n) : Fs P [⟨t, a, off, n⟩] off R := fun hl k => by
  obtain ⟨y, e, w⟩ := k 0 _ rfl
  simp only at e
  rw [List.take_of_length_le (by simp; omega)] at e
  exact O.op e w
theorem fs_cons {t : TypeId} {a : Bool} {off n off' : Nat} {pl : List FldI} {α β : Type} {R : Rep α} {S : Rep β} [O : OpensR P t R] (hn : R.sz = n) (ho : off' = off + n) (r : Fs P pl off' S) : Fs P (⟨t, a, off, n⟩ :: pl) off (prodR R S) := fun {H enc W nn cs} hl k => by
  obtain ⟨y, e, w⟩ := k 0 _ rfl
  obtain ⟨x1, h1⟩ := O.op e w
  have hs : (prodR R S).sz = R.sz + S.sz := rfl
  obtain ⟨x2, h2⟩ := r (H := H) (enc := enc) (W := W) (n := nn) (cs := cs) (by omega) fun i fi hi => k (i + 1) fi (by simpa using hi)
  refine ⟨(x1, x2), _, _, ?_, h1, h2⟩
  simp only
  rw [ho, ← List.drop_drop, List.take_append_drop]
theorem opens_fs {t : TypeId} {D : TypeDesc} {pl : List FldI} {n bytes : Nat} {zero : Value} [T : Ty P t D n bytes zero] [F : Flds P t pl] {α β : Type} {R : Rep α} {f : β → α} (g : α → β) (hg : ∀ a, f (g a) = a) (hn : R.sz = n) (r : Fs P pl 0 R) : OpensR P t (mapR R f) := ⟨fun {H enc W fuel cs x} h hw => by
  obtain ⟨hl, m, k⟩ := trod_flds (F := F) h
  obtain ⟨a, ha⟩ := r (H := H) (enc := enc) (W := W) (n := m) (cs := cs) (by rw [hl, cellsOf_ty (T := T)]; omega) fun i fi hi => by
    obtain ⟨y, e, w⟩ := k i fi hi
    exact ⟨y, e, fun m hm => hw m (w m hm)⟩
  refine ⟨g a, ?_⟩
  show R.B _ _ (f (g a))
  rw [hg]
  simpa using ha⟩
section
variable {τ : Tys} {t t1 t2 t3 t4 : TypeId} {D : TypeDesc} {bytes : Nat} {zero : Value}
theorem opens_grid [T : Ty P t D 2 bytes zero] [F : Flds P t [⟨t1, false, 0, 1⟩, ⟨t2, false, 1, 1⟩]] [O1 : OpensR P t1 intR] [O2 : OpensR P t2 (sliceF cellF τ.cell)] : OpensR P t (gridR τ) :=
  opens_fs (T := T) (F := F) (fun a => ⟨a.1, a.2⟩) (fun _ => rfl) rfl (fs_cons rfl rfl (fs_one rfl))
theorem opens_part [T : Ty P t D 3 bytes zero] [F : Flds P t [⟨t1, false, 0, 1⟩, ⟨t2, false, 1, 1⟩, ⟨t3, false, 2, 1⟩]] [O1 : OpensR P t1 boolR] [O2 : OpensR P t2 intR] [O3 : OpensR P t3 (sliceF intF τ.int)] : OpensR P t (partR τ) :=
  opens_fs (T := T) (F := F) (fun a => ⟨a.1, a.2.1, a.2.2⟩) (fun _ => rfl) rfl (fs_cons rfl rfl (fs_cons rfl rfl (fs_one (R := sliceF intF τ.int) rfl)))
theorem opens_shown [T : Ty P t D 2 bytes zero] [F : Flds P t [⟨t1, false, 0, 1⟩, ⟨t2, false, 1, 1⟩]] [O1 : OpensR P t1 intR] [O2 : OpensR P t2 (sliceF intF τ.int)] : OpensR P t (shownR τ) :=
  opens_fs (T := T) (F := F) (fun a => ⟨a.1, a.2⟩) (fun _ => rfl) rfl (fs_cons rfl rfl (fs_one (R := sliceF intF τ.int) rfl))
instance : SzR (partR τ) 3 := ⟨rfl⟩
instance : SzR (shownR τ) 2 := ⟨rfl⟩
theorem opens_keeper [T : Ty P t D 5 bytes zero] [F : Flds P t [⟨t1, true, 0, 2⟩, ⟨t2, false, 2, 1⟩, ⟨t3, false, 3, 1⟩, ⟨t4, false, 4, 1⟩]] [O1 : OpensR P t1 (gridR τ)] [O2 : OpensR P t2 (sliceF editF τ.edit)] [O3 : OpensR P t3 (sliceR (partR τ) τ.part)] [O4 : OpensR P t4 (sliceR (shownR τ) τ.shown)] : OpensR P t (keeperR τ) :=
  opens_fs (T := T) (F := F) (fun a => ⟨a.1, a.2.1, a.2.2.1, a.2.2.2⟩) (fun _ => rfl) rfl (fs_cons rfl rfl (fs_cons (R := sliceF editF τ.edit) rfl rfl (fs_cons rfl rfl (fs_one rfl))))
end
end
end Go.Sl

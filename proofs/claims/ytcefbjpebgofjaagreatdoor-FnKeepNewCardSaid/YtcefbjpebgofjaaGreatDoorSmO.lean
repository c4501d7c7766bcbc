/- Arguments that read as data, opened; the post where old memory stands. No program. -/
import Derived.Test.YtcefbjpebgofjaaGreatDoorSmP
import Derived.HandedShaped
set_option linter.unusedVariables false
set_option linter.unusedSimpArgs false
set_option linter.unusedSectionVars false

namespace Go.Sl
open Go Go.Conc PHeap
open Go.ChangeShapes Go.WideShapes Go.RowKit

section
variable {P : Program} {W : World} {H : Type} {enc : TypeId × Value → H} {base : Nat} {spare : Nat → Bool} {held : Bool}

theorem allOf_cell (W : World) (a : Addr) : (allOf W).cell a = W.cell? a := by
  unfold PHeap.cell World.cell? allOf
  rfl

theorem cellsOf_ty {t : TypeId} {D : TypeDesc} {size bytes : Nat} {zero : Value} [T : Ty P t D size bytes zero] : P.cellsOf t = size := by
  have := T.inf
  unfold Program.cellsOf
  cases e : P.info? t with
  | none => rw [e] at this; cases this
  | some i => rw [e] at this; simp at this; simp [this.1]

theorem bytesOf_ty {t : TypeId} {D : TypeDesc} {size bytes : Nat} {zero : Value} [T : Ty P t D size bytes zero] : P.bytesOf t = bytes := by
  have := T.inf
  unfold Program.bytesOf
  cases e : P.info? t with
  | none => rw [e] at this; cases this
  | some i => rw [e] at this; simp at this; simp [this.2.1]

/-- No address that stands in these cells has a spot. -/
def Spots (cs : List Value) : Prop := ∀ v ∈ cs, ∀ a l c, v = .slice (some a) l c → a.spot = none

theorem cell_spot {r : Reach} {b : Nat} {t : TypeId} {a : Addr} {l c : Nat} (h : Cell.okWide P W r b t (.slice (some a) l c)) : a.spot = none := by
  unfold Cell.okWide at h
  split at h
  all_goals first | (rename_i hh; cases hh; done) | skip
  all_goals (try (rename_i h1 h2; cases h2; done))
  unfold Cell.ok at h
  split at h
  all_goals first | exact h.elim | (rename_i h1 h2; cases h2; exact h.2.2.2.1) | (rename_i h1 h2; cases h2; done)
theorem spots_struct {r : Reach} {b : Nat} {t : TypeId} {fs : Array Field} {cs : List Value} (ht : P.underlying t = some (.struct fs)) (h : Value.okWide P W r b t (.agg cs.toArray)) : Spots cs := by
  simp only [Value.okWide, ht] at h
  obtain ⟨cs', e, _, ts, _, _, k⟩ := h
  cases e
  intro v hv a l c e
  obtain ⟨i, hi⟩ := List.mem_iff_getElem?.1 hv
  obtain ⟨u, _, y⟩ := k i v (by simpa using hi)
  subst e
  exact cell_spot y

theorem trod_flds {t : TypeId} {pl : List FldI} [F : Flds P t pl] {cs : List Value} {fuel : Nat} {x : DataW H × List MemPlace} (h : DataW.trod enc P W base spare held fuel t cs = some x) :
    cs.length = P.cellsOf t ∧ ∃ n : Nat, ∀ (i : Nat) (fi : FldI), pl[i]? = some fi → ∃ y, DataW.trod enc P W base spare held n fi.type ((cs.drop fi.off).take fi.size) = some y ∧ ∀ m ∈ y.1.weights P fi.type, m ∈ x.1.weights P t := by
  have hu := F.und
  unfold Program.fldsOf at hu
  split at hu
  case h_2 => cases hu
  rename_i fs ht
  obtain ⟨xs, n, _, rfl, hl, hlen, hf⟩ := DataW.trod_struct ht h
  refine ⟨hl, n, fun i fi hi => ?_⟩
  have e : (fs.toList.map fun f => (P.info? f.type).bind fun i => (P.underlying f.type).map fun d => (⟨f.type, aggD d, f.offset, i.size⟩ : FldI))[i]? = some (some fi) := by
    rw [Option.some.inj hu]; simp [hi]
  rw [List.getElem?_map] at e
  obtain ⟨f, hfi, e⟩ := Option.map_eq_some_iff.1 e
  obtain ⟨inf, h1, e⟩ := Option.bind_eq_some_iff.1 e
  obtain ⟨d, h2, e⟩ := Option.map_eq_some_iff.1 e
  have hfi' : fs[i]? = some f := by simpa using hfi
  have := hf i f hfi'
  have hc : P.cellsOf f.type = inf.size := by simp [Program.cellsOf, h1]
  rw [hc] at this
  subst e
  have hlt : i < xs.length := by rw [hlen]; exact (Array.getElem?_eq_some_iff.1 hfi').1
  refine ⟨xs[i], by rw [this]; exact List.getElem?_eq_getElem hlt, fun m hm => ?_⟩
  simp only [DataW.weights, ht]
  exact DataW.weights_mem_each (j := i) (by simp [hfi']) (by simp [List.getElem?_eq_getElem hlt]) m hm

/-- Data of this type lie so. -/
class OpensF (P : Program) (t : TypeId) {α : Type} (E : Flat α) : Prop where
  op : ∀ {H : Type} {enc : TypeId × Value → H} {W : World} {fuel : Nat} {cs : List Value} {x : DataW H × List MemPlace}, DataW.trod enc P W 0 (fun _ => true) true fuel t cs = some x → ∃ a, cs = E.f a
class OpensR (P : Program) (t : TypeId) {α : Type} (R : Rep α) : Prop where
  op : ∀ {H : Type} {enc : TypeId × Value → H} {W : World} {fuel : Nat} {cs : List Value} {x : DataW H × List MemPlace}, Spots cs → DataW.trod enc P W 0 (fun _ => true) true fuel t cs = some x → (∀ m ∈ x.1.weights P t, m ≤ reachBytes) → ∃ a, R.B (allOf W) cs a

instance {t : TypeId} {size bytes : Nat} {zero : Value} [T : Ty P t (.int .i64) size bytes zero] : OpensF P t intF := ⟨fun h => by
  obtain ⟨n, rfl, _⟩ := DataW.trod_int T.und h; exact ⟨n, rfl⟩⟩
instance {t : TypeId} {size bytes : Nat} {zero : Value} [T : Ty P t .bool size bytes zero] : OpensF P t boolF := ⟨fun h => by
  obtain ⟨n, rfl, _⟩ := DataW.trod_bool T.und h; exact ⟨n, rfl⟩⟩

theorem two_parts {cs : List Value} {a b n : Nat} (hl : cs.length = n) (hn : n = a + b) : cs = (cs.drop 0).take a ++ (cs.drop a).take b := by
  rw [List.drop_zero, List.take_of_length_le (l := cs.drop a) (by simp; omega), List.take_append_drop]

theorem opens_cell {t u : TypeId} {D : TypeDesc} {bytes b1 s1 : Nat} {zero z1 : Value} [T : Ty P t D 2 bytes zero] [F : Flds P t [⟨u, false, 0, 1⟩, ⟨u, false, 1, 1⟩]] [U : Ty P u (.int .i64) s1 b1 z1] : OpensF P t cellF := ⟨fun h => by
  obtain ⟨hl, n, k⟩ := trod_flds (F := F) h
  obtain ⟨y1, e1, _⟩ := k 0 _ rfl
  obtain ⟨y2, e2, _⟩ := k 1 _ rfl
  obtain ⟨a, e1, _⟩ := DataW.trod_int U.und e1
  obtain ⟨b, e2, _⟩ := DataW.trod_int U.und e2
  refine ⟨⟨a, b⟩, ?_⟩
  rw [two_parts (a := 1) (b := 1) hl cellsOf_ty]
  simp only at e1 e2
  rw [e1, e2]
  rfl⟩

theorem mapM_get {α β : Type} {f : α → Option β} : ∀ {l : List α} {ys : List β}, l.mapM f = some ys → ys.length = l.length ∧ ∀ (i : Nat) (a : α), l[i]? = some a → f a = ys[i]?
  | [], ys, h => by simp at h; subst h; simp
  | a :: l, ys, h => by
    rw [List.mapM_cons] at h
    simp only [Option.bind_eq_bind, Option.bind_eq_some_iff, Option.pure_def, Option.some.injEq] at h
    obtain ⟨y, e1, zs, e2, rfl⟩ := h
    obtain ⟨k1, k2⟩ := mapM_get e2
    refine ⟨by simp [k1], fun i a' hi => ?_⟩
    cases i with
    | zero => simp at hi; subst hi; simpa using e1
    | succ i => simpa using k2 i a' (by simpa using hi)

theorem cells_at {b off n : Nat} {cs : List Value} (h : W.cells? 0 ⟨b, off, none⟩ n = some cs) : cs.length = n ∧ Cells (allOf W) ⟨b, off, none⟩ cs := by
  unfold World.cells? at h
  rw [if_pos (Nat.zero_le _)] at h
  obtain ⟨h1, h2⟩ := mapM_get h
  refine ⟨by simpa using h1, fun j v e => ?_⟩
  have hj : j < n := by
    have := (List.getElem?_eq_some_iff.1 e).1
    simpa using (by rw [h1] at this; simpa using this)
  rw [allOf_cell, h2 j j (by simp [hj]), e]

theorem opens_slF {t e : TypeId} {size bytes size' bytes' : Nat} {zero zero' : Value} {D : TypeDesc} {α : Type} {E : Flat α} [T : Ty P t (.slice e) size bytes zero] [T' : Ty P e D size' bytes' zero'] [O : OpensF P e E] (hE : E.sz = size')
    {cs : List Value} {fuel : Nat} {x : DataW H × List MemPlace} (hb : 0 < bytes') (sp : Spots cs) (h : DataW.trod enc P W 0 (fun _ => true) true fuel t cs = some x) (hw : ∀ m ∈ x.1.weights P t, m ≤ reachBytes) : ∃ v xs, cs = [v] ∧ Sl (allOf W) v E xs := by
  have hh := DataW.trod_slice T.und h
  clear h
  rcases hh with ⟨rfl, _⟩ | ⟨a, len, cap, elems, rest, n, _, rfl, rfl, _, hle, hcap, hel, hget, _, _⟩
  · exact ⟨_, [], rfl, Sl.nil _ _⟩
  · obtain ⟨b, off, spot⟩ := a
    obtain rfl : spot = none := sp _ (List.mem_cons_self ..) _ _ _ rfl
    have hc : P.cellsOf e = E.sz := by rw [hE]; exact cellsOf_ty (T := T')
    have k : ∀ i, i < len → ∃ y, Cells (allOf W) ⟨b, off + i * E.sz, none⟩ (E.f y) := by
      intro i hi
      have g := hget i hi
      have hs : elems[i]? = some (elems[i]'(by omega)) := List.getElem?_eq_getElem _
      rw [hs, hc, add_none] at g
      obtain ⟨cs, h1, h2⟩ := Option.bind_eq_some_iff.1 g
      obtain ⟨y, rfl⟩ := O.op h2
      exact ⟨y, (cells_at h1).2⟩
    refine ⟨_, (List.range len).pmap (fun i hi => Classical.choose (k i hi)) (fun i hi => by simpa using hi), rfl, ⟨?_, ?_⟩⟩
    · have hb' : P.bytesOf e = bytes' := bytesOf_ty (T := T')
      have hm := hw ((elems.length + rest.length) * P.bytesOf e) (by simp [DataW.weights, T.und])
      rw [hb'] at hm
      have h1 : elems.length + rest.length ≤ (elems.length + rest.length) * bytes' := Nat.le_mul_of_pos_right _ hb
      have h2 : reachBytes ≤ 281474976710656 := by decide
      simp; omega
    · refine .inr ⟨cap, by simp [vb, vo], by simpa using hle, fun i x hx => ?_⟩
      rw [List.getElem?_pmap] at hx
      have hi : i < len := by
        rcases Nat.lt_or_ge i len with y | y
        · exact y
        · simp [List.getElem?_range, Nat.not_lt.2 y] at hx
      simp [List.getElem?_range, hi] at hx
      subst hx
      exact Classical.choose_spec (k i hi)

class Pos (n : Nat) : Prop where
  pos : 0 < n
instance {n : Nat} : Pos (n + 1) := ⟨Nat.succ_pos n⟩
class SzE {α : Type} (E : Flat α) (n : Nat) : Prop where
  eq : E.sz = n
instance : SzE intF 1 := ⟨rfl⟩
instance : SzE cellF 2 := ⟨rfl⟩
instance : SzE boolF 1 := ⟨rfl⟩
instance {t e : TypeId} {size bytes size' bytes' : Nat} {zero zero' : Value} {D : TypeDesc} {α : Type} {E : Flat α} {X : TypeId} [T : Ty P t (.slice e) size bytes zero] [T' : Ty P e D size' bytes' zero'] [O : OpensF P e E] [hE : SzE E size'] [hb : Pos bytes'] : OpensR P t (sliceF E X) := ⟨fun sp h hw =>
  let ⟨v, xs, a, s⟩ := opens_slF hE.eq hb.pos sp h hw; ⟨xs, v, a, s⟩⟩

theorem spots_part {cs : List Value} (s : Spots cs) (a b : Nat) : Spots ((cs.drop a).take b) := fun v hv => s v (List.mem_of_mem_drop (List.mem_of_mem_take hv))
theorem opens_two {α β : Type} {R : Rep α} {S : Rep β} {t t1 t2 : TypeId} {a1 a2 : Bool} {D : TypeDesc} {n1 n2 n bytes : Nat} {zero : Value} [T : Ty P t D n bytes zero] [F : Flds P t [⟨t1, a1, 0, n1⟩, ⟨t2, a2, n1, n2⟩]] (hn : n = n1 + n2) [O1 : OpensR P t1 R] [O2 : OpensR P t2 S]
    {cs : List Value} {fuel : Nat} {x : DataW H × List MemPlace} (sp : Spots cs) (h : DataW.trod enc P W 0 (fun _ => true) true fuel t cs = some x) (hw : ∀ m ∈ x.1.weights P t, m ≤ reachBytes) : ∃ a b, (prodR R S).B (allOf W) cs (a, b) := by
  obtain ⟨hl, n, k⟩ := trod_flds (F := F) h
  obtain ⟨y1, e1, w1⟩ := k 0 _ rfl
  obtain ⟨y2, e2, w2⟩ := k 1 _ rfl
  obtain ⟨a, q1⟩ := O1.op (spots_part sp _ _) e1 fun m hm => hw m (w1 m hm)
  obtain ⟨b, q2⟩ := O2.op (spots_part sp _ _) e2 fun m hm => hw m (w2 m hm)
  exact ⟨a, b, _, _, two_parts hl ((cellsOf_ty (T := T)).trans hn), q1, q2⟩
instance {t : TypeId} {size bytes : Nat} {zero : Value} [T : Ty P t (.int .i64) size bytes zero] : OpensR P t intR := ⟨fun _ h _ => OpensF.op (E := intF) h⟩
instance {t : TypeId} {size bytes : Nat} {zero : Value} [T : Ty P t .bool size bytes zero] : OpensR P t boolR := ⟨fun _ h _ => OpensF.op (E := boolF) h⟩
theorem opens_grid {τ : Tys} {t t1 t2 : TypeId} {D : TypeDesc} {bytes : Nat} {zero : Value} [T : Ty P t D 2 bytes zero] [F : Flds P t [⟨t1, false, 0, 1⟩, ⟨t2, false, 1, 1⟩]] [O1 : OpensR P t1 intR] [O2 : OpensR P t2 (sliceF cellF τ.cell)] : OpensR P t (gridR τ) := ⟨fun sp h hw =>
  let ⟨a, b, q⟩ := opens_two (T := T) (F := F) rfl sp h hw; ⟨⟨a, b⟩, q⟩⟩
end

/-! ### the post where old memory stands -/
theorem post_of_below {H : Type} {enc : TypeId × Value → H} {P : Program} {f : Func} {s : ChangeSpec} {apart fresh handsOn again : Bool} {W W' : World} {args : Array Value} {v : Value} {ds gs : List (DataW H)} {before pa pv : List MemPlace}
    (hW : DataW.Whole enc P f.params.toList s.vars apart W args.toList ds gs before)
    (hres : ∀ (b : Nat) (sp : Nat → Bool) (hd : Bool), DataW.TrodAll enc P W' b sp hd f.resultTypes.toList (v.resultList f.resultTypes.size) (s.fn H (ds ++ gs)).results [])
    (hargs : ∀ sp : Nat → Bool, (∀ p ∈ before, sp p.block = true) → DataW.TrodAll enc P W' 0 sp true f.params.toList args.toList (s.fn H (ds ++ gs)).args pa)
    (hvars : ∀ sp : Nat → Bool, (∀ p ∈ before, sp p.block = true) → DataW.TrodVars enc P W' sp s.vars (s.fn H (ds ++ gs)).vars pv)
    (hps : before = pa ++ pv) (hk : Below W.heap.size W W')
    (hok : ∀ (j : Nat) (t : TypeId) (r : Value), f.resultTypes[j]? = some t → (v.resultList f.resultTypes.size)[j]? = some r → Value.okWide P W' .any 0 t r) :
    s.post enc P f apart fresh handsOn again W args v W' := by
  have hlt := fun p hp => hW.lt p hp
  have hold : ∀ p ∈ before, (fun b => decide (b < W.heap.size)) p.block = true := fun p hp => by simpa using hlt p hp
  refine ⟨ds, gs, before, [], pa, pv, hW, hres _ _ _, hargs _ hold, hvars _ hold, World.keptBut_mono (fun p hp => ⟨hp, ?_⟩) (hk.frame (· ∈ before)), fun _ => ?_⟩
  · rw [hps, List.mem_append] at hp
    exact Or.inr hp
  · obtain ⟨_, _, _, _, _, hz, hn⟩ := hW
    refine ⟨hok, _, _, ([] ++ pa) ++ pv, ⟨[] ++ pa, pv, trodAll_append (hargs _ (fun _ _ => rfl)) (hres _ _ _), hvars _ (fun _ _ => rfl), rfl, ?_, ?_⟩, ?_⟩
    · intro b off hp
      have hp' : MemPlace.cell b off ∈ before := by rw [hps]; simpa using hp
      rw [hk.frozen (hlt _ hp')]
      exact hz b off hp'
    · intro ha
      have := hn ha
      rw [hps] at this
      simpa using this
    · intro p hp _
      rw [hps]
      simpa using hp
end Go.Sl

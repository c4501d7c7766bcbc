/- Slices of one's own: append, make, cutting. No program. -/
import Derived.Test.YtcefbjpebgofjaaSlL
import Derived.Laws.AppendOwn
namespace Go.Sl
open Go Go.Conc PHeap

/-- A slice of one's own that grows: its array is the list's cells and some to spare. -/
structure Gr (A : Own) (v : Value) (T : TypeId) {α : Type} (E : Flat α) (xs : List α) : Prop where
  at' : (v = .slice none 0 0 ∧ xs = [] ∧ A = []) ∨ ∃ b cap sp, v = .slice (some ⟨b, 0, none⟩) xs.length cap ∧ A = [(b, .cells (xs.flatMap E.f ++ sp).toArray T)] ∧ (xs.flatMap E.f ++ sp).length = cap * E.sz ∧ xs.length ≤ cap
theorem Gr.nil (T : TypeId) {α : Type} (E : Flat α) : Gr [] (.slice none 0 0) T E [] := ⟨.inl ⟨rfl, rfl, rfl⟩⟩
theorem flat_length {α : Type} (E : Flat α) (xs : List α) : (xs.flatMap E.f).length = xs.length * E.sz := by
  induction xs with
  | nil => simp
  | cons x xs ih => rw [List.flatMap_cons, List.length_append, ih, E.len, List.length_cons, Nat.add_mul]; omega
theorem flat_cells {H : PHeap} {α : Type} {E : Flat α} {b : Nat} : ∀ {ys : List α} {o : Nat}, (∀ i x, ys[i]? = some x → Cells H ⟨b, o + i * E.sz, none⟩ (E.f x)) → Cells H ⟨b, o, none⟩ (ys.flatMap E.f)
  | [], o, _ => fun j v e => by simp at e
  | y :: ys, o, h => fun j v e => by
    rw [List.flatMap_cons] at e
    rw [add_none]
    rcases Nat.lt_or_ge j (E.f y).length with hj | hj
    · rw [List.getElem?_append_left hj] at e
      have := h 0 y rfl j v e
      rw [add_none] at this
      simpa using this
    · rw [List.getElem?_append_right hj] at e
      have := flat_cells (ys := ys) (o := o + E.sz) (fun i x hx => by
        have := h (i + 1) x (by simpa using hx)
        rwa [Nat.add_mul, Nat.one_mul, Nat.add_comm (i * E.sz), ← Nat.add_assoc] at this) (j - (E.f y).length) v e
      rw [add_none, E.len] at this
      rw [E.len] at hj
      rwa [show o + E.sz + (j - E.sz) = o + j by omega] at this
theorem cells_flat {H : PHeap} {α : Type} {E : Flat α} {b : Nat} : ∀ {ys : List α} {o : Nat}, Cells H ⟨b, o, none⟩ (ys.flatMap E.f) → ∀ i x, ys[i]? = some x → Cells H ⟨b, o + i * E.sz, none⟩ (E.f x)
  | [], o, _, i, x, e => by simp at e
  | y :: ys, o, h, i, x, e => fun j v ev => by
    rw [List.flatMap_cons] at h
    cases i with
    | zero =>
      obtain rfl : y = x := by simpa using e
      have hj : j < (E.f y).length := by
        rcases Nat.lt_or_ge j (E.f y).length with h | h
        · exact h
        · rw [List.getElem?_eq_none h] at ev; cases ev
      have := h j v (by rw [List.getElem?_append_left hj]; exact ev)
      simpa using this
    | succ i =>
      have := cells_flat (ys := ys) (o := o + E.sz) (fun j v ev => by
        have := h (E.sz + j) v (by rw [List.getElem?_append_right (by rw [E.len]; omega), E.len, Nat.add_sub_cancel_left]; exact ev)
        rw [add_none] at this ⊢
        rwa [Nat.add_assoc]) i x (by simpa using e) j v ev
      rwa [show o + E.sz + i * E.sz = o + (i + 1) * E.sz by rw [Nat.add_mul]; omega] at this

/-- Where the cells to be appended lie. -/
def Src (h : PHeap) (R : Own) (u : Value) (m : Nat) (news : List Value) : Prop := ∀ F H, Rel F h R H → (u = .slice none 0 0 ∧ m = 0) ∨ ∃ ad c, u = .slice (some ad) m c ∧ Cells H ad news
theorem src_own {h : PHeap} {R : Own} {b m c : Nat} {l : List Value} {T : TypeId} {fr : Nat × Nat} (o : OwnAt R b (.cells l.toArray T fr)) : Src h R (.slice (some ⟨b, 0, none⟩) m c) m l := fun F H r =>
  .inr ⟨_, _, rfl, fun j v e => by rw [add_none, cell_of (r.own _ _ o.mem).1]; simpa using e⟩
theorem src_base {h : PHeap} {R : Own} {u : Value} {α : Type} {E : Flat α} {ys : List α} (s : Sl h u E ys) : Src h R u ys.length (ys.flatMap E.f) := fun F H r => by
  rcases s.reads with ⟨rfl, rfl⟩ | ⟨cap, a, _, c⟩
  · exact .inl ⟨rfl, rfl⟩
  · exact .inr ⟨_, _, a, flat_cells fun i x hx => (c i x hx).le r.base⟩
theorem src_gr {h : PHeap} {R B : Own} {u : Value} {T : TypeId} {α : Type} {E : Flat α} {ys : List α} (g : Gr B u T E ys) (hs : ∀ x ∈ B, x ∈ R) : Src h R u ys.length (ys.flatMap E.f) := fun F H r => by
  rcases g.at' with ⟨rfl, rfl, rfl⟩ | ⟨b, cap, sp, rfl, rfl, h1, h2⟩
  · exact .inl ⟨rfl, rfl⟩
  · refine .inr ⟨_, _, rfl, fun j v e => ?_⟩
    rw [add_none, cell_of (r.own b (.cells (ys.flatMap E.f ++ sp).toArray T) (hs _ (by simp))).1]
    have hj : j < (ys.flatMap E.f).length := by
      rcases Nat.lt_or_ge j (ys.flatMap E.f).length with h | h
      · exact h
      · rw [List.getElem?_eq_none h] at e; cases e
    simp only [Nat.zero_add, List.getElem?_toArray]
    rw [List.getElem?_append_left hj]; exact e

/-- A slice of one's own becomes a part of the base. -/
theorem Gr.sl {A : Own} {v : Value} {T : TypeId} {α : Type} {E : Flat α} {xs : List α} (g : Gr A v T E xs) (hs : xs.length ≤ 281474976710656) {F h H : PHeap} {R : Own} (r : Rel F h (A ++ R) H) : ∃ h', Up F h h' ∧ Rel F h' R H ∧ Sl h' v E xs := by
  rcases g.at' with ⟨rfl, rfl, rfl⟩ | ⟨b, cap, sp, rfl, rfl, h1, h2⟩
  · exact ⟨h, Up.refl _ _, r, Sl.nil _ _⟩
  · obtain ⟨r2, u⟩ := Rel.pub (O := R) r
    refine ⟨_, u, r2, hs, .inr ⟨cap, rfl, h2, ?_⟩⟩
    refine cells_flat (fun j v e => ?_)
    rw [add_none]
    have e0 : (h.put b (.cells (xs.flatMap E.f ++ sp).toArray T)).obj b = some (.cells (xs.flatMap E.f ++ sp).toArray T) := obj_put _ _ _
    simp only [vo, vb]
    rw [cell_of e0]
    have hj : j < (xs.flatMap E.f).length := by
      rcases Nat.lt_or_ge j (xs.flatMap E.f).length with h | h
      · exact h
      · rw [List.getElem?_eq_none h] at e; cases e
    simp only [Nat.zero_add, List.getElem?_toArray]
    rw [List.getElem?_append_left hj]; exact e

section
variable {P : Program} {M : Jdg → Prop} [hM : IsCl P M] {n : Nat} {Q : Qo} {ops : Array Oper} {rest : List Oper} {L : Locals} {O R A : Own} {h : PHeap} {d : Option Nat} {ty : TypeId} {pos : String} {af : Array Edge} {g : Option (Nat × Bool)}
  {t e : TypeId} {D D' : TypeDesc} {size bytes size' bytes' : Nat} {zero zero' : Value} {K : Next → Own → PHeap → Prop} {E : Value → Own → PHeap → Prop} {α : Type} {fl : Flat α}

omit hM in
theorem code_pubG {c : Code} {v : Value} {T : TypeId} {xs : List α} (g : Gr A v T fl xs) (hs : xs.length ≤ 281474976710656) (hp : O.Perm (A ++ R)) (x : ∀ h', Le h h' → Sl h' v fl xs → c.so P M n Q L R h') : c.so P M n Q L O h := fun F H r => by
  obtain ⟨h', u, r2, s⟩ := g.sl hs (r.perm hp.symm)
  exact sl_mono (x _ ⟨u.le, u.gh⟩ s F H r2) fun e L H y => liftQ_up u y
omit hM in
theorem so_pubG {v : Value} {T : TypeId} {xs : List α} (g : Gr A v T fl xs) (hs : xs.length ≤ 281474976710656) (hp : O.Perm (A ++ R)) (x : ∀ h', Le h h' → Sl h' v fl xs → soOps P M n ops Q rest L R h') : soOps P M n ops Q rest L O h := fun F H r l e => by
  obtain ⟨h', u, r2, s⟩ := g.sl hs (r.perm hp.symm)
  exact ops_mono (x _ ⟨u.le, u.gh⟩ s F H r2 l e) fun e L H y => liftQ_up u y

omit hM in
theorem slp_askRoom {H : PHeap} {Kk : Unit → PHeap → Prop} {Ee : Value → PHeap → Prop} (b : Nat) (k : Kk () H) : (askRoom b).slp P Kk Ee H := by
  unfold askRoom
  split
  · exact ⟨.inr rfl, k⟩
  · exact k
omit hM in
theorem slp_firstCells {H : PHeap} {Kk : Array Value → PHeap → Prop} {Ee : Value → PHeap → Prop} {u : Value} {m sz : Nat} {news : List Value} (hl : news.length = m * sz) (hs : (u = .slice none 0 0 ∧ m = 0) ∨ ∃ ad c, u = .slice (some ad) m c ∧ Cells H ad news) (k : Kk news.toArray H) : (Builtin.firstCells sz m u).slp P Kk Ee H := by
  rcases hs with ⟨rfl, rfl⟩ | ⟨ad, c, rfl, hc⟩
  · obtain rfl : news = [] := by apply List.eq_nil_of_length_eq_zero; omega
    exact k
  · exact slp_loadCells hl.symm hc k

omit hM in
theorem slp_append {H : PHeap} {Kk : Value → PHeap → Prop} {Ee : Value → PHeap → Prop} (S : Ty P t (.slice e) size' bytes' zero') (Te : Ty P e D size bytes zero) (hz : zero.cells.size = size) {ty : TypeId} {base : Option Addr} {sLen sCap m : Nat} {u : Value} {olds news : List Value}
    (ho : olds.length = sLen * size) (hn : news.length = m * size) (hold : (base = none ∧ sLen = 0 ∧ sCap = 0) ∨ ∃ b, base = some ⟨b, 0, none⟩ ∧ Cells H ⟨b, 0, none⟩ olds) (hu : (u = .slice none 0 0 ∧ m = 0) ∨ ∃ ad c, u = .slice (some ad) m c ∧ Cells H ad news)
    (hb : (sLen + m) * bytes ≤ 140737488355328) (h63 : sLen + m ≤ 4611686018427387904)
    (inPlace : sLen + m ≤ sCap → (∀ b, base = some ⟨b, 0, none⟩ → (storeCells ⟨b, 0 + sLen * size, none⟩ news).slp P (fun _ H' => Kk (.slice base (sLen + m) sCap) H') Ee H) ∧ (base = none → Kk (.slice base (sLen + m) sCap) H))
    (grown : ∀ b cap rest, sLen + m ≤ cap → rest.length = (cap - (sLen + m)) * size → H.obj b = none → Kk (.slice (some ⟨b, 0, none⟩) (sLen + m) cap) (H.put b (.cells (olds ++ news ++ rest).toArray e))) :
    (Builtin.append_ #[t, t] ty #[.slice base sLen sCap, u]).slp P Kk Ee H := by
  unfold Builtin.append_
  simp only [List.getElem?_toArray, List.getElem?_cons_zero, List.getElem?_cons_succ]
  rw [slp_bind]
  refine slp_underlying S.und ?_
  simp only []
  rw [slp_bind]
  refine slp_sizeOf Te ?_
  rw [slp_bind]
  refine slp_underlying S.und ?_
  simp only []
  rw [slp_bind, slp_pure]
  simp only [Bool.false_eq_true, if_false, Bool.not_false, if_true, false_or]
  rw [slp_bind]
  have hlen : (Builtin.lenOf u).slp P (fun k H' => k = m ∧ H' = H) Ee H := by
    rcases hu with ⟨rfl, rfl⟩ | ⟨ad, c, rfl, _⟩ <;> exact ⟨rfl, rfl⟩
  refine slp_mono ?_ (fun _ _ y => y) hlen
  rintro k H' ⟨rfl, rfl⟩
  by_cases hle : sLen + k ≤ sCap
  · rw [if_pos hle]
    rw [slp_bind]
    refine slp_firstCells hn hu ?_
    obtain ⟨i1, i2⟩ := inPlace hle
    rcases hold with ⟨rfl, _, _⟩ | ⟨b, rfl, _⟩
    · simp only [slp_pure]
      exact i2 rfl
    · simp only [slp_bind, add_none]
      refine slp_mono (fun _ H'' y => y) (fun _ _ y => y) (i1 b rfl)
  · rw [if_neg hle]
    obtain ⟨i, i1, i2, i3, i4⟩ := Te.get
    rw [slp_bind]
    refine slp_typeInfo i1 ?_
    have e63 : IntKind.i64.max = 9223372036854775807 := by decide
    rw [if_neg (by rw [e63]; omega)]
    rw [slp_bind]
    refine slp_typeInfo i1 ?_
    have hfit := growslice_fits (bytes := bytes) (show sCap < sLen + k by omega) hb
    rw [if_neg (by rw [i3]; omega)]
    rw [slp_bind]
    show Sem.slp P _ Ee (choose (Question.appendCap (sLen + k) sCap e)) H'
    simp only [choose, Sem.slp, Question.forced, Bool.false_eq_true, if_false]
    intro tp
    generalize hcap : (Question.appendCap (sLen + k) sCap e).cut tp = newCap
    have hge : sLen + k ≤ newCap := by rw [← hcap]; exact Nat.le_add_right _ _
    rw [slp_bind]
    refine slp_typeInfo i1 ?_
    rw [slp_bind]
    refine slp_askRoom _ ?_
    rw [slp_bind]
    refine slp_firstCells ho (by
      rcases hold with ⟨rfl, rfl, rfl⟩ | ⟨b, rfl, hc⟩
      · exact .inl ⟨rfl, rfl⟩
      · exact .inr ⟨_, _, rfl, hc⟩) ?_
    rw [slp_bind]
    refine slp_firstCells hn hu ?_
    rw [slp_bind]
    refine slp_zeroValue Te ?_
    simp only [slp_bind, slp_pure, newRow, newObj]
    intro b hfree
    have := grown b newCap (Builtin.zeroCells zero.cells (newCap - (sLen + k))).toList hge (by simp [size_zeroCells, hz]) hfree
    have e2 : (olds.toArray ++ news.toArray ++ Builtin.zeroCells zero.cells (newCap - (sLen + k))) = (olds ++ news ++ (Builtin.zeroCells zero.cells (newCap - (sLen + k))).toList).toArray := by apply Array.toList_inj.1; simp
    rw [e2]; exact this

/-- 'append': what it leaves is a slice of one's own again. -/
theorem c_append {args : Array Operand} {ats : Array TypeId} {v u : Value} {xs ys : List α} (hv : evAll L args.toList = some [v, u]) (ht : ats = #[t, t]) (S : Ty P t (.slice e) size' bytes' zero') (Te : Ty P e D size bytes zero) (hz : zero.cells.size = size) (gr : Gr A v e fl xs) (hO : O.Perm (A ++ R)) (hsz : fl.sz = size)
    (src : Src h R u ys.length (ys.flatMap fl.f)) (one : ∀ y ∈ ys, allOne (fl.f y) = true) (hb : (xs.length + ys.length) * bytes ≤ 140737488355328) (h63 : xs.length + ys.length ≤ 4611686018427387904) (k : ∀ v' A', Gr A' v' e fl (xs ++ ys) → K (.value v') (A' ++ R) h) :
    opo P n ⟨d, .call { callee := .builtin .append, args, argTypes := ats }, ty, pos, af, g⟩ L O h K E := fun F H r a ha => by
  subst ht
  have r0 := r.perm hO.symm
  have rR : Rel F h R H := r0.drop (List.sublist_append_right _ _)
  have hone : ∀ w ∈ ys.flatMap fl.f, isOne w = true := fun w hw => by
    obtain ⟨y, hy, hw⟩ := List.mem_flatMap.1 hw
    exact List.all_eq_true.1 (one y hy) w hw
  refine o_builtin (s := Builtin.append_ #[t, t] ty [v, u].toArray) hv (fun _ => rfl) ?_ a ha
  rcases gr.at' with ⟨rfl, rfl, rfl⟩ | ⟨b, cap, sp, rfl, rfl, h1, h2⟩
  · refine slp_append S Te hz (olds := []) (news := ys.flatMap fl.f) (by simp) (by rw [flat_length, hsz]) (.inl ⟨rfl, rfl, rfl⟩) (src F H rR) (by simpa using hb) (by simpa using h63) (fun hle => ⟨fun b hb => (by cases hb), fun _ => ?_⟩) (fun b cap rest hc hr hfree => ?_)
    · obtain rfl : ys = [] := List.eq_nil_of_length_eq_zero (by omega)
      exact lift.here r0 (k _ [] (Gr.nil _ _))
    · refine lift.here (r0.alloc hfree _) (k _ [(b, _)] ⟨.inr ⟨b, cap, rest, by simp, by simp, ?_, by simpa using hc⟩⟩)
      simp only [List.nil_append, List.length_append, flat_length, hsz, hr]
      rw [← Nat.add_mul]; congr 1; omega
  · obtain ⟨o1, o2, _⟩ := r0.own b (.cells (xs.flatMap fl.f ++ sp).toArray e) (by simp)
    have hcap : (xs.flatMap fl.f ++ sp).length = cap * size := by rw [h1, hsz]
    have hlx : (xs.flatMap fl.f).length = xs.length * size := by rw [flat_length, hsz]
    have hly : (ys.flatMap fl.f).length = ys.length * size := by rw [flat_length, hsz]
    refine slp_append S Te hz (olds := xs.flatMap fl.f) (news := ys.flatMap fl.f) hlx hly (.inr ⟨b, rfl, fun j w hw => ?_⟩) (src F H rR) hb h63 (fun hle => ⟨fun b' hb' => ?_, fun hh => by cases hh⟩) (fun b' cap' rest hc hr hfree => ?_)
    · rw [add_none, cell_of o1]
      have hj : j < (xs.flatMap fl.f).length := by
        rcases Nat.lt_or_ge j (xs.flatMap fl.f).length with h | h
        · exact h
        · rw [List.getElem?_eq_none h] at hw; cases hw
      simp only [Nat.zero_add, List.getElem?_toArray]
      rw [List.getElem?_append_left hj]; exact hw
    · cases hb'
      have hfitc : xs.length * size + ys.length * size ≤ cap * size := by rw [← Nat.add_mul]; exact Nat.mul_le_mul_right _ hle
      refine slp_storeCells (ys.flatMap fl.f) (0 + xs.length * size) 0 _ H o1 o2 (by rw [List.size_toArray, hcap, hly]; omega) hone (.inl (Nat.zero_le _)) ?_
      have e1 : setCells (xs.flatMap fl.f ++ sp).toArray (0 + xs.length * size + 0) (ys.flatMap fl.f) = ((xs ++ ys).flatMap fl.f ++ sp.drop (ys.length * size)).toArray := by
        apply Array.toList_inj.1
        rw [setCells_toList _ _ _ (by rw [List.size_toArray, hcap, hly]; omega)]
        simp only [Nat.zero_add, Nat.add_zero, List.flatMap_append]
        rw [← hlx, List.take_left, hly, hlx, List.drop_append]
        rw [List.drop_of_length_le (by rw [hlx]; omega), hlx]
        simp
      rw [e1]
      refine lift.here (Rel.set (pre := []) (post := R) r0 _) (k _ [(b, _)] ⟨.inr ⟨b, cap, sp.drop (ys.length * size), by simp, rfl, ?_, by simpa using hle⟩⟩)
      rw [List.length_append] at hcap
      rw [List.length_append, flat_length, List.length_append, List.length_drop, hsz, Nat.add_mul]
      omega
    · refine lift.here ((r0.drop (List.sublist_append_right _ _)).alloc hfree _) (k _ [(b', _)] ⟨.inr ⟨b', cap', rest, by simp, by simp, ?_, by simpa using hc⟩⟩)
      simp only [List.length_append, hlx, hly, flat_length, hsz, hr]
      rw [← Nat.add_mul]; congr 1; omega
end
end Go.Sl

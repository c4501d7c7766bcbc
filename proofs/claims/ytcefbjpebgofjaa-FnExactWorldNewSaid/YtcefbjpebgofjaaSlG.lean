/- The rule for a region that draws its order, proved. No program. -/
import Derived.Test.YtcefbjpebgofjaaSlF
namespace Go.Sl
open Go Go.Conc PHeap

theorem dstsOk_lt {n : Nat} : ∀ {ds : List (Option Nat)}, dstsOk n ds = true → ∀ {i d : Nat}, ds[i]? = some (some d) → d < n
  | none :: l, h, i, d, e => by
    cases i with
    | zero => simp at e
    | succ i => exact dstsOk_lt (ds := l) h (i := i) (by simpa using e)
  | some x :: l, h, i, d, e => by
    simp only [dstsOk, Bool.and_eq_true] at h
    cases i with
    | zero => simp at e; subst e; exact Nat.le_of_ble_eq_true h.1.1
    | succ i => exact dstsOk_lt (ds := l) h.2 (i := i) (by simpa using e)
theorem dstsOk_inj {n : Nat} : ∀ {ds : List (Option Nat)}, dstsOk n ds = true → ∀ {i j d : Nat}, ds[i]? = some (some d) → ds[j]? = some (some d) → i = j
  | none :: l, h, i, j, d, e, e' => by
    cases i with
    | zero => simp at e
    | succ i =>
      cases j with
      | zero => simp at e'
      | succ j => rw [dstsOk_inj (ds := l) h (i := i) (j := j) (by simpa using e) (by simpa using e')]
  | some x :: l, h, i, j, d, e, e' => by
    simp only [dstsOk, Bool.and_eq_true, Bool.not_eq_true'] at h
    have key : ∀ k : Nat, l[k]? = some (some x) → False := by
      intro k hk
      have hm := List.mem_of_getElem? hk
      have : l.any (isD x) = true := List.any_eq_true.2 ⟨_, hm, by simp [isD]⟩
      rw [this] at h; simp at h
    cases i with
    | zero =>
      simp at e; subst e
      cases j with
      | zero => rfl
      | succ j => exact (key j (by simpa using e')).elim
    | succ i =>
      cases j with
      | zero => simp at e'; subst e'; exact (key i (by simpa using e)).elim
      | succ j => rw [dstsOk_inj (ds := l) h.2 (i := i) (j := j) (by simpa using e) (by simpa using e')]

theorem anc_mem {ops : List Oper} {anc : List (List Nat)} (h : ancOk ops anc = true) {i j : Nat} (hj : j ∈ anc.getD i []) :
    ∃ o, ops[i]? = some o ∧ ∃ e ∈ o.after, Region.binds .any e = true ∧ (e.on = j ∨ j ∈ anc.getD e.on []) := by
  simp only [ancOk, Bool.and_eq_true] at h
  have hlen := Nat.eq_of_beq_eq_true h.1
  have hi : i < ops.length := by
    rcases Nat.lt_or_ge i ops.length with h' | h'
    · exact h'
    · rw [List.getD_eq_getElem?_getD, List.getElem?_eq_none (by omega)] at hj; simp at hj
  have h2 := List.all_eq_true.1 h.2 (ops[i], i) (by rw [List.mem_zipIdx_iff_getElem?]; simp [hi])
  have h3 := List.all_eq_true.1 h2 j hj
  obtain ⟨p, hp, hpj⟩ := List.any_eq_true.1 h3
  obtain ⟨e, he, rfl⟩ := List.mem_map.1 hp
  rw [List.mem_filter] at he
  refine ⟨ops[i], by simp [hi], e, by simpa using he.1, he.2, ?_⟩
  rw [Bool.or_eq_true] at hpj
  rcases hpj with x | x
  · exact .inl (Nat.eq_of_beq_eq_true x)
  · obtain ⟨y, hy, hyj⟩ := List.any_eq_true.1 x
    rw [Nat.eq_of_beq_eq_true hyj]; exact .inr hy

theorem anc_lt {ops : List Oper} {anc : List (List Nat)} (h : ancOk ops anc = true) (he : edgesOk ops.toArray = true) : ∀ {i j : Nat}, j ∈ anc.getD i [] → j < i := by
  intro i
  induction i using Nat.strongRecOn with
  | _ i ih =>
    intro j hj
    obtain ⟨o, ho, e, hm, hb, x⟩ := anc_mem h hj
    have hlt := edges_lt he (i := i) (o := o) (by simpa using ho) hm hb
    rcases x with rfl | x
    · exact hlt
    · exact Nat.lt_trans (ih _ hlt x) hlt

theorem oldL_get {dsts : List (Option Nat)} {anc : List (List Nat)} {i t : Nat} {v : Value} : ∀ {L : Locals}, (oldL dsts anc i L).get t = some v → L.get t = some v ∧ seesOld dsts anc i t = true
  | (x, u) :: L, e => by
    simp only [oldL] at e
    cases hs : seesOld dsts anc i x with
    | true =>
      rw [hs] at e
      simp only [cond_true, Locals.get] at e ⊢
      cases hb : Nat.beq x t with
      | true => rw [hb] at e; exact ⟨by simpa using e, by rw [← Nat.eq_of_beq_eq_true hb]; exact hs⟩
      | false => rw [hb] at e; exact oldL_get (L := L) (by simpa using e)
    | false =>
      rw [hs] at e
      have := oldL_get (L := L) (by simpa using e)
      refine ⟨?_, this.2⟩
      simp only [Locals.get]
      cases hb : Nat.beq x t with
      | true => rw [Nat.eq_of_beq_eq_true hb, this.2] at hs; cases hs
      | false => exact this.1

theorem newL_get {acc : List (Option Nat × Value)} {t : Nat} {v : Value} {L : Locals} : ∀ {js : List Nat}, (newL acc js L).get t = some v → (∃ j : Nat, j ∈ js ∧ acc[j]? = some (some t, v)) ∨ L.get t = some v
  | [], e => .inr e
  | j :: js, e => by
    simp only [newL] at e
    cases ha : acc[j]? with
    | none =>
      rw [ha] at e
      rcases newL_get (js := js) e with ⟨k, hk, x⟩ | x
      · exact .inl ⟨k, by simp [hk], x⟩
      · exact .inr x
    | some p =>
      obtain ⟨d, u⟩ := p
      rw [ha] at e
      cases d with
      | none =>
        rcases newL_get (js := js) e with ⟨k, hk, x⟩ | x
        · exact .inl ⟨k, by simp [hk], x⟩
        · exact .inr x
      | some d =>
        simp only [setL, Locals.get] at e
        cases hb : Nat.beq d t with
        | true => rw [hb] at e; exact .inl ⟨j, by simp, by rw [ha, ← Nat.eq_of_beq_eq_true hb]; simpa using e⟩
        | false =>
          rw [hb] at e
          rcases newL_get (js := js) (by simpa using e) with ⟨k, hk, x⟩ | x
          · exact .inl ⟨k, by simp [hk], x⟩
          · exact .inr x
theorem newL_app {acc more : List (Option Nat × Value)} {L : Locals} : ∀ {js : List Nat}, (∀ j ∈ js, j < acc.length) → newL (acc ++ more) js L = newL acc js L
  | [], _ => rfl
  | j :: js, h => by
    have : (acc ++ more)[j]? = acc[j]? := List.getElem?_append_left (h j (by simp))
    simp only [newL, this, newL_app (js := js) fun j hj => h j (by simp [hj])]

theorem finL_get {t : Nat} {v : Value} : ∀ {acc : List (Option Nat × Value)} {L : Locals}, (finL acc L).get t = some v → (∃ j : Nat, acc[j]? = some (some t, v)) ∨ (L.get t = some v ∧ ∀ (j : Nat) u, acc[j]? ≠ some (some t, u))
  | [], L, e => .inr ⟨e, by simp⟩
  | (d, u) :: acc, L, e => by
    simp only [finL] at e
    rcases finL_get (acc := acc) e with ⟨j, x⟩ | ⟨x, y⟩
    · exact .inl ⟨j + 1, by simpa using x⟩
    · cases d with
      | none => exact .inr ⟨x, fun j w => by cases j with | zero => simp | succ j => simpa using y j w⟩
      | some d =>
        simp only [setL, Locals.get] at x
        cases hb : Nat.beq d t with
        | true => rw [hb] at x; exact .inl ⟨0, by rw [← Nat.eq_of_beq_eq_true hb]; simpa using x⟩
        | false =>
          rw [hb] at x
          refine .inr ⟨by simpa using x, fun j w => ?_⟩
          cases j with
          | zero => simp; intro e'; subst e'; simp at hb
          | succ j => simpa using y j w

/-- One operation's step, at the goroutine itself. -/
theorem step_op {P : Program} {M : Jdg → Prop} [hM : IsCl P M] {J : Jdg} (hJ : M J) {ops : Array Oper} {i : Nat} {rest : List Nat} {o : Oper} (ho : ops[i]? = some o) {b : Frame} (hb : b.kind ≠ .early) {a : Act} (hw : Region.wanted o (yielded ops a.tmps) = true)
    {k : List Item} {cs : List Frame} {h : PHeap} {K : Next → PHeap → Prop} (hs : (execOp a.eval o).slp P K (fun _ _ => False) h)
    (hv : ∀ v h', K (.value v) h' → J h' (G (b.at (a.put o.dst v) (.inRegion ops rest :: k)) cs))
    (hc : ∀ f args h', K (.enter f args) h' → J h' (G (Frame.enter P f args .normal) (b.at a (.inRegion ops (i :: rest) :: k) :: cs)))
    (hn : ∀ r h', K r h' → (∃ v, r = .value v) ∨ ∃ f args, r = .enter f args) : J h (G (b.at a (.inRegion ops (i :: rest) :: k)) cs) := by
  obtain ⟨main, hcl⟩ := hM.cl J hJ
  have hfin : ∀ v, (b.at a (.inRegion ops (i :: rest) :: k)).finish v = b.at (a.put o.dst v) (.inRegion ops rest :: k) := fun v => by rw [Frame.finish_at, ho]; rfl
  refine hcl h _ rfl fun w hsat => ?_
  have hk' : (b.kind == CallKind.early) = false := by simpa using hb
  obtain ⟨w', h', es', s1, s2, s3, s4⟩ := slp_sound #[] hs hsat
  have hseen : ∀ e ∈ seen P b.fn es', EvOk h w.heap.size e ∧ EvLt w'.heap.size e := fun e x => s3 e (seen_sub x)
  rcases s4 with ⟨r, hr, hk⟩ | ⟨v, hr, hk⟩
  · have hrr : (execOp a.eval o).run P w = .ok r w' := by rw [← Sem.runT_fst P _ w #[], hr]
    have hre : Sem.events P (execOp a.eval o) w #[] = es' := by rw [Sem.events, hr]; simp
    rcases hn r h' hk with ⟨v, rfl⟩ | ⟨f, args, rfl⟩
    · refine ⟨G (b.at (a.put o.dst v) (.inRegion ops rest :: k)) cs, w', seen P b.fn es', h', ?_, s1, s2, hseen, hv v h' hk⟩
      rw [stepG_oper ho hw, ← hfin]
      simp [stepG.apply, hrr, hre, G, Frame.at, hk', GStep.after]
    · refine ⟨G (Frame.enter P f args .normal) (b.at a (.inRegion ops (i :: rest) :: k) :: cs), w', seen P b.fn es', h', ?_, s1, s2, hseen, hc f args h' hk⟩
      rw [stepG_oper ho hw]
      simp [stepG.apply, hrr, hre, G, Frame.at, hk', GStep.after]
  · exact hk.elim

section
variable {P : Program} {M : Jdg → Prop} [hM : IsCl P M] {n : Nat} {Q : Qt} {L : Locals} {h : PHeap} {ops : List Oper} {dsts : List (Option Nat)} {anc : List (List Nat)}

/-- What the table says of operation 'i'. -/
def ReqAt (P : Program) (M : Jdg → Prop) (n : Nat) (dsts : List (Option Nat)) (anc : List (List Nat)) (L : Locals) (h : PHeap) (acc : List (Option Nat × Value)) (i : Nat) (o : Oper) (v : Value) : Prop :=
  (o.guard = none ∧ ∀ h', h ≤ h' → opv P n o (locAt dsts anc acc L i) h' (quietK P M v h') (fun _ _ => False)) ∨
    (∃ j b want dj, o.guard = some (j, want) ∧ (anc.getD i []).any (Nat.beq j ·) = true ∧ acc[j]? = some (some dj, .bool b) ∧
      ((b = want ∧ ∀ h', h ≤ h' → opv P n o (locAt dsts anc acc L i) h' (quietK P M v h') (fun _ _ => False)) ∨ (b = !want ∧ v = undef)))

theorem anyRun_open (hanc : ∀ i j, j ∈ anc.getD i [] → j < i) : ∀ (rest : List Oper) (acc : List (Option Nat × Value)) (pre : List Oper), pre ++ rest = ops → acc.length = pre.length →
    (∀ i o, pre[i]? = some o → ∃ v, acc[i]? = some (o.dst, v) ∧ ReqAt P M n dsts anc L h acc i o v) → anyRun P M n ops.toArray dsts anc Q L h acc rest →
    ∃ (m : Nat) (full : List (Option Nat × Value)), full.length = m ∧ m ≤ ops.length ∧ (∀ i, i < m → ∃ o v, ops[i]? = some o ∧ full[i]? = some (o.dst, v) ∧ ReqAt P M n dsts anc L h full i o v) ∧
      (tailOk anc m ops.length = true ∨ m = ops.length) ∧ ∀ h', h ≤ h' → slList P M n ops.toArray Q (ops.drop m) (finL full L) h' := by
  intro rest
  induction rest with
  | nil =>
    intro acc pre e hl hr x
    refine ⟨acc.length, acc, rfl, by rw [← e]; simp [hl], fun i hi => ?_, .inr (by rw [← e]; simp [hl]), fun h' hh => ?_⟩
    · have hi' : i < pre.length := by omega
      obtain ⟨v, h1, h2⟩ := hr i pre[i] (List.getElem?_eq_getElem hi')
      exact ⟨pre[i], v, by rw [← e]; simp [hi'], h1, h2⟩
    · have : ops.drop acc.length = [] := by rw [← e]; simp [hl]
      rw [this]; exact l_nil (x h' hh)
  | cons o rest ih =>
    intro acc pre e hl hr x
    rcases x with ⟨ht, x⟩ | ⟨v, hv, x⟩
    · refine ⟨acc.length, acc, rfl, by rw [← e]; simp [hl], fun i hi => ?_, .inl (by simpa using ht), fun h' hh => ?_⟩
      · have hi' : i < pre.length := by omega
        obtain ⟨v, h1, h2⟩ := hr i pre[i] (List.getElem?_eq_getElem hi')
        exact ⟨pre[i], v, by rw [← e, List.getElem?_append_left hi', List.getElem?_eq_getElem hi'], h1, h2⟩
      · have : ops.drop acc.length = o :: rest := by rw [← e, hl]; simp
        rw [this]; exact x h' hh
    · refine ih (acc ++ [(o.dst, v)]) (pre ++ [o]) (by simp [e]) (by simp [hl]) (fun i o' hi => ?_) x
      have keep : ∀ {i o' v'}, i ≤ acc.length → ReqAt P M n dsts anc L h acc i o' v' → ReqAt P M n dsts anc L h (acc ++ [(o.dst, v)]) i o' v' := by
        intro i o' v' hi hq
        have e1 : locAt dsts anc (acc ++ [(o.dst, v)]) L i = locAt dsts anc acc L i := newL_app fun j hj => by have := hanc i j hj; omega
        unfold ReqAt
        rw [e1]
        refine hq.imp id fun ⟨j, b, want, dj, g1, g2, g3, g4⟩ => ⟨j, b, want, dj, g1, g2, ?_, g4⟩
        have hj : j < acc.length := (List.getElem?_eq_some_iff.1 g3).1
        rw [List.getElem?_append_left hj]; exact g3
      rcases Nat.lt_or_ge i pre.length with hlt | hge
      · rw [List.getElem?_append_left hlt] at hi
        obtain ⟨v', h1, h2⟩ := hr i o' hi
        exact ⟨v', by rw [List.getElem?_append_left (by omega)]; exact h1, keep (by omega) h2⟩
      · have hi0 : i = pre.length := by
          rw [List.getElem?_append_right hge] at hi
          rcases Nat.lt_or_ge (i - pre.length) 1 with h1 | h1
          · omega
          · rw [List.getElem?_eq_none (by simpa using h1)] at hi; cases hi
        subst hi0
        simp at hi; subst hi
        refine ⟨v, by rw [← hl]; simp, keep (by omega) ?_⟩
        rw [← hl]; exact hv

structure Inv (n : Nat) (L : Locals) (anc : List (List Nat)) (acc : List (Option Nat × Value)) (D : List Nat) (tm : Array Value) : Prop where
  size : tm.size = n
  low : ∀ j ∈ D, j < acc.length
  new : ∀ j ∈ D, ∀ d v, acc[j]? = some (some d, v) → tm[d]? = some v
  old : ∀ t v, L.get t = some v → (∀ j ∈ D, ∀ u, acc[j]? ≠ some (some t, u)) → tm[t]? = some v
  down : ∀ j ∈ D, ∀ i ∈ anc.getD j [], i ∈ D

theorem range_of_ord {ops : Array Oper} {anc : List (List Nat)} {m : Nat} (ht : tailOk anc m ops.size = true)
    (hanc : ∀ (D : List Nat) (i : Nat), (∃ o, ops[i]? = some o ∧ ∀ e ∈ o.after, Region.binds .any e = true → e.on ∈ D) → (∀ j ∈ D, ∀ i ∈ anc.getD j [], i ∈ D) → ∀ j ∈ anc.getD i [], j ∈ D) :
    ∀ (l : List Nat) (s : Nat) (D : List Nat), m ≤ s → (∀ j, j ∈ D ↔ j < s) → (∀ j ∈ D, ∀ i ∈ anc.getD j [], i ∈ D) → s ≤ ops.size → Ord ops D l → l = List.range' s (ops.size - s)
  | [], s, D, hm, hD, hd, hs, x => by
    have : ops.size ≤ s := by
      rcases Nat.lt_or_ge s ops.size with h | h
      · have := (hD s).1 (x s h); omega
      · exact h
    rw [show ops.size - s = 0 from by omega]; rfl
  | i :: l, s, D, hm, hD, hd, hs, ⟨h1, h2, h3⟩ => by
    have hi : i < ops.size := by obtain ⟨o, ho, _⟩ := h2; exact (Array.getElem?_eq_some_iff.1 ho).1
    have hge : s ≤ i := by
      rcases Nat.lt_or_ge i s with h | h
      · exact absurd ((hD i).2 h) h1
      · exact h
    have hall : ∀ j, j < i → j ∈ anc.getD i [] := by
      intro j hj
      have := List.all_eq_true.1 ht i (by simpa using hi)
      rw [Bool.or_eq_true] at this
      rcases this with x | x
      · have := Nat.le_of_ble_eq_true x; omega
      · obtain ⟨y, hy, e⟩ := List.any_eq_true.1 (List.all_eq_true.1 x j (by simpa using hj))
        rw [Nat.eq_of_beq_eq_true e]; exact hy
    have hin := hanc D i h2 hd
    have his : i = s := by
      rcases Nat.lt_or_ge s i with h | h
      · have := (hD s).1 (hin s (hall s h)); omega
      · omega
    subst his
    have := range_of_ord ht hanc l (i + 1) (i :: D) (by omega) (fun j => by
      rw [List.mem_cons, hD j]; omega) (fun j hj x hx => by
      rcases List.mem_cons.1 hj with rfl | hj
      · exact List.mem_cons_of_mem _ (hin x hx)
      · exact List.mem_cons_of_mem _ (hd j hj x hx)) (by omega) h3
    rw [this, show ops.size - i = (ops.size - (i + 1)) + 1 from by omega, List.range'_succ]

theorem any_sound (he : edgesOk ops.toArray = true) (ha : ancOk ops anc = true) (hd : dstsOk n dsts = true) (hdst : dsts = dstsOf ops) (x : anyRun P M n ops.toArray dsts anc Q L h [] ops) :
    ∀ l, Ord ops.toArray [] l → ∀ h', h ≤ h' → slOps P M n ops.toArray Q l L h' := by
  have hancl : ∀ i j, j ∈ anc.getD i [] → j < i := fun i j hj => anc_lt ha he hj
  obtain ⟨m, acc, hm, hml, hreq, htail, hfin⟩ := anyRun_open (ops := ops) hancl ops [] [] rfl rfl (fun i o e => by cases e) x
  have hdown : ∀ (D : List Nat) (i : Nat), (∃ o, ops.toArray[i]? = some o ∧ ∀ e ∈ o.after, Region.binds .any e = true → e.on ∈ D) → (∀ j ∈ D, ∀ i ∈ anc.getD j [], i ∈ D) → ∀ j ∈ anc.getD i [], j ∈ D := by
    rintro D i ⟨o, ho, hp⟩ hdw j hj
    obtain ⟨o', ho', e, hm', hb, y⟩ := anc_mem ha hj
    have : o' = o := by
      have : ops[i]? = some o := by simpa using ho
      rw [this] at ho'; exact (Option.some.inj ho').symm
    subst this
    have hin := hp e hm' hb
    rcases y with rfl | y
    · exact hin
    · exact hdw _ hin j y
  intro l hord h' hh J hJ b k cs ds tm hbk hag hends
  have key : ∀ (l : List Nat) (D : List Nat) (tm : Array Value) (h' : PHeap), Ord ops.toArray D l → h ≤ h' → Inv n L anc acc D tm → J h' (G (b.at ⟨tm, ds⟩ (.inRegion ops.toArray l :: k)) cs) := by
    intro l
    induction l with
    | nil =>
      intro D tm h' hord hh inv
      have hmN : m = ops.length := by
        have : ops.length ≤ m := by
          rcases Nat.lt_or_ge m ops.length with h1 | h1
          · have := inv.low m (hord m (by simpa using h1)); omega
          · exact h1
        omega
      have hf := hfin h' hh
      rw [hmN, List.drop_length] at hf
      refine hf [] rfl J hJ b k cs ds tm hbk ⟨inv.size, fun t v e => ?_⟩ hends
      rcases finL_get e with ⟨j, hj⟩ | ⟨h1, h2⟩
      · have hjl : j < acc.length := (List.getElem?_eq_some_iff.1 hj).1
        exact inv.new j (hord j (by simp; omega)) t v hj
      · exact inv.old t v h1 fun j _ u => h2 j u
    | cons i l ih =>
      intro D tm h' hord hh inv
      obtain ⟨h1, h2, h3⟩ := hord
      have hin := hdown D i h2 inv.down
      rcases Nat.lt_or_ge i m with him | him
      · -- a quiet one
        obtain ⟨o, v, ho, hacc, hq⟩ := hreq i him
        have hoA : ops.toArray[i]? = some o := by simpa using ho
        have hds : ∀ u, ((Act.mk tm ds).put o.dst u) = ⟨((Act.mk tm ds).put o.dst u).tmps, ds⟩ := fun u => by cases hx : o.dst <;> rfl
        have hdi : ∀ (j : Nat) (d : Option Nat), dsts[j]? = some d ↔ ∃ o : Oper, ops[j]? = some o ∧ o.dst = d := fun j d => by rw [hdst]; simp [dstsOf]
        have hag : Agree n (locAt dsts anc acc L i) tm := by
          refine ⟨inv.size, fun t u e => ?_⟩
          rcases newL_get e with ⟨j, hj, hv⟩ | e
          · exact inv.new j (hin j hj) t u hv
          · obtain ⟨e1, e2⟩ := oldL_get e
            refine inv.old t u e1 fun j hj w hw => ?_
            obtain ⟨oj, vj, hoj, haj, _⟩ := hreq j (by have := inv.low j hj; omega)
            rw [haj] at hw
            have hdj : oj.dst = some t := by simp at hw; exact hw.1
            have := List.all_eq_true.1 e2 (some t, j) (by rw [List.mem_zipIdx_iff_getElem?]; exact (hdi j _).2 ⟨oj, hoj, hdj⟩)
            simp only [Bool.or_eq_true, Bool.not_eq_true'] at this
            rcases this with (y | y) | y
            · simp [isD] at y
            · exact h1 (Nat.eq_of_beq_eq_true y ▸ hj)
            · obtain ⟨z, hz, ez⟩ := List.any_eq_true.1 y
              exact h1 (inv.down j hj i (Nat.eq_of_beq_eq_true ez ▸ hz))
        have next : ∀ h'', h ≤ h'' → J h'' (G (b.at ((Act.mk tm ds).put o.dst v) (.inRegion ops.toArray l :: k)) cs) := by
          intro h'' hh''
          rw [hds]
          refine ih (i :: D) _ h'' h3 hh'' ?_
          refine ⟨?_, fun j hj => ?_, fun j hj d u hu => ?_, fun t u hu hno => ?_, fun j hj x hx => ?_⟩
          · cases hx : o.dst <;> simp [Act.put, inv.size]
          · rcases List.mem_cons.1 hj with rfl | hj
            · omega
            · exact inv.low j hj
          · rcases List.mem_cons.1 hj with rfl | hj
            · rw [hacc] at hu
              simp only [Option.some.injEq, Prod.mk.injEq] at hu
              obtain ⟨e1, rfl⟩ := hu
              have hlt : d < n := dstsOk_lt hd (i := j) ((hdi j _).2 ⟨o, ho, e1⟩)
              simp [e1, Act.put, inv.size, hlt]
            · have h0 := inv.new j hj d u hu
              cases hx : o.dst with
              | none => exact h0
              | some d' =>
                have hne : d' ≠ d := by
                  intro e; subst e
                  obtain ⟨oj, vj, hoj, haj, _⟩ := hreq j (by have := inv.low j hj; omega)
                  rw [haj] at hu
                  have hdj : oj.dst = some d' := by simp at hu; exact hu.1
                  exact h1 (dstsOk_inj hd ((hdi i _).2 ⟨o, ho, hx⟩) ((hdi j _).2 ⟨oj, hoj, hdj⟩) ▸ hj)
                simp [Act.put, Array.getElem?_setIfInBounds, hne, h0]
          · have h0 := inv.old t u hu fun j hj => hno j (List.mem_cons_of_mem _ hj)
            cases hx : o.dst with
            | none => exact h0
            | some d' =>
              have hne : d' ≠ t := fun e => by subst e; exact hno i (by simp) v (by rw [hacc, hx])
              simp [Act.put, Array.getElem?_setIfInBounds, hne, h0]
          · rcases List.mem_cons.1 hj with rfl | hj
            · exact List.mem_cons_of_mem _ (hin x hx)
            · exact List.mem_cons_of_mem _ (inv.down j hj x hx)
        have exec : ∀ (hw : Region.wanted o (yielded ops.toArray tm) = true), (∀ h', h ≤ h' → opv P n o (locAt dsts anc acc L i) h' (quietK P M v h') (fun _ _ => False)) → J h' (G (b.at ⟨tm, ds⟩ (.inRegion ops.toArray (i :: l) :: k)) cs) := by
          intro hw hq
          refine step_op (P := P) hJ hoA hbk (a := ⟨tm, ds⟩) hw (hq h' hh ⟨tm, ds⟩ hag) (fun u h'' y => ?_) (fun f args h'' y => ?_) fun r h'' y => ?_
          · obtain ⟨rfl, hle⟩ := y
            exact next h'' (le_trans hh hle)
          · have hfin' : ∀ u, (b.at ⟨tm, ds⟩ (.inRegion ops.toArray (i :: l) :: k)).finish u = b.at ((Act.mk tm ds).put o.dst u) (.inRegion ops.toArray l :: k) := fun u => by rw [Frame.finish_at, hoA]; rfl
            refine y J hJ _ cs (fun u h3 z => ?_) (fun _ _ z => z.elim)
            obtain ⟨rfl, hle⟩ := z
            rw [hfin']
            exact next h3 (le_trans hh hle)
          · cases r <;> first | exact y.elim | exact .inl ⟨_, rfl⟩ | exact .inr ⟨_, _, rfl⟩
        rcases hq with ⟨hg, hq⟩ | ⟨j, bb, want, dj, hg, hj, haj, hq⟩
        · exact exec (by simp [Region.wanted, hg]) hq
        · obtain ⟨y, hy, ey⟩ := List.any_eq_true.1 hj
          have hjD : j ∈ D := hin j (by rw [Nat.eq_of_beq_eq_true ey]; exact hy)
          have htm := inv.new j hjD dj _ haj
          obtain ⟨oj, vj, hoj, haj', _⟩ := hreq j (by have := inv.low j hjD; omega)
          rw [haj'] at haj
          have hdj : oj.dst = some dj := by simp at haj; exact haj.1
          have hyl : yielded ops.toArray tm j = some bb := by
            unfold yielded
            rw [List.getElem?_toArray, hoj, Option.bind_some, hdj, Option.bind_some, htm]
          rcases hq with ⟨hbw, hq⟩ | ⟨hbw, rfl⟩
          · exact exec (by simp [Region.wanted, hg, hyl, hbw]) hq
          · have hwf : Region.wanted o (yielded ops.toArray tm) = false := by
              unfold Region.wanted
              rw [hg]
              simp only [hyl, hbw]
              cases want <;> rfl
            have hfin' : (b.at ⟨tm, ds⟩ (.inRegion ops.toArray (i :: l) :: k)).finish undef = b.at ((Act.mk tm ds).put o.dst undef) (.inRegion ops.toArray l :: k) := by rw [Frame.finish_at, hoA]; rfl
            refine quiet (P := P) hJ (g' := G (b.at ((Act.mk tm ds).put o.dst undef) (.inRegion ops.toArray l :: k)) cs) rfl (fun main w => ?_) (next h' hh)
            rw [← hfin']
            simp [G, stepG, stepG.exec, Frame.at, hoA, hwf]
      · -- the tail
        have hNi : i < ops.length := by obtain ⟨o, ho, _⟩ := h2; simpa using (Array.getElem?_eq_some_iff.1 ho).1
        have ht : tailOk anc m ops.toArray.size = true := by
          rcases htail with y | y
          · simpa using y
          · omega
        have hall : ∀ j, j < i → j ∈ D := by
          intro j hj
          have := List.all_eq_true.1 ht i (by simpa using hNi)
          rw [Bool.or_eq_true] at this
          rcases this with x | x
          · have := Nat.le_of_ble_eq_true x; omega
          · obtain ⟨y, hy, e⟩ := List.any_eq_true.1 (List.all_eq_true.1 x j (by simpa using hj))
            exact hin j (by rw [Nat.eq_of_beq_eq_true e]; exact hy)
        have hD : ∀ j, j ∈ D ↔ j < m := fun j => ⟨fun hj => by have := inv.low j hj; omega, fun hj => hall j (by omega)⟩
        have hl : i :: l = List.range' m (ops.toArray.size - m) := range_of_ord ht hdown (i :: l) m D (Nat.le_refl _) hD inv.down (by simpa using hml) ⟨h1, h2, h3⟩
        rw [hl]
        refine hfin h' hh _ ?_ J hJ b k cs ds tm hbk ⟨inv.size, fun t v e => ?_⟩ hends
        · apply List.ext_getElem?; intro j
          simp only [List.getElem?_map, List.size_toArray, List.getElem?_drop]
          rcases Nat.lt_or_ge j (ops.length - m) with hj | hj
          · rw [List.getElem?_range' hj, List.getElem?_eq_getElem (l := ops) (i := m + j) (by omega)]
            simp [show m + j < ops.length by omega]
          · rw [List.getElem?_eq_none (by simpa using hj), List.getElem?_eq_none (by omega)]; rfl
        · rcases finL_get e with ⟨j, hj⟩ | ⟨h1, h2⟩
          · have hjl : j < acc.length := (List.getElem?_eq_some_iff.1 hj).1
            exact inv.new j ((hD j).2 (by omega)) t v hj
          · exact inv.old t v h1 fun j _ u => h2 j u
  exact key l [] tm h' hord hh ⟨hag.size, by simp, by simp, fun t v e _ => hag.at' t v e, by simp⟩

/-- A REGION THAT DRAWS ITS ORDER. -/
theorem sl_any [hX : Mixed P] {id : Nat} (anc : List (List Nat)) (he : edgesOk ops.toArray = true) (ha : ancOk ops anc = true) (hd : dstsOk n (dstsOf ops) = true) (x : anyRun P M n ops.toArray (dstsOf ops) anc Q L h [] ops) :
    (Code.region id ops.toArray true).sl P M n Q L h := by
  intro J hJ b k cs ds tm hb hag hends
  obtain ⟨main, hcl⟩ := hM.cl J hJ
  refine hcl h _ rfl fun w hsat => ?_
  have hm := hX.is
  refine ⟨G (b.at ⟨tm, ds⟩ (.inRegion ops.toArray (Region.linearise .any ops.toArray (w.tape w.drawn (.order b.fn id))) :: k)) cs, { w with drawn := w.drawn + 1 }, #[], h, ?_, sat_drawn hsat _, grow_drawn w h _, by simp, ?_⟩
  · simp [G, stepG, stepG.exec, Frame.at, choose, Sem.run, Question.forced, Question.cut, hm, Region.schedule]
  · exact any_sound he ha hd rfl x _ (lin_ord he _) h (le_refl _) J hJ b k cs ds tm hb hag hends
end
end Go.Sl

/- A region whose operations Go may carry out in more than one order, where some make memory: told once, in an order of one's choice. No program. -/
import Derived.Test.YtcefbjpebgofjaaSlI
namespace Go.Sl
open Go Go.Conc PHeap

abbrev Acc := List (Nat × Option Nat × Value)
def lk : Acc → Nat → Option (Option Nat × Value)
  | [], _ => none
  | (i, p) :: acc, j => bif Nat.beq i j then some p else lk acc j
def newA (acc : Acc) : List Nat → Locals → Locals
  | [], L => L
  | j :: js, L => match lk acc j with
    | some (d, v) => setL d v (newA acc js L)
    | none => newA acc js L
def finA : Acc → Locals → Locals
  | [], L => L
  | (_, d, v) :: acc, L => setL d v (finA acc L)
def locA (dsts : List (Option Nat)) (anc : List (List Nat)) (acc : Acc) (L : Locals) (i : Nat) : Locals := newA acc (anc.getD i []) (oldL dsts anc i L)

/-- The order of one's choice: what makes memory is marked; all that stands behind such an operation waits for it. -/
def piRec (anc : List (List Nat)) : List (Nat × Bool) → Bool
  | [] => true
  | (i, b) :: π => (π.all fun x => !(anc.getD i []).any (Nat.beq x.1 ·) && !Nat.beq x.1 i && (!b || (anc.getD x.1 []).any (Nat.beq i ·))) && piRec anc π
def piOk (anc : List (List Nat)) (m N : Nat) (π : List (Nat × Bool)) : Bool := Nat.beq π.length m && Nat.ble m N && (π.all fun x => Nat.blt x.1 m) && piRec anc π && tailOk anc m N

section
variable (P : Program) (M : Jdg → Prop) (n : Nat) (ops : List Oper) (dsts : List (Option Nat)) (anc : List (List Nat)) (m : Nat) (Q : Qo) (L : Locals)
/-- An operation that may be carried out sooner or later. -/
def QuietAt (acc : Acc) (i : Nat) (o : Oper) (v : Value) (O : Own) (h : PHeap) : Prop :=
  (o.guard = none ∧ ∀ X h', Le h h' → Opq P n o (locA dsts anc acc L i) (X ++ O) h' v) ∨
    (∃ j b want dj, o.guard = some (j, want) ∧ (anc.getD i []).any (Nat.beq j ·) = true ∧ lk acc j = some (some dj, .bool b) ∧
      ((b = want ∧ ∀ X h', Le h h' → Opq P n o (locA dsts anc acc L i) (X ++ O) h' v) ∨ (b = !want ∧ v = undef)))
def chainK (next : Value → Own → PHeap → Prop) (O0 W : Own) (h : PHeap) (r : Next) (O2 : Own) (h2 : PHeap) : Prop :=
  match r with
  | .value v => ∃ W', O2 = W' ++ O0 ∧ next v W' h2
  | .enter f args => O2 = W ++ O0 ∧ h2 = h ∧ ∃ A R, W.Perm (A ++ R) ∧ CallO P M f args.toList A h fun v A' h' => next v (A' ++ R) h'
  | _ => False
/-- 'O0': blocks that no operation of the first m turns; 'W': blocks made on the way. -/
def anyO (O0 : Own) : Acc → Own → PHeap → List (Nat × Bool) → Prop
  | acc, W, h, [] => soOps P M n ops.toArray Q (ops.drop m) (finA acc L) (W ++ O0) h
  | acc, W, h, (i, false) :: π => ∃ o v, ops[i]? = some o ∧ QuietAt P n dsts anc L acc i o v O0 h ∧ anyO O0 ((i, o.dst, v) :: acc) W h π
  | acc, W, h, (i, true) :: π => ∃ o, ops[i]? = some o ∧
      (o.guard = none ∨ ∃ j b want dj, o.guard = some (j, want) ∧ (anc.getD i []).any (Nat.beq j ·) = true ∧ lk acc j = some (some dj, .bool b) ∧ b = want) ∧
      opo P n o (locA dsts anc acc L i) (W ++ O0) h (chainK P M (fun v W2 h2 => anyO O0 ((i, o.dst, v) :: acc) W2 h2 π) O0 W h) (fun _ _ _ => False)
end

theorem lk_cons {i : Nat} {p : Option Nat × Value} {acc : Acc} {j : Nat} (h : i ≠ j) : lk ((i, p) :: acc) j = lk acc j := by
  simp only [lk]
  cases hb : Nat.beq i j with
  | true => exact absurd (Nat.eq_of_beq_eq_true hb) h
  | false => rfl
theorem lk_mem {acc : Acc} {j : Nat} {p : Option Nat × Value} (h : lk acc j = some p) : (j, p) ∈ acc := by
  induction acc with
  | nil => cases h
  | cons x acc ih =>
    obtain ⟨i, q⟩ := x
    simp only [lk] at h
    cases hb : Nat.beq i j with
    | true => rw [hb] at h; obtain rfl := Nat.eq_of_beq_eq_true hb; cases h; simp
    | false => rw [hb] at h; exact List.mem_cons_of_mem _ (ih h)
theorem mem_lk {acc : Acc} (hn : (acc.map (·.1)).Nodup) {j : Nat} {p : Option Nat × Value} (h : (j, p) ∈ acc) : lk acc j = some p := by
  induction acc with
  | nil => cases h
  | cons x acc ih =>
    obtain ⟨i, q⟩ := x
    rw [List.map_cons, List.nodup_cons] at hn
    rcases List.mem_cons.1 h with e | h
    · cases e; simp [lk]
    · have : i ≠ j := fun e => hn.1 (e ▸ List.mem_map.2 ⟨_, h, rfl⟩)
      rw [lk_cons this]; exact ih hn.2 h
theorem newA_get {acc : Acc} {t : Nat} {v : Value} {L : Locals} : ∀ {js : List Nat}, (newA acc js L).get t = some v → (∃ j : Nat, j ∈ js ∧ lk acc j = some (some t, v)) ∨ L.get t = some v
  | [], e => .inr e
  | j :: js, e => by
    simp only [newA] at e
    cases ha : lk acc j with
    | none =>
      rw [ha] at e
      rcases newA_get (js := js) e with ⟨k, hk, x⟩ | x
      · exact .inl ⟨k, by simp [hk], x⟩
      · exact .inr x
    | some p =>
      obtain ⟨d, u⟩ := p
      rw [ha] at e
      cases d with
      | none =>
        rcases newA_get (js := js) e with ⟨k, hk, x⟩ | x
        · exact .inl ⟨k, by simp [hk], x⟩
        · exact .inr x
      | some d =>
        simp only [setL, Locals.get] at e
        cases hb : Nat.beq d t with
        | true => rw [hb] at e; exact .inl ⟨j, by simp, by rw [ha, ← Nat.eq_of_beq_eq_true hb]; simpa using e⟩
        | false =>
          rw [hb] at e
          rcases newA_get (js := js) (by simpa using e) with ⟨k, hk, x⟩ | x
          · exact .inl ⟨k, by simp [hk], x⟩
          · exact .inr x
theorem newA_cons {acc : Acc} {i : Nat} {p : Option Nat × Value} {L : Locals} : ∀ {js : List Nat}, i ∉ js → newA ((i, p) :: acc) js L = newA acc js L
  | [], _ => rfl
  | j :: js, h => by
    have h1 : i ≠ j := fun e => h (by simp [e])
    have h2 : i ∉ js := fun e => h (by simp [e])
    simp only [newA, lk_cons h1, newA_cons h2]
theorem finA_get {t : Nat} {v : Value} : ∀ {acc : Acc} {L : Locals}, (finA acc L).get t = some v → (∃ j : Nat, (j, some t, v) ∈ acc) ∨ (L.get t = some v ∧ ∀ (j : Nat) u, (j, some t, u) ∉ acc)
  | [], L, e => .inr ⟨e, by simp⟩
  | (i, d, u) :: acc, L, e => by
    simp only [finA] at e
    cases d with
    | none =>
      rcases finA_get (acc := acc) e with ⟨j, x⟩ | ⟨x, y⟩
      · exact .inl ⟨j, by simp [x]⟩
      · exact .inr ⟨x, fun j w => by simp [y j w]⟩
    | some d =>
      simp only [setL, Locals.get] at e
      cases hb : Nat.beq d t with
      | true => rw [hb] at e; cases e; exact .inl ⟨i, by simp [Nat.eq_of_beq_eq_true hb]⟩
      | false =>
        rw [hb] at e
        have hne := Nat.ne_of_beq_eq_false hb
        rcases finA_get (acc := acc) (by simpa using e) with ⟨j, x⟩ | ⟨x, y⟩
        · exact .inl ⟨j, by simp [x]⟩
        · exact .inr ⟨x, fun j w => by simp [y j w]; intro _ e; exact absurd e.symm hne⟩

theorem piRec_cons {anc : List (List Nat)} {i : Nat} {b : Bool} {π : List (Nat × Bool)} (h : piRec anc ((i, b) :: π) = true) :
    (∀ x ∈ π, x.1 ∉ anc.getD i [] ∧ x.1 ≠ i ∧ (b = true → i ∈ anc.getD x.1 [])) ∧ piRec anc π = true := by
  simp only [piRec, Bool.and_eq_true, List.all_eq_true] at h
  refine ⟨fun x hx => ?_, h.2⟩
  obtain ⟨⟨h1, h2⟩, h3⟩ := h.1 x hx
  refine ⟨fun hm => ?_, fun e => ?_, fun hb => ?_⟩
  · have : (anc.getD i []).any (Nat.beq x.1 ·) = true := List.any_eq_true.2 ⟨x.1, hm, by simp⟩
    rw [this] at h1; cases h1
  · rw [e] at h2; simp at h2
  · subst hb
    simp only [Bool.not_true, Bool.false_or] at h3
    obtain ⟨y, hy, e⟩ := List.any_eq_true.1 h3
    rw [Nat.eq_of_beq_eq_true e]; exact hy

theorem piRec_nodup {anc : List (List Nat)} : ∀ {π : List (Nat × Bool)}, piRec anc π = true → (π.map (·.1)).Nodup
  | [], _ => List.nodup_nil
  | (i, b) :: π, p => by
    obtain ⟨r1, r2⟩ := piRec_cons p
    simp only [List.map_cons, List.nodup_cons]
    refine ⟨fun hm => ?_, piRec_nodup r2⟩
    obtain ⟨z, hz, e⟩ := List.mem_map.1 hm
    exact (r1 z hz).2.1 e

section
variable {P : Program} {M : Jdg → Prop} [hM : IsCl P M] {n : Nat} {Q : Qo} {L : Locals} {O : Own} {h : PHeap} {ops : List Oper} {dsts : List (Option Nat)} {anc : List (List Nat)} {m : Nat}

/-- What is held of the operations that have been told. -/
structure Told (P : Program) (n : Nat) (ops : List Oper) (dsts : List (Option Nat)) (anc : List (List Nat)) (L : Locals) (D : List Nat) (acc : Acc) (O : Own) (h : PHeap) (π : List (Nat × Bool)) : Prop where
  nd : (acc.map (·.1)).Nodup
  apart : ∀ x ∈ π, x.1 ∉ acc.map (·.1)
  ancs : ∀ x ∈ π, ∀ y ∈ acc, x.1 ∉ anc.getD y.1 []
  what : ∀ i d v, (i, d, v) ∈ acc → ∃ o, ops[i]? = some o ∧ o.dst = d ∧ (i ∉ D → QuietAt P n dsts anc L acc i o v O h)
  piR : piRec anc π = true

omit hM in
theorem quiet_cons {acc : Acc} {i k : Nat} {o : Oper} {v : Value} {p : Option Nat × Value} (hk : k ∉ anc.getD i []) (x : QuietAt P n dsts anc L acc i o v O h) : QuietAt P n dsts anc L ((k, p) :: acc) i o v O h := by
  have e : locA dsts anc ((k, p) :: acc) L i = locA dsts anc acc L i := newA_cons hk
  unfold QuietAt
  rw [e]
  refine x.imp id fun ⟨j, b, want, dj, g1, g2, g3, g4⟩ => ⟨j, b, want, dj, g1, g2, ?_, g4⟩
  obtain ⟨y, hy, ey⟩ := List.any_eq_true.1 g2
  have : k ≠ j := fun e => hk (by rw [e, Nat.eq_of_beq_eq_true ey]; exact hy)
  rw [lk_cons this]; exact g3
omit hM in
theorem quiet_up {acc : Acc} {i : Nat} {o : Oper} {v : Value} {h' : PHeap} (l : Le h h') (x : QuietAt P n dsts anc L acc i o v O h) : QuietAt P n dsts anc L acc i o v O h' := by
  have up : (∀ X h', Le h h' → Opq P n o (locA dsts anc acc L i) (X ++ O) h' v) → ∀ X h'', Le h' h'' → Opq P n o (locA dsts anc acc L i) (X ++ O) h'' v := fun y X h'' l' => y X h'' ⟨le_trans l.le l'.le, l'.gh.trans l.gh⟩
  exact x.imp (fun y => ⟨y.1, up y.2⟩) fun ⟨j, b, want, dj, g1, g2, g3, g4⟩ => ⟨j, b, want, dj, g1, g2, g3, g4.imp (fun y => ⟨y.1, up y.2⟩) id⟩

omit hM in
/-- The quiet ones that stand next are told. -/
theorem advance (hlt : ∀ i, i ∉ anc.getD i []) : ∀ (π : List (Nat × Bool)) {D : List Nat} {acc : Acc} {W : Own}, Told P n ops dsts anc L D acc O h π → anyO P M n ops dsts anc m Q L O acc W h π → (∀ i, i ∈ D → i ∈ acc.map (·.1)) →
    ∃ acc' π', Told P n ops dsts anc L D acc' O h π' ∧ anyO P M n ops dsts anc m Q L O acc' W h π' ∧ (π' = [] ∨ ∃ c rest, π' = (c, true) :: rest) ∧
      (∀ x ∈ acc, x ∈ acc') ∧ (∀ i, (i ∈ acc.map (·.1) ∨ i ∈ π.map (·.1)) ↔ (i ∈ acc'.map (·.1) ∨ i ∈ π'.map (·.1)))
  | [], D, acc, W, t, x, hD => ⟨acc, [], t, x, .inl rfl, fun _ h => h, fun _ => .rfl⟩
  | (c, true) :: rest, D, acc, W, t, x, hD => ⟨acc, _, t, x, .inr ⟨c, rest, rfl⟩, fun _ h => h, fun _ => .rfl⟩
  | (i, false) :: π, D, acc, W, t, x, hD => by
    obtain ⟨o, v, ho, hq, x⟩ := x
    obtain ⟨r1, r2⟩ := piRec_cons t.piR
    have hi : i ∉ acc.map (·.1) := t.apart (i, false) (by simp)
    have t' : Told P n ops dsts anc L D ((i, o.dst, v) :: acc) O h π := by
      refine ⟨by simp only [List.map_cons, List.nodup_cons]; exact ⟨hi, t.nd⟩, fun y hy => ?_, fun y hy z hz => ?_, fun j d u hj => ?_, r2⟩
      · simp only [List.map_cons, List.mem_cons, not_or]
        exact ⟨(r1 y hy).2.1, t.apart y (by simp [hy])⟩
      · rcases List.mem_cons.1 hz with rfl | hz
        · exact (r1 y hy).1
        · exact t.ancs y (by simp [hy]) z hz
      · rcases List.mem_cons.1 hj with e | hj
        · cases e
          exact ⟨o, ho, rfl, fun _ => quiet_cons (hlt _) hq⟩
        · obtain ⟨o', h1, h2, h3⟩ := t.what j d u hj
          exact ⟨o', h1, h2, fun hjD => quiet_cons (t.ancs (i, false) (by simp) (j, d, u) hj) (h3 hjD)⟩
    obtain ⟨acc', π', a1, a2, a3, a4, a5⟩ := advance hlt π t' x fun j hj => by simp [hD j hj]
    refine ⟨acc', π', a1, a2, a3, fun y hy => a4 y (by simp [hy]), fun j => ?_⟩
    rw [← a5 j]
    simp only [List.map_cons, List.mem_cons]
    constructor
    · rintro (y | y | y)
      · exact .inl (.inr y)
      · exact .inl (.inl y)
      · exact .inr y
    · rintro ((y | y) | y)
      · exact .inr (.inl y)
      · exact .inl y
      · exact .inr (.inr y)

/-- An order that keeps to the table. -/
def OrdG (anc : List (List Nat)) (N : Nat) : List Nat → List Nat → Prop
  | D, [] => ∀ i, i < N → i ∈ D
  | D, i :: l => i ∉ D ∧ i < N ∧ (∀ j ∈ anc.getD i [], j ∈ D) ∧ OrdG anc N (i :: D) l
/-- .. and to some pairs besides. -/
def OrdX (ops : Array Oper) (X : List (Nat × Nat)) : List Nat → List Nat → Prop
  | D, [] => ∀ i, i < ops.size → i ∈ D
  | D, i :: l => i ∉ D ∧ (∃ o, ops[i]? = some o ∧ ∀ e ∈ o.after, Region.binds .any e = true → e.on ∈ D) ∧ (∀ p, (p, i) ∈ X → p ∈ D) ∧ OrdX ops X (i :: D) l
def ancOkX (ops : List Oper) (X : List (Nat × Nat)) (anc : List (List Nat)) : Bool :=
  Nat.beq anc.length ops.length && (ops.zipIdx.all fun (o, i) =>
    let ds := ((o.after.toList.filter fun e => Region.binds .any e).map (·.on)) ++ ((X.filter fun x => Nat.beq x.2 i).map (·.1))
    !(anc.getD i []).any (Nat.beq i ·) && (anc.getD i []).all fun j => ds.any fun p => Nat.beq p j || (anc.getD p []).any (Nat.beq j ·))
omit hM in
theorem ordG_of {X : List (Nat × Nat)} (h : ancOkX ops X anc = true) : ∀ {l D : List Nat}, OrdX ops.toArray X D l → (∀ j ∈ D, ∀ i ∈ anc.getD j [], i ∈ D) → OrdG anc ops.length D l
  | [], D, x, _ => fun i hi => x i (by simpa using hi)
  | i :: l, D, ⟨h1, ⟨o, ho, h2⟩, h3, h4⟩, hd => by
    have hi : i < ops.length := by simpa using (Array.getElem?_eq_some_iff.1 ho).1
    have hoi : ops[i]? = some o := by simpa using ho
    simp only [ancOkX, Bool.and_eq_true] at h
    have q2 := List.all_eq_true.1 h.2 (o, i) (by rw [List.mem_zipIdx_iff_getElem?]; simpa using hoi)
    simp only [Bool.and_eq_true] at q2
    have hin : ∀ j ∈ anc.getD i [], j ∈ D := by
      intro j hj
      have q3 := List.all_eq_true.1 q2.2 j hj
      obtain ⟨p, hp, hpj⟩ := List.any_eq_true.1 q3
      have hpD : p ∈ D := by
        rcases List.mem_append.1 hp with hp | hp
        · obtain ⟨e, he, rfl⟩ := List.mem_map.1 hp
          rw [List.mem_filter] at he
          exact h2 e (by simpa using he.1) he.2
        · obtain ⟨⟨p', i'⟩, he, rfl⟩ := List.mem_map.1 hp
          rw [List.mem_filter] at he
          have : i' = i := Nat.eq_of_beq_eq_true he.2
          subst this
          exact h3 _ he.1
      rw [Bool.or_eq_true] at hpj
      rcases hpj with x | x
      · exact Nat.eq_of_beq_eq_true x ▸ hpD
      · obtain ⟨y, hy, hyj⟩ := List.any_eq_true.1 x
        rw [Nat.eq_of_beq_eq_true hyj]; exact hd p hpD y hy
    refine ⟨h1, hi, hin, ordG_of (by simp only [ancOkX, Bool.and_eq_true]; exact h) h4 fun j hj x hx => ?_⟩
    rcases List.mem_cons.1 hj with rfl | hj
    · exact List.mem_cons_of_mem _ (hin x hx)
    · exact List.mem_cons_of_mem _ (hd j hj x hx)
omit hM in
theorem anc_irr {X : List (Nat × Nat)} (h : ancOkX ops X anc = true) (i : Nat) : i ∉ anc.getD i [] := fun hi => by
  simp only [ancOkX, Bool.and_eq_true] at h
  have hlen := Nat.eq_of_beq_eq_true h.1
  have hi' : i < ops.length := by
    rcases Nat.lt_or_ge i ops.length with h' | h'
    · exact h'
    · rw [List.getD_eq_getElem?_getD, List.getElem?_eq_none (by omega)] at hi; simp at hi
  have q2 := List.all_eq_true.1 h.2 (ops[i], i) (by rw [List.mem_zipIdx_iff_getElem?]; simp [hi'])
  simp only [Bool.and_eq_true, Bool.not_eq_true'] at q2
  have : (anc.getD i []).any (Nat.beq i ·) = true := List.any_eq_true.2 ⟨i, hi, Nat.beq_refl i⟩
  rw [this] at q2; simp at q2
theorem ordX_nil {ops : Array Oper} : ∀ {l D : List Nat}, Ord ops D l → OrdX ops [] D l
  | [], _, x => x
  | _ :: _, _, ⟨h1, h2, h3⟩ => ⟨h1, h2, fun _ m => (by cases m), ordX_nil h3⟩
theorem rangeG {anc : List (List Nat)} {m N : Nat} (ht : tailOk anc m N = true) :
    ∀ (l : List Nat) (s : Nat) (D : List Nat), m ≤ s → (∀ j, j ∈ D ↔ j < s) → s ≤ N → OrdG anc N D l → l = List.range' s (N - s)
  | [], s, D, hm, hD, hs, x => by
    have : N ≤ s := by
      rcases Nat.lt_or_ge s N with h | h
      · have := (hD s).1 (x s h); omega
      · exact h
    rw [show N - s = 0 from by omega]; rfl
  | i :: l, s, D, hm, hD, hs, ⟨h1, hi, hin, h3⟩ => by
    have hge : s ≤ i := by
      rcases Nat.lt_or_ge i s with h | h
      · exact absurd ((hD i).2 h) h1
      · exact h
    have hall : ∀ j, j < i → j ∈ anc.getD i [] := by
      intro j hj
      have := List.all_eq_true.1 ht i (by simpa using hi)
      rw [Bool.or_eq_true] at this
      rcases this with x | x
      · have := Nat.le_of_ble_eq_true x; omega
      · obtain ⟨y, hy, e⟩ := List.any_eq_true.1 (List.all_eq_true.1 x j (by simpa using hj))
        rw [Nat.eq_of_beq_eq_true e]; exact hy
    have his : i = s := by
      rcases Nat.lt_or_ge s i with h | h
      · have := (hD s).1 (hin s (hall s h)); omega
      · omega
    subst his
    have := rangeG ht l (i + 1) (i :: D) (by omega) (fun j => by rw [List.mem_cons, hD j]; omega) (by omega) h3
    rw [this, show N - i = (N - (i + 1)) + 1 from by omega, List.range'_succ]

structure InvA (n : Nat) (L : Locals) (anc : List (List Nat)) (acc : Acc) (D : List Nat) (tm : Array Value) : Prop where
  size : tm.size = n
  low : ∀ j ∈ D, j ∈ acc.map (·.1)
  new : ∀ j ∈ D, ∀ d v, (j, some d, v) ∈ acc → tm[d]? = some v
  old : ∀ t v, L.get t = some v → (∀ j ∈ D, ∀ u, (j, some t, u) ∉ acc) → tm[t]? = some v
  down : ∀ j ∈ D, ∀ i ∈ anc.getD j [], i ∈ D

theorem anyO_sound (hdst : dsts = dstsOf ops) (hancl : ∀ i, i ∉ anc.getD i []) (hd : dstsOk n dsts = true) {π : List (Nat × Bool)} (hπ : piOk anc m ops.length π = true) (x : anyO P M n ops dsts anc m Q L O [] [] h π) :
    ∀ l, OrdG anc ops.length [] l → ∀ F H, Rel F h O H → slOps P M n ops.toArray (liftQ F h Q) l L H := by
  simp only [piOk, Bool.and_eq_true, List.all_eq_true] at hπ
  obtain ⟨⟨⟨⟨p1, p2⟩, p3⟩, p4⟩, p5⟩ := hπ
  have p1 := Nat.eq_of_beq_eq_true p1
  have p2 := Nat.le_of_ble_eq_true p2
  have hdi : ∀ (j : Nat) (d : Option Nat), dsts[j]? = some d ↔ ∃ o : Oper, ops[j]? = some o ∧ o.dst = d := fun j d => by rw [hdst]; simp [dstsOf]
  -- the order of one's choice names each of the first m once
  have hpn : (π.map (·.1)).Nodup := piRec_nodup p4
  have hpall : ∀ i, i < m → i ∈ π.map (·.1) := fun i hi => Classical.byContradiction fun hno => by
    have : (i :: π.map (·.1)).length ≤ (List.range m).length := by
      refine nodup_le (List.nodup_cons.2 ⟨hno, hpn⟩) fun z hz => ?_
      rcases List.mem_cons.1 hz with rfl | hz
      · simpa using hi
      · obtain ⟨y, hy, rfl⟩ := List.mem_map.1 hz
        exact List.mem_range.2 (Nat.le_of_ble_eq_true (p3 y hy))
    simp [p1] at this
    omega
  intro l hord F H rel J hJ b k cs ds tm hbk hag hends
  have key : ∀ (l : List Nat) (D : List Nat) (tm : Array Value) (acc : Acc) (π : List (Nat × Bool)) (W : Own) (h' H : PHeap), OrdG anc ops.length D l → Up F h h' → Rel F h' (W ++ O) H → InvA n L anc acc D tm → Told P n ops dsts anc L D acc O h' π →
      anyO P M n ops dsts anc m Q L O acc W h' π → (π = [] ∨ ∃ c rest, π = (c, true) :: rest) → (∀ i, i < m → i ∈ acc.map (·.1) ∨ i ∈ π.map (·.1)) → (∀ i, i ∈ acc.map (·.1) ∨ i ∈ π.map (·.1) → i < m) → (∀ y ∈ π, y.2 = true → y.1 ∉ D) →
      J H (G (b.at ⟨tm, ds⟩ (.inRegion ops.toArray l :: k)) cs) := by
    intro l
    induction l with
    | nil =>
      intro D tm acc π W h' H hord u rel inv told x hπ hall hlow hch
      have hD : ∀ i, i < ops.length → i ∈ acc.map (·.1) := fun i hi => inv.low i (hord i hi)
      have hπ0 : π = [] := by
        rcases hπ with e | ⟨c, rest, rfl⟩
        · exact e
        · exact absurd (hD c (by have := hlow c (.inr (by simp)); omega)) (told.apart (c, true) (by simp))
      subst hπ0
      have hmN : ops.drop m = [] := by
        rcases Nat.lt_or_ge m ops.length with h1 | h1
        · have := hlow m (.inl (hD m h1)); omega
        · exact List.drop_of_length_le h1
      simp only [anyO, hmN] at x
      refine x F H rel [] rfl J hJ b k cs ds tm hbk ⟨inv.size, fun t v e => ?_⟩ (hends.mono fun e L H y => liftQ_up u y)
      rcases finA_get e with ⟨j, hj⟩ | ⟨h1, h2⟩
      · have hjm := hlow j (.inl (List.mem_map.2 ⟨_, hj, rfl⟩))
        exact inv.new j (hord j (by omega)) t v hj
      · exact inv.old t v h1 fun j _ u => h2 j u
    | cons i l ih =>
      intro D tm acc π W h' H hord u rel inv told x hπ hall hlow hch
      obtain ⟨h1, hNi, hin, h3⟩ := hord
      have hagL : ∀ acc', (∀ y ∈ acc, y ∈ acc') → (acc'.map (·.1)).Nodup → (∀ k ∈ acc'.map (·.1), k ∈ D ∨ k ∉ anc.getD i []) → (∀ k ∈ D, ∀ d v, (k, d, v) ∈ acc' → (k, d, v) ∈ acc) → Agree n (locA dsts anc acc' L i) tm := by
        intro acc' _ hn' _ hsame
        refine ⟨inv.size, fun t u e => ?_⟩
        rcases newA_get e with ⟨j, hj, hv⟩ | e
        · exact inv.new j (hin j hj) t u (hsame j (hin j hj) _ _ (lk_mem hv))
        · obtain ⟨e1, e2⟩ := oldL_get e
          refine inv.old t u e1 fun j hj w hw => ?_
          obtain ⟨oj, hoj, hdj, _⟩ := told.what j (some t) w hw
          have := List.all_eq_true.1 e2 (some t, j) (by rw [List.mem_zipIdx_iff_getElem?]; exact (hdi j _).2 ⟨oj, hoj, hdj⟩)
          simp only [Bool.or_eq_true, Bool.not_eq_true'] at this
          rcases this with (y | y) | y
          · simp [isD] at y
          · exact h1 (Nat.eq_of_beq_eq_true y ▸ hj)
          · obtain ⟨z, hz, ez⟩ := List.any_eq_true.1 y
            exact h1 (inv.down j hj i (Nat.eq_of_beq_eq_true ez ▸ hz))
      have hag := hagL acc (fun _ h => h) told.nd (fun k hk => by
        by_cases h : k ∈ D
        · exact .inl h
        · exact .inr fun hh => h (hin k hh)) (fun _ _ _ _ h => h)
      -- the frame behind the step
      have hds : ∀ (o : Oper) u, ((Act.mk tm ds).put o.dst u) = ⟨((Act.mk tm ds).put o.dst u).tmps, ds⟩ := fun o u => by cases hx : o.dst <;> rfl
      have invAt : ∀ (o : Oper) (v : Value) (acc' : Acc), ops[i]? = some o → (acc'.map (·.1)).Nodup → (i, o.dst, v) ∈ acc' → (∀ k d w, (k, d, w) ∈ acc' → ∃ o, ops[k]? = some o ∧ o.dst = d) → (∀ k ∈ D, ∀ d w, (k, d, w) ∈ acc' → (k, d, w) ∈ acc) → (∀ y ∈ acc, y ∈ acc') →
          InvA n L anc acc' (i :: D) ((Act.mk tm ds).put o.dst v).tmps := by
        intro o v acc' ho hn' hmem hwhat hsame hsup
        have uniq : ∀ {j d d' w w'}, (j, d, w) ∈ acc' → (j, d', w') ∈ acc' → d = d' ∧ w = w' := fun a b => by
          have e1 := mem_lk hn' a
          have e2 := mem_lk hn' b
          rw [e1] at e2; cases e2; exact ⟨rfl, rfl⟩
        refine ⟨?_, fun j hj => ?_, fun j hj d u hu => ?_, fun t u hu hno => ?_, fun j hj x hx => ?_⟩
        · cases hx : o.dst <;> simp [Act.put, inv.size]
        · rcases List.mem_cons.1 hj with rfl | hj
          · exact List.mem_map.2 ⟨_, hmem, rfl⟩
          · obtain ⟨y, hy, rfl⟩ := List.mem_map.1 (inv.low j hj)
            exact List.mem_map.2 ⟨y, hsup y hy, rfl⟩
        · rcases List.mem_cons.1 hj with rfl | hj
          · obtain ⟨e1, e2⟩ := uniq hmem hu
            subst e2
            have hlt : d < n := dstsOk_lt hd (i := j) ((hdi j _).2 ⟨o, ho, e1⟩)
            simp [e1, Act.put, inv.size, hlt]
          · have h0 := inv.new j hj d u (hsame j hj _ _ hu)
            cases hx : o.dst with
            | none => exact h0
            | some d' =>
              have hne : d' ≠ d := by
                intro e; subst e
                obtain ⟨oj, hoj, hdj⟩ := hwhat j _ _ hu
                exact h1 (dstsOk_inj hd ((hdi i _).2 ⟨o, ho, hx⟩) ((hdi j _).2 ⟨oj, hoj, hdj⟩) ▸ hj)
              simp [Act.put, Array.getElem?_setIfInBounds, hne, h0]
        · have h0 := inv.old t u hu fun j hj w hw => hno j (List.mem_cons_of_mem _ hj) w (hsup _ hw)
          cases hx : o.dst with
          | none => exact h0
          | some d' =>
            have hne : d' ≠ t := fun e => by subst e; exact hno i (by simp) v (by rw [← hx]; exact hmem)
            simp [Act.put, Array.getElem?_setIfInBounds, hne, h0]
        · rcases List.mem_cons.1 hj with rfl | hj
          · exact List.mem_cons_of_mem _ (hin x hx)
          · exact List.mem_cons_of_mem _ (inv.down j hj x hx)
      by_cases hacc : i ∈ acc.map (·.1)
      · -- one that has been told
        obtain ⟨⟨i', d, v⟩, hmem, rfl⟩ := List.mem_map.1 hacc
        obtain ⟨o, ho, rfl, hq⟩ := told.what _ _ _ hmem
        have hq := hq h1
        have hoA : ops.toArray[i']? = some o := by simpa using ho
        have next : ∀ H', Rel F h' (W ++ O) H' → J H' (G (b.at ((Act.mk tm ds).put o.dst v) (.inRegion ops.toArray l :: k)) cs) := by
          intro H' rel'
          rw [hds]
          refine ih (i' :: D) _ acc π W h' H' h3 u rel' (invAt o v acc ho told.nd hmem (fun k d w hk => by obtain ⟨o, a, b, _⟩ := told.what k d w hk; exact ⟨o, a, b⟩) (fun _ _ _ _ h => h) (fun _ h => h)) ?_ x hπ hall hlow ?_
          · exact ⟨told.nd, told.apart, told.ancs, fun k d w hk => by
              obtain ⟨o, a1, a2, a3⟩ := told.what k d w hk
              exact ⟨o, a1, a2, fun hn => a3 fun hh => hn (List.mem_cons_of_mem _ hh)⟩, told.piR⟩
          · intro y hy hyt hyD
            rcases List.mem_cons.1 hyD with e | hyD
            · exact told.apart y hy (by rw [e]; exact List.mem_map.2 ⟨_, hmem, rfl⟩)
            · exact hch y hy hyt hyD
        have exec : ∀ (hw : Region.wanted o (yielded ops.toArray tm) = true), (∀ X h'', Le h' h'' → Opq P n o (locA dsts anc acc L i') (X ++ O) h'' v) → J H (G (b.at ⟨tm, ds⟩ (.inRegion ops.toArray (i' :: l) :: k)) cs) := by
          intro hw hq
          have hq0 : Opq P n o (locA dsts anc acc L i') (W ++ O) h' v := hq W h' ⟨le_refl _, rfl⟩
          refine step_op (P := P) hJ hoA hbk (a := ⟨tm, ds⟩) hw (K := lift F h' (fun (r : Next) O2 h2 => r = .value v ∧ O2 = W ++ O ∧ h2 = h')) (slp_mono (fun _ _ y => y) (fun _ _ y => by obtain ⟨_, _, _, _, y⟩ := y; exact y) (hq0 F H rel ⟨tm, ds⟩ hag)) (fun w H' y => ?_) (fun f args H' y => ?_) fun r H' y => ?_
          · obtain ⟨O2, h2, u2, r2, e1, rfl, rfl⟩ := y
            cases e1
            exact next H' r2
          · obtain ⟨O2, h2, u2, r2, e1, _⟩ := y; cases e1
          · obtain ⟨O2, h2, u2, r2, e1, _⟩ := y; exact .inl ⟨v, e1⟩
        rcases hq with ⟨hg, hq⟩ | ⟨j, bb, want, dj, hg, hj, haj, hq⟩
        · exact exec (by simp [Region.wanted, hg]) hq
        · obtain ⟨y, hy, ey⟩ := List.any_eq_true.1 hj
          have hjD : j ∈ D := hin j (by rw [Nat.eq_of_beq_eq_true ey]; exact hy)
          have htm := inv.new j hjD dj _ (lk_mem haj)
          obtain ⟨oj, hoj, hdj, _⟩ := told.what j _ _ (lk_mem haj)
          have hyl : yielded ops.toArray tm j = some bb := by
            unfold yielded
            rw [List.getElem?_toArray, hoj, Option.bind_some, hdj, Option.bind_some, htm]
          rcases hq with ⟨hbw, hq⟩ | ⟨hbw, rfl⟩
          · exact exec (by simp [Region.wanted, hg, hyl, hbw]) hq
          · have hwf : Region.wanted o (yielded ops.toArray tm) = false := by
              unfold Region.wanted
              rw [hg]
              simp only [hyl, hbw]
              cases want <;> rfl
            have hfin' : (b.at ⟨tm, ds⟩ (.inRegion ops.toArray (i' :: l) :: k)).finish undef = b.at ((Act.mk tm ds).put o.dst undef) (.inRegion ops.toArray l :: k) := by rw [Frame.finish_at, hoA]; rfl
            refine quiet (P := P) hJ (g' := G (b.at ((Act.mk tm ds).put o.dst undef) (.inRegion ops.toArray l :: k)) cs) rfl (fun main w => ?_) (next H rel)
            rw [← hfin']
            simp [G, stepG, stepG.exec, Frame.at, hoA, hwf]
      · rcases Nat.lt_or_ge i m with him | him
        · -- the one that makes memory and stands next
          rcases hπ with rfl | ⟨c, rest, rfl⟩
          · rcases hall i him with y | y
            · exact absurd y hacc
            · cases y
          obtain ⟨r1, r2⟩ := piRec_cons told.piR
          have hic : i = c := by
            rcases hall i him with y | y
            · exact absurd y hacc
            · obtain ⟨z, hz, rfl⟩ := List.mem_map.1 y
              rcases List.mem_cons.1 hz with e | hz
              · rw [e]
              · have := inv.low c (hin c ((r1 z hz).2.2 rfl))
                exact absurd this (told.apart (c, true) (by simp))
          subst hic
          obtain ⟨o, ho, hg, hx⟩ := x
          have hoA : ops.toArray[i]? = some o := by simpa using ho
          have next : ∀ (v : Value) (W2 : Own) (h2 H' : PHeap), Up F h' h2 → Rel F h2 (W2 ++ O) H' → anyO P M n ops dsts anc m Q L O ((i, o.dst, v) :: acc) W2 h2 rest → J H' (G (b.at ((Act.mk tm ds).put o.dst v) (.inRegion ops.toArray l :: k)) cs) := by
            intro v W2 h2 H' u2 rel2 x2
            have hn' : (((i, o.dst, v) :: acc).map (·.1)).Nodup := by simp only [List.map_cons, List.nodup_cons]; exact ⟨hacc, told.nd⟩
            have t' : Told P n ops dsts anc L (i :: D) ((i, o.dst, v) :: acc) O h2 rest := by
              refine ⟨hn', fun y hy => ?_, fun y hy z hz => ?_, fun j d w hj => ?_, r2⟩
              · simp only [List.map_cons, List.mem_cons, not_or]
                exact ⟨(r1 y hy).2.1, told.apart y (by simp [hy])⟩
              · rcases List.mem_cons.1 hz with rfl | hz
                · exact (r1 y hy).1
                · exact told.ancs y (by simp [hy]) z hz
              · rcases List.mem_cons.1 hj with e | hj
                · cases e
                  exact ⟨o, ho, rfl, fun hn => absurd (by simp) hn⟩
                · obtain ⟨o', a1, a2, a3⟩ := told.what j d w hj
                  exact ⟨o', a1, a2, fun hn => quiet_cons (told.ancs (i, true) (by simp) (j, d, w) hj) (quiet_up ⟨u2.le, u2.gh⟩ (a3 fun hh => hn (List.mem_cons_of_mem _ hh)))⟩
            obtain ⟨acc', π', a1, a2, a3, a4, a5⟩ := advance hancl rest t' x2 (fun j hj => by
              rcases List.mem_cons.1 hj with rfl | hj
              · simp
              · simp only [List.map_cons, List.mem_cons]; exact .inr (inv.low j hj))
            rw [hds]
            have hsame : ∀ k ∈ D, ∀ d w, (k, d, w) ∈ acc' → (k, d, w) ∈ acc := fun k hk d w hw => by
              obtain ⟨⟨k', d', w'⟩, hm, rfl⟩ := List.mem_map.1 (inv.low k hk)
              have e1 := mem_lk a1.nd (a4 _ (List.mem_cons_of_mem _ hm))
              have e2 := mem_lk a1.nd hw
              rw [e1] at e2; cases e2; exact hm
            refine ih (i :: D) _ acc' π' W2 h2 H' h3 (u.trans u2) rel2 (invAt o v acc' ho a1.nd (a4 _ (by simp)) (fun k d w hk => by obtain ⟨o, a, b, _⟩ := a1.what k d w hk; exact ⟨o, a, b⟩) hsame (fun y hy => a4 y (by simp [hy]))) a1 a2 a3 (fun j hj => (a5 j).1 ?_) (fun j hj => ?_) (fun y hy hyt hyD => ?_)
            · rcases hall j hj with y | y
              · exact .inl (by simp only [List.map_cons, List.mem_cons]; exact .inr y)
              · simp only [List.map_cons, List.mem_cons] at y ⊢
                rcases y with y | y
                · exact .inl (.inl y)
                · exact .inr y
            · rcases (a5 j).2 hj with y | y
              · simp only [List.map_cons, List.mem_cons] at y
                rcases y with rfl | y
                · exact him
                · exact hlow j (.inl y)
              · exact hlow j (.inr (by simp only [List.map_cons, List.mem_cons]; exact .inr y))
            · have hap := a1.apart y hy
              rcases List.mem_cons.1 hyD with e | hyD
              · exact hap (by rw [e]; exact List.mem_map.2 ⟨(i, o.dst, v), a4 _ (by simp), rfl⟩)
              · obtain ⟨z, hz, e⟩ := List.mem_map.1 (inv.low _ hyD)
                exact hap (by rw [← e]; exact List.mem_map.2 ⟨z, a4 z (by simp [hz]), rfl⟩)
          have hwt : Region.wanted o (yielded ops.toArray tm) = true := by
            rcases hg with hg | ⟨j, bb, want, dj, hg, hj, haj, rfl⟩
            · simp [Region.wanted, hg]
            · obtain ⟨y, hy, ey⟩ := List.any_eq_true.1 hj
              have hjD : j ∈ D := hin j (by rw [Nat.eq_of_beq_eq_true ey]; exact hy)
              have htm := inv.new j hjD dj _ (lk_mem haj)
              obtain ⟨oj, hoj, hdj, _⟩ := told.what j _ _ (lk_mem haj)
              have hyl : yielded ops.toArray tm j = some bb := by
                unfold yielded
                rw [List.getElem?_toArray, hoj, Option.bind_some, hdj, Option.bind_some, htm]
              simp [Region.wanted, hg, hyl]
          refine step_op (P := P) hJ hoA hbk (a := ⟨tm, ds⟩) hwt (slp_mono (fun _ _ y => y) (fun _ _ y => by obtain ⟨_, _, _, _, y⟩ := y; exact y) (hx F H rel ⟨tm, ds⟩ hag)) (fun w H' y => ?_) (fun f args H' y => ?_) fun r H' y => ?_
          · obtain ⟨O2, h2, u2, r2', W2, rfl, y⟩ := y
            exact next w W2 h2 H' u2 r2' y
          · obtain ⟨O2, h2, u2, r2', rfl, rfl, A, R, hp, y⟩ := y
            have hfin' : ∀ u, (b.at ⟨tm, ds⟩ (.inRegion ops.toArray (i :: l) :: k)).finish u = b.at ((Act.mk tm ds).put o.dst u) (.inRegion ops.toArray l :: k) := fun u => by rw [Frame.finish_at, hoA]; rfl
            have rl := r2'.perm (O' := A ++ (R ++ O)) (by rw [← List.append_assoc]; exact (hp.append_right O).symm)
            refine y _ _ rl.down.1 J hJ _ cs (fun v H2 z => ?_) (fun _ _ z => by obtain ⟨_, _, _, _, z⟩ := z; exact z.elim)
            obtain ⟨A', h3', u3, r3, z⟩ := z
            obtain ⟨r4, u4⟩ := rl.back u3 r3
            rw [hfin']
            exact next v (A' ++ R) h3' H2 (u2.trans u4) (by rw [List.append_assoc]; exact r4) z
          · obtain ⟨O2, h2, u2, r2', y⟩ := y
            cases r <;> first | exact y.elim | exact .inl ⟨_, rfl⟩ | exact .inr ⟨_, _, rfl⟩
        · -- the tail
          have hall' : ∀ j, j < i → j ∈ D := by
            intro j hj
            have := List.all_eq_true.1 p5 i (by simpa using hNi)
            rw [Bool.or_eq_true] at this
            rcases this with x | x
            · have := Nat.le_of_ble_eq_true x; omega
            · obtain ⟨y, hy, e⟩ := List.any_eq_true.1 (List.all_eq_true.1 x j (by simpa using hj))
              exact hin j (by rw [Nat.eq_of_beq_eq_true e]; exact hy)
          have hπ0 : π = [] := by
            rcases hπ with e | ⟨c, rest, rfl⟩
            · exact e
            · have := hlow c (.inr (by simp))
              exact absurd (inv.low c (hall' c (by omega))) (told.apart (c, true) (by simp))
          subst hπ0
          have hDm : ∀ j, j ∈ D → j < m := fun j hj => hlow j (.inl (inv.low j hj))
          have hD : ∀ j, j ∈ D ↔ j < m := fun j => ⟨hDm j, fun hj => hall' j (by omega)⟩
          have hl : i :: l = List.range' m (ops.toArray.size - m) := by
            have := rangeG p5 (i :: l) m D (Nat.le_refl _) hD p2 ⟨h1, hNi, hin, h3⟩
            simpa using this
          rw [hl]
          refine x F H rel _ ?_ J hJ b k cs ds tm hbk ⟨inv.size, fun t v e => ?_⟩ (hends.mono fun e L H y => liftQ_up u y)
          · apply List.ext_getElem?; intro j
            simp only [List.getElem?_map, List.size_toArray, List.getElem?_drop]
            rcases Nat.lt_or_ge j (ops.length - m) with hj | hj
            · rw [List.getElem?_range' hj, List.getElem?_eq_getElem (l := ops) (i := m + j) (by omega)]
              simp [show m + j < ops.length by omega]
            · rw [List.getElem?_eq_none (by simpa using hj), List.getElem?_eq_none (by omega)]; rfl
          · rcases finA_get e with ⟨j, hj⟩ | ⟨h1, h2⟩
            · exact inv.new j ((hD j).2 (hlow j (.inl (List.mem_map.2 ⟨_, hj, rfl⟩)))) t v hj
            · exact inv.old t v h1 fun j _ u => h2 j u
  obtain ⟨acc, π', a1, a2, a3, a4, a5⟩ := advance (D := []) hancl π (⟨List.nodup_nil, (fun _ _ => by simp), (fun _ _ _ h => by cases h), (fun _ _ _ h => by cases h), p4⟩ : Told P n ops dsts anc L [] [] O h π) x (fun _ h => by cases h)
  refine key l [] tm acc π' [] h H hord (Up.refl _ _) rel ⟨hag.size, (by simp), (by simp), (fun t v e _ => hag.at' t v e), (by simp)⟩ a1 a2 a3 (fun i hi => (a5 i).1 (.inr (hpall i hi))) (fun i hi => ?_) (fun _ _ _ => by simp)
  rcases (a5 i).2 hi with y | y
  · cases y
  · obtain ⟨z, hz, rfl⟩ := List.mem_map.1 y
    exact Nat.le_of_ble_eq_true (p3 z hz)

/-- A REGION THAT DRAWS ITS ORDER, told by orders that keep to some pairs. -/
def RegX (P : Program) (M : Jdg → Prop) (n : Nat) (ops : List Oper) (X : List (Nat × Nat)) (Q : Qo) (L : Locals) (O : Own) (h : PHeap) : Prop :=
  ∀ l, OrdX ops.toArray X [] l → ∀ F H, Rel F h O H → slOps P M n ops.toArray (liftQ F h Q) l L H
theorem so_draw [hX : Mixed P] {id : Nat} (he : edgesOk ops.toArray = true) (x : RegX P M n ops [] Q L O h) : (Code.region id ops.toArray true).so P M n Q L O h := by
  intro F H rel J hJ b k cs ds tm hb hag hends
  obtain ⟨main, hcl⟩ := hM.cl J hJ
  refine hcl H _ rfl fun w hsat => ?_
  have hm := hX.is
  refine ⟨G (b.at ⟨tm, ds⟩ (.inRegion ops.toArray (Region.linearise .any ops.toArray (w.tape w.drawn (.order b.fn id))) :: k)) cs, { w with drawn := w.drawn + 1 }, #[], H, ?_, sat_drawn hsat _, grow_drawn w H _, by simp, ?_⟩
  · simp [G, stepG, stepG.exec, Frame.at, choose, Sem.run, Question.forced, Question.cut, hm, Region.schedule]
  · exact x _ (ordX_nil (lin_ord he _)) F H rel J hJ b k cs ds tm hb hag hends
/-- 'anc': of each operation those that go ahead of it; 'm': where those begin that wait for all; 'π': the order of one's choice of the first m. -/
theorem regX_run {X : List (Nat × Nat)} (anc : List (List Nat)) (m : Nat) (π : List (Nat × Bool)) (ha : ancOkX ops X anc = true) (hd : dstsOk n (dstsOf ops) = true) (hπ : piOk anc m ops.length π = true)
    (x : anyO P M n ops (dstsOf ops) anc m Q L O [] [] h π) : RegX P M n ops X Q L O h := fun l hl =>
  anyO_sound rfl (anc_irr ha) hd hπ x l (ordG_of ha hl (by simp))
omit hM in
theorem ordX_pair {ops : Array Oper} {X : List (Nat × Nat)} {p q : Nat} (hp : p < ops.size) (hq : q < ops.size) (hne : p ≠ q) : ∀ {l D : List Nat}, OrdX ops X D l → (p ∈ D → OrdX ops ((p, q) :: X) D l) ∧ (q ∈ D → OrdX ops ((q, p) :: X) D l) ∧ (p ∉ D → q ∉ D → OrdX ops ((p, q) :: X) D l ∨ OrdX ops ((q, p) :: X) D l)
  | [], D, x => ⟨fun _ => x, fun _ => x, fun hn _ => absurd (x p hp) hn⟩
  | i :: l, D, ⟨h1, h2, h3, h4⟩ => by
    obtain ⟨a1, a2, a3⟩ := ordX_pair hp hq hne h4
    have ex : ∀ a b : Nat, (b = i → a ∈ D) → OrdX ops ((a, b) :: X) (i :: D) l → OrdX ops ((a, b) :: X) D (i :: l) := fun a b hab y => ⟨h1, h2, fun r m => by
      rcases List.mem_cons.1 m with e | m
      · cases e; exact hab rfl
      · exact h3 r m, y⟩
    refine ⟨fun hD => ex p q (fun _ => hD) (a1 (by simp [hD])), fun hD => ex q p (fun _ => hD) (a2 (by simp [hD])), fun n1 n2 => ?_⟩
    by_cases e1 : i = p
    · subst e1
      exact .inl (ex _ _ (fun e => absurd e.symm hne) (a1 (by simp)))
    · by_cases e2 : i = q
      · subst e2
        exact .inr (ex _ _ (fun e => absurd e hne) (a2 (by simp)))
      · rcases a3 (by simp only [List.mem_cons, not_or]; exact ⟨fun e => e1 e.symm, n1⟩) (by simp only [List.mem_cons, not_or]; exact ⟨fun e => e2 e.symm, n2⟩) with y | y
        · exact .inl (ex _ _ (fun e => absurd e.symm e2) y)
        · exact .inr (ex _ _ (fun e => absurd e.symm e1) y)
omit hM in
/-- Which of two goes first is asked. -/
theorem regX_split {X : List (Nat × Nat)} (p q : Nat) (hp : (Nat.blt p ops.length && Nat.blt q ops.length && !(Nat.beq p q)) = true) (x : RegX P M n ops ((p, q) :: X) Q L O h) (y : RegX P M n ops ((q, p) :: X) Q L O h) : RegX P M n ops X Q L O h := fun l hl => by
  simp only [Bool.and_eq_true, Bool.not_eq_true'] at hp
  rcases (ordX_pair (p := p) (q := q) (by have := Nat.le_of_ble_eq_true hp.1.1; simp; omega) (by have := Nat.le_of_ble_eq_true hp.1.2; simp; omega) (Nat.ne_of_beq_eq_false hp.2) hl).2.2 (by simp) (by simp) with z | z
  · exact x l z
  · exact y l z
theorem so_any [hX : Mixed P] {id : Nat} (anc : List (List Nat)) (m : Nat) (π : List (Nat × Bool)) (he : edgesOk ops.toArray = true) (ha : ancOkX ops [] anc = true) (hd : dstsOk n (dstsOf ops) = true) (hπ : piOk anc m ops.length π = true)
    (x : anyO P M n ops (dstsOf ops) anc m Q L O [] [] h π) : (Code.region id ops.toArray true).so P M n Q L O h := so_draw he (regX_run anc m π ha hd hπ x)

end
end Go.Sl

/- A region whose operations Go may carry out in more than one order: the quiet ones are told once, in the text's order; the rest in the text's order behind them. No program. -/
import Derived.Test.YtcefbjpebgofjaaSlD
namespace Go.Sl
open Go Go.Conc PHeap

/-- A list of operations in an order that the region allows, behind those that are done. -/
def Ord (ops : Array Oper) : List Nat → List Nat → Prop
  | D, [] => ∀ i, i < ops.size → i ∈ D
  | D, i :: l => i ∉ D ∧ (∃ o, ops[i]? = some o ∧ ∀ e ∈ o.after, Region.binds .any e = true → e.on ∈ D) ∧ Ord ops (i :: D) l

def edgesOk (ops : Array Oper) : Bool := ops.toList.zipIdx.all fun (o, i) => o.after.all fun e => !Region.binds .any e || Nat.blt e.on i

theorem edges_lt {ops : Array Oper} (h : edgesOk ops = true) {i : Nat} {o : Oper} (ho : ops[i]? = some o) {e : Edge} (he : e ∈ o.after) (hb : Region.binds .any e = true) : e.on < i := by
  unfold edgesOk at h
  rw [List.all_eq_true] at h
  have := h (o, i) (by rw [List.mem_zipIdx_iff_getElem?]; simpa using ho)
  rw [Array.all_eq_true_iff_forall_mem] at this
  have := this e he
  rw [hb] at this
  simp only [Bool.not_true, Bool.false_or] at this
  exact Nat.le_of_ble_eq_true this

theorem nodup_le : ∀ {l m : List Nat}, l.Nodup → (∀ x ∈ l, x ∈ m) → l.length ≤ m.length
  | [], m, _, _ => Nat.zero_le _
  | a :: l, m, hn, hs => by
    have ha : a ∈ m := hs a (by simp)
    have hn' := List.nodup_cons.1 hn
    have := nodup_le (l := l) (m := m.erase a) hn'.2 fun x hx => (List.mem_erase_of_ne (fun e : x = a => hn'.1 (by rw [← e]; exact hx))).2 (hs x (by simp [hx]))
    rw [List.length_erase_of_mem ha] at this
    have hp := List.length_pos_of_mem ha
    simp only [List.length_cons]; omega
theorem exists_least {p : Nat → Prop} [DecidablePred p] : ∀ {i : Nat}, p i → ∃ j, p j ∧ ∀ k, k < j → ¬ p k := by
  intro i
  induction i using Nat.strongRecOn with
  | _ i ih =>
    intro hi
    by_cases h : ∃ k, k < i ∧ p k
    · obtain ⟨k, h1, h2⟩ := h; exact ih k h1 h2
    · exact ⟨i, hi, fun k hk hp => h ⟨k, hk, hp⟩⟩

/-- What 'linearise' goes on by: the marks of what is listed. -/
theorem lin_go {ops : Array Oper} (h : edgesOk ops = true) : ∀ (fuel t : Nat) (listed : Array Bool) (acc D : List Nat), listed.size = ops.size → (∀ i, listed[i]? = some true ↔ i ∈ D) → acc.reverse.length + fuel = ops.size → D.length = acc.length →
    D.Nodup → (∀ i ∈ D, i < ops.size) → ∃ l, Region.linearise.go .any ops fuel t listed acc = acc.reverse ++ l ∧ Ord ops D l := by
  intro fuel
  induction fuel with
  | zero =>
    intro t listed acc D hs hl hf hd hn hb
    refine ⟨[], by simp [Region.linearise.go], ?_⟩
    intro i hi
    -- D is all of them
    have hlen : D.length = ops.size := by simp at hf; omega
    by_cases hm : i ∈ D
    · exact hm
    · exfalso
      have : (i :: D).length ≤ (List.range ops.size).length := by
        refine nodup_le (List.nodup_cons.2 ⟨hm, hn⟩) fun x hx => ?_
        rcases List.mem_cons.1 hx with rfl | hx
        · simpa using hi
        · simpa using hb x hx
      simp at this; omega
  | succ fuel ih =>
    intro t listed acc D hs hl hf hd hn hb
    have hlt : D.length < ops.size := by simp at hf; omega
    -- someone is not listed yet
    have hex : ∃ i, i < ops.size ∧ i ∉ D := by
      refine Classical.byContradiction fun hno => ?_
      have : (List.range ops.size).length ≤ D.length := by
        refine nodup_le List.nodup_range fun x hx => ?_
        refine Classical.byContradiction fun hx' => hno ⟨x, by simpa using hx, hx'⟩
      simp at this; omega
    obtain ⟨i0, hi0, hi0'⟩ := hex
    obtain ⟨j, ⟨hj1, hj2⟩, hjl⟩ := exists_least (p := fun i => i < ops.size ∧ i ∉ D) ⟨hi0, hi0'⟩
    simp only [Region.linearise.go]
    generalize hrs : (List.range ops.size).filter (fun i => !listed.getD i true && ((ops[i]?).map (·.after.all fun e => !Region.binds .any e || listed.getD e.on false)).getD false) = rs
    have hgetD : ∀ i, i < ops.size → (listed.getD i true = true ↔ i ∈ D) := by
      intro i hi
      rw [← hl i]
      have : i < listed.size := by omega
      simp [Array.getD, this]
    have hready : j ∈ rs := by
      rw [← hrs, List.mem_filter]
      refine ⟨by simpa using hj1, ?_⟩
      have h1 : listed.getD j true = false := by
        cases hg : listed.getD j true with
        | false => rfl
        | true => exact absurd ((hgetD j hj1).1 hg) hj2
      rw [h1]
      have ho : ops[j]? = some ops[j] := Array.getElem?_eq_getElem hj1
      simp only [Bool.not_false, Bool.true_and, ho, Option.map_some, Option.getD_some]
      rw [Array.all_eq_true_iff_forall_mem]
      intro e he
      cases hbn : Region.binds .any e with
      | false => rfl
      | true =>
        have hlt := edges_lt h ho he hbn
        have hin : e.on ∈ D := Classical.byContradiction fun hx => hjl e.on hlt ⟨by omega, hx⟩
        have : listed[e.on]? = some true := (hl e.on).2 hin
        have hsz : e.on < listed.size := by omega
        simp only [Bool.not_true, Bool.false_or]
        simpa [Array.getD, hsz] using this
    have hpos : 0 < rs.length := List.length_pos_of_mem hready
    have hmod : t % rs.length < rs.length := Nat.mod_lt _ hpos
    rw [List.getElem?_eq_getElem hmod]
    generalize hi : rs[t % rs.length] = i
    have himem : i ∈ rs := hi ▸ List.getElem_mem hmod
    rw [← hrs, List.mem_filter] at himem
    obtain ⟨hir, hic⟩ := himem
    have hir : i < ops.size := by simpa using hir
    simp only [Bool.and_eq_true, Bool.not_eq_true'] at hic
    have hiD : i ∉ D := fun hx => by rw [(hgetD i hir).2 hx] at hic; simp at hic
    have hsz : i < listed.size := by omega
    obtain ⟨l, hgo, hord⟩ := ih (t / rs.length) (listed.setIfInBounds i true) (i :: acc) (i :: D) (by simp [hs]) (fun x => by
      rw [Array.getElem?_setIfInBounds]
      by_cases hx : i = x
      · subst hx; simp [hsz]
      · simp only [hx, if_false, hl x, List.mem_cons]
        constructor
        · exact .inr
        · rintro (e | e)
          · exact absurd e.symm hx
          · exact e) (by simp at hf ⊢; omega) (by simp [hd]) (List.nodup_cons.2 ⟨hiD, hn⟩) (fun x hx => by
        rcases List.mem_cons.1 hx with rfl | hx
        · exact hir
        · exact hb x hx)
    refine ⟨i :: l, by simp only [hgo]; simp, hiD, ?_, hord⟩
    have ho : ops[i]? = some ops[i] := Array.getElem?_eq_getElem hir
    refine ⟨_, ho, fun e he hbn => ?_⟩
    have h2 := hic.2
    simp only [ho, Option.map_some, Option.getD_some] at h2
    rw [Array.all_eq_true_iff_forall_mem] at h2
    have := h2 e he
    rw [hbn] at this
    simp only [Bool.not_true, Bool.false_or] at this
    refine (hl e.on).1 ?_
    have hlt := edges_lt h ho he hbn
    have hsz' : e.on < listed.size := by omega
    simpa [Array.getD, hsz'] using this

theorem lin_ord {ops : Array Oper} (h : edgesOk ops = true) (t : Nat) : Ord ops [] (Region.linearise .any ops t) := by
  obtain ⟨l, h1, h2⟩ := lin_go h ops.size t (Array.replicate ops.size false) [] [] (by simp) (fun i => by simp [Array.getElem?_replicate]) (by simp) rfl List.nodup_nil (by simp)
  unfold Region.linearise
  rw [h1]; simpa using h2

/-! ### the rule -/
class Mixed (P : Program) : Prop where
  is : P.follows .mixedOrders = true

/-- Of each operation those that go ahead of it: a table, checked. -/
def ancOk (ops : List Oper) (anc : List (List Nat)) : Bool :=
  Nat.beq anc.length ops.length && (ops.zipIdx.all fun (o, i) =>
    let ds := (o.after.toList.filter fun e => Region.binds .any e).map (·.on)
    (anc.getD i []).all fun j => ds.any fun p => Nat.beq p j || (anc.getD p []).any (Nat.beq j ·))
def dstsOf (ops : List Oper) : List (Option Nat) := ops.map (·.dst)
def isD (d : Nat) : Option Nat → Bool
  | some y => Nat.beq d y
  | none => false
def dstsOk (n : Nat) : List (Option Nat) → Bool
  | [] => true
  | none :: l => dstsOk n l
  | some d :: l => Nat.blt d n && !l.any (isD d) && dstsOk n l

/-- May operation 'i' still see what slot 't' held before the region? -/
def seesOld (dsts : List (Option Nat)) (anc : List (List Nat)) (i t : Nat) : Bool :=
  dsts.zipIdx.all fun (d, k) => !isD t d || Nat.beq k i || (anc.getD k []).any (Nat.beq i ·)
def oldL (dsts : List (Option Nat)) (anc : List (List Nat)) (i : Nat) : Locals → Locals
  | [] => []
  | (t, v) :: L => bif seesOld dsts anc i t then (t, v) :: oldL dsts anc i L else oldL dsts anc i L
def newL (acc : List (Option Nat × Value)) : List Nat → Locals → Locals
  | [], L => L
  | j :: js, L => match acc[j]? with
    | some (d, v) => setL d v (newL acc js L)
    | none => newL acc js L
/-- What operation 'i' may lean on. -/
def locAt (dsts : List (Option Nat)) (anc : List (List Nat)) (acc : List (Option Nat × Value)) (L : Locals) (i : Nat) : Locals := newL acc (anc.getD i []) (oldL dsts anc i L)
def finL : List (Option Nat × Value) → Locals → Locals
  | [], L => L
  | (d, v) :: acc, L => finL acc (setL d v L)

/-- What a quiet operation may come to: it yields 'v' and turns nothing that is known. -/
def quietK (P : Program) (M : Jdg → Prop) (v : Value) (h : PHeap) : Next → PHeap → Prop
  | .value u, h' => u = v ∧ h ≤ h'
  | .enter f args, h' => CallsJ P M f args h' (fun u h'' => u = v ∧ h ≤ h'')
  | _, _ => False

def tailOk (anc : List (List Nat)) (m N : Nat) : Bool := (List.range N).all fun i => Nat.blt i m || (List.range i).all fun j => (anc.getD i []).any (Nat.beq j ·)

/-- The operations of a region that draws its order, from number 'acc.length' on. -/
def anyRun (P : Program) (M : Jdg → Prop) (n : Nat) (ops : Array Oper) (dsts : List (Option Nat)) (anc : List (List Nat)) (Q : Qt) (L : Locals) (h : PHeap) : List (Option Nat × Value) → List Oper → Prop
  | acc, [] => ∀ h', h ≤ h' → Q .nrm (finL acc L) h'
  | acc, o :: rest => (tailOk anc acc.length ops.size = true ∧ ∀ h', h ≤ h' → slList P M n ops Q (o :: rest) (finL acc L) h') ∨
      ∃ v, ((o.guard = none ∧ ∀ h', h ≤ h' → opv P n o (locAt dsts anc acc L acc.length) h' (quietK P M v h') (fun _ _ => False)) ∨
          (∃ j b want dj, o.guard = some (j, want) ∧ (anc.getD acc.length []).any (Nat.beq j ·) = true ∧ acc[j]? = some (some dj, .bool b) ∧
            ((b = want ∧ ∀ h', h ≤ h' → opv P n o (locAt dsts anc acc L acc.length) h' (quietK P M v h') (fun _ _ => False)) ∨ (b = !want ∧ v = undef)))) ∧
        anyRun P M n ops dsts anc Q L h (acc ++ [(o.dst, v)]) rest
end Go.Sl

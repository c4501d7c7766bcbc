/- Light that is still followed, told as plain data. No program. -/
import Derived.Test.YtekjikbaefgncaaGreatDoorSmZ
set_option linter.unusedVariables false
set_option linter.unusedSimpArgs false
set_option linter.unusedSectionVars false

namespace Go.Sl

def beamFrom (g : Grid) (a d w : Int) : Beam := match nextAt g a d with
  | some b => ⟨b, d, w, -1⟩
  | none => ⟨0, 0, w, sightOf g a d⟩
/-- What becomes of it. -/
def BeamIs (g : Grid) (b : Beam) (r : Lit) : Prop :=
  (b.weight = 0 ∧ r = (1, [], [])) ∨ (b.weight ≠ 0 ∧ 0 ≤ b.out ∧ r = (1, [], [⟨0, b.out, b.weight⟩])) ∨
  (b.weight ≠ 0 ∧ b.out < 0 ∧ (0 ≤ b.at' ∧ b.at' < g.cells.length) ∧ (0 ≤ b.dir ∧ b.dir ≤ 3) ∧ ∃ n, comeF g n b.at' b.dir b.weight = some r)
theorem beamIs_from {g : Grid} {R : Int} (k : Gok g R) {a d w : Int} {n : Nat} {r : Lit} (h0 : 0 ≤ a) (h1 : a < g.cells.length) (d0 : 0 ≤ d) (d1 : d ≤ 3) (h : leaveF g (comeF g n) a d w = some r) : BeamIs g (beamFrom g a d w) r := by
  unfold leaveF at h
  unfold beamFrom BeamIs
  split at h
  · rename_i hw
    cases h
    refine .inl ⟨?_, rfl⟩
    split <;> exact hw
  · rename_i hw
    split at h
    · rename_i hn
      cases h
      simp only [hn]
      exact .inr (.inl ⟨hw, (sightOf_edge k h0 h1 d0 d1 hn).1, trivial⟩)
    · rename_i b hn
      simp only [hn]
      exact .inr (.inr ⟨hw, by decide, nextAt_ok k h0 h1 hn, ⟨d0, d1⟩, n, h⟩)
/-- What is still to be done, the next one first. -/
inductive Todo (g : Grid) : List Beam → Nat → List Visit → List LEnd → Prop where
  | nil : Todo g [] 0 [] []
  | cons {b : Beam} {bs : List Beam} {n m : Nat} {v vs : List Visit} {e es : List LEnd} : BeamIs g b (n, v, e) → (0 ≤ b.weight ∧ b.weight ≤ 64) → 1 ≤ n → Todo g bs m vs es → Todo g (b :: bs) (n + m) (v ++ vs) (e ++ es)
theorem Todo.len {g : Grid} {bs : List Beam} {m : Nat} {vs : List Visit} {es : List LEnd} (t : Todo g bs m vs es) : bs.length ≤ m := by
  induction t with
  | nil => simp
  | cons _ _ _ _ ih => simp; omega
theorem todo_two {g : Grid} {R : Int} (k : Gok g R) {a d w : Int} (h0 : 0 ≤ a) (h1 : a < g.cells.length) (d0 : 0 ≤ d) (d1 : d ≤ 3) (w0 : 1 ≤ w) (w1 : w ≤ 64) {n : Nat} {r : Lit} (hc : comeF g n a d w = some r)
    {bs : List Beam} {m : Nat} {vs : List Visit} {es : List LEnd} (t : Todo g bs m vs es) : ∃ n' v e, r = (n' + 1, ⟨a, d, w⟩ :: v, hereF g a w ++ e) ∧
    Todo g (beamFrom g a d (spread (gt g.cells a.toNat).kind w).pass :: beamFrom g a (dirTurn (gt g.cells a.toNat).kind d) (spread (gt g.cells a.toNat).kind w).turn :: bs) (n' + m) (v ++ vs) (e ++ es) := by
  cases n with
  | zero => cases hc
  | succ n =>
    obtain ⟨n1, v1, e1, n2, v2, e2, q1, q2, rfl⟩ := comeF_inv hc
    have hs := spread_le (kind := (gt g.cells a.toNat).kind) w0
    have hd := dirTurn_ok (kind := (gt g.cells a.toNat).kind) d0 d1
    have bw : ∀ x y, (beamFrom g a x y).weight = y := fun x y => by unfold beamFrom; split <;> rfl
    have n1' : ∀ {x y : Int} {n' : Nat} {v e}, 0 ≤ x → x ≤ 3 → 0 ≤ y → leaveF g (comeF g n) a x y = some (n', v, e) → 1 ≤ n' := fun {x y n' v e} x0 x1 y0 h => by
      unfold leaveF at h
      split at h
      · cases h; exact Nat.le_refl _
      · split at h
        · cases h; exact Nat.le_refl _
        · rename_i b hn
          have hb := nextAt_ok k h0 h1 hn
          exact (comeF_ok k _ _ _ _ _ hb.1 hb.2 x0 x1 (by omega) h).n1
    refine ⟨n1 + n2, v1 ++ v2, e1 ++ e2, by rw [show 1 + n1 + n2 = n1 + n2 + 1 by omega], ?_⟩
    have := Todo.cons (beamIs_from k h0 h1 d0 d1 q1) (by rw [bw]; omega) (n1' d0 d1 hs.1 q1) (Todo.cons (beamIs_from k h0 h1 hd.1 hd.2 q2) (by rw [bw]; omega) (n1' hd.1 hd.2 hs.2.2.1 q2) t)
    simpa [Nat.add_assoc] using this
theorem snoc_of {α : Type} {xs : List α} (h : 0 < xs.length) : ∃ ys y, xs = ys ++ [y] := by
  have : xs ≠ [] := fun e => by subst e; cases h
  exact ⟨xs.dropLast, xs.getLast this, (List.dropLast_concat_getLast this).symm⟩
theorem gt_snoc {α : Type} [Inhabited α] {ys : List α} {y : α} : gt (ys ++ [y]) ys.length = y := by
  rw [gt_eq (by simp)]; simp
end Go.Sl

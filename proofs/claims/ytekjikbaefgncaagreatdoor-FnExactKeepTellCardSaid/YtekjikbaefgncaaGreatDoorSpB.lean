/- Sights, sums and pictures, told as plain data. No program. -/
import Derived.Test.YtekjikbaefgncaaGreatDoorSpA
set_option linter.unusedVariables false
set_option linter.unusedSimpArgs false
set_option linter.unusedSectionVars false

namespace Go.Sl

theorem ray_ext {a b c d : Int} (h : a = b) (h' : c = d) : Ray.mk a c = Ray.mk b d := by rw [h, h']
theorem ray_eq {r : Ray} {a d : Int} (h : r.at' = a) (h' : r.dir = d) : r = ⟨a, d⟩ := by cases r; simp only at h h'; rw [h, h']
theorem endIf_len (k a w : Int) : (endIf k a w).length ≤ 1 := by
  unfold endIf; split <;> simp
theorem rayAt_inj {g : Grid} {R : Int} (k : Gok g R) {i j : Int} (i0 : 0 ≤ i) (i1 : i < manyOf g) (j0 : 0 ≤ j) (j1 : j < manyOf g) (h : rayAt g i = rayAt g j) : i = j := by
  have h5 := k.len; have h6 := k.r1; have h7 := k.r5; have h8 := k.rows
  unfold manyOf at i1 j1
  unfold rayAt at h
  rw [h8] at i1 j1 h
  rcases k.wides with e | e | e | e | e <;> simp only [e] at h5 i1 j1 h <;> (repeat' split at h) <;> simp only [Ray.mk.injEq] at h <;> omega
theorem rayAt_ok {g : Grid} {R : Int} (k : Gok g R) {j : Int} (h0 : 0 ≤ j) (h1 : j < manyOf g) : (0 ≤ (rayAt g j).at' ∧ (rayAt g j).at' < g.cells.length) ∧ 0 ≤ (rayAt g j).dir ∧ (rayAt g j).dir ≤ 3 := (fresh_ray k h0 h1).1
def edgeSight (g : Grid) (a dir : Int) : Int :=
  if dir = 0 then a else if dir = 1 then g.wide + a / g.wide else if dir = 2 then g.wide + rowsOf g + (g.cells.length - 1 - a) else 2 * g.wide + rowsOf g + (rowsOf g - 1 - a / g.wide)
theorem edge_ray {g : Grid} {R : Int} (k : Gok g R) {a dir : Int} (h0 : 0 ≤ a) (h1 : a < g.cells.length) (d0 : 0 ≤ dir) (d1 : dir ≤ 3) (h : nextAt g a dir = none) :
    0 ≤ edgeSight g a dir ∧ edgeSight g a dir < manyOf g ∧ rayAt g (edgeSight g a dir) = ⟨a, (dir + 2) % 4⟩ := by
  have h5 := k.len; have h6 := k.r1; have h7 := k.r5; have h8 := k.rows
  have hd : dir = 0 ∨ dir = 1 ∨ dir = 2 ∨ dir = 3 := by omega
  unfold nextAt at h
  unfold edgeSight manyOf rayAt
  rw [h8]
  have q : (2 : Int) ≠ 0 ∧ (2 : Int) ≠ 1 ∧ (3 : Int) ≠ 0 ∧ (3 : Int) ≠ 1 ∧ (3 : Int) ≠ 2 ∧ (1 : Int) ≠ 0 := by decide
  rcases hd with rfl | rfl | rfl | rfl <;> rcases k.wides with e | e | e | e | e <;> simp only [e, q, if_true, if_false] at h h5 ⊢ <;> split at h <;> first | (cases h; done) | skip
  all_goals refine ⟨by omega, by omega, ?_⟩
  all_goals (repeat' split) <;> first | (exfalso; omega) | (exact ray_ext (by omega) (by omega))

theorem sightOf_some {g : Grid} {R : Int} (k : Gok g R) {a dir i : Int} (i0 : 0 ≤ i) (i1 : i < manyOf g) (h : rayAt g i = ⟨a, (dir + 2) % 4⟩) : sightOf g a dir = i := by
  unfold sightOf
  cases e : (List.range (manyOf g).toNat).find? (fun k => decide (rayAt g (k : Nat) = ⟨a, (dir + 2) % 4⟩)) with
  | some j =>
    have h1 := List.find?_some e
    have h2 := List.mem_of_find?_eq_some e
    simp only [decide_eq_true_eq] at h1
    rw [List.mem_range] at h2
    show ((j : Nat) : Int) = i
    exact rayAt_inj k (by omega) (by omega) i0 i1 (h1.trans h.symm)
  | none =>
    have := List.find?_eq_none.1 e i.toNat (List.mem_range.2 (by omega))
    rw [Int.toNat_of_nonneg i0] at this
    simp [h] at this
theorem sightOf_none {g : Grid} {a dir : Int} (h : ∀ i : Int, 0 ≤ i → i < manyOf g → rayAt g i ≠ ⟨a, (dir + 2) % 4⟩) : sightOf g a dir = -1 := by
  unfold sightOf
  have : (List.range (manyOf g).toNat).find? (fun k => decide (rayAt g (k : Nat) = ⟨a, (dir + 2) % 4⟩)) = none := by
    refine List.find?_eq_none.2 fun j hj => ?_
    rw [List.mem_range] at hj
    simpa using h j (by omega) (by omega)
  rw [this]
theorem sightOf_edge {g : Grid} {R : Int} (k : Gok g R) {a dir : Int} (h0 : 0 ≤ a) (h1 : a < g.cells.length) (d0 : 0 ≤ dir) (d1 : dir ≤ 3) (h : nextAt g a dir = none) : 0 ≤ sightOf g a dir ∧ sightOf g a dir < manyOf g := by
  obtain ⟨e1, e2, e3⟩ := edge_ray k h0 h1 d0 d1 h
  rw [sightOf_some k e1 e2 e3]; exact ⟨e1, e2⟩
theorem Gok.many {g : Grid} {R : Int} (k : Gok g R) : 4 ≤ manyOf g ∧ manyOf g ≤ 20 ∧ manyOf g = 2 * (g.wide + R) := by
  have h5 := k.w1; have h6 := k.w5; have h7 := k.r1; have h8 := k.r5; have h9 := k.rows
  unfold manyOf; rw [h9]; omega

/-! ### what light does is in its bounds -/
structure EndOk (g : Grid) (w : Int) (e : LEnd) : Prop where
  w0 : 1 ≤ e.weight
  w1 : e.weight ≤ w
  k0 : 0 ≤ e.kind
  k3 : e.kind ≤ 3
  out : e.kind = 0 → 0 ≤ e.where' ∧ e.where' < manyOf g
  cell : e.kind ≠ 0 → 0 ≤ e.where' ∧ e.where' < g.cells.length
structure VisitOk (g : Grid) (w : Int) (v : Visit) : Prop where
  a0 : 0 ≤ v.at'
  a1 : v.at' < g.cells.length
  d0 : 0 ≤ v.dir
  d1 : v.dir ≤ 3
  w0 : 1 ≤ v.weight
  w1 : v.weight ≤ w
theorem EndOk.up {g : Grid} {w w' : Int} {e : LEnd} (x : EndOk g w e) (h : w ≤ w') : EndOk g w' e := ⟨x.w0, by have := x.w1; omega, x.k0, x.k3, x.out, x.cell⟩
theorem VisitOk.up {g : Grid} {w w' : Int} {e : Visit} (x : VisitOk g w e) (h : w ≤ w') : VisitOk g w' e := ⟨x.a0, x.a1, x.d0, x.d1, x.w0, by have := x.w1; omega⟩
structure LitOk (g : Grid) (w : Int) (r : Lit) : Prop where
  vs : ∀ v ∈ r.2.1, VisitOk g w v
  es : ∀ e ∈ r.2.2, EndOk g w e
  lv : r.2.1.length ≤ r.1
  le : r.2.2.length ≤ 2 * r.1
  n1 : 1 ≤ r.1
theorem spread_le {kind w : Int} (hw : 1 ≤ w) : 0 ≤ (spread kind w).pass ∧ (spread kind w).pass ≤ w ∧ 0 ≤ (spread kind w).turn ∧ (spread kind w).turn ≤ w ∧ 0 ≤ (spread kind w).lost ∧ (spread kind w).lost ≤ w ∧ 0 ≤ (spread kind w).stop ∧ (spread kind w).stop ≤ w := by
  unfold spread
  (repeat' split) <;> simp only <;> omega
theorem hereF_ok {g : Grid} {a w : Int} (ha : 0 ≤ a ∧ a < g.cells.length) (hw : 1 ≤ w) : (∀ e ∈ hereF g a w, EndOk g w e) ∧ (hereF g a w).length ≤ 2 := by
  have hs := spread_le (kind := (gt g.cells a.toNat).kind) hw
  constructor
  · intro e he
    unfold hereF endIf at he
    rcases List.mem_append.1 he with h | h
    · split at h
      · simp at h; subst h
        refine ⟨?_, ?_, ?_, ?_, ?_, ?_⟩ <;> simp only <;> first | omega | (split <;> omega) | (intro h; split at h <;> omega) | exact fun _ => ha
      · cases h
    · split at h
      · simp at h; subst h
        refine ⟨?_, ?_, ?_, ?_, ?_, ?_⟩ <;> simp only <;> first | omega | exact fun _ => ha
      · cases h
  · unfold hereF
    rw [List.length_append]
    exact Nat.add_le_add (endIf_len _ _ _) (endIf_len _ _ _)
theorem comeF_ok {g : Grid} {R : Int} (k : Gok g R) : ∀ (n : Nat) (a dir w : Int) (r : Lit), 0 ≤ a → a < g.cells.length → 0 ≤ dir → dir ≤ 3 → 1 ≤ w → comeF g n a dir w = some r → LitOk g w r
  | 0, _, _, _, _, _, _, _, _, _, h => by cases h
  | n + 1, a, dir, w, r, a0, a1, d0, d1, hw, h => by
    obtain ⟨n1, v1, e1, n2, v2, e2, h1, h2, rfl⟩ := comeF_inv h
    have hs := spread_le (kind := (gt g.cells a.toNat).kind) hw
    have lv : ∀ (d w' : Int) (r : Lit), 0 ≤ d → d ≤ 3 → 0 ≤ w' → w' ≤ w → leaveF g (comeF g n) a d w' = some r → LitOk g w r := by
      intro d w' r hd0 hd1 hw0 hw1 hr
      unfold leaveF at hr
      split at hr
      · cases hr; exact ⟨by simp, by simp, by simp, by simp, by simp⟩
      · split at hr
        · rename_i hn
          cases hr
          have he := sightOf_edge k a0 a1 hd0 hd1 hn
          refine ⟨by simp, ?_, by simp, by simp, by simp⟩
          intro e he'
          simp only [List.mem_singleton] at he'
          subst he'
          exact ⟨by simp only; omega, by simp only; omega, by simp, by simp, fun _ => he, fun h => absurd rfl h⟩
        · rename_i b hn
          have hb := nextAt_ok k a0 a1 hn
          have := comeF_ok k n b d w' r hb.1 hb.2 hd0 hd1 (by omega) hr
          exact ⟨fun v hv => (this.vs v hv).up hw1, fun e he => (this.es e he).up hw1, this.lv, this.le, this.n1⟩
    have q1 := lv _ _ _ d0 d1 hs.1 hs.2.1 h1
    have q2 := lv _ _ _ (dirTurn_ok d0 d1).1 (dirTurn_ok d0 d1).2 hs.2.2.1 hs.2.2.2.1 h2
    obtain ⟨f1, f2⟩ := hereF_ok (g := g) ⟨a0, a1⟩ hw
    have l1 := q1.lv; have l2 := q2.lv; have l3 := q1.le; have l4 := q2.le; have l5 := q1.n1; have l6 := q2.n1
    simp only at l1 l2 l3 l4 l5 l6
    refine ⟨fun v hv => ?_, fun e he => ?_, ?_, ?_, ?_⟩
    · simp only at hv
      rcases List.mem_cons.1 hv with rfl | hv
      · exact ⟨a0, a1, d0, d1, hw, Int.le_refl _⟩
      · rcases List.mem_append.1 hv with hv | hv
        · exact q1.vs v hv
        · exact q2.vs v hv
    · simp only at he
      rcases List.mem_append.1 he with he | he
      · exact f1 e he
      · rcases List.mem_append.1 he with he | he
        · exact q1.es e he
        · exact q2.es e he
    · simp only [List.length_cons, List.length_append]; omega
    · simp only [List.length_append]; omega
    · simp only; omega

/-- Where light goes that comes in at a sight, and how it ends. -/
def goLight (g : Grid) (k : Int) : List Visit × List LEnd :=
  match comeF g 6600 (rayAt g k).at' (rayAt g k).dir 64 with
  | some (_, v, e) => (v, e)
  | none => ([], [])
theorem goLight_is {g : Grid} {R : Int} (k : Gok g R) {j : Int} (h0 : 0 ≤ j) (h1 : j < manyOf g) : ∃ sz v e, comeF g 6600 (rayAt g j).at' (rayAt g j).dir 64 = some (sz, v, e) ∧ goLight g j = (v, e) ∧ sz ≤ 26000 ∧ LitOk g 64 (sz, v, e) := by
  obtain ⟨f1, f2⟩ := fresh_ray k h0 h1
  obtain ⟨sz, v, e, q1, q2⟩ := come_ends k 64 (by decide) 100 [] _ (.start f1 f2) rfl 6600 (by decide)
  obtain ⟨⟨a0, a1⟩, d0, d1⟩ := f1
  have q1' : comeF g 6600 (rayAt g j).at' (rayAt g j).dir 64 = some (sz, v, e) := q1
  refine ⟨sz, v, e, q1', ?_, by omega, comeF_ok k _ _ _ _ _ a0 a1 d0 d1 (by decide) q1'⟩
  unfold goLight; rw [q1']

/-! ### sums -/
def sumF {α : Type} (f : α → Int) : List α → Int
  | [] => 0
  | x :: xs => f x + sumF f xs
theorem sumF_snoc {α : Type} {f : α → Int} {x : α} : ∀ xs : List α, sumF f (xs ++ [x]) = sumF f xs + f x
  | [] => by simp [sumF]
  | y :: xs => by simp only [List.cons_append, sumF, sumF_snoc xs]; omega
theorem sumF_step {α : Type} [Inhabited α] {f : α → Int} {xs : List α} {k : Nat} (h : k < xs.length) : sumF f (xs.take (k + 1)) = sumF f (xs.take k) + f (gt xs k) := by
  rw [take_succ_gt h, sumF_snoc]
theorem sumF_bd {α : Type} {f : α → Int} {c : Int} : ∀ xs : List α, (∀ x ∈ xs, 0 ≤ f x ∧ f x ≤ c) → 0 ≤ sumF f xs ∧ sumF f xs ≤ c * xs.length
  | [], _ => by simp [sumF]
  | x :: xs, h => by
    have h1 := h x (by simp)
    have h2 := sumF_bd xs fun y hy => h y (by simp [hy])
    simp only [sumF, List.length_cons]
    have : c * ((xs.length + 1 : Nat) : Int) = c * xs.length + c := by rw [Int.natCast_add, Int.mul_add]; simp
    rw [this]; omega
def endLight (g : Grid) (e : LEnd) : Int := if e.kind = 2 then e.weight * (gt g.cells e.where'.toNat).light else 0
theorem endLight_bd {g : Grid} {R : Int} (k : Gok g R) {e : LEnd} (x : EndOk g 64 e) : 0 ≤ endLight g e ∧ endLight g e ≤ 576 := by
  unfold endLight
  split
  · rename_i hk
    obtain ⟨c1, c2⟩ := x.cell (by omega)
    have h1 := k.kind c1 c2
    have h2 := x.w0; have h3 := x.w1
    have := Int.mul_nonneg (show 0 ≤ e.weight by omega) h1.2.2.1
    have h4 : e.weight * (gt g.cells e.where'.toNat).light ≤ 64 * 9 := Int.mul_le_mul h3 h1.2.2.2 h1.2.2.1 (by decide)
    omega
  · omega
def lightOf (g : Grid) (es : List LEnd) : Int := sumF (endLight g) es
theorem lightOf_bd {g : Grid} {R : Int} (k : Gok g R) {es : List LEnd} (h : ∀ e ∈ es, EndOk g 64 e) (i : Nat) (hl : es.length ≤ 100000) : 0 ≤ sumF (endLight g) (es.take i) ∧ sumF (endLight g) (es.take i) ≤ 57600000 := by
  have := sumF_bd (f := endLight g) (c := 576) (es.take i) fun e he => endLight_bd k (h e (List.mem_of_mem_take he))
  have h2 : (es.take i).length ≤ 100000 := by rw [List.length_take]; omega
  omega
/-- How bright it is at a sight. -/
def trailLight (g : Grid) (k : Int) : Int := lightOf g (goLight g k).2
def picOf (g : Grid) : List Int := (List.range (manyOf g).toNat).map fun k => trailLight g (k : Nat)
theorem picOf_len (g : Grid) : (picOf g).length = (manyOf g).toNat := by simp [picOf]
theorem picOf_at {g : Grid} {k : Nat} (h : k < (manyOf g).toNat) : gt (picOf g) k = trailLight g k := by
  rw [gt_eq (by rw [picOf_len]; exact h)]; simp [picOf]
/-- The cells into which light comes. -/
def footIs (g : Grid) (vs : List Visit) : List Int := ((List.range g.cells.length).filter fun i => vs.any fun v => decide (v.at' = (i : Nat))).map fun i => ((i : Nat) : Int)
def footOf (g : Grid) (k : Int) : List Int := footIs g (goLight g k).1
def feetOf (g : Grid) : List (List Int) := (List.range (manyOf g).toNat).map fun k => footOf g (k : Nat)
def sceneOf (g : Grid) : Scene := ⟨g, picOf g, feetOf g⟩
end Go.Sl

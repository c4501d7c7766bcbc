/- Rules of a calculus of our own, no program: SpC SpK SpX SpT SpE SpH. -/
import Derived.Test.YtekjikbaefgncaaGreatSmZ
import Derived.Test.YtekjikbaefgncaaGreatSmH
set_option linter.unusedVariables false
set_option linter.unusedSimpArgs false
set_option linter.unusedSectionVars false
/- Light that is still followed, told as plain data. No program. -/
namespace Go.Sl
def beamFrom (g : Grid) (a d w : Int) : Beam := match nextAt g a d with
  | some b => ⟨b, d, w, -1⟩
  | none => ⟨0, 0, w, sightOf g a d⟩
def BeamIs (g : Grid) (b : Beam) (r : Lit) : Prop :=
  (b.weight = 0 ∧ r = (1, [], [])) ∨ (b.weight ≠ 0 ∧ 0 ≤ b.out ∧ r = (1, [], [⟨0, b.out, b.weight⟩])) ∨
  (b.weight ≠ 0 ∧ b.out < 0 ∧ (0 ≤ b.at' ∧ b.at' < g.cells.length) ∧ (0 ≤ b.dir ∧ b.dir ≤ 3) ∧ ∃ n, comeF g n b.at' b.dir b.weight = some r)
theorem beamIs_from {g : Grid} {R : Int} (k : Gok g R) {a d w : Int} {n : Nat} {r : Lit} (h0 : 0 ≤ a) (h1 : a < g.cells.length) (d0 : 0 ≤ d) (d1 : d ≤ 3) (h : leaveF g (comeF g n) a d w = some r) : BeamIs g (beamFrom g a d w) r := by
  unfold leaveF at h
  unfold beamFrom BeamIs
  split at h
  · rename_i hw
    cases h
    refine .inl ⟨?_, rfl⟩
    split <;> exact hw
  · rename_i hw
    split at h
    · rename_i hn
      cases h
      simp only [hn]
      exact .inr (.inl ⟨hw, (sightOf_edge k h0 h1 d0 d1 hn).1, trivial⟩)
    · rename_i b hn
      simp only [hn]
      exact .inr (.inr ⟨hw, by decide, nextAt_ok k h0 h1 hn, ⟨d0, d1⟩, n, h⟩)
inductive Todo (g : Grid) : List Beam → Nat → List Visit → List LEnd → Prop where
  | nil : Todo g [] 0 [] []
  | cons {b : Beam} {bs : List Beam} {n m : Nat} {v vs : List Visit} {e es : List LEnd} : BeamIs g b (n, v, e) → (0 ≤ b.weight ∧ b.weight ≤ 64) → 1 ≤ n → Todo g bs m vs es → Todo g (b :: bs) (n + m) (v ++ vs) (e ++ es)
theorem Todo.len {g : Grid} {bs : List Beam} {m : Nat} {vs : List Visit} {es : List LEnd} (t : Todo g bs m vs es) : bs.length ≤ m := by
  induction t with
  | nil => simp
  | cons _ _ _ _ ih => simp; omega
theorem todo_two {g : Grid} {R : Int} (k : Gok g R) {a d w : Int} (h0 : 0 ≤ a) (h1 : a < g.cells.length) (d0 : 0 ≤ d) (d1 : d ≤ 3) (w0 : 1 ≤ w) (w1 : w ≤ 64) {n : Nat} {r : Lit} (hc : comeF g n a d w = some r)
    {bs : List Beam} {m : Nat} {vs : List Visit} {es : List LEnd} (t : Todo g bs m vs es) : ∃ n' v e, r = (n' + 1, ⟨a, d, w⟩ :: v, hereF g a w ++ e) ∧
    Todo g (beamFrom g a d (spread (gt g.cells a.toNat).kind w).pass :: beamFrom g a (dirTurn (gt g.cells a.toNat).kind d) (spread (gt g.cells a.toNat).kind w).turn :: bs) (n' + m) (v ++ vs) (e ++ es) := by
  cases n with
  | zero => cases hc
  | succ n =>
    obtain ⟨n1, v1, e1, n2, v2, e2, q1, q2, rfl⟩ := comeF_inv hc
    have hs := spread_le (kind := (gt g.cells a.toNat).kind) w0
    have hd := dirTurn_ok (kind := (gt g.cells a.toNat).kind) d0 d1
    have bw : ∀ x y, (beamFrom g a x y).weight = y := fun x y => by unfold beamFrom; split <;> rfl
    have n1' : ∀ {x y : Int} {n' : Nat} {v e}, 0 ≤ x → x ≤ 3 → 0 ≤ y → leaveF g (comeF g n) a x y = some (n', v, e) → 1 ≤ n' := fun {x y n' v e} x0 x1 y0 h => by
      unfold leaveF at h
      split at h
      · cases h; exact Nat.le_refl _
      · split at h
        · cases h; exact Nat.le_refl _
        · rename_i b hn
          have hb := nextAt_ok k h0 h1 hn
          exact (comeF_ok k _ _ _ _ _ hb.1 hb.2 x0 x1 (by omega) h).n1
    refine ⟨n1 + n2, v1 ++ v2, e1 ++ e2, by rw [show 1 + n1 + n2 = n1 + n2 + 1 by omega], ?_⟩
    have := Todo.cons (beamIs_from k h0 h1 d0 d1 q1) (by rw [bw]; omega) (n1' d0 d1 hs.1 q1) (Todo.cons (beamIs_from k h0 h1 hd.1 hd.2 q2) (by rw [bw]; omega) (n1' hd.1 hd.2 hs.2.2.1 q2) t)
    simpa [Nat.add_assoc] using this
theorem snoc_of {α : Type} {xs : List α} (h : 0 < xs.length) : ∃ ys y, xs = ys ++ [y] := by
  have : xs ≠ [] := fun e => by subst e; cases h
  exact ⟨xs.dropLast, xs.getLast this, (List.dropLast_concat_getLast this).symm⟩
theorem gt_snoc {α : Type} [Inhabited α] {ys : List α} {y : α} : gt (ys ++ [y]) ys.length = y := by
  rw [gt_eq (by simp)]; simp
end Go.Sl

/- Keepers, told as plain data. No program. -/
namespace Go.Sl
def editOk (g : Grid) (e : Edit) : Bool := cellOk e.cell && decide (0 ≤ e.at') && decide (e.at' < g.cells.length)
def editsOk (g : Grid) (es : List Edit) : Bool := es.all (editOk g)
def putCell (g : Grid) (e : Edit) : Grid := ⟨g.wide, g.cells.set e.at'.toNat e.cell⟩
def gridAfter (g : Grid) (es : List Edit) : Grid := es.foldl putCell g
def gridAt (k : Keeper) (v : Int) : Grid := gridAfter k.first (k.edits.take v.toNat)
theorem editOk_is {g : Grid} {e : Edit} (h : editOk g e = true) : cellOk e.cell = true ∧ 0 ≤ e.at' ∧ e.at' < g.cells.length := by
  simp only [editOk, Bool.and_eq_true, decide_eq_true_eq] at h; exact ⟨h.1.1, h.1.2, h.2⟩
theorem gridOk_put {g : Grid} {e : Edit} (h : gridOk g = true) (he : editOk g e = true) : gridOk (putCell g e) = true := by
  obtain ⟨h1, h2⟩ := (gridOk_iff g).1 h
  refine (gridOk_iff _).2 ⟨h1, ?_⟩
  simp only [putCell, List.length_set]
  refine ⟨h2.1, h2.2.1, h2.2.2.1, List.all_eq_true.2 fun c hc => ?_⟩
  rcases List.mem_or_eq_of_mem_set hc with hc | rfl
  · exact List.all_eq_true.1 h2.2.2.2 c hc
  · exact (editOk_is he).1
def ownCnt (S many id : Nat) : Nat := (S + many - id) / many
def ownList (S many id : Nat) : List Int := (List.range (ownCnt S many id)).map fun j => ((id - 1 + j * many : Nat) : Int)
def ownLights (pic : List Int) (S many id : Nat) : List Int := (ownList S many id).map fun k => gt pic k.toNat
def partLights (k : Keeper) (id : Nat) (v : Int) : List Int := ownLights (picOf (gridAt k v)) (manyOf k.first).toNat k.parts.length id
def verOk (k : Keeper) (v : Int) : Bool := decide (0 ≤ v) && decide (v ≤ k.edits.length)
def partOk (k : Keeper) (id : Nat) (p : Part) : Bool :=
  if p.has = true then verOk k p.ver && decide (p.lights = partLights k id p.ver) else decide (p.ver = 0) && decide (p.lights.length = 0)
def prevVer (k : Keeper) (i : Nat) : Int := if i = 0 then -1 else (gt k.shown (i - 1)).ver
def shownOk (k : Keeper) (i : Nat) : Bool := verOk k (gt k.shown i).ver && decide (prevVer k i < (gt k.shown i).ver) && decide ((gt k.shown i).pic = picOf (gridAt k (gt k.shown i).ver))
def partsOk (k : Keeper) (n : Nat) : Bool := (List.range n).all fun i => partOk k (i + 1) (gt k.parts i)
def shownsOk (k : Keeper) (n : Nat) : Bool := (List.range n).all (shownOk k)
def keepHead (k : Keeper) : Bool := gridOk k.first && (decide (1 ≤ k.parts.length) && decide (k.parts.length ≤ 3)) && (decide (k.edits.length ≤ 60) && editsOk k.first k.edits)
def keepOk (k : Keeper) : Bool := keepHead k && partsOk k k.parts.length && shownsOk k k.shown.length
structure HeadOk (k : Keeper) : Prop where
  grid : gridOk k.first = true
  n1 : 1 ≤ k.parts.length
  n3 : k.parts.length ≤ 3
  e60 : k.edits.length ≤ 60
  edits : editsOk k.first k.edits = true
theorem HeadOk.is {k : Keeper} (h : HeadOk k) : keepHead k = true := by
  simp only [keepHead, Bool.and_eq_true, decide_eq_true_eq]
  exact ⟨⟨h.grid, h.n1, h.n3⟩, h.e60, h.edits⟩
def keepGrid (k : Keeper) (v : Int) : Grid × Bool := if keepOk k && verOk k v then (gridAt k v, true) else (noGrid, false)
end Go.Sl

/- How many marks: no more than thrice the size. No program. -/
namespace Go.Sl
theorem sizeL_le {α : Type} {f g : α → Nat} : ∀ xs : List α, (∀ x ∈ xs, f x ≤ g x) → sizeL f xs ≤ sizeL g xs
  | [], _ => by simp [sizeL]
  | x :: xs, h => by
    have h1 := h x (by simp)
    have h2 := sizeL_le xs fun y hy => h y (by simp [hy])
    simp only [sizeL]; omega
theorem sizeL_add {α : Type} {f : α → Nat} {c m : Nat} : ∀ xs : List α, sizeL (fun x => m * f x + c) xs = m * sizeL f xs + c * xs.length
  | [] => by simp [sizeL]
  | x :: xs => by simp only [sizeL, sizeL_add xs, List.length_cons, Nat.mul_add]; omega
theorem cIntS_eq (x : List Int) : cIntS x = x.length := by rw [cIntS, sizeL_const]; omega
end Go.Sl

/- What a keeper tells, what it takes in, told as plain data. No program. -/
namespace Go.Sl
def noEdit : Edit := ⟨0, ⟨0, 0⟩⟩
def noWord : Word := ⟨0, 0, 0, 0, noGrid, noEdit, []⟩
def toldTo (k : Keeper) (z : Int) : Word :=
  let p := gt k.parts (z - 1).toNat
  if p.has = true ∧ (1 ≤ (k.edits.length : Int) - p.ver ∧ (k.edits.length : Int) - p.ver ≤ 2) then ⟨2, z, 0, p.ver + 1, noGrid, gt k.edits p.ver.toNat, []⟩
  else ⟨1, z, 0, k.edits.length, gridAt k k.edits.length, noEdit, []⟩
def keepTell (k : Keeper) (z : Int) : Word × Bool := if keepOk k = true ∧ 1 ≤ z ∧ z ≤ k.parts.length then (toldTo k z, true) else (noWord, false)
end Go.Sl

/- What an edit makes of a keeper, told as plain data. No program. -/
namespace Go.Sl
def withEdit (k : Keeper) (e : Edit) : Keeper := { k with edits := k.edits ++ [e] }
def keepEdit (k : Keeper) (e : Edit) : Keeper × Bool := if keepOk k = true ∧ k.edits.length < 60 ∧ editOk k.first e = true then (withEdit k e, true) else (noKeeper, false)
end Go.Sl

/- What a keeper makes of a word it hears, told as plain data. No program. -/
namespace Go.Sl
def pubPic (k : Keeper) : List Int := (List.range (manyOf k.first).toNat).map fun s => gt (gt k.parts (s % k.parts.length)).lights (s / k.parts.length)
def partsSame (k : Keeper) (n : Nat) : Bool := (List.range n).all fun i => (gt k.parts i).has && decide ((gt k.parts i).ver = (gt k.parts 0).ver)
def shownNewer (k : Keeper) : Bool := decide (k.shown.length = 0) || decide ((gt k.shown (k.shown.length - 1)).ver < (gt k.parts 0).ver)
def published (k : Keeper) : Keeper := if partsSame k k.parts.length && shownNewer k then { k with shown := k.shown ++ [⟨(gt k.parts 0).ver, pubPic k⟩] } else k
def setPart (k : Keeper) (i : Nat) (p : Part) : Keeper := { k with parts := k.parts.set i p }
def takesWord (k : Keeper) (w : Word) : Bool := verOk k w.ver && decide (w.lights.length = ownCnt (manyOf k.first).toNat k.parts.length w.frm.toNat)
def heard (k : Keeper) (w : Word) : Keeper :=
  if 1 ≤ w.frm ∧ w.frm ≤ k.parts.length then
    if w.kind = 4 then setPart k (w.frm.toNat - 1) noPart
    else if w.kind = 3 ∧ takesWord k w = true then published (setPart k (w.frm.toNat - 1) ⟨true, w.ver, w.lights⟩) else k
  else k
def keepHear (k : Keeper) (w : Word) : Keeper := if keepOk k = true then heard k w else noKeeper
def picUpto (k : Keeper) (i j : Nat) : List Int := (List.range (manyOf k.first).toNat).map fun s =>
  if s % k.parts.length < i ∨ (s % k.parts.length = i ∧ s / k.parts.length < j) then gt (gt k.parts (s % k.parts.length)).lights (s / k.parts.length) else 0
end Go.Sl

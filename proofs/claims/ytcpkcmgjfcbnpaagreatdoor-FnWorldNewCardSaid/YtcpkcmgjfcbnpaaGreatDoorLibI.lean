/- Rules of a calculus of our own, no program: SmWo SmWp. -/
import Derived.Test.YtcpkcmgjfcbnpaaGreatDoorLibH
import Derived.Test.YtcpkcmgjfcbnpaaGreatDoorLibG
set_option linter.unusedVariables false
set_option linter.unusedSimpArgs false
set_option linter.unusedSectionVars false
namespace Go.Sl
open Go Go.Conc PHeap
section
variable {τ : Tys} {w : World'} {A AK AP AN : Own} {cs : List Value} {c e p s ps ns : Value}
theorem worldX (b : (worldR τ).O A cs w) : ∃ c e p s ps ns AK AP AN, cs = [.int .i64 w.keeper.first.wide, c, e, p, s, ps, ns] ∧ A = AK ++ (AP ++ AN) ∧ (keeperR τ).O AK [.int .i64 w.keeper.first.wide, c, e, p, s] w.keeper ∧ GrR (painterR τ) AP ps τ.painter w.painters ∧ GrR (wordR τ) AN ns τ.word w.nets ∧ One c ∧ One e ∧ One p ∧ One s := by
  obtain ⟨_, _, _, _, rfl, rfl, k, _, _, _, _, rfl, rfl, ⟨ps, rfl, s5⟩, ns, rfl, s6⟩ := b
  have k0 := k
  obtain ⟨c, e, p, s, A1, A2, A3, A4, rfl, -, ⟨g1, -⟩, ⟨g2, -⟩, g3, g4⟩ := keeperO k
  exact ⟨c, e, p, s, ps, ns, _, _, _, rfl, rfl, k0, s5, s6, g1.one, g2.one, g3.one, g4.one⟩
theorem worldC (b : (worldR τ).O A cs w) : ∃ c e p s ps ns, cs = [.int .i64 w.keeper.first.wide, c, e, p, s, ps, ns] ∧ One c ∧ One e ∧ One p ∧ One s ∧ One ps ∧ One ns := by
  obtain ⟨c, e, p, s, ps, ns, _, _, _, rfl, -, -, gp, gn, o1, o2, o3, o4⟩ := worldX b
  exact ⟨c, e, p, s, ps, ns, rfl, o1, o2, o3, o4, gp.one, gn.one⟩
end
theorem OAll.ones {α : Type} {R : Rep α} {A : Own} {rs : List (Raw R.sz)} {xs : List α} (o : OAll R A rs xs) : ∀ r ∈ rs, allOne r.cs = true := by
  induction o with
  | nil => intro r hr; cases hr
  | cons a _ ih =>
    intro r hr
    rcases List.mem_cons.1 hr with rfl | hr
    · exact (R.oneO a).is
    · exact ih r hr
theorem Sl.cut {α : Type} {E : Flat α} {h : PHeap} {v : Value} {xs : List α} (s : Sl h v E xs) {i : Nat} (hi : i < xs.length) : ∃ b off cap, v = .slice (some ⟨b, off, none⟩) xs.length cap ∧ xs.length ≤ cap ∧ Sl h (.slice (some ⟨b, off, none⟩) i cap) E (xs.take i) ∧ Sl h (.slice (some ⟨b, if cap = i + 1 then off else off + (i + 1) * E.sz, none⟩) (xs.length - (i + 1)) (cap - (i + 1))) E (xs.drop (i + 1)) := by
  have hs := s.small
  rcases s.reads with ⟨_, _, rfl⟩ | ⟨cap, e, hc, k⟩
  · cases hi
  · refine ⟨vb v, vo v, cap, e, hc, ⟨by simp; omega, .inr ⟨cap, by simp [vb, vo, Nat.min_eq_left (Nat.le_of_lt hi)], by simp; omega, fun j x hx => ?_⟩⟩, ?_⟩
    · have hj : j < i := by
        rcases Nat.lt_or_ge j i with y | y
        · exact y
        · rw [List.getElem?_take, if_neg (by omega)] at hx; cases hx
      rw [List.getElem?_take, if_pos hj] at hx
      exact k j x hx
    · refine ⟨by simp; omega, .inr ⟨cap - (i + 1), by simp [vb, vo], by simp; omega, fun j x hx => ?_⟩⟩
      rw [List.getElem?_drop] at hx
      have hl : i + 1 + j < xs.length := by
        rcases Nat.lt_or_ge (i + 1 + j) xs.length with y | y
        · exact y
        · rw [List.getElem?_eq_none y] at hx; cases hx
      have := k (i + 1 + j) x hx
      show Cells h ⟨vb v, (if cap = i + 1 then vo v else vo v + (i + 1) * E.sz) + j * E.sz, none⟩ (E.f x)
      rw [if_neg (by omega)]
      rw [show vo v + (i + 1) * E.sz + j * E.sz = vo v + (i + 1 + j) * E.sz by rw [Nat.add_mul (i + 1) j]; omega]
      exact this
theorem BAll.snoc {α : Type} {R : Rep α} {h : PHeap} {rs : List (Raw R.sz)} {xs : List α} {r : Raw R.sz} {x : α} (o : BAll R h rs xs) (p : R.B h r.cs x) : BAll R h (rs ++ [r]) (xs ++ [x]) := by
  induction o with
  | nil => exact .cons p .nil
  | cons a _ ih => exact .cons a ih
end Go.Sl

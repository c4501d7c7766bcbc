/- Walks of the seat: LB LC LD KE Wg FkF FkG FkH FkI FkJ FkK KF KH PA PB PC PD PE PF PG PH SA SB SC SD SI. -/
import Derived.Test.YtekjikbaefgncaaGreatOwnA
import Derived.Test.YtekjikbaefgncaaGreatLibC
import Derived.Test.YtekjikbaefgncaaGreatLibD
import Derived.Test.YtekjikbaefgncaaGreatProg
import Derived.Conc.WgLib
import Derived.KernelRfl
import Derived.Test.YtekjikbaefgncaaGreatSlK
import Derived.Test.YtekjikbaefgncaaGreatLibA
import Derived.Test.YtekjikbaefgncaaGreatSlGo
import Derived.Test.YtekjikbaefgncaaGreatSlSw
import Derived.Test.YtekjikbaefgncaaGreatSmD
import Derived.Test.YtekjikbaefgncaaGreatSlEd
import Derived.Test.YtekjikbaefgncaaGreatSmL
import Derived.Test.YtekjikbaefgncaaGreatSmS
import Derived.Test.YtekjikbaefgncaaGreatLibE
import Derived.Test.YtekjikbaefgncaaGreatSmMs
import Derived.Test.YtekjikbaefgncaaGreatSpQ
import Derived.Test.YtekjikbaefgncaaGreatSpR
import Derived.Test.YtekjikbaefgncaaGreatLibF
set_option linter.unusedVariables false
set_option linter.unusedSimpArgs false
set_option linter.unusedSectionVars false
/- Walks: what is told of all sights; sights and their light: the program's own. -/
namespace Go.Proofs.YtekjikbaefgncaaGreat
open Go Go.Sl
set_option maxRecDepth 100000
set_option maxHeartbeats 4000000
attribute [local irreducible] Go.Code.sf sfOps Opq opo retF Do1 anyO
variable {M : Jdg → Prop} [IsCl Tryz.prog M]
theorem sidesToldR_f (h : PHeap) (c : Value) (g : Grid) (s : Sl h c cellF g.cells) (hw : 1 ≤ g.wide ∧ g.wide ≤ 5) (rw' : Nat) (ww : Nat) (ew : g.wide = ww) (er : rowsOf g = rw') (hl : g.cells.length = rw' * ww) (hr : 1 ≤ rw' ∧ rw' ≤ 5) (f : FuncId) [Fun Tryz.prog f] (cap : Array Value) (St : Nat → Own) (val : Nat → Ray)
    (C : ∀ k, k < 2 * (ww + rw') → CallF Tryz.prog M f ([.int .i64 (k : Int), .agg #[.int .i64 (rayAt g (k : Nat)).at', .int .i64 (rayAt g (k : Nat)).dir]] ++ cap.toList) (St k) h fun v A => v = .agg #[.int .i64 (val k).at', .int .i64 (val k).dir] ∧ A = St (k + 1)) :
    CallF Tryz.prog M 147 [.agg #[.int .i64 g.wide, c], .func (.func f) #[] cap] (St 0) h fun v A => ∃ A', A = St (2 * (ww + rw')) ++ A' ∧ Gr A' v 140 rayF ((List.range (2 * (ww + rw'))).map val) := by
  have o1 := s.one
  have ray : ∀ (k : Nat), k < 2 * (ww + rw') → ∀ x y, rayAt g (k : Nat) = ⟨x, y⟩ → CallF Tryz.prog M f (#[].toList ++ [.int .i64 (k : Int), .agg #[.int .i64 x, .int .i64 y]] ++ cap.toList) (St k) h fun v A => v = .agg #[.int .i64 (val k).at', .int .i64 (val k).dir] ∧ A = St (k + 1) := fun k hk x y e => by
    have := C k hk
    rw [e] at this; exact this
  have step : ∀ (k : Nat) (xs : List Ray), xs.length = k → xs = (List.range k).map val → xs ++ [val k] = (List.range (k + 1)).map val := fun k xs _ e => by rw [List.range_succ, List.map_append, e]; rfl
  refine calls_of_sf Tryz.func147 rfl Tryz.ntmps147 ?_
  simp only [argsL, Nat.reduceAdd]
  repeat (first | refine R1 ?_ | (refine R2 ?_; intro _))
  refine sf_draw (by kernel_rfl) (regX_run [[], [0], [], [2], [0, 1, 2, 3], [0, 1, 2, 3, 4]] 4 [(0, false), (1, false), (2, false), (3, true)] (by kernel_rfl) (by kernel_rfl) (by kernel_rfl) ?_)
  repeat (refine Da1 ?_)
  refine a_callV (rowsOf_v h c g s hw.1) (by rfl) (by rfl) (.inl rfl) ?_
  rw [er]
  repeat (refine Da1 ?_)
  (refine a_end (by rfl) (by rfl) ?_; simp only [finA, setL, List.drop_succ_cons, List.drop_zero])
  repeat (first | refine R1 ?_ | (refine R2 ?_; intro _))
  obtain ⟨N, hN⟩ : ∃ N : Nat, 2 * (g.wide + (rw' : Int)) = N := ⟨2 * (ww + rw'), by omega⟩
  rw [hN]
  refine fp (y_make0 (by rfl) (by rfl) (by rfl) (by decide) (by omega) fun w A g0 => ?_)
  repeat (first | refine R1 ?_ | (refine R2 ?_; intro _))
  rename_i b2
  refine sf_lp (ι := Nat × Value) [1, 5, 6, 21] (fun x => [(22, .int .i64 (x.1 : Int)), (7, x.2)]) (fun x O => x.1 ≤ ww ∧ ∃ A', O = St x.1 ++ (A' ++ [(b2, .cells #[.int .i64 g.wide, c] 35)]) ∧ ∃ xs, xs.length = x.1 ∧ xs = (List.range x.1).map val ∧ Gr A' x.2 140 rayF xs) (fun x => ww - x.1) (0, w) (St 0 ++ (A ++ [(b2, .cells #[.int .i64 g.wide, c] 35)])) ⟨by omega, A, rfl, [], rfl, rfl, g0⟩ ?_
  rintro ⟨j, v⟩ O ⟨hj, A', rfl, xs, hx, ex, gr⟩
  simp only at hj hx ex gr ⊢
  subst hx
  have o2 := gr.one
  repeat (first | refine R1 ?_ | (refine R2 ?_; intro _))
  refine sf_if (fun e => ?_) fun e => ?_
  · repeat (first | refine R1 ?_ | (refine R2 ?_; intro _))
    refine fp (y_callC2 (by rfl) (by rfl) (by exact ray xs.length (by omega) xs.length 2 (by unfold rayAt; rw [if_pos (by omega)])) ?_)
    rintro _ _ ⟨rfl, rfl⟩
    repeat (first | refine R1 ?_ | (refine R2 ?_; intro _))
    refine fp (y_bs (by rfl) (by rfl) (by rfl) (by rfl) (by decide) fun u Au gu => ?_)
    repeat (first | refine R1 ?_ | (refine R2 ?_; intro _))
    refine fp (y_append (by rfl) (by rfl) gr gu (fun y _ => FlatOne.one y) (by rfl) (by rfl) (by simp; omega) (by simp; omega) fun v2 A2 g2 => ?_)
    repeat (first | refine R1 ?_ | (refine R2 ?_; intro _))
    exact ⟨(xs.length + 1, v2), by simp only; omega, ⟨rfl, rfl, trivial⟩, rfl, St (xs.length + 1) ++ (A2 ++ [(b2, .cells #[.int .i64 g.wide, c] 35)]), _, inferInstance, by simp only; omega, A2, rfl, _, by simp, step _ xs rfl ex, g2⟩
  refine sf_exit ?_
  obtain rfl : ww = xs.length := by omega
  clear g0 w A e hj
  repeat (first | refine R1 ?_ | (refine R2 ?_; intro _))
  refine sf_lp (ι := Nat × Value) [1, 5, 6, 35] (fun x => [(36, .int .i64 (x.1 : Int)), (7, x.2)]) (fun x O => x.1 ≤ rw' ∧ ∃ A', O = St (xs.length + x.1) ++ (A' ++ [(b2, .cells #[.int .i64 g.wide, c] 35)]) ∧ ∃ ys, ys.length = xs.length + x.1 ∧ ys = (List.range (xs.length + x.1)).map val ∧ Gr A' x.2 140 rayF ys) (fun x => rw' - x.1) (0, v) (St xs.length ++ (A' ++ [(b2, .cells #[.int .i64 g.wide, c] 35)])) ⟨by omega, A', rfl, xs, rfl, ex, gr⟩ ?_
  rintro ⟨j, v⟩ O ⟨hj, A', rfl, ys, hx, ey, gr⟩
  simp only at hj hx ey gr ⊢
  have o2 := gr.one
  repeat (first | refine R1 ?_ | (refine R2 ?_; intro _))
  refine sf_if (fun e => ?_) fun e => ?_
  · have hm : 0 ≤ (j : Int) * g.wide ∧ (j : Int) * g.wide ≤ 4 * 5 := ⟨Int.mul_nonneg (by omega) (by omega), Int.mul_le_mul (by omega) (by omega) (by omega) (by omega)⟩
    repeat (first | refine R1 ?_ | (refine R2 ?_; intro _))
    rw [← hx]
    refine fp (y_callC2 (by rfl) (by rfl) (by exact ray ys.length (by omega) _ 3 (by unfold rayAt; rw [if_neg (by omega), if_pos (by omega)]; exact ray_ext (by rw [show ((ys.length : Nat) : Int) - g.wide = j by omega]) rfl)) ?_)
    rintro _ _ ⟨rfl, rfl⟩
    repeat (first | refine R1 ?_ | (refine R2 ?_; intro _))
    refine fp (y_bs (by rfl) (by rfl) (by rfl) (by rfl) (by decide) fun u Au gu => ?_)
    repeat (first | refine R1 ?_ | (refine R2 ?_; intro _))
    refine fp (y_append (by rfl) (by rfl) gr gu (fun y _ => FlatOne.one y) (by rfl) (by rfl) (by simp; omega) (by simp; omega) fun v2 A2 g2 => ?_)
    repeat (first | refine R1 ?_ | (refine R2 ?_; intro _))
    exact ⟨(j + 1, v2), by simp only; omega, ⟨rfl, rfl, trivial⟩, rfl, St (ys.length + 1) ++ (A2 ++ [(b2, .cells #[.int .i64 g.wide, c] 35)]), _, inferInstance, by simp only; omega, A2, by simp only [hx]; rfl, _, by simp; omega, by rw [step _ ys rfl (by rw [hx]; exact ey), hx]; rfl, g2⟩
  refine sf_exit ?_
  obtain rfl : rw' = j := by omega
  clear e hj
  have gr' := gr
  clear gr
  have hl' : (g.cells.length : Int) = (rw' : Int) * g.wide := by rw [ew, hl, Int.natCast_mul]
  have hm0 : 0 ≤ (rw' : Int) * g.wide ∧ (rw' : Int) * g.wide ≤ 5 * 5 := ⟨Int.mul_nonneg (by omega) (by omega), Int.mul_le_mul (by omega) (by omega) (by omega) (by omega)⟩
  repeat (first | refine R1 ?_ | (refine R2 ?_; intro _))
  refine sf_lp (ι := Nat × Value) [1, 5, 6, 54] (fun x => [(55, .int .i64 (x.1 : Int)), (7, x.2)]) (fun x O => x.1 ≤ xs.length ∧ ∃ A', O = St (xs.length + rw' + x.1) ++ (A' ++ [(b2, .cells #[.int .i64 g.wide, c] 35)]) ∧ ∃ ys, ys.length = xs.length + rw' + x.1 ∧ ys = (List.range (xs.length + rw' + x.1)).map val ∧ Gr A' x.2 140 rayF ys) (fun x => xs.length - x.1) (0, v) (St (xs.length + rw') ++ (A' ++ [(b2, .cells #[.int .i64 g.wide, c] 35)])) ⟨by omega, A', rfl, ys, hx, ey, gr'⟩ ?_
  clear gr' ey hx o2 ys
  rintro ⟨j, v⟩ O ⟨hj, A', rfl, ys, hx, ey, gr⟩
  simp only at hj hx ey gr ⊢
  have o2 := gr.one
  repeat (first | refine R1 ?_ | (refine R2 ?_; intro _))
  refine sf_if (fun e => ?_) fun e => ?_
  · repeat (first | refine R1 ?_ | (refine R2 ?_; intro _))
    rw [← hx]
    refine fp (y_callC2 (by rfl) (by rfl) (by exact ray ys.length (by omega) _ 0 (by unfold rayAt; rw [if_neg (by omega), if_neg (by omega), if_pos (by omega)]; exact ray_ext (by omega) rfl)) ?_)
    rintro _ _ ⟨rfl, rfl⟩
    repeat (first | refine R1 ?_ | (refine R2 ?_; intro _))
    refine fp (y_bs (by rfl) (by rfl) (by rfl) (by rfl) (by decide) fun u Au gu => ?_)
    repeat (first | refine R1 ?_ | (refine R2 ?_; intro _))
    refine fp (y_append (by rfl) (by rfl) gr gu (fun y _ => FlatOne.one y) (by rfl) (by rfl) (by simp; omega) (by simp; omega) fun v2 A2 g2 => ?_)
    repeat (first | refine R1 ?_ | (refine R2 ?_; intro _))
    exact ⟨(j + 1, v2), by simp only; omega, ⟨rfl, rfl, trivial⟩, rfl, St (ys.length + 1) ++ (A2 ++ [(b2, .cells #[.int .i64 g.wide, c] 35)]), _, inferInstance, by simp only; omega, A2, by simp only [hx]; rfl, _, by simp; omega, by rw [step _ ys rfl (by rw [hx]; exact ey), hx]; rfl, g2⟩
  refine sf_exit ?_
  obtain rfl : xs.length = j := by omega
  clear e hj
  repeat (first | refine R1 ?_ | (refine R2 ?_; intro _))
  refine sf_lp (ι := Nat × Value) [1, 5, 6, 73] (fun x => [(74, .int .i64 (x.1 : Int)), (7, x.2)]) (fun x O => x.1 ≤ rw' ∧ ∃ A', O = St (xs.length + rw' + xs.length + x.1) ++ (A' ++ [(b2, .cells #[.int .i64 g.wide, c] 35)]) ∧ ∃ ys, ys.length = xs.length + rw' + xs.length + x.1 ∧ ys = (List.range (xs.length + rw' + xs.length + x.1)).map val ∧ Gr A' x.2 140 rayF ys) (fun x => rw' - x.1) (0, v) (St (xs.length + rw' + xs.length) ++ (A' ++ [(b2, .cells #[.int .i64 g.wide, c] 35)])) ⟨by omega, A', rfl, ys, hx, ey, gr⟩ ?_
  clear gr ey hx o2 ys
  rintro ⟨j, v⟩ O ⟨hj, A', rfl, ys, hx, ey, gr⟩
  simp only at hj hx ey gr ⊢
  have o2 := gr.one
  repeat (first | refine R1 ?_ | (refine R2 ?_; intro _))
  refine sf_if (fun e => ?_) fun e => ?_
  · have hm : 0 ≤ ((rw' : Int) - 1 - j) * g.wide ∧ ((rw' : Int) - 1 - j) * g.wide ≤ 4 * 5 := ⟨Int.mul_nonneg (by omega) (by omega), Int.mul_le_mul (by omega) (by omega) (by omega) (by omega)⟩
    have hq : ((rw' : Int) - 1 - j) * g.wide = (rw' : Int) * g.wide - g.wide - (j : Int) * g.wide := by rw [Int.sub_mul, Int.sub_mul, Int.one_mul]
    repeat (first | refine R1 ?_ | (refine R2 ?_; intro _))
    rw [← hx]
    refine fp (y_callC2 (by rfl) (by rfl) (by exact ray ys.length (by omega) _ 1 (by unfold rayAt; rw [if_neg (by omega), if_neg (by omega), if_neg (by omega)]; exact ray_ext (by rw [hl', hq, show ((ys.length : Nat) : Int) - g.wide - rowsOf g - g.wide = j by omega]) rfl)) ?_)
    rintro _ _ ⟨rfl, rfl⟩
    repeat (first | refine R1 ?_ | (refine R2 ?_; intro _))
    refine fp (y_bs (by rfl) (by rfl) (by rfl) (by rfl) (by decide) fun u Au gu => ?_)
    repeat (first | refine R1 ?_ | (refine R2 ?_; intro _))
    refine fp (y_append (by rfl) (by rfl) gr gu (fun y _ => FlatOne.one y) (by rfl) (by rfl) (by simp; omega) (by simp; omega) fun v2 A2 g2 => ?_)
    repeat (first | refine R1 ?_ | (refine R2 ?_; intro _))
    exact ⟨(j + 1, v2), by simp only; omega, ⟨rfl, rfl, trivial⟩, rfl, St (ys.length + 1) ++ (A2 ++ [(b2, .cells #[.int .i64 g.wide, c] 35)]), _, inferInstance, by simp only; omega, A2, by simp only [hx]; rfl, _, by simp; omega, by rw [step _ ys rfl (by rw [hx]; exact ey), hx]; rfl, g2⟩
  refine sf_exit ?_
  obtain rfl : rw' = j := by omega
  repeat (first | refine R1 ?_ | (refine R2 ?_; intro _))
  have eN : 2 * (xs.length + rw') = xs.length + rw' + xs.length + rw' := by omega
  exact sf_ret (rO (St (xs.length + rw' + xs.length + rw') ++ A') ⟨A', by rw [eN], by rw [eN, ← ey]; exact gr⟩)
theorem sidesToldB_f (h : PHeap) (c : Value) (g : Grid) (s : Sl h c cellF g.cells) (hw : 1 ≤ g.wide ∧ g.wide ≤ 5) (rw' : Nat) (ww : Nat) (ew : g.wide = ww) (er : rowsOf g = rw') (hl : g.cells.length = rw' * ww) (hr : 1 ≤ rw' ∧ rw' ≤ 5) (f : FuncId) [Fun Tryz.prog f] (cap : Array Value) (St : Nat → Own) (val : Nat → Bool)
    (C : ∀ k, k < 2 * (ww + rw') → CallF Tryz.prog M f ([.int .i64 (k : Int), .agg #[.int .i64 (rayAt g (k : Nat)).at', .int .i64 (rayAt g (k : Nat)).dir]] ++ cap.toList) (St k) h fun v A => v = .bool (val k) ∧ A = St (k + 1)) :
    CallF Tryz.prog M 181 [.agg #[.int .i64 g.wide, c], .func (.func f) #[] cap] (St 0) h fun v A => ∃ A', A = St (2 * (ww + rw')) ++ A' ∧ Gr A' v 4 boolF ((List.range (2 * (ww + rw'))).map val) := by
  have o1 := s.one
  have ray : ∀ (k : Nat), k < 2 * (ww + rw') → ∀ x y, rayAt g (k : Nat) = ⟨x, y⟩ → CallF Tryz.prog M f (#[].toList ++ [.int .i64 (k : Int), .agg #[.int .i64 x, .int .i64 y]] ++ cap.toList) (St k) h fun v A => v = .bool (val k) ∧ A = St (k + 1) := fun k hk x y e => by
    have := C k hk
    rw [e] at this; exact this
  have step : ∀ (k : Nat) (xs : List Bool), xs.length = k → xs = (List.range k).map val → xs ++ [val k] = (List.range (k + 1)).map val := fun k xs _ e => by rw [List.range_succ, List.map_append, e]; rfl
  refine calls_of_sf Tryz.func181 rfl Tryz.ntmps181 ?_
  simp only [argsL, Nat.reduceAdd]
  repeat (first | refine R1 ?_ | (refine R2 ?_; intro _))
  refine sf_draw (by kernel_rfl) (regX_run [[], [0], [], [2], [0, 1, 2, 3], [0, 1, 2, 3, 4]] 4 [(0, false), (1, false), (2, false), (3, true)] (by kernel_rfl) (by kernel_rfl) (by kernel_rfl) ?_)
  repeat (refine Da1 ?_)
  refine a_callV (rowsOf_v h c g s hw.1) (by rfl) (by rfl) (.inl rfl) ?_
  rw [er]
  repeat (refine Da1 ?_)
  (refine a_end (by rfl) (by rfl) ?_; simp only [finA, setL, List.drop_succ_cons, List.drop_zero])
  repeat (first | refine R1 ?_ | (refine R2 ?_; intro _))
  obtain ⟨N, hN⟩ : ∃ N : Nat, 2 * (g.wide + (rw' : Int)) = N := ⟨2 * (ww + rw'), by omega⟩
  rw [hN]
  refine fp (y_make0 (by rfl) (by rfl) (by rfl) (by decide) (by omega) fun w A g0 => ?_)
  repeat (first | refine R1 ?_ | (refine R2 ?_; intro _))
  rename_i b2
  refine sf_lp (ι := Nat × Value) [1, 5, 6, 21] (fun x => [(22, .int .i64 (x.1 : Int)), (7, x.2)]) (fun x O => x.1 ≤ ww ∧ ∃ A', O = St x.1 ++ (A' ++ [(b2, .cells #[.int .i64 g.wide, c] 35)]) ∧ ∃ xs, xs.length = x.1 ∧ xs = (List.range x.1).map val ∧ Gr A' x.2 4 boolF xs) (fun x => ww - x.1) (0, w) (St 0 ++ (A ++ [(b2, .cells #[.int .i64 g.wide, c] 35)])) ⟨by omega, A, rfl, [], rfl, rfl, g0⟩ ?_
  rintro ⟨j, v⟩ O ⟨hj, A', rfl, xs, hx, ex, gr⟩
  simp only at hj hx ex gr ⊢
  subst hx
  have o2 := gr.one
  repeat (first | refine R1 ?_ | (refine R2 ?_; intro _))
  refine sf_if (fun e => ?_) fun e => ?_
  · repeat (first | refine R1 ?_ | (refine R2 ?_; intro _))
    refine fp (y_callC2 (by rfl) (by rfl) (by exact ray xs.length (by omega) xs.length 2 (by unfold rayAt; rw [if_pos (by omega)])) ?_)
    rintro _ _ ⟨rfl, rfl⟩
    repeat (first | refine R1 ?_ | (refine R2 ?_; intro _))
    refine fp (y_bs (by rfl) (by rfl) (by rfl) (by rfl) (by decide) fun u Au gu => ?_)
    repeat (first | refine R1 ?_ | (refine R2 ?_; intro _))
    refine fp (y_append (by rfl) (by rfl) gr gu (fun y _ => FlatOne.one y) (by rfl) (by rfl) (by simp; omega) (by simp; omega) fun v2 A2 g2 => ?_)
    repeat (first | refine R1 ?_ | (refine R2 ?_; intro _))
    exact ⟨(xs.length + 1, v2), by simp only; omega, ⟨rfl, rfl, trivial⟩, rfl, St (xs.length + 1) ++ (A2 ++ [(b2, .cells #[.int .i64 g.wide, c] 35)]), _, inferInstance, by simp only; omega, A2, rfl, _, by simp, step _ xs rfl ex, g2⟩
  refine sf_exit ?_
  obtain rfl : ww = xs.length := by omega
  clear g0 w A e hj
  repeat (first | refine R1 ?_ | (refine R2 ?_; intro _))
  refine sf_lp (ι := Nat × Value) [1, 5, 6, 35] (fun x => [(36, .int .i64 (x.1 : Int)), (7, x.2)]) (fun x O => x.1 ≤ rw' ∧ ∃ A', O = St (xs.length + x.1) ++ (A' ++ [(b2, .cells #[.int .i64 g.wide, c] 35)]) ∧ ∃ ys, ys.length = xs.length + x.1 ∧ ys = (List.range (xs.length + x.1)).map val ∧ Gr A' x.2 4 boolF ys) (fun x => rw' - x.1) (0, v) (St xs.length ++ (A' ++ [(b2, .cells #[.int .i64 g.wide, c] 35)])) ⟨by omega, A', rfl, xs, rfl, ex, gr⟩ ?_
  rintro ⟨j, v⟩ O ⟨hj, A', rfl, ys, hx, ey, gr⟩
  simp only at hj hx ey gr ⊢
  have o2 := gr.one
  repeat (first | refine R1 ?_ | (refine R2 ?_; intro _))
  refine sf_if (fun e => ?_) fun e => ?_
  · have hm : 0 ≤ (j : Int) * g.wide ∧ (j : Int) * g.wide ≤ 4 * 5 := ⟨Int.mul_nonneg (by omega) (by omega), Int.mul_le_mul (by omega) (by omega) (by omega) (by omega)⟩
    repeat (first | refine R1 ?_ | (refine R2 ?_; intro _))
    rw [← hx]
    refine fp (y_callC2 (by rfl) (by rfl) (by exact ray ys.length (by omega) _ 3 (by unfold rayAt; rw [if_neg (by omega), if_pos (by omega)]; exact ray_ext (by rw [show ((ys.length : Nat) : Int) - g.wide = j by omega]) rfl)) ?_)
    rintro _ _ ⟨rfl, rfl⟩
    repeat (first | refine R1 ?_ | (refine R2 ?_; intro _))
    refine fp (y_bs (by rfl) (by rfl) (by rfl) (by rfl) (by decide) fun u Au gu => ?_)
    repeat (first | refine R1 ?_ | (refine R2 ?_; intro _))
    refine fp (y_append (by rfl) (by rfl) gr gu (fun y _ => FlatOne.one y) (by rfl) (by rfl) (by simp; omega) (by simp; omega) fun v2 A2 g2 => ?_)
    repeat (first | refine R1 ?_ | (refine R2 ?_; intro _))
    exact ⟨(j + 1, v2), by simp only; omega, ⟨rfl, rfl, trivial⟩, rfl, St (ys.length + 1) ++ (A2 ++ [(b2, .cells #[.int .i64 g.wide, c] 35)]), _, inferInstance, by simp only; omega, A2, by simp only [hx]; rfl, _, by simp; omega, by rw [step _ ys rfl (by rw [hx]; exact ey), hx]; rfl, g2⟩
  refine sf_exit ?_
  obtain rfl : rw' = j := by omega
  clear e hj
  have gr' := gr
  clear gr
  have hl' : (g.cells.length : Int) = (rw' : Int) * g.wide := by rw [ew, hl, Int.natCast_mul]
  have hm0 : 0 ≤ (rw' : Int) * g.wide ∧ (rw' : Int) * g.wide ≤ 5 * 5 := ⟨Int.mul_nonneg (by omega) (by omega), Int.mul_le_mul (by omega) (by omega) (by omega) (by omega)⟩
  repeat (first | refine R1 ?_ | (refine R2 ?_; intro _))
  refine sf_lp (ι := Nat × Value) [1, 5, 6, 54] (fun x => [(55, .int .i64 (x.1 : Int)), (7, x.2)]) (fun x O => x.1 ≤ xs.length ∧ ∃ A', O = St (xs.length + rw' + x.1) ++ (A' ++ [(b2, .cells #[.int .i64 g.wide, c] 35)]) ∧ ∃ ys, ys.length = xs.length + rw' + x.1 ∧ ys = (List.range (xs.length + rw' + x.1)).map val ∧ Gr A' x.2 4 boolF ys) (fun x => xs.length - x.1) (0, v) (St (xs.length + rw') ++ (A' ++ [(b2, .cells #[.int .i64 g.wide, c] 35)])) ⟨by omega, A', rfl, ys, hx, ey, gr'⟩ ?_
  clear gr' ey hx o2 ys
  rintro ⟨j, v⟩ O ⟨hj, A', rfl, ys, hx, ey, gr⟩
  simp only at hj hx ey gr ⊢
  have o2 := gr.one
  repeat (first | refine R1 ?_ | (refine R2 ?_; intro _))
  refine sf_if (fun e => ?_) fun e => ?_
  · repeat (first | refine R1 ?_ | (refine R2 ?_; intro _))
    rw [← hx]
    refine fp (y_callC2 (by rfl) (by rfl) (by exact ray ys.length (by omega) _ 0 (by unfold rayAt; rw [if_neg (by omega), if_neg (by omega), if_pos (by omega)]; exact ray_ext (by omega) rfl)) ?_)
    rintro _ _ ⟨rfl, rfl⟩
    repeat (first | refine R1 ?_ | (refine R2 ?_; intro _))
    refine fp (y_bs (by rfl) (by rfl) (by rfl) (by rfl) (by decide) fun u Au gu => ?_)
    repeat (first | refine R1 ?_ | (refine R2 ?_; intro _))
    refine fp (y_append (by rfl) (by rfl) gr gu (fun y _ => FlatOne.one y) (by rfl) (by rfl) (by simp; omega) (by simp; omega) fun v2 A2 g2 => ?_)
    repeat (first | refine R1 ?_ | (refine R2 ?_; intro _))
    exact ⟨(j + 1, v2), by simp only; omega, ⟨rfl, rfl, trivial⟩, rfl, St (ys.length + 1) ++ (A2 ++ [(b2, .cells #[.int .i64 g.wide, c] 35)]), _, inferInstance, by simp only; omega, A2, by simp only [hx]; rfl, _, by simp; omega, by rw [step _ ys rfl (by rw [hx]; exact ey), hx]; rfl, g2⟩
  refine sf_exit ?_
  obtain rfl : xs.length = j := by omega
  clear e hj
  repeat (first | refine R1 ?_ | (refine R2 ?_; intro _))
  refine sf_lp (ι := Nat × Value) [1, 5, 6, 73] (fun x => [(74, .int .i64 (x.1 : Int)), (7, x.2)]) (fun x O => x.1 ≤ rw' ∧ ∃ A', O = St (xs.length + rw' + xs.length + x.1) ++ (A' ++ [(b2, .cells #[.int .i64 g.wide, c] 35)]) ∧ ∃ ys, ys.length = xs.length + rw' + xs.length + x.1 ∧ ys = (List.range (xs.length + rw' + xs.length + x.1)).map val ∧ Gr A' x.2 4 boolF ys) (fun x => rw' - x.1) (0, v) (St (xs.length + rw' + xs.length) ++ (A' ++ [(b2, .cells #[.int .i64 g.wide, c] 35)])) ⟨by omega, A', rfl, ys, hx, ey, gr⟩ ?_
  clear gr ey hx o2 ys
  rintro ⟨j, v⟩ O ⟨hj, A', rfl, ys, hx, ey, gr⟩
  simp only at hj hx ey gr ⊢
  have o2 := gr.one
  repeat (first | refine R1 ?_ | (refine R2 ?_; intro _))
  refine sf_if (fun e => ?_) fun e => ?_
  · have hm : 0 ≤ ((rw' : Int) - 1 - j) * g.wide ∧ ((rw' : Int) - 1 - j) * g.wide ≤ 4 * 5 := ⟨Int.mul_nonneg (by omega) (by omega), Int.mul_le_mul (by omega) (by omega) (by omega) (by omega)⟩
    have hq : ((rw' : Int) - 1 - j) * g.wide = (rw' : Int) * g.wide - g.wide - (j : Int) * g.wide := by rw [Int.sub_mul, Int.sub_mul, Int.one_mul]
    repeat (first | refine R1 ?_ | (refine R2 ?_; intro _))
    rw [← hx]
    refine fp (y_callC2 (by rfl) (by rfl) (by exact ray ys.length (by omega) _ 1 (by unfold rayAt; rw [if_neg (by omega), if_neg (by omega), if_neg (by omega)]; exact ray_ext (by rw [hl', hq, show ((ys.length : Nat) : Int) - g.wide - rowsOf g - g.wide = j by omega]) rfl)) ?_)
    rintro _ _ ⟨rfl, rfl⟩
    repeat (first | refine R1 ?_ | (refine R2 ?_; intro _))
    refine fp (y_bs (by rfl) (by rfl) (by rfl) (by rfl) (by decide) fun u Au gu => ?_)
    repeat (first | refine R1 ?_ | (refine R2 ?_; intro _))
    refine fp (y_append (by rfl) (by rfl) gr gu (fun y _ => FlatOne.one y) (by rfl) (by rfl) (by simp; omega) (by simp; omega) fun v2 A2 g2 => ?_)
    repeat (first | refine R1 ?_ | (refine R2 ?_; intro _))
    exact ⟨(j + 1, v2), by simp only; omega, ⟨rfl, rfl, trivial⟩, rfl, St (ys.length + 1) ++ (A2 ++ [(b2, .cells #[.int .i64 g.wide, c] 35)]), _, inferInstance, by simp only; omega, A2, by simp only [hx]; rfl, _, by simp; omega, by rw [step _ ys rfl (by rw [hx]; exact ey), hx]; rfl, g2⟩
  refine sf_exit ?_
  obtain rfl : rw' = j := by omega
  repeat (first | refine R1 ?_ | (refine R2 ?_; intro _))
  have eN : 2 * (xs.length + rw') = xs.length + rw' + xs.length + rw' := by omega
  exact sf_ret (rO (St (xs.length + rw' + xs.length + rw') ++ A') ⟨A', by rw [eN], by rw [eN, ← ey]; exact gr⟩)
def sightMany (g : Grid) : Int := if gridOk g = true then manyOf g else 0
theorem sightMany_v (h : PHeap) (ca : List Value) (g : Grid) (b : (gridR τ).B h ca g) : CallV Tryz.prog M 85 [.agg ca.toArray] h (.int .i64 (sightMany g)) := by
  obtain ⟨c, rfl, s⟩ := gridB b
  have o1 := s.one
  refine calls_of_sf Tryz.func85 rfl Tryz.ntmps85 ?_
  simp only [argsL, Nat.reduceAdd]
  repeat (first | refine R1 ?_ | (refine R2 ?_; intro _))
  refine fp (y_callV (gridOk_v _ _ g b) (by rfl) ?_)
  repeat (first | refine R1 ?_ | (refine R2 ?_; intro _))
  refine sf_cond (by rfl) (fun e => ?_) fun e => ?_
  · repeat (first | refine R1 ?_ | (refine R2 ?_; intro _))
    simp only [Bool.not_eq_true'] at e
    refine sf_ret (rV ?_)
    simp [sightMany, e]
  · simp only [Bool.not_eq_false'] at e
    have k := gok e
    have h1 := k.w1; have h2 := k.w5; have h3 := k.r1; have h4 := k.r5
    repeat (first | refine R1 ?_ | (refine R2 ?_; intro _))
    refine sf_draw (by kernel_rfl) (regX_run [[], [0], [], [2], [0, 1, 2, 3], [0, 1, 2, 3, 4], [0, 1, 2, 3, 4, 5]] 4 [(0, false), (1, false), (2, false), (3, true)] (by kernel_rfl) (by kernel_rfl) (by kernel_rfl) ?_)
    repeat (refine Da1 ?_)
    refine a_callV (rowsOf_v h c g s h1) (by rfl) (by rfl) (.inl rfl) ?_
    repeat (refine Da1 ?_)
    (refine a_end (by rfl) (by rfl) ?_; simp only [finA, setL, List.drop_succ_cons, List.drop_zero])
    repeat (first | refine R1 ?_ | (refine R2 ?_; intro _))
    refine sf_ret (rV ?_)
    simp [sightMany, e, manyOf]
def sightRayV (g : Grid) (k : Int) : Value := if 0 ≤ k ∧ k < sightMany g then .tuple #[.agg #[.int .i64 (rayAt g k).at', .int .i64 (rayAt g k).dir], .bool true] else .tuple #[.agg #[.int .i64 0, .int .i64 0], .bool false]
theorem sightRay1_v (h : PHeap) (k a d : Int) : CallV Tryz.prog M 148 [.int .i64 k, .agg #[.int .i64 a, .int .i64 d]] h (.agg #[.int .i64 a, .int .i64 d]) := by
  refine calls_of_sf Tryz.func148 rfl Tryz.ntmps148 ?_
  simp only [argsL, Nat.reduceAdd]
  repeat (first | refine R1 ?_ | (refine R2 ?_; intro _))
  exact sf_ret (rV rfl)
theorem sightRay_v (h : PHeap) (ca : List Value) (g : Grid) (b : (gridR τ).B h ca g) (k : Int) : CallV Tryz.prog M 116 [.agg ca.toArray, .int .i64 k] h (sightRayV g k) := by
  obtain ⟨c, rfl, s⟩ := gridB b
  have o1 := s.one
  refine calls_of_sf Tryz.func116 rfl Tryz.ntmps116 ?_
  simp only [argsL, Nat.reduceAdd]
  repeat (first | refine R1 ?_ | (refine R2 ?_; intro _))
  refine f_split (fun h1 => ?_) fun h1 => ?_
  · repeat (first | refine R1 ?_ | (refine R2 ?_; intro _))
    refine sf_T rfl ?_
    repeat (first | refine R1 ?_ | (refine R2 ?_; intro _))
    refine sf_ret (rV ?_)
    rw [sightRayV, if_neg (by omega)]
  repeat (first | refine R1 ?_ | (refine R2 ?_; intro _))
  refine fp (y_callV (sightMany_v _ _ g b) (by rfl) ?_)
  repeat (first | refine R1 ?_ | (refine R2 ?_; intro _))
  refine sf_if (fun h2 => ?_) fun h2 => ?_
  · repeat (first | refine R1 ?_ | (refine R2 ?_; intro _))
    refine sf_ret (rV ?_)
    rw [sightRayV, if_neg (by omega)]
  have hk : 0 ≤ k ∧ k < sightMany g := by omega
  obtain ⟨n, rfl⟩ : ∃ n : Nat, k = n := ⟨k.toNat, by omega⟩
  have e : gridOk g = true := by
    cases e : gridOk g with
    | true => rfl
    | false => simp [sightMany, e] at hk; omega
  have kg := gok e
  have w1 := kg.w1; have w5 := kg.w5; have r1 := kg.r1; have r5 := kg.r5
  have em : sightMany g = manyOf g := by rw [sightMany, if_pos e]
  obtain ⟨ww, ew⟩ : ∃ ww : Nat, g.wide = ww := ⟨g.wide.toNat, by omega⟩
  obtain ⟨rr, er⟩ : ∃ rr : Nat, rowsOf g = rr := ⟨(rowsOf g).toNat, by omega⟩
  have hl : g.cells.length = rr * ww := by
    have := kg.len
    rw [er, ew] at this
    exact_mod_cast this
  have hm : n < 2 * (ww + rr) := by
    rw [em, manyOf, er, ew] at hk; omega
  repeat (first | refine R1 ?_ | (refine R2 ?_; intro _))
  refine fp (y_call (sidesToldR_f h c g s ⟨w1, w5⟩ rr ww ew er hl ⟨by omega, by omega⟩ 148 #[] (fun _ => []) (fun k : Nat => rayAt g (k : Nat)) (fun k hk => sightRay1_v h _ _ _)) (by rfl) ?_)
  rintro v _ ⟨A', rfl, gr⟩
  have gx : gt ((List.range (2 * (ww + rr))).map fun k : Nat => rayAt g (k : Nat)) n = rayAt g n := by
    rw [gt_eq (by simp; omega)]; simp
  have lx : ((List.range (2 * (ww + rr))).map fun k : Nat => rayAt g (k : Nat)).length = 2 * (ww + rr) := by simp
  generalize ((List.range (2 * (ww + rr))).map fun k : Nat => rayAt g (k : Nat)) = xs at gr gx lx
  have o2 := gr.one
  repeat (first | refine R1 ?_ | (refine R2 ?_; intro _))
  refine sf_ret (rV ?_)
  rw [gx, sightRayV, if_pos hk]
def foundAt (p : Nat → Bool) : Nat → Int
  | 0 => -1
  | k + 1 => if p k = true then k else foundAt p k
theorem foundAt_is {g : Grid} {R : Int} (k : Gok g R) {a d : Int} (N : Nat) (hN : manyOf g = N) : foundAt (fun k => decide (rayAt g (k : Nat) = ⟨a, (d + 2) % 4⟩)) N = sightOf g a d := by
  have key : ∀ n : Nat, n ≤ N → ((∃ i : Nat, i < n ∧ rayAt g (i : Nat) = ⟨a, (d + 2) % 4⟩ ∧ foundAt (fun k => decide (rayAt g (k : Nat) = ⟨a, (d + 2) % 4⟩)) n = i) ∨ ((∀ i : Nat, i < n → rayAt g (i : Nat) ≠ ⟨a, (d + 2) % 4⟩) ∧ foundAt (fun k => decide (rayAt g (k : Nat) = ⟨a, (d + 2) % 4⟩)) n = -1)) := by
    intro n
    induction n with
    | zero => intro _; exact .inr ⟨fun i hi => absurd hi (by omega), rfl⟩
    | succ n ih =>
      intro hn
      by_cases e : rayAt g (n : Nat) = ⟨a, (d + 2) % 4⟩
      · exact .inl ⟨n, by omega, e, by simp [foundAt, e]⟩
      · rcases ih (by omega) with ⟨i, h1, h2, h3⟩ | ⟨h1, h2⟩
        · exact .inl ⟨i, by omega, h2, by simp only [foundAt, e, decide_false, Bool.false_eq_true, if_false]; exact h3⟩
        · refine .inr ⟨fun i hi => ?_, by simp only [foundAt, e, decide_false, Bool.false_eq_true, if_false]; exact h2⟩
          rcases Nat.lt_or_ge i n with h | h
          · exact h1 i h
          · obtain rfl : i = n := by omega
            exact e
  rcases key N (Nat.le_refl _) with ⟨i, h1, h2, h3⟩ | ⟨h1, h2⟩
  · rw [h3, sightOf_some k (by omega) (by omega) h2]
  · rw [h2, sightOf_none fun i i0 i1 => ?_]
    have := h1 i.toNat (by omega)
    rwa [Int.toNat_of_nonneg i0] at this
theorem sightOf1_f (h : PHeap) (k a d x y f : Int) (b1 b2 : Nat) : CallF Tryz.prog M 182 [.int .i64 k, .agg #[.int .i64 a, .int .i64 d], .pointer (some ⟨b1, 0, none⟩), .pointer (some ⟨b2, 0, none⟩)] [(b1, .cells #[.int .i64 x, .int .i64 y] 140), (b2, .cells #[.int .i64 f] 3)] h fun v A => v = .bool (decide ((⟨a, d⟩ : Ray) = ⟨x, y⟩)) ∧ A = [(b1, .cells #[.int .i64 x, .int .i64 y] 140), (b2, .cells #[.int .i64 (if (⟨a, d⟩ : Ray) = ⟨x, y⟩ then k else f)] 3)] := by
  refine calls_of_sf Tryz.func182 rfl Tryz.ntmps182 ?_
  simp only [argsL, Nat.reduceAdd]
  repeat (first | refine R1 ?_ | (refine R2 ?_; intro _))
  refine fp (Rq ?_ (q_eqS (E := rayF) (a := ⟨a, d⟩) (b := ⟨x, y⟩) inferInstance (by rfl) (by rfl)))
  repeat (first | refine R1 ?_ | (refine R2 ?_; intro _))
  refine sf_if (fun e => ?_) fun e => ?_
  · repeat (first | refine R1 ?_ | (refine R2 ?_; intro _))
    refine fp (Rq ?_ (q_eqS (E := rayF) (a := ⟨a, d⟩) (b := ⟨x, y⟩) inferInstance (by rfl) (by rfl)))
    repeat (first | refine R1 ?_ | (refine R2 ?_; intro _))
    exact sf_ret (rO [(b1, .cells #[.int .i64 x, .int .i64 y] 140), (b2, .cells #[.int .i64 k] 3)] ⟨rfl, by rw [if_pos e]⟩)
  · repeat (first | refine R1 ?_ | (refine R2 ?_; intro _))
    refine fp (Rq ?_ (q_eqS (E := rayF) (a := ⟨a, d⟩) (b := ⟨x, y⟩) inferInstance (by rfl) (by rfl)))
    repeat (first | refine R1 ?_ | (refine R2 ?_; intro _))
    exact sf_ret (rO [(b1, .cells #[.int .i64 x, .int .i64 y] 140), (b2, .cells #[.int .i64 f] 3)] ⟨rfl, by rw [if_neg e]⟩)
theorem sightOf_v (h : PHeap) (ca : List Value) (g : Grid) (b : (gridR τ).B h ca g) (e : gridOk g = true) (a d : Int) (hd : 0 ≤ d ∧ d ≤ 3) : CallV Tryz.prog M 155 [.agg ca.toArray, .int .i64 a, .int .i64 d] h (.int .i64 (sightOf g a d)) := by
  obtain ⟨c, rfl, s⟩ := gridB b
  have o1 := s.one
  have kg := gok e
  have w1 := kg.w1; have w5 := kg.w5; have r1 := kg.r1; have r5 := kg.r5
  obtain ⟨ww, ew⟩ : ∃ ww : Nat, g.wide = ww := ⟨g.wide.toNat, by omega⟩
  obtain ⟨rr, er⟩ : ∃ rr : Nat, rowsOf g = rr := ⟨(rowsOf g).toNat, by omega⟩
  have hl : g.cells.length = rr * ww := by
    have := kg.len
    rw [er, ew] at this
    exact_mod_cast this
  have hN : manyOf g = (2 * (ww + rr) : Nat) := by
    rw [manyOf, er, ew]; omega
  refine calls_of_sf Tryz.func155 rfl Tryz.ntmps155 ?_
  simp only [argsL, Nat.reduceAdd]
  repeat (first | refine R1 ?_ | (refine R2 ?_; intro _))
  refine fp (y_callV (gridOk_v _ _ g b) (by rfl) ?_)
  rw [e]
  repeat (first | refine R1 ?_ | (refine R2 ?_; intro _))
  refine fp (y_callV (dirOk_v _ _) (by rfl) ?_)
  rw [show (decide (0 ≤ d) && decide (d ≤ 3)) = true by simp; omega]
  repeat (first | refine R1 ?_ | (refine R2 ?_; intro _))
  refine sf_cond (by rfl) (fun e => by cases e) fun z1 => ?_
  clear z1
  repeat (first | refine R1 ?_ | (refine R2 ?_; intro _))
  refine fp (y_callV (dirOpposite_v _ _ hd.1 hd.2) (by rfl) ?_)
  repeat (first | refine R1 ?_ | (refine R2 ?_; intro _))
  rename_i b1 b2 b3
  refine fp (y_call (A := [(b2, .cells #[.int .i64 a, .int .i64 ((d + 2) % 4)] 140), (b3, .cells #[.int .i64 (-1)] 3)]) (sidesToldB_f h c g s ⟨w1, w5⟩ rr ww ew er hl ⟨by omega, by omega⟩ 182 #[.pointer (some ⟨b2, 0, none⟩), .pointer (some ⟨b3, 0, none⟩)] (fun k => [(b2, .cells #[.int .i64 a, .int .i64 ((d + 2) % 4)] 140), (b3, .cells #[.int .i64 (foundAt (fun k => decide (rayAt g (k : Nat) = ⟨a, (d + 2) % 4⟩)) k)] 3)]) (fun k => decide (rayAt g (k : Nat) = ⟨a, (d + 2) % 4⟩)) (fun k hk => (sightOf1_f h _ _ _ a ((d + 2) % 4) _ b2 b3).to ?_)) (by rfl) ?_)
  · rintro v O ⟨rfl, rfl⟩
    refine ⟨rfl, ?_⟩
    simp only [foundAt, decide_eq_true_eq]
  rintro v _ ⟨A', rfl, gr⟩
  rw [foundAt_is kg _ hN]
  repeat (first | refine R1 ?_ | (refine R2 ?_; intro _))
  exact sf_ret (rV rfl)
end Go.Proofs.YtekjikbaefgncaaGreat

/- Walks: the light of a sight, followed: the program's own. -/
namespace Go.Proofs.YtekjikbaefgncaaGreat
open Go Go.Sl
set_option maxRecDepth 100000
set_option maxHeartbeats 4000000
attribute [local irreducible] Go.Code.sf sfOps Opq opo retF Do1 anyO
variable {M : Jdg → Prop} [IsCl Tryz.prog M]
theorem spreadPass_v (h : PHeap) (w : Int) : CallV Tryz.prog M 149 [.int .i64 w] h (.agg #[.int .i64 w, .int .i64 0, .int .i64 0, .int .i64 0]) := by
  refine calls_of_sf Tryz.func149 rfl Tryz.ntmps149 ?_
  simp only [argsL, Nat.reduceAdd]
  repeat (first | refine R1 ?_ | (refine R2 ?_; intro _))
  exact sf_ret (rV rfl)
theorem spreadTurn_v (h : PHeap) (w : Int) : CallV Tryz.prog M 150 [.int .i64 w] h (.agg #[.int .i64 0, .int .i64 w, .int .i64 0, .int .i64 0]) := by
  refine calls_of_sf Tryz.func150 rfl Tryz.ntmps150 ?_
  simp only [argsL, Nat.reduceAdd]
  repeat (first | refine R1 ?_ | (refine R2 ?_; intro _))
  exact sf_ret (rV rfl)
theorem spreadStop_v (h : PHeap) (w : Int) : CallV Tryz.prog M 151 [.int .i64 w] h (.agg #[.int .i64 0, .int .i64 0, .int .i64 0, .int .i64 w]) := by
  refine calls_of_sf Tryz.func151 rfl Tryz.ntmps151 ?_
  simp only [argsL, Nat.reduceAdd]
  repeat (first | refine R1 ?_ | (refine R2 ?_; intro _))
  exact sf_ret (rV rfl)
theorem spreadSplit_v (h : PHeap) (w : Int) (hw : 0 ≤ w ∧ w ≤ 64) : CallV Tryz.prog M 152 [.int .i64 w] h (.agg #[.int .i64 (w / 2), .int .i64 (w / 2), .int .i64 (w - w / 2 - w / 2), .int .i64 0]) := by
  refine calls_of_sf Tryz.func152 rfl Tryz.ntmps152 ?_
  simp only [argsL, Nat.reduceAdd]
  repeat (first | refine R1 ?_ | (refine R2 ?_; intro _))
  exact sf_ret (rV rfl)
theorem spreadDim_v (h : PHeap) (w : Int) (hw : 0 ≤ w ∧ w ≤ 64) : CallV Tryz.prog M 153 [.int .i64 w] h (.agg #[.int .i64 (w / 2), .int .i64 0, .int .i64 (w - w / 2), .int .i64 0]) := by
  refine calls_of_sf Tryz.func153 rfl Tryz.ntmps153 ?_
  simp only [argsL, Nat.reduceAdd]
  repeat (first | refine R1 ?_ | (refine R2 ?_; intro _))
  exact sf_ret (rV rfl)
def spreadV (s : Spread) : Value := .agg #[.int .i64 s.pass, .int .i64 s.turn, .int .i64 s.lost, .int .i64 s.stop]
theorem spreadOf_v (h : PHeap) (k w : Int) (hk : 0 ≤ k ∧ k ≤ 7) (hw : 0 ≤ w ∧ w ≤ 64) : CallV Tryz.prog M 118 [.int .i64 k, .int .i64 w] h (spreadV (spread k w)) := by
  obtain ⟨n, rfl⟩ : ∃ n : Nat, k = n := ⟨k.toNat, by omega⟩
  have hn : n = 0 ∨ n = 1 ∨ n = 2 ∨ n = 3 ∨ n = 4 ∨ n = 5 ∨ n = 6 ∨ n = 7 := by omega
  refine calls_of_sf Tryz.func118 rfl Tryz.ntmps118 ?_
  simp only [argsL, Nat.reduceAdd]
  repeat (first | refine R1 ?_ | (refine R2 ?_; intro _))
  rcases hn with rfl | rfl | rfl | rfl | rfl | rfl | rfl | rfl
  · repeat (first | refine R1 ?_ | (refine R2 ?_; intro _))
    refine fp (y_callC2 (by rfl) (by rfl) (by exact spreadPass_v h w) ?_)
    rintro _ _ ⟨rfl, rfl⟩
    repeat (first | refine R1 ?_ | (refine R2 ?_; intro _))
    exact sf_ret (rV rfl)
  · repeat (first | refine R1 ?_ | (refine R2 ?_; intro _))
    refine fp (y_callC2 (by rfl) (by rfl) (by exact spreadStop_v h w) ?_)
    rintro _ _ ⟨rfl, rfl⟩
    repeat (first | refine R1 ?_ | (refine R2 ?_; intro _))
    exact sf_ret (rV rfl)
  · repeat (first | refine R1 ?_ | (refine R2 ?_; intro _))
    refine fp (y_callC2 (by rfl) (by rfl) (by exact spreadTurn_v h w) ?_)
    rintro _ _ ⟨rfl, rfl⟩
    repeat (first | refine R1 ?_ | (refine R2 ?_; intro _))
    exact sf_ret (rV rfl)
  · repeat (first | refine R1 ?_ | (refine R2 ?_; intro _))
    refine fp (y_callC2 (by rfl) (by rfl) (by exact spreadTurn_v h w) ?_)
    rintro _ _ ⟨rfl, rfl⟩
    repeat (first | refine R1 ?_ | (refine R2 ?_; intro _))
    exact sf_ret (rV rfl)
  · repeat (first | refine R1 ?_ | (refine R2 ?_; intro _))
    refine fp (y_callC2 (by rfl) (by rfl) (by exact spreadSplit_v h w hw) ?_)
    rintro _ _ ⟨rfl, rfl⟩
    repeat (first | refine R1 ?_ | (refine R2 ?_; intro _))
    exact sf_ret (rV rfl)
  · repeat (first | refine R1 ?_ | (refine R2 ?_; intro _))
    refine fp (y_callC2 (by rfl) (by rfl) (by exact spreadSplit_v h w hw) ?_)
    rintro _ _ ⟨rfl, rfl⟩
    repeat (first | refine R1 ?_ | (refine R2 ?_; intro _))
    exact sf_ret (rV rfl)
  · repeat (first | refine R1 ?_ | (refine R2 ?_; intro _))
    refine fp (y_callC2 (by rfl) (by rfl) (by exact spreadDim_v h w hw) ?_)
    rintro _ _ ⟨rfl, rfl⟩
    repeat (first | refine R1 ?_ | (refine R2 ?_; intro _))
    exact sf_ret (rV rfl)
  · repeat (first | refine R1 ?_ | (refine R2 ?_; intro _))
    refine fp (y_callC2 (by rfl) (by rfl) (by exact spreadStop_v h w) ?_)
    rintro _ _ ⟨rfl, rfl⟩
    repeat (first | refine R1 ?_ | (refine R2 ?_; intro _))
    exact sf_ret (rV rfl)
theorem beamFrom_v (h : PHeap) (c : Value) (g : Grid) (s : Sl h c cellF g.cells) (e : gridOk g = true) (a d w : Int) (ha : 0 ≤ a ∧ a < 1000) (hd : 0 ≤ d ∧ d ≤ 3) : CallV Tryz.prog M 119 [.agg #[.int .i64 g.wide, c], .int .i64 a, .int .i64 d, .int .i64 w] h (.agg #[.int .i64 (beamFrom g a d w).at', .int .i64 (beamFrom g a d w).dir, .int .i64 (beamFrom g a d w).weight, .int .i64 (beamFrom g a d w).out]) := by
  have o1 := s.one
  have kg := gok e
  refine calls_of_sf Tryz.func119 rfl Tryz.ntmps119 ?_
  simp only [argsL, Nat.reduceAdd]
  repeat (first | refine R1 ?_ | (refine R2 ?_; intro _))
  refine fp (y_callV (rayStep_v h c g a d s ⟨kg.w1, kg.w5⟩ ha hd) (by rfl) ?_)
  unfold stepV
  cases en : nextAt g a d with
  | some b =>
    simp only
    repeat (first | refine R1 ?_ | (refine R2 ?_; intro _))
    refine sf_cond (by rfl) (fun e => by cases e) fun z1 => ?_
    clear z1
    repeat (first | refine R1 ?_ | (refine R2 ?_; intro _))
    refine sf_ret (rV ?_)
    simp only [beamFrom, en]
  | none =>
    simp only
    repeat (first | refine R1 ?_ | (refine R2 ?_; intro _))
    refine sf_cond (by rfl) (fun _ => ?_) fun e => by cases e
    repeat (first | refine R1 ?_ | (refine R2 ?_; intro _))
    refine fp (y_callV (sightOf_v h _ g (gridB_mk s) e a d hd) (by rfl) ?_)
    repeat (first | refine R1 ?_ | (refine R2 ?_; intro _))
    refine sf_ret (rV ?_)
    simp only [beamFrom, en]
theorem endOf_f (h : PHeap) (b : Nat) (vv ev : Value) (ov : Sl.One vv) (AE : Own) (es : List LEnd) (gr : Gr AE ev 144 endF es) (hl : es.length ≤ 200000) (kind a w : Int) :
    CallF Tryz.prog M 117 [.pointer (some ⟨b, 0, none⟩), .int .i64 kind, .int .i64 a, .int .i64 w] ((b, .cells #[vv, ev] 132) :: AE) h fun _ A => ∃ ev' AE', A = (b, .cells #[vv, ev'] 132) :: AE' ∧ Gr AE' ev' 144 endF (es ++ endIf kind a w) := by
  have o1 := gr.one
  refine calls_of_sf Tryz.func117 rfl Tryz.ntmps117 ?_
  simp only [argsL, Nat.reduceAdd]
  repeat (first | refine R1 ?_ | (refine R2 ?_; intro _))
  refine sf_if (fun e => ?_) fun e => ?_
  · repeat (first | refine R1 ?_ | (refine R2 ?_; intro _))
    refine fp (y_bs (by rfl) (by rfl) (by rfl) (by rfl) (by decide) fun u Au gu => ?_)
    repeat (first | refine R1 ?_ | (refine R2 ?_; intro _))
    refine fp (y_append (by rfl) (by rfl) gr gu (fun y _ => FlatOne.one y) (by rfl) (by rfl) (by simp; omega) (by simp; omega) fun ev2 A2 g2 => ?_)
    have o2 := g2.one
    repeat (first | refine R1 ?_ | (refine R2 ?_; intro _))
    exact nO ((b, .cells #[vv, ev2] 132) :: A2) ⟨ev2, A2, rfl, by rw [endIf, if_pos e]; exact g2⟩
  · repeat (first | refine R1 ?_ | (refine R2 ?_; intro _))
    exact nO ((b, .cells #[vv, ev] 132) :: AE) ⟨ev, AE, rfl, by rw [endIf, if_neg e, List.append_nil]; exact gr⟩
end Go.Proofs.YtekjikbaefgncaaGreat

/- Walks: the light of a sight, followed to its ends: the program's own. -/
namespace Go.Proofs.YtekjikbaefgncaaGreat
open Go Go.Sl
set_option maxRecDepth 100000
set_option maxHeartbeats 4000000
attribute [local irreducible] Go.Code.sf sfOps Opq opo retF Do1 anyO
variable {M : Jdg → Prop} [IsCl Tryz.prog M]
theorem trailOf_f (h : PHeap) (c : Value) (g : Grid) (s : Sl h c cellF g.cells) (e : gridOk g = true) (k : Int) (hk : 0 ≤ k ∧ k < manyOf g) : CallF Tryz.prog M 103 [.agg #[.int .i64 g.wide, c], .int .i64 k] [] h fun v A => ∃ vv ev AV AE, v = .agg #[vv, ev] ∧ A = AV ++ AE ∧ Gr AV vv 135 visitF (goLight g k).1 ∧ Gr AE ev 144 endF (goLight g k).2 := by
  have o1 := s.one
  have kg := gok e
  have hm := kg.small
  obtain ⟨sz, v, es, hc, hg, hsz, hok⟩ := goLight_is kg hk.1 hk.2
  rw [hg]
  have er : sightRayV g k = .tuple #[.agg #[.int .i64 (rayAt g k).at', .int .i64 (rayAt g k).dir], .bool true] := by
    rw [sightRayV, sightMany, if_pos e, if_pos hk]
  obtain ⟨⟨ra0, ra1⟩, rd0, rd1⟩ := rayAt_ok kg hk.1 hk.2
  refine calls_of_sf Tryz.func103 rfl Tryz.ntmps103 ?_
  simp only [argsL, Nat.reduceAdd]
  repeat (first | refine R1 ?_ | (refine R2 ?_; intro _))
  refine fp (y_callV (sightRay_v h _ g (gridB_mk s) k) (by rfl) ?_)
  rw [er]
  repeat (first | refine R1 ?_ | (refine R2 ?_; intro _))
  refine sf_cond (by rfl) (fun e => by cases e) fun z1 => ?_
  clear z1
  repeat (first | refine R1 ?_ | (refine R2 ?_; intro _))
  refine fp (y_bs (by rfl) (by rfl) (by rfl) (by rfl) (by decide) fun w Aw gw => ?_)
  repeat (first | refine R1 ?_ | (refine R2 ?_; intro _))
  rename_i b2 b4 b5 b6
  have t0 : Todo g [(⟨(rayAt g k).at', (rayAt g k).dir, 64, -1⟩ : Beam)] (sz + 0) (v ++ []) (es ++ []) := .cons (.inr (.inr ⟨by simp, by simp, ⟨ra0, ra1⟩, ⟨rd0, rd1⟩, 6600, hc⟩)) (by simp) hok.n1 .nil
  have hlv := hok.lv
  have hle := hok.le
  simp only at hlv hle
  refine sf_lp (ι := Nat × Value) [2, 4, 5] (fun x => [(8, x.2)]) (fun x O => ∃ vv ev AS AV AE, O = (b5, .cells #[vv, ev] 132) :: (AS ++ (AV ++ (AE ++ [(b6, .cells #[.int .i64 (rayAt g k).at', .int .i64 (rayAt g k).dir] 140), (b4, .cells #[.slice none 0 0, .slice none 0 0] 132), (b2, .cells #[.int .i64 g.wide, c] 35)]))) ∧ ∃ st V E v' e', Gr AS x.2 175 beamF st ∧ Gr AV vv 135 visitF V ∧ Gr AE ev 144 endF E ∧ Todo g st.reverse x.1 v' e' ∧ v = V ++ v' ∧ es = E ++ e' ∧ x.1 ≤ 26000) (fun x => x.1) (sz, w) ((b5, .cells #[.slice none 0 0, .slice none 0 0] 132) :: (Aw ++ ([] ++ ([] ++ [(b6, .cells #[.int .i64 (rayAt g k).at', .int .i64 (rayAt g k).dir] 140), (b4, .cells #[.slice none 0 0, .slice none 0 0] 132), (b2, .cells #[.int .i64 g.wide, c] 35)])))) ⟨_, _, Aw, [], [], rfl, _, [], [], v, es, gw, Gr.nil _ _, Gr.nil _ _, by simpa using t0, rfl, rfl, hsz⟩ ?_
  rintro ⟨m, sv⟩ O ⟨vv, ev, AS, AV, AE, rfl, st, V, E, v', e', gs, gv, ge, td, hv, he, hm26⟩
  simp only at gs td hm26 ⊢
  have lvv : V.length ≤ 26000 := by have := congrArg List.length hv; simp only [List.length_append] at this; omega
  have lee : E.length ≤ 52000 := by have := congrArg List.length he; simp only [List.length_append] at this; omega
  have os := gs.one
  have ovv := gv.one
  have oev := ge.one
  have lst := td.len
  rw [List.length_reverse] at lst
  repeat (first | refine R1 ?_ | (refine R2 ?_; intro _))
  refine sf_if (fun e1 => ?_) fun e1 => ?_
  · obtain ⟨s', b, rfl⟩ := snoc_of (xs := st) (by omega)
    have hlen : (s' ++ [b]).length = s'.length + 1 := by simp
    haveI : FlatV beamF (gt (s' ++ [b]) s'.length) [.int .i64 b.at', .int .i64 b.dir, .int .i64 b.weight, .int .i64 b.out] := ⟨by rw [gt_snoc]; rfl⟩
    obtain ⟨bb, cap, rfl, hcap, cut⟩ := gs.cut (by omega)
    have gs2 := cut s'.length (by omega)
    rw [List.take_left'  rfl] at gs2
    rw [List.reverse_append, List.reverse_singleton, List.singleton_append] at td
    cases td with
    | @cons _ _ n m v1 v2 ea eb hb hbw hn t =>
    clear cut
    have hl1 : (((s' ++ [b]).length : Nat) : Int) - 1 = ((s'.length : Nat) : Int) := by omega
    repeat (first | refine R1 ?_ | (refine R2 ?_; intro _))
    rw [hl1]
    repeat (first | refine R1 ?_ | (refine R2 ?_; intro _))
    rw [hl1]
    refine fp (Rq ?_ (q_sliceHi (l := s'.length) (by infer_instance) (by infer_instance) (by rfl) (by rfl) (by omega)))
    repeat (first | refine R1 ?_ | (refine R2 ?_; intro _))
    rename_i b9 b10
    refine sf_if (fun e2 => ?_) fun e2 => ?_
    · have hz : (n, v1, ea) = (1, [], []) := by
        rcases hb with ⟨_, q⟩ | ⟨q, _⟩ | ⟨q, _⟩
        · exact q
        · exact absurd e2 q
        · exact absurd e2 q
      simp only [Prod.mk.injEq] at hz
      obtain ⟨rfl, rfl, rfl⟩ := hz
      refine sf_exit ?_
      exact ⟨(m, .slice (some ⟨bb, 0, none⟩) s'.length cap), by simp only; omega, ⟨rfl, trivial⟩, rfl, (b5, .cells #[vv, ev] 132) :: (AS ++ (AV ++ (AE ++ [(b6, .cells #[.int .i64 (rayAt g k).at', .int .i64 (rayAt g k).dir] 140), (b4, .cells #[.slice none 0 0, .slice none 0 0] 132), (b2, .cells #[.int .i64 g.wide, c] 35)]))), _, inferInstance, vv, ev, AS, AV, AE, rfl, s', V, E, v2, eb, gs2, gv, ge, t, hv, he, by simp only; omega⟩
    repeat (first | refine R1 ?_ | (refine R2 ?_; intro _))
    refine sf_if (fun e3 => ?_) fun e3 => ?_
    · have hz : (n, v1, ea) = (1, [], [⟨0, b.out, b.weight⟩]) := by
        rcases hb with ⟨q, _⟩ | ⟨_, _, q⟩ | ⟨_, q, _⟩
        · exact absurd q e2
        · exact q
        · omega
      simp only [Prod.mk.injEq] at hz
      obtain ⟨rfl, rfl, rfl⟩ := hz
      repeat (first | refine R1 ?_ | (refine R2 ?_; intro _))
      refine fp (y_call (endOf_f h b5 vv ev ovv AE E ge (by omega) 0 b.out b.weight) (by rfl) ?_)
      rintro _ _ ⟨ev2, AE2, rfl, ge2⟩
      rw [endIf, if_pos (by omega)] at ge2
      repeat (first | refine R1 ?_ | (refine R2 ?_; intro _))
      refine sf_exit ?_
      exact ⟨(m, .slice (some ⟨bb, 0, none⟩) s'.length cap), by simp only; omega, ⟨rfl, trivial⟩, rfl, (b5, .cells #[vv, ev2] 132) :: (AS ++ (AV ++ (AE2 ++ [(b6, .cells #[.int .i64 (rayAt g k).at', .int .i64 (rayAt g k).dir] 140), (b4, .cells #[.slice none 0 0, .slice none 0 0] 132), (b2, .cells #[.int .i64 g.wide, c] 35)]))), _, inferInstance, vv, ev2, AS, AV, AE2, rfl, s', V, _, v2, eb, gs2, gv, ge2, t, hv, by rw [he]; simp, by simp only; omega⟩
    obtain ⟨ha, hd', nn, hcm⟩ : (0 ≤ b.at' ∧ b.at' < g.cells.length) ∧ (0 ≤ b.dir ∧ b.dir ≤ 3) ∧ ∃ n', comeF g n' b.at' b.dir b.weight = some (n, v1, ea) := by
      rcases hb with ⟨q, _⟩ | ⟨_, q, _⟩ | ⟨_, _, q⟩
      · exact absurd q e2
      · omega
      · exact q
    have ha' : 0 ≤ b.at' ∧ b.at' < 1000 := by omega
    obtain ⟨n', v1', e1'', hr, td2⟩ := todo_two kg ha.1 ha.2 hd'.1 hd'.2 (by omega) hbw.2 hcm t
    simp only [Prod.mk.injEq] at hr
    obtain ⟨rfl, rfl, rfl⟩ := hr
    have ls' : s'.length ≤ 26000 := by omega
    clear lst hn
    have hkd := kg.kind ha.1 ha.2
    clear hb hcm t hc
    repeat (first | refine R1 ?_ | (refine R2 ?_; intro _))
    refine fp (y_bs (by rfl) (by rfl) (by rfl) (by rfl) (by decide) fun u Au gu => ?_)
    repeat (first | refine R1 ?_ | (refine R2 ?_; intro _))
    refine fp (y_append (by rfl) (by rfl) gv gu (fun y _ => FlatOne.one y) (by rfl) (by rfl) (by simp; omega) (by simp; omega) fun vv2 AV2 gv2 => ?_)
    have ov2 := gv2.one
    repeat (first | refine R1 ?_ | (refine R2 ?_; intro _))
    have csp := spreadOf_v (M := M) h (gt g.cells b.at'.toNat).kind b.weight ⟨hkd.1, hkd.2.1⟩ hbw
    unfold spreadV at csp
    refine fp (y_callV (csp) (by rfl) ?_)
    repeat (first | refine R1 ?_ | (refine R2 ?_; intro _))
    refine sf_if (fun e7 => ?_) fun e7 => ?_
    · repeat (first | refine R1 ?_ | (refine R2 ?_; intro _))
      refine fp (y_call (endOf_f h b5 vv2 ev ov2 AE E ge (by omega) 2 b.at' (spread (gt g.cells b.at'.toNat).kind b.weight).stop) (by rfl) ?_)
      rintro _ _ ⟨ev2, AE2, rfl, ge2⟩
      have oe2 := ge2.one
      repeat (first | refine R1 ?_ | (refine R2 ?_; intro _))
      refine fp (y_call (endOf_f h b5 vv2 ev2 ov2 AE2 _ ge2 (by simp only [List.length_append]; have := endIf_len 2 b.at' (spread (gt g.cells b.at'.toNat).kind b.weight).stop; omega) 3 b.at' (spread (gt g.cells b.at'.toNat).kind b.weight).lost) (by rfl) ?_)
      rintro _ _ ⟨ev3, AE3, rfl, ge3⟩
      have oe3 := ge3.one
      have hH : hereF g b.at' b.weight = endIf 2 b.at' (spread (gt g.cells b.at'.toNat).kind b.weight).stop ++ endIf 3 b.at' (spread (gt g.cells b.at'.toNat).kind b.weight).lost := by
        unfold hereF; simp [e7]
      repeat (first | refine R1 ?_ | (refine R2 ?_; intro _))
      refine sf_draw (by kernel_rfl) (regX_run [[], [], [], [2], [], [4], [], [6], [4, 5, 6, 7], [], [9], [1, 2, 3, 4, 5, 6, 7, 8, 9, 10], [], [], [13], [], [15], [], [17], [1, 2, 3, 4, 5, 6, 7, 8, 9, 10, 11, 12, 13, 14, 15, 16, 17, 18], [1, 2, 3, 4, 5, 6, 7, 8, 9, 10, 11, 12, 13, 14, 15, 16, 17, 18, 19], [0, 1, 2, 3, 4, 5, 6, 7, 8, 9, 10, 11, 12, 13, 14, 15, 16, 17, 18, 19, 20], [0, 1, 2, 3, 4, 5, 6, 7, 8, 9, 10, 11, 12, 13, 14, 15, 16, 17, 18, 19, 20, 21]] 21 [(0, false), (1, false), (2, false), (3, false), (4, false), (5, false), (6, false), (7, false), (9, false), (10, false), (12, false), (13, false), (14, false), (15, false), (16, false), (17, false), (18, false), (8, true), (11, true), (19, true), (20, true)] (by kernel_rfl) (by kernel_rfl) (by kernel_rfl) ?_)
      repeat (refine Da1 ?_)
      refine a_callV (dirTurn_v h (gt g.cells b.at'.toNat).kind b.dir hd') (by rfl) (by rfl) (.inl rfl) ?_
      repeat (refine Da1 ?_)
      refine a_callV (beamFrom_v h c g s e b.at' (dirTurn (gt g.cells b.at'.toNat).kind b.dir) (spread (gt g.cells b.at'.toNat).kind b.weight).turn ha' (dirTurn_ok hd'.1 hd'.2)) (by rfl) (by rfl) (.inl rfl) ?_
      repeat (refine Da1 ?_)
      refine a_callV (beamFrom_v h c g s e b.at' b.dir (spread (gt g.cells b.at'.toNat).kind b.weight).pass ha' hd') (by rfl) (by rfl) (.inl rfl) ?_
      repeat (refine Da1 ?_)
      refine a_bs (by rfl) (by rfl) (by infer_instance) (by infer_instance) (by infer_instance) (by infer_instance) (by rfl) (by rfl) (by rfl) (by decide) (.inl rfl) fun w3 Aw3 gw3 => ?_
      repeat (refine Da1 ?_)
      (refine a_end (by rfl) (by rfl) ?_; simp only [finA, setL, List.drop_succ_cons, List.drop_zero])
      refine fp (y_append (by rfl) (by rfl) gs2 gw3 (fun y _ => FlatOne.one y) (by rfl) (by rfl) (by simp; omega) (by simp; omega) fun sv4 AS4 gs4 => ?_)
      have os4 := gs4.one
      repeat (first | refine R1 ?_ | (refine R2 ?_; intro _))
      exact ⟨(n' + m, sv4), by simp only; omega, ⟨rfl, trivial⟩, rfl, (b5, .cells #[vv2, ev3] 132) :: (AS4 ++ (AV2 ++ (AE3 ++ [(b6, .cells #[.int .i64 (rayAt g k).at', .int .i64 (rayAt g k).dir] 140), (b4, .cells #[.slice none 0 0, .slice none 0 0] 132), (b2, .cells #[.int .i64 g.wide, c] 35)]))), _, inferInstance, vv2, ev3, AS4, AV2, AE3, rfl, _, _, _, v1' ++ v2, e1'' ++ eb, gs4, gv2, ge3, by simpa using td2, by rw [hv]; simp, by rw [he, hH]; simp, by simp only; omega⟩
    · repeat (first | refine R1 ?_ | (refine R2 ?_; intro _))
      refine fp (y_call (endOf_f h b5 vv2 ev ov2 AE E ge (by omega) 1 b.at' (spread (gt g.cells b.at'.toNat).kind b.weight).stop) (by rfl) ?_)
      rintro _ _ ⟨ev2, AE2, rfl, ge2⟩
      have oe2 := ge2.one
      repeat (first | refine R1 ?_ | (refine R2 ?_; intro _))
      refine fp (y_call (endOf_f h b5 vv2 ev2 ov2 AE2 _ ge2 (by simp only [List.length_append]; have := endIf_len 1 b.at' (spread (gt g.cells b.at'.toNat).kind b.weight).stop; omega) 3 b.at' (spread (gt g.cells b.at'.toNat).kind b.weight).lost) (by rfl) ?_)
      rintro _ _ ⟨ev3, AE3, rfl, ge3⟩
      have oe3 := ge3.one
      have hH : hereF g b.at' b.weight = endIf 1 b.at' (spread (gt g.cells b.at'.toNat).kind b.weight).stop ++ endIf 3 b.at' (spread (gt g.cells b.at'.toNat).kind b.weight).lost := by
        unfold hereF; simp [e7]
      repeat (first | refine R1 ?_ | (refine R2 ?_; intro _))
      refine sf_draw (by kernel_rfl) (regX_run [[], [], [], [2], [], [4], [], [6], [4, 5, 6, 7], [], [9], [1, 2, 3, 4, 5, 6, 7, 8, 9, 10], [], [], [13], [], [15], [], [17], [1, 2, 3, 4, 5, 6, 7, 8, 9, 10, 11, 12, 13, 14, 15, 16, 17, 18], [1, 2, 3, 4, 5, 6, 7, 8, 9, 10, 11, 12, 13, 14, 15, 16, 17, 18, 19], [0, 1, 2, 3, 4, 5, 6, 7, 8, 9, 10, 11, 12, 13, 14, 15, 16, 17, 18, 19, 20], [0, 1, 2, 3, 4, 5, 6, 7, 8, 9, 10, 11, 12, 13, 14, 15, 16, 17, 18, 19, 20, 21]] 21 [(0, false), (1, false), (2, false), (3, false), (4, false), (5, false), (6, false), (7, false), (9, false), (10, false), (12, false), (13, false), (14, false), (15, false), (16, false), (17, false), (18, false), (8, true), (11, true), (19, true), (20, true)] (by kernel_rfl) (by kernel_rfl) (by kernel_rfl) ?_)
      repeat (refine Da1 ?_)
      refine a_callV (dirTurn_v h (gt g.cells b.at'.toNat).kind b.dir hd') (by rfl) (by rfl) (.inl rfl) ?_
      repeat (refine Da1 ?_)
      refine a_callV (beamFrom_v h c g s e b.at' (dirTurn (gt g.cells b.at'.toNat).kind b.dir) (spread (gt g.cells b.at'.toNat).kind b.weight).turn ha' (dirTurn_ok hd'.1 hd'.2)) (by rfl) (by rfl) (.inl rfl) ?_
      repeat (refine Da1 ?_)
      refine a_callV (beamFrom_v h c g s e b.at' b.dir (spread (gt g.cells b.at'.toNat).kind b.weight).pass ha' hd') (by rfl) (by rfl) (.inl rfl) ?_
      repeat (refine Da1 ?_)
      refine a_bs (by rfl) (by rfl) (by infer_instance) (by infer_instance) (by infer_instance) (by infer_instance) (by rfl) (by rfl) (by rfl) (by decide) (.inl rfl) fun w3 Aw3 gw3 => ?_
      repeat (refine Da1 ?_)
      (refine a_end (by rfl) (by rfl) ?_; simp only [finA, setL, List.drop_succ_cons, List.drop_zero])
      refine fp (y_append (by rfl) (by rfl) gs2 gw3 (fun y _ => FlatOne.one y) (by rfl) (by rfl) (by simp; omega) (by simp; omega) fun sv4 AS4 gs4 => ?_)
      have os4 := gs4.one
      repeat (first | refine R1 ?_ | (refine R2 ?_; intro _))
      exact ⟨(n' + m, sv4), by simp only; omega, ⟨rfl, trivial⟩, rfl, (b5, .cells #[vv2, ev3] 132) :: (AS4 ++ (AV2 ++ (AE3 ++ [(b6, .cells #[.int .i64 (rayAt g k).at', .int .i64 (rayAt g k).dir] 140), (b4, .cells #[.slice none 0 0, .slice none 0 0] 132), (b2, .cells #[.int .i64 g.wide, c] 35)]))), _, inferInstance, vv2, ev3, AS4, AV2, AE3, rfl, _, _, _, v1' ++ v2, e1'' ++ eb, gs4, gv2, ge3, by simpa using td2, by rw [hv]; simp, by rw [he, hH]; simp, by simp only; omega⟩
  · refine sf_exit ?_
    obtain rfl : st = [] := List.eq_nil_of_length_eq_zero (by omega)
    cases td
    repeat (first | refine R1 ?_ | (refine R2 ?_; intro _))
    exact sf_ret (rO (AV ++ AE) ⟨vv, ev, AV, AE, rfl, rfl, by rw [hv, List.append_nil]; exact gv, by rw [he, List.append_nil]; exact ge⟩)
theorem trailLight_v (h : PHeap) (c : Value) (g : Grid) (s : Sl h c cellF g.cells) (e : gridOk g = true) (k : Int) (hk : 0 ≤ k ∧ k < manyOf g) : CallV Tryz.prog M 101 [.agg #[.int .i64 g.wide, c], .int .i64 k] h (.int .i64 (trailLight g k)) := by
  have o1 := s.one
  have kg := gok e
  obtain ⟨sz, v, es, hc, hg, hsz, hok⟩ := goLight_is kg hk.1 hk.2
  have hle := hok.le
  have hes : ∀ e ∈ es, EndOk g 64 e := hok.es
  simp only at hle
  refine calls_of_sf Tryz.func101 rfl Tryz.ntmps101 ?_
  simp only [argsL, Nat.reduceAdd]
  repeat (first | refine R1 ?_ | (refine R2 ?_; intro _))
  refine fp (y_call (trailOf_f h c g s e k hk) (by rfl) ?_)
  rintro _ _ ⟨vv, ev, AV, AE, rfl, rfl, gv, ge⟩
  rw [hg] at gv ge
  have ov := gv.one
  have oe := ge.one
  simp only at ge gv
  have hg' := hg
  clear hc hg
  repeat (first | refine R1 ?_ | (refine R2 ?_; intro _))
  rename_i b2
  refine sf_lp (ι := Nat) [2, 11, 12] (fun k => [(5, .int .i64 (sumF (endLight g) (es.take k))), (13, .int .i64 (k : Int))]) (fun k O => k ≤ es.length ∧ O = AV ++ (AE ++ [(b2, .cells #[.int .i64 g.wide, c] 35)])) (fun k => es.length - k) 0 (AV ++ (AE ++ [(b2, .cells #[.int .i64 g.wide, c] 35)])) ⟨by omega, rfl⟩ ?_
  rintro j O ⟨hj, rfl⟩
  have hsum := lightOf_bd kg hes j (by omega)
  repeat (first | refine R1 ?_ | (refine R2 ?_; intro _))
  refine sf_if (fun e1 => ?_) fun e1 => ?_
  · have hj1 : j < es.length := by omega
    have ek := hes (gt es j) (by rw [gt_eq hj1]; exact List.getElem_mem _)
    have hst := sumF_step (f := endLight g) hj1
    have hbd := endLight_bd kg ek
    repeat (first | refine R1 ?_ | (refine R2 ?_; intro _))
    refine sf_if (fun e2 => ?_) fun e2 => ?_
    · have hcl := ek.cell (by omega)
      rw [endLight, if_pos e2] at hst hbd
      repeat (first | refine R1 ?_ | (refine R2 ?_; intro _))
      refine sf_draw (by kernel_rfl) (regX_run [[], [], [1], [], [3], [], [5], [3, 4, 5, 6], [3, 4, 5, 6, 7], [3, 4, 5, 6, 7, 8], [1, 2, 3, 4, 5, 6, 7, 8, 9], [0, 1, 2, 3, 4, 5, 6, 7, 8, 9, 10], [0, 1, 2, 3, 4, 5, 6, 7, 8, 9, 10, 11]] 11 [(0, false), (1, false), (2, false), (3, false), (4, false), (5, false), (6, false), (7, false), (8, false), (9, false), (10, false)] (by kernel_rfl) (by kernel_rfl) (by kernel_rfl) ?_)
      repeat (refine Da1 ?_)
      (refine a_end (by rfl) (by rfl) ?_; simp only [finA, setL, List.drop_succ_cons, List.drop_zero])
      repeat (first | refine R1 ?_ | (refine R2 ?_; intro _))
      exact ⟨j + 1, by omega, ⟨by rw [hst]; rfl, rfl, trivial⟩, rfl, _, _, inferInstance, by omega, rfl⟩
    · rw [endLight, if_neg e2, Int.add_zero] at hst
      repeat (first | refine R1 ?_ | (refine R2 ?_; intro _))
      exact ⟨j + 1, by omega, ⟨by rw [hst]; rfl, rfl, trivial⟩, rfl, _, _, inferInstance, by omega, rfl⟩
  · refine sf_exit ?_
    repeat (first | refine R1 ?_ | (refine R2 ?_; intro _))
    refine sf_ret (rV ?_)
    rw [trailLight, lightOf, hg', List.take_of_length_le (by omega)]
end Go.Proofs.YtekjikbaefgncaaGreat

/- Walks: edits, versions, own sights: the program's own. -/
namespace Go.Proofs.YtekjikbaefgncaaGreat
open Go Go.Sl
set_option maxRecDepth 100000
set_option maxHeartbeats 4000000
attribute [local irreducible] Go.Code.sf sfOps Opq opo retF Do1 anyO
variable {M : Jdg → Prop} [IsCl Tryz.prog M]
theorem editOk_v (h : PHeap) (c : Value) (g : Grid) (s : Sl h c cellF g.cells) (e : Edit) : CallV Tryz.prog M 168 [.agg #[.int .i64 g.wide, c], .agg #[.int .i64 e.at', .int .i64 e.cell.kind, .int .i64 e.cell.light]] h (.bool (editOk g e)) := by
  have o1 := s.one
  refine calls_of_sf Tryz.func168 rfl Tryz.ntmps168 ?_
  simp only [argsL, Nat.reduceAdd]
  repeat (first | refine R1 ?_ | (refine R2 ?_; intro _))
  refine fp (y_callV (cellOk_v _ e.cell) (by rfl) ?_)
  repeat (first | refine R1 ?_ | (refine R2 ?_; intro _))
  refine f_splitB (fun h1 => ?_) fun h1 => ?_
  · repeat (first | refine R1 ?_ | (refine R2 ?_; intro _))
    refine f_split (fun h2 => ?_) fun h2 => ?_ <;>
    · repeat (first | refine R1 ?_ | (refine R2 ?_; intro _))
      refine sf_ret (rV ?_)
      simp [editOk, h1, h2]
  · repeat (first | refine R1 ?_ | (refine R2 ?_; intro _))
    refine sf_ret (rV ?_)
    simp [editOk, h1]
theorem editsOk_v (h : PHeap) (c : Value) (g : Grid) (s : Sl h c cellF g.cells) (v : Value) (es : List Edit) (s2 : Sl h v editF es) : CallV Tryz.prog M 123 [.agg #[.int .i64 g.wide, c], v] h (.bool (editsOk g es)) := by
  have o1 := s.one
  have o2 := s2.one
  have hs := s2.small
  refine calls_of_sf Tryz.func123 rfl Tryz.ntmps123 ?_
  simp only [argsL, Nat.reduceAdd]
  repeat (first | refine R1 ?_ | (refine R2 ?_; intro _))
  refine sf_rd [2, 7, 8] 9 es.length 0 (fun k => editsOk g (es.take k) = true) (by omega) rfl (fun k hk hi => ?_)
  repeat (first | refine R1 ?_ | (refine R2 ?_; intro _))
  refine sf_if (fun h4 => ?_) fun h4 => ?_
  · have hk4 : k < es.length := by omega
    repeat (first | refine R1 ?_ | (refine R2 ?_; intro _))
    refine fp (y_callV (editOk_v _ c g s (gt es k)) (by rfl) ?_)
    repeat (first | refine R1 ?_ | (refine R2 ?_; intro _))
    refine sf_cond (by rfl) (fun h5 => ?_) fun h5 => ?_
    · repeat (first | refine R1 ?_ | (refine R2 ?_; intro _))
      simp only [Bool.not_eq_true'] at h5
      refine sf_ret (rV ?_)
      rw [editsOk, all_false hk4 h5]
    · repeat (first | refine R1 ?_ | (refine R2 ?_; intro _))
      refine ⟨⟨hk4, ?_⟩, rfl, rfl, _, inferInstance⟩
      rw [editsOk, all_take hk4]
      rw [editsOk] at hi
      rw [hi]; simpa using h5
  · refine sf_exit ?_
    repeat (first | refine R1 ?_ | (refine R2 ?_; intro _))
    rw [take_ge hk (by omega)] at hi
    exact sf_ret (rV (by rw [hi]))
theorem sightMany_ok {g : Grid} (h : gridOk g = true) : sightMany g = manyOf g := by rw [sightMany, if_pos h]
theorem intsEqual_v (h : PHeap) (a b : Value) (xs ys : List Int) (sx : Sl h a intF xs) (sy : Sl h b intF ys) : CallV Tryz.prog M 58 [a, b] h (.bool (decide (xs = ys))) := by
  have o1 := sx.one
  have o2 := sy.one
  have hx := sx.small
  have hy := sy.small
  refine calls_of_sf Tryz.func58 rfl Tryz.ntmps58 ?_
  simp only [argsL, Nat.reduceAdd]
  repeat (first | refine R1 ?_ | (refine R2 ?_; intro _))
  refine sf_if (fun e0 => ?_) fun e0 => ?_
  · repeat (first | refine R1 ?_ | (refine R2 ?_; intro _))
    exact sf_ret (rV (bF fun e => e0 (by rw [e])))
  have hl : xs.length = ys.length := by omega
  repeat (first | refine R1 ?_ | (refine R2 ?_; intro _))
  refine sf_rd [0, 1, 12] 13 xs.length 0 (fun k => xs.take k = ys.take k) (by omega) rfl (fun k hk hi => ?_)
  repeat (first | refine R1 ?_ | (refine R2 ?_; intro _))
  refine sf_if (fun h4 => ?_) fun h4 => ?_
  · have hk4 : k < xs.length := by omega
    have hk5 : k < ys.length := by omega
    repeat (first | refine R1 ?_ | (refine R2 ?_; intro _))
    refine sf_draw (by kernel_rfl) (regX_run [[], [], [0, 1], [0, 1, 2], [], [], [4, 5], [4, 5, 6], [0, 1, 2, 3, 4, 5, 6, 7]] 8 [(0, false), (1, false), (2, false), (3, false), (4, false), (5, false), (6, false), (7, false)] (by kernel_rfl) (by kernel_rfl) (by kernel_rfl) ?_)
    repeat (refine Da1 ?_)
    (refine a_end (by rfl) (by rfl) ?_; simp only [finA, setL, List.drop_succ_cons, List.drop_zero])
    repeat (first | refine R1 ?_ | (refine R2 ?_; intro _))
    refine sf_if (fun e1 => ?_) fun e1 => ?_
    · repeat (first | refine R1 ?_ | (refine R2 ?_; intro _))
      exact sf_ret (rV (bF (eq_at e1)))
    · repeat (first | refine R1 ?_ | (refine R2 ?_; intro _))
      exact ⟨⟨hk4, eq_step hk4 hk5 hi (by simpa using e1)⟩, rfl, rfl, _, inferInstance⟩
  · refine sf_exit ?_
    repeat (first | refine R1 ?_ | (refine R2 ?_; intro _))
    exact sf_ret (rV (bT (eq_end hl (by omega) hi)))
end Go.Proofs.YtekjikbaefgncaaGreat

/- sync.WaitGroup's functions and types in this program. -/
namespace Go.Proofs.YtekjikbaefgncaaGreat
open Go
abbrev wgLink : Go.Conc.Lib.WgLink := { add := 112, done := 114, wait := 115, relMerge := 129, disable := 130, enable := 131, inBubble := 132, associate := 133, fatal := 134, uOr := 135, uAdd := 136, raceRead := 137, uLoad := 138, uStore := 139, disassociate := 140, semrelease := 141, acquire := 142, isAssociated := 143, uCas := 144, raceWrite := 145, semacquire := 146, orU64 := 171, addU64 := 172, loadU64 := 173, storeU64 := 174, casU64 := 175, tWgP := 187, tUP := 189, tAssoc := 191, tWg := 167, tAU := 164, tU64 := 162, tUint := 184, tU32 := 165, tPU32 := 195, tPAU := 224, tPU64 := 226, tNoCopy := 159, tANoCopy := 160, tAlign64 := 161 }
theorem wgLib : Go.Conc.Lib.WgLib Tryz.prog wgLink :=
  ⟨Tryz.func112, Tryz.func114, Tryz.func115, Tryz.func129, Tryz.func130, Tryz.func131, Tryz.func132, Tryz.func133, Tryz.func134, Tryz.func135, Tryz.func136, Tryz.func137, Tryz.func138, Tryz.func139, Tryz.func140, Tryz.func141, Tryz.func142, Tryz.func143, Tryz.func144, Tryz.func145, Tryz.func146, Tryz.func171, Tryz.func172, Tryz.func173, Tryz.func174, Tryz.func175, Tryz.underlying187, Tryz.runUnderlying187, Tryz.sizeOf187, Tryz.isAgg187, Tryz.zeroValue187, Tryz.underlying189, Tryz.runUnderlying189, Tryz.sizeOf189, Tryz.isAgg189, Tryz.zeroValue189, Tryz.underlying191, Tryz.runUnderlying191, Tryz.sizeOf191, Tryz.isAgg191, Tryz.zeroValue191, Tryz.underlying167, Tryz.runUnderlying167, Tryz.sizeOf167, Tryz.isAgg167, Tryz.zeroValue167, Tryz.underlying164, Tryz.runUnderlying164, Tryz.sizeOf164, Tryz.isAgg164, Tryz.zeroValue164, Tryz.underlying162, Tryz.runUnderlying162, Tryz.sizeOf162, Tryz.isAgg162, Tryz.zeroValue162, Tryz.underlying184, Tryz.runUnderlying184, Tryz.sizeOf184, Tryz.isAgg184, Tryz.zeroValue184, Tryz.underlying165, Tryz.runUnderlying165, Tryz.sizeOf165, Tryz.isAgg165, Tryz.zeroValue165, Tryz.underlying195, Tryz.runUnderlying195, Tryz.sizeOf195, Tryz.isAgg195, Tryz.zeroValue195, Tryz.underlying224, Tryz.runUnderlying224, Tryz.sizeOf224, Tryz.isAgg224, Tryz.zeroValue224, Tryz.underlying226, Tryz.runUnderlying226, Tryz.sizeOf226, Tryz.isAgg226, Tryz.zeroValue226, Tryz.underlying0, Tryz.runUnderlying0, Tryz.sizeOf0, Tryz.isAgg0, Tryz.zeroValue0, Tryz.underlying3, Tryz.runUnderlying3, Tryz.sizeOf3, Tryz.isAgg3, Tryz.zeroValue3, Tryz.underlying4, Tryz.runUnderlying4, Tryz.sizeOf4, Tryz.isAgg4, Tryz.zeroValue4, Tryz.underlying9, Tryz.runUnderlying9, Tryz.sizeOf9, Tryz.isAgg9, Tryz.zeroValue9, Tryz.underlying20, Tryz.runUnderlying20, Tryz.sizeOf20, Tryz.isAgg20, Tryz.zeroValue20, Tryz.underlying21, Tryz.runUnderlying21, Tryz.sizeOf21, Tryz.isAgg21, Tryz.zeroValue21, (by kernel_rfl), (by kernel_rfl)⟩
end Go.Proofs.YtekjikbaefgncaaGreat

/- Walks: a worker of sidesComputed[int]: its loop. -/
namespace Go.Proofs.YtekjikbaefgncaaGreat
open Go Go.Sl Go.Conc
set_option maxRecDepth 100000
noncomputable def loop52 : Code := match Tryz.f113.body with
  | some (.seq _ (.seq _ (.seq (.seq _ b) _))) => b
  | _ => .skip
abbrev wl (bS bC bO bCh : Nat) (v : Value) (k : Nat) : Locals := [(1, .pointer (some ⟨bS, 0, none⟩)), (2, .pointer (some ⟨bC, 0, none⟩)), (3, .pointer (some ⟨bO, 0, none⟩)), (4, .pointer (some ⟨bCh, 0, none⟩)), (5, v), (6, .int .i64 (k : Int))]
section
variable {M : Jdg → Prop} [IsCl Tryz.prog M]
attribute [local irreducible] Go.Code.so soOps Opq opo retO
theorem worker_loop (B : PHeap) (Wg : Nat) (bS bC bO bCh : Nat) (st : Nat → Nat) (fn : FuncId) (Fun52 : Fun Tryz.prog fn) (first cap : Array Value) (val : Nat → Int) (j : Nat) (hj : j < 4) (s4 : ∀ i, i < 5 → st i ≤ 1048576) (mono : st j ≤ st (j + 1))
    (hS : BAt B bS (.cells #[.int .i64 (st 0), .int .i64 (st 1), .int .i64 (st 2), .int .i64 (st 3), .int .i64 (st 4)] 156 (0, 0)))
    (hC : BAt B bC (.cells #[.int .i64 j] 3 (0, 0))) (hO : BAt B bO (.cells #[.func (.func fn) first cap] 130 (0, 0)))
    (of : ∀ (B' : PHeap), Le B B' → ∀ k, st j ≤ k → k < st (j + 1) → CallsR Tryz.prog M fn (first.toList ++ [.int .i64 (k : Int)] ++ cap.toList) B' fun v _ => v = .int .i64 (val k)) (L : Locals)
    (hL : Locals.sub (wl bS bC bO bCh (.slice none 0 0) (st j)) L) :
    loop52.so Tryz.prog M 28 (fun e L' A h' => e = .nrm ∧ ∃ v, Locals.sub [(2, .pointer (some ⟨bC, 0, none⟩)), (4, .pointer (some ⟨bCh, 0, none⟩)), (5, v)] L' ∧ Gr A v 3 intF ((List.range' (st j) (st (j + 1) - st j)).map val)) L [] B := by
  simp only [loop52, Tryz.f113]
  refine so_block ?_
  refine so_loop (ι := Nat) (A := fun k L O h' => st j ≤ k ∧ k ≤ st (j + 1) ∧ ∃ v, L = wl bS bC bO bCh v k ∧ Gr O v 3 intF ((List.range' (st j) (k - st j)).map val)) (fun k => st (j + 1) - k) (st j) hL ⟨Nat.le_refl _, mono, _, rfl, by simpa using Gr.nil _ _⟩ ?_
  rintro k _ O h' le ⟨k1, k2, v, rfl, gr⟩
  have hk := s4 (j + 1) (by omega)
  obtain rfl | rfl | rfl | rfl : j = 0 ∨ j = 1 ∨ j = 2 ∨ j = 3 := by omega
  · refine so_seq ?_
    refine so_seq ?_
    refine so_reg ?_
    refine so_q (q_move (by rfl)) ?_
    refine so_q (q_loadB (by infer_instance) (by rfl) (by infer_instance) (by rfl) (by rfl)) ?_
    refine Run.go ?_
    refine so_q (q_indexP (by infer_instance) (by infer_instance) (by rfl) (by rfl) (by decide) (by decide)) ?_
    refine so_q (q_loadB (by infer_instance) (by rfl) (by infer_instance) (by rfl) (by rfl)) ?_
    refine Run.go ?_
    refine so_cond rfl (fun h1 => ?_) (fun h1 => ?_)
    · have hlt : k < st 1 := by simpa using h1
      refine Run.go ?_
      refine so_q (q_loadB (by infer_instance) (by rfl) (by infer_instance) (by rfl) (by rfl)) ?_
      refine Run.go ?_
      refine op_callv Fun52 (vs := [.int .i64 (k : Int)]) (by rfl) (of h' le k k1 hlt) (.refl ([] ++ O)) (by rfl) ?_
      rintro u A' h'' le2 ⟨rfl, rfl⟩
      refine Run.go ?_
      refine op_buildSlice (by infer_instance) (by infer_instance) (by rfl) (by rfl) (by rfl) (by rfl) fun b => ?_
      refine Run.go ?_
      refine op_append (ys := [val k]) (R := [(b, .cells [Value.int .i64 (val k)].toArray 3 (0, 0))]) (by rfl) (by rfl) (by infer_instance) (by infer_instance) (by rfl) gr (List.perm_append_singleton _ _).symm rfl (src_own (by infer_instance)) (by simp [intF, allOne]; rfl) (by simp; omega) (by simp; omega) fun v' A' gr' => ?_
      refine so_drop (O' := A') (List.sublist_append_left _ _) ?_
      refine Run.go ?_
      have hw : IntKind.i64.wrap ((k : Int) + 1) = ((k + 1 : Nat) : Int) := by rw [IntKind.wrap_i64]; omega
      have hr : List.range' (st 0) (k + 1 - st 0) = List.range' (st 0) (k - st 0) ++ [k] := by
        rw [show k + 1 - st 0 = (k - st 0) + 1 by omega, List.range'_1_concat, show st 0 + (k - st 0) = k by omega]
      refine ⟨k + 1, wl bS bC bO bCh v' (k + 1), by simp only [Nat.reduceAdd]; omega, ⟨rfl, rfl, rfl, rfl, rfl, ?_, trivial⟩, by omega, by simp only [Nat.reduceAdd]; omega, v', rfl, ?_⟩
      · rw [← hw]; rfl
      · rw [hr, List.map_append]; exact gr'
    · have hge : k = st 1 := by
        have : ¬ (k < st 1) := by simpa using h1
        simp only [Nat.reduceAdd] at k2
        omega
      subst hge
      refine so_exit ?_
      exact ⟨rfl, v, ⟨rfl, rfl, rfl, trivial⟩, gr⟩
  · refine so_seq ?_
    refine so_seq ?_
    refine so_reg ?_
    refine so_q (q_move (by rfl)) ?_
    refine so_q (q_loadB (by infer_instance) (by rfl) (by infer_instance) (by rfl) (by rfl)) ?_
    refine Run.go ?_
    refine so_q (q_indexP (by infer_instance) (by infer_instance) (by rfl) (by rfl) (by decide) (by decide)) ?_
    refine so_q (q_loadB (by infer_instance) (by rfl) (by infer_instance) (by rfl) (by rfl)) ?_
    refine Run.go ?_
    refine so_cond rfl (fun h1 => ?_) (fun h1 => ?_)
    · have hlt : k < st 2 := by simpa using h1
      refine Run.go ?_
      refine so_q (q_loadB (by infer_instance) (by rfl) (by infer_instance) (by rfl) (by rfl)) ?_
      refine Run.go ?_
      refine op_callv Fun52 (vs := [.int .i64 (k : Int)]) (by rfl) (of h' le k k1 hlt) (.refl ([] ++ O)) (by rfl) ?_
      rintro u A' h'' le2 ⟨rfl, rfl⟩
      refine Run.go ?_
      refine op_buildSlice (by infer_instance) (by infer_instance) (by rfl) (by rfl) (by rfl) (by rfl) fun b => ?_
      refine Run.go ?_
      refine op_append (ys := [val k]) (R := [(b, .cells [Value.int .i64 (val k)].toArray 3 (0, 0))]) (by rfl) (by rfl) (by infer_instance) (by infer_instance) (by rfl) gr (List.perm_append_singleton _ _).symm rfl (src_own (by infer_instance)) (by simp [intF, allOne]; rfl) (by simp; omega) (by simp; omega) fun v' A' gr' => ?_
      refine so_drop (O' := A') (List.sublist_append_left _ _) ?_
      refine Run.go ?_
      have hw : IntKind.i64.wrap ((k : Int) + 1) = ((k + 1 : Nat) : Int) := by rw [IntKind.wrap_i64]; omega
      have hr : List.range' (st 1) (k + 1 - st 1) = List.range' (st 1) (k - st 1) ++ [k] := by
        rw [show k + 1 - st 1 = (k - st 1) + 1 by omega, List.range'_1_concat, show st 1 + (k - st 1) = k by omega]
      refine ⟨k + 1, wl bS bC bO bCh v' (k + 1), by simp only [Nat.reduceAdd]; omega, ⟨rfl, rfl, rfl, rfl, rfl, ?_, trivial⟩, by omega, by simp only [Nat.reduceAdd]; omega, v', rfl, ?_⟩
      · rw [← hw]; rfl
      · rw [hr, List.map_append]; exact gr'
    · have hge : k = st 2 := by
        have : ¬ (k < st 2) := by simpa using h1
        simp only [Nat.reduceAdd] at k2
        omega
      subst hge
      refine so_exit ?_
      exact ⟨rfl, v, ⟨rfl, rfl, rfl, trivial⟩, gr⟩
  · refine so_seq ?_
    refine so_seq ?_
    refine so_reg ?_
    refine so_q (q_move (by rfl)) ?_
    refine so_q (q_loadB (by infer_instance) (by rfl) (by infer_instance) (by rfl) (by rfl)) ?_
    refine Run.go ?_
    refine so_q (q_indexP (by infer_instance) (by infer_instance) (by rfl) (by rfl) (by decide) (by decide)) ?_
    refine so_q (q_loadB (by infer_instance) (by rfl) (by infer_instance) (by rfl) (by rfl)) ?_
    refine Run.go ?_
    refine so_cond rfl (fun h1 => ?_) (fun h1 => ?_)
    · have hlt : k < st 3 := by simpa using h1
      refine Run.go ?_
      refine so_q (q_loadB (by infer_instance) (by rfl) (by infer_instance) (by rfl) (by rfl)) ?_
      refine Run.go ?_
      refine op_callv Fun52 (vs := [.int .i64 (k : Int)]) (by rfl) (of h' le k k1 hlt) (.refl ([] ++ O)) (by rfl) ?_
      rintro u A' h'' le2 ⟨rfl, rfl⟩
      refine Run.go ?_
      refine op_buildSlice (by infer_instance) (by infer_instance) (by rfl) (by rfl) (by rfl) (by rfl) fun b => ?_
      refine Run.go ?_
      refine op_append (ys := [val k]) (R := [(b, .cells [Value.int .i64 (val k)].toArray 3 (0, 0))]) (by rfl) (by rfl) (by infer_instance) (by infer_instance) (by rfl) gr (List.perm_append_singleton _ _).symm rfl (src_own (by infer_instance)) (by simp [intF, allOne]; rfl) (by simp; omega) (by simp; omega) fun v' A' gr' => ?_
      refine so_drop (O' := A') (List.sublist_append_left _ _) ?_
      refine Run.go ?_
      have hw : IntKind.i64.wrap ((k : Int) + 1) = ((k + 1 : Nat) : Int) := by rw [IntKind.wrap_i64]; omega
      have hr : List.range' (st 2) (k + 1 - st 2) = List.range' (st 2) (k - st 2) ++ [k] := by
        rw [show k + 1 - st 2 = (k - st 2) + 1 by omega, List.range'_1_concat, show st 2 + (k - st 2) = k by omega]
      refine ⟨k + 1, wl bS bC bO bCh v' (k + 1), by simp only [Nat.reduceAdd]; omega, ⟨rfl, rfl, rfl, rfl, rfl, ?_, trivial⟩, by omega, by simp only [Nat.reduceAdd]; omega, v', rfl, ?_⟩
      · rw [← hw]; rfl
      · rw [hr, List.map_append]; exact gr'
    · have hge : k = st 3 := by
        have : ¬ (k < st 3) := by simpa using h1
        simp only [Nat.reduceAdd] at k2
        omega
      subst hge
      refine so_exit ?_
      exact ⟨rfl, v, ⟨rfl, rfl, rfl, trivial⟩, gr⟩
  · refine so_seq ?_
    refine so_seq ?_
    refine so_reg ?_
    refine so_q (q_move (by rfl)) ?_
    refine so_q (q_loadB (by infer_instance) (by rfl) (by infer_instance) (by rfl) (by rfl)) ?_
    refine Run.go ?_
    refine so_q (q_indexP (by infer_instance) (by infer_instance) (by rfl) (by rfl) (by decide) (by decide)) ?_
    refine so_q (q_loadB (by infer_instance) (by rfl) (by infer_instance) (by rfl) (by rfl)) ?_
    refine Run.go ?_
    refine so_cond rfl (fun h1 => ?_) (fun h1 => ?_)
    · have hlt : k < st 4 := by simpa using h1
      refine Run.go ?_
      refine so_q (q_loadB (by infer_instance) (by rfl) (by infer_instance) (by rfl) (by rfl)) ?_
      refine Run.go ?_
      refine op_callv Fun52 (vs := [.int .i64 (k : Int)]) (by rfl) (of h' le k k1 hlt) (.refl ([] ++ O)) (by rfl) ?_
      rintro u A' h'' le2 ⟨rfl, rfl⟩
      refine Run.go ?_
      refine op_buildSlice (by infer_instance) (by infer_instance) (by rfl) (by rfl) (by rfl) (by rfl) fun b => ?_
      refine Run.go ?_
      refine op_append (ys := [val k]) (R := [(b, .cells [Value.int .i64 (val k)].toArray 3 (0, 0))]) (by rfl) (by rfl) (by infer_instance) (by infer_instance) (by rfl) gr (List.perm_append_singleton _ _).symm rfl (src_own (by infer_instance)) (by simp [intF, allOne]; rfl) (by simp; omega) (by simp; omega) fun v' A' gr' => ?_
      refine so_drop (O' := A') (List.sublist_append_left _ _) ?_
      refine Run.go ?_
      have hw : IntKind.i64.wrap ((k : Int) + 1) = ((k + 1 : Nat) : Int) := by rw [IntKind.wrap_i64]; omega
      have hr : List.range' (st 3) (k + 1 - st 3) = List.range' (st 3) (k - st 3) ++ [k] := by
        rw [show k + 1 - st 3 = (k - st 3) + 1 by omega, List.range'_1_concat, show st 3 + (k - st 3) = k by omega]
      refine ⟨k + 1, wl bS bC bO bCh v' (k + 1), by simp only [Nat.reduceAdd]; omega, ⟨rfl, rfl, rfl, rfl, rfl, ?_, trivial⟩, by omega, by simp only [Nat.reduceAdd]; omega, v', rfl, ?_⟩
      · rw [← hw]; rfl
      · rw [hr, List.map_append]; exact gr'
    · have hge : k = st 4 := by
        have : ¬ (k < st 4) := by simpa using h1
        simp only [Nat.reduceAdd] at k2
        omega
      subst hge
      refine so_exit ?_
      exact ⟨rfl, v, ⟨rfl, rfl, rfl, trivial⟩, gr⟩
end
end Go.Proofs.YtekjikbaefgncaaGreat

/- Walks: a worker of sidesComputed[int], whole. -/
namespace Go.Proofs.YtekjikbaefgncaaGreat
open Go Go.Sl Go.Conc Go.Conc.Lib
set_option maxRecDepth 100000
theorem gr_at {A : Own} {v : Value} {T : TypeId} {α : Type} {E : Flat α} {xs : List α} (g : Gr A v T E xs) (hs : xs.length ≤ 281474976710656) {S : PHeap} (h : ∀ b o, (b, o) ∈ A → S.obj b = some o) : Sl S v E xs := by
  rcases g.at' with ⟨rfl, rfl, rfl⟩ | ⟨b, cap, sp, rfl, rfl, h1, h2⟩
  · exact Sl.nil _ _
  · refine ⟨hs, .inr ⟨cap, rfl, h2, ?_⟩⟩
    refine cells_flat (fun j v e => ?_)
    rw [add_none]
    have e0 := h b _ (List.mem_singleton.2 rfl)
    simp only [vo, vb]
    rw [cell_of e0]
    have hj : j < (xs.flatMap E.f).length := by
      rcases Nat.lt_or_ge j (xs.flatMap E.f).length with h | h
      · exact h
      · rw [List.getElem?_eq_none h] at e; cases e
    simp only [Nat.zero_add, List.getElem?_toArray]
    rw [List.getElem?_append_left hj]; exact e
def RowI (st : Nat → Nat) (val : Nat → Int) (i : Nat) (v : Value) (S : PHeap) : Prop := ∃ sl, v = .agg #[.int .i64 (i : Int), sl] ∧ Sl S sl intF ((List.range' (st i) (st (i + 1) - st i)).map val)
theorem RowI.mono {st : Nat → Nat} {val : Nat → Int} : ∀ i v (h h' : PHeap), (∀ b o, h.obj b = some o → h'.obj b = some o) → RowI st val i v h → RowI st val i v h' := fun i v h h' l ⟨sl, e, s⟩ => ⟨sl, e, s.sub l⟩
noncomputable abbrev FI (W : World) (RR : Value → Prop) (Wg Ch : Nat) (H0 : PHeap) (st : Nat → Nat) (val : Nat → Int) : Fk := mkFk Tryz.prog W RR Wg Ch 167 3 H0 (RowI st val) RowI.mono
instance {W : World} {RR : Value → Prop} {Wg Ch : Nat} {H0 : PHeap} {st : Nat → Nat} {val : Nat → Int} {i C : Nat} {v : Value} : IsCl Tryz.prog (· = JW (FI W RR Wg Ch H0 st val) i C v) := inferInstanceAs (IsCl (FI W RR Wg Ch H0 st val).P _)
noncomputable def body52 : Code := match Tryz.f113.body with | some c => c | _ => .skip
noncomputable def tail52 : Code := match Tryz.f113.body with | some (.seq _ c) => c | _ => .skip
section
variable {W : World} {RR : Value → Prop} {Wg Ch : Nat} {H0 : PHeap} {st : Nat → Nat} {val : Nat → Int}
attribute [local irreducible] Go.Code.so soOps Opq opo retO Go.Code.sl slOps slList opv
theorem tail52_jw (B : PHeap) (bS bC bO bCh : Nat) (fn : FuncId) (Fun52 : Fun Tryz.prog fn) (first cap : Array Value) (j : Nat) (hj : j < 4) (s4 : ∀ i, i < 5 → st i ≤ 1048576) (mono : st j ≤ st (j + 1)) (hgh : B.gh = [0]) (hsub : ∀ b o, H0.obj b = some o → B.obj b = some o)
    (hS : BAt B bS (.cells #[.int .i64 (st 0), .int .i64 (st 1), .int .i64 (st 2), .int .i64 (st 3), .int .i64 (st 4)] 156 (0, 0)))
    (hC : BAt B bC (.cells #[.int .i64 j] 3 (0, 0))) (hO : BAt B bO (.cells #[.func (.func fn) first cap] 130 (0, 0))) (hCh : BAt B bCh (.cells #[.chan (some Ch)] 158 (0, 0)))
    (of : ∀ (M : Jdg → Prop) [IsCl Tryz.prog M] (B' : PHeap), Le B B' → ∀ k, st j ≤ k → k < st (j + 1) → CallsR Tryz.prog M fn (first.toList ++ [.int .i64 (k : Int)] ++ cap.toList) B' fun v _ => v = .int .i64 (val k)) :
    tail52.sl Tryz.prog (· = JW (FI W RR Wg Ch H0 st val) j bC (.int .i64 j)) 28 (fun e _ h' => match e with | .nrm => h'.gh = [1] | _ => False) [(0, .pointer (some ⟨Wg, 0, none⟩)), (1, .pointer (some ⟨bS, 0, none⟩)), (2, .pointer (some ⟨bC, 0, none⟩)), (3, .pointer (some ⟨bO, 0, none⟩)), (4, .pointer (some ⟨bCh, 0, none⟩))] B := by
  have e0 : tail52 = .seq (match tail52 with | .seq a _ => a | _ => .skip) (.seq (.seq (match tail52 with | .seq _ (.seq (.seq a _) _) => a | _ => .skip) loop52) (match tail52 with | .seq _ (.seq _ a) => a | _ => .skip)) := rfl
  rw [e0]
  simp only [tail52, Tryz.f113]
  refine sl_seq ?_
  refine sl_reg ?_
  refine l_q (fun _ _ => o_assign (by rfl)) ?_
  refine l_nil ?_
  refine sl_seq ?_
  refine sl_seq ?_
  refine sl_reg ?_
  refine l_q (fun _ _ => o_loadB (by rfl) hC.at' (by rfl) (by rfl)) ?_
  have hcs : takeCells #[.int .i64 (st 0), .int .i64 (st 1), .int .i64 (st 2), .int .i64 (st 3), .int .i64 (st 4)] (0 + (j : Int).toNat * 1) 1 = some [.int .i64 (st j)] := by
    obtain rfl | rfl | rfl | rfl : j = 0 ∨ j = 1 ∨ j = 2 ∨ j = 3 := by omega
    all_goals rfl
  refine l_q (fun _ _ => o_indexAddrA (by rfl) (by rfl) (by omega) (by omega)) ?_
  refine l_q (fun _ _ => o_loadB (by rfl) hS.at' hcs (by rfl)) ?_
  refine l_q (fun _ _ => o_assign (by rfl)) ?_
  refine l_nil ?_
  refine sl_of_so (worker_loop B Wg bS bC bO bCh st fn Fun52 first cap val j hj s4 mono hS hC hO (of _) _ ⟨rfl, rfl, rfl, rfl, rfl, rfl, trivial⟩) (PHeap.le_refl _) rfl ?_
  rintro e L' A h' H' le ⟨rfl, v, ⟨g2, g4, g5, _⟩, gr⟩ rel
  have hB : ∀ b o, B.obj b = some o → H'.obj b = some o := fun b o e => (rel.base b o (le.le b o e).1).1
  refine sl_reg ?_
  refine l_q (fun _ _ => o_loadB g4 (hB _ _ hCh.at') (by rfl) (by rfl)) ?_
  refine l_q (fun _ _ => o_loadB (off := 0) (by first | exact g2 | (show Locals.get _ 2 = _; exact g2)) (hB _ _ hC.at') (by rfl) (by rfl)) ?_
  refine l_q (fun _ _ => o_move g5) ?_
  have hg' : H'.gh = [0] := (rel.gh.trans le.gh).trans hgh
  have hlen : ((List.range' (st j) (st (j + 1) - st j)).map val).length ≤ 281474976710656 := by
    have := s4 (j + 1) (by omega)
    simp; omega
  have hSl : Sl (beyond H0 (delb (ro H' [1]) bC)) v intF ((List.range' (st j) (st (j + 1) - st j)).map val) := gr_at gr hlen fun b o m => by
    obtain ⟨o1, o2, o3, o4⟩ := rel.own b o m
    have hn : H0.obj b = none := by
      cases z : H0.obj b with
      | none => rfl
      | some o => rw [(le.le b o (hsub b o z)).1] at o4; cases o4
    have hbC : b ≠ bC := fun z => by
      have := (le.le bC _ hC.at').1
      rw [← z, o4] at this; cases this
    simp only [beyond, hn, Option.isSome_none, Bool.false_eq_true, if_false, delb, ro, hbC]
    exact o1
  obtain ⟨ba, cp, rfl⟩ := hSl.val
  refine l_q (fun _ _ => o_build (by infer_instance) (by infer_instance) (by rfl) (by rfl)) ?_
  refine l_send (F := FI W RR Wg Ch H0 st val) (C := bC) (i := j) (v := .int .i64 j) hg' (hB _ _ hC.at') (by rfl) (by rfl) ?_ ?_
  · exact ⟨_, rfl, hSl⟩
  · exact l_nil rfl
end
end Go.Proofs.YtekjikbaefgncaaGreat

/- Walks: a worker of sidesComputed[int], from its birth. -/
namespace Go.Proofs.YtekjikbaefgncaaGreat
open Go Go.Sl Go.Conc Go.Conc.Lib
set_option maxRecDepth 100000
section
variable {W : World} {RR : Value → Prop} {Wg Ch : Nat} {H0 : PHeap} {st : Nat → Nat} {val : Nat → Int}
theorem worker_jw (B : PHeap) (bS bC bO bCh : Nat) (fn : FuncId) (Fun52 : Fun Tryz.prog fn) (first cap : Array Value) (j : Nat) (hj : j < 4) (s4 : ∀ i, i < 5 → st i ≤ 1048576) (mono : st j ≤ st (j + 1)) (hgh : B.gh = [0]) (hsub : ∀ b o, H0.obj b = some o → B.obj b = some o)
    (hS : BAt B bS (.cells #[.int .i64 (st 0), .int .i64 (st 1), .int .i64 (st 2), .int .i64 (st 3), .int .i64 (st 4)] 156 (0, 0)))
    (hC : BAt B bC (.cells #[.int .i64 j] 3 (0, 0))) (hO : BAt B bO (.cells #[.func (.func fn) first cap] 130 (0, 0))) (hCh : BAt B bCh (.cells #[.chan (some Ch)] 158 (0, 0)))
    (of : ∀ (M : Jdg → Prop) [IsCl Tryz.prog M] (B' : PHeap), Le B B' → ∀ k, st j ≤ k → k < st (j + 1) → CallsR Tryz.prog M fn (first.toList ++ [.int .i64 (k : Int)] ++ cap.toList) B' fun v _ => v = .int .i64 (val k))
    (tm : Array Value) (ha : Agree 28 [(0, .pointer (some ⟨Wg, 0, none⟩)), (1, .pointer (some ⟨bS, 0, none⟩)), (2, .pointer (some ⟨bC, 0, none⟩)), (3, .pointer (some ⟨bO, 0, none⟩)), (4, .pointer (some ⟨bCh, 0, none⟩))] tm) :
    JW (FI W RR Wg Ch H0 st val) j bC (.int .i64 j) B (G ((baseD 113).at ⟨tm, []⟩ [.code body52]) [bot Tryz.prog]) := by
  have Qu : ∀ {g g' : Goroutine} {h : PHeap}, g.status = .running → (∀ main w, stepG Tryz.prog main g w = .go g' w) → JW (FI W RR Wg Ch H0 st val) j bC (.int .i64 j) h g' → JW (FI W RR Wg Ch H0 st val) j bC (.int .i64 j) h g := fun {g g' h} hr hs x => quiet (P := Tryz.prog) (M := (· = JW (FI W RR Wg Ch H0 st val) j bC (.int .i64 j))) rfl hr hs x
  have e0 : body52 = .seq (match body52 with | .seq a _ => a | _ => .skip) tail52 := rfl
  have e1 : (match body52 with | .seq a _ => a | _ => .skip) = Code.region 0 #[⟨none, .defer { callee := .value (.func 114), args := #[.tmp 0], argTypes := #[167] }, 0, "l12_pic.go:29", #[], none⟩] false := rfl
  rw [e0, e1]
  refine Qu rfl (fun _ _ => stepG_seq) ?_
  refine Qu rfl (fun _ _ => stepG_region) ?_
  refine Qu rfl (fun _ _ => stepG_defer (o := ⟨none, .defer { callee := .value (.func 114), args := #[.tmp 0], argTypes := #[167] }, 0, "l12_pic.go:29", #[], none⟩) rfl rfl (by simp [baseD]) rfl) ?_
  refine Qu rfl (fun _ _ => stepG_region_end) ?_
  have hd : (#[Operand.tmp 0] : Array Operand).map (Act.mk tm []).eval = #[.pointer (some ⟨Wg, 0, none⟩)] := by simp [Agree.ev (a := ⟨tm, []⟩) ha (o := .tmp 0) rfl]
  simp only [hd, Act.put]
  refine sl_app (tail52_jw B bS bC bO bCh fn Fun52 first cap j hj s4 mono hgh hsub hS hC hO hCh of) rfl (baseD 113) [] [bot Tryz.prog] [dcall 114 #[.pointer (some ⟨Wg, 0, none⟩)]] tm (by simp [baseD]) ha (ends_nrm fun L1 h1 tm1 q1 ha1 => ?_)
  refine Qu rfl (fun _ _ => stepG_end) ?_
  exact jw_out (F := FI W RR Wg Ch H0 st val) (Wl := wgLink) wgLib rfl Tryz.func113 rfl q1
end
end Go.Proofs.YtekjikbaefgncaaGreat

/- Walks: the starter's phase in sidesComputed[int]: its wait. -/
namespace Go.Proofs.YtekjikbaefgncaaGreat
open Go Go.Sl Go.Conc Go.Conc.Lib
set_option maxRecDepth 100000
noncomputable def fork43 : Code := match Tryz.f99.body with | some (.seq _ (.seq _ (.seq _ (.seq _ (.seq c _))))) => c | _ => .skip
noncomputable def join43 : Code := match Tryz.f99.body with | some (.seq _ (.seq _ (.seq _ (.seq _ (.seq _ (.seq c _)))))) => c | _ => .skip
instance {W : World} {RR : Value → Prop} {Wg Ch : Nat} {H0 : PHeap} {st : Nat → Nat} {val : Nat → Int} : IsCl Tryz.prog (· = JM (FI W RR Wg Ch H0 st val)) := inferInstanceAs (IsCl (FI W RR Wg Ch H0 st val).P _)
abbrev ml (bO bS bCh Wg j : Nat) : Locals := [(3, .pointer (some ⟨bO, 0, none⟩)), (5, .pointer (some ⟨bS, 0, none⟩)), (6, .pointer (some ⟨bCh, 0, none⟩)), (7, .pointer (some ⟨Wg, 0, none⟩)), (17, .int .i64 (j : Int))]
section
variable {W : World} {RR : Value → Prop} {Wg Ch : Nat} {H0 : PHeap} {st : Nat → Nat} {val : Nat → Int}
attribute [local irreducible] Go.Code.sl slOps slList opv
theorem join43_jm (bO bS bCh : Nat) (h : PHeap) (hgh : h.gh = [0, 4]) (K : Locals → PHeap → Prop) (L : Locals) (hL : Locals.sub (ml bO bS bCh Wg 4) L) (hK : ∀ v, K (setL (some 23) v L) (stay h [10])) :
    join43.sl Tryz.prog (· = JM (FI W RR Wg Ch H0 st val)) 43 (fun e L' h' => match e with | .nrm => K L' h' | _ => False) L h := by
  simp only [join43, Tryz.f99]
  refine sl_reg ?_
  refine l_call (F := FI W RR Wg Ch H0 st val) wgLib.f_wait rfl rfl (vs := [.pointer (some ⟨Wg, 0, none⟩)]) (by show evAll L [.tmp 7] = _; simp only [evAll, ev, hL.2.2.2.1]) (wait_jm (F := FI W RR Wg Ch H0 st val) wgLib hgh) ?_
  rintro v _ rfl
  exact l_nil (hK v)
end
end Go.Proofs.YtekjikbaefgncaaGreat

/- Walks: the starter's phase in sidesComputed[int]: its loop. -/
namespace Go.Proofs.YtekjikbaefgncaaGreat
open Go Go.Sl Go.Conc Go.Conc.Lib
set_option maxRecDepth 100000
section
variable {W : World} {RR : Value → Prop} {Wg Ch : Nat} {H0 : PHeap} {st : Nat → Nat} {val : Nat → Int}
attribute [local irreducible] Go.Code.sl slOps slList opv
theorem fork43_jm (bS bO bCh : Nat) (fn : FuncId) (Fun52 : Fun Tryz.prog fn) (first cap : Array Value) (s4 : ∀ i, i < 5 → st i ≤ 1048576) (mono : ∀ j, j < 4 → st j ≤ st (j + 1))
    (hS : H0.obj bS = some (.cells #[.int .i64 (st 0), .int .i64 (st 1), .int .i64 (st 2), .int .i64 (st 3), .int .i64 (st 4)] 156 (0, 0))) (hO : H0.obj bO = some (.cells #[.func (.func fn) first cap] 130 (0, 0))) (hCh : H0.obj bCh = some (.cells #[.chan (some Ch)] 158 (0, 0)))
    (of : ∀ (M : Jdg → Prop) [IsCl Tryz.prog M] (B' : PHeap), (∀ b o, H0.obj b = some o → B'.obj b = some o) → ∀ k, k < st 4 → CallsR Tryz.prog M fn (first.toList ++ [.int .i64 (k : Int)] ++ cap.toList) B' fun v _ => v = .int .i64 (val k)) (m4 : ∀ j, j < 4 → st (j + 1) ≤ st 4) (h : PHeap) (hgh : h.gh = [0, 0]) (ro0 : ∀ b o, H0.obj b = some o → h.obj b = some o ∧ h.wr b = false) (L : Locals)
    (hL : Locals.sub [(3, .pointer (some ⟨bO, 0, none⟩)), (5, .pointer (some ⟨bS, 0, none⟩)), (6, .pointer (some ⟨bCh, 0, none⟩)), (7, .pointer (some ⟨Wg, 0, none⟩))] L) :
    fork43.sl Tryz.prog (· = JM (FI W RR Wg Ch H0 st val)) 43 (fun e L' h' => match e with | .nrm => h'.gh = [0, 4] ∧ (∀ b o, H0.obj b = some o → h'.obj b = some o ∧ h'.wr b = false) ∧ Locals.sub (ml bO bS bCh Wg 4) L' | _ => False) L h := by
  simp only [fork43, Tryz.f99]
  refine sl_seq ?_
  refine sl_reg ?_
  refine l_q (fun _ _ => o_move (by rfl)) ?_
  refine l_nil ?_
  refine sl_block ?_
  refine sl_loop (ι := Nat) (Lo := fun j => ml bO bS bCh Wg j) (A := fun j h' => j ≤ 4 ∧ h'.gh = [0, j] ∧ ∀ b o, H0.obj b = some o → h'.obj b = some o ∧ h'.wr b = false) (μ := fun j => 4 - j) 0 ⟨hL.1, hL.2.1, hL.2.2.1, hL.2.2.2.1, rfl, trivial⟩ ⟨by decide, hgh, ro0⟩ ?_
  rintro j h1 ⟨hj, hg1, ro1⟩
  refine sl_seq ?_
  refine sl_reg ?_
  refine l_q (x_num (by rfl) (by rfl) (by rfl)) ?_
  refine l_nil ?_
  refine sl_seq ?_
  refine sl_cond (by rfl) (fun c1 => ?_) (fun c1 => ?_)
  · have hlt : j < 4 := by
      have := of_decide_eq_true c1
      omega
    refine sl_skip ?_
    refine sl_seq ?_
    refine sl_block ?_
    refine sl_seq ?_
    refine sl_reg ?_
    refine l_q (fun _ _ => o_move (by rfl)) ?_
    refine l_plain rfl (by rfl) (o_alloc fun C hCn => ?_)
    refine l_plain rfl (by rfl) (o_store (v := .int .i64 (j : Int)) (b := C) (off := 0) (by rfl) (by rfl) (obj_put _ _ _) (wr_put _ _ _) (by rfl) (by show 1 ≤ 1; decide) (by rfl) ?_)
    refine l_nil ?_
    refine sl_seq ?_
    refine sl_reg ?_
    refine l_call (F := FI W RR Wg Ch H0 st val) wgLib.f_add rfl rfl (vs := [.pointer (some ⟨Wg, 0, none⟩), .int .i64 1]) (by rfl) (add_jm (F := FI W RR Wg Ch H0 st val) wgLib (j := j) hj hg1) ?_
    rintro v _ rfl
    refine l_nil ?_
    refine sl_reg ?_
    refine l_q (fun _ _ => o_makeFunc (vs := []) (us := [.pointer (some ⟨Wg, 0, none⟩), .pointer (some ⟨bS, 0, none⟩), .pointer (some ⟨C, 0, none⟩), .pointer (some ⟨bO, 0, none⟩), .pointer (some ⟨bCh, 0, none⟩)]) (by rfl) (by rfl)) ?_
    have hC0 : H0.obj C = none := by
      cases z : H0.obj C with
      | none => rfl
      | some o => rw [(ro1 C o z).1] at hCn; cases hCn
    have hne : ∀ b o, H0.obj b = some o → b ≠ C := fun b o z e => by rw [e, hC0] at z; cases z
    have hob : ∀ b o, H0.obj b = some o → (stay ((h1.put C (.cells (Value.int .i64 0).cells 3)).put C (.cells (setCells (Value.int .i64 0).cells 0 (Value.int .i64 (j : Int)).cells.toList) 3)) [3, j]).obj b = some o := fun b o z => by
      simp only [stay, PHeap.put, hne b o z, if_false]; exact (ro1 b o z).1
    refine l_go (F := FI W RR Wg Ch H0 st val) (vs := [.pointer (some ⟨Wg, 0, none⟩), .pointer (some ⟨bS, 0, none⟩), .pointer (some ⟨C, 0, none⟩), .pointer (some ⟨bO, 0, none⟩), .pointer (some ⟨bCh, 0, none⟩)]) (C := C) (v := .int .i64 (j : Int)) (j := j) (f := 113) (nf := 28) rfl hlt (by rfl) Tryz.func113 rfl rfl rfl (show 5 ≤ 28 by decide) ?_ ?_ hC0 (fun tm ha => ?_) ?_
    · simp [stay, PHeap.put]; exact ⟨rfl, rfl⟩
    · simp [stay, PHeap.put]
    · refine worker_jw (H0 := H0) (ro _ [0]) bS C bO bCh fn Fun52 first cap j hlt s4 (mono j hlt) rfl (fun b o z => hob b o z) ⟨hob _ _ hS⟩ ⟨?_⟩ ⟨hob _ _ hO⟩ ⟨hob _ _ hCh⟩ (fun M _ B' le k k1 k2 => of M B' (fun b o z => (le.le b o (hob b o z)).1) k (Nat.lt_of_lt_of_le k2 (m4 j hlt))) tm ha
      simp [ro, stay, PHeap.put]; rfl
    · refine l_nil ?_
      refine sl_reg ?_
      refine l_q (x_num (by rfl) (by rfl) (by rfl)) ?_
      refine l_q (fun _ _ => o_move (by rfl)) ?_
      refine l_nil ?_
      have hw : IntKind.i64.wrap ((j : Int) + 1) = ((j + 1 : Nat) : Int) := by rw [IntKind.wrap_i64]; omega
      refine ⟨j + 1, by show 4 - (j + 1) < 4 - j; omega, ⟨rfl, rfl, rfl, rfl, ?_, trivial⟩, by omega, rfl, fun b o z => ⟨?_, rfl⟩⟩
      · rw [← hw]; rfl
      · simp only [delb, hne b o z, if_false]; exact hob b o z
  · have : j = 4 := by
      have := of_decide_eq_false c1
      omega
    subst this
    refine sl_exit ?_
    exact ⟨hg1, ro1, ⟨rfl, rfl, rfl, rfl, rfl, trivial⟩⟩
end
end Go.Proofs.YtekjikbaefgncaaGreat

/- Walks: sidesComputed[int], whole. -/
namespace Go.Proofs.YtekjikbaefgncaaGreat
open Go Go.Sl
set_option maxRecDepth 100000
set_option maxHeartbeats 4000000
attribute [local irreducible] Go.Code.sf sfOps Opq opo retF Do1 anyO
variable {M : Jdg → Prop} [IsCl Tryz.prog M]
theorem gridRows_v (h : PHeap) (ca : List Value) (g : Grid) (b : (gridR τ).B h ca g) (hw : 0 < g.wide) : CallV Tryz.prog M 102 [.agg ca.toArray] h (.int .i64 ((g.cells.length : Int) / g.wide)) := by
  obtain ⟨c, rfl, s⟩ := gridB b
  have o1 := s.one
  have hs := s.small
  refine calls_of_sf Tryz.func102 rfl Tryz.ntmps102 ?_
  simp only [argsL, Nat.reduceAdd]
  repeat (first | refine R1 ?_ | (refine R2 ?_; intro _))
  exact sf_ret (rV rfl)
theorem sideStarts_v (h : PHeap) (ca : List Value) (g : Grid) (b : (gridR τ).B h ca g) (w r : Nat) (hw : g.wide = w) (h1 : 1 ≤ w) (h5 : w ≤ 5) (hr : (g.cells.length : Int) / g.wide = r) (hr5 : r ≤ 5) : CallV Tryz.prog M 111 [.agg ca.toArray] h (.agg #[.int .i64 (stOf w r 0 : Nat), .int .i64 (stOf w r 1 : Nat), .int .i64 (stOf w r 2 : Nat), .int .i64 (stOf w r 3 : Nat), .int .i64 (stOf w r 4 : Nat)]) := by
  obtain ⟨c, rfl, s⟩ := gridB b
  have o1 := s.one
  refine calls_of_sf Tryz.func111 rfl Tryz.ntmps111 ?_
  simp only [argsL, Nat.reduceAdd]
  repeat (first | refine R1 ?_ | (refine R2 ?_; intro _))
  refine fp (y_callV (gridRows_v _ _ g b (by omega)) (by rfl) ?_)
  rw [hr]
  obtain ⟨gw, gc⟩ := g
  simp only at hw hr
  subst hw
  repeat (first | refine R1 ?_ | (refine R2 ?_; intro _))
  refine sf_ret (rV ?_)
  simp only [stOf, IntKind.wrap_i64, Value.agg.injEq]
  simp
  omega
noncomputable def tail43 : Code := match Tryz.f99.body with | some (.seq _ (.seq _ (.seq _ (.seq _ c)))) => c | _ => .skip
noncomputable def rest43 : Code := match Tryz.f99.body with | some (.seq _ (.seq _ (.seq _ (.seq _ (.seq _ (.seq _ c)))))) => c | _ => .skip
theorem hide4 {P : Program} {M : Jdg → Prop} {n : Nat} {Q : Qf} {L : Locals} {O : Own} {h : PHeap} {c0 c1 c2 c3 t t' : Code} (e : t' = t) (x : (Code.seq c0 (.seq c1 (.seq c2 (.seq c3 t')))).sf P M n Q L O h) : (Code.seq c0 (.seq c1 (.seq c2 (.seq c3 t)))).sf P M n Q L O h := e ▸ x
def SideI (h : PHeap) (w r : Nat) (val : Nat → Int) (i : Nat) (v : Value) : Prop := Sl h v intF ((List.range' (stOf w r i) (stOf w r (i + 1) - stOf w r i)).map val)
theorem sidesInt_f [al : Alone Tryz.prog M] (h : PHeap) (ca : List Value) (g : Grid) (b : (gridR τ).B h ca g) (w r : Nat) (hw : g.wide = w) (h1 : 1 ≤ w) (h5 : w ≤ 5) (hr : (g.cells.length : Int) / g.wide = r) (hr5 : r ≤ 5) (fn : FuncId) [Fu : Fun Tryz.prog fn] (first cap : Array Value) (val : Nat → Int)
    (of : ∀ (M : Jdg → Prop) [IsCl Tryz.prog M] (h' : PHeap), (∀ b o, h.obj b = some o → h'.obj b = some o) → ∀ k, k < stOf w r 4 → CallV Tryz.prog M fn (first.toList ++ [.int .i64 (k : Int)] ++ cap.toList) h' (.int .i64 (val k))) :
    CallF Tryz.prog M 99 [.agg ca.toArray, .func (.func fn) first cap] [] h fun v A => Gr A v 3 intF ((List.range (stOf w r 4)).map val) := by
  obtain ⟨W, RR, rfl⟩ := al.is
  have b0 := b
  obtain ⟨c, rfl, s⟩ := gridB b
  have o1 := s.one
  refine calls_of_sf Tryz.func99 rfl Tryz.ntmps99 ?_
  simp only [argsL, Nat.reduceAdd]
  obtain ⟨t', et⟩ : ∃ t', t' = tail43 := ⟨_, rfl⟩
  refine hide4 (et.trans rfl) ?_
  repeat (first | refine R1 ?_ | (refine R2 ?_; intro _))
  refine fp (y_callV (sideStarts_v _ _ g b0 w r hw h1 h5 hr hr5) (by rfl) ?_)
  repeat (first | refine R1 ?_ | (refine R2 ?_; intro _))
  refine f_makeChan (by rfl) (by rfl) fun Ch => ?_
  repeat (first | refine R1 ?_ | (refine R2 ?_; intro _))
  rename_i b2 b3 b5 b6 b7
  subst et
  show (Code.seq fork43 (Code.seq join43 rest43)).sf _ _ _ _ _ _ _
  refine sf_fork (Wg := b7) (Ch := Ch) (ty := 167) (it := 3) (RowI (stOf w r) val) RowI.mono (fun L' => Locals.sub (ml b3 b5 b6 b7 4) L') (R := [(b6, .cells #[.chan (some Ch)] 158), (b5, .cells #[.int .i64 (stOf w r 0 : Nat), .int .i64 (stOf w r 1 : Nat), .int .i64 (stOf w r 2 : Nat), .int .i64 (stOf w r 3 : Nat), .int .i64 (stOf w r 4 : Nat)] 156), (b3, .cells #[.func (.func fn) first cap] 130), (b2, .cells #[.int .i64 g.wide, c] 35)]) ?_ (fun H0 hle hR hWg hCh => ?_) fun L' h2 rows hle hL hp hrow => ?_
  · exact (List.Perm.refl _).cons _ |>.trans ((List.Perm.swap _ _ _).cons _)
  · refine sl_mono (fork43_jm (Wg := b7) (Ch := Ch) (H0 := H0) (W := W) (RR := RR) (st := stOf w r) (val := val) b5 b3 b6 fn Fu first cap (fun i _ => Nat.le_trans (stOf_le h5 hr5 i) (by decide)) (stOf_mono) (hR _ _ (by simp)) (hR _ _ (by simp)) (hR _ _ (by simp)) (fun M _ B' hB k hk => callsR_of (of M B' (fun b o z => hB b o (hle b o z).1) k hk)) ?_ (ro H0 [0, 0]) rfl (fun b o z => ⟨z, rfl⟩) _ ⟨rfl, rfl, rfl, rfl, trivial⟩) ?_
    · intro j hj
      obtain rfl | rfl | rfl | rfl : j = 0 ∨ j = 1 ∨ j = 2 ∨ j = 3 := by omega
      all_goals simp only [stOf]; omega
    · rintro e L1 h1' q
      cases e with
      | nrm =>
        obtain ⟨q1, q2, q3⟩ := q
        exact join43_jm b3 b5 b6 h1' q1 (fun L' h' => h'.gh = [10] ∧ (∀ b o, H0.obj b = some o → h'.obj b = some o ∧ h'.wr b = false) ∧ Locals.sub (ml b3 b5 b6 b7 4) L') L1 q3 fun v => ⟨rfl, fun b o z => q2 b o z, ⟨q3.1, q3.2.1, q3.2.2.1, q3.2.2.2.1, q3.2.2.2.2.1, trivial⟩⟩
      | _ => exact q.elim
  · simp only [rest43]
    refine sf_sub (ml b3 b5 b6 b7 4) hL ?_
    repeat (first | refine R1 ?_ | (refine R2 ?_; intro _))
    refine f_close (by rfl) ?_
    repeat (first | refine R1 ?_ | (refine R2 ?_; intro _))
    rename_i b9
    refine sf_lp (ι := List (Nat × Value) × Value × Value × Value × Value) [9, 25] (fun _ => []) (fun x O => ∃ rc, O = [(b9, .cells #[x.2.1, x.2.2.1, x.2.2.2.1, x.2.2.2.2] 171), (Ch, .chan 4 (x.1.map Prod.snd).toArray true 4 rc false)] ∧ (∀ p ∈ x.1, p.1 < 4 ∧ RowI (stOf w r) val p.1 p.2 h2) ∧ (Sl.One x.2.1 ∧ Sl.One x.2.2.1 ∧ Sl.One x.2.2.2.1 ∧ Sl.One x.2.2.2.2) ∧ (0 ∈ x.1.map Prod.fst ∨ SideI h2 w r val 0 x.2.1) ∧ (1 ∈ x.1.map Prod.fst ∨ SideI h2 w r val 1 x.2.2.1) ∧ (2 ∈ x.1.map Prod.fst ∨ SideI h2 w r val 2 x.2.2.2.1) ∧ (3 ∈ x.1.map Prod.fst ∨ SideI h2 w r val 3 x.2.2.2.2)) (fun x => x.1.length) (rows, .slice none 0 0, .slice none 0 0, .slice none 0 0, .slice none 0 0) [(b9, .cells #[.slice none 0 0, .slice none 0 0, .slice none 0 0, .slice none 0 0] 171), (Ch, .chan 4 (rows.map Prod.snd).toArray true 4 0 false)] ⟨0, rfl, fun p hp' => ⟨?_, hrow p hp'⟩, ⟨inferInstance, inferInstance, inferInstance, inferInstance⟩, .inl ?_, .inl ?_, .inl ?_, .inl ?_⟩ ?_
    · have := hp.mem_iff.1 (List.mem_map.2 ⟨p, hp', rfl⟩)
      simp at this; omega
    · exact hp.mem_iff.2 (by simp)
    · exact hp.mem_iff.2 (by simp)
    · exact hp.mem_iff.2 (by simp)
    · exact hp.mem_iff.2 (by simp)
    clear hrow hp hL hle b b0 of
    rintro ⟨rs, v0, v1, v2, v3⟩ O ⟨rc, rfl, hrow, ⟨p0, p1, p2, p3⟩, s0, s1, s2, s3⟩
    simp only at hrow p0 p1 p2 p3 s0 s1 s2 s3 ⊢
    match rs, hrow, s0, s1, s2, s3 with
    | [], hrow, s0, s1, s2, s3 =>
      simp only [List.map_nil, List.not_mem_nil, false_or] at s0 s1 s2 s3 ⊢
      repeat (first | refine R1 ?_ | (refine R2 ?_; intro _))
      refine f_shut (by rfl) ?_
      repeat (first | refine R1 ?_ | (refine R2 ?_; intro _))
      refine sf_cond (by rfl) (fun e => by cases e) fun _ => ?_
      refine sf_exit ?_
      repeat (first | refine R1 ?_ | (refine R2 ?_; intro _))
      have t0 := stOf_le (w := w) (r := r) h5 hr5 0
      have t1 := stOf_le (w := w) (r := r) h5 hr5 1
      have t2 := stOf_le (w := w) (r := r) h5 hr5 2
      have t3 := stOf_le (w := w) (r := r) h5 hr5 3
      have t4 := stOf_le (w := w) (r := r) h5 hr5 4
      refine sf_lp (ι := Nat × Value) [34] (fun x => [(35, .int .i64 (x.1 : Int)), (11, x.2)]) (fun x O => x.1 ≤ 4 ∧ Gr O x.2 3 intF ((List.range (stOf w r x.1)).map val)) (fun x => 4 - x.1) (0, .slice none 0 0) [] ⟨by decide, by simpa [stOf] using Gr.nil _ _⟩ ?_
      rintro ⟨k, v⟩ O ⟨hk, g3⟩
      simp only at hk g3 ⊢
      have o5 := g3.one
      repeat (first | refine R1 ?_ | (refine R2 ?_; intro _))
      refine sf_if (fun h4 => ?_) fun h4 => ?_
      · have hk4 : k = 0 ∨ k = 1 ∨ k = 2 ∨ k = 3 := by omega
        have hrng : ∀ j, j < 4 → (List.range (stOf w r j)).map val ++ (List.range' (stOf w r j) (stOf w r (j + 1) - stOf w r j)).map val = (List.range (stOf w r (j + 1))).map val := fun j hj => by
          rw [← List.map_append]
          congr 1
          rw [List.range_eq_range', List.range_eq_range', show stOf w r (j + 1) = stOf w r j + (stOf w r (j + 1) - stOf w r j) by have := stOf_mono (w := w) (r := r) j hj; omega, ← List.range'_append_1]
          simp
        rcases hk4 with rfl | rfl | rfl | rfl
        · repeat (first | refine R1 ?_ | (refine R2 ?_; intro _))
          refine fp (Rq ?_ (q_index (by infer_instance) (by infer_instance) (by rfl) (by rfl) (by decide) (by decide) (by rfl)))
          repeat (first | refine R1 ?_ | (refine R2 ?_; intro _))
          refine fp (y_appendS (by rfl) (by rfl) g3 s0 (fun y _ => FlatOne.one y) (by rfl) (by rfl) (by simp; omega) (by simp; omega) fun v' A' g4 => ?_)
          repeat (first | refine R1 ?_ | (refine R2 ?_; intro _))
          exact ⟨(1, v'), by simp only; omega, ⟨rfl, rfl, trivial⟩, rfl, A', _, inferInstance, by simp only; omega, by rw [← hrng 0 (by decide)]; exact g4⟩
        · repeat (first | refine R1 ?_ | (refine R2 ?_; intro _))
          refine fp (Rq ?_ (q_index (by infer_instance) (by infer_instance) (by rfl) (by rfl) (by decide) (by decide) (by rfl)))
          repeat (first | refine R1 ?_ | (refine R2 ?_; intro _))
          refine fp (y_appendS (by rfl) (by rfl) g3 s1 (fun y _ => FlatOne.one y) (by rfl) (by rfl) (by simp; omega) (by simp; omega) fun v' A' g4 => ?_)
          repeat (first | refine R1 ?_ | (refine R2 ?_; intro _))
          exact ⟨(2, v'), by simp only; omega, ⟨rfl, rfl, trivial⟩, rfl, A', _, inferInstance, by simp only; omega, by rw [← hrng 1 (by decide)]; exact g4⟩
        · repeat (first | refine R1 ?_ | (refine R2 ?_; intro _))
          refine fp (Rq ?_ (q_index (by infer_instance) (by infer_instance) (by rfl) (by rfl) (by decide) (by decide) (by rfl)))
          repeat (first | refine R1 ?_ | (refine R2 ?_; intro _))
          refine fp (y_appendS (by rfl) (by rfl) g3 s2 (fun y _ => FlatOne.one y) (by rfl) (by rfl) (by simp; omega) (by simp; omega) fun v' A' g4 => ?_)
          repeat (first | refine R1 ?_ | (refine R2 ?_; intro _))
          exact ⟨(3, v'), by simp only; omega, ⟨rfl, rfl, trivial⟩, rfl, A', _, inferInstance, by simp only; omega, by rw [← hrng 2 (by decide)]; exact g4⟩
        · repeat (first | refine R1 ?_ | (refine R2 ?_; intro _))
          refine fp (Rq ?_ (q_index (by infer_instance) (by infer_instance) (by rfl) (by rfl) (by decide) (by decide) (by rfl)))
          repeat (first | refine R1 ?_ | (refine R2 ?_; intro _))
          refine fp (y_appendS (by rfl) (by rfl) g3 s3 (fun y _ => FlatOne.one y) (by rfl) (by rfl) (by simp; omega) (by simp; omega) fun v' A' g4 => ?_)
          repeat (first | refine R1 ?_ | (refine R2 ?_; intro _))
          exact ⟨(4, v'), by simp only; omega, ⟨rfl, rfl, trivial⟩, rfl, A', _, inferInstance, by simp only; omega, by rw [← hrng 3 (by decide)]; exact g4⟩
      · refine sf_exit ?_
        repeat (first | refine R1 ?_ | (refine R2 ?_; intro _))
        have : k = 4 := by omega
        subst this
        exact sf_ret (rO O g3)
    | (i, u) :: rs, hrow, s0, s1, s2, s3 =>
      have hh := hrow (i, u) (List.mem_cons_self ..)
      simp only [RowI] at hh
      obtain ⟨hi, sl, rfl, sl0⟩ := hh
      have ol := sl0.one
      have hrow' : ∀ p ∈ rs, p.1 < 4 ∧ RowI (stOf w r) val p.1 p.2 h2 := fun p hp => hrow p (List.mem_cons_of_mem _ hp)
      simp only [List.map_cons] at s0 s1 s2 s3 ⊢
      repeat (first | refine R1 ?_ | (refine R2 ?_; intro _))
      have hi' : i = 0 ∨ i = 1 ∨ i = 2 ∨ i = 3 := by omega
      refine f_recv (by rfl) ?_
      repeat (first | refine R1 ?_ | (refine R2 ?_; intro _))
      refine sf_T rfl ?_
      rcases hi' with rfl | rfl | rfl | rfl
      · repeat (first | refine R1 ?_ | (refine R2 ?_; intro _))
        exact ⟨(rs, sl, v1, v2, v3), by simp only [List.length_cons]; omega, trivial, rfl, _, _, inferInstance, rc + 1, rfl, hrow', ⟨ol, p1, p2, p3⟩, .inr sl0, by simpa using s1, by simpa using s2, by simpa using s3⟩
      · repeat (first | refine R1 ?_ | (refine R2 ?_; intro _))
        exact ⟨(rs, v0, sl, v2, v3), by simp only [List.length_cons]; omega, trivial, rfl, _, _, inferInstance, rc + 1, rfl, hrow', ⟨p0, ol, p2, p3⟩, by simpa using s0, .inr sl0, by simpa using s2, by simpa using s3⟩
      · repeat (first | refine R1 ?_ | (refine R2 ?_; intro _))
        exact ⟨(rs, v0, v1, sl, v3), by simp only [List.length_cons]; omega, trivial, rfl, _, _, inferInstance, rc + 1, rfl, hrow', ⟨p0, p1, ol, p3⟩, by simpa using s0, by simpa using s1, .inr sl0, by simpa using s3⟩
      · repeat (first | refine R1 ?_ | (refine R2 ?_; intro _))
        exact ⟨(rs, v0, v1, v2, sl), by simp only [List.length_cons]; omega, trivial, rfl, _, _, inferInstance, rc + 1, rfl, hrow', ⟨p0, p1, p2, ol⟩, by simpa using s0, by simpa using s1, by simpa using s2, .inr sl0⟩
end Go.Proofs.YtekjikbaefgncaaGreat

/- Walks: pictures, parts, keepers looked at: the program's own. -/
namespace Go.Proofs.YtekjikbaefgncaaGreat
open Go Go.Sl
set_option maxRecDepth 100000
set_option maxHeartbeats 4000000
attribute [local irreducible] Go.Code.sf sfOps Opq opo retF Do1 anyO
variable {M : Jdg → Prop} [IsCl Tryz.prog M]
theorem picOf1_v (h : PHeap) (c : Value) (g : Grid) (s : Sl h c cellF g.cells) (e : gridOk g = true) (b : Nat) [BAt h b (.cells #[.int .i64 g.wide, c] 35)] (k : Int) (hk : 0 ≤ k ∧ k < manyOf g) : CallV Tryz.prog M 100 [.int .i64 k, .pointer (some ⟨b, 0, none⟩)] h (.int .i64 (trailLight g k)) := by
  have o1 := s.one
  refine calls_of_sf Tryz.func100 rfl Tryz.ntmps100 ?_
  simp only [argsL, Nat.reduceAdd]
  repeat (first | refine R1 ?_ | (refine R2 ?_; intro _))
  refine fp (y_callV (trailLight_v h c g s e k hk) (by rfl) ?_)
  repeat (first | refine R1 ?_ | (refine R2 ?_; intro _))
  exact sf_ret (rV rfl)
theorem picOf_f [al : Alone Tryz.prog M] (h : PHeap) (ca : List Value) (g : Grid) (b : (gridR τ).B h ca g) (e : gridOk g = true) : CallF Tryz.prog M 84 [.agg ca.toArray] [] h fun u A => Gr A u 3 intF (picOf g) := by
  obtain ⟨c, rfl, s⟩ := gridB b
  have o1 := s.one
  have kg := gok e
  have w1 := kg.w1; have w5 := kg.w5; have r1 := kg.r1; have r5 := kg.r5
  obtain ⟨ww, ew⟩ : ∃ ww : Nat, g.wide = ww := ⟨g.wide.toNat, by omega⟩
  obtain ⟨rr, er⟩ : ∃ rr : Nat, rowsOf g = rr := ⟨(rowsOf g).toNat, by omega⟩
  have hN : (manyOf g).toNat = stOf ww rr 4 := by
    simp only [stOf]; rw [manyOf, er, ew]; omega
  refine calls_of_sf Tryz.func84 rfl Tryz.ntmps84 ?_
  simp only [argsL, Nat.reduceAdd]
  repeat (first | refine R1 ?_ | (refine R2 ?_; intro _))
  refine fp (y_callV (gridOk_v _ _ g b) (by rfl) ?_)
  rw [e]
  repeat (first | refine R1 ?_ | (refine R2 ?_; intro _))
  refine sf_cond (by rfl) (fun e => by cases e) fun z1 => ?_
  clear z1
  repeat (first | refine R1 ?_ | (refine R2 ?_; intro _))
  rename_i b1
  refine fp (y_lend [(b1, .cells #[.int .i64 g.wide, c] 35)] (fun h' l i => sidesInt_f h' _ g (gridB_mk (s.le l.le)) ww rr ew (by omega) (by omega) er (by omega) 100 #[] #[.pointer (some ⟨b1, 0, none⟩)] (fun k => trailLight g (k : Nat)) (fun M _ h'' sub k hk => ?_)) (by rfl) ?_)
  · haveI : BAt h'' b1 (.cells #[.int .i64 g.wide, c] 35) := ⟨sub _ _ (i.at' _ _ (by simp))⟩
    exact picOf1_v h'' c g ((s.le l.le).sub sub) e b1 k (by omega)
  intro v A gr
  rw [← hN] at gr
  repeat (first | refine R1 ?_ | (refine R2 ?_; intro _))
  exact sf_ret (rO A gr)
end Go.Proofs.YtekjikbaefgncaaGreat

/- Walks: a keeper takes an edit in. -/
namespace Go.Proofs.YtekjikbaefgncaaGreat
open Go Go.Sl
set_option maxRecDepth 100000
set_option maxHeartbeats 4000000
attribute [local irreducible] Go.Code.sf sfOps Opq opo retF Do1 anyO
variable {M : Jdg → Prop} [IsCl Tryz.prog M]
theorem cloneInts_f (h : PHeap) (v : Value) (xs : List Int) (s : Sl h v intF xs) (hs : xs.length ≤ 1048576) : CallF Tryz.prog M 107 [v] [] h fun v' A => Gr A v' 3 intF xs := by
  have o1 := s.one
  refine calls_of_sf Tryz.func107 rfl Tryz.ntmps107 ?_
  simp only [argsL, Nat.reduceAdd]
  repeat (first | refine R1 ?_ | (refine R2 ?_; intro _))
  refine fp (Rq ?_ (q_eqNil (by infer_instance) (by rfl) (by rfl) s))
  repeat (first | refine R1 ?_ | (refine R2 ?_; intro _))
  refine sf_cond (by rfl) (fun h1 => ?_) fun h1 => ?_
  · obtain ⟨rfl, rfl⟩ := isNilS_nil s h1
    repeat (first | refine R1 ?_ | (refine R2 ?_; intro _))
    exact sf_ret (rO [] (Gr.nil _ _))
  · repeat (first | refine R1 ?_ | (refine R2 ?_; intro _))
    refine fp (y_bs (by rfl) (by rfl) (by rfl) (by rfl) (by decide) fun w A gw => ?_)
    repeat (first | refine R1 ?_ | (refine R2 ?_; intro _))
    refine fp (y_appendS (by rfl) (by rfl) gw s (fun y _ => FlatOne.one y) (by rfl) (by rfl) (by simp; omega) (by simp; omega) fun w2 A2 g2 => ?_)
    repeat (first | refine R1 ?_ | (refine R2 ?_; intro _))
    exact sf_ret (rO A2 g2)
end Go.Proofs.YtekjikbaefgncaaGreat

/- Walks: feet and scenes: the program's own. -/
namespace Go.Proofs.YtekjikbaefgncaaGreat
open Go Go.Sl
set_option maxRecDepth 100000
set_option maxHeartbeats 4000000
attribute [local irreducible] Go.Code.sf sfOps Opq opo retF Do1 anyO
variable {M : Jdg → Prop} [IsCl Tryz.prog M]
theorem trailFoot_f (h : PHeap) (c : Value) (g : Grid) (s : Sl h c cellF g.cells) (e : gridOk g = true) (k : Int) (hk : 0 ≤ k ∧ k < manyOf g) : CallF Tryz.prog M 86 [.agg #[.int .i64 g.wide, c], .int .i64 k] [] h fun u A => Gr A u 3 intF (footOf g k) := by
  have o1 := s.one
  have kg := gok e
  obtain ⟨sz, vs, es, hc, hg, hsz, hok⟩ := goLight_is kg hk.1 hk.2
  have hlv := hok.lv
  have hvs : ∀ v ∈ vs, 0 ≤ v.at' ∧ v.at' < g.cells.length := fun v hv => ⟨(hok.vs v hv).a0, (hok.vs v hv).a1⟩
  simp only at hlv
  refine calls_of_sf Tryz.func86 rfl Tryz.ntmps86 ?_
  simp only [argsL, Nat.reduceAdd]
  repeat (first | refine R1 ?_ | (refine R2 ?_; intro _))
  refine fp (y_call (trailOf_f h c g s e k hk) (by rfl) ?_)
  rintro _ _ ⟨vv, ev, AV, AE, rfl, rfl, gv, ge⟩
  rw [hg] at gv ge
  have ov := gv.one
  have oe := ge.one
  simp only at ge gv
  have hfoot : compactF (sortF (vs.map Visit.at')) = footOf g k := by rw [foot_sorted g vs hvs, footOf, hg]
  clear hc hg
  repeat (first | refine R1 ?_ | (refine R2 ?_; intro _))
  rename_i b2
  refine sf_lp (ι := Nat × Value) [11, 12] (fun x => [(5, x.2), (13, .int .i64 (x.1 : Int))]) (fun x O => x.1 ≤ vs.length ∧ ∃ A xs, O = A ++ (AV ++ (AE ++ [(b2, .cells #[.int .i64 g.wide, c] 35)])) ∧ xs = (vs.take x.1).map Visit.at' ∧ Gr A x.2 3 intF xs) (fun x => vs.length - x.1) (0, .slice none 0 0) ([] ++ (AV ++ (AE ++ [(b2, .cells #[.int .i64 g.wide, c] 35)]))) ⟨by simp only; omega, [], [], rfl, rfl, Gr.nil _ _⟩ ?_
  rintro ⟨j, w⟩ O ⟨hj, A, xs, rfl, hxs, gx⟩
  simp only at hj hxs gx ⊢
  have lx : xs.length = j := by rw [hxs]; simp; omega
  have ow := gx.one
  repeat (first | refine R1 ?_ | (refine R2 ?_; intro _))
  refine sf_if (fun e1 => ?_) fun e1 => ?_
  · have hj1 : j < vs.length := by omega
    repeat (first | refine R1 ?_ | (refine R2 ?_; intro _))
    rename_i b7
    refine fp (y_bs (by rfl) (by rfl) (by rfl) (by rfl) (by decide) fun u Au gu => ?_)
    repeat (first | refine R1 ?_ | (refine R2 ?_; intro _))
    refine fp (y_append (by rfl) (by rfl) gx gu (fun y _ => FlatOne.one y) (by rfl) (by rfl) (by simp; omega) (by simp; omega) fun w2 A2 g2 => ?_)
    repeat (first | refine R1 ?_ | (refine R2 ?_; intro _))
    exact ⟨(j + 1, w2), by simp only; omega, ⟨rfl, rfl, trivial⟩, rfl, A2 ++ (AV ++ (AE ++ [(b2, .cells #[.int .i64 g.wide, c] 35)])), _, inferInstance, by simp only; omega, A2, _, rfl, by simp only; rw [take_succ_gt hj1, List.map_append, ← hxs]; rfl, g2⟩
  · refine sf_exit ?_
    obtain rfl : j = vs.length := by omega
    rw [List.take_of_length_le (Nat.le_refl _)] at hxs
    repeat (first | refine R1 ?_ | (refine R2 ?_; intro _))
    refine fp (y_call (sort_f (M := M) _ w A xs gx (by omega)) (by rfl) ?_)
    rintro _ A2 ⟨rfl, g2⟩
    repeat (first | refine R1 ?_ | (refine R2 ?_; intro _))
    refine fp (y_call (compact_f (M := M) _ w A2 _ g2 (by rw [sortF_len]; omega)) (by rfl) ?_)
    intro w3 A3 g3
    repeat (first | refine R1 ?_ | (refine R2 ?_; intro _))
    refine sf_ret (rO A3 ?_)
    rw [← hfoot, ← hxs]; exact g3
instance : EqFl Tryz.prog 44 cellF := eqFl_cell inferInstance (inferInstance : Ty Tryz.prog 3 _ 1 _ _) (by kernel_rfl)
theorem cellsEqual_v (h : PHeap) (a b : Value) (xs ys : List Cell) (sx : Sl h a cellF xs) (sy : Sl h b cellF ys) : CallV Tryz.prog M 87 [a, b] h (.bool (decide (xs = ys))) := by
  have o1 := sx.one
  have o2 := sy.one
  have hx := sx.small
  have hy := sy.small
  refine calls_of_sf Tryz.func87 rfl Tryz.ntmps87 ?_
  simp only [argsL, Nat.reduceAdd]
  repeat (first | refine R1 ?_ | (refine R2 ?_; intro _))
  refine sf_if (fun e0 => ?_) fun e0 => ?_
  · repeat (first | refine R1 ?_ | (refine R2 ?_; intro _))
    exact sf_ret (rV (bF fun e => e0 (by rw [e])))
  have hl : xs.length = ys.length := by omega
  repeat (first | refine R1 ?_ | (refine R2 ?_; intro _))
  refine sf_rd [0, 1, 12] 13 xs.length 0 (fun k => xs.take k = ys.take k) (by omega) rfl (fun k hk hi => ?_)
  repeat (first | refine R1 ?_ | (refine R2 ?_; intro _))
  refine sf_if (fun h4 => ?_) fun h4 => ?_
  · have hk4 : k < xs.length := by omega
    have hk5 : k < ys.length := by omega
    repeat (first | refine R1 ?_ | (refine R2 ?_; intro _))
    refine sf_draw (by kernel_rfl) (regX_run [[], [], [0, 1], [0, 1, 2], [], [], [4, 5], [4, 5, 6], [0, 1, 2, 3, 4, 5, 6, 7]] 8 [(0, false), (1, false), (2, false), (3, false), (4, false), (5, false), (6, false), (7, false)] (by kernel_rfl) (by kernel_rfl) (by kernel_rfl) ?_)
    repeat (refine Da1 ?_)
    (refine a_end (by rfl) (by rfl) ?_; simp only [finA, setL, List.drop_succ_cons, List.drop_zero])
    refine fp (Rq ?_ (q_neqS (E := cellF) (a := gt xs k) (b := gt ys k) inferInstance (by rfl) (by rfl)))
    repeat (first | refine R1 ?_ | (refine R2 ?_; intro _))
    refine sf_ifn (fun e1 => ?_) fun e1 => ?_
    · repeat (first | refine R1 ?_ | (refine R2 ?_; intro _))
      exact sf_ret (rV (bF (eq_at e1)))
    · repeat (first | refine R1 ?_ | (refine R2 ?_; intro _))
      exact ⟨⟨hk4, eq_step hk4 hk5 hi e1⟩, rfl, rfl, _, inferInstance⟩
  · refine sf_exit ?_
    repeat (first | refine R1 ?_ | (refine R2 ?_; intro _))
    exact sf_ret (rV (bT (eq_end hl (by omega) hi)))
theorem equalFunc_v (h : PHeap) (a b : Value) (xs ys : List (List Int)) (sx : SlR (intSR τ) h a xs) (sy : SlR (intSR τ) h b ys) : CallV Tryz.prog M 59 [a, b, .func (.func 58) #[] #[]] h (.bool (decide (xs = ys))) := by
  have o1 := sx.one
  have o2 := sy.one
  obtain ⟨rx, sx, bx⟩ := sx
  obtain ⟨ry, sy, by'⟩ := sy
  have lx := bx.len
  have ly := by'.len
  have hx := sx.small
  have hy := sy.small
  refine calls_of_sf Tryz.func59 rfl Tryz.ntmps59 ?_
  simp only [argsL, Nat.reduceAdd]
  repeat (first | refine R1 ?_ | (refine R2 ?_; intro _))
  refine sf_if (fun e0 => ?_) fun e0 => ?_
  · repeat (first | refine R1 ?_ | (refine R2 ?_; intro _))
    exact sf_ret (rV (bF fun e => e0 (by rw [lx, ly, e])))
  have hl : xs.length = ys.length := by omega
  repeat (first | refine R1 ?_ | (refine R2 ?_; intro _))
  refine sf_rd [0, 1, 2, 15, 16] 17 xs.length 0 (fun k => xs.take k = ys.take k) (by omega) rfl (fun k hk hi => ?_)
  repeat (first | refine R1 ?_ | (refine R2 ?_; intro _))
  refine sf_if (fun h4 => ?_) fun h4 => ?_
  · have hk4 : k < xs.length := by omega
    have hk5 : k < ys.length := by omega
    have bx4 := bx.at hk4
    have by4 := by'.at hk5
    have hk6 : k < rx.length := by omega
    have hk7 : k < ry.length := by omega
    obtain ⟨vx, ex, sx4⟩ := bx4
    obtain ⟨vy, ey, sy4⟩ := by4
    haveI : FlatV (rawF (intSR τ).sz) (gt rx k) [vx] := ⟨ex⟩
    haveI : FlatV (rawF (intSR τ).sz) (gt ry k) [vy] := ⟨ey⟩
    have o3 := sx4.one
    have o4 := sy4.one
    repeat (first | refine R1 ?_ | (refine R2 ?_; intro _))
    refine fp (y_callCV (first := #[]) (captured := #[]) (vs := [vx, vy]) (by simpa using intsEqual_v (M := M) _ _ _ _ _ sx4 sy4) (by rfl) (by rfl) ?_)
    repeat (first | refine R1 ?_ | (refine R2 ?_; intro _))
    refine sf_ifn (fun e1 => ?_) fun e1 => ?_
    · repeat (first | refine R1 ?_ | (refine R2 ?_; intro _))
      exact sf_ret (rV (bF (eq_at e1)))
    · repeat (first | refine R1 ?_ | (refine R2 ?_; intro _))
      exact ⟨⟨hk4, eq_step hk4 hk5 hi (by exact e1)⟩, rfl, rfl, _, inferInstance⟩
  · refine sf_exit ?_
    repeat (first | refine R1 ?_ | (refine R2 ?_; intro _))
    exact sf_ret (rV (bT (eq_end hl (by omega) hi)))
theorem gridSame_v (h : PHeap) (ca cb : List Value) (x y : Grid) (bx : (gridR τ).B h ca x) (by' : (gridR τ).B h cb y) : CallV Tryz.prog M 57 [.agg ca.toArray, .agg cb.toArray] h (.bool (decide (x = y))) := by
  obtain ⟨c1, rfl, s1⟩ := gridB bx
  obtain ⟨c2, rfl, s2⟩ := gridB by'
  have o1 := s1.one
  have o2 := s2.one
  refine calls_of_sf Tryz.func57 rfl Tryz.ntmps57 ?_
  simp only [argsL, Nat.reduceAdd]
  repeat (first | refine R1 ?_ | (refine R2 ?_; intro _))
  refine f_split (fun e1 => ?_) fun e1 => ?_
  · repeat (first | refine R1 ?_ | (refine R2 ?_; intro _))
    refine fp (y_callV (cellsEqual_v _ _ _ _ _ s1 s2) (by rfl) ?_)
    repeat (first | refine R1 ?_ | (refine R2 ?_; intro _))
    refine sf_ret (rV ?_)
    congr 1
    cases x; cases y; simp_all
  · repeat (first | refine R1 ?_ | (refine R2 ?_; intro _))
    refine sf_ret (rV ?_)
    congr 1
    cases x; cases y; simp_all
theorem sceneSame_v (h : PHeap) (ca cb : List Value) (x y : Scene) (bx : (sceneR τ).B h ca x) (by' : (sceneR τ).B h cb y) : CallV Tryz.prog M 28 [.agg ca.toArray, .agg cb.toArray] h (.bool (decide (x = y))) := by
  obtain ⟨c1, l1, f1, rfl, s1, t1, u1⟩ := sceneB bx
  obtain ⟨c2, l2, f2, rfl, s2, t2, u2⟩ := sceneB by'
  have o1 := s1.one
  have o2 := s2.one
  have o3 := t1.one
  have o4 := t2.one
  have o5 := u1.one
  have o6 := u2.one
  refine calls_of_sf Tryz.func28 rfl Tryz.ntmps28 ?_
  simp only [argsL, Nat.reduceAdd]
  repeat (first | refine R1 ?_ | (refine R2 ?_; intro _))
  refine fp (y_callV (gridSame_v _ _ _ x.grid y.grid (gridB_mk s1) (gridB_mk s2)) (by rfl) ?_)
  repeat (first | refine R1 ?_ | (refine R2 ?_; intro _))
  refine f_split (fun e1 => ?_) fun e1 => ?_
  · repeat (first | refine R1 ?_ | (refine R2 ?_; intro _))
    refine fp (y_callV (intsEqual_v _ _ _ _ _ t1 t2) (by rfl) ?_)
    repeat (first | refine R1 ?_ | (refine R2 ?_; intro _))
    refine f_split (fun e2 => ?_) fun e2 => ?_
    · repeat (first | refine R1 ?_ | (refine R2 ?_; intro _))
      refine fp (y_callV (equalFunc_v _ _ _ _ _ u1 u2) (by rfl) ?_)
      repeat (first | refine R1 ?_ | (refine R2 ?_; intro _))
      refine sf_ret (rV ?_)
      congr 1
      cases x; cases y; simp_all
    · repeat (first | refine R1 ?_ | (refine R2 ?_; intro _))
      refine sf_ret (rV ?_)
      congr 1
      cases x; cases y; simp_all
  · repeat (first | refine R1 ?_ | (refine R2 ?_; intro _))
    refine sf_ret (rV ?_)
    congr 1
    cases x; cases y; simp_all
end Go.Proofs.YtekjikbaefgncaaGreat

/- Walks: scenes: the program's own. -/
namespace Go.Proofs.YtekjikbaefgncaaGreat
open Go Go.Sl
set_option maxRecDepth 100000
set_option maxHeartbeats 4000000
attribute [local irreducible] Go.Code.sf sfOps Opq opo retF Do1 anyO
variable {M : Jdg → Prop} [IsCl Tryz.prog M]
instance : ElemF Tryz.prog 25 (rawF (intSR τ).sz) := ⟨trivial⟩
theorem sceneOf_f [al : Alone Tryz.prog M] (h : PHeap) (ca : List Value) (g : Grid) (b : (gridR τ).B h ca g) (e : gridOk g = true) : CallF Tryz.prog M 56 [.agg ca.toArray] [] h fun u A => ∃ cs, u = .agg cs.toArray ∧ (sceneR τ).O A cs (sceneOf g) := by
  obtain ⟨c, rfl, s⟩ := gridB b
  have o1 := s.one
  have kg := gok e
  have hm := kg.many
  have hsm := kg.small
  obtain ⟨N, hN⟩ : ∃ N : Nat, manyOf g = N := ⟨(manyOf g).toNat, by omega⟩
  have hf : feetOf g = (List.range N).map fun k => footOf g (k : Nat) := by rw [feetOf, hN]; rfl
  refine calls_of_sf Tryz.func56 rfl Tryz.ntmps56 ?_
  simp only [argsL, Nat.reduceAdd]
  repeat (first | refine R1 ?_ | (refine R2 ?_; intro _))
  rename_i b1 b2
  apply viaT (G := ∀ (c2 p2 : Value) (AC AP : Own) (b3 : Nat), Gr AC c2 44 cellF g.cells → Gr AP p2 3 intF (picOf g) → _)
  · intro tail
    refine sf_draw (by kernel_rfl) (regX_split 1 5 (by rfl) (regX_split 3 5 (by rfl) ?_ ?_) ?_)
    case' refine_1 =>
      refine (regX_run [[], [0], [], [0, 1, 2], [0, 1, 2, 3], [0, 1, 2, 3], [0, 1, 2, 3, 4, 5]] 6 [(0, false), (2, false), (1, true), (3, true), (4, false), (5, true)] (by kernel_rfl) (by kernel_rfl) (by kernel_rfl) ?_)
      repeat (refine Da1 ?_)
      refine a_call (gridCopy_f _ _ g (gridB_mk s) (by omega)) (by rfl) (by rfl) (.inl rfl) ?_
      rintro _ AC ⟨_, rfl, q⟩
      obtain ⟨c2, rfl, g1, l1⟩ := gridO q
      have o5 := g1.one
      repeat (refine Da1 ?_)
      refine a_call (picOf_f (M := M) _ _ g (gridB_mk s) e) (by rfl) (by rfl) (.inl rfl) ?_
      intro p2 AP gp
      have o6 := gp.one
      repeat (refine Da1 ?_)
      refine a_alloc (by rfl) (.inl rfl) fun b3 => ?_
      repeat (refine Da1 ?_)
      (refine a_end (by rfl) (by rfl) ?_; simp only [finA, setL, List.drop_succ_cons, List.drop_zero])
      repeat (first | refine R1 ?_ | (refine R2 ?_; intro _))
      refine fops_keep [1, 2, 3, 10] ?_
      refine fops_own ((b3, .cells #[.int .i64 g.wide, c2, p2, .slice none 0 0] 37) :: (AC ++ (AP ++ [(b2, .cells #[.int .i64 0, .slice none 0 0, .slice none 0 0, .slice none 0 0] 37), (b1, .cells #[.int .i64 g.wide, c] 35)]))) ?_
      exact tail.out c2 p2 AC AP b3 g1 gp
    case' refine_2 =>
      refine (regX_run [[], [0], [], [0, 1, 2, 5], [0, 1, 2, 3, 5], [0, 1], [0, 1, 2, 3, 4, 5]] 6 [(0, false), (2, false), (1, true), (5, true), (3, true), (4, false)] (by kernel_rfl) (by kernel_rfl) (by kernel_rfl) ?_)
      repeat (refine Da1 ?_)
      refine a_call (gridCopy_f _ _ g (gridB_mk s) (by omega)) (by rfl) (by rfl) (.inl rfl) ?_
      rintro _ AC ⟨_, rfl, q⟩
      obtain ⟨c2, rfl, g1, l1⟩ := gridO q
      have o5 := g1.one
      repeat (refine Da1 ?_)
      refine a_alloc (by rfl) (.inl rfl) fun b3 => ?_
      repeat (refine Da1 ?_)
      refine a_call (picOf_f (M := M) _ _ g (gridB_mk s) e) (by rfl) (by rfl) (.inl rfl) ?_
      intro p2 AP gp
      have o6 := gp.one
      repeat (refine Da1 ?_)
      (refine a_end (by rfl) (by rfl) ?_; simp only [finA, setL, List.drop_succ_cons, List.drop_zero])
      repeat (first | refine R1 ?_ | (refine R2 ?_; intro _))
      refine fops_keep [1, 2, 3, 10] ?_
      refine fops_own ((b3, .cells #[.int .i64 g.wide, c2, p2, .slice none 0 0] 37) :: (AC ++ (AP ++ [(b2, .cells #[.int .i64 0, .slice none 0 0, .slice none 0 0, .slice none 0 0] 37), (b1, .cells #[.int .i64 g.wide, c] 35)]))) ?_
      exact tail.out c2 p2 AC AP b3 g1 gp
    case' refine_3 =>
      refine (regX_run [[], [0, 5], [], [0, 1, 2, 5], [0, 1, 2, 3, 5], [], [0, 1, 2, 3, 4, 5]] 6 [(0, false), (2, false), (5, true), (1, true), (3, true), (4, false)] (by kernel_rfl) (by kernel_rfl) (by kernel_rfl) ?_)
      repeat (refine Da1 ?_)
      refine a_alloc (by rfl) (.inl rfl) fun b3 => ?_
      repeat (refine Da1 ?_)
      refine a_call (gridCopy_f _ _ g (gridB_mk s) (by omega)) (by rfl) (by rfl) (.inl rfl) ?_
      rintro _ AC ⟨_, rfl, q⟩
      obtain ⟨c2, rfl, g1, l1⟩ := gridO q
      have o5 := g1.one
      repeat (refine Da1 ?_)
      refine a_call (picOf_f (M := M) _ _ g (gridB_mk s) e) (by rfl) (by rfl) (.inl rfl) ?_
      intro p2 AP gp
      have o6 := gp.one
      repeat (refine Da1 ?_)
      (refine a_end (by rfl) (by rfl) ?_; simp only [finA, setL, List.drop_succ_cons, List.drop_zero])
      repeat (first | refine R1 ?_ | (refine R2 ?_; intro _))
      refine fops_keep [1, 2, 3, 10] ?_
      refine fops_own ((b3, .cells #[.int .i64 g.wide, c2, p2, .slice none 0 0] 37) :: (AC ++ (AP ++ [(b2, .cells #[.int .i64 0, .slice none 0 0, .slice none 0 0, .slice none 0 0] 37), (b1, .cells #[.int .i64 g.wide, c] 35)]))) ?_
      exact tail.out c2 p2 AC AP b3 g1 gp
  intro c2 p2 AC AP b3 g1 gp
  have o5 := g1.one
  have o6 := gp.one
  refine fp (y_callV (sightMany_v _ _ g (gridB_mk s)) (by rfl) ?_)
  rw [sightMany_ok e, hN]
  repeat (first | refine R1 ?_ | (refine R2 ?_; intro _))
  refine sf_lp (ι := Nat) [1, 2, 3, 11] (fun k => [(12, .int .i64 (k : Int))]) (fun k O => k ≤ N ∧ ∃ fv A0 A1, O = (b3, .cells #[.int .i64 g.wide, c2, p2, fv] 37) :: (A0 ++ A1 ++ (AC ++ (AP ++ [(b2, .cells #[.int .i64 0, .slice none 0 0, .slice none 0 0, .slice none 0 0] 37), (b1, .cells #[.int .i64 g.wide, c] 35)]))) ∧ ∃ rs : List (Raw (intSR τ).sz), rs.length = k ∧ Gr A0 fv 25 (rawF (intSR τ).sz) rs ∧ OAll (intSR τ) A1 rs ((List.range k).map fun j => footOf g (j : Nat))) (fun k => N - k) 0 ((b3, .cells #[.int .i64 g.wide, c2, p2, .slice none 0 0] 37) :: ([] ++ [] ++ (AC ++ (AP ++ [(b2, .cells #[.int .i64 0, .slice none 0 0, .slice none 0 0, .slice none 0 0] 37), (b1, .cells #[.int .i64 g.wide, c] 35)])))) ⟨by omega, _, [], [], rfl, [], rfl, Gr.nil _ _, .nil⟩ ?_
  rintro k O ⟨hk, fv, A0, A1, rfl, rs, hr, gr, oa⟩
  have o7 := gr.one
  repeat (first | refine R1 ?_ | (refine R2 ?_; intro _))
  refine sf_if (fun h4 => ?_) fun h4 => ?_
  · have hk4 : k < N := by omega
    repeat (first | refine R1 ?_ | (refine R2 ?_; intro _))
    refine sf_draw (by kernel_rfl) (regX_run [[], [0], [], [], [2, 3], [2, 3, 4], [0, 1, 2, 3, 4, 5], [0, 1, 2, 3, 4, 5, 6], [0, 1, 2, 3, 4, 5, 6, 7]] 6 [(0, false), (1, false), (2, false), (3, false), (4, true), (5, true)] (by kernel_rfl) (by kernel_rfl) (by kernel_rfl) ?_)
    repeat (refine Da1 ?_)
    refine a_call (trailFoot_f (M := M) _ c g s e (k : Int) (by omega)) (by rfl) (by rfl) (.inl rfl) ?_
    intro w AW gw
    have o8 := gw.one
    repeat (refine Da1 ?_)
    refine a_bs (by rfl) (by rfl) (by infer_instance) (by infer_instance) (by infer_instance) (by infer_instance) (by rfl) (by rfl) (by rfl) (by decide) (.inl rfl) fun u Au gu => ?_
    repeat (refine Da1 ?_)
    (refine a_end (by rfl) (by rfl) ?_; simp only [finA, setL, List.drop_succ_cons, List.drop_zero])
    refine fp (y_append (by rfl) (by rfl) gr gu (by intro y hy; simp at hy; subst hy; exact (inferInstance : AllOne [w]).is) (by rfl) (by rfl) (by simp; omega) (by simp; omega) fun fv2 A5 g5 => ?_)
    have o9 := g5.one
    repeat (first | refine R1 ?_ | (refine R2 ?_; intro _))
    refine ⟨k + 1, by omega, ⟨rfl, trivial⟩, rfl, (b3, .cells #[.int .i64 g.wide, c2, p2, fv2] 37) :: (A5 ++ (A1 ++ AW) ++ (AC ++ (AP ++ [(b2, .cells #[.int .i64 0, .slice none 0 0, .slice none 0 0, .slice none 0 0] 37), (b1, .cells #[.int .i64 g.wide, c] 35)]))), _, inferInstance, by omega, fv2, A5, A1 ++ AW, rfl, _, by simp [hr], g5, ?_⟩
    rw [List.range_succ, List.map_append]
    exact oa.snoc ⟨w, rfl, gw, by show (footOf g (k : Int)).length ≤ _; unfold footOf; have := footIs_len g (goLight g (k : Int)).1; omega⟩
  · refine sf_exit ?_
    obtain rfl : k = N := by omega
    repeat (first | refine R1 ?_ | (refine R2 ?_; intro _))
    refine sf_ret (rO (AC ++ (AP ++ (A0 ++ A1))) ⟨_, rfl, ?_⟩)
    exact sceneO_mk (s := sceneOf g) g1 (by simp only [sceneOf]; omega) gp (by simp only [sceneOf]; rw [picOf_len, hN]; simp; omega) ⟨A0, A1, rfl, rs, gr, by simp only [sceneOf]; rw [hf]; exact oa, by simp only [sceneOf]; rw [hf]; simp; omega⟩
theorem sceneOk_v [al : Alone Tryz.prog M] (h : PHeap) (ca : List Value) (s : Scene) (b : (sceneR τ).B h ca s) : CallV Tryz.prog M 27 [.agg ca.toArray] h (.bool (sceneOk s)) := by
  obtain ⟨c, l, f, rfl, s1, s2, s3⟩ := sceneB b
  have o1 := s1.one
  have o2 := s2.one
  have o3 := s3.one
  have b0 := b
  refine calls_of_sf Tryz.func27 rfl Tryz.ntmps27 ?_
  simp only [argsL, Nat.reduceAdd]
  repeat (first | refine R1 ?_ | (refine R2 ?_; intro _))
  by_cases e : gridOk s.grid = true
  · have hg1 := gridOk_v (M := M) h _ s.grid (gridB_mk (τ := τ) s1)
    rw [e] at hg1
    refine sf_draw (by kernel_rfl) (regX_run [[], [0], [0, 1], [0, 1, 2], [0, 1, 2, 3], [0, 1, 2, 3], [0, 1, 2, 3, 5], [0, 1, 2, 3, 5, 6], [0, 1, 2, 3, 4, 5, 6, 7], [0, 1, 2, 3, 4, 5, 6, 7, 8], [0, 1, 2, 3, 4, 5, 6, 7, 8, 9]] 8 [(0, false), (1, false), (2, true), (3, false), (4, false), (5, false), (6, false), (7, true)] (by kernel_rfl) (by kernel_rfl) (by kernel_rfl) ?_)
    repeat (refine Da1 ?_)
    refine a_callV hg1 (by rfl) (by rfl) (.inl rfl) ?_
    repeat (refine Da1 ?_)
    refine a_call (sceneOf_f (M := M) _ _ s.grid (gridB_mk s1) e) (by rfl) (by rfl) (.inr ⟨_, _, _, _, rfl, by rfl, by rfl, rfl⟩) ?_
    rintro _ A1 ⟨cs, rfl, q⟩
    have q0 := q
    obtain ⟨c2, l2, f2, X1, X2, X3, rfl, rfl, ⟨g1, _⟩, ⟨g2, _⟩, g3⟩ := sceneO q
    have o4 := g1.one
    have o5 := g2.one
    have o6 := g3.one
    repeat (refine Da1 ?_)
    (refine a_end (by rfl) (by rfl) ?_; simp only [finA, setL, List.drop_succ_cons, List.drop_zero])
    refine fp (y_lendV (X1 ++ (X2 ++ X3)) (fun h' l i => sceneSame_v (M := M) h' _ _ s (sceneOf s.grid) ((sceneR τ).up l b0) ((sceneR τ).lent q0 i)) (by rfl) ?_)
    repeat (first | refine R1 ?_ | (refine R2 ?_; intro _))
    refine sf_ret (rV ?_)
    rw [sceneOk, e]; rfl
  · have e' : gridOk s.grid = false := by simpa using e
    have hg1 := gridOk_v (M := M) h _ s.grid (gridB_mk (τ := τ) s1)
    rw [e'] at hg1
    refine sf_draw (by kernel_rfl) (regX_run [[], [0], [0, 1], [0, 1, 2], [0, 1, 2, 3], [0, 1, 2, 3], [0, 1, 2, 3, 5], [0, 1, 2, 3, 5, 6], [0, 1, 2, 3, 4, 5, 6, 7], [0, 1, 2, 3, 4, 5, 6, 7, 8], [0, 1, 2, 3, 4, 5, 6, 7, 8, 9]] 8 [(0, false), (1, false), (2, true), (3, false), (4, false), (5, false), (6, false), (7, false)] (by kernel_rfl) (by kernel_rfl) (by kernel_rfl) ?_)
    repeat (refine Da1 ?_)
    refine a_callV hg1 (by rfl) (by rfl) (.inl rfl) ?_
    repeat (refine Da1 ?_)
    (refine a_end (by rfl) (by rfl) ?_; simp only [finA, setL, List.drop_succ_cons, List.drop_zero])
    repeat (first | refine R1 ?_ | (refine R2 ?_; intro _))
    refine sf_ret (rV ?_)
    rw [sceneOk, e']; rfl
theorem sceneNew_f [al : Alone Tryz.prog M] (h : PHeap) (ca : List Value) (g : Grid) (b : (gridR τ).B h ca g) : CallF Tryz.prog M 91 [.agg ca.toArray] [] h fun u A => ∃ cs, u = .tuple #[.agg cs.toArray, .bool (sceneNew g).2] ∧ (sceneR τ).O A cs (sceneNew g).1 := by
  obtain ⟨c, rfl, s⟩ := gridB b
  have o1 := s.one
  have b0 := b
  have hN : (sceneR τ).O [] [.int .i64 0, .slice none 0 0, .slice none 0 0, .slice none 0 0] noScene := sceneO_mk (s := noScene) (Gr.nil _ _) (by decide) (Gr.nil _ _) (by decide) (GrR.nil)
  refine calls_of_sf Tryz.func91 rfl Tryz.ntmps91 ?_
  simp only [argsL, Nat.reduceAdd]
  repeat (first | refine R1 ?_ | (refine R2 ?_; intro _))
  refine fp (y_callV (gridOk_v _ _ g b0) (by rfl) ?_)
  repeat (first | refine R1 ?_ | (refine R2 ?_; intro _))
  refine sf_cond (by rfl) (fun e => ?_) fun e => ?_
  · simp only [Bool.not_eq_true'] at e
    repeat (first | refine R1 ?_ | (refine R2 ?_; intro _))
    rw [sceneNew, if_neg (by rw [e]; decide)]
    exact sf_ret (rO [] ⟨_, rfl, hN⟩)
  · simp only [Bool.not_eq_false'] at e
    repeat (first | refine R1 ?_ | (refine R2 ?_; intro _))
    refine fp (y_call (sceneOf_f (M := M) _ _ g b0 e) (by rfl) ?_)
    rintro _ A1 ⟨cs, rfl, q⟩
    have q0 := q
    obtain ⟨c2, l2, f2, X1, X2, X3, rfl, rfl, ⟨g1, _⟩, ⟨g2, _⟩, g3⟩ := sceneO q
    have o4 := g1.one
    have o5 := g2.one
    have o6 := g3.one
    repeat (first | refine R1 ?_ | (refine R2 ?_; intro _))
    rw [sceneNew, if_pos e]
    exact sf_ret (rO (X1 ++ (X2 ++ X3)) ⟨_, rfl, q0⟩)
end Go.Proofs.YtekjikbaefgncaaGreat

/- Walks: painters looked at, what they tell: the program's own. -/
namespace Go.Proofs.YtekjikbaefgncaaGreat
open Go Go.Sl
set_option maxRecDepth 100000
set_option maxHeartbeats 4000000
attribute [local irreducible] Go.Code.sf sfOps Opq opo retF Do1 anyO
variable {M : Jdg → Prop} [IsCl Tryz.prog M]
theorem noSceneB (h : PHeap) : (sceneR τ).B h [.int .i64 0, .slice none 0 0, .slice none 0 0, .slice none 0 0] noScene := sceneB_mk (s := noScene) (Sl.nil _ _) (Sl.nil _ _) SlR.nil
theorem paintOk_v [al : Alone Tryz.prog M] (h : PHeap) (ca : List Value) (p : Painter) (b : (painterR τ).B h ca p) : CallV Tryz.prog M 9 [.agg ca.toArray] h (.bool (paintOk p)) := by
  obtain ⟨c, l, f, rfl, s1, s2, s3⟩ := painterB b
  have o1 := s1.one
  have o2 := s2.one
  have o3 := s3.one
  have bs : (sceneR τ).B h [.int .i64 p.scene.grid.wide, c, l, f] p.scene := sceneB_mk s1 s2 s3
  refine calls_of_sf Tryz.func9 rfl Tryz.ntmps9 ?_
  simp only [argsL, Nat.reduceAdd]
  repeat (first | refine R1 ?_ | (refine R2 ?_; intro _))
  refine sf_cond (by rfl) (fun e1 => ?_) fun e1 => ?_
  · have ep : paintOk p = (p.up && (decide (0 ≤ p.ver) && decide (p.ver ≤ 60)) && sceneOk p.scene) := by rw [paintOk, if_pos e1]
    rw [ep]
    repeat (first | refine R1 ?_ | (refine R2 ?_; intro _))
    refine f_splitB (fun e2 => ?_) fun e2 => ?_
    · repeat (first | refine R1 ?_ | (refine R2 ?_; intro _))
      refine f_split (fun e3 => ?_) fun e3 => ?_
      · repeat (first | refine R1 ?_ | (refine R2 ?_; intro _))
        refine f_split (fun e4 => ?_) fun e4 => ?_
        · repeat (first | refine R1 ?_ | (refine R2 ?_; intro _))
          refine fp (y_callV (sceneOk_v (M := M) _ _ p.scene bs) (by rfl) ?_)
          repeat (first | refine R1 ?_ | (refine R2 ?_; intro _))
          refine sf_ret (rV ?_)
          simp [e2]; omega
        · repeat (first | refine R1 ?_ | (refine R2 ?_; intro _))
          refine sf_ret (rV ?_)
          simp [e4]
      · repeat (first | refine R1 ?_ | (refine R2 ?_; intro _))
        refine sf_ret (rV ?_)
        simp; omega
    · repeat (first | refine R1 ?_ | (refine R2 ?_; intro _))
      refine sf_ret (rV ?_)
      simp [e2]
  · have ep : paintOk p = (decide (p.ver = 0) && decide (p.scene = noScene)) := by rw [paintOk, if_neg (by rw [e1]; decide)]
    rw [ep]
    repeat (first | refine R1 ?_ | (refine R2 ?_; intro _))
    refine f_split (fun e2 => ?_) fun e2 => ?_
    · repeat (first | refine R1 ?_ | (refine R2 ?_; intro _))
      refine fp (y_callV (sceneSame_v (M := M) _ _ _ p.scene noScene bs (noSceneB _)) (by rfl) ?_)
      repeat (first | refine R1 ?_ | (refine R2 ?_; intro _))
      refine sf_ret (rV ?_)
      simp [e2]
    · repeat (first | refine R1 ?_ | (refine R2 ?_; intro _))
      refine sf_ret (rV ?_)
      simp [e2]
end Go.Proofs.YtekjikbaefgncaaGreat

/- Walks: copies of scenes and painters: the program's own. -/
namespace Go.Proofs.YtekjikbaefgncaaGreat
open Go Go.Sl
set_option maxRecDepth 100000
set_option maxHeartbeats 4000000
attribute [local irreducible] Go.Code.sf sfOps Opq opo retF Do1 anyO
variable {M : Jdg → Prop} [IsCl Tryz.prog M]
theorem sceneCopy_f (h : PHeap) (ca : List Value) (s : Scene) (b : (sceneR τ).B h ca s) (hs : szSceneN s ≤ 1048576) : CallF Tryz.prog M 90 [.agg ca.toArray] [] h fun u A => ∃ cs, u = .agg cs.toArray ∧ (sceneR τ).O A cs s := by
  simp only [szSceneN, szIntSSN] at hs
  obtain ⟨c, l, f, rfl, s1, s2, s3⟩ := sceneB b
  have o1 := s1.one
  have o2 := s2.one
  have o3 := s3.one
  obtain ⟨rx, s3, bx⟩ := s3
  have lx := bx.len
  refine calls_of_sf Tryz.func90 rfl Tryz.ntmps90 ?_
  simp only [argsL, Nat.reduceAdd]
  repeat (first | refine R1 ?_ | (refine R2 ?_; intro _))
  rename_i b1 b2
  apply viaT (G := ∀ (c2 l2 : Value) (AC AL : Own) (b3 : Nat), Gr AC c2 44 cellF s.grid.cells → Gr AL l2 3 intF s.lights → _)
  · intro tail
    refine sf_draw (by kernel_rfl) (regX_split 2 7 (by rfl) (regX_split 5 7 (by rfl) ?_ ?_) ?_)
    case' refine_1 =>
      refine (regX_run [[], [0], [0, 1], [], [3], [0, 1, 2, 3, 4], [0, 1, 2, 3, 4, 5], [0, 1, 2, 3, 4, 5], [0, 1, 2, 3, 4, 5, 6, 7]] 8 [(0, false), (1, false), (3, false), (4, false), (2, true), (5, true), (6, false), (7, true)] (by kernel_rfl) (by kernel_rfl) (by kernel_rfl) ?_)
      repeat (refine Da1 ?_)
      refine a_call (gridCopy_f (M := M) _ _ s.grid (gridB_mk s1) (by omega)) (by rfl) (by rfl) (.inl rfl) ?_
      rintro _ AC ⟨_, rfl, q⟩
      obtain ⟨c2, rfl, g1, l1⟩ := gridO q
      have o5 := g1.one
      repeat (refine Da1 ?_)
      refine a_call (cloneInts_f (M := M) _ _ _ s2 (by omega)) (by rfl) (by rfl) (.inl rfl) fun l2 AL g2 => ?_
      have o7 := g2.one
      repeat (refine Da1 ?_)
      refine a_alloc (by rfl) (.inl rfl) fun b3 => ?_
      repeat (refine Da1 ?_)
      (refine a_end (by rfl) (by rfl) ?_; simp only [finA, setL, List.drop_succ_cons, List.drop_zero])
      repeat (first | refine R1 ?_ | (refine R2 ?_; intro _))
      refine sf_keep [2, 3, 14, 15, 16] ?_
      refine sf_own ((b3, .cells #[.int .i64 s.grid.wide, c2, l2, .slice none 0 0] 37) :: (AC ++ (AL ++ [(b2, .cells #[.int .i64 0, .slice none 0 0, .slice none 0 0, .slice none 0 0] 37), (b1, .cells #[.int .i64 s.grid.wide, c, l, f] 37)]))) ?_
      exact tail.out c2 l2 AC AL b3 g1 g2
    case' refine_2 =>
      refine (regX_run [[], [0], [0, 1], [], [3], [0, 1, 2, 3, 4, 7], [0, 1, 2, 3, 4, 5, 7], [0, 1, 2], [0, 1, 2, 3, 4, 5, 6, 7]] 8 [(0, false), (1, false), (3, false), (4, false), (2, true), (7, true), (5, true), (6, false)] (by kernel_rfl) (by kernel_rfl) (by kernel_rfl) ?_)
      repeat (refine Da1 ?_)
      refine a_call (gridCopy_f (M := M) _ _ s.grid (gridB_mk s1) (by omega)) (by rfl) (by rfl) (.inl rfl) ?_
      rintro _ AC ⟨_, rfl, q⟩
      obtain ⟨c2, rfl, g1, l1⟩ := gridO q
      have o5 := g1.one
      repeat (refine Da1 ?_)
      refine a_alloc (by rfl) (.inl rfl) fun b3 => ?_
      repeat (refine Da1 ?_)
      refine a_call (cloneInts_f (M := M) _ _ _ s2 (by omega)) (by rfl) (by rfl) (.inl rfl) fun l2 AL g2 => ?_
      have o7 := g2.one
      repeat (refine Da1 ?_)
      (refine a_end (by rfl) (by rfl) ?_; simp only [finA, setL, List.drop_succ_cons, List.drop_zero])
      repeat (first | refine R1 ?_ | (refine R2 ?_; intro _))
      refine sf_keep [2, 3, 14, 15, 16] ?_
      refine sf_own ((b3, .cells #[.int .i64 s.grid.wide, c2, l2, .slice none 0 0] 37) :: (AC ++ (AL ++ [(b2, .cells #[.int .i64 0, .slice none 0 0, .slice none 0 0, .slice none 0 0] 37), (b1, .cells #[.int .i64 s.grid.wide, c, l, f] 37)]))) ?_
      exact tail.out c2 l2 AC AL b3 g1 g2
    case' refine_3 =>
      refine (regX_run [[], [0], [0, 1, 7], [], [3], [0, 1, 2, 3, 4, 7], [0, 1, 2, 3, 4, 5, 7], [], [0, 1, 2, 3, 4, 5, 6, 7]] 8 [(0, false), (1, false), (3, false), (4, false), (7, true), (2, true), (5, true), (6, false)] (by kernel_rfl) (by kernel_rfl) (by kernel_rfl) ?_)
      repeat (refine Da1 ?_)
      refine a_alloc (by rfl) (.inl rfl) fun b3 => ?_
      repeat (refine Da1 ?_)
      refine a_call (gridCopy_f (M := M) _ _ s.grid (gridB_mk s1) (by omega)) (by rfl) (by rfl) (.inl rfl) ?_
      rintro _ AC ⟨_, rfl, q⟩
      obtain ⟨c2, rfl, g1, l1⟩ := gridO q
      have o5 := g1.one
      repeat (refine Da1 ?_)
      refine a_call (cloneInts_f (M := M) _ _ _ s2 (by omega)) (by rfl) (by rfl) (.inl rfl) fun l2 AL g2 => ?_
      have o7 := g2.one
      repeat (refine Da1 ?_)
      (refine a_end (by rfl) (by rfl) ?_; simp only [finA, setL, List.drop_succ_cons, List.drop_zero])
      repeat (first | refine R1 ?_ | (refine R2 ?_; intro _))
      refine sf_keep [2, 3, 14, 15, 16] ?_
      refine sf_own ((b3, .cells #[.int .i64 s.grid.wide, c2, l2, .slice none 0 0] 37) :: (AC ++ (AL ++ [(b2, .cells #[.int .i64 0, .slice none 0 0, .slice none 0 0, .slice none 0 0] 37), (b1, .cells #[.int .i64 s.grid.wide, c, l, f] 37)]))) ?_
      exact tail.out c2 l2 AC AL b3 g1 g2
  intro c2 l2 AC AL b3 g1 g2
  have o5 := g1.one
  have o7 := g2.one
  repeat (first | refine R1 ?_ | (refine R2 ?_; intro _))
  refine sf_lp (ι := Nat) [2, 3, 14, 15] (fun k => [(16, .int .i64 (k : Int))]) (fun k O => k ≤ s.feet.length ∧ ∃ fv A0 A1, O = (b3, .cells #[.int .i64 s.grid.wide, c2, l2, fv] 37) :: (A0 ++ A1 ++ (AC ++ (AL ++ [(b2, .cells #[.int .i64 0, .slice none 0 0, .slice none 0 0, .slice none 0 0] 37), (b1, .cells #[.int .i64 s.grid.wide, c, l, f] 37)]))) ∧ ∃ rs : List (Raw (intSR τ).sz), rs.length = k ∧ Gr A0 fv 25 (rawF (intSR τ).sz) rs ∧ OAll (intSR τ) A1 rs (s.feet.take k)) (fun k => s.feet.length - k) 0 ((b3, .cells #[.int .i64 s.grid.wide, c2, l2, .slice none 0 0] 37) :: ([] ++ [] ++ (AC ++ (AL ++ [(b2, .cells #[.int .i64 0, .slice none 0 0, .slice none 0 0, .slice none 0 0] 37), (b1, .cells #[.int .i64 s.grid.wide, c, l, f] 37)])))) ⟨by omega, _, [], [], rfl, [], rfl, Gr.nil _ _, .nil⟩ ?_
  rintro k O ⟨hk, fv, A0, A1, rfl, rs, hr, gr, oa⟩
  have o8 := gr.one
  repeat (first | refine R1 ?_ | (refine R2 ?_; intro _))
  refine sf_if (fun h4 => ?_) fun h4 => ?_
  · have hk4 : k < s.feet.length := by omega
    have hk5 : k < rx.length := by omega
    obtain ⟨vx, ex, sx4⟩ := bx.at hk4
    haveI : FlatV (rawF (intSR τ).sz) (gt rx k) [vx] := ⟨ex⟩
    have o9 := sx4.one
    have hsz := sizeL_at (f := List.length) hk4
    repeat (first | refine R1 ?_ | (refine R2 ?_; intro _))
    refine sf_draw (by kernel_rfl) (regX_run [[], [0], [], [2], [2, 3], [0, 1, 2, 3, 4], [0, 1, 2, 3, 4, 5], [0, 1, 2, 3, 4, 5, 6]] 5 [(0, false), (1, false), (2, false), (3, true), (4, true)] (by kernel_rfl) (by kernel_rfl) (by kernel_rfl) ?_)
    repeat (refine Da1 ?_)
    refine a_call (cloneInts_f (M := M) _ _ _ sx4 (by omega)) (by rfl) (by rfl) (.inl rfl) fun w AW gw => ?_
    have o10 := gw.one
    repeat (refine Da1 ?_)
    refine a_bs (by rfl) (by rfl) (by infer_instance) (by infer_instance) (by infer_instance) (by infer_instance) (by rfl) (by rfl) (by rfl) (by decide) (.inl rfl) fun u Au gu => ?_
    repeat (refine Da1 ?_)
    (refine a_end (by rfl) (by rfl) ?_; simp only [finA, setL, List.drop_succ_cons, List.drop_zero])
    refine fp (y_append (by rfl) (by rfl) gr gu (by intro y hy; simp at hy; subst hy; exact (inferInstance : AllOne [w]).is) (by rfl) (by rfl) (by simp; omega) (by simp; omega) fun fv2 A5 g5 => ?_)
    have o11 := g5.one
    repeat (first | refine R1 ?_ | (refine R2 ?_; intro _))
    refine ⟨k + 1, by omega, ⟨rfl, trivial⟩, rfl, (b3, .cells #[.int .i64 s.grid.wide, c2, l2, fv2] 37) :: (A5 ++ (A1 ++ AW) ++ (AC ++ (AL ++ [(b2, .cells #[.int .i64 0, .slice none 0 0, .slice none 0 0, .slice none 0 0] 37), (b1, .cells #[.int .i64 s.grid.wide, c, l, f] 37)]))), _, inferInstance, by omega, fv2, A5, A1 ++ AW, rfl, _, by simp [hr], g5, ?_⟩
    rw [take_succ_gt hk4]
    exact oa.snoc ⟨w, rfl, gw, by omega⟩
  · refine sf_exit ?_
    obtain rfl : k = s.feet.length := by omega
    rw [List.take_of_length_le (Nat.le_refl _)] at oa
    repeat (first | refine R1 ?_ | (refine R2 ?_; intro _))
    refine sf_ret (rO (AC ++ (AL ++ (A0 ++ A1))) ⟨_, rfl, ?_⟩)
    exact sceneO_mk (s := s) g1 (by omega) g2 (by omega) ⟨A0, A1, rfl, rs, gr, oa, by omega⟩
theorem painterCopy_f (h : PHeap) (ca : List Value) (p : Painter) (b : (painterR τ).B h ca p) (hs : szPainterN p ≤ 1048576) : CallF Tryz.prog M 74 [.agg ca.toArray] [] h fun u A => ∃ cs, u = .agg cs.toArray ∧ (painterR τ).O A cs p := by
  obtain ⟨c, l, f, rfl, s1, s2, s3⟩ := painterB b
  have o1 := s1.one
  have o2 := s2.one
  have o3 := s3.one
  refine calls_of_sf Tryz.func74 rfl Tryz.ntmps74 ?_
  simp only [argsL, Nat.reduceAdd]
  repeat (first | refine R1 ?_ | (refine R2 ?_; intro _))
  refine fp (y_call (sceneCopy_f (M := M) _ _ p.scene (sceneB_mk s1 s2 s3) hs) (by rfl) ?_)
  rintro _ A1 ⟨cs, rfl, q⟩
  obtain ⟨c2, l2, f2, X1, X2, X3, rfl, rfl, ⟨g1, k1⟩, ⟨g2, k2⟩, g3⟩ := sceneO q
  have o4 := g1.one
  have o5 := g2.one
  have o6 := g3.one
  repeat (first | refine R1 ?_ | (refine R2 ?_; intro _))
  exact sf_ret (rO (X1 ++ (X2 ++ X3)) ⟨_, rfl, painterO_mk g1 k1 g2 k2 g3⟩)
end Go.Proofs.YtekjikbaefgncaaGreat

/- Walks: which sights see a place: the program's own map. -/
namespace Go.Proofs.YtekjikbaefgncaaGreat
open Go Go.Sl
set_option maxRecDepth 100000
set_option maxHeartbeats 4000000
attribute [local irreducible] Go.Code.sf sfOps Opq opo retF Do1 anyO
variable {M : Jdg → Prop} [IsCl Tryz.prog M]
theorem nodup_take {xs : List Int} {j : Nat} (h : xs.Nodup) (hj : j < xs.length) : gt xs j ∉ xs.take j := by
  intro hm
  rw [gt_eq hj] at hm
  obtain ⟨i, hi, e⟩ := List.getElem_of_mem hm
  rw [List.getElem_take] at e
  rw [List.length_take] at hi
  exact List.pairwise_iff_getElem.1 h i j (by omega) hj (by omega) e
theorem sightsOf_f (h : PHeap) (ca : List Value) (s : Scene) (b : (sceneR τ).B h ca s) (hs : s.feet.length ≤ 1000000) (hn : ∀ k, k < s.feet.length → (gt s.feet k).Nodup) : CallF Tryz.prog M 124 [.agg ca.toArray] [] h fun u A => ∃ b o A', u = .map (some b) ∧ A = (b, o) :: A' ∧ SMap 3 A' o fun a => natsI (touched s.feet a) := by
  obtain ⟨c, l, f, rfl, s1, s2, s3⟩ := sceneB b
  have o1 := s1.one
  have o2 := s2.one
  have o3 := s3.one
  obtain ⟨rx, s3, bx⟩ := s3
  have lx := bx.len
  refine calls_of_sf Tryz.func124 rfl Tryz.ntmps124 ?_
  simp only [argsL, Nat.reduceAdd]
  repeat (first | refine R1 ?_ | (refine R2 ?_; intro _))
  rename_i b1
  refine fp (y_makeMap fun b3 o hm => ?_)
  repeat (first | refine R1 ?_ | (refine R2 ?_; intro _))
  refine sf_lp (ι := Nat) [3, 10, 11] (fun k => [(12, .int .i64 (k : Int))]) (fun k O => k ≤ s.feet.length ∧ ∃ o A, O = (b3, o) :: (A ++ [(b1, .cells #[.int .i64 s.grid.wide, c, l, f] 37)]) ∧ SMap 3 A o fun a => natsI (touchTo s.feet a k)) (fun k => s.feet.length - k) 0 ((b3, o) :: ([] ++ [(b1, .cells #[.int .i64 s.grid.wide, c, l, f] 37)])) ⟨by omega, o, [], rfl, (SMap.nil hm).congr fun a => rfl⟩ ?_
  clear hm o
  rintro k O ⟨hk, o, A, rfl, sm⟩
  repeat (first | refine R1 ?_ | (refine R2 ?_; intro _))
  refine sf_if (fun h4 => ?_) fun h4 => ?_
  · have hk4 : k < s.feet.length := by omega
    have hk5 : k < rx.length := by omega
    obtain ⟨vx, ex, sx4⟩ := bx.at hk4
    haveI : FlatV (rawF (intSR τ).sz) (gt rx k) [vx] := ⟨ex⟩
    have o4 := sx4.one
    have hnk := hn k hk4
    have hss := sx4.small
    repeat (first | refine R1 ?_ | (refine R2 ?_; intro _))
    refine sf_lp (ι := Nat) [3, 4, 10, 11, 12, 17, 18] (fun j => [(19, .int .i64 (j : Int))]) (fun j O => j ≤ (gt s.feet k).length ∧ ∃ o A, O = (b3, o) :: (A ++ [(b1, .cells #[.int .i64 s.grid.wide, c, l, f] 37)]) ∧ SMap 3 A o fun a => natsI (touchTo s.feet a k) ++ (if a ∈ (gt s.feet k).take j then [(k : Int)] else [])) (fun j => (gt s.feet k).length - j) 0 ((b3, o) :: (A ++ [(b1, .cells #[.int .i64 s.grid.wide, c, l, f] 37)])) ⟨by omega, o, A, rfl, sm.congr fun a => by simp⟩ ?_
    clear sm
    rintro j O ⟨hj, o, A, rfl, sm⟩
    repeat (first | refine R1 ?_ | (refine R2 ?_; intro _))
    refine sf_if (fun h5 => ?_) fun h5 => ?_
    · have hj4 : j < (gt s.feet k).length := by omega
      obtain ⟨m, hm, B1, Bk, B2, v, rfl, hv, gk, put⟩ := sm.at (gt (gt s.feet k) j)
      have hx := nodup_take hnk hj4
      rw [if_neg hx, List.append_nil] at gk
      have o5 := gk.one
      have htl := touchTo_len s.feet (gt (gt s.feet k) j) k
      have hnl : (natsI (touchTo s.feet (gt (gt s.feet k) j) k)).length = (touchTo s.feet (gt (gt s.feet k) j) k).length := by simp [natsI]
      repeat (first | refine R1 ?_ | (refine R2 ?_; intro _))
      refine fp (Rq ?_ (z_lookupV (by rfl) (by rfl) (by infer_instance) (by infer_instance) (by infer_instance) (by simp) hm hv))
      repeat (first | refine R1 ?_ | (refine R2 ?_; intro _))
      refine fp (y_bs (by rfl) (by rfl) (by rfl) (by rfl) (by decide) fun u Au gu => ?_)
      repeat (first | refine R1 ?_ | (refine R2 ?_; intro _))
      refine fp (y_append (by rfl) (by rfl) gk gu (fun y _ => FlatOne.one y) (by rfl) (by rfl) (by simp; omega) (by simp; omega) fun w2 A2 g2 => ?_)
      have o6 := g2.one
      repeat (first | refine R1 ?_ | (refine R2 ?_; intro _))
      refine fp (y_mapUpdate (by rfl) (by rfl) (by rfl) (by infer_instance) (by infer_instance) hm fun o' ho' => ?_)
      repeat (first | refine R1 ?_ | (refine R2 ?_; intro _))
      refine ⟨j + 1, by omega, ⟨rfl, trivial⟩, rfl, (b3, o') :: ((B1 ++ (A2 ++ B2)) ++ [(b1, .cells #[.int .i64 s.grid.wide, c, l, f] 37)]), _, inferInstance, by omega, o', B1 ++ (A2 ++ B2), rfl, (put A2 w2 _ o' ho' g2).congr fun a => ?_⟩
      rw [take_succ_gt hj4]
      by_cases ea : a = gt (gt s.feet k) j
      · subst ea; simp
      · simp [ea]
    · refine sf_exit ?_
      obtain rfl : j = (gt s.feet k).length := by omega
      repeat (first | refine R1 ?_ | (refine R2 ?_; intro _))
      refine ⟨k + 1, by omega, ⟨rfl, trivial⟩, rfl, (b3, o) :: (A ++ [(b1, .cells #[.int .i64 s.grid.wide, c, l, f] 37)]), _, inferInstance, by omega, o, A, rfl, sm.congr fun a => ?_⟩
      rw [List.take_of_length_le (Nat.le_refl _), touchTo_step]
      split
      · simp [natsI]
      · simp
  · refine sf_exit ?_
    obtain rfl : k = s.feet.length := by omega
    repeat (first | refine R1 ?_ | (refine R2 ?_; intro _))
    exact sf_ret (rO ((b3, o) :: A) ⟨b3, o, A, rfl, rfl, sm⟩)
end Go.Proofs.YtekjikbaefgncaaGreat

/- Walks: a scene, one place put anew: the program's own. -/
namespace Go.Proofs.YtekjikbaefgncaaGreat
open Go Go.Sl
set_option maxRecDepth 100000
set_option maxHeartbeats 4000000
attribute [local irreducible] Go.Code.sf sfOps Opq opo retF Do1 anyO
variable {M : Jdg → Prop} [IsCl Tryz.prog M]
theorem sceneMany_f [al : Alone Tryz.prog M] (h : PHeap) (ca : List Value) (s : Scene) (b : (sceneR τ).B h ca s) (ok : sceneOk s = true) (hs : szSceneN s ≤ 1048576) (v : Value) (e : Edit) (sv : Sl h v editF [e]) :
    CallF Tryz.prog M 108 [.agg ca.toArray, v] [] h fun u A => ∃ cs w, u = .tuple #[.agg cs.toArray, w, .bool (editOk s.grid e)] ∧ Sl.One w ∧ (sceneR τ).O A cs (if editOk s.grid e = true then editScene s e else noScene) := by
  have b0 := b
  obtain ⟨c, l, f, rfl, s1, s2, s3⟩ := sceneB b
  have o1 := s1.one
  have o2 := s2.one
  have o3 := s3.one
  have o4 := sv.one
  obtain ⟨hgk, hse⟩ := sceneOk_is ok
  have hll : s.lights.length = (picOf s.grid).length := congrArg (fun x => x.lights.length) hse
  have hff : s.feet = feetOf s.grid := congrArg Scene.feet hse
  have hfl : s.feet.length = (feetOf s.grid).length := by rw [hff]
  rw [picOf_len] at hll
  rw [feetOf_len] at hfl
  have kg := gok hgk
  have hm := kg.many
  have hsm := kg.small
  have hmp := manyOf_put s.grid e
  have eg : ∀ i, i < [e].length → gt [e] i = e := fun i hi => by
    obtain rfl : i = 0 := by simpa using hi
    rfl
  refine calls_of_sf Tryz.func108 rfl Tryz.ntmps108 ?_
  simp only [argsL, Nat.reduceAdd]
  repeat (first | refine R1 ?_ | (refine R2 ?_; intro _))
  refine fp (y_callV (sceneOk_v (M := M) _ _ s b0) (by rfl) ?_)
  rw [ok]
  repeat (first | refine R1 ?_ | (refine R2 ?_; intro _))
  refine f_split (fun h1 => ?_) fun h1 => ?_
  · simp at h1
  repeat (first | refine R1 ?_ | (refine R2 ?_; intro _))
  refine fp (y_callV (editsOk_v (M := M) _ c s.grid s1 v [e] sv) (by rfl) ?_)
  rw [editsOk_one]
  repeat (first | refine R1 ?_ | (refine R2 ?_; intro _))
  refine sf_cond (by rfl) (fun e1 => ?_) fun e1 => ?_
  · have e1' : editOk s.grid e = false := by simpa using e1
    rw [e1']
    repeat (first | refine R1 ?_ | (refine R2 ?_; intro _))
    exact sf_ret (rO [] ⟨_, _, rfl, inferInstance, sceneO_mk (s := noScene) (Gr.nil _ _) (by decide) (Gr.nil _ _) (by decide) GrR.nil⟩)
  have he : editOk s.grid e = true := by simpa using e1
  rw [he, if_pos rfl]
  have hg' := gridOk_put hgk he
  have hea : 0 ≤ e.at' ∧ e.at' < s.grid.cells.length := by
    have := he
    simp only [editOk, Bool.and_eq_true, decide_eq_true_eq] at this; omega
  obtain ⟨ks, hks⟩ : ∃ ks, touched s.feet e.at' = ks := ⟨_, rfl⟩
  have hkl : ∀ k ∈ ks, k < s.feet.length := fun k hk => by rw [← hks] at hk; exact touchTo_lt hk
  have hkn : ks.length ≤ s.feet.length := by rw [← hks]; exact touchTo_len _ _ _
  have hka : Asc (natsI ks) := by rw [← hks]; exact touched_asc _ _ _
  have hnl := natsI_len ks
  repeat (first | refine R1 ?_ | (refine R2 ?_; intro _))
  rename_i b2 b4
  refine fp (y_call (sceneCopy_f (M := M) _ _ s b0 hs) (by rfl) ?_)
  rintro _ A1 ⟨cs, rfl, q⟩
  obtain ⟨c2, l2, f2, X1, X2, X3, rfl, rfl, ⟨g1, k1⟩, ⟨g2, k2⟩, g3⟩ := sceneO q
  have o5 := g1.one
  have o6 := g2.one
  have o7 := g3.one
  obtain ⟨F0, F1, rfl, rs, gr, oa, hb⟩ := g3
  have hr := oa.len
  clear q
  repeat (first | refine R1 ?_ | (refine R2 ?_; intro _))
  rename_i b7
  refine fp (y_call (sightsOf_f (M := M) _ _ s b0 (by omega) (fun k hk => by rw [hff] at hk ⊢; exact feetOf_nodup hk)) (by rfl) ?_)
  rintro _ _ ⟨bm, om, AM, rfl, rfl, sm⟩
  repeat (first | refine R1 ?_ | (refine R2 ?_; intro _))
  refine sf_lp (ι := Nat × Value) [4, 7, 8, 34, 35] (fun x => [(9, x.2), (36, .int .i64 (x.1 : Int))]) (fun x O => x.1 ≤ 1 ∧ (x.1 = 0 → x.2 = .slice none 0 0 ∧ O = (bm, om) :: (AM ++ ((b7, .cells #[.int .i64 s.grid.wide, c2, l2, f2] 37) :: (X1 ++ (X2 ++ (F0 ++ (F1 ++ [(b4, .cells #[.int .i64 0, .slice none 0 0, .slice none 0 0, .slice none 0 0] 37)]))))))) ∧ (x.1 = 1 → ∃ X1 AW, O = AW ++ ((b7, .cells #[.int .i64 s.grid.wide, c2, l2, f2] 37) :: (X1 ++ (X2 ++ (F0 ++ (F1 ++ [(b4, .cells #[.int .i64 0, .slice none 0 0, .slice none 0 0, .slice none 0 0] 37)]))))) ∧ Gr X1 c2 44 cellF (putCell s.grid e).cells ∧ Gr AW x.2 3 intF (natsI ks))) (fun x => 1 - x.1) (0, .slice none 0 0) ((bm, om) :: (AM ++ ((b7, .cells #[.int .i64 s.grid.wide, c2, l2, f2] 37) :: (X1 ++ (X2 ++ (F0 ++ (F1 ++ [(b4, .cells #[.int .i64 0, .slice none 0 0, .slice none 0 0, .slice none 0 0] 37)]))))))) ⟨by simp, fun _ => ⟨rfl, rfl⟩, fun h0 => by cases h0⟩ ?_
  rintro ⟨i, w⟩ O ⟨hi, hi0, hi1⟩
  simp only at hi hi0 hi1 ⊢
  have hi3 : i = 0 ∨ i = 1 := by omega
  rcases hi3 with rfl | rfl
  · obtain ⟨rfl, rfl⟩ := hi0 rfl
    clear hi0 hi1
    repeat (first | refine R1 ?_ | (refine R2 ?_; intro _))
    refine sf_if (fun h4 => ?_) fun h4 => ?_
    rotate_left
    · simp at h4
    have hi4 : 0 < [e].length := by simp
    have ha0 : 0 ≤ (gt [e] 0).at' := hea.1
    have ha1 : (gt [e] 0).at' < (s.grid.cells.length : Int) := hea.2
    obtain ⟨m, hmo, M1, Mk, M2, mv, rfl, hmv, gk, -⟩ := sm.at (gt [e] 0).at'
    have gk' : Gr Mk mv 3 intF (natsI ks) := by rw [← hks]; exact gk
    have o8 := gk'.one
    repeat (first | refine R1 ?_ | (refine R2 ?_; intro _) | refine fp (Rq ?_ (z_indexGI (by rfl) (by rfl) (by assumption) (by omega) (by omega))))
    refine fp (y_storeG0 (by rfl) (by rfl) g1 (by omega) (by rfl) fun A2 ys hy hly fv gy => ?_)
    repeat (first | refine R1 ?_ | (refine R2 ?_; intro _))
    refine fp (Rq ?_ (z_lookupV (by rfl) (by rfl) (by infer_instance) (by infer_instance) (by infer_instance) (by simp) hmo hmv))
    repeat (first | refine R1 ?_ | (refine R2 ?_; intro _))
    refine fp (y_append (by rfl) (by rfl) (Gr.nil _ _) gk' (fun y _ => FlatOne.one y) (by rfl) (by rfl) (by simp; omega) (by simp; omega) fun w2 AW gw => ?_)
    have o9 := gw.one
    repeat (first | refine R1 ?_ | (refine R2 ?_; intro _))
    exact ⟨(1, w2), by simp, ⟨rfl, rfl, trivial⟩, rfl, AW ++ ((b7, .cells #[.int .i64 s.grid.wide, c2, l2, f2] 37) :: (A2 ++ (X2 ++ (F0 ++ (F1 ++ [(b4, .cells #[.int .i64 0, .slice none 0 0, .slice none 0 0, .slice none 0 0] 37)]))))), _, inferInstance, by simp, fun h0 => (by cases h0), fun _ => ⟨A2, AW, rfl, (by rw [hy] at gy; exact gy), gw⟩⟩
  obtain ⟨X1, AW, rfl, g1, gw⟩ := hi1 rfl
  clear hi0 hi1 sm
  have o8 := gw.one
  repeat (first | refine R1 ?_ | (refine R2 ?_; intro _))
  refine sf_if (fun h4 => ?_) fun h4 => ?_
  · simp at h4
  refine sf_exit ?_
  repeat (first | refine R1 ?_ | (refine R2 ?_; intro _))
  refine fp (y_call (sort_f (M := M) _ _ AW _ gw (by omega)) (by rfl) ?_)
  rintro _ A5 ⟨rfl, gw2⟩
  rw [sortF_id hka] at gw2
  repeat (first | refine R1 ?_ | (refine R2 ?_; intro _))
  refine fp (y_call (compact_f (M := M) _ _ A5 _ gw2 (by omega)) (by rfl) fun w3 A6 gw3 => ?_)
  rw [compactF_id hka] at gw3
  have o9 := gw3.one
  repeat (first | refine R1 ?_ | (refine R2 ?_; intro _))
  refine sf_lp (ι := Nat) [4, 7, 9, 59, 60] (fun j => [(61, .int .i64 (j : Int))]) (fun j O => j ≤ ks.length ∧ ∃ X2 F0 F1 rs, O = A6 ++ ((b7, .cells #[.int .i64 s.grid.wide, c2, l2, f2] 37) :: (X1 ++ (X2 ++ (F0 ++ (F1 ++ [(b4, .cells #[.int .i64 0, .slice none 0 0, .slice none 0 0, .slice none 0 0] 37)]))))) ∧ Gr X2 l2 3 intF (lookL (putCell s.grid e) (ks.take j) s.lights) ∧ Gr F0 f2 25 (rawF (intSR τ).sz) rs ∧ OAll (intSR τ) F1 rs (lookF (putCell s.grid e) (ks.take j) s.feet)) (fun j => ks.length - j) 0 (A6 ++ ((b7, .cells #[.int .i64 s.grid.wide, c2, l2, f2] 37) :: (X1 ++ (X2 ++ (F0 ++ (F1 ++ [(b4, .cells #[.int .i64 0, .slice none 0 0, .slice none 0 0, .slice none 0 0] 37)])))))) ⟨by omega, X2, F0, F1, rs, rfl, g2, gr, oa⟩ ?_
  clear gw gw2 gr oa g2 hr hb rs F0 F1 X2
  rintro j O ⟨hj, X2, F0, F1, rs, rfl, g2, gr, oa⟩
  have hr := oa.len
  have hll2 := lookL_len (putCell s.grid e) (ks.take j) s.lights
  have hfl2 := lookF_len (putCell s.grid e) (ks.take j) s.feet
  repeat (first | refine R1 ?_ | (refine R2 ?_; intro _))
  refine sf_if (fun h4 => ?_) fun h4 => ?_
  · have hj4 : j < ks.length := by omega
    have hj5 : j < (natsI ks).length := by omega
    have hz := natsI_at hj4
    have hkj := hkl (gt ks j) (by rw [gt_eq hj4]; exact List.getElem_mem _)
    have htk := take_succ_gt hj4
    generalize gt ks j = k at hz hkj htk
    have hkl2 : k < (lookL (putCell s.grid e) (ks.take j) s.lights).length := by omega
    have hkf2 : k < rs.length := by omega
    have hkm : 0 ≤ (k : Int) ∧ (k : Int) < manyOf (putCell s.grid e) := by omega
    have hcl : (putCell s.grid e).cells.length = s.grid.cells.length := by simp [putCell]
    repeat (first | refine R1 ?_ | (refine R2 ?_; intro _))
    rw [hz]
    repeat (first | refine R1 ?_ | (refine R2 ?_; intro _))
    refine sf_draw (by kernel_rfl) (regX_own (X1) (regX_runW _ [[], [0], [], [], [3], [], [3, 4, 5], [0, 1, 2, 3, 4, 5, 6], [0, 1, 2, 3, 4, 5, 6, 7]] 7 [(0, false), (1, false), (2, false), (3, false), (4, false), (5, false), (6, true)] (by kernel_rfl) (by kernel_rfl) (by kernel_rfl) ?_))
    repeat (refine Da1 ?_)
    refine a_call (lendV X1 fun h' l' i' => trailLight_v (M := M) h' c2 (putCell s.grid e) (g1.lent (by omega) i') hg' (k : Int) hkm) (by rfl) (by rfl) (.inl rfl) ?_
    rintro _ A9 ⟨rfl, e9⟩
    rw [e9]
    clear e9 A9
    repeat (refine Da1 ?_)
    (refine a_end (by rfl) (by rfl) ?_; simp only [finA, setL, List.drop_succ_cons, List.drop_zero])
    repeat (first | refine R1 ?_ | (refine R2 ?_; intro _))
    refine fp (y_storeG0 (by rfl) (by rfl) g2 (by omega) (by rfl) fun A7 ys hy hly fv g4 => ?_)
    repeat (first | refine R1 ?_ | (refine R2 ?_; intro _))
    refine sf_draw (by kernel_rfl) (regX_own (X1) (regX_runW _ [[], [0], [], [], [3], [], [3, 4, 5], [0, 1, 2, 3, 4, 5, 6], [0, 1, 2, 3, 4, 5, 6, 7]] 7 [(0, false), (1, false), (2, false), (3, false), (4, false), (5, false), (6, true)] (by kernel_rfl) (by kernel_rfl) (by kernel_rfl) ?_))
    repeat (refine Da1 ?_)
    refine a_call (lendF X1 fun h' l' i' => trailFoot_f (M := M) h' c2 (putCell s.grid e) (g1.lent (by omega) i') hg' (k : Int) hkm) (by rfl) (by rfl) (.inl rfl) ?_
    rintro w4 _ ⟨AT, rfl, gt4⟩
    have p1 := gt4.one
    repeat (refine Da1 ?_)
    (refine a_end (by rfl) (by rfl) ?_; simp only [finA, setL, List.drop_succ_cons, List.drop_zero])
    repeat (first | refine R1 ?_ | (refine R2 ?_; intro _))
    refine fp (y_storeG0 (by rfl) (by rfl) gr (by omega) (by rfl) fun A8 zs hzs hlz fz g5 => ?_)
    obtain ⟨C1, Ck, C2, rfl, -, put⟩ := oa.at (show k < (lookF (putCell s.grid e) (ks.take j) s.feet).length by omega)
    have q3 := put AT ⟨[w4], rfl⟩ (footOf (putCell s.grid e) (k : Int)) ⟨w4, rfl, gt4, by show (footOf (putCell s.grid e) (k : Int)).length ≤ _; unfold footOf; have := footIs_len (putCell s.grid e) (goLight (putCell s.grid e) (k : Int)).1; omega⟩
    rw [hy, ← lookL_snoc, ← htk] at g4
    rw [hzs] at g5
    rw [← lookF_snoc, ← htk] at q3
    repeat (first | refine R1 ?_ | (refine R2 ?_; intro _))
    exact ⟨j + 1, by omega, ⟨rfl, trivial⟩, rfl, A6 ++ ((b7, .cells #[.int .i64 s.grid.wide, c2, l2, f2] 37) :: (X1 ++ (A7 ++ (A8 ++ ((C1 ++ (AT ++ C2)) ++ [(b4, .cells #[.int .i64 0, .slice none 0 0, .slice none 0 0, .slice none 0 0] 37)]))))), _, inferInstance, by omega, A7, A8, C1 ++ (AT ++ C2), _, rfl, g4, g5, q3⟩
  · refine sf_exit ?_
    obtain rfl : j = ks.length := by omega
    rw [List.take_of_length_le (Nat.le_refl _)] at g2 oa
    subst hks
    repeat (first | refine R1 ?_ | (refine R2 ?_; intro _))
    refine sf_ret (rO (X1 ++ (X2 ++ (F0 ++ F1))) ⟨_, _, rfl, o9, ?_⟩)
    exact sceneO_mk (s := editScene s e) g1 (by simp only [editScene, putCell, List.length_set]; omega) g2 (by simp only [editScene]; rw [lookL_len]; omega) ⟨F0, F1, rfl, rs, gr, oa, by simp only [editScene]; rw [lookF_len]; omega⟩
theorem sceneEdit_f [al : Alone Tryz.prog M] (h : PHeap) (ca : List Value) (s : Scene) (b : (sceneR τ).B h ca s) (ok : sceneOk s = true) (hs : szSceneN s ≤ 1048576) (e : Edit) :
    CallF Tryz.prog M 92 [.agg ca.toArray, .agg #[.int .i64 e.at', .int .i64 e.cell.kind, .int .i64 e.cell.light]] [] h fun u A => ∃ cs w, u = .tuple #[.agg cs.toArray, w, .bool (editOk s.grid e)] ∧ Sl.One w ∧ (sceneR τ).O A cs (if editOk s.grid e = true then editScene s e else noScene) := by
  have b0 := b
  obtain ⟨c, l, f, rfl, s1, s2, s3⟩ := sceneB b
  have o1 := s1.one
  have o2 := s2.one
  have o3 := s3.one
  refine calls_of_sf Tryz.func92 rfl Tryz.ntmps92 ?_
  simp only [argsL, Nat.reduceAdd]
  repeat (first | refine R1 ?_ | (refine R2 ?_; intro _))
  refine fp (y_bs (by rfl) (by rfl) (by rfl) (by rfl) (by decide) fun v AE ge => ?_)
  have o4 := ge.one
  repeat (first | refine R1 ?_ | (refine R2 ?_; intro _))
  refine fp (y_lend AE (fun h' l i => sceneMany_f (M := M) h' _ s ((sceneR τ).up l b0) ok hs v e (ge.lent (by simp) i)) (by rfl) ?_)
  rintro _ A1 ⟨cs, w, rfl, ow, q⟩
  have q0 := q
  obtain ⟨c2, l2, f2, X1, X2, X3, rfl, rfl, ⟨g1, k1⟩, ⟨g2, k2⟩, g3⟩ := sceneO q
  have o5 := g1.one
  have o6 := g2.one
  have o7 := g3.one
  repeat (first | refine R1 ?_ | (refine R2 ?_; intro _))
  exact sf_ret (rO (X1 ++ (X2 ++ X3)) ⟨_, w, rfl, ow, q0⟩)
end Go.Proofs.YtekjikbaefgncaaGreat

/- Walks: what painters hear: the program's own. -/
namespace Go.Proofs.YtekjikbaefgncaaGreat
open Go Go.Sl
set_option maxRecDepth 100000
set_option maxHeartbeats 4000000
attribute [local irreducible] Go.Code.sf sfOps Opq opo retF Do1 anyO
variable {M : Jdg → Prop} [IsCl Tryz.prog M]
theorem painterO_of {A : Own} {cs : List Value} {sc : Scene} (q : (sceneR τ).O A cs sc) (u hs : Bool) (v : Int) : (painterR τ).O A (.bool u :: .bool hs :: .int .i64 v :: cs) ⟨u, hs, v, sc⟩ := by
  obtain ⟨c, l, f, A1, A2, A3, rfl, rfl, ⟨g1, j1⟩, ⟨g2, j2⟩, g3⟩ := sceneO q
  exact painterO_mk (p := ⟨u, hs, v, sc⟩) g1 j1 g2 j2 g3
theorem hearWhole_f [al : Alone Tryz.prog M] (h : PHeap) (cb : List Value) (p : Painter) (w : Word) (c l f : Value) (X1 X2 X3 : Own) (g1 : Gr X1 c 44 cellF p.scene.grid.cells) (g2 : Gr X2 l 3 intF p.scene.lights) (g3 : GrR (intSR τ) X3 f 25 p.scene.feet) (hs : szPainterN p ≤ 1048576) (bw : (wordR τ).B h cb w) (e : p.up = true) (e1 : w.kind = 1) :
    CallF Tryz.prog M 75 [.agg #[.bool p.up, .bool p.has, .int .i64 p.ver, .int .i64 p.scene.grid.wide, c, l, f], .agg cb.toArray] (X1 ++ (X2 ++ X3)) h fun u A => ∃ cs, u = .agg cs.toArray ∧ (painterR τ).O A cs (paintHeard p w) := by
  have hs' := hs
  simp only [szPainterN, szSceneN, szIntSSN] at hs'
  have qs : (sceneR τ).O (X1 ++ (X2 ++ X3)) _ p.scene := sceneO_mk g1 (by omega) g2 (by omega) g3
  have qp : (painterR τ).O (X1 ++ (X2 ++ X3)) _ p := painterO_mk g1 (by omega) g2 (by omega) g3
  have o1 := g1.one
  have o2 := g2.one
  have o3 := g3.one
  obtain ⟨wc, wl, ecb, sw1, sw2⟩ := wordB bw
  have ecb' : cb = [.int .i64 w.kind, .int .i64 w.to, .int .i64 w.frm, .int .i64 w.ver, .int .i64 w.grid.wide, wc, .int .i64 w.edit.at', .int .i64 w.edit.cell.kind, .int .i64 w.edit.cell.light, wl] := ecb
  subst ecb'
  clear ecb
  have o4 := sw1.one
  have o5 := sw2.one
  have no : paintHeard p w = p → ∃ cs : List Value, (.agg #[.bool p.up, .bool p.has, .int .i64 p.ver, .int .i64 p.scene.grid.wide, c, l, f] : Value) = .agg cs.toArray ∧ (painterR τ).O (X1 ++ (X2 ++ X3)) cs (paintHeard p w) := fun z => by rw [z]; exact ⟨_, rfl, qp⟩
  refine calls_of_sf Tryz.func75 rfl Tryz.ntmps75 ?_
  simp only [argsL, Nat.reduceAdd]
  repeat (first | refine R1 ?_ | (refine R2 ?_; intro _))
  refine f_split (fun e2 => ?_) fun e2 => ?_
  · repeat (first | refine R1 ?_ | (refine R2 ?_; intro _))
    refine sf_cond (by rfl) (fun e9 => ?_) fun e9 => ?_
    · repeat (first | refine R1 ?_ | (refine R2 ?_; intro _))
      exact sf_ret (rO (X1 ++ (X2 ++ X3)) (no (by rw [heard1 e e1, if_neg (fun z => by omega)])))
    · simp [e2] at e9
  repeat (first | refine R1 ?_ | (refine R2 ?_; intro _))
  refine f_split (fun e4 => ?_) fun e4 => ?_
  · repeat (first | refine R1 ?_ | (refine R2 ?_; intro _))
    refine sf_cond (by rfl) (fun e9 => ?_) fun e9 => ?_
    · repeat (first | refine R1 ?_ | (refine R2 ?_; intro _))
      exact sf_ret (rO (X1 ++ (X2 ++ X3)) (no (by rw [heard1 e e1, if_neg (fun z => by omega)])))
    · simp [e4] at e9
  repeat (first | refine R1 ?_ | (refine R2 ?_; intro _))
  apply viaT (G := (p.has = true → p.ver < w.ver) → _)
  · intro tail
    refine f_splitB (fun e5 => ?_) fun e5 => ?_
    · repeat (first | refine R1 ?_ | (refine R2 ?_; intro _))
      refine sf_cond (by rfl) (fun e9 => ?_) fun e9 => ?_
      · simp [e5] at e9
        repeat (first | refine R1 ?_ | (refine R2 ?_; intro _))
        exact sf_ret (rO (X1 ++ (X2 ++ X3)) (no (by rw [heard1 e e1, if_neg (fun z => by have := z.2.1 e5; omega)])))
      · simp [e5] at e9
        repeat (first | refine R1 ?_ | (refine R2 ?_; intro _))
        refine fops_keep [3, 4, 5, 32] ?_
        exact tail.out fun _ => by omega
    · repeat (first | refine R1 ?_ | (refine R2 ?_; intro _))
      refine sf_cond (by rfl) (fun e9 => ?_) fun e9 => ?_
      · simp [e5] at e9
      · repeat (first | refine R1 ?_ | (refine R2 ?_; intro _))
        refine fops_keep [3, 4, 5, 32] ?_
        exact tail.out fun z => by rw [e5] at z; cases z
  intro e6
  refine fp (y_call (sceneNew_f (M := M) _ _ w.grid (gridB_mk sw1)) (by rfl) ?_)
  rintro _ A1 ⟨cs, rfl, q⟩
  by_cases eg : gridOk w.grid = true
  · have en : sceneNew w.grid = (sceneOf w.grid, true) := by rw [sceneNew, if_pos eg]
    rw [en] at q ⊢
    have q0 := q
    obtain ⟨c2, l2, f2, Y1, Y2, Y3, rfl, rfl, ⟨k1, j1⟩, ⟨k2, j2⟩, k3⟩ := sceneO q
    have o6 := k1.one
    have o7 := k2.one
    have o8 := k3.one
    simp only at q0 ⊢
    repeat (first | refine R1 ?_ | (refine R2 ?_; intro _))
    refine sf_N (by rfl) ?_
    repeat (first | refine R1 ?_ | (refine R2 ?_; intro _))
    rw [heard1 e e1, if_pos ⟨by omega, e6, eg⟩]
    exact sf_ret (rO (Y1 ++ (Y2 ++ Y3)) ⟨_, rfl, painterO_of q0 _ _ _⟩)
  · have en : sceneNew w.grid = (noScene, false) := by rw [sceneNew, if_neg eg]
    rw [en] at q ⊢
    obtain ⟨c2, l2, f2, Y1, Y2, Y3, rfl, rfl, ⟨k1, j1⟩, ⟨k2, j2⟩, k3⟩ := sceneO q
    have o6 := k1.one
    have o7 := k2.one
    have o8 := k3.one
    simp only
    repeat (first | refine R1 ?_ | (refine R2 ?_; intro _))
    refine sf_cond (by rfl) (fun e9 => ?_) fun e9 => ?_
    · repeat (first | refine R1 ?_ | (refine R2 ?_; intro _))
      exact sf_ret (rO (X1 ++ (X2 ++ X3)) (no (by rw [heard1 e e1, if_neg (fun z => eg z.2.2)])))
    · simp at e9
theorem hearEdit_f [al : Alone Tryz.prog M] (h : PHeap) (cb : List Value) (p : Painter) (w : Word) (c l f : Value) (X1 X2 X3 : Own) (g1 : Gr X1 c 44 cellF p.scene.grid.cells) (g2 : Gr X2 l 3 intF p.scene.lights) (g3 : GrR (intSR τ) X3 f 25 p.scene.feet) (hs : szPainterN p ≤ 1048576) (bw : (wordR τ).B h cb w) (e : p.up = true) (ok : paintOk p = true) (e1 : w.kind = 2) :
    CallF Tryz.prog M 76 [.agg #[.bool p.up, .bool p.has, .int .i64 p.ver, .int .i64 p.scene.grid.wide, c, l, f], .agg cb.toArray] (X1 ++ (X2 ++ X3)) h fun u A => ∃ cs, u = .agg cs.toArray ∧ (painterR τ).O A cs (paintHeard p w) := by
  have hs' := hs
  simp only [szPainterN, szSceneN, szIntSSN] at hs'
  have qs : (sceneR τ).O (X1 ++ (X2 ++ X3)) _ p.scene := sceneO_mk g1 (by omega) g2 (by omega) g3
  have qp : (painterR τ).O (X1 ++ (X2 ++ X3)) _ p := painterO_mk g1 (by omega) g2 (by omega) g3
  have o1 := g1.one
  have o2 := g2.one
  have o3 := g3.one
  obtain ⟨wc, wl, ecb, sw1, sw2⟩ := wordB bw
  have ecb' : cb = [.int .i64 w.kind, .int .i64 w.to, .int .i64 w.frm, .int .i64 w.ver, .int .i64 w.grid.wide, wc, .int .i64 w.edit.at', .int .i64 w.edit.cell.kind, .int .i64 w.edit.cell.light, wl] := ecb
  subst ecb'
  clear ecb
  have o4 := sw1.one
  have o5 := sw2.one
  have no : paintHeard p w = p → ∃ cs : List Value, (.agg #[.bool p.up, .bool p.has, .int .i64 p.ver, .int .i64 p.scene.grid.wide, c, l, f] : Value) = .agg cs.toArray ∧ (painterR τ).O (X1 ++ (X2 ++ X3)) cs (paintHeard p w) := fun z => by rw [z]; exact ⟨_, rfl, qp⟩
  refine calls_of_sf Tryz.func76 rfl Tryz.ntmps76 ?_
  simp only [argsL, Nat.reduceAdd]
  repeat (first | refine R1 ?_ | (refine R2 ?_; intro _))
  refine f_splitB (fun e2 => ?_) fun e2 => ?_
  · have e2' : p.has = false := by simpa using e2
    repeat (first | refine R1 ?_ | (refine R2 ?_; intro _))
    refine sf_cond (by rfl) (fun e9 => ?_) fun e9 => ?_
    · repeat (first | refine R1 ?_ | (refine R2 ?_; intro _))
      exact sf_ret (rO (X1 ++ (X2 ++ X3)) (no (by rw [heard2 e e1, if_neg (fun z => by rw [e2'] at z; exact Bool.noConfusion z.1)])))
    · simp [e2'] at e9
  have e2' : p.has = true := by simpa using e2
  obtain ⟨-, hv0, hv1, hsc⟩ := paintOk_has ok e2'
  repeat (first | refine R1 ?_ | (refine R2 ?_; intro _))
  refine f_split (fun e3 => ?_) fun e3 => ?_
  · repeat (first | refine R1 ?_ | (refine R2 ?_; intro _))
    refine sf_cond (by rfl) (fun e9 => ?_) fun e9 => ?_
    · repeat (first | refine R1 ?_ | (refine R2 ?_; intro _))
      exact sf_ret (rO (X1 ++ (X2 ++ X3)) (no (by rw [heard2 e e1, if_neg (fun z => e3 z.2.1)])))
    · simp [e3] at e9
  repeat (first | refine R1 ?_ | (refine R2 ?_; intro _))
  refine sf_cond (by rfl) (fun e9 => ?_) fun e9 => ?_
  · repeat (first | refine R1 ?_ | (refine R2 ?_; intro _))
    exact sf_ret (rO (X1 ++ (X2 ++ X3)) (no (by rw [heard2 e e1, if_neg (fun z => by have := z.2.2.1; simp [e2', e3] at e9; omega)])))
  repeat (first | refine R1 ?_ | (refine R2 ?_; intro _))
  refine fp (y_lend (X1 ++ (X2 ++ X3)) (fun h' _ i => sceneEdit_f (M := M) h' _ p.scene ((sceneR τ).lent qs i) hsc hs w.edit) (by rfl) ?_)
  rintro _ A1 ⟨cs, w2, rfl, ow, q⟩
  by_cases eg : editOk p.scene.grid w.edit = true
  · rw [if_pos eg] at q
    rw [eg]
    have q0 := q
    obtain ⟨c2, l2, f2, Y1, Y2, Y3, rfl, rfl, ⟨k1, j1⟩, ⟨k2, j2⟩, k3⟩ := sceneO q
    have o6 := k1.one
    have o7 := k2.one
    have o8 := k3.one
    repeat (first | refine R1 ?_ | (refine R2 ?_; intro _))
    refine sf_N (by rfl) ?_
    repeat (first | refine R1 ?_ | (refine R2 ?_; intro _))
    rw [heard2 e e1, if_pos ⟨e2', by simp at e3; omega, by simp [e2', e3] at e9; omega, eg⟩]
    exact sf_ret (rO (Y1 ++ (Y2 ++ Y3)) ⟨_, rfl, painterO_of q0 _ _ _⟩)
  · have eg' : editOk p.scene.grid w.edit = false := by simpa using eg
    rw [if_neg eg] at q
    rw [eg']
    obtain ⟨c2, l2, f2, Y1, Y2, Y3, rfl, rfl, ⟨k1, j1⟩, ⟨k2, j2⟩, k3⟩ := sceneO q
    have o6 := k1.one
    have o7 := k2.one
    have o8 := k3.one
    repeat (first | refine R1 ?_ | (refine R2 ?_; intro _))
    refine sf_cond (by rfl) (fun e9 => ?_) fun e9 => ?_
    · repeat (first | refine R1 ?_ | (refine R2 ?_; intro _))
      exact sf_ret (rO (X1 ++ (X2 ++ X3)) (no (by rw [heard2 e e1, if_neg (fun z => eg z.2.2.2)])))
    · simp at e9
end Go.Proofs.YtekjikbaefgncaaGreat

/- Walks: PaintHear: the program's own. -/
namespace Go.Proofs.YtekjikbaefgncaaGreat
open Go Go.Sl
set_option maxRecDepth 100000
set_option maxHeartbeats 1000000
attribute [local irreducible] Go.Code.sf sfOps Opq opo retF Do1 anyO
variable {M : Jdg → Prop} [IsCl Tryz.prog M]
instance : Fun Tryz.prog 75 := ⟨by kernel_rfl⟩
instance : Fun Tryz.prog 76 := ⟨by kernel_rfl⟩
theorem paintHeard_f [al : Alone Tryz.prog M] (h : PHeap) (ca cb : List Value) (p : Painter) (w : Word) (b : (painterR τ).B h ca p) (ok : paintOk p = true) (hs : szPainterN p ≤ 1048576) (bw : (wordR τ).B h cb w) : CallF Tryz.prog M 49 [.agg ca.toArray, .agg cb.toArray] [] h fun u A => ∃ cs, u = .agg cs.toArray ∧ (painterR τ).O A cs (paintHeard p w) := by
  have b0 := b
  obtain ⟨c0, l0, f0, rfl, s1, s2, s3⟩ := painterB b
  have o1 := s1.one
  have o2 := s2.one
  have o3 := s3.one
  have bw0 := bw
  obtain ⟨wc, wl, ecb, sw1, sw2⟩ := wordB bw
  have ecb' : cb = [.int .i64 w.kind, .int .i64 w.to, .int .i64 w.frm, .int .i64 w.ver, .int .i64 w.grid.wide, wc, .int .i64 w.edit.at', .int .i64 w.edit.cell.kind, .int .i64 w.edit.cell.light, wl] := ecb
  subst ecb'
  clear ecb bw
  have o4 := sw1.one
  have o5 := sw2.one
  refine calls_of_sf Tryz.func49 rfl Tryz.ntmps49 ?_
  simp only [argsL, Nat.reduceAdd]
  repeat (first | refine R1 ?_ | (refine R2 ?_; intro _))
  rename_i b2 b3 b4
  refine fp (y_call (painterCopy_f (M := M) _ _ p b0 hs) (by rfl) ?_)
  rintro _ A1 ⟨cs, rfl, q⟩
  have q0 := q
  obtain ⟨c, l, f, X1, X2, X3, rfl, rfl, ⟨g1, j1⟩, ⟨g2, j2⟩, g3⟩ := painterO q
  have o6 := g1.one
  have o7 := g2.one
  have o8 := g3.one
  repeat (first | refine R1 ?_ | (refine R2 ?_; intro _))
  rename_i b5
  refine fp (y_makeMap fun bm om hm => ?_)
  repeat (first | refine R1 ?_ | (refine R2 ?_; intro _))
  refine fp (y_insert (by rfl) (by rfl) (by rfl) (by infer_instance) (by infer_instance) hm fun o1' hm1 => ?_)
  repeat (first | refine R1 ?_ | (refine R2 ?_; intro _))
  refine fp (y_insert (by rfl) (by rfl) (by rfl) (by infer_instance) (by infer_instance) hm1 fun o2' hm2 => ?_)
  repeat (first | refine R1 ?_ | (refine R2 ?_; intro _))
  have back : paintHeard p w = p → ∃ cs : List Value, (.agg #[.bool p.up, .bool p.has, .int .i64 p.ver, .int .i64 p.scene.grid.wide, c, l, f] : Value) = .agg cs.toArray ∧ (painterR τ).O (X1 ++ (X2 ++ X3)) cs (paintHeard p w) := fun z => by rw [z]; exact ⟨_, rfl, q0⟩
  by_cases e1 : w.kind = 1
  · refine fp (Rq ?_ (z_lookup2V (v := .tuple #[.func (.func 75) #[.agg #[.bool p.up, .bool p.has, .int .i64 p.ver, .int .i64 p.scene.grid.wide, c, l, f]] #[], .bool true]) (by rfl) (by rfl) (by infer_instance) (by infer_instance) (by infer_instance) (by simp) hm2 (by simp [valOf2, mSet, mGet, e1])))
    repeat (first | refine R1 ?_ | (refine R2 ?_; intro _))
    refine f_splitB (fun e => ?_) fun e => ?_
    · have e' : p.up = false := by simpa using e
      repeat (first | refine R1 ?_ | (refine R2 ?_; intro _))
      refine sf_cond (by rfl) (fun e9 => ?_) fun e9 => ?_
      · repeat (first | refine R1 ?_ | (refine R2 ?_; intro _))
        exact sf_ret (rO (X1 ++ (X2 ++ X3)) (back (heard_up e')))
      · simp [e'] at e9
    · have e' : p.up = true := by simpa using e
      repeat (first | refine R1 ?_ | (refine R2 ?_; intro _))
      refine sf_cond (by rfl) (fun e9 => ?_) fun e9 => ?_
      · simp [e'] at e9
      repeat (first | refine R1 ?_ | (refine R2 ?_; intro _))
      refine fp (y_callC2 (by rfl) (by rfl) (by exact hearWhole_f (M := M) _ _ p w c l f X1 X2 X3 g1 g2 g3 hs bw0 e' e1) ?_)
      rintro _ A5 ⟨cs, rfl, q5⟩
      have q6 := q5
      obtain ⟨c3, l3, f3, Z1, Z2, Z3, rfl, rfl, ⟨i1, -⟩, ⟨i2, -⟩, i3⟩ := painterO q5
      have p1 := i1.one
      have p2 := i2.one
      have p3 := i3.one
      repeat (first | refine R1 ?_ | (refine R2 ?_; intro _))
      exact sf_ret (rO (Z1 ++ (Z2 ++ Z3)) ⟨_, rfl, q6⟩)
  by_cases e2 : w.kind = 2
  · refine fp (Rq ?_ (z_lookup2V (v := .tuple #[.func (.func 76) #[.agg #[.bool p.up, .bool p.has, .int .i64 p.ver, .int .i64 p.scene.grid.wide, c, l, f]] #[], .bool true]) (by rfl) (by rfl) (by infer_instance) (by infer_instance) (by infer_instance) (by simp) hm2 (by simp [valOf2, mSet, mGet, e2])))
    repeat (first | refine R1 ?_ | (refine R2 ?_; intro _))
    refine f_splitB (fun e => ?_) fun e => ?_
    · have e' : p.up = false := by simpa using e
      repeat (first | refine R1 ?_ | (refine R2 ?_; intro _))
      refine sf_cond (by rfl) (fun e9 => ?_) fun e9 => ?_
      · repeat (first | refine R1 ?_ | (refine R2 ?_; intro _))
        exact sf_ret (rO (X1 ++ (X2 ++ X3)) (back (heard_up e')))
      · simp [e'] at e9
    · have e' : p.up = true := by simpa using e
      repeat (first | refine R1 ?_ | (refine R2 ?_; intro _))
      refine sf_cond (by rfl) (fun e9 => ?_) fun e9 => ?_
      · simp [e'] at e9
      repeat (first | refine R1 ?_ | (refine R2 ?_; intro _))
      refine fp (y_callC2 (by rfl) (by rfl) (by exact hearEdit_f (M := M) _ _ p w c l f X1 X2 X3 g1 g2 g3 hs bw0 e' ok e2) ?_)
      rintro _ A5 ⟨cs, rfl, q5⟩
      have q6 := q5
      obtain ⟨c3, l3, f3, Z1, Z2, Z3, rfl, rfl, ⟨i1, -⟩, ⟨i2, -⟩, i3⟩ := painterO q5
      have p1 := i1.one
      have p2 := i2.one
      have p3 := i3.one
      repeat (first | refine R1 ?_ | (refine R2 ?_; intro _))
      exact sf_ret (rO (Z1 ++ (Z2 ++ Z3)) ⟨_, rfl, q6⟩)
  refine fp (Rq ?_ (z_lookup2V (v := .tuple #[.nilFunc, .bool false]) (by rfl) (by rfl) (by infer_instance) (by infer_instance) (by infer_instance) (by simp) hm2 (by simp [valOf2, mSet, mGet, e1, e2])))
  repeat (first | refine R1 ?_ | (refine R2 ?_; intro _))
  refine f_splitB (fun e => ?_) fun e => ?_
  · repeat (first | refine R1 ?_ | (refine R2 ?_; intro _))
    refine sf_cond (by rfl) (fun e9 => ?_) fun e9 => ?_
    · repeat (first | refine R1 ?_ | (refine R2 ?_; intro _))
      exact sf_ret (rO (X1 ++ (X2 ++ X3)) (back (heard0 e1 e2)))
    · simp [e] at e9
  · repeat (first | refine R1 ?_ | (refine R2 ?_; intro _))
    refine sf_cond (by rfl) (fun e9 => ?_) fun e9 => ?_
    · repeat (first | refine R1 ?_ | (refine R2 ?_; intro _))
      exact sf_ret (rO (X1 ++ (X2 ++ X3)) (back (heard0 e1 e2)))
    · simp [e] at e9
theorem paintHear_f [al : Alone Tryz.prog M] (h : PHeap) (ca cb : List Value) (p : Painter) (w : Word) (b : (painterR τ).B h ca p) (hs : szPainterN p ≤ 1048576) (bw : (wordR τ).B h cb w) : CallF Tryz.prog M 20 [.agg ca.toArray, .agg cb.toArray] [] h fun u A => ∃ cs, u = .agg cs.toArray ∧ (painterR τ).O A cs (paintHear p w) := by
  have b0 := b
  obtain ⟨c, l, f, rfl, s1, s2, s3⟩ := painterB b
  have o1 := s1.one
  have o2 := s2.one
  have o3 := s3.one
  have bw0 := bw
  obtain ⟨wc, wl, ecb, sw1, sw2⟩ := wordB bw
  have ecb' : cb = [.int .i64 w.kind, .int .i64 w.to, .int .i64 w.frm, .int .i64 w.ver, .int .i64 w.grid.wide, wc, .int .i64 w.edit.at', .int .i64 w.edit.cell.kind, .int .i64 w.edit.cell.light, wl] := ecb
  subst ecb'
  clear ecb bw
  have o4 := sw1.one
  have o5 := sw2.one
  refine calls_of_sf Tryz.func20 rfl Tryz.ntmps20 ?_
  simp only [argsL, Nat.reduceAdd]
  repeat (first | refine R1 ?_ | (refine R2 ?_; intro _))
  refine fp (y_callV (paintOk_v (M := M) _ _ p b0) (by rfl) ?_)
  repeat (first | refine R1 ?_ | (refine R2 ?_; intro _))
  refine sf_cond (by rfl) (fun e => ?_) fun e => ?_
  · have e' : ¬ paintOk p = true := by simpa using e
    repeat (first | refine R1 ?_ | (refine R2 ?_; intro _))
    rw [paintHear, if_neg e']
    exact sf_ret (rO [] ⟨_, rfl, painterO_mk (p := noPainter) (Gr.nil _ _) (by decide) (Gr.nil _ _) (by decide) GrR.nil⟩)
  have e' : paintOk p = true := by simpa using e
  rw [paintHear, if_pos e']
  repeat (first | refine R1 ?_ | (refine R2 ?_; intro _))
  refine fp (y_call (paintHeard_f (M := M) _ _ _ p w b0 e' hs bw0) (by rfl) ?_)
  rintro _ A5 ⟨cs, rfl, q5⟩
  have q6 := q5
  obtain ⟨c3, l3, f3, Z1, Z2, Z3, rfl, rfl, ⟨i1, -⟩, ⟨i2, -⟩, i3⟩ := painterO q5
  have p1 := i1.one
  have p2 := i2.one
  have p3 := i3.one
  repeat (first | refine R1 ?_ | (refine R2 ?_; intro _))
  exact sf_ret (rO (Z1 ++ (Z2 ++ Z3)) ⟨_, rfl, q6⟩)
end Go.Proofs.YtekjikbaefgncaaGreat

/- Walks: rays and sights: the reference's. -/
namespace Go.Proofs.YtekjikbaefgncaaGreat
open Go Go.Sl
set_option maxRecDepth 100000
set_option maxHeartbeats 4000000
attribute [local irreducible] Go.Code.sf sfOps Opq opo retF Do1 anyO
variable {M : Jdg → Prop} [IsCl Tryz.prog M]
theorem l1High_v (h : PHeap) (c : Value) (g : Grid) (s : Sl h c cellF g.cells) (hw : 1 ≤ g.wide) : CallV Tryz.prog M 93 [.agg #[.int .i64 g.wide, c]] h (.int .i64 (rowsOf g)) := by
  have o1 := s.one
  have hs := s.small
  refine calls_of_sf Tryz.func93 rfl Tryz.ntmps93 ?_
  simp only [argsL, Nat.reduceAdd]
  repeat (first | refine R1 ?_ | (refine R2 ?_; intro _))
  exact sf_ret (rV rfl)
theorem l2Back_v (h : PHeap) (d : Int) (h0 : 0 ≤ d) (h1 : d ≤ 3) : CallV Tryz.prog M 189 [.int .i64 d] h (.int .i64 ((d + 2) % 4)) := by
  refine calls_of_sf Tryz.func189 rfl Tryz.ntmps189 ?_
  simp only [argsL, Nat.reduceAdd]
  repeat (first | refine R1 ?_ | (refine R2 ?_; intro _))
  exact sf_ret (rV rfl)
theorem l3Many_v (h : PHeap) (c : Value) (g : Grid) (s : Sl h c cellF g.cells) {R : Int} (k : Gok g R) : CallV Tryz.prog M 79 [.agg #[.int .i64 g.wide, c]] h (.int .i64 (manyOf g)) := by
  have o1 := s.one
  have h1 := k.w1; have h2 := k.w5; have h3 := k.r1; have h4 := k.r5; have h5 := k.rows
  refine calls_of_sf Tryz.func79 rfl Tryz.ntmps79 ?_
  simp only [argsL, Nat.reduceAdd]
  repeat (first | refine R1 ?_ | (refine R2 ?_; intro _))
  refine sf_draw (by kernel_rfl) (regX_run [[], [0], [], [2], [0, 1, 2, 3], [0, 1, 2, 3, 4], [0, 1, 2, 3, 4, 5]] 4 [(0, false), (1, false), (2, false), (3, true)] (by kernel_rfl) (by kernel_rfl) (by kernel_rfl) ?_)
  repeat (refine Da1 ?_)
  refine a_callV (l1High_v h c g s h1) (by rfl) (by rfl) (.inl rfl) ?_
  repeat (refine Da1 ?_)
  (refine a_end (by rfl) (by rfl) ?_; simp only [finA, setL, List.drop_succ_cons, List.drop_zero])
  repeat (first | refine R1 ?_ | (refine R2 ?_; intro _))
  exact sf_ret (rV rfl)
theorem sDirTurn_v (h : PHeap) (k d : Int) (hd : 0 ≤ d ∧ d ≤ 3) : CallV Tryz.prog M 127 [.int .i64 k, .int .i64 d] h (.int .i64 (dirTurn k d)) := by
  obtain ⟨n, rfl⟩ : ∃ n : Nat, d = n := ⟨d.toNat, by omega⟩
  have hn : n = 0 ∨ n = 1 ∨ n = 2 ∨ n = 3 := by omega
  refine calls_of_sf Tryz.func127 rfl Tryz.ntmps127 ?_
  simp only [argsL, Nat.reduceAdd]
  repeat (first | refine R1 ?_ | (refine R2 ?_; intro _))
  refine fp (y_callV (l6In_v _ _ _ _) (by rfl) ?_)
  repeat (first | refine R1 ?_ | (refine R2 ?_; intro _))
  refine sf_cond (by rfl) (fun e => by simp at e; omega) fun _ => ?_
  repeat (first | refine R1 ?_ | (refine R2 ?_; intro _))
  rcases hn with rfl | rfl | rfl | rfl <;>
  · refine sf_if (fun e1 => ?_) fun e1 => ?_
    · repeat (first | refine R1 ?_ | (refine R2 ?_; intro _))
      refine sf_if (fun _ => ?_) fun e => absurd e1 e
      repeat (first | refine R1 ?_ | (refine R2 ?_; intro _))
      refine sf_ret (rV ?_)
      simp [dirTurn, e1, xorN]
    · repeat (first | refine R1 ?_ | (refine R2 ?_; intro _))
      refine sf_if (fun e2 => ?_) fun e2 => ?_
      · repeat (first | refine R1 ?_ | (refine R2 ?_; intro _))
        refine sf_ret (rV ?_)
        simp [dirTurn, e2, xorN]
      · repeat (first | refine R1 ?_ | (refine R2 ?_; intro _))
        refine sf_if (fun e3 => ?_) fun e3 => ?_
        · repeat (first | refine R1 ?_ | (refine R2 ?_; intro _))
          refine sf_if (fun _ => ?_) fun e => absurd e3 e
          repeat (first | refine R1 ?_ | (refine R2 ?_; intro _))
          refine sf_ret (rV ?_)
          simp [dirTurn, e3]
        · repeat (first | refine R1 ?_ | (refine R2 ?_; intro _))
          refine sf_if (fun e4 => ?_) fun e4 => ?_
          · repeat (first | refine R1 ?_ | (refine R2 ?_; intro _))
            refine sf_ret (rV ?_)
            simp [dirTurn, e4]
          · repeat (first | refine R1 ?_ | (refine R2 ?_; intro _))
            refine sf_ret (rV ?_)
            simp [dirTurn, e1, e2, e3, e4]
theorem next_rc {g : Grid} {R : Int} (k : Gok g R) {a d : Int} (h0 : 0 ≤ a) (h1 : a < g.cells.length) (dr dc : Int) (hd : (d = 0 ∧ dr = -1 ∧ dc = 0) ∨ (d = 1 ∧ dr = 0 ∧ dc = 1) ∨ (d = 2 ∧ dr = 1 ∧ dc = 0) ∨ (d = 3 ∧ dr = 0 ∧ dc = -1)) :
    nextAt g a d = if (0 ≤ a / g.wide + dr ∧ a / g.wide + dr ≤ rowsOf g - 1) ∧ 0 ≤ a % g.wide + dc ∧ a % g.wide + dc ≤ g.wide - 1 then some ((a / g.wide + dr) * g.wide + (a % g.wide + dc)) else none := by
  have h5 := k.len; have h6 := k.r1; have h7 := k.r5; have h8 := k.rows
  unfold nextAt
  rw [h8]
  rcases k.wides with e | e | e | e | e <;> simp only [e] at h5 ⊢ <;> rcases hd with ⟨rfl, rfl, rfl⟩ | ⟨rfl, rfl, rfl⟩ | ⟨rfl, rfl, rfl⟩ | ⟨rfl, rfl, rfl⟩ <;> simp only [if_true, if_false, show ¬ (1 : Int) = 0 by decide, show ¬ (2 : Int) = 0 by decide, show ¬ (2 : Int) = 1 by decide, show ¬ (3 : Int) = 0 by decide, show ¬ (3 : Int) = 1 by decide, show ¬ (3 : Int) = 2 by decide] <;> (split <;> split) <;> first | rfl | (exfalso; omega) | (congr 1; omega)
theorem l2Next_v (h : PHeap) (c : Value) (g : Grid) (s : Sl h c cellF g.cells) {R : Int} (k : Gok g R) (a d : Int) (ha : 0 ≤ a ∧ a < g.cells.length) (hd : 0 ≤ d ∧ d ≤ 3) : CallV Tryz.prog M 169 [.agg #[.int .i64 g.wide, c], .int .i64 a, .int .i64 d] h (stepV g a d) := by
  have o1 := s.one
  have h1 := k.w1; have h2 := k.w5; have h3 := k.r1; have h4 := k.r5; have h5 := k.rows
  have hsm := k.small
  obtain ⟨n, rfl⟩ : ∃ n : Nat, d = n := ⟨d.toNat, by omega⟩
  have q0 := Int.ediv_nonneg ha.1 (show 0 ≤ g.wide by omega)
  have q1 := Int.ediv_le_self g.wide ha.1
  have q2 := Int.emod_nonneg a (show g.wide ≠ 0 by omega)
  have q3 := Int.emod_lt_of_pos a (show 0 < g.wide by omega)
  have key : ∀ dr dc : Int, gt ([-1, 0, 1, 0] : List Int) n = dr → gt ([0, 1, 0, -1] : List Int) n = dc → nextAt g a (n : Int) = if (0 ≤ a / g.wide + dr ∧ a / g.wide + dr ≤ rowsOf g - 1) ∧ 0 ≤ a % g.wide + dc ∧ a % g.wide + dc ≤ g.wide - 1 then some ((a / g.wide + dr) * g.wide + (a % g.wide + dc)) else none := by
    intro dr dc e1 e2
    have hn : n = 0 ∨ n = 1 ∨ n = 2 ∨ n = 3 := by omega
    refine next_rc k ha.1 ha.2 dr dc ?_
    rcases hn with rfl | rfl | rfl | rfl <;> subst e1 e2 <;> simp [gt]
  have b1 : -1 ≤ gt ([-1, 0, 1, 0] : List Int) n ∧ gt ([-1, 0, 1, 0] : List Int) n ≤ 1 := by
    have hn : n = 0 ∨ n = 1 ∨ n = 2 ∨ n = 3 := by omega
    rcases hn with rfl | rfl | rfl | rfl <;> simp [gt]
  have b2 : -1 ≤ gt ([0, 1, 0, -1] : List Int) n ∧ gt ([0, 1, 0, -1] : List Int) n ≤ 1 := by
    have hn : n = 0 ∨ n = 1 ∨ n = 2 ∨ n = 3 := by omega
    rcases hn with rfl | rfl | rfl | rfl <;> simp [gt]
  refine calls_of_sf Tryz.func169 rfl Tryz.ntmps169 ?_
  simp only [argsL, Nat.reduceAdd]
  repeat (first | refine R1 ?_ | (refine R2 ?_; intro _))
  generalize hX : ([-1, 0, 1, 0] : List Int) = xs at *
  generalize hY : ([0, 1, 0, -1] : List Int) = ys at *
  have lx : xs.length = 4 := by rw [← hX]; rfl
  have ly : ys.length = 4 := by rw [← hY]; rfl
  refine sf_draw (by kernel_rfl) (regX_run [[], [], [1], [0, 1, 2], [], [], [4, 5], [4, 5, 6], [0, 1, 2, 3, 4, 5, 6, 7], [0, 1, 2, 3, 4, 5, 6, 7, 8]] 8 [(0, false), (1, false), (2, false), (3, false), (5, false), (4, true), (6, false), (7, true)] (by kernel_rfl) (by kernel_rfl) (by kernel_rfl) ?_)
  repeat (refine Da1 ?_)
  refine a_bs (by rfl) (by rfl) (by infer_instance) (by infer_instance) (by infer_instance) (by infer_instance) (by rfl) (by rfl) (by rfl) (by decide) (.inl rfl) fun w Aw gw => ?_
  rw [hX] at gw
  repeat (refine Da1 ?_)
  refine a_qw (by rfl) (.inl rfl) (z_loadG (by rfl) gw (by omega) (by rfl)) ?_
  repeat (refine Da1 ?_)
  (refine a_end (by rfl) (by rfl) ?_; simp only [finA, setL, List.drop_succ_cons, List.drop_zero])
  repeat (first | refine R1 ?_ | (refine R2 ?_; intro _))
  refine sf_draw (by kernel_rfl) (regX_run [[], [], [1], [0, 1, 2], [], [], [4, 5], [4, 5, 6], [0, 1, 2, 3, 4, 5, 6, 7], [0, 1, 2, 3, 4, 5, 6, 7, 8]] 8 [(0, false), (1, false), (2, false), (3, false), (5, false), (4, true), (6, false), (7, true)] (by kernel_rfl) (by kernel_rfl) (by kernel_rfl) ?_)
  repeat (refine Da1 ?_)
  refine a_bs (by rfl) (by rfl) (by infer_instance) (by infer_instance) (by infer_instance) (by infer_instance) (by rfl) (by rfl) (by rfl) (by decide) (.inl rfl) fun u Au gu => ?_
  rw [hY] at gu
  repeat (refine Da1 ?_)
  refine a_qw (by rfl) (.inl rfl) (z_loadG (by rfl) gu (by omega) (by rfl)) ?_
  repeat (refine Da1 ?_)
  (refine a_end (by rfl) (by rfl) ?_; simp only [finA, setL, List.drop_succ_cons, List.drop_zero])
  have key' := key _ _ rfl rfl
  clear key
  repeat (first | refine R1 ?_ | (refine R2 ?_; intro _))
  refine fp (y_callV (l1High_v h c g s h1) (by rfl) ?_)
  repeat (first | refine R1 ?_ | (refine R2 ?_; intro _))
  refine fp (y_callV (l6In_v _ _ _ _) (by rfl) ?_)
  repeat (first | refine R1 ?_ | (refine R2 ?_; intro _))
  refine f_splitB (fun e1 => ?_) fun e1 => ?_
  · repeat (first | refine R1 ?_ | (refine R2 ?_; intro _))
    refine sf_T rfl ?_
    repeat (first | refine R1 ?_ | (refine R2 ?_; intro _))
    refine sf_ret (rV ?_)
    rw [stepV, key', if_neg (by simp at e1; omega)]
  · repeat (first | refine R1 ?_ | (refine R2 ?_; intro _))
    refine fp (y_callV (l6In_v _ _ _ _) (by rfl) ?_)
    repeat (first | refine R1 ?_ | (refine R2 ?_; intro _))
    refine sf_cond (by rfl) (fun e2 => ?_) fun e2 => ?_
    · repeat (first | refine R1 ?_ | (refine R2 ?_; intro _))
      refine sf_ret (rV ?_)
      rw [stepV, key', if_neg (by simp at e2; omega)]
    · have f1 : 0 ≤ a / g.wide + gt xs n ∧ a / g.wide + gt xs n ≤ rowsOf g - 1 := by simp at e1; omega
      have f2 : 0 ≤ a % g.wide + gt ys n ∧ a % g.wide + gt ys n ≤ g.wide - 1 := by simp at e2; omega
      have f3 : 0 ≤ (a / g.wide + gt xs n) * g.wide ∧ (a / g.wide + gt xs n) * g.wide ≤ 5 * 5 := ⟨Int.mul_nonneg (by omega) (by omega), Int.mul_le_mul (by omega) (by omega) (by omega) (by omega)⟩
      repeat (first | refine R1 ?_ | (refine R2 ?_; intro _))
      refine sf_ret (rV ?_)
      rw [stepV, key', if_pos ⟨f1, f2⟩]
theorem l3Ray_v (h : PHeap) (c : Value) (g : Grid) (s : Sl h c cellF g.cells) {R : Int} (k : Gok g R) (j : Int) (h0 : 0 ≤ j) (hm : j < manyOf g) : CallV Tryz.prog M 109 [.agg #[.int .i64 g.wide, c], .int .i64 j] h (.agg #[.int .i64 (rayAt g j).at', .int .i64 (rayAt g j).dir]) := by
  have o1 := s.one
  have h1 := k.w1; have h2 := k.w5; have h3 := k.r1; have h4 := k.r5; have h5 := k.rows
  have hsm := k.small
  unfold manyOf at hm
  refine calls_of_sf Tryz.func109 rfl Tryz.ntmps109 ?_
  simp only [argsL, Nat.reduceAdd]
  repeat (first | refine R1 ?_ | (refine R2 ?_; intro _))
  refine fp (y_callV (l1High_v h c g s h1) (by rfl) ?_)
  repeat (first | refine R1 ?_ | (refine R2 ?_; intro _))
  refine sf_if (fun e1 => ?_) fun e1 => ?_
  · repeat (first | refine R1 ?_ | (refine R2 ?_; intro _))
    refine sf_ret (rV ?_)
    rw [rayAt, if_pos e1]
  repeat (first | refine R1 ?_ | (refine R2 ?_; intro _))
  refine sf_if (fun e2 => ?_) fun e2 => ?_
  · have f3 : 0 ≤ (j - g.wide) * g.wide ∧ (j - g.wide) * g.wide ≤ 5 * 5 := ⟨Int.mul_nonneg (by omega) (by omega), Int.mul_le_mul (by omega) (by omega) (by omega) (by omega)⟩
    repeat (first | refine R1 ?_ | (refine R2 ?_; intro _))
    refine sf_ret (rV ?_)
    rw [rayAt, if_neg e1, if_pos e2]
  repeat (first | refine R1 ?_ | (refine R2 ?_; intro _))
  refine sf_if (fun e3 => ?_) fun e3 => ?_
  · repeat (first | refine R1 ?_ | (refine R2 ?_; intro _))
    refine sf_ret (rV ?_)
    rw [rayAt, if_neg e1, if_neg e2, if_pos e3]
  have f3 : 0 ≤ (j - g.wide - rowsOf g - g.wide) * g.wide ∧ (j - g.wide - rowsOf g - g.wide) * g.wide ≤ 5 * 5 := ⟨Int.mul_nonneg (by omega) (by omega), Int.mul_le_mul (by omega) (by omega) (by omega) (by omega)⟩
  repeat (first | refine R1 ?_ | (refine R2 ?_; intro _))
  refine sf_ret (rV ?_)
  rw [rayAt, if_neg e1, if_neg e2, if_neg e3]
  simp only [show (g.cells.length : Int) - 1 - g.wide + 1 - (j - g.wide - rowsOf g - g.wide) * g.wide = g.cells.length - g.wide - (j - g.wide - rowsOf g - g.wide) * g.wide by omega]
theorem l3Of_v (h : PHeap) (c : Value) (g : Grid) (s : Sl h c cellF g.cells) {R : Int} (k : Gok g R) (a d : Int) (hd : 0 ≤ d ∧ d ≤ 3) : CallV Tryz.prog M 170 [.agg #[.int .i64 g.wide, c], .int .i64 a, .int .i64 d] h (.int .i64 (sightOf g a d)) := by
  have o1 := s.one
  have hmm := k.many
  obtain ⟨N, hN⟩ : ∃ N : Nat, manyOf g = N := ⟨(manyOf g).toNat, by omega⟩
  refine calls_of_sf Tryz.func170 rfl Tryz.ntmps170 ?_
  simp only [argsL, Nat.reduceAdd]
  repeat (first | refine R1 ?_ | (refine R2 ?_; intro _))
  refine sf_rd [1, 2, 3] 7 N 0 (fun j => ∀ i : Int, 0 ≤ i → i < j → rayAt g i ≠ ⟨a, (d + 2) % 4⟩) (by omega) (fun i _ _ => by omega) (fun j hj hi => ?_)
  repeat (first | refine R1 ?_ | (refine R2 ?_; intro _))
  refine fp (y_callV (l3Many_v h c g s k) (by rfl) ?_)
  rw [hN]
  repeat (first | refine R1 ?_ | (refine R2 ?_; intro _))
  refine sf_if (fun h4 => ?_) fun h4 => ?_
  · obtain ⟨⟨r0, r1⟩, r2, r3⟩ := rayAt_ok k (j := (j : Int)) (by omega) (by omega)
    repeat (first | refine R1 ?_ | (refine R2 ?_; intro _))
    refine fp (y_callV (l3Ray_v h c g s k (j : Int) (by omega) (by omega)) (by rfl) ?_)
    repeat (first | refine R1 ?_ | (refine R2 ?_; intro _))
    refine f_split (fun e1 => ?_) fun e1 => ?_
    · repeat (first | refine R1 ?_ | (refine R2 ?_; intro _))
      refine fp (y_callV (l2Back_v _ _ r2 r3) (by rfl) ?_)
      repeat (first | refine R1 ?_ | (refine R2 ?_; intro _))
      refine sf_if (fun e2 => ?_) fun e2 => ?_
      · repeat (first | refine R1 ?_ | (refine R2 ?_; intro _))
        refine sf_ret (rV ?_)
        rw [sightOf_some k (i := (j : Int)) (by omega) (by omega) (ray_eq e1 (by omega))]
      · repeat (first | refine R1 ?_ | (refine R2 ?_; intro _))
        refine ⟨⟨by omega, fun i i0 i1 => ?_⟩, rfl, rfl, _, inferInstance⟩
        rcases Int.lt_or_le i j with h | h
        · exact hi i i0 h
        · obtain rfl : i = j := by omega
          intro e; rw [e] at e2; simp only at e2; omega
    · repeat (first | refine R1 ?_ | (refine R2 ?_; intro _))
      refine sf_N rfl ?_
      repeat (first | refine R1 ?_ | (refine R2 ?_; intro _))
      refine ⟨⟨by omega, fun i i0 i1 => ?_⟩, rfl, rfl, _, inferInstance⟩
      rcases Int.lt_or_le i j with h | h
      · exact hi i i0 h
      · obtain rfl : i = j := by omega
        intro e; rw [e] at e1; exact e1 rfl
  · refine sf_exit ?_
    repeat (first | refine R1 ?_ | (refine R2 ?_; intro _))
    refine sf_ret (rV ?_)
    rw [sightOf_none fun i i0 i1 => hi i i0 (by omega)]
theorem sEnd_f (h : PHeap) (b : Nat) (w c vv ev : Value) (ow : Sl.One w) (oc : Sl.One c) (ov : Sl.One vv) (AE : Own) (es : List LEnd) (gr : Gr AE ev 144 endF es) (hl : es.length ≤ 200000) (kind a n : Int) :
    CallF Tryz.prog M 125 [.pointer (some ⟨b, 0, none⟩), .int .i64 kind, .int .i64 a, .int .i64 n] ((b, .cells #[w, c, vv, ev] 122) :: AE) h fun _ A => ∃ ev' AE', A = (b, .cells #[w, c, vv, ev'] 122) :: AE' ∧ Gr AE' ev' 144 endF (es ++ endIf kind a n) := by
  have o1 := gr.one
  refine calls_of_sf Tryz.func125 rfl Tryz.ntmps125 ?_
  simp only [argsL, Nat.reduceAdd]
  repeat (first | refine R1 ?_ | (refine R2 ?_; intro _))
  refine sf_if (fun e => ?_) fun e => ?_
  · repeat (first | refine R1 ?_ | (refine R2 ?_; intro _))
    refine fp (y_bs (by rfl) (by rfl) (by rfl) (by rfl) (by decide) fun u Au gu => ?_)
    repeat (first | refine R1 ?_ | (refine R2 ?_; intro _))
    refine fp (y_append (by rfl) (by rfl) gr gu (fun y _ => FlatOne.one y) (by rfl) (by rfl) (by simp; omega) (by simp; omega) fun ev2 A2 g2 => ?_)
    have o2 := g2.one
    repeat (first | refine R1 ?_ | (refine R2 ?_; intro _))
    exact nO ((b, .cells #[w, c, vv, ev2] 122) :: A2) ⟨ev2, A2, rfl, by rw [endIf, if_pos e]; exact g2⟩
  · repeat (first | refine R1 ?_ | (refine R2 ?_; intro _))
    exact nO ((b, .cells #[w, c, vv, ev] 122) :: AE) ⟨ev, AE, rfl, by rw [endIf, if_neg e, List.append_nil]; exact gr⟩
def WalkO (b : Nat) (g : Grid) (c : Value) (A : Own) (V : List Visit) (E : List LEnd) : Prop := ∃ vv ev AV AE, A = (b, .cells #[.int .i64 g.wide, c, vv, ev] 122) :: (AV ++ AE) ∧ Gr AV vv 135 visitF V ∧ Gr AE ev 144 endF E
def GoesOn (M : Jdg → Prop) (h : PHeap) (b : Nat) (g : Grid) (c : Value) (f : FuncId) (a d w : Int) (r : Sl.Lit) : Prop :=
  ∀ (A : Own) (V : List Visit) (E : List LEnd), WalkO b g c A V E → V.length + r.1 ≤ 50000 → E.length + 2 * r.1 ≤ 100000 →
    CallF Tryz.prog M f [.pointer (some ⟨b, 0, none⟩), .int .i64 a, .int .i64 d, .int .i64 w] A h fun _ A' => WalkO b g c A' (V ++ r.2.1) (E ++ r.2.2)
theorem sLeave_f (h : PHeap) (b : Nat) (c : Value) (g : Grid) (s : Sl h c cellF g.cells) {R : Int} (k : Gok g R) (n : Nat) (a d w : Int) (ha : 0 ≤ a ∧ a < g.cells.length) (hd : 0 ≤ d ∧ d ≤ 3) (hw : 1 ≤ w ∧ w ≤ 64) (r : Sl.Lit) (hr : leaveF g (comeF g n) a d w = some r)
    (ih : ∀ (a d w : Int) (r : Sl.Lit), (0 ≤ a ∧ a < g.cells.length) → (0 ≤ d ∧ d ≤ 3) → (1 ≤ w ∧ w ≤ 64) → comeF g n a d w = some r → GoesOn M h b g c 110 a d w r) : GoesOn M h b g c 128 a d w r := by
  rintro A V E ⟨vv, ev, AV, AE, rfl, gv, ge⟩ hV hE
  have o1 := s.one
  have o2 := gv.one
  have o3 := ge.one
  have hsm := k.small
  unfold leaveF at hr
  rw [if_neg (by omega)] at hr
  refine calls_of_sf Tryz.func128 rfl Tryz.ntmps128 ?_
  simp only [argsL, Nat.reduceAdd]
  repeat (first | refine R1 ?_ | (refine R2 ?_; intro _))
  refine fp (y_callV (l2Next_v h c g s k a d ha hd) (by rfl) ?_)
  unfold stepV
  cases en : nextAt g a d with
  | some b2 =>
    rw [en] at hr
    simp only at hr ⊢
    repeat (first | refine R1 ?_ | (refine R2 ?_; intro _))
    refine sf_T rfl ?_
    repeat (first | refine R1 ?_ | (refine R2 ?_; intro _))
    refine fp (y_call (ih b2 d w r (nextAt_ok k ha.1 ha.2 en) hd hw hr _ V E ⟨vv, ev, AV, AE, rfl, gv, ge⟩ hV hE) (by rfl) ?_)
    rintro _ A2 q
    repeat (first | refine R1 ?_ | (refine R2 ?_; intro _))
    exact sf_ret (rO A2 q)
  | none =>
    rw [en] at hr
    simp only [Option.some.injEq] at hr ⊢
    subst hr
    repeat (first | refine R1 ?_ | (refine R2 ?_; intro _))
    refine sf_N rfl ?_
    repeat (first | refine R1 ?_ | (refine R2 ?_; intro _))
    refine fp (y_callV (l3Of_v h c g s k a d hd) (by rfl) ?_)
    repeat (first | refine R1 ?_ | (refine R2 ?_; intro _))
    refine fp (y_call (sEnd_f h b (.int .i64 g.wide) c vv ev inferInstance o1 o2 AE E ge (by simp only at hE; omega) 0 (sightOf g a d) w) (by rfl) ?_)
    rintro _ _ ⟨ev2, AE2, rfl, ge2⟩
    rw [endIf, if_pos (by omega)] at ge2
    repeat (first | refine R1 ?_ | (refine R2 ?_; intro _))
    exact nO ((b, .cells #[.int .i64 g.wide, c, vv, ev2] 122) :: (AV ++ AE2)) ⟨vv, ev2, AV, AE2, rfl, by simpa using gv, ge2⟩
theorem sHalf_f (h : PHeap) (b : Nat) (c : Value) (g : Grid) (s : Sl h c cellF g.cells) {R : Int} (k : Gok g R) (n : Nat) (a d w : Int) (ha : 0 ≤ a ∧ a < g.cells.length) (hd : 0 ≤ d ∧ d ≤ 3) (hw : 0 ≤ w ∧ w ≤ 64) (r : Sl.Lit) (hr : leaveF g (comeF g n) a d w = some r)
    (ih : ∀ (a d w : Int) (r : Sl.Lit), (0 ≤ a ∧ a < g.cells.length) → (0 ≤ d ∧ d ≤ 3) → (1 ≤ w ∧ w ≤ 64) → comeF g n a d w = some r → GoesOn M h b g c 110 a d w r) : GoesOn M h b g c 126 a d w r := by
  intro A V E hA hV hE
  refine calls_of_sf Tryz.func126 rfl Tryz.ntmps126 ?_
  simp only [argsL, Nat.reduceAdd]
  repeat (first | refine R1 ?_ | (refine R2 ?_; intro _))
  refine sf_if (fun e => ?_) fun e => ?_
  · repeat (first | refine R1 ?_ | (refine R2 ?_; intro _))
    refine fp (y_call (sLeave_f h b c g s k n a d w ha hd ⟨by omega, hw.2⟩ r hr ih A V E hA hV hE) (by rfl) ?_)
    rintro _ A2 q
    repeat (first | refine R1 ?_ | (refine R2 ?_; intro _))
    exact nO A2 q
  · obtain rfl : w = 0 := by omega
    cases hr
    repeat (first | refine R1 ?_ | (refine R2 ?_; intro _))
    exact nO A (by simpa using hA)
theorem lenOf_come {g : Grid} {R : Int} (k : Gok g R) {n : Nat} {a d w : Int} (ha : 0 ≤ a ∧ a < g.cells.length) (hd : 0 ≤ d ∧ d ≤ 3) (hw : w ≤ 64 ∧ 0 ≤ w) {n1 : Nat} {v1 : List Visit} {e1 : List LEnd} (h : leaveF g (comeF g n) a d w = some (n1, v1, e1)) : v1.length ≤ n1 ∧ e1.length ≤ 2 * n1 := by
  unfold leaveF at h
  split at h
  · cases h; simp
  · split at h
    · cases h; simp
    · rename_i b hn
      have hb := nextAt_ok k ha.1 ha.2 hn
      have := comeF_ok k _ _ _ _ _ hb.1 hb.2 hd.1 hd.2 (by omega) h
      exact ⟨this.lv, this.le⟩
theorem sCome_f (h : PHeap) (b : Nat) (c : Value) (g : Grid) (s : Sl h c cellF g.cells) {R : Int} (k : Gok g R) : ∀ (n : Nat) (a d w : Int) (r : Sl.Lit), (0 ≤ a ∧ a < g.cells.length) → (0 ≤ d ∧ d ≤ 3) → (1 ≤ w ∧ w ≤ 64) → comeF g n a d w = some r → GoesOn M h b g c 110 a d w r
  | 0, _, _, _, _, _, _, _, hr => by cases hr
  | n + 1, a, d, w, r, ha, hd, hw, hr => by
    obtain ⟨n1, v1, e1, n2, v2, e2, q1, q2, rfl⟩ := comeF_inv hr
    have ih := sCome_f h b c g s k n
    rintro A V E ⟨vv, ev, AV, AE, rfl, gv, ge⟩ hV hE
    have o1 := s.one
    have o2 := gv.one
    have o3 := ge.one
    have hsm := k.small
    have hkd := k.kind ha.1 ha.2
    have hdt := dirTurn_ok (kind := (gt g.cells a.toNat).kind) hd.1 hd.2
    have hsp := spread_le (kind := (gt g.cells a.toNat).kind) hw.1
    obtain ⟨a, rfl⟩ : ∃ a' : Nat, a = a' := ⟨a.toNat, by omega⟩
    simp only at hV hE
    have hh : w / 2 ≤ 64 ∧ 0 ≤ w / 2 := by omega
    have zr : ∀ {x : Int} {r : Sl.Lit}, leaveF g (comeF g n) a x 0 = some r → r = (1, [], []) := fun e => by cases e; rfl
    refine calls_of_sf Tryz.func110 rfl Tryz.ntmps110 ?_
    simp only [argsL, Nat.reduceAdd]
    repeat (first | refine R1 ?_ | (refine R2 ?_; intro _))
    refine sf_if (fun e0 => ?_) fun e0 => ?_
    · omega
    repeat (first | refine R1 ?_ | (refine R2 ?_; intro _))
    refine fp (y_bs (by rfl) (by rfl) (by rfl) (by rfl) (by decide) fun u Au gu => ?_)
    repeat (first | refine R1 ?_ | (refine R2 ?_; intro _))
    refine fp (y_append (by rfl) (by rfl) gv gu (fun y _ => FlatOne.one y) (by rfl) (by rfl) (by simp; omega) (by simp; omega) fun vv2 AV2 gv2 => ?_)
    have o4 := gv2.one
    repeat (first | refine R1 ?_ | (refine R2 ?_; intro _))
    simp only [Int.toNat_natCast] at hkd hdt hsp q1 q2
    generalize hkk : (gt g.cells a).kind = kd at *
    have hH : hereF g (a : Int) w = endIf (if kd = 7 then 2 else 1) a (spread kd w).stop ++ endIf 3 a (spread kd w).lost := by subst hkk; unfold hereF; simp only [Int.toNat_natCast]
    rw [hH]
    clear hr hH
    refine sf_if (fun k1 => ?_) fun k1 => ?_
    · subst k1
      have z1 := zr q1
      have z2 := zr q2
      simp only [Prod.mk.injEq] at z1 z2
      obtain ⟨rfl, rfl, rfl⟩ := z1
      obtain ⟨rfl, rfl, rfl⟩ := z2
      repeat (first | refine R1 ?_ | (refine R2 ?_; intro _))
      refine fp (y_call (sEnd_f h b (.int .i64 g.wide) c vv2 ev inferInstance o1 o4 AE E ge (by omega) 1 a w) (by rfl) ?_)
      rintro _ _ ⟨ev2, AE2, rfl, ge2⟩
      repeat (first | refine R1 ?_ | (refine R2 ?_; intro _))
      exact nO ((b, .cells #[.int .i64 g.wide, c, vv2, ev2] 122) :: (AV2 ++ AE2)) ⟨vv2, ev2, AV2, AE2, rfl, by simpa using gv2, by simpa [spread, endIf] using ge2⟩
    repeat (first | refine R1 ?_ | (refine R2 ?_; intro _))
    refine sf_if (fun k7 => ?_) fun k7 => ?_
    · subst k7
      have z1 := zr q1
      have z2 := zr q2
      simp only [Prod.mk.injEq] at z1 z2
      obtain ⟨rfl, rfl, rfl⟩ := z1
      obtain ⟨rfl, rfl, rfl⟩ := z2
      repeat (first | refine R1 ?_ | (refine R2 ?_; intro _))
      refine fp (y_call (sEnd_f h b (.int .i64 g.wide) c vv2 ev inferInstance o1 o4 AE E ge (by omega) 2 a w) (by rfl) ?_)
      rintro _ _ ⟨ev2, AE2, rfl, ge2⟩
      repeat (first | refine R1 ?_ | (refine R2 ?_; intro _))
      exact nO ((b, .cells #[.int .i64 g.wide, c, vv2, ev2] 122) :: (AV2 ++ AE2)) ⟨vv2, ev2, AV2, AE2, rfl, by simpa using gv2, by simpa [spread, endIf] using ge2⟩
    repeat (first | refine R1 ?_ | (refine R2 ?_; intro _))
    refine sf_if (fun k6 => ?_) fun k6 => ?_
    · subst k6
      have z2 := zr q2
      simp only [Prod.mk.injEq] at z2
      obtain ⟨rfl, rfl, rfl⟩ := z2
      repeat (first | refine R1 ?_ | (refine R2 ?_; intro _))
      refine fp (y_call (sEnd_f h b (.int .i64 g.wide) c vv2 ev inferInstance o1 o4 AE E ge (by omega) 3 a (w - w / 2)) (by rfl) ?_)
      rintro _ _ ⟨ev2, AE2, rfl, ge2⟩
      have hel := endIf_len 3 a (w - w / 2)
      repeat (first | refine R1 ?_ | (refine R2 ?_; intro _))
      refine fp (y_call (sHalf_f h b c g s k n a d (w / 2) ha hd ⟨hh.2, hh.1⟩ _ q1 ih _ _ _ ⟨vv2, ev2, AV2, AE2, rfl, gv2, ge2⟩ (by simp; omega) (by simp only [List.length_append]; omega)) (by rfl) ?_)
      rintro _ A3 q
      repeat (first | refine R1 ?_ | (refine R2 ?_; intro _))
      exact nO A3 (by simpa [spread, endIf] using q)
    repeat (first | refine R1 ?_ | (refine R2 ?_; intro _))
    by_cases k45 : kd = 4 ∨ kd = 5
    · have es : spread kd w = ⟨w / 2, w / 2, w - w / 2 - w / 2, 0⟩ := by unfold spread; rw [if_neg (by omega), if_neg (by omega), if_pos k45]
      have k7' : kd ≠ 7 := by omega
      simp only [es] at q1 q2 ⊢
      have ew : w - 2 * (w / 2) = w - w / 2 - w / 2 := by omega
      refine sf_if (fun k4 => ?_) fun k4 => ?_
      · repeat (first | refine R1 ?_ | (refine R2 ?_; intro _))
        refine sf_if (fun _ => ?_) fun e => absurd k4 e
        repeat (first | refine R1 ?_ | (refine R2 ?_; intro _))
        rw [ew]
        refine fp (y_call (sEnd_f h b (.int .i64 g.wide) c vv2 ev inferInstance o1 o4 AE E ge (by omega) 3 a (w - w / 2 - w / 2)) (by rfl) ?_)
        rintro _ _ ⟨ev2, AE2, rfl, ge2⟩
        have hel := endIf_len 3 a (w - w / 2 - w / 2)
        repeat (first | refine R1 ?_ | (refine R2 ?_; intro _))
        refine fp (y_call (sHalf_f h b c g s k n a d (w / 2) ha hd ⟨hh.2, hh.1⟩ _ q1 ih _ _ _ ⟨vv2, ev2, AV2, AE2, rfl, gv2, ge2⟩ (by simp; omega) (by simp only [List.length_append]; omega)) (by rfl) ?_)
        rintro _ A3 q
        repeat (first | refine R1 ?_ | (refine R2 ?_; intro _))
        refine fp (y_callV (sDirTurn_v h kd d hd) (by rfl) ?_)
        repeat (first | refine R1 ?_ | (refine R2 ?_; intro _))
        have l1 := lenOf_come k ha hd hh q1
        refine fp (y_call (sHalf_f h b c g s k n a (dirTurn kd d) (w / 2) ha hdt ⟨hh.2, hh.1⟩ _ q2 ih _ _ _ q (by simp only [List.length_append, List.length_cons, List.length_nil]; omega) (by simp only [List.length_append]; omega)) (by rfl) ?_)
        rintro _ A4 q'
        repeat (first | refine R1 ?_ | (refine R2 ?_; intro _))
        exact nO A4 (by simpa [k7', endIf] using q')
      · repeat (first | refine R1 ?_ | (refine R2 ?_; intro _))
        have k5 : kd = 5 := by omega
        refine sf_if (fun _ => ?_) fun e => absurd k5 e
        repeat (first | refine R1 ?_ | (refine R2 ?_; intro _))
        rw [ew]
        refine fp (y_call (sEnd_f h b (.int .i64 g.wide) c vv2 ev inferInstance o1 o4 AE E ge (by omega) 3 a (w - w / 2 - w / 2)) (by rfl) ?_)
        rintro _ _ ⟨ev2, AE2, rfl, ge2⟩
        have hel := endIf_len 3 a (w - w / 2 - w / 2)
        repeat (first | refine R1 ?_ | (refine R2 ?_; intro _))
        refine fp (y_call (sHalf_f h b c g s k n a d (w / 2) ha hd ⟨hh.2, hh.1⟩ _ q1 ih _ _ _ ⟨vv2, ev2, AV2, AE2, rfl, gv2, ge2⟩ (by simp; omega) (by simp only [List.length_append]; omega)) (by rfl) ?_)
        rintro _ A3 q
        repeat (first | refine R1 ?_ | (refine R2 ?_; intro _))
        refine fp (y_callV (sDirTurn_v h kd d hd) (by rfl) ?_)
        repeat (first | refine R1 ?_ | (refine R2 ?_; intro _))
        have l1 := lenOf_come k ha hd hh q1
        refine fp (y_call (sHalf_f h b c g s k n a (dirTurn kd d) (w / 2) ha hdt ⟨hh.2, hh.1⟩ _ q2 ih _ _ _ q (by simp only [List.length_append, List.length_cons, List.length_nil]; omega) (by simp only [List.length_append]; omega)) (by rfl) ?_)
        rintro _ A4 q'
        repeat (first | refine R1 ?_ | (refine R2 ?_; intro _))
        exact nO A4 (by simpa [k7', endIf] using q')
    · have k7' : kd ≠ 7 := k7
      have k4 : ¬ kd = 4 := by omega
      have k5 : ¬ kd = 5 := by omega
      refine sf_if (fun e => absurd e k4) fun _ => ?_
      repeat (first | refine R1 ?_ | (refine R2 ?_; intro _))
      refine sf_if (fun e => absurd e k5) fun _ => ?_
      repeat (first | refine R1 ?_ | (refine R2 ?_; intro _))
      refine fp (y_callV (sDirTurn_v h kd d hd) (by rfl) ?_)
      repeat (first | refine R1 ?_ | (refine R2 ?_; intro _))
      have k023 : kd = 0 ∨ (kd = 2 ∨ kd = 3) := by omega
      rcases k023 with k0 | k23
      · have es : spread kd w = ⟨w, 0, 0, 0⟩ := by unfold spread; rw [if_pos k0]
        simp only [es] at q1 q2 ⊢
        have z2 := zr q2
        simp only [Prod.mk.injEq] at z2
        obtain ⟨rfl, rfl, rfl⟩ := z2
        rw [show dirTurn kd d = d by rw [k0]; rfl]
        refine fp (y_call (sLeave_f h b c g s k n a d w ha hd hw _ q1 ih _ _ _ ⟨vv2, ev, AV2, AE, rfl, gv2, ge⟩ (by simp; omega) (by omega)) (by rfl) ?_)
        rintro _ A3 q
        repeat (first | refine R1 ?_ | (refine R2 ?_; intro _))
        exact nO A3 (by simpa [k7', endIf] using q)
      · have es : spread kd w = ⟨0, w, 0, 0⟩ := by unfold spread; rw [if_neg (by omega), if_pos k23]
        simp only [es] at q1 q2 ⊢
        have z1 := zr q1
        simp only [Prod.mk.injEq] at z1
        obtain ⟨rfl, rfl, rfl⟩ := z1
        refine fp (y_call (sLeave_f h b c g s k n a (dirTurn kd d) w ha hdt hw _ q2 ih _ _ _ ⟨vv2, ev, AV2, AE, rfl, gv2, ge⟩ (by simp; omega) (by omega)) (by rfl) ?_)
        rintro _ A3 q
        repeat (first | refine R1 ?_ | (refine R2 ?_; intro _))
        exact nO A3 (by simpa [k7', endIf] using q)
end Go.Proofs.YtekjikbaefgncaaGreat

/- Walks: light and pictures: the reference's. -/
namespace Go.Proofs.YtekjikbaefgncaaGreat
open Go Go.Sl
set_option maxRecDepth 100000
set_option maxHeartbeats 4000000
attribute [local irreducible] Go.Code.sf sfOps Opq opo retF Do1 anyO
variable {M : Jdg → Prop} [IsCl Tryz.prog M]
theorem l11Go_f (h : PHeap) (c : Value) (g : Grid) (s : Sl h c cellF g.cells) {R : Int} (k : Gok g R) (j : Int) (hj : 0 ≤ j ∧ j < manyOf g) : CallF Tryz.prog M 94 [.agg #[.int .i64 g.wide, c], .int .i64 j] [] h fun v A => ∃ b, v = .pointer (some ⟨b, 0, none⟩) ∧ WalkO b g c A (goLight g j).1 (goLight g j).2 := by
  have o1 := s.one
  obtain ⟨sz, v, es, hc, hg, hsz, hok⟩ := goLight_is k hj.1 hj.2
  rw [hg]
  obtain ⟨hra, hrd⟩ := rayAt_ok k hj.1 hj.2
  refine calls_of_sf Tryz.func94 rfl Tryz.ntmps94 ?_
  simp only [argsL, Nat.reduceAdd]
  repeat (first | refine R1 ?_ | (refine R2 ?_; intro _))
  refine fp (y_bs (by rfl) (by rfl) (by rfl) (by rfl) (by decide) fun vv AV gv => ?_)
  have ov := gv.one
  repeat (first | refine R1 ?_ | (refine R2 ?_; intro _))
  refine fp (y_bs (by rfl) (by rfl) (by rfl) (by rfl) (by decide) fun ev AE ge => ?_)
  have oe := ge.one
  repeat (first | refine R1 ?_ | (refine R2 ?_; intro _))
  refine fp (y_callV (l3Ray_v h c g s k j hj.1 hj.2) (by rfl) ?_)
  repeat (first | refine R1 ?_ | (refine R2 ?_; intro _))
  rename_i b2 b5 b6
  refine fp (y_call (sCome_f h b5 c g s k 6600 _ _ 64 (sz, v, es) hra hrd ⟨by decide, by decide⟩ hc ((b5, .cells #[.int .i64 g.wide, c, vv, ev] 122) :: (AV ++ AE)) [] [] ⟨vv, ev, AV, AE, rfl, gv, ge⟩ (by simp only [List.length_nil]; omega) (by simp only [List.length_nil]; omega)) (by rfl) ?_)
  rintro _ A2 q
  repeat (first | refine R1 ?_ | (refine R2 ?_; intro _))
  exact sf_ret (rO A2 ⟨b5, rfl, by simpa using q⟩)
theorem l11Light_v (h : PHeap) (c : Value) (g : Grid) (s : Sl h c cellF g.cells) {R : Int} (kg : Gok g R) (ev : Value) (es : List LEnd) (sl : Sl h ev endF es) (hes : ∀ e ∈ es, EndOk g 64 e) (hle : es.length ≤ 100000) : CallV Tryz.prog M 95 [.agg #[.int .i64 g.wide, c], ev] h (.int .i64 (lightOf g es)) := by
  have o1 := s.one
  have o2 := sl.one
  refine calls_of_sf Tryz.func95 rfl Tryz.ntmps95 ?_
  simp only [argsL, Nat.reduceAdd]
  repeat (first | refine R1 ?_ | (refine R2 ?_; intro _))
  rename_i b2
  refine sf_lp (ι := Nat) [1, 2] (fun k => [(5, .int .i64 (sumF (endLight g) (es.take k))), (6, .int .i64 (k : Int))]) (fun k O => k ≤ es.length ∧ O = [(b2, .cells #[.int .i64 g.wide, c] 35)]) (fun k => es.length - k) 0 [(b2, .cells #[.int .i64 g.wide, c] 35)] ⟨by omega, rfl⟩ ?_
  rintro j O ⟨hj, rfl⟩
  have hsum := lightOf_bd kg hes j hle
  repeat (first | refine R1 ?_ | (refine R2 ?_; intro _))
  refine sf_if (fun e1 => ?_) fun e1 => ?_
  · have hj1 : j < es.length := by omega
    have ek := hes (gt es j) (by rw [gt_eq hj1]; exact List.getElem_mem _)
    have hst := sumF_step (f := endLight g) hj1
    have hbd := endLight_bd kg ek
    repeat (first | refine R1 ?_ | (refine R2 ?_; intro _))
    refine sf_if (fun e2 => ?_) fun e2 => ?_
    · have hcl := ek.cell (by omega)
      rw [endLight, if_pos e2] at hst hbd
      repeat (first | refine R1 ?_ | (refine R2 ?_; intro _))
      refine sf_draw (by kernel_rfl) (regX_run [[], [], [], [1, 2], [1, 2, 3], [1, 2, 3, 4], [], [6], [], [], [8, 9], [8, 9, 10], [8, 9, 10, 11], [6, 7, 8, 9, 10, 11, 12], [6, 7, 8, 9, 10, 11, 12, 13], [6, 7, 8, 9, 10, 11, 12, 13, 14], [1, 2, 3, 4, 5, 6, 7, 8, 9, 10, 11, 12, 13, 14, 15], [0, 1, 2, 3, 4, 5, 6, 7, 8, 9, 10, 11, 12, 13, 14, 15, 16], [0, 1, 2, 3, 4, 5, 6, 7, 8, 9, 10, 11, 12, 13, 14, 15, 16, 17]] 17 [(0, false), (1, false), (2, false), (3, false), (4, false), (5, false), (6, false), (7, false), (8, false), (9, false), (10, false), (11, false), (12, false), (13, false), (14, false), (15, false), (16, false)] (by kernel_rfl) (by kernel_rfl) (by kernel_rfl) ?_)
      repeat (refine Da1 ?_)
      (refine a_end (by rfl) (by rfl) ?_; simp only [finA, setL, List.drop_succ_cons, List.drop_zero])
      repeat (first | refine R1 ?_ | (refine R2 ?_; intro _))
      exact ⟨j + 1, by omega, ⟨by rw [hst]; rfl, rfl, trivial⟩, rfl, _, _, inferInstance, by omega, rfl⟩
    · rw [endLight, if_neg e2, Int.add_zero] at hst
      repeat (first | refine R1 ?_ | (refine R2 ?_; intro _))
      exact ⟨j + 1, by omega, ⟨by rw [hst]; rfl, rfl, trivial⟩, rfl, _, _, inferInstance, by omega, rfl⟩
  · refine sf_exit ?_
    repeat (first | refine R1 ?_ | (refine R2 ?_; intro _))
    refine sf_ret (rV ?_)
    rw [lightOf, List.take_of_length_le (by omega)]
end Go.Proofs.YtekjikbaefgncaaGreat

/- Walks: edits, versions, own sights: the reference's. -/
namespace Go.Proofs.YtekjikbaefgncaaGreat
open Go Go.Sl
set_option maxRecDepth 100000
set_option maxHeartbeats 4000000
attribute [local irreducible] Go.Code.sf sfOps Opq opo retF Do1 anyO
variable {M : Jdg → Prop} [IsCl Tryz.prog M]
theorem l13Same_v (h : PHeap) (a b : Value) (xs ys : List Int) (sx : Sl h a intF xs) (sy : Sl h b intF ys) : CallV Tryz.prog M 53 [a, b] h (.bool (decide (xs = ys))) := by
  have o1 := sx.one
  have o2 := sy.one
  have hx := sx.small
  have hy := sy.small
  refine calls_of_sf Tryz.func53 rfl Tryz.ntmps53 ?_
  simp only [argsL, Nat.reduceAdd]
  repeat (first | refine R1 ?_ | (refine R2 ?_; intro _))
  refine sf_if (fun e0 => ?_) fun e0 => ?_
  · repeat (first | refine R1 ?_ | (refine R2 ?_; intro _))
    exact sf_ret (rV (bF fun e => e0 (by rw [e])))
  have hl : xs.length = ys.length := by omega
  repeat (first | refine R1 ?_ | (refine R2 ?_; intro _))
  refine sf_rd [0, 1] 5 xs.length 0 (fun k => xs.take k = ys.take k) (by omega) rfl (fun k hk hi => ?_)
  repeat (first | refine R1 ?_ | (refine R2 ?_; intro _))
  refine sf_if (fun h4 => ?_) fun h4 => ?_
  · have hk4 : k < xs.length := by omega
    have hk5 : k < ys.length := by omega
    repeat (first | refine R1 ?_ | (refine R2 ?_; intro _))
    refine sf_draw (by kernel_rfl) (regX_run [[], [], [0, 1], [0, 1, 2], [], [], [4, 5], [4, 5, 6], [0, 1, 2, 3, 4, 5, 6, 7]] 8 [(0, false), (1, false), (2, false), (3, false), (4, false), (5, false), (6, false), (7, false)] (by kernel_rfl) (by kernel_rfl) (by kernel_rfl) ?_)
    repeat (refine Da1 ?_)
    (refine a_end (by rfl) (by rfl) ?_; simp only [finA, setL, List.drop_succ_cons, List.drop_zero])
    repeat (first | refine R1 ?_ | (refine R2 ?_; intro _))
    refine sf_if (fun e1 => ?_) fun e1 => ?_
    · repeat (first | refine R1 ?_ | (refine R2 ?_; intro _))
      exact sf_ret (rV (bF (eq_at e1)))
    · repeat (first | refine R1 ?_ | (refine R2 ?_; intro _))
      exact ⟨⟨hk4, eq_step hk4 hk5 hi (by simpa using e1)⟩, rfl, rfl, _, inferInstance⟩
  · refine sf_exit ?_
    repeat (first | refine R1 ?_ | (refine R2 ?_; intro _))
    exact sf_ret (rV (bT (eq_end hl (by omega) hi)))
theorem l13Edits_v (h : PHeap) (c : Value) (g : Grid) (s : Sl h c cellF g.cells) (v : Value) (es : List Edit) (s2 : Sl h v editF es) : CallV Tryz.prog M 69 [.agg #[.int .i64 g.wide, c], v] h (.bool (decide (es.length ≤ 20) && editsOk g es)) := by
  have o1 := s.one
  have o2 := s2.one
  have hs := s2.small
  have hs1 := s.small
  refine calls_of_sf Tryz.func69 rfl Tryz.ntmps69 ?_
  simp only [argsL, Nat.reduceAdd]
  repeat (first | refine R1 ?_ | (refine R2 ?_; intro _))
  refine sf_if (fun e0 => ?_) fun e0 => ?_
  · repeat (first | refine R1 ?_ | (refine R2 ?_; intro _))
    refine sf_ret (rV ?_)
    simp; intros; omega
  have h20 : decide (es.length ≤ 20) = true := decide_eq_true (by omega)
  rw [h20, Bool.true_and]
  repeat (first | refine R1 ?_ | (refine R2 ?_; intro _))
  refine sf_rd [1, 2] 5 es.length 0 (fun k => editsOk g (es.take k) = true) (by omega) rfl (fun k hk hi => ?_)
  repeat (first | refine R1 ?_ | (refine R2 ?_; intro _))
  refine sf_if (fun h4 => ?_) fun h4 => ?_
  · have hk4 : k < es.length := by omega
    have hstep : editsOk g (es.take (k + 1)) = editOk g (gt es k) := by
      rw [editsOk, all_take hk4]
      rw [editsOk] at hi
      rw [hi, Bool.true_and]
    have hF : editOk g (gt es k) = false → editsOk g es = false := fun e => by rw [editsOk, all_false hk4 e]
    repeat (first | refine R1 ?_ | (refine R2 ?_; intro _))
    refine sf_draw (by kernel_rfl) (regX_run [[], [], [0, 1], [0, 1, 2], [0, 1, 2, 3], [0, 1, 2, 3, 4], [0, 1, 2, 3, 4, 5], [0, 1, 2, 3, 4, 5, 6], [0, 1, 2, 3, 4, 5, 6, 7], [0, 1, 2, 3, 4, 5, 6, 7], [0, 1, 2, 3, 4, 5, 6, 7, 8, 9], [0, 1, 2, 3, 4, 5, 6, 7, 8, 9, 10], [0, 1, 2, 3, 4, 5, 6, 7, 8, 9, 10, 11], [0, 1, 2, 3, 4, 5, 6, 7], [0, 1, 2, 3, 4, 5, 6, 7, 13], [0, 1, 2, 3, 4, 5, 6, 7, 13, 14], [0, 1, 2, 3, 4, 5, 6, 7, 13, 14, 15], [0, 1, 2, 3, 4, 5, 6, 7, 8, 9, 10, 11, 12, 13, 14, 15, 16], [0, 1, 2, 3, 4, 5, 6, 7, 8, 9, 10, 11, 12, 13, 14, 15, 16, 17], [0, 1, 2, 3, 4, 5, 6, 7, 8, 9, 10, 11, 12, 13, 14, 15, 16, 17, 18]] 17 [(0, false), (1, false), (2, false), (3, false), (4, false), (5, true), (6, false), (7, false), (8, false), (9, false), (10, false), (11, false), (12, false), (13, false), (14, false), (15, false), (16, false)] (by kernel_rfl) (by kernel_rfl) (by kernel_rfl) ?_)
    repeat (refine Da1 ?_)
    refine a_callV (sCellOk_v _ (gt es k).cell) (by rfl) (by rfl) (.inl rfl) ?_
    cases hc : cellOk (gt es k).cell with
    | false =>
      repeat (refine Da1 ?_)
      (refine a_end (by rfl) (by rfl) ?_; simp only [finA, setL, List.drop_succ_cons, List.drop_zero])
      repeat (first | refine R1 ?_ | (refine R2 ?_; intro _))
      refine sf_T rfl ?_
      repeat (first | refine R1 ?_ | (refine R2 ?_; intro _))
      refine sf_ret (rV ?_)
      rw [hF (by simp [editOk, hc])]
    | true =>
      repeat (refine Da1 ?_)
      (refine a_end (by rfl) (by rfl) ?_; simp only [finA, setL, List.drop_succ_cons, List.drop_zero])
      refine fp (y_callV (l6In_v _ _ _ _) (by rfl) ?_)
      repeat (first | refine R1 ?_ | (refine R2 ?_; intro _))
      refine sf_cond (by rfl) (fun h5 => ?_) fun h5 => ?_
      · repeat (first | refine R1 ?_ | (refine R2 ?_; intro _))
        refine sf_ret (rV ?_)
        rw [hF (by simp at h5; simp [editOk, hc]; intros; omega)]
      · repeat (first | refine R1 ?_ | (refine R2 ?_; intro _))
        refine ⟨⟨hk4, ?_⟩, rfl, rfl, _, inferInstance⟩
        rw [hstep]; simp at h5; simp [editOk, hc]; omega
  · refine sf_exit ?_
    repeat (first | refine R1 ?_ | (refine R2 ?_; intro _))
    rw [take_ge hk (by omega)] at hi
    exact sf_ret (rV (by rw [hi]))
end Go.Proofs.YtekjikbaefgncaaGreat

/- Walks: keepers looked at: the reference's. -/
namespace Go.Proofs.YtekjikbaefgncaaGreat
open Go Go.Sl
set_option maxRecDepth 100000
set_option maxHeartbeats 4000000
attribute [local irreducible] Go.Code.sf sfOps Opq opo retF Do1 anyO
variable {M : Jdg → Prop} [IsCl Tryz.prog M]
end Go.Proofs.YtekjikbaefgncaaGreat

/- Walks: feet, looks, scenes: the reference's. -/
namespace Go.Proofs.YtekjikbaefgncaaGreat
open Go Go.Sl
set_option maxRecDepth 100000
set_option maxHeartbeats 4000000
attribute [local irreducible] Go.Code.sf sfOps Opq opo retF Do1 anyO
variable {M : Jdg → Prop} [IsCl Tryz.prog M]
instance : ElemF Tryz.prog 4 boolF := ⟨trivial⟩
theorem l11Foot_f (h : PHeap) (c : Value) (g : Grid) (s : Sl h c cellF g.cells) {R : Int} (kg : Gok g R) (vv : Value) (vs : List Visit) (sv : Sl h vv visitF vs) (hvs : ∀ v ∈ vs, 0 ≤ v.at' ∧ v.at' < g.cells.length) : CallF Tryz.prog M 96 [.agg #[.int .i64 g.wide, c], vv] [] h fun u A => Gr A u 3 intF (footIs g vs) := by
  have o1 := s.one
  have o2 := sv.one
  have hsm := kg.small
  have hvl := sv.small
  refine calls_of_sf Tryz.func96 rfl Tryz.ntmps96 ?_
  simp only [argsL, Nat.reduceAdd]
  repeat (first | refine R1 ?_ | (refine R2 ?_; intro _))
  rename_i b2
  refine fp (y_make (by rfl) (by rfl) (by rfl) (by decide) (by omega) fun v A gr => ?_)
  have o3 := gr.one
  repeat (first | refine R1 ?_ | (refine R2 ?_; intro _))
  refine sf_lp (ι := Nat × List Bool) [1, 5] (fun x => [(6, .int .i64 (x.1 : Int))]) (fun x O => x.1 ≤ vs.length ∧ ∃ A', O = A' ++ [(b2, .cells #[.int .i64 g.wide, c] 35)] ∧ Gr A' v 4 boolF x.2 ∧ x.2.length = g.cells.length ∧ ∀ a, a < g.cells.length → gt x.2 a = (vs.take x.1).any fun w => decide (w.at' = (a : Nat))) (fun x => vs.length - x.1) (0, List.replicate g.cells.length false) (A ++ [(b2, .cells #[.int .i64 g.wide, c] 35)]) ⟨by simp only; omega, A, rfl, gr, by simp, fun a ha => by simp [gt, ha]⟩ ?_
  rintro ⟨j, bs⟩ O ⟨hj, A', rfl, gb, hbl, hb⟩
  simp only at hj gb hbl hb ⊢
  repeat (first | refine R1 ?_ | (refine R2 ?_; intro _))
  refine sf_if (fun h4 => ?_) fun h4 => ?_
  · have hj4 : j < vs.length := by omega
    have hv := hvs (gt vs j) (by rw [gt_eq hj4]; exact List.getElem_mem _)
    repeat (first | refine R1 ?_ | (refine R2 ?_; intro _) | refine fp (Rq ?_ (z_indexGI (by rfl) (by rfl) (by assumption) (by omega) (by omega))))
    refine fp (y_storeG0 (by rfl) (by rfl) gb (by omega) (by rfl) fun A2 ys hy hl fv g2 => ?_)
    repeat (first | refine R1 ?_ | (refine R2 ?_; intro _))
    refine ⟨(j + 1, ys), by simp only; omega, ⟨rfl, trivial⟩, rfl, A2 ++ [(b2, .cells #[.int .i64 g.wide, c] 35)], _, inferInstance, by simp only; omega, A2, rfl, g2, by simp only; omega, fun a ha => ?_⟩
    simp only
    rw [hy, take_succ_gt hj4, List.any_append]
    simp only [List.any_cons, List.any_nil, Bool.or_false]
    by_cases e : (gt vs j).at'.toNat = a
    · subst e
      rw [gt_set (by omega)]
      have : (gt vs j).at' = (((gt vs j).at'.toNat : Nat) : Int) := by omega
      simp [← this]
    · rw [gt_set_ne e, hb a ha]
      have : ¬ (gt vs j).at' = ((a : Nat) : Int) := by omega
      simp [this]
  · refine sf_exit ?_
    obtain rfl : j = vs.length := by omega
    rw [List.take_of_length_le (Nat.le_refl _)] at hb
    repeat (first | refine R1 ?_ | (refine R2 ?_; intro _))
    refine fp (y_bs (by rfl) (by rfl) (by rfl) (by rfl) (by decide) fun w AW gw => ?_)
    repeat (first | refine R1 ?_ | (refine R2 ?_; intro _))
    refine sf_lp (ι := Nat × Value) [5] (fun x => [(7, x.2), (8, .int .i64 (x.1 : Int))]) (fun x O => x.1 ≤ g.cells.length ∧ ∃ AW xs, O = AW ++ (A' ++ [(b2, .cells #[.int .i64 g.wide, c] 35)]) ∧ xs.length ≤ x.1 ∧ xs = (((List.range x.1).filter fun i => vs.any fun v => decide (v.at' = (i : Nat))).map fun i => ((i : Nat) : Int)) ∧ Gr AW x.2 3 intF xs) (fun x => g.cells.length - x.1) (0, w) (AW ++ (A' ++ [(b2, .cells #[.int .i64 g.wide, c] 35)])) ⟨by simp only; omega, AW, [], rfl, by simp, rfl, gw⟩ ?_
    rintro ⟨i, w⟩ O ⟨hi, AW, xs, rfl, hxl, hxs, gx⟩
    simp only at hi hxl hxs gx ⊢
    have ow := gx.one
    repeat (first | refine R1 ?_ | (refine R2 ?_; intro _))
    refine sf_if (fun h5 => ?_) fun h5 => ?_
    · have hi4 : i < g.cells.length := by omega
      repeat (first | refine R1 ?_ | (refine R2 ?_; intro _) | refine fp (Rq ?_ (z_indexGI (by rfl) (by rfl) (by assumption) (by omega) (by omega))))
      rw [hb i hi4]
      refine sf_cond (by rfl) (fun e => ?_) fun e => ?_
      · repeat (first | refine R1 ?_ | (refine R2 ?_; intro _))
        refine fp (y_bs (by rfl) (by rfl) (by rfl) (by rfl) (by decide) fun u Au gu => ?_)
        repeat (first | refine R1 ?_ | (refine R2 ?_; intro _))
        refine fp (y_append (by rfl) (by rfl) gx gu (fun y _ => FlatOne.one y) (by rfl) (by rfl) (by simp; omega) (by simp; omega) fun w2 A2 g2 => ?_)
        repeat (first | refine R1 ?_ | (refine R2 ?_; intro _))
        exact ⟨(i + 1, w2), by simp only; omega, ⟨rfl, rfl, trivial⟩, rfl, A2 ++ (A' ++ [(b2, .cells #[.int .i64 g.wide, c] 35)]), _, inferInstance, by simp only; omega, A2, _, rfl, by simp; omega, by simp only; rw [List.range_succ, List.filter_append, List.map_append, ← hxs]; simp only [List.filter_cons, e, if_true, List.filter_nil, List.map_cons, List.map_nil], g2⟩
      · repeat (first | refine R1 ?_ | (refine R2 ?_; intro _))
        exact ⟨(i + 1, w), by simp only; omega, ⟨rfl, rfl, trivial⟩, rfl, AW ++ (A' ++ [(b2, .cells #[.int .i64 g.wide, c] 35)]), _, inferInstance, by simp only; omega, AW, xs, rfl, by simp only; omega, by simp only; rw [List.range_succ, List.filter_append, List.map_append, ← hxs]; simp only [List.filter_cons, e, Bool.false_eq_true, if_false, List.filter_nil, List.map_nil, List.append_nil], gx⟩
    · refine sf_exit ?_
      obtain rfl : i = g.cells.length := by omega
      repeat (first | refine R1 ?_ | (refine R2 ?_; intro _))
      refine sf_ret (rO AW ?_)
      rw [footIs, ← hxs]; exact gx
end Go.Proofs.YtekjikbaefgncaaGreat

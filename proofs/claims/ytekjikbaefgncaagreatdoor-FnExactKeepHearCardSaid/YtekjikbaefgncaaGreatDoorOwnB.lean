/- Walks of the seat: FkF FkG FkH FkI FkJ FkK KF KJ KH KI KL SA SB SC SD SG. -/
import Derived.Test.YtekjikbaefgncaaGreatDoorOwnA
import Derived.Test.YtekjikbaefgncaaGreatDoorSlK
import Derived.Test.YtekjikbaefgncaaGreatDoorLibA
import Derived.Test.YtekjikbaefgncaaGreatDoorSlGo
import Derived.Test.YtekjikbaefgncaaGreatDoorSlSw
import Derived.Test.YtekjikbaefgncaaGreatDoorSmD
import Derived.Test.YtekjikbaefgncaaGreatDoorSlEd
import Derived.Test.YtekjikbaefgncaaGreatDoorSmL
import Derived.Test.YtekjikbaefgncaaGreatDoorSmS
import Derived.Test.YtekjikbaefgncaaGreatDoorLibC
import Derived.Test.YtekjikbaefgncaaGreatDoorLibD
set_option linter.unusedVariables false
set_option linter.unusedSimpArgs false
set_option linter.unusedSectionVars false
/- Walks: a worker of sidesComputed[int]: its loop. -/
namespace Go.Proofs.YtekjikbaefgncaaGreatDoor
open Go Go.Sl Go.Conc
set_option maxRecDepth 100000

noncomputable def loop52 : Code := match Tryz.f222.body with
  | some (.seq _ (.seq _ (.seq (.seq _ b) _))) => b
  | _ => .skip
abbrev wl (bS bC bO bCh : Nat) (v : Value) (k : Nat) : Locals := [(1, .pointer (some ⟨bS, 0, none⟩)), (2, .pointer (some ⟨bC, 0, none⟩)), (3, .pointer (some ⟨bO, 0, none⟩)), (4, .pointer (some ⟨bCh, 0, none⟩)), (5, v), (6, .int .i64 (k : Int))]
section
variable {M : Jdg → Prop} [IsCl Tryz.prog M]
attribute [local irreducible] Go.Code.so soOps Opq opo retO

theorem worker_loop (B : PHeap) (Wg : Nat) (bS bC bO bCh : Nat) (st : Nat → Nat) (fn : FuncId) (Fun52 : Fun Tryz.prog fn) (first cap : Array Value) (val : Nat → Int) (j : Nat) (hj : j < 4) (s4 : ∀ i, i < 5 → st i ≤ 1048576) (mono : st j ≤ st (j + 1))
    (hS : BAt B bS (.cells #[.int .i64 (st 0), .int .i64 (st 1), .int .i64 (st 2), .int .i64 (st 3), .int .i64 (st 4)] 277 (0, 0)))
    (hC : BAt B bC (.cells #[.int .i64 j] 3 (0, 0))) (hO : BAt B bO (.cells #[.func (.func fn) first cap] 243 (0, 0)))
    (of : ∀ (B' : PHeap), Le B B' → ∀ k, st j ≤ k → k < st (j + 1) → CallsR Tryz.prog M fn (first.toList ++ [.int .i64 (k : Int)] ++ cap.toList) B' fun v _ => v = .int .i64 (val k)) (L : Locals)
    (hL : Locals.sub (wl bS bC bO bCh (.slice none 0 0) (st j)) L) :
    loop52.so Tryz.prog M 28 (fun e L' A h' => e = .nrm ∧ ∃ v, Locals.sub [(2, .pointer (some ⟨bC, 0, none⟩)), (4, .pointer (some ⟨bCh, 0, none⟩)), (5, v)] L' ∧ Gr A v 3 intF ((List.range' (st j) (st (j + 1) - st j)).map val)) L [] B := by
  simp only [loop52, Tryz.f222]
  refine so_block ?_
  refine so_loop (ι := Nat) (A := fun k L O h' => st j ≤ k ∧ k ≤ st (j + 1) ∧ ∃ v, L = wl bS bC bO bCh v k ∧ Gr O v 3 intF ((List.range' (st j) (k - st j)).map val)) (fun k => st (j + 1) - k) (st j) hL ⟨Nat.le_refl _, mono, _, rfl, by simpa using Gr.nil _ _⟩ ?_
  rintro k _ O h' le ⟨k1, k2, v, rfl, gr⟩
  have hk := s4 (j + 1) (by omega)
  obtain rfl | rfl | rfl | rfl : j = 0 ∨ j = 1 ∨ j = 2 ∨ j = 3 := by omega
  · refine so_seq ?_
    refine so_seq ?_
    refine so_reg ?_
    refine so_q (q_move (by rfl)) ?_
    refine so_q (q_loadB (by infer_instance) (by rfl) (by infer_instance) (by rfl) (by rfl)) ?_
    refine Run.go ?_
    refine so_q (q_indexP (by infer_instance) (by infer_instance) (by rfl) (by rfl) (by decide) (by decide)) ?_
    refine so_q (q_loadB (by infer_instance) (by rfl) (by infer_instance) (by rfl) (by rfl)) ?_
    refine Run.go ?_
    refine so_cond rfl (fun h1 => ?_) (fun h1 => ?_)
    · have hlt : k < st 1 := by simpa using h1
      refine Run.go ?_
      refine so_q (q_loadB (by infer_instance) (by rfl) (by infer_instance) (by rfl) (by rfl)) ?_
      refine Run.go ?_
      refine op_callv Fun52 (vs := [.int .i64 (k : Int)]) (by rfl) (of h' le k k1 hlt) (.refl ([] ++ O)) (by rfl) ?_
      rintro u A' h'' le2 ⟨rfl, rfl⟩
      refine Run.go ?_
      refine op_buildSlice (by infer_instance) (by infer_instance) (by rfl) (by rfl) (by rfl) (by rfl) fun b => ?_
      refine Run.go ?_
      refine op_append (ys := [val k]) (R := [(b, .cells [Value.int .i64 (val k)].toArray 3 (0, 0))]) (by rfl) (by rfl) (by infer_instance) (by infer_instance) (by rfl) gr (List.perm_append_singleton _ _).symm rfl (src_own (by infer_instance)) (by simp [intF, allOne]; rfl) (by simp; omega) (by simp; omega) fun v' A' gr' => ?_
      refine so_drop (O' := A') (List.sublist_append_left _ _) ?_
      refine Run.go ?_
      have hw : IntKind.i64.wrap ((k : Int) + 1) = ((k + 1 : Nat) : Int) := by rw [IntKind.wrap_i64]; omega
      have hr : List.range' (st 0) (k + 1 - st 0) = List.range' (st 0) (k - st 0) ++ [k] := by
        rw [show k + 1 - st 0 = (k - st 0) + 1 by omega, List.range'_1_concat, show st 0 + (k - st 0) = k by omega]
      refine ⟨k + 1, wl bS bC bO bCh v' (k + 1), by simp only [Nat.reduceAdd]; omega, ⟨rfl, rfl, rfl, rfl, rfl, ?_, trivial⟩, by omega, by simp only [Nat.reduceAdd]; omega, v', rfl, ?_⟩
      · rw [← hw]; rfl
      · rw [hr, List.map_append]; exact gr'
    · have hge : k = st 1 := by
        have : ¬ (k < st 1) := by simpa using h1
        simp only [Nat.reduceAdd] at k2
        omega
      subst hge
      refine so_exit ?_
      exact ⟨rfl, v, ⟨rfl, rfl, rfl, trivial⟩, gr⟩
  · refine so_seq ?_
    refine so_seq ?_
    refine so_reg ?_
    refine so_q (q_move (by rfl)) ?_
    refine so_q (q_loadB (by infer_instance) (by rfl) (by infer_instance) (by rfl) (by rfl)) ?_
    refine Run.go ?_
    refine so_q (q_indexP (by infer_instance) (by infer_instance) (by rfl) (by rfl) (by decide) (by decide)) ?_
    refine so_q (q_loadB (by infer_instance) (by rfl) (by infer_instance) (by rfl) (by rfl)) ?_
    refine Run.go ?_
    refine so_cond rfl (fun h1 => ?_) (fun h1 => ?_)
    · have hlt : k < st 2 := by simpa using h1
      refine Run.go ?_
      refine so_q (q_loadB (by infer_instance) (by rfl) (by infer_instance) (by rfl) (by rfl)) ?_
      refine Run.go ?_
      refine op_callv Fun52 (vs := [.int .i64 (k : Int)]) (by rfl) (of h' le k k1 hlt) (.refl ([] ++ O)) (by rfl) ?_
      rintro u A' h'' le2 ⟨rfl, rfl⟩
      refine Run.go ?_
      refine op_buildSlice (by infer_instance) (by infer_instance) (by rfl) (by rfl) (by rfl) (by rfl) fun b => ?_
      refine Run.go ?_
      refine op_append (ys := [val k]) (R := [(b, .cells [Value.int .i64 (val k)].toArray 3 (0, 0))]) (by rfl) (by rfl) (by infer_instance) (by infer_instance) (by rfl) gr (List.perm_append_singleton _ _).symm rfl (src_own (by infer_instance)) (by simp [intF, allOne]; rfl) (by simp; omega) (by simp; omega) fun v' A' gr' => ?_
      refine so_drop (O' := A') (List.sublist_append_left _ _) ?_
      refine Run.go ?_
      have hw : IntKind.i64.wrap ((k : Int) + 1) = ((k + 1 : Nat) : Int) := by rw [IntKind.wrap_i64]; omega
      have hr : List.range' (st 1) (k + 1 - st 1) = List.range' (st 1) (k - st 1) ++ [k] := by
        rw [show k + 1 - st 1 = (k - st 1) + 1 by omega, List.range'_1_concat, show st 1 + (k - st 1) = k by omega]
      refine ⟨k + 1, wl bS bC bO bCh v' (k + 1), by simp only [Nat.reduceAdd]; omega, ⟨rfl, rfl, rfl, rfl, rfl, ?_, trivial⟩, by omega, by simp only [Nat.reduceAdd]; omega, v', rfl, ?_⟩
      · rw [← hw]; rfl
      · rw [hr, List.map_append]; exact gr'
    · have hge : k = st 2 := by
        have : ¬ (k < st 2) := by simpa using h1
        simp only [Nat.reduceAdd] at k2
        omega
      subst hge
      refine so_exit ?_
      exact ⟨rfl, v, ⟨rfl, rfl, rfl, trivial⟩, gr⟩
  · refine so_seq ?_
    refine so_seq ?_
    refine so_reg ?_
    refine so_q (q_move (by rfl)) ?_
    refine so_q (q_loadB (by infer_instance) (by rfl) (by infer_instance) (by rfl) (by rfl)) ?_
    refine Run.go ?_
    refine so_q (q_indexP (by infer_instance) (by infer_instance) (by rfl) (by rfl) (by decide) (by decide)) ?_
    refine so_q (q_loadB (by infer_instance) (by rfl) (by infer_instance) (by rfl) (by rfl)) ?_
    refine Run.go ?_
    refine so_cond rfl (fun h1 => ?_) (fun h1 => ?_)
    · have hlt : k < st 3 := by simpa using h1
      refine Run.go ?_
      refine so_q (q_loadB (by infer_instance) (by rfl) (by infer_instance) (by rfl) (by rfl)) ?_
      refine Run.go ?_
      refine op_callv Fun52 (vs := [.int .i64 (k : Int)]) (by rfl) (of h' le k k1 hlt) (.refl ([] ++ O)) (by rfl) ?_
      rintro u A' h'' le2 ⟨rfl, rfl⟩
      refine Run.go ?_
      refine op_buildSlice (by infer_instance) (by infer_instance) (by rfl) (by rfl) (by rfl) (by rfl) fun b => ?_
      refine Run.go ?_
      refine op_append (ys := [val k]) (R := [(b, .cells [Value.int .i64 (val k)].toArray 3 (0, 0))]) (by rfl) (by rfl) (by infer_instance) (by infer_instance) (by rfl) gr (List.perm_append_singleton _ _).symm rfl (src_own (by infer_instance)) (by simp [intF, allOne]; rfl) (by simp; omega) (by simp; omega) fun v' A' gr' => ?_
      refine so_drop (O' := A') (List.sublist_append_left _ _) ?_
      refine Run.go ?_
      have hw : IntKind.i64.wrap ((k : Int) + 1) = ((k + 1 : Nat) : Int) := by rw [IntKind.wrap_i64]; omega
      have hr : List.range' (st 2) (k + 1 - st 2) = List.range' (st 2) (k - st 2) ++ [k] := by
        rw [show k + 1 - st 2 = (k - st 2) + 1 by omega, List.range'_1_concat, show st 2 + (k - st 2) = k by omega]
      refine ⟨k + 1, wl bS bC bO bCh v' (k + 1), by simp only [Nat.reduceAdd]; omega, ⟨rfl, rfl, rfl, rfl, rfl, ?_, trivial⟩, by omega, by simp only [Nat.reduceAdd]; omega, v', rfl, ?_⟩
      · rw [← hw]; rfl
      · rw [hr, List.map_append]; exact gr'
    · have hge : k = st 3 := by
        have : ¬ (k < st 3) := by simpa using h1
        simp only [Nat.reduceAdd] at k2
        omega
      subst hge
      refine so_exit ?_
      exact ⟨rfl, v, ⟨rfl, rfl, rfl, trivial⟩, gr⟩
  · refine so_seq ?_
    refine so_seq ?_
    refine so_reg ?_
    refine so_q (q_move (by rfl)) ?_
    refine so_q (q_loadB (by infer_instance) (by rfl) (by infer_instance) (by rfl) (by rfl)) ?_
    refine Run.go ?_
    refine so_q (q_indexP (by infer_instance) (by infer_instance) (by rfl) (by rfl) (by decide) (by decide)) ?_
    refine so_q (q_loadB (by infer_instance) (by rfl) (by infer_instance) (by rfl) (by rfl)) ?_
    refine Run.go ?_
    refine so_cond rfl (fun h1 => ?_) (fun h1 => ?_)
    · have hlt : k < st 4 := by simpa using h1
      refine Run.go ?_
      refine so_q (q_loadB (by infer_instance) (by rfl) (by infer_instance) (by rfl) (by rfl)) ?_
      refine Run.go ?_
      refine op_callv Fun52 (vs := [.int .i64 (k : Int)]) (by rfl) (of h' le k k1 hlt) (.refl ([] ++ O)) (by rfl) ?_
      rintro u A' h'' le2 ⟨rfl, rfl⟩
      refine Run.go ?_
      refine op_buildSlice (by infer_instance) (by infer_instance) (by rfl) (by rfl) (by rfl) (by rfl) fun b => ?_
      refine Run.go ?_
      refine op_append (ys := [val k]) (R := [(b, .cells [Value.int .i64 (val k)].toArray 3 (0, 0))]) (by rfl) (by rfl) (by infer_instance) (by infer_instance) (by rfl) gr (List.perm_append_singleton _ _).symm rfl (src_own (by infer_instance)) (by simp [intF, allOne]; rfl) (by simp; omega) (by simp; omega) fun v' A' gr' => ?_
      refine so_drop (O' := A') (List.sublist_append_left _ _) ?_
      refine Run.go ?_
      have hw : IntKind.i64.wrap ((k : Int) + 1) = ((k + 1 : Nat) : Int) := by rw [IntKind.wrap_i64]; omega
      have hr : List.range' (st 3) (k + 1 - st 3) = List.range' (st 3) (k - st 3) ++ [k] := by
        rw [show k + 1 - st 3 = (k - st 3) + 1 by omega, List.range'_1_concat, show st 3 + (k - st 3) = k by omega]
      refine ⟨k + 1, wl bS bC bO bCh v' (k + 1), by simp only [Nat.reduceAdd]; omega, ⟨rfl, rfl, rfl, rfl, rfl, ?_, trivial⟩, by omega, by simp only [Nat.reduceAdd]; omega, v', rfl, ?_⟩
      · rw [← hw]; rfl
      · rw [hr, List.map_append]; exact gr'
    · have hge : k = st 4 := by
        have : ¬ (k < st 4) := by simpa using h1
        simp only [Nat.reduceAdd] at k2
        omega
      subst hge
      refine so_exit ?_
      exact ⟨rfl, v, ⟨rfl, rfl, rfl, trivial⟩, gr⟩
end
end Go.Proofs.YtekjikbaefgncaaGreatDoor

/- Walks: a worker of sidesComputed[int], whole. -/
namespace Go.Proofs.YtekjikbaefgncaaGreatDoor
open Go Go.Sl Go.Conc Go.Conc.Lib
set_option maxRecDepth 100000

theorem gr_at {A : Own} {v : Value} {T : TypeId} {α : Type} {E : Flat α} {xs : List α} (g : Gr A v T E xs) (hs : xs.length ≤ 281474976710656) {S : PHeap} (h : ∀ b o, (b, o) ∈ A → S.obj b = some o) : Sl S v E xs := by
  rcases g.at' with ⟨rfl, rfl, rfl⟩ | ⟨b, cap, sp, rfl, rfl, h1, h2⟩
  · exact Sl.nil _ _
  · refine ⟨hs, .inr ⟨cap, rfl, h2, ?_⟩⟩
    refine cells_flat (fun j v e => ?_)
    rw [add_none]
    have e0 := h b _ (List.mem_singleton.2 rfl)
    simp only [vo, vb]
    rw [cell_of e0]
    have hj : j < (xs.flatMap E.f).length := by
      rcases Nat.lt_or_ge j (xs.flatMap E.f).length with h | h
      · exact h
      · rw [List.getElem?_eq_none h] at e; cases e
    simp only [Nat.zero_add, List.getElem?_toArray]
    rw [List.getElem?_append_left hj]; exact e

/-- What a worker sends. -/
def RowI (st : Nat → Nat) (val : Nat → Int) (i : Nat) (v : Value) (S : PHeap) : Prop := ∃ sl, v = .agg #[.int .i64 (i : Int), sl] ∧ Sl S sl intF ((List.range' (st i) (st (i + 1) - st i)).map val)
theorem RowI.mono {st : Nat → Nat} {val : Nat → Int} : ∀ i v (h h' : PHeap), (∀ b o, h.obj b = some o → h'.obj b = some o) → RowI st val i v h → RowI st val i v h' := fun i v h h' l ⟨sl, e, s⟩ => ⟨sl, e, s.sub l⟩
noncomputable abbrev FI (W : World) (RR : Value → Prop) (Wg Ch : Nat) (H0 : PHeap) (st : Nat → Nat) (val : Nat → Int) : Fk := mkFk Tryz.prog W RR Wg Ch 289 3 H0 (RowI st val) RowI.mono
instance {W : World} {RR : Value → Prop} {Wg Ch : Nat} {H0 : PHeap} {st : Nat → Nat} {val : Nat → Int} {i C : Nat} {v : Value} : IsCl Tryz.prog (· = JW (FI W RR Wg Ch H0 st val) i C v) := inferInstanceAs (IsCl (FI W RR Wg Ch H0 st val).P _)

noncomputable def body52 : Code := match Tryz.f222.body with | some c => c | _ => .skip
noncomputable def tail52 : Code := match Tryz.f222.body with | some (.seq _ c) => c | _ => .skip

section
variable {W : World} {RR : Value → Prop} {Wg Ch : Nat} {H0 : PHeap} {st : Nat → Nat} {val : Nat → Int}
attribute [local irreducible] Go.Code.so soOps Opq opo retO Go.Code.sl slOps slList opv

theorem tail52_jw (B : PHeap) (bS bC bO bCh : Nat) (fn : FuncId) (Fun52 : Fun Tryz.prog fn) (first cap : Array Value) (j : Nat) (hj : j < 4) (s4 : ∀ i, i < 5 → st i ≤ 1048576) (mono : st j ≤ st (j + 1)) (hgh : B.gh = [0]) (hsub : ∀ b o, H0.obj b = some o → B.obj b = some o)
    (hS : BAt B bS (.cells #[.int .i64 (st 0), .int .i64 (st 1), .int .i64 (st 2), .int .i64 (st 3), .int .i64 (st 4)] 277 (0, 0)))
    (hC : BAt B bC (.cells #[.int .i64 j] 3 (0, 0))) (hO : BAt B bO (.cells #[.func (.func fn) first cap] 243 (0, 0))) (hCh : BAt B bCh (.cells #[.chan (some Ch)] 279 (0, 0)))
    (of : ∀ (M : Jdg → Prop) [IsCl Tryz.prog M] (B' : PHeap), Le B B' → ∀ k, st j ≤ k → k < st (j + 1) → CallsR Tryz.prog M fn (first.toList ++ [.int .i64 (k : Int)] ++ cap.toList) B' fun v _ => v = .int .i64 (val k)) :
    tail52.sl Tryz.prog (· = JW (FI W RR Wg Ch H0 st val) j bC (.int .i64 j)) 28 (fun e _ h' => match e with | .nrm => h'.gh = [1] | _ => False) [(0, .pointer (some ⟨Wg, 0, none⟩)), (1, .pointer (some ⟨bS, 0, none⟩)), (2, .pointer (some ⟨bC, 0, none⟩)), (3, .pointer (some ⟨bO, 0, none⟩)), (4, .pointer (some ⟨bCh, 0, none⟩))] B := by
  have e0 : tail52 = .seq (match tail52 with | .seq a _ => a | _ => .skip) (.seq (.seq (match tail52 with | .seq _ (.seq (.seq a _) _) => a | _ => .skip) loop52) (match tail52 with | .seq _ (.seq _ a) => a | _ => .skip)) := rfl
  rw [e0]
  simp only [tail52, Tryz.f222]
  refine sl_seq ?_
  refine sl_reg ?_
  refine l_q (fun _ _ => o_assign (by rfl)) ?_
  refine l_nil ?_
  refine sl_seq ?_
  refine sl_seq ?_
  refine sl_reg ?_
  refine l_q (fun _ _ => o_loadB (by rfl) hC.at' (by rfl) (by rfl)) ?_
  have hcs : takeCells #[.int .i64 (st 0), .int .i64 (st 1), .int .i64 (st 2), .int .i64 (st 3), .int .i64 (st 4)] (0 + (j : Int).toNat * 1) 1 = some [.int .i64 (st j)] := by
    obtain rfl | rfl | rfl | rfl : j = 0 ∨ j = 1 ∨ j = 2 ∨ j = 3 := by omega
    all_goals rfl
  refine l_q (fun _ _ => o_indexAddrA (by rfl) (by rfl) (by omega) (by omega)) ?_
  refine l_q (fun _ _ => o_loadB (by rfl) hS.at' hcs (by rfl)) ?_
  refine l_q (fun _ _ => o_assign (by rfl)) ?_
  refine l_nil ?_
  refine sl_of_so (worker_loop B Wg bS bC bO bCh st fn Fun52 first cap val j hj s4 mono hS hC hO (of _) _ ⟨rfl, rfl, rfl, rfl, rfl, rfl, trivial⟩) (PHeap.le_refl _) rfl ?_
  rintro e L' A h' H' le ⟨rfl, v, ⟨g2, g4, g5, _⟩, gr⟩ rel
  have hB : ∀ b o, B.obj b = some o → H'.obj b = some o := fun b o e => (rel.base b o (le.le b o e).1).1
  refine sl_reg ?_
  refine l_q (fun _ _ => o_loadB g4 (hB _ _ hCh.at') (by rfl) (by rfl)) ?_
  refine l_q (fun _ _ => o_loadB (off := 0) (by first | exact g2 | (show Locals.get _ 2 = _; exact g2)) (hB _ _ hC.at') (by rfl) (by rfl)) ?_
  refine l_q (fun _ _ => o_move g5) ?_
  have hg' : H'.gh = [0] := (rel.gh.trans le.gh).trans hgh
  have hlen : ((List.range' (st j) (st (j + 1) - st j)).map val).length ≤ 281474976710656 := by
    have := s4 (j + 1) (by omega)
    simp; omega
  have hSl : Sl (beyond H0 (delb (ro H' [1]) bC)) v intF ((List.range' (st j) (st (j + 1) - st j)).map val) := gr_at gr hlen fun b o m => by
    obtain ⟨o1, o2, o3, o4⟩ := rel.own b o m
    have hn : H0.obj b = none := by
      cases z : H0.obj b with
      | none => rfl
      | some o => rw [(le.le b o (hsub b o z)).1] at o4; cases o4
    have hbC : b ≠ bC := fun z => by
      have := (le.le bC _ hC.at').1
      rw [← z, o4] at this; cases this
    simp only [beyond, hn, Option.isSome_none, Bool.false_eq_true, if_false, delb, ro, hbC]
    exact o1
  obtain ⟨ba, cp, rfl⟩ := hSl.val
  refine l_q (fun _ _ => o_build (by infer_instance) (by infer_instance) (by rfl) (by rfl)) ?_
  refine l_send (F := FI W RR Wg Ch H0 st val) (C := bC) (i := j) (v := .int .i64 j) hg' (hB _ _ hC.at') (by rfl) (by rfl) ?_ ?_
  · exact ⟨_, rfl, hSl⟩
  · exact l_nil rfl
end
end Go.Proofs.YtekjikbaefgncaaGreatDoor

/- Walks: a worker of sidesComputed[int], from its birth. -/
namespace Go.Proofs.YtekjikbaefgncaaGreatDoor
open Go Go.Sl Go.Conc Go.Conc.Lib
set_option maxRecDepth 100000
section
variable {W : World} {RR : Value → Prop} {Wg Ch : Nat} {H0 : PHeap} {st : Nat → Nat} {val : Nat → Int}

theorem worker_jw (B : PHeap) (bS bC bO bCh : Nat) (fn : FuncId) (Fun52 : Fun Tryz.prog fn) (first cap : Array Value) (j : Nat) (hj : j < 4) (s4 : ∀ i, i < 5 → st i ≤ 1048576) (mono : st j ≤ st (j + 1)) (hgh : B.gh = [0]) (hsub : ∀ b o, H0.obj b = some o → B.obj b = some o)
    (hS : BAt B bS (.cells #[.int .i64 (st 0), .int .i64 (st 1), .int .i64 (st 2), .int .i64 (st 3), .int .i64 (st 4)] 277 (0, 0)))
    (hC : BAt B bC (.cells #[.int .i64 j] 3 (0, 0))) (hO : BAt B bO (.cells #[.func (.func fn) first cap] 243 (0, 0))) (hCh : BAt B bCh (.cells #[.chan (some Ch)] 279 (0, 0)))
    (of : ∀ (M : Jdg → Prop) [IsCl Tryz.prog M] (B' : PHeap), Le B B' → ∀ k, st j ≤ k → k < st (j + 1) → CallsR Tryz.prog M fn (first.toList ++ [.int .i64 (k : Int)] ++ cap.toList) B' fun v _ => v = .int .i64 (val k))
    (tm : Array Value) (ha : Agree 28 [(0, .pointer (some ⟨Wg, 0, none⟩)), (1, .pointer (some ⟨bS, 0, none⟩)), (2, .pointer (some ⟨bC, 0, none⟩)), (3, .pointer (some ⟨bO, 0, none⟩)), (4, .pointer (some ⟨bCh, 0, none⟩))] tm) :
    JW (FI W RR Wg Ch H0 st val) j bC (.int .i64 j) B (G ((baseD 222).at ⟨tm, []⟩ [.code body52]) [bot Tryz.prog]) := by
  have Qu : ∀ {g g' : Goroutine} {h : PHeap}, g.status = .running → (∀ main w, stepG Tryz.prog main g w = .go g' w) → JW (FI W RR Wg Ch H0 st val) j bC (.int .i64 j) h g' → JW (FI W RR Wg Ch H0 st val) j bC (.int .i64 j) h g := fun {g g' h} hr hs x => quiet (P := Tryz.prog) (M := (· = JW (FI W RR Wg Ch H0 st val) j bC (.int .i64 j))) rfl hr hs x
  have e0 : body52 = .seq (match body52 with | .seq a _ => a | _ => .skip) tail52 := rfl
  have e1 : (match body52 with | .seq a _ => a | _ => .skip) = Code.region 0 #[⟨none, .defer { callee := .value (.func 223), args := #[.tmp 0], argTypes := #[289] }, 0, "l12_pic.go:29", #[], none⟩] false := rfl
  rw [e0, e1]
  refine Qu rfl (fun _ _ => stepG_seq) ?_
  refine Qu rfl (fun _ _ => stepG_region) ?_
  refine Qu rfl (fun _ _ => stepG_defer (o := ⟨none, .defer { callee := .value (.func 223), args := #[.tmp 0], argTypes := #[289] }, 0, "l12_pic.go:29", #[], none⟩) rfl rfl (by simp [baseD]) rfl) ?_
  refine Qu rfl (fun _ _ => stepG_region_end) ?_
  have hd : (#[Operand.tmp 0] : Array Operand).map (Act.mk tm []).eval = #[.pointer (some ⟨Wg, 0, none⟩)] := by simp [Agree.ev (a := ⟨tm, []⟩) ha (o := .tmp 0) rfl]
  simp only [hd, Act.put]
  refine sl_app (tail52_jw B bS bC bO bCh fn Fun52 first cap j hj s4 mono hgh hsub hS hC hO hCh of) rfl (baseD 222) [] [bot Tryz.prog] [dcall 223 #[.pointer (some ⟨Wg, 0, none⟩)]] tm (by simp [baseD]) ha (ends_nrm fun L1 h1 tm1 q1 ha1 => ?_)
  refine Qu rfl (fun _ _ => stepG_end) ?_
  exact jw_out (F := FI W RR Wg Ch H0 st val) (Wl := wgLink) wgLib rfl Tryz.func222 rfl q1
end
end Go.Proofs.YtekjikbaefgncaaGreatDoor

/- Walks: the starter's phase in sidesComputed[int]: its wait. -/
namespace Go.Proofs.YtekjikbaefgncaaGreatDoor
open Go Go.Sl Go.Conc Go.Conc.Lib
set_option maxRecDepth 100000
noncomputable def fork43 : Code := match Tryz.f190.body with | some (.seq _ (.seq _ (.seq _ (.seq _ (.seq c _))))) => c | _ => .skip
noncomputable def join43 : Code := match Tryz.f190.body with | some (.seq _ (.seq _ (.seq _ (.seq _ (.seq _ (.seq c _)))))) => c | _ => .skip
instance {W : World} {RR : Value → Prop} {Wg Ch : Nat} {H0 : PHeap} {st : Nat → Nat} {val : Nat → Int} : IsCl Tryz.prog (· = JM (FI W RR Wg Ch H0 st val)) := inferInstanceAs (IsCl (FI W RR Wg Ch H0 st val).P _)
abbrev ml (bO bS bCh Wg j : Nat) : Locals := [(3, .pointer (some ⟨bO, 0, none⟩)), (5, .pointer (some ⟨bS, 0, none⟩)), (6, .pointer (some ⟨bCh, 0, none⟩)), (7, .pointer (some ⟨Wg, 0, none⟩)), (17, .int .i64 (j : Int))]

section
variable {W : World} {RR : Value → Prop} {Wg Ch : Nat} {H0 : PHeap} {st : Nat → Nat} {val : Nat → Int}
attribute [local irreducible] Go.Code.sl slOps slList opv

theorem join43_jm (bO bS bCh : Nat) (h : PHeap) (hgh : h.gh = [0, 4]) (K : Locals → PHeap → Prop) (L : Locals) (hL : Locals.sub (ml bO bS bCh Wg 4) L) (hK : ∀ v, K (setL (some 23) v L) (stay h [10])) :
    join43.sl Tryz.prog (· = JM (FI W RR Wg Ch H0 st val)) 43 (fun e L' h' => match e with | .nrm => K L' h' | _ => False) L h := by
  simp only [join43, Tryz.f190]
  refine sl_reg ?_
  refine l_call (F := FI W RR Wg Ch H0 st val) wgLib.f_wait rfl rfl (vs := [.pointer (some ⟨Wg, 0, none⟩)]) (by show evAll L [.tmp 7] = _; simp only [evAll, ev, hL.2.2.2.1]) (wait_jm (F := FI W RR Wg Ch H0 st val) wgLib hgh) ?_
  rintro v _ rfl
  exact l_nil (hK v)
end
end Go.Proofs.YtekjikbaefgncaaGreatDoor

/- Walks: the starter's phase in sidesComputed[int]: its loop. -/
namespace Go.Proofs.YtekjikbaefgncaaGreatDoor
open Go Go.Sl Go.Conc Go.Conc.Lib
set_option maxRecDepth 100000
section
variable {W : World} {RR : Value → Prop} {Wg Ch : Nat} {H0 : PHeap} {st : Nat → Nat} {val : Nat → Int}
attribute [local irreducible] Go.Code.sl slOps slList opv

theorem fork43_jm (bS bO bCh : Nat) (fn : FuncId) (Fun52 : Fun Tryz.prog fn) (first cap : Array Value) (s4 : ∀ i, i < 5 → st i ≤ 1048576) (mono : ∀ j, j < 4 → st j ≤ st (j + 1))
    (hS : H0.obj bS = some (.cells #[.int .i64 (st 0), .int .i64 (st 1), .int .i64 (st 2), .int .i64 (st 3), .int .i64 (st 4)] 277 (0, 0))) (hO : H0.obj bO = some (.cells #[.func (.func fn) first cap] 243 (0, 0))) (hCh : H0.obj bCh = some (.cells #[.chan (some Ch)] 279 (0, 0)))
    (of : ∀ (M : Jdg → Prop) [IsCl Tryz.prog M] (B' : PHeap), (∀ b o, H0.obj b = some o → B'.obj b = some o) → ∀ k, k < st 4 → CallsR Tryz.prog M fn (first.toList ++ [.int .i64 (k : Int)] ++ cap.toList) B' fun v _ => v = .int .i64 (val k)) (m4 : ∀ j, j < 4 → st (j + 1) ≤ st 4) (h : PHeap) (hgh : h.gh = [0, 0]) (ro0 : ∀ b o, H0.obj b = some o → h.obj b = some o ∧ h.wr b = false) (L : Locals)
    (hL : Locals.sub [(3, .pointer (some ⟨bO, 0, none⟩)), (5, .pointer (some ⟨bS, 0, none⟩)), (6, .pointer (some ⟨bCh, 0, none⟩)), (7, .pointer (some ⟨Wg, 0, none⟩))] L) :
    fork43.sl Tryz.prog (· = JM (FI W RR Wg Ch H0 st val)) 43 (fun e L' h' => match e with | .nrm => h'.gh = [0, 4] ∧ (∀ b o, H0.obj b = some o → h'.obj b = some o ∧ h'.wr b = false) ∧ Locals.sub (ml bO bS bCh Wg 4) L' | _ => False) L h := by
  simp only [fork43, Tryz.f190]
  refine sl_seq ?_
  refine sl_reg ?_
  refine l_q (fun _ _ => o_move (by rfl)) ?_
  refine l_nil ?_
  refine sl_block ?_
  refine sl_loop (ι := Nat) (Lo := fun j => ml bO bS bCh Wg j) (A := fun j h' => j ≤ 4 ∧ h'.gh = [0, j] ∧ ∀ b o, H0.obj b = some o → h'.obj b = some o ∧ h'.wr b = false) (μ := fun j => 4 - j) 0 ⟨hL.1, hL.2.1, hL.2.2.1, hL.2.2.2.1, rfl, trivial⟩ ⟨by decide, hgh, ro0⟩ ?_
  rintro j h1 ⟨hj, hg1, ro1⟩
  refine sl_seq ?_
  refine sl_reg ?_
  refine l_q (x_num (by rfl) (by rfl) (by rfl)) ?_
  refine l_nil ?_
  refine sl_seq ?_
  refine sl_cond (by rfl) (fun c1 => ?_) (fun c1 => ?_)
  · have hlt : j < 4 := by
      have := of_decide_eq_true c1
      omega
    refine sl_skip ?_
    refine sl_seq ?_
    refine sl_block ?_
    refine sl_seq ?_
    refine sl_reg ?_
    refine l_q (fun _ _ => o_move (by rfl)) ?_
    refine l_plain rfl (by rfl) (o_alloc fun C hCn => ?_)
    refine l_plain rfl (by rfl) (o_store (v := .int .i64 (j : Int)) (b := C) (off := 0) (by rfl) (by rfl) (obj_put _ _ _) (wr_put _ _ _) (by rfl) (by show 1 ≤ 1; decide) (by rfl) ?_)
    refine l_nil ?_
    refine sl_seq ?_
    refine sl_reg ?_
    refine l_call (F := FI W RR Wg Ch H0 st val) wgLib.f_add rfl rfl (vs := [.pointer (some ⟨Wg, 0, none⟩), .int .i64 1]) (by rfl) (add_jm (F := FI W RR Wg Ch H0 st val) wgLib (j := j) hj hg1) ?_
    rintro v _ rfl
    refine l_nil ?_
    refine sl_reg ?_

    refine l_q (fun _ _ => o_makeFunc (vs := []) (us := [.pointer (some ⟨Wg, 0, none⟩), .pointer (some ⟨bS, 0, none⟩), .pointer (some ⟨C, 0, none⟩), .pointer (some ⟨bO, 0, none⟩), .pointer (some ⟨bCh, 0, none⟩)]) (by rfl) (by rfl)) ?_
    have hC0 : H0.obj C = none := by
      cases z : H0.obj C with
      | none => rfl
      | some o => rw [(ro1 C o z).1] at hCn; cases hCn
    have hne : ∀ b o, H0.obj b = some o → b ≠ C := fun b o z e => by rw [e, hC0] at z; cases z
    have hob : ∀ b o, H0.obj b = some o → (stay ((h1.put C (.cells (Value.int .i64 0).cells 3)).put C (.cells (setCells (Value.int .i64 0).cells 0 (Value.int .i64 (j : Int)).cells.toList) 3)) [3, j]).obj b = some o := fun b o z => by
      simp only [stay, PHeap.put, hne b o z, if_false]; exact (ro1 b o z).1
    refine l_go (F := FI W RR Wg Ch H0 st val) (vs := [.pointer (some ⟨Wg, 0, none⟩), .pointer (some ⟨bS, 0, none⟩), .pointer (some ⟨C, 0, none⟩), .pointer (some ⟨bO, 0, none⟩), .pointer (some ⟨bCh, 0, none⟩)]) (C := C) (v := .int .i64 (j : Int)) (j := j) (f := 222) (nf := 28) rfl hlt (by rfl) Tryz.func222 rfl rfl rfl (show 5 ≤ 28 by decide) ?_ ?_ hC0 (fun tm ha => ?_) ?_
    · simp [stay, PHeap.put]; exact ⟨rfl, rfl⟩
    · simp [stay, PHeap.put]
    · refine worker_jw (H0 := H0) (ro _ [0]) bS C bO bCh fn Fun52 first cap j hlt s4 (mono j hlt) rfl (fun b o z => hob b o z) ⟨hob _ _ hS⟩ ⟨?_⟩ ⟨hob _ _ hO⟩ ⟨hob _ _ hCh⟩ (fun M _ B' le k k1 k2 => of M B' (fun b o z => (le.le b o (hob b o z)).1) k (Nat.lt_of_lt_of_le k2 (m4 j hlt))) tm ha
      simp [ro, stay, PHeap.put]; rfl
    · refine l_nil ?_
      refine sl_reg ?_
      refine l_q (x_num (by rfl) (by rfl) (by rfl)) ?_
      refine l_q (fun _ _ => o_move (by rfl)) ?_
      refine l_nil ?_
      have hw : IntKind.i64.wrap ((j : Int) + 1) = ((j + 1 : Nat) : Int) := by rw [IntKind.wrap_i64]; omega
      refine ⟨j + 1, by show 4 - (j + 1) < 4 - j; omega, ⟨rfl, rfl, rfl, rfl, ?_, trivial⟩, by omega, rfl, fun b o z => ⟨?_, rfl⟩⟩
      · rw [← hw]; rfl
      · simp only [delb, hne b o z, if_false]; exact hob b o z
  · have : j = 4 := by
      have := of_decide_eq_false c1
      omega
    subst this
    refine sl_exit ?_
    exact ⟨hg1, ro1, ⟨rfl, rfl, rfl, rfl, rfl, trivial⟩⟩
end
end Go.Proofs.YtekjikbaefgncaaGreatDoor

/- Walks: sidesComputed[int], whole. -/
namespace Go.Proofs.YtekjikbaefgncaaGreatDoor
open Go Go.Sl
set_option maxRecDepth 100000
set_option maxHeartbeats 4000000
attribute [local irreducible] Go.Code.sf sfOps Opq opo retF Do1 anyO
variable {M : Jdg → Prop} [IsCl Tryz.prog M]
theorem gridRows_v (h : PHeap) (ca : List Value) (g : Grid) (b : (gridR τ).B h ca g) (hw : 0 < g.wide) : CallV Tryz.prog M 232 [.agg ca.toArray] h (.int .i64 ((g.cells.length : Int) / g.wide)) := by
  obtain ⟨c, rfl, s⟩ := gridB b
  have o1 := s.one
  have hs := s.small
  refine calls_of_sf Tryz.func232 rfl Tryz.ntmps232 ?_
  simp only [argsL, Nat.reduceAdd]
  repeat (first | refine R1 ?_ | (refine R2 ?_; intro _))
  exact sf_ret (rV rfl)
theorem sideStarts_v (h : PHeap) (ca : List Value) (g : Grid) (b : (gridR τ).B h ca g) (w r : Nat) (hw : g.wide = w) (h1 : 1 ≤ w) (h5 : w ≤ 5) (hr : (g.cells.length : Int) / g.wide = r) (hr5 : r ≤ 5) : CallV Tryz.prog M 220 [.agg ca.toArray] h (.agg #[.int .i64 (stOf w r 0 : Nat), .int .i64 (stOf w r 1 : Nat), .int .i64 (stOf w r 2 : Nat), .int .i64 (stOf w r 3 : Nat), .int .i64 (stOf w r 4 : Nat)]) := by
  obtain ⟨c, rfl, s⟩ := gridB b
  have o1 := s.one
  refine calls_of_sf Tryz.func220 rfl Tryz.ntmps220 ?_
  simp only [argsL, Nat.reduceAdd]
  repeat (first | refine R1 ?_ | (refine R2 ?_; intro _))
  refine fp (y_callV (gridRows_v _ _ g b (by omega)) (by rfl) ?_)
  rw [hr]
  obtain ⟨gw, gc⟩ := g
  simp only at hw hr
  subst hw
  repeat (first | refine R1 ?_ | (refine R2 ?_; intro _))
  refine sf_ret (rV ?_)
  simp only [stOf, IntKind.wrap_i64, Value.agg.injEq]
  simp
  omega
noncomputable def tail43 : Code := match Tryz.f190.body with | some (.seq _ (.seq _ (.seq _ (.seq _ c)))) => c | _ => .skip
noncomputable def rest43 : Code := match Tryz.f190.body with | some (.seq _ (.seq _ (.seq _ (.seq _ (.seq _ (.seq _ c)))))) => c | _ => .skip
theorem hide4 {P : Program} {M : Jdg → Prop} {n : Nat} {Q : Qf} {L : Locals} {O : Own} {h : PHeap} {c0 c1 c2 c3 t t' : Code} (e : t' = t) (x : (Code.seq c0 (.seq c1 (.seq c2 (.seq c3 t')))).sf P M n Q L O h) : (Code.seq c0 (.seq c1 (.seq c2 (.seq c3 t)))).sf P M n Q L O h := e ▸ x
/-- The list of a side. -/
def SideI (h : PHeap) (w r : Nat) (val : Nat → Int) (i : Nat) (v : Value) : Prop := Sl h v intF ((List.range' (stOf w r i) (stOf w r (i + 1) - stOf w r i)).map val)
theorem sidesInt_f [al : Alone Tryz.prog M] (h : PHeap) (ca : List Value) (g : Grid) (b : (gridR τ).B h ca g) (w r : Nat) (hw : g.wide = w) (h1 : 1 ≤ w) (h5 : w ≤ 5) (hr : (g.cells.length : Int) / g.wide = r) (hr5 : r ≤ 5) (fn : FuncId) [Fu : Fun Tryz.prog fn] (first cap : Array Value) (val : Nat → Int)
    (of : ∀ (M : Jdg → Prop) [IsCl Tryz.prog M] (h' : PHeap), (∀ b o, h.obj b = some o → h'.obj b = some o) → ∀ k, k < stOf w r 4 → CallV Tryz.prog M fn (first.toList ++ [.int .i64 (k : Int)] ++ cap.toList) h' (.int .i64 (val k))) :
    CallF Tryz.prog M 190 [.agg ca.toArray, .func (.func fn) first cap] [] h fun v A => Gr A v 3 intF ((List.range (stOf w r 4)).map val) := by
  obtain ⟨W, RR, rfl⟩ := al.is
  have b0 := b
  obtain ⟨c, rfl, s⟩ := gridB b
  have o1 := s.one
  refine calls_of_sf Tryz.func190 rfl Tryz.ntmps190 ?_
  simp only [argsL, Nat.reduceAdd]
  obtain ⟨t', et⟩ : ∃ t', t' = tail43 := ⟨_, rfl⟩
  refine hide4 (et.trans rfl) ?_
  repeat (first | refine R1 ?_ | (refine R2 ?_; intro _))
  refine fp (y_callV (sideStarts_v _ _ g b0 w r hw h1 h5 hr hr5) (by rfl) ?_)
  repeat (first | refine R1 ?_ | (refine R2 ?_; intro _))
  refine f_makeChan (by rfl) (by rfl) fun Ch => ?_
  repeat (first | refine R1 ?_ | (refine R2 ?_; intro _))
  rename_i b2 b3 b5 b6 b7
  subst et
  show (Code.seq fork43 (Code.seq join43 rest43)).sf _ _ _ _ _ _ _
  refine sf_fork (Wg := b7) (Ch := Ch) (ty := 289) (it := 3) (RowI (stOf w r) val) RowI.mono (fun L' => Locals.sub (ml b3 b5 b6 b7 4) L') (R := [(b6, .cells #[.chan (some Ch)] 279), (b5, .cells #[.int .i64 (stOf w r 0 : Nat), .int .i64 (stOf w r 1 : Nat), .int .i64 (stOf w r 2 : Nat), .int .i64 (stOf w r 3 : Nat), .int .i64 (stOf w r 4 : Nat)] 277), (b3, .cells #[.func (.func fn) first cap] 243), (b2, .cells #[.int .i64 g.wide, c] 34)]) ?_ (fun H0 hle hR hWg hCh => ?_) fun L' h2 rows hle hL hp hrow => ?_
  · exact (List.Perm.refl _).cons _ |>.trans ((List.Perm.swap _ _ _).cons _)
  · refine sl_mono (fork43_jm (Wg := b7) (Ch := Ch) (H0 := H0) (W := W) (RR := RR) (st := stOf w r) (val := val) b5 b3 b6 fn Fu first cap (fun i _ => Nat.le_trans (stOf_le h5 hr5 i) (by decide)) (stOf_mono) (hR _ _ (by simp)) (hR _ _ (by simp)) (hR _ _ (by simp)) (fun M _ B' hB k hk => callsR_of (of M B' (fun b o z => hB b o (hle b o z).1) k hk)) ?_ (ro H0 [0, 0]) rfl (fun b o z => ⟨z, rfl⟩) _ ⟨rfl, rfl, rfl, rfl, trivial⟩) ?_
    · intro j hj
      obtain rfl | rfl | rfl | rfl : j = 0 ∨ j = 1 ∨ j = 2 ∨ j = 3 := by omega
      all_goals simp only [stOf]; omega
    · rintro e L1 h1' q
      cases e with
      | nrm =>
        obtain ⟨q1, q2, q3⟩ := q
        exact join43_jm b3 b5 b6 h1' q1 (fun L' h' => h'.gh = [10] ∧ (∀ b o, H0.obj b = some o → h'.obj b = some o ∧ h'.wr b = false) ∧ Locals.sub (ml b3 b5 b6 b7 4) L') L1 q3 fun v => ⟨rfl, fun b o z => q2 b o z, ⟨q3.1, q3.2.1, q3.2.2.1, q3.2.2.2.1, q3.2.2.2.2.1, trivial⟩⟩
      | _ => exact q.elim
  · simp only [rest43]
    refine sf_sub (ml b3 b5 b6 b7 4) hL ?_
    repeat (first | refine R1 ?_ | (refine R2 ?_; intro _))
    refine f_close (by rfl) ?_
    repeat (first | refine R1 ?_ | (refine R2 ?_; intro _))
    rename_i b9
    refine sf_lp (ι := List (Nat × Value) × Value × Value × Value × Value) [9, 25] (fun _ => []) (fun x O => ∃ rc, O = [(b9, .cells #[x.2.1, x.2.2.1, x.2.2.2.1, x.2.2.2.2] 292), (Ch, .chan 4 (x.1.map Prod.snd).toArray true 4 rc false)] ∧ (∀ p ∈ x.1, p.1 < 4 ∧ RowI (stOf w r) val p.1 p.2 h2) ∧ (Sl.One x.2.1 ∧ Sl.One x.2.2.1 ∧ Sl.One x.2.2.2.1 ∧ Sl.One x.2.2.2.2) ∧ (0 ∈ x.1.map Prod.fst ∨ SideI h2 w r val 0 x.2.1) ∧ (1 ∈ x.1.map Prod.fst ∨ SideI h2 w r val 1 x.2.2.1) ∧ (2 ∈ x.1.map Prod.fst ∨ SideI h2 w r val 2 x.2.2.2.1) ∧ (3 ∈ x.1.map Prod.fst ∨ SideI h2 w r val 3 x.2.2.2.2)) (fun x => x.1.length) (rows, .slice none 0 0, .slice none 0 0, .slice none 0 0, .slice none 0 0) [(b9, .cells #[.slice none 0 0, .slice none 0 0, .slice none 0 0, .slice none 0 0] 292), (Ch, .chan 4 (rows.map Prod.snd).toArray true 4 0 false)] ⟨0, rfl, fun p hp' => ⟨?_, hrow p hp'⟩, ⟨inferInstance, inferInstance, inferInstance, inferInstance⟩, .inl ?_, .inl ?_, .inl ?_, .inl ?_⟩ ?_
    · have := hp.mem_iff.1 (List.mem_map.2 ⟨p, hp', rfl⟩)
      simp at this; omega
    · exact hp.mem_iff.2 (by simp)
    · exact hp.mem_iff.2 (by simp)
    · exact hp.mem_iff.2 (by simp)
    · exact hp.mem_iff.2 (by simp)
    clear hrow hp hL hle b b0 of
    rintro ⟨rs, v0, v1, v2, v3⟩ O ⟨rc, rfl, hrow, ⟨p0, p1, p2, p3⟩, s0, s1, s2, s3⟩
    simp only at hrow p0 p1 p2 p3 s0 s1 s2 s3 ⊢
    match rs, hrow, s0, s1, s2, s3 with
    | [], hrow, s0, s1, s2, s3 =>
      simp only [List.map_nil, List.not_mem_nil, false_or] at s0 s1 s2 s3 ⊢
      repeat (first | refine R1 ?_ | (refine R2 ?_; intro _))
      refine f_shut (by rfl) ?_
      repeat (first | refine R1 ?_ | (refine R2 ?_; intro _))
      refine sf_cond (by rfl) (fun e => by cases e) fun _ => ?_
      refine sf_exit ?_
      repeat (first | refine R1 ?_ | (refine R2 ?_; intro _))
      have t0 := stOf_le (w := w) (r := r) h5 hr5 0
      have t1 := stOf_le (w := w) (r := r) h5 hr5 1
      have t2 := stOf_le (w := w) (r := r) h5 hr5 2
      have t3 := stOf_le (w := w) (r := r) h5 hr5 3
      have t4 := stOf_le (w := w) (r := r) h5 hr5 4
      refine sf_lp (ι := Nat × Value) [34] (fun x => [(35, .int .i64 (x.1 : Int)), (11, x.2)]) (fun x O => x.1 ≤ 4 ∧ Gr O x.2 3 intF ((List.range (stOf w r x.1)).map val)) (fun x => 4 - x.1) (0, .slice none 0 0) [] ⟨by decide, by simpa [stOf] using Gr.nil _ _⟩ ?_
      rintro ⟨k, v⟩ O ⟨hk, g3⟩
      simp only at hk g3 ⊢
      have o5 := g3.one
      repeat (first | refine R1 ?_ | (refine R2 ?_; intro _))
      refine sf_if (fun h4 => ?_) fun h4 => ?_
      · have hk4 : k = 0 ∨ k = 1 ∨ k = 2 ∨ k = 3 := by omega
        have hrng : ∀ j, j < 4 → (List.range (stOf w r j)).map val ++ (List.range' (stOf w r j) (stOf w r (j + 1) - stOf w r j)).map val = (List.range (stOf w r (j + 1))).map val := fun j hj => by
          rw [← List.map_append]
          congr 1
          rw [List.range_eq_range', List.range_eq_range', show stOf w r (j + 1) = stOf w r j + (stOf w r (j + 1) - stOf w r j) by have := stOf_mono (w := w) (r := r) j hj; omega, ← List.range'_append_1]
          simp
        rcases hk4 with rfl | rfl | rfl | rfl
        · repeat (first | refine R1 ?_ | (refine R2 ?_; intro _))
          refine fp (Rq ?_ (q_index (by infer_instance) (by infer_instance) (by rfl) (by rfl) (by decide) (by decide) (by rfl)))
          repeat (first | refine R1 ?_ | (refine R2 ?_; intro _))
          refine fp (y_appendS (by rfl) (by rfl) g3 s0 (fun y _ => FlatOne.one y) (by rfl) (by rfl) (by simp; omega) (by simp; omega) fun v' A' g4 => ?_)
          repeat (first | refine R1 ?_ | (refine R2 ?_; intro _))
          exact ⟨(1, v'), by simp only; omega, ⟨rfl, rfl, trivial⟩, rfl, A', _, inferInstance, by simp only; omega, by rw [← hrng 0 (by decide)]; exact g4⟩
        · repeat (first | refine R1 ?_ | (refine R2 ?_; intro _))
          refine fp (Rq ?_ (q_index (by infer_instance) (by infer_instance) (by rfl) (by rfl) (by decide) (by decide) (by rfl)))
          repeat (first | refine R1 ?_ | (refine R2 ?_; intro _))
          refine fp (y_appendS (by rfl) (by rfl) g3 s1 (fun y _ => FlatOne.one y) (by rfl) (by rfl) (by simp; omega) (by simp; omega) fun v' A' g4 => ?_)
          repeat (first | refine R1 ?_ | (refine R2 ?_; intro _))
          exact ⟨(2, v'), by simp only; omega, ⟨rfl, rfl, trivial⟩, rfl, A', _, inferInstance, by simp only; omega, by rw [← hrng 1 (by decide)]; exact g4⟩
        · repeat (first | refine R1 ?_ | (refine R2 ?_; intro _))
          refine fp (Rq ?_ (q_index (by infer_instance) (by infer_instance) (by rfl) (by rfl) (by decide) (by decide) (by rfl)))
          repeat (first | refine R1 ?_ | (refine R2 ?_; intro _))
          refine fp (y_appendS (by rfl) (by rfl) g3 s2 (fun y _ => FlatOne.one y) (by rfl) (by rfl) (by simp; omega) (by simp; omega) fun v' A' g4 => ?_)
          repeat (first | refine R1 ?_ | (refine R2 ?_; intro _))
          exact ⟨(3, v'), by simp only; omega, ⟨rfl, rfl, trivial⟩, rfl, A', _, inferInstance, by simp only; omega, by rw [← hrng 2 (by decide)]; exact g4⟩
        · repeat (first | refine R1 ?_ | (refine R2 ?_; intro _))
          refine fp (Rq ?_ (q_index (by infer_instance) (by infer_instance) (by rfl) (by rfl) (by decide) (by decide) (by rfl)))
          repeat (first | refine R1 ?_ | (refine R2 ?_; intro _))
          refine fp (y_appendS (by rfl) (by rfl) g3 s3 (fun y _ => FlatOne.one y) (by rfl) (by rfl) (by simp; omega) (by simp; omega) fun v' A' g4 => ?_)
          repeat (first | refine R1 ?_ | (refine R2 ?_; intro _))
          exact ⟨(4, v'), by simp only; omega, ⟨rfl, rfl, trivial⟩, rfl, A', _, inferInstance, by simp only; omega, by rw [← hrng 3 (by decide)]; exact g4⟩
      · refine sf_exit ?_
        repeat (first | refine R1 ?_ | (refine R2 ?_; intro _))
        have : k = 4 := by omega
        subst this
        exact sf_ret (rO O g3)
    | (i, u) :: rs, hrow, s0, s1, s2, s3 =>
      have hh := hrow (i, u) (List.mem_cons_self ..)
      simp only [RowI] at hh
      obtain ⟨hi, sl, rfl, sl0⟩ := hh
      have ol := sl0.one
      have hrow' : ∀ p ∈ rs, p.1 < 4 ∧ RowI (stOf w r) val p.1 p.2 h2 := fun p hp => hrow p (List.mem_cons_of_mem _ hp)
      simp only [List.map_cons] at s0 s1 s2 s3 ⊢
      repeat (first | refine R1 ?_ | (refine R2 ?_; intro _))
      have hi' : i = 0 ∨ i = 1 ∨ i = 2 ∨ i = 3 := by omega
      refine f_recv (by rfl) ?_
      repeat (first | refine R1 ?_ | (refine R2 ?_; intro _))
      refine sf_T rfl ?_
      rcases hi' with rfl | rfl | rfl | rfl
      · repeat (first | refine R1 ?_ | (refine R2 ?_; intro _))
        exact ⟨(rs, sl, v1, v2, v3), by simp only [List.length_cons]; omega, trivial, rfl, _, _, inferInstance, rc + 1, rfl, hrow', ⟨ol, p1, p2, p3⟩, .inr sl0, by simpa using s1, by simpa using s2, by simpa using s3⟩
      · repeat (first | refine R1 ?_ | (refine R2 ?_; intro _))
        exact ⟨(rs, v0, sl, v2, v3), by simp only [List.length_cons]; omega, trivial, rfl, _, _, inferInstance, rc + 1, rfl, hrow', ⟨p0, ol, p2, p3⟩, by simpa using s0, .inr sl0, by simpa using s2, by simpa using s3⟩
      · repeat (first | refine R1 ?_ | (refine R2 ?_; intro _))
        exact ⟨(rs, v0, v1, sl, v3), by simp only [List.length_cons]; omega, trivial, rfl, _, _, inferInstance, rc + 1, rfl, hrow', ⟨p0, p1, ol, p3⟩, by simpa using s0, by simpa using s1, .inr sl0, by simpa using s3⟩
      · repeat (first | refine R1 ?_ | (refine R2 ?_; intro _))
        exact ⟨(rs, v0, v1, v2, sl), by simp only [List.length_cons]; omega, trivial, rfl, _, _, inferInstance, rc + 1, rfl, hrow', ⟨p0, p1, p2, ol⟩, by simpa using s0, by simpa using s1, by simpa using s2, .inr sl0⟩
end Go.Proofs.YtekjikbaefgncaaGreatDoor

/- Walks: pictures, parts, keepers looked at: the program's own. -/
namespace Go.Proofs.YtekjikbaefgncaaGreatDoor
open Go Go.Sl
set_option maxRecDepth 100000
set_option maxHeartbeats 4000000
attribute [local irreducible] Go.Code.sf sfOps Opq opo retF Do1 anyO
variable {M : Jdg → Prop} [IsCl Tryz.prog M]

theorem picOf1_v (h : PHeap) (c : Value) (g : Grid) (s : Sl h c cellF g.cells) (e : gridOk g = true) (b : Nat) [BAt h b (.cells #[.int .i64 g.wide, c] 34)] (k : Int) (hk : 0 ≤ k ∧ k < manyOf g) : CallV Tryz.prog M 191 [.int .i64 k, .pointer (some ⟨b, 0, none⟩)] h (.int .i64 (trailLight g k)) := by
  have o1 := s.one
  refine calls_of_sf Tryz.func191 rfl Tryz.ntmps191 ?_
  simp only [argsL, Nat.reduceAdd]
  repeat (first | refine R1 ?_ | (refine R2 ?_; intro _))
  refine fp (y_callV (trailLight_v h c g s e k hk) (by rfl) ?_)
  repeat (first | refine R1 ?_ | (refine R2 ?_; intro _))
  exact sf_ret (rV rfl)
theorem picOf_f [al : Alone Tryz.prog M] (h : PHeap) (ca : List Value) (g : Grid) (b : (gridR τ).B h ca g) (e : gridOk g = true) : CallF Tryz.prog M 142 [.agg ca.toArray] [] h fun u A => Gr A u 3 intF (picOf g) := by
  obtain ⟨c, rfl, s⟩ := gridB b
  have o1 := s.one
  have kg := gok e
  have w1 := kg.w1; have w5 := kg.w5; have r1 := kg.r1; have r5 := kg.r5
  obtain ⟨ww, ew⟩ : ∃ ww : Nat, g.wide = ww := ⟨g.wide.toNat, by omega⟩
  obtain ⟨rr, er⟩ : ∃ rr : Nat, rowsOf g = rr := ⟨(rowsOf g).toNat, by omega⟩
  have hN : (manyOf g).toNat = stOf ww rr 4 := by
    simp only [stOf]; rw [manyOf, er, ew]; omega
  refine calls_of_sf Tryz.func142 rfl Tryz.ntmps142 ?_
  simp only [argsL, Nat.reduceAdd]
  repeat (first | refine R1 ?_ | (refine R2 ?_; intro _))
  refine fp (y_callV (gridOk_v _ _ g b) (by rfl) ?_)
  rw [e]
  repeat (first | refine R1 ?_ | (refine R2 ?_; intro _))
  refine sf_cond (by rfl) (fun e => by cases e) fun z1 => ?_
  clear z1
  repeat (first | refine R1 ?_ | (refine R2 ?_; intro _))
  rename_i b1
  refine fp (y_lend [(b1, .cells #[.int .i64 g.wide, c] 34)] (fun h' l i => sidesInt_f h' _ g (gridB_mk (s.le l.le)) ww rr ew (by omega) (by omega) er (by omega) 191 #[] #[.pointer (some ⟨b1, 0, none⟩)] (fun k => trailLight g (k : Nat)) (fun M _ h'' sub k hk => ?_)) (by rfl) ?_)
  · haveI : BAt h'' b1 (.cells #[.int .i64 g.wide, c] 34) := ⟨sub _ _ (i.at' _ _ (by simp))⟩
    exact picOf1_v h'' c g ((s.le l.le).sub sub) e b1 k (by omega)
  intro v A gr
  rw [← hN] at gr
  repeat (first | refine R1 ?_ | (refine R2 ?_; intro _))
  exact sf_ret (rO A gr)
theorem partOf_f (h : PHeap) (ca : List Value) (g : Grid) (b : (gridR τ).B h ca g) (e : gridOk g = true) (pv : Value) (pic : List Int) (sp : Sl h pv intF pic) (hp : pic.length = (manyOf g).toNat) (id many : Nat) (h1 : 1 ≤ id) (h2 : id ≤ many) (h3 : many ≤ 3) :
    CallF Tryz.prog M 181 [.agg ca.toArray, pv, .int .i64 (id : Int), .int .i64 (many : Int)] [] h fun u A => Gr A u 3 intF (ownLights pic (manyOf g).toNat many id) := by
  obtain ⟨c, rfl, s⟩ := gridB b
  have o1 := s.one
  have o2 := sp.one
  have hm := (gok e).many
  obtain ⟨S, hS⟩ : ∃ S : Nat, manyOf g = S := ⟨(manyOf g).toNat, by omega⟩
  have hc : ∀ j, j < ownCnt S many id ↔ id - 1 + j * many < S := fun j => ownCnt_lt h1 h2 h3
  have hsm := sp.small
  refine calls_of_sf Tryz.func181 rfl Tryz.ntmps181 ?_
  simp only [argsL, Nat.reduceAdd]
  repeat (first | refine R1 ?_ | (refine R2 ?_; intro _))
  refine fp (y_call (paintOwn_f _ _ g b e id many h1 h2 h3) (by rfl) ?_)
  intro v A1 g1
  rw [hS] at hm hp g1 ⊢
  simp only [Int.toNat_natCast] at hp g1 ⊢
  have o3 := g1.one
  have hl := ownList_len S many id
  have hln : ownCnt S many id ≤ 20 := by
    rcases Nat.lt_or_ge 20 (ownCnt S many id) with h | h
    · have := (hc 20).1 h
      have : 20 * 1 ≤ 20 * many := Nat.mul_le_mul_left _ (by omega)
      omega
    · exact h
  have hat : ∀ j, j < ownCnt S many id → gt (ownList S many id) j = ((id - 1 + j * many : Nat) : Int) := fun j hj => ownList_at hj
  have hol : ∀ n, (ownList S many id).take n = ownList S many id → True := fun _ _ => trivial
  generalize hxs : ownList S many id = xs at *
  repeat (first | refine R1 ?_ | (refine R2 ?_; intro _))
  rename_i b3
  refine sf_lp (ι := Nat × Value) [1, 15, 16] (fun x => [(17, .int .i64 (x.1 : Int)), (9, x.2)]) (fun x O => x.1 ≤ xs.length ∧ ∃ A', O = A' ++ (A1 ++ [(b3, .cells #[.int .i64 g.wide, c] 34)]) ∧ Gr A' x.2 3 intF ((xs.take x.1).map fun k => gt pic k.toNat)) (fun x => xs.length - x.1) (0, .slice none 0 0) ([] ++ (A1 ++ [(b3, .cells #[.int .i64 g.wide, c] 34)])) ⟨by omega, [], rfl, Gr.nil _ _⟩ ?_
  rintro ⟨j, u⟩ O ⟨hj, A', rfl, gr⟩
  simp only at hj gr ⊢
  have o4 := gr.one
  have hlt : ((xs.take j).map fun k => gt pic k.toNat).length = j := by rw [List.length_map, List.length_take]; omega
  repeat (first | refine R1 ?_ | (refine R2 ?_; intro _))
  refine sf_if (fun h4 => ?_) fun h4 => ?_
  · have hj4 : j < ownCnt S many id := by omega
    have ha := hat j hj4
    have hb := (hc j).1 hj4
    have hstep : ((xs.take (j + 1)).map fun k => gt pic k.toNat) = ((xs.take j).map fun k => gt pic k.toNat) ++ [gt pic (id - 1 + j * many)] := by
      rw [take_succ_gt (by omega), List.map_append, ha]; rfl
    repeat (first | refine R1 ?_ | (refine R2 ?_; intro _))
    simp only [ha]
    repeat (first | refine R1 ?_ | (refine R2 ?_; intro _))
    refine fp (y_bs (by rfl) (by rfl) (by rfl) (by rfl) (by decide) fun w Au gu => ?_)
    repeat (first | refine R1 ?_ | (refine R2 ?_; intro _))
    refine fp (y_append (by rfl) (by rfl) gr gu (fun y _ => FlatOne.one y) (by rfl) (by rfl) (by simp; omega) (by simp; omega) fun u2 A2 g2 => ?_)
    repeat (first | refine R1 ?_ | (refine R2 ?_; intro _))
    exact ⟨(j + 1, u2), by simp only; omega, ⟨rfl, rfl, trivial⟩, rfl, A2 ++ (A1 ++ [(b3, .cells #[.int .i64 g.wide, c] 34)]), _, inferInstance, by simp only; omega, A2, rfl, by rw [hstep]; exact g2⟩
  · refine sf_exit ?_
    repeat (first | refine R1 ?_ | (refine R2 ?_; intro _))
    refine sf_ret (rO A' ?_)
    rw [ownLights, hxs, ← take_ge (xs := xs) hj (by omega)]; exact gr
theorem partCheck_f [al : Alone Tryz.prog M] (h : PHeap) (ca : List Value) (k : Keeper) (b : (keeperR τ).B h ca k) (hk : HeadOk k) (z : Int) (i : Nat) (hz : z = i + 1) (hi : i < k.parts.length) : CallF Tryz.prog M 140 [.agg ca.toArray, .int .i64 z] [] h fun u A => ErrIs u (!partOk k (i + 1) (gt k.parts i)) ∧ A = [] := by
  have b0 := b
  obtain ⟨c, ed, p, s, rfl, s1, s2, s3, s4⟩ := keeperB b
  have o1 := s1.one
  have o2 := s2.one
  have o3 := s3.one
  have o4 := s4.one
  have n3 := hk.n3
  obtain ⟨rp, sp, bp⟩ := s3
  have lp := bp.len
  obtain ⟨l, ex, sl⟩ := partB (bp.at hi)
  have ol := sl.one
  have hsl := sl.small
  have hsm := sp.small
  have hi' : i < rp.length := by omega
  generalize hpt : gt k.parts i = pt at *
  have ez : (z - 1).toNat = i := by omega
  haveI : FlatV (rawF (partR τ).sz) (gt rp (z - 1).toNat) [.bool pt.has, .int .i64 pt.ver, l] := ⟨by rw [ez]; exact ex⟩
  refine calls_of_sf Tryz.func140 rfl Tryz.ntmps140 ?_
  simp only [argsL, Nat.reduceAdd]
  repeat (first | refine R1 ?_ | (refine R2 ?_; intro _))
  refine sf_cond (by rfl) (fun e => ?_) fun e => ?_
  · simp only [Bool.not_eq_true'] at e
    repeat (first | refine R1 ?_ | (refine R2 ?_; intro _))
    refine f_split (fun h1 => ?_) fun h1 => ?_
    · repeat (first | refine R1 ?_ | (refine R2 ?_; intro _))
      refine sf_T rfl ?_
      repeat (first | refine R1 ?_ | (refine R2 ?_; intro _))
      exact sf_ret (rO [] ⟨.inr ⟨_, rfl, by simp [partOk, e, h1]⟩, rfl⟩)
    · repeat (first | refine R1 ?_ | (refine R2 ?_; intro _))
      refine sf_if (fun h2 => ?_) fun h2 => ?_
      · repeat (first | refine R1 ?_ | (refine R2 ?_; intro _))
        exact sf_ret (rO [] ⟨.inr ⟨_, rfl, by simp [partOk, e]; exact .inr fun h => h2 (by simp [h])⟩, rfl⟩)
      · repeat (first | refine R1 ?_ | (refine R2 ?_; intro _))
        exact sf_ret (rO [] ⟨.inl ⟨rfl, by simp [partOk, e]; exact ⟨by omega, List.eq_nil_of_length_eq_zero (by omega)⟩⟩, rfl⟩)
  · simp only [Bool.not_eq_false'] at e
    repeat (first | refine R1 ?_ | (refine R2 ?_; intro _))
    refine fp (y_call (keepVersion_f _ _ k b0 pt.ver) (by rfl) ?_)
    rintro u _ ⟨eu, rfl⟩
    have ou := eu.one
    repeat (first | refine R1 ?_ | (refine R2 ?_; intro _))
    refine fp (Rq ?_ (neqErr eu (by rfl)))
    repeat (first | refine R1 ?_ | (refine R2 ?_; intro _))
    refine sf_cond (by rfl) (fun h1 => ?_) fun h1 => ?_
    · rw [h1] at eu
      simp only [Bool.not_eq_true'] at h1
      repeat (first | refine R1 ?_ | (refine R2 ?_; intro _))
      exact sf_ret (rO [] ⟨by simpa [partOk, e, h1] using eu, rfl⟩)
    · simp only [Bool.not_eq_false'] at h1
      clear eu ou
      repeat (first | refine R1 ?_ | (refine R2 ?_; intro _))
      refine fp (y_call (keepGridOf_f _ _ k b0 hk pt.ver h1) (by rfl) ?_)
      rintro _ A1 ⟨cs, rfl, q⟩
      obtain ⟨c2, rfl, g1, l1⟩ := gridO q
      have o5 := g1.one
      have gok' := gridAt_ok hk.grid hk.edits pt.ver
      have eL : partLights k (i + 1) pt.ver = ownLights (picOf (gridAt k pt.ver)) (manyOf (gridAt k pt.ver)).toNat k.parts.length (i + 1) := by rw [partLights, gridAt_many]
      rw [show z = ((i + 1 : Nat) : Int) by omega]
      repeat (first | refine R1 ?_ | (refine R2 ?_; intro _))
      refine sf_draw (by kernel_rfl) (regX_own (A1) (regX_runW _ [[], [0], [], [], [3], [], [], [6], [6, 7], [2, 3, 4, 5, 6, 7, 8], [0, 1, 2, 3, 4, 5, 6, 7, 8, 9], [0, 1, 2, 3, 4, 5, 6, 7, 8, 9, 10]] 10 [(0, false), (1, false), (2, false), (3, false), (5, false), (6, false), (7, false), (8, false), (4, true), (9, true)] (by kernel_rfl) (by kernel_rfl) (by kernel_rfl) ?_))
      repeat (refine Da1 ?_)
      refine a_call (lendF A1 fun h' _ inb => picOf_f h' _ _ ((gridR τ).lent q inb) gok') (by rfl) (by rfl) (.inl rfl) ?_
      rintro v2 _ ⟨A2, rfl, g2⟩
      have o6 := g2.one
      repeat (refine Da1 ?_)
      refine a_call (lendF (A1 ++ A2) fun h' _ inb => partOf_f h' _ _ ((gridR τ).lent q (inb_l inb)) gok' v2 _ (g2.lent (by rw [picOf_len]; have := (gok gok').many; omega) (inb_r inb)) (picOf_len _) (i + 1) rp.length (by omega) (by omega) (by omega)) (by rfl) (by rfl) (.inl rfl) ?_
      rintro v3 _ ⟨A3, rfl, g3⟩
      have o7 := g3.one
      rw [lp, ← eL] at g3
      repeat (refine Da1 ?_)
      (refine a_end (by rfl) (by rfl) ?_; simp only [finA, setL, List.drop_succ_cons, List.drop_zero])
      refine fp (y_lendV A3 (fun h' l' inb => intsEqual_v h' _ _ _ _ (sl.le l'.le) (g3.lent (by have := partLights_le hk (i + 1) pt.ver; omega) inb)) (by rfl) ?_)
      repeat (first | refine R1 ?_ | (refine R2 ?_; intro _))
      refine sf_cond (by rfl) (fun h2 => ?_) fun h2 => ?_
      · repeat (first | refine R1 ?_ | (refine R2 ?_; intro _))
        exact sf_ret (rO [] ⟨.inr ⟨_, rfl, by simp only [Bool.not_eq_true'] at h2; simp [partOk, e, h2]⟩, rfl⟩)
      · repeat (first | refine R1 ?_ | (refine R2 ?_; intro _))
        exact sf_ret (rO [] ⟨.inl ⟨rfl, by simp only [Bool.not_eq_false'] at h2; simp [partOk, e, h1, h2]⟩, rfl⟩)
theorem keepCheck_f [al : Alone Tryz.prog M] (h : PHeap) (ca : List Value) (k : Keeper) (b : (keeperR τ).B h ca k) : CallF Tryz.prog M 70 [.agg ca.toArray] [] h fun u A => ErrIs u (!keepOk k) ∧ A = [] := by
  have b0 := b
  obtain ⟨c, ed, p, s, rfl, s1, s2, s3, s4⟩ := keeperB b
  have o1 := s1.one
  have o2 := s2.one
  have o3 := s3.one
  have o4 := s4.one
  obtain ⟨rp, sp, bp⟩ := s3
  obtain ⟨rs, ss, bs⟩ := s4
  have lp := bp.len
  have ls := bs.len
  have hsp := sp.small
  have hss := ss.small
  have hs2 := s2.small
  have hN : keepHead k = false → keepOk k = false := fun e => by simp [keepOk, e]
  refine calls_of_sf Tryz.func70 rfl Tryz.ntmps70 ?_
  simp only [argsL, Nat.reduceAdd]
  repeat (first | refine R1 ?_ | (refine R2 ?_; intro _))
  refine fp (y_callV (gridOk_v _ _ k.first (gridB_mk s1)) (by rfl) ?_)
  repeat (first | refine R1 ?_ | (refine R2 ?_; intro _))
  refine sf_cond (by rfl) (fun g0 => ?_) fun g0 => ?_
  · simp only [Bool.not_eq_true'] at g0
    repeat (first | refine R1 ?_ | (refine R2 ?_; intro _))
    exact sf_ret (rO [] ⟨.inr ⟨_, rfl, by rw [hN (by simp [keepHead, g0])]; rfl⟩, rfl⟩)
  simp only [Bool.not_eq_false'] at g0
  repeat (first | refine R1 ?_ | (refine R2 ?_; intro _))
  refine f_split (fun g1 => ?_) fun g1 => ?_
  · repeat (first | refine R1 ?_ | (refine R2 ?_; intro _))
    refine sf_T rfl ?_
    repeat (first | refine R1 ?_ | (refine R2 ?_; intro _))
    exact sf_ret (rO [] ⟨.inr ⟨_, rfl, by rw [hN (by simp [keepHead]; intros; omega)]; rfl⟩, rfl⟩)
  repeat (first | refine R1 ?_ | (refine R2 ?_; intro _))
  refine sf_if (fun g2 => ?_) fun g2 => ?_
  · repeat (first | refine R1 ?_ | (refine R2 ?_; intro _))
    exact sf_ret (rO [] ⟨.inr ⟨_, rfl, by rw [hN (by simp [keepHead]; intros; omega)]; rfl⟩, rfl⟩)
  repeat (first | refine R1 ?_ | (refine R2 ?_; intro _))
  refine f_split (fun g3 => ?_) fun g3 => ?_
  · repeat (first | refine R1 ?_ | (refine R2 ?_; intro _))
    refine sf_T rfl ?_
    repeat (first | refine R1 ?_ | (refine R2 ?_; intro _))
    exact sf_ret (rO [] ⟨.inr ⟨_, rfl, by rw [hN (by simp [keepHead]; intros; omega)]; rfl⟩, rfl⟩)
  repeat (first | refine R1 ?_ | (refine R2 ?_; intro _))
  refine fp (y_callV (editsOk_v _ c k.first s1 ed k.edits s2) (by rfl) ?_)
  repeat (first | refine R1 ?_ | (refine R2 ?_; intro _))
  refine sf_cond (by rfl) (fun g4 => ?_) fun g4 => ?_
  · simp only [Bool.not_eq_true'] at g4
    repeat (first | refine R1 ?_ | (refine R2 ?_; intro _))
    exact sf_ret (rO [] ⟨.inr ⟨_, rfl, by rw [hN (by simp [keepHead, g4])]; rfl⟩, rfl⟩)
  simp only [Bool.not_eq_false'] at g4
  have hk : HeadOk k := ⟨g0, by omega, by omega, by omega, g4⟩
  have hK := hk.is
  have hF : ∀ {b : Bool}, (partsOk k k.parts.length && shownsOk k k.shown.length) = b → keepOk k = b := fun e => by rw [keepOk, hK, Bool.true_and]; exact e
  clear hN
  repeat (first | refine R1 ?_ | (refine R2 ?_; intro _))
  rename_i b1
  refine sf_lp (ι := Nat) [1] (fun i => [(3, .int .i64 ((i : Int) + 1))]) (fun i O => (i ≤ rp.length ∧ partsOk k i = true) ∧ O = [(b1, .cells #[.int .i64 k.first.wide, c, ed, p, s] 39)]) (fun i => rp.length - i) 0 [(b1, .cells #[.int .i64 k.first.wide, c, ed, p, s] 39)] ⟨⟨by omega, rfl⟩, rfl⟩ ?_
  rintro i O ⟨⟨hi, hpi⟩, rfl⟩
  repeat (first | refine R1 ?_ | (refine R2 ?_; intro _))
  refine sf_if (fun e1 => ?_) fun e1 => ?_
  · have hi1 : i < k.parts.length := by omega
    repeat (first | refine R1 ?_ | (refine R2 ?_; intro _))
    refine fp (y_call (partCheck_f _ _ k b0 hk ((i : Int) + 1) i rfl hi1) (by rfl) ?_)
    rintro u _ ⟨eu, rfl⟩
    have ou := eu.one
    repeat (first | refine R1 ?_ | (refine R2 ?_; intro _))
    refine fp (Rq ?_ (neqErr eu (by rfl)))
    repeat (first | refine R1 ?_ | (refine R2 ?_; intro _))
    refine sf_cond (by rfl) (fun h1 => ?_) fun h1 => ?_
    · rw [h1] at eu
      simp only [Bool.not_eq_true'] at h1
      repeat (first | refine R1 ?_ | (refine R2 ?_; intro _))
      exact sf_ret (rO [] ⟨by rw [hF (b := false) (by rw [partsOk_F hi1 h1]; rfl)]; exact eu, rfl⟩)
    · simp only [Bool.not_eq_false'] at h1
      repeat (first | refine R1 ?_ | (refine R2 ?_; intro _))
      exact ⟨i + 1, by omega, ⟨rfl, trivial⟩, rfl, _, _, inferInstance, ⟨by omega, by rw [partsOk_step, hpi, h1]; rfl⟩, rfl⟩
  · refine sf_exit ?_
    have hpo : partsOk k k.parts.length = true := by rw [show k.parts.length = i by omega]; exact hpi
    clear hpi hi e1
    repeat (first | refine R1 ?_ | (refine R2 ?_; intro _))
    refine sf_lp (ι := Nat) [1, 55, 56] (fun i => [(5, .int .i64 (prevVer k i)), (57, .int .i64 (i : Int))]) (fun i O => (i ≤ rs.length ∧ shownsOk k i = true) ∧ O = [(b1, .cells #[.int .i64 k.first.wide, c, ed, p, s] 39)]) (fun i => rs.length - i) 0 [(b1, .cells #[.int .i64 k.first.wide, c, ed, p, s] 39)] ⟨⟨by omega, rfl⟩, rfl⟩ ?_
    rintro j O ⟨⟨hi, hpi⟩, rfl⟩
    repeat (first | refine R1 ?_ | (refine R2 ?_; intro _))
    refine sf_if (fun e2 => ?_) fun e2 => ?_
    · have hi1 : j < k.shown.length := by omega
      have hi2 : j < rs.length := by omega
      obtain ⟨l, ex, sl⟩ := shownB (bs.at hi1)
      have ol := sl.one
      have hsl := sl.small
      haveI : FlatV (rawF (shownR τ).sz) (gt rs j) [.int .i64 (gt k.shown j).ver, l] := ⟨ex⟩
      repeat (first | refine R1 ?_ | (refine R2 ?_; intro _))
      refine fp (y_call (keepVersion_f _ _ k b0 (gt k.shown j).ver) (by rfl) ?_)
      rintro u _ ⟨eu, rfl⟩
      have ou := eu.one
      repeat (first | refine R1 ?_ | (refine R2 ?_; intro _))
      refine fp (Rq ?_ (neqErr eu (by rfl)))
      repeat (first | refine R1 ?_ | (refine R2 ?_; intro _))
      refine sf_cond (by rfl) (fun h1 => ?_) fun h1 => ?_
      · rw [h1] at eu
        simp only [Bool.not_eq_true'] at h1
        repeat (first | refine R1 ?_ | (refine R2 ?_; intro _))
        exact sf_ret (rO [] ⟨by rw [hF (b := false) (by rw [shownsOk_F hi1 (by simp [shownOk, h1])]; simp)]; exact eu, rfl⟩)
      simp only [Bool.not_eq_false'] at h1
      clear eu ou
      have hvr := h1
      simp only [verOk, Bool.and_eq_true, decide_eq_true_eq] at hvr
      by_cases h2 : (gt k.shown j).ver ≤ prevVer k j
      · repeat (first | refine R1 ?_ | (refine R2 ?_; intro _))
        refine sf_draw (by kernel_rfl) (regX_run [[], [0], [], [0, 1, 2], [0, 1, 2, 3], [0, 1, 2, 3, 4], [0, 1, 2, 3, 4, 5], [0, 1, 2, 3, 4], [0, 1, 2, 3, 4], [0, 1, 2, 3, 4, 8], [0, 1, 2, 3, 4, 7, 8, 9], [0, 1, 2, 3, 4, 7, 8, 9, 10], [0, 1, 2, 3, 4, 5, 6, 7, 8, 9, 10, 11], [0, 1, 2, 3, 4, 5, 6, 7, 8, 9, 10, 11, 12], [0, 1, 2, 3, 4, 5, 6, 7, 8, 9, 10, 11, 12, 13]] 12 [(0, false), (1, false), (2, false), (3, false), (4, false), (5, false), (6, false), (7, false), (8, false), (9, false), (10, false), (11, false)] (by kernel_rfl) (by kernel_rfl) (by kernel_rfl) ?_)
        repeat (refine Da1 ?_)
        (refine a_end (by rfl) (by rfl) ?_; simp only [finA, setL, List.drop_succ_cons, List.drop_zero])
        repeat (first | refine R1 ?_ | (refine R2 ?_; intro _))
        refine sf_T rfl ?_
        repeat (first | refine R1 ?_ | (refine R2 ?_; intro _))
        exact sf_ret (rO [] ⟨.inr ⟨_, rfl, by rw [hF (b := false) (by rw [shownsOk_F hi1 (by simp [shownOk]; intros; omega)]; simp)]; rfl⟩, rfl⟩)
      · have gok' := gridAt_ok hk.grid hk.edits (gt k.shown j).ver
        repeat (first | refine R1 ?_ | (refine R2 ?_; intro _))
        refine sf_draw (by kernel_rfl) (regX_run [[], [0], [], [0, 1, 2], [0, 1, 2, 3], [0, 1, 2, 3, 4], [0, 1, 2, 3, 4, 5], [0, 1, 2, 3, 4], [0, 1, 2, 3, 4], [0, 1, 2, 3, 4, 8], [0, 1, 2, 3, 4, 7, 8, 9], [0, 1, 2, 3, 4, 7, 8, 9, 10], [0, 1, 2, 3, 4, 5, 6, 7, 8, 9, 10, 11], [0, 1, 2, 3, 4, 5, 6, 7, 8, 9, 10, 11, 12], [0, 1, 2, 3, 4, 5, 6, 7, 8, 9, 10, 11, 12, 13]] 12 [(0, false), (1, false), (2, false), (3, false), (4, false), (5, false), (6, false), (7, false), (8, false), (9, false), (10, true), (11, true)] (by kernel_rfl) (by kernel_rfl) (by kernel_rfl) ?_)
        repeat (refine Da1 ?_)
        refine a_call (keepGridOf_f _ _ k b0 hk (gt k.shown j).ver h1) (by rfl) (by rfl) (.inr ⟨_, _, _, _, rfl, by rfl, by rfl, decide_eq_false h2⟩) ?_
        rintro _ A1 ⟨cs, rfl, q⟩
        obtain ⟨c2, rfl, g1, l1⟩ := gridO q
        have o5 := g1.one
        repeat (refine Da1 ?_)
        refine a_call (lendF A1 fun h' _ inb => picOf_f h' _ _ ((gridR τ).lent q inb) gok') (by rfl) (by rfl) (.inr ⟨_, _, _, _, rfl, by rfl, by rfl, decide_eq_false h2⟩) ?_
        rintro v2 _ ⟨A2, rfl, g2⟩
        have o6 := g2.one
        repeat (refine Da1 ?_)
        (refine a_end (by rfl) (by rfl) ?_; simp only [finA, setL, List.drop_succ_cons, List.drop_zero])
        refine fp (y_lendV A2 (fun h' l' inb => intsEqual_v h' _ _ _ _ (sl.le l'.le) (g2.lent (by rw [picOf_len]; have := (gok gok').many; omega) inb)) (by rfl) ?_)
        repeat (first | refine R1 ?_ | (refine R2 ?_; intro _))
        refine sf_cond (by rfl) (fun h3 => ?_) fun h3 => ?_
        · repeat (first | refine R1 ?_ | (refine R2 ?_; intro _))
          exact sf_ret (rO [] ⟨.inr ⟨_, rfl, by rw [hF (b := false) (by rw [shownsOk_F hi1 (by simp only [Bool.not_eq_true'] at h3; simp [shownOk, h3])]; simp)]; rfl⟩, rfl⟩)
        · simp only [Bool.not_eq_false'] at h3
          repeat (first | refine R1 ?_ | (refine R2 ?_; intro _))
          refine ⟨j + 1, by omega, ⟨?_, rfl, trivial⟩, rfl, [(b1, .cells #[.int .i64 k.first.wide, c, ed, p, s] 39)], _, inferInstance, ⟨by omega, ?_⟩, rfl⟩
          · simp only [prevVer, Nat.add_sub_cancel, show ¬ (j + 1 = 0) by omega, if_false]; rfl
          · rw [shownsOk_step, hpi, Bool.true_and, shownOk, h1, h3]; simp; omega
    · refine sf_exit ?_
      repeat (first | refine R1 ?_ | (refine R2 ?_; intro _))
      exact sf_ret (rO [] ⟨.inl ⟨rfl, by rw [hF (b := true) (by rw [hpo, show k.shown.length = j by omega, hpi]; rfl)]; rfl⟩, rfl⟩)
theorem keepOk_v [al : Alone Tryz.prog M] (h : PHeap) [BAt h 0 errObj] (ca : List Value) (k : Keeper) (b : (keeperR τ).B h ca k) : CallV Tryz.prog M 15 [.agg ca.toArray] h (.bool (keepOk k)) := by
  have b0 := b
  obtain ⟨c, ed, p, s, rfl, s1, s2, s3, s4⟩ := keeperB b
  have o1 := s1.one
  have o2 := s2.one
  have o3 := s3.one
  have o4 := s4.one
  refine calls_of_sf Tryz.func15 rfl Tryz.ntmps15 ?_
  simp only [argsL, Nat.reduceAdd]
  repeat (first | refine R1 ?_ | (refine R2 ?_; intro _))
  refine fp (y_call (keepCheck_f _ _ k b0) (by rfl) ?_)
  rintro u _ ⟨eu, rfl⟩
  have ou := eu.one
  repeat (first | refine R1 ?_ | (refine R2 ?_; intro _))
  refine fp (y_callV (refused_v _ u _ eu) (by rfl) ?_)
  repeat (first | refine R1 ?_ | (refine R2 ?_; intro _))
  refine sf_ret (rV ?_)
  simp
theorem keepGrid_f [al : Alone Tryz.prog M] (h : PHeap) [BAt h 0 errObj] (ca : List Value) (k : Keeper) (b : (keeperR τ).B h ca k) (v : Int) : CallF Tryz.prog M 18 [.agg ca.toArray, .int .i64 v] [] h fun u A => ∃ cs, u = .tuple #[.agg cs.toArray, .bool (keepGrid k v).2] ∧ (gridR τ).O A cs (keepGrid k v).1 := by
  have b0 := b
  obtain ⟨c, ed, p, s, rfl, s1, s2, s3, s4⟩ := keeperB b
  have o1 := s1.one
  have o2 := s2.one
  have o3 := s3.one
  have o4 := s4.one
  have eF : (keepOk k && verOk k v) = false → keepGrid k v = (noGrid, false) := fun e => by rw [keepGrid, e]; rfl
  have z0 : (gridR τ).O [] [.int .i64 0, .slice none 0 0] noGrid := gridO_mk (g := noGrid) (Gr.nil _ _) (by decide)
  refine calls_of_sf Tryz.func18 rfl Tryz.ntmps18 ?_
  simp only [argsL, Nat.reduceAdd]
  repeat (first | refine R1 ?_ | (refine R2 ?_; intro _))
  refine fp (y_callV (keepOk_v _ _ k b0) (by rfl) ?_)
  repeat (first | refine R1 ?_ | (refine R2 ?_; intro _))
  refine f_splitB (fun h1 => ?_) fun h1 => ?_
  · have h1' := h1
    simp only [Bool.not_eq_true'] at h1'
    repeat (first | refine R1 ?_ | (refine R2 ?_; intro _))
    refine sf_T rfl ?_
    repeat (first | refine R1 ?_ | (refine R2 ?_; intro _))
    rw [eF (by rw [h1']; rfl)]
    exact sf_ret (rO [] ⟨_, rfl, z0⟩)
  have h1' := h1
  simp only [Bool.not_eq_false'] at h1'
  repeat (first | refine R1 ?_ | (refine R2 ?_; intro _))
  refine fp (y_call (keepVersion_f _ _ k b0 v) (by rfl) ?_)
  rintro u _ ⟨eu, rfl⟩
  have ou := eu.one
  repeat (first | refine R1 ?_ | (refine R2 ?_; intro _))
  refine fp (y_callV (refused_v _ u _ eu) (by rfl) ?_)
  repeat (first | refine R1 ?_ | (refine R2 ?_; intro _))
  refine sf_cond (by rfl) (fun h2 => ?_) fun h2 => ?_
  · simp only [Bool.not_eq_true'] at h2
    repeat (first | refine R1 ?_ | (refine R2 ?_; intro _))
    rw [eF (by rw [h2]; simp)]
    exact sf_ret (rO [] ⟨_, rfl, z0⟩)
  simp only [Bool.not_eq_false'] at h2
  have hh : keepHead k = true := by
    simp only [keepOk, Bool.and_eq_true] at h1'; exact h1'.1.1
  rw [show keepGrid k v = (gridAt k v, true) by rw [keepGrid, h1', h2]; rfl]
  repeat (first | refine R1 ?_ | (refine R2 ?_; intro _))
  refine fp (y_call (keepGridOf_f _ _ k b0 (keepHead_is hh) v h2) (by rfl) ?_)
  rintro _ A1 ⟨cs, rfl, q⟩
  have q' := q
  obtain ⟨c2, rfl, g1, l1⟩ := gridO q
  have o5 := g1.one
  repeat (first | refine R1 ?_ | (refine R2 ?_; intro _))
  exact sf_ret (rO A1 ⟨_, rfl, q'⟩)
end Go.Proofs.YtekjikbaefgncaaGreatDoor

/- Walks: a keeper shows what all have told. -/
namespace Go.Proofs.YtekjikbaefgncaaGreatDoor
open Go Go.Sl
set_option maxRecDepth 100000
set_option maxHeartbeats 4000000
attribute [local irreducible] Go.Code.sf sfOps Opq opo retF Do1 anyO
variable {M : Jdg → Prop} [IsCl Tryz.prog M]
theorem keepPublished_f (h : PHeap) (c ed p sv : Value) (k : Keeper) (A4 : Own) (s1 : Sl h c cellF k.first.cells) (o2 : Sl.One ed) (s3 : SlR (partR τ) h p k.parts) (g4 : GrR (shownR τ) A4 sv 117 k.shown) (kg : gridOk k.first = true) (n1 : 1 ≤ k.parts.length) (n3 : k.parts.length ≤ 3)
    (pl : ∀ i, i < k.parts.length → (gt k.parts i).has = true → (gt k.parts i).lights.length = ownCnt (manyOf k.first).toNat k.parts.length (i + 1)) (hsh : k.shown.length ≤ 1048576) : CallF Tryz.prog M 174 [.agg #[.int .i64 k.first.wide, c, ed, p, sv]] A4 h fun u A' => ∃ s', u = .agg #[.int .i64 k.first.wide, c, ed, p, s'] ∧ GrR (shownR τ) A' s' 117 (published k).shown := by
  have g40 := g4
  have o1 := s1.one
  have o3 := s3.one
  have o4 := g4.one
  obtain ⟨rp, sp, bp⟩ := s3
  have lp := bp.len
  have hsm := sp.small
  obtain ⟨B0, B1, rfl, rs, gs, oa, hs4⟩ := g4
  have ls := oa.len
  have hm := (gok kg).many
  obtain ⟨S, hS⟩ : ∃ S : Nat, manyOf k.first = S := ⟨(manyOf k.first).toNat, by omega⟩
  have hSn : (manyOf k.first).toNat = S := by rw [hS]; rfl
  rw [hS] at hm
  simp only [hSn] at pl
  obtain ⟨l0, ex0, sl0⟩ := partB (bp.at n1)
  have ol0 := sl0.one
  haveI i0 : FlatV (rawF (partR τ).sz) (gt rp 0) [.bool (gt k.parts 0).has, .int .i64 (gt k.parts 0).ver, l0] := ⟨ex0⟩
  have hrp : 0 < rp.length := by omega
  have hNo : partsSame k k.parts.length = false ∨ shownNewer k = false → (published k).shown = k.shown := fun x => by
    unfold published
    rcases x with x | x <;> simp [x]
  refine calls_of_sf Tryz.func174 rfl Tryz.ntmps174 ?_
  simp only [argsL, Nat.reduceAdd]
  repeat (first | refine R1 ?_ | (refine R2 ?_; intro _))
  refine fp (y_callV (sightMany_v _ _ k.first (gridB_mk s1)) (by rfl) ?_)
  rw [sightMany_ok kg, hS]
  repeat (first | refine R1 ?_ | (refine R2 ?_; intro _))
  refine fp (y_make (by rfl) (by rfl) (by rfl) (by decide) (by omega) fun pv A0 gp => ?_)
  have op := gp.one
  repeat (first | refine R1 ?_ | (refine R2 ?_; intro _))
  rename_i b1 b2
  refine sf_lp (ι := Nat) [1, 2, 3, 4, 5, 24, 25] (fun i => [(26, .int .i64 (i : Int))]) (fun i O => i ≤ k.parts.length ∧ partsSame k i = true ∧ ∃ A', O = A' ++ (B0 ++ (B1 ++ [(b2, .cells #[.int .i64 0, .slice none 0 0, .slice none 0 0, .slice none 0 0, .slice none 0 0] 39), (b1, .cells #[.int .i64 k.first.wide, c, ed, p, sv] 39)])) ∧ Gr A' pv 3 intF (picUpto k i 0)) (fun i => k.parts.length - i) 0 (A0 ++ (B0 ++ (B1 ++ [(b2, .cells #[.int .i64 0, .slice none 0 0, .slice none 0 0, .slice none 0 0, .slice none 0 0] 39), (b1, .cells #[.int .i64 k.first.wide, c, ed, p, sv] 39)]))) ⟨by omega, rfl, A0, rfl, by rw [picUpto_zero, hSn]; exact gp⟩ ?_
  clear gp A0
  rintro i O ⟨hi, hpi, A', rfl, gp⟩
  repeat (first | refine R1 ?_ | (refine R2 ?_; intro _))
  refine sf_if (fun h4 => ?_) fun h4 => ?_
  · have hi4 : i < k.parts.length := by omega
    have hi5 : i < rp.length := by omega
    obtain ⟨l, ex, sl⟩ := partB (bp.at hi4)
    have ol := sl.one
    haveI : FlatV (rawF (partR τ).sz) (gt rp i) [.bool (gt k.parts i).has, .int .i64 (gt k.parts i).ver, l] := ⟨ex⟩
    have hret : ((gt k.parts i).has && decide ((gt k.parts i).ver = (gt k.parts 0).ver)) = false → (published k).shown = k.shown := fun x => hNo (.inl (partsSame_F hi4 x))
    repeat (first | refine R1 ?_ | (refine R2 ?_; intro _))
    refine f_splitB (fun e0 => ?_) fun e0 => ?_
    · have e := e0
      simp only [Bool.not_eq_true'] at e
      repeat (first | refine R1 ?_ | (refine R2 ?_; intro _))
      refine sf_T rfl ?_
      repeat (first | refine R1 ?_ | (refine R2 ?_; intro _))
      exact sf_ret (rO (B0 ++ B1) ⟨sv, rfl, by rw [hret (by rw [e]; rfl)]; exact g40⟩)
    have e := e0
    simp only [Bool.not_eq_false'] at e
    repeat (first | refine R1 ?_ | (refine R2 ?_; intro _))
    refine sf_if (fun h6 => ?_) fun h6 => ?_
    · repeat (first | refine R1 ?_ | (refine R2 ?_; intro _))
      exact sf_ret (rO (B0 ++ B1) ⟨sv, rfl, by rw [hret (by rw [e, decide_eq_false h6]; rfl)]; exact g40⟩)
    have hln := pl i hi4 e
    repeat (first | refine R1 ?_ | (refine R2 ?_; intro _))
    rw [lp]
    refine fp (y_call (paintOwn_f _ _ k.first (gridB_mk s1) kg (i + 1) k.parts.length (by omega) (by omega) n3) (by rfl) ?_)
    intro xv A1 g1
    rw [hSn] at g1
    have ox := g1.one
    have hl := ownList_len S k.parts.length (i + 1)
    have hc : ∀ j, j < ownCnt S k.parts.length (i + 1) ↔ i + 1 - 1 + j * k.parts.length < S := fun j => ownCnt_lt (by omega) (by omega) n3
    have hat : ∀ j, j < ownCnt S k.parts.length (i + 1) → gt (ownList S k.parts.length (i + 1)) j = ((i + 1 - 1 + j * k.parts.length : Nat) : Int) := fun j hj => ownList_at hj
    have hcl : ownCnt S k.parts.length (i + 1) ≤ S := by
      rcases Nat.lt_or_ge S (ownCnt S k.parts.length (i + 1)) with y | y
      · have := (hc S).1 y
        have : S * 1 ≤ S * k.parts.length := Nat.mul_le_mul_left _ n1
        omega
      · exact y
    generalize hcn : ownCnt S k.parts.length (i + 1) = cn at *
    generalize hxs : ownList S k.parts.length (i + 1) = xs at *
    repeat (first | refine R1 ?_ | (refine R2 ?_; intro _))
    rename_i b7
    refine sf_lp (ι := Nat) [1, 2, 3, 4, 5, 6, 7, 24, 25, 26, 46, 47] (fun j => [(48, .int .i64 (j : Int))]) (fun j O => j ≤ cn ∧ ∃ A', O = A' ++ (A1 ++ ((b7, .cells #[.bool (gt k.parts i).has, .int .i64 (gt k.parts i).ver, l] 113) :: (B0 ++ (B1 ++ [(b2, .cells #[.int .i64 0, .slice none 0 0, .slice none 0 0, .slice none 0 0, .slice none 0 0] 39), (b1, .cells #[.int .i64 k.first.wide, c, ed, p, sv] 39)])))) ∧ Gr A' pv 3 intF (picUpto k i j)) (fun j => cn - j) 0 (A' ++ (A1 ++ ((b7, .cells #[.bool (gt k.parts i).has, .int .i64 (gt k.parts i).ver, l] 113) :: (B0 ++ (B1 ++ [(b2, .cells #[.int .i64 0, .slice none 0 0, .slice none 0 0, .slice none 0 0, .slice none 0 0] 39), (b1, .cells #[.int .i64 k.first.wide, c, ed, p, sv] 39)]))))) ⟨by omega, A', rfl, gp⟩ ?_
    clear gp A'
    rintro j O ⟨hj, A', rfl, gp⟩
    have hpl : (picUpto k i j).length = S := by rw [picUpto_len, hSn]
    repeat (first | refine R1 ?_ | (refine R2 ?_; intro _))
    refine sf_if (fun h7 => ?_) fun h7 => ?_
    · have hj7 : j < cn := by omega
      have ha := hat j hj7
      have hb := (hc j).1 hj7
      repeat (first | refine R1 ?_ | (refine R2 ?_; intro _))
      simp only [ha]
      repeat (first | refine R1 ?_ | (refine R2 ?_; intro _))
      refine fp (y_storeG0 (by rfl) (by rfl) gp (by omega) (by rfl) fun A2 ys ey ly _ g2 => ?_)
      obtain rfl := ey.trans (picUpto_step k hi4)
      repeat (first | refine R1 ?_ | (refine R2 ?_; intro _))
      exact ⟨j + 1, by omega, ⟨rfl, trivial⟩, rfl, A2 ++ (A1 ++ ((b7, .cells #[.bool (gt k.parts i).has, .int .i64 (gt k.parts i).ver, l] 113) :: (B0 ++ (B1 ++ [(b2, .cells #[.int .i64 0, .slice none 0 0, .slice none 0 0, .slice none 0 0, .slice none 0 0] 39), (b1, .cells #[.int .i64 k.first.wide, c, ed, p, sv] 39)])))), _, inferInstance, by omega, A2, rfl, g2⟩
    · refine sf_exit ?_
      obtain rfl : j = cn := by omega
      rw [← hcn, ← hSn, picUpto_next k hi4 n3] at gp
      repeat (first | refine R1 ?_ | (refine R2 ?_; intro _))
      refine ⟨i + 1, by omega, ⟨rfl, trivial⟩, rfl, A' ++ (B0 ++ (B1 ++ [(b2, .cells #[.int .i64 0, .slice none 0 0, .slice none 0 0, .slice none 0 0, .slice none 0 0] 39), (b1, .cells #[.int .i64 k.first.wide, c, ed, p, sv] 39)])), _, inferInstance, by omega, ?_, A', rfl, gp⟩
      rw [partsSame_step, hpi, e]
      simpa using h6
  · refine sf_exit ?_
    obtain rfl : i = k.parts.length := by omega
    rw [picUpto_end k n1] at gp
    have hpp : (pubPic k).length = S := by simp [pubPic, hSn]
    have hYes : shownNewer k = true → (published k).shown = k.shown ++ [⟨(gt k.parts 0).ver, pubPic k⟩] := fun x => by
      unfold published
      rw [hpi, x]; rfl
    have hend : ∀ (s' : Value) (A5 : Own), Gr A5 s' 117 (rawF (shownR τ).sz) (rs ++ [⟨[.int .i64 (gt k.parts 0).ver, pv], rfl⟩]) → GrR (shownR τ) (A5 ++ (B1 ++ A')) s' 117 (k.shown ++ [⟨(gt k.parts 0).ver, pubPic k⟩]) := fun s' A5 g5 =>
      ⟨A5, B1 ++ A', rfl, _, g5, oa.snoc (shownO_mk (p := ⟨(gt k.parts 0).ver, pubPic k⟩) gp (by simp only; omega)), by simp; omega⟩
    by_cases h0 : k.shown.length = 0
    · have hr0 : rs.length = 0 := by omega
      rw [hYes (by simp [shownNewer, h0])]
      repeat (first | refine R1 ?_ | (refine R2 ?_; intro _))
      refine f_split (fun h8 => ?_) fun h8 => ?_
      · omega
      repeat (first | refine R1 ?_ | (refine R2 ?_; intro _))
      refine sf_N (by first | rfl | (simp; omega)) ?_
      repeat (first | refine R1 ?_ | (refine R2 ?_; intro _))
      refine fp (y_bs (by rfl) (by rfl) (by rfl) (by rfl) (by decide) fun u Au gu => ?_)
      repeat (first | refine R1 ?_ | (refine R2 ?_; intro _))
      refine fp (y_append (by rfl) (by rfl) gs gu (by intro y hy; simp at hy; subst hy; exact (inferInstance : AllOne [Value.int .i64 (gt k.parts 0).ver, pv]).is) (by rfl) (by rfl) (by simp; omega) (by simp; omega) fun s2 A5 g5 => ?_)
      have o9 := g5.one
      repeat (first | refine R1 ?_ | (refine R2 ?_; intro _))
      exact sf_ret (rO (A5 ++ (B1 ++ A')) ⟨s2, rfl, hend s2 A5 g5⟩)
    · obtain ⟨m, hm'⟩ : ∃ m : Nat, k.shown.length = m + 1 := ⟨k.shown.length - 1, by omega⟩
      have hrm : rs.length = m + 1 := by omega
      obtain ⟨_, _, _, -, qk, -⟩ := oa.at (k := m) (by omega)
      obtain ⟨lm, exm, gm⟩ := shownO qk
      have olm : Sl.One lm := by first | exact gm.1.one | exact gm.one
      have hix : ((rs.length : Int) - 1) = (m : Int) := by omega
      have hm5 : m < rs.length := by omega
      haveI : FlatV (rawF (shownR τ).sz) (gt rs m) [.int .i64 (gt k.shown m).ver, lm] := ⟨exm⟩
      have hnw : shownNewer k = decide ((gt k.shown m).ver < (gt k.parts 0).ver) := by
        rw [shownNewer, hm', Nat.add_sub_cancel]; simp
      repeat (first | refine R1 ?_ | (refine R2 ?_; intro _))
      simp only [hix]
      refine f_split (fun h8 => ?_) fun h8 => ?_
      · repeat (first | refine R1 ?_ | (refine R2 ?_; intro _))
        refine sf_if (fun h9 => ?_) fun h9 => ?_
        · rw [hNo (.inr (by rw [hnw]; simp; omega))]
          repeat (first | refine R1 ?_ | (refine R2 ?_; intro _))
          exact sf_ret (rO (B0 ++ B1) ⟨sv, rfl, g40⟩)
        · rw [hYes (by rw [hnw]; simp; omega)]
          repeat (first | refine R1 ?_ | (refine R2 ?_; intro _))
          refine fp (y_bs (by rfl) (by rfl) (by rfl) (by rfl) (by decide) fun u Au gu => ?_)
          repeat (first | refine R1 ?_ | (refine R2 ?_; intro _))
          refine fp (y_append (by rfl) (by rfl) gs gu (by intro y hy; simp at hy; subst hy; exact (inferInstance : AllOne [Value.int .i64 (gt k.parts 0).ver, pv]).is) (by rfl) (by rfl) (by simp; omega) (by simp; omega) fun s2 A5 g5 => ?_)
          have o9 := g5.one
          repeat (first | refine R1 ?_ | (refine R2 ?_; intro _))
          exact sf_ret (rO (A5 ++ (B1 ++ A')) ⟨s2, rfl, hend s2 A5 g5⟩)
      · omega
end Go.Proofs.YtekjikbaefgncaaGreatDoor

/- Walks: a keeper takes an edit in. -/
namespace Go.Proofs.YtekjikbaefgncaaGreatDoor
open Go Go.Sl
set_option maxRecDepth 100000
set_option maxHeartbeats 4000000
attribute [local irreducible] Go.Code.sf sfOps Opq opo retF Do1 anyO
variable {M : Jdg → Prop} [IsCl Tryz.prog M]
theorem cloneEdits_f (h : PHeap) (v : Value) (xs : List Edit) (s : Sl h v editF xs) (hs : xs.length ≤ 1048576) : CallF Tryz.prog M 168 [v] [] h fun v' A => Gr A v' 69 editF xs := by
  have o1 := s.one
  refine calls_of_sf Tryz.func168 rfl Tryz.ntmps168 ?_
  simp only [argsL, Nat.reduceAdd]
  repeat (first | refine R1 ?_ | (refine R2 ?_; intro _))
  refine fp (Rq ?_ (q_eqNil (by infer_instance) (by rfl) (by rfl) s))
  repeat (first | refine R1 ?_ | (refine R2 ?_; intro _))
  refine sf_cond (by rfl) (fun h1 => ?_) fun h1 => ?_
  · obtain ⟨rfl, rfl⟩ := isNilS_nil s h1
    repeat (first | refine R1 ?_ | (refine R2 ?_; intro _))
    exact sf_ret (rO [] (Gr.nil _ _))
  · repeat (first | refine R1 ?_ | (refine R2 ?_; intro _))
    refine fp (y_bs (by rfl) (by rfl) (by rfl) (by rfl) (by decide) fun w A gw => ?_)
    repeat (first | refine R1 ?_ | (refine R2 ?_; intro _))
    refine fp (y_appendS (by rfl) (by rfl) gw s (fun y _ => FlatOne.one y) (by rfl) (by rfl) (by simp; omega) (by simp; omega) fun w2 A2 g2 => ?_)
    repeat (first | refine R1 ?_ | (refine R2 ?_; intro _))
    exact sf_ret (rO A2 g2)
theorem cloneInts_f (h : PHeap) (v : Value) (xs : List Int) (s : Sl h v intF xs) (hs : xs.length ≤ 1048576) : CallF Tryz.prog M 169 [v] [] h fun v' A => Gr A v' 3 intF xs := by
  have o1 := s.one
  refine calls_of_sf Tryz.func169 rfl Tryz.ntmps169 ?_
  simp only [argsL, Nat.reduceAdd]
  repeat (first | refine R1 ?_ | (refine R2 ?_; intro _))
  refine fp (Rq ?_ (q_eqNil (by infer_instance) (by rfl) (by rfl) s))
  repeat (first | refine R1 ?_ | (refine R2 ?_; intro _))
  refine sf_cond (by rfl) (fun h1 => ?_) fun h1 => ?_
  · obtain ⟨rfl, rfl⟩ := isNilS_nil s h1
    repeat (first | refine R1 ?_ | (refine R2 ?_; intro _))
    exact sf_ret (rO [] (Gr.nil _ _))
  · repeat (first | refine R1 ?_ | (refine R2 ?_; intro _))
    refine fp (y_bs (by rfl) (by rfl) (by rfl) (by rfl) (by decide) fun w A gw => ?_)
    repeat (first | refine R1 ?_ | (refine R2 ?_; intro _))
    refine fp (y_appendS (by rfl) (by rfl) gw s (fun y _ => FlatOne.one y) (by rfl) (by rfl) (by simp; omega) (by simp; omega) fun w2 A2 g2 => ?_)
    repeat (first | refine R1 ?_ | (refine R2 ?_; intro _))
    exact sf_ret (rO A2 g2)
theorem keepCopy_f (h : PHeap) (ca : List Value) (k : Keeper) (b : (keeperR τ).B h ca k) (hs : szKeeperN k ≤ 1048576) : CallF Tryz.prog M 112 [.agg ca.toArray] [] h fun u A => ∃ cs, u = .agg cs.toArray ∧ (keeperR τ).O A cs k := by
  obtain ⟨z1, z2, z3, z4⟩ := szKeeper_parts hs
  have hz3 : szPartSN k.parts = k.parts.length + sizeL szPartN k.parts := rfl
  have hz4 : szShownSN k.shown = k.shown.length + sizeL szShownN k.shown := rfl
  obtain ⟨c, ed, p, s, rfl, s1, s2, s3, s4⟩ := keeperB b
  have o1 := s1.one
  have o2 := s2.one
  have o3 := s3.one
  have o4 := s4.one
  obtain ⟨rp, sp, bp⟩ := s3
  obtain ⟨rs, ss, bs⟩ := s4
  have lp := bp.len
  have ls := bs.len
  refine calls_of_sf Tryz.func112 rfl Tryz.ntmps112 ?_
  simp only [argsL, Nat.reduceAdd]
  repeat (first | refine R1 ?_ | (refine R2 ?_; intro _))
  refine sf_draw (by kernel_rfl) (regX_split 2 7 (by rfl) (regX_split 5 7 (by rfl) ?_ ?_) ?_)
  case' refine_1 =>
    refine (regX_run [[], [0], [0, 1], [], [3], [0, 1, 2, 3, 4], [0, 1, 2, 3, 4, 5], [0, 1, 2, 3, 4, 5], [0, 1, 2, 3, 4, 5, 6, 7]] 8 [(0, false), (1, false), (3, false), (4, false), (2, true), (5, true), (6, false), (7, true)] (by kernel_rfl) (by kernel_rfl) (by kernel_rfl) ?_)
    repeat (refine Da1 ?_)
    refine a_call (gridCopy_f _ _ k.first (gridB_mk s1) z1) (by rfl) (by rfl) (.inl rfl) ?_
    rintro _ AC ⟨_, rfl, q⟩
    obtain ⟨c2, rfl, g1, l1⟩ := gridO q
    have o5 := g1.one
    repeat (refine Da1 ?_)
    refine a_call (cloneEdits_f _ _ _ s2 z2) (by rfl) (by rfl) (.inl rfl) fun e2 AE ge => ?_
    have o6 := ge.one
    repeat (refine Da1 ?_)
    refine a_alloc (by rfl) (.inl rfl) fun b5 => ?_
    repeat (refine Da1 ?_)
    (refine a_end (by rfl) (by rfl) ?_; simp only [finA, setL, List.drop_succ_cons, List.drop_zero])
    repeat (first | refine R1 ?_ | (refine R2 ?_; intro _))
    rename_i b1 b2
    refine sf_own ((b5, .cells #[.int .i64 k.first.wide, c2, e2, .slice none 0 0, .slice none 0 0] 39) :: ([] ++ [] ++ (AC ++ (AE ++ [(b2, .cells #[.int .i64 0, .slice none 0 0, .slice none 0 0, .slice none 0 0, .slice none 0 0] 39), (b1, .cells #[.int .i64 k.first.wide, c, ed, p, s] 39)])))) ?_
  case' refine_2 =>
    refine (regX_run [[], [0], [0, 1], [], [3], [0, 1, 2, 3, 4, 7], [0, 1, 2, 3, 4, 5, 7], [0, 1, 2], [0, 1, 2, 3, 4, 5, 6, 7]] 8 [(0, false), (1, false), (3, false), (4, false), (2, true), (7, true), (5, true), (6, false)] (by kernel_rfl) (by kernel_rfl) (by kernel_rfl) ?_)
    repeat (refine Da1 ?_)
    refine a_call (gridCopy_f _ _ k.first (gridB_mk s1) z1) (by rfl) (by rfl) (.inl rfl) ?_
    rintro _ AC ⟨_, rfl, q⟩
    obtain ⟨c2, rfl, g1, l1⟩ := gridO q
    have o5 := g1.one
    repeat (refine Da1 ?_)
    refine a_alloc (by rfl) (.inl rfl) fun b5 => ?_
    repeat (refine Da1 ?_)
    refine a_call (cloneEdits_f _ _ _ s2 z2) (by rfl) (by rfl) (.inl rfl) fun e2 AE ge => ?_
    have o6 := ge.one
    repeat (refine Da1 ?_)
    (refine a_end (by rfl) (by rfl) ?_; simp only [finA, setL, List.drop_succ_cons, List.drop_zero])
    repeat (first | refine R1 ?_ | (refine R2 ?_; intro _))
    rename_i b1 b2
    refine sf_own ((b5, .cells #[.int .i64 k.first.wide, c2, e2, .slice none 0 0, .slice none 0 0] 39) :: ([] ++ [] ++ (AC ++ (AE ++ [(b2, .cells #[.int .i64 0, .slice none 0 0, .slice none 0 0, .slice none 0 0, .slice none 0 0] 39), (b1, .cells #[.int .i64 k.first.wide, c, ed, p, s] 39)])))) ?_
  case' refine_3 =>
    refine (regX_run [[], [0], [0, 1, 7], [], [3], [0, 1, 2, 3, 4, 7], [0, 1, 2, 3, 4, 5, 7], [], [0, 1, 2, 3, 4, 5, 6, 7]] 8 [(0, false), (1, false), (3, false), (4, false), (7, true), (2, true), (5, true), (6, false)] (by kernel_rfl) (by kernel_rfl) (by kernel_rfl) ?_)
    repeat (refine Da1 ?_)
    refine a_alloc (by rfl) (.inl rfl) fun b5 => ?_
    repeat (refine Da1 ?_)
    refine a_call (gridCopy_f _ _ k.first (gridB_mk s1) z1) (by rfl) (by rfl) (.inl rfl) ?_
    rintro _ AC ⟨_, rfl, q⟩
    obtain ⟨c2, rfl, g1, l1⟩ := gridO q
    have o5 := g1.one
    repeat (refine Da1 ?_)
    refine a_call (cloneEdits_f _ _ _ s2 z2) (by rfl) (by rfl) (.inl rfl) fun e2 AE ge => ?_
    have o6 := ge.one
    repeat (refine Da1 ?_)
    (refine a_end (by rfl) (by rfl) ?_; simp only [finA, setL, List.drop_succ_cons, List.drop_zero])
    repeat (first | refine R1 ?_ | (refine R2 ?_; intro _))
    rename_i b1 b2
    refine sf_own ((b5, .cells #[.int .i64 k.first.wide, c2, e2, .slice none 0 0, .slice none 0 0] 39) :: ([] ++ [] ++ (AC ++ (AE ++ [(b2, .cells #[.int .i64 0, .slice none 0 0, .slice none 0 0, .slice none 0 0, .slice none 0 0] 39), (b1, .cells #[.int .i64 k.first.wide, c, ed, p, s] 39)])))) ?_
  all_goals
    refine sf_lp [1, 2, 3, 16, 17] (fun i : Nat => [(18, .int .i64 (i : Int))]) (fun i O => i ≤ k.parts.length ∧ ∃ pv A0 A1, O = (b5, .cells #[.int .i64 k.first.wide, c2, e2, pv, .slice none 0 0] 39) :: (A0 ++ A1 ++ (AC ++ (AE ++ [(b2, .cells #[.int .i64 0, .slice none 0 0, .slice none 0 0, .slice none 0 0, .slice none 0 0] 39), (b1, .cells #[.int .i64 k.first.wide, c, ed, p, s] 39)]))) ∧ ∃ qs : List (Raw (partR τ).sz), qs.length = i ∧ Gr A0 pv 113 (rawF (partR τ).sz) qs ∧ OAll (partR τ) A1 qs (k.parts.take i)) (fun i => k.parts.length - i) 0 ((b5, .cells #[.int .i64 k.first.wide, c2, e2, .slice none 0 0, .slice none 0 0] 39) :: ([] ++ [] ++ (AC ++ (AE ++ [(b2, .cells #[.int .i64 0, .slice none 0 0, .slice none 0 0, .slice none 0 0, .slice none 0 0] 39), (b1, .cells #[.int .i64 k.first.wide, c, ed, p, s] 39)])))) ⟨by omega, _, [], [], rfl, [], rfl, Gr.nil _ _, .nil⟩ ?_
    rintro i O ⟨hi, pv, A0, A1, rfl, qs, hq, gq, oa⟩
    have o7 := gq.one
    repeat (first | refine R1 ?_ | (refine R2 ?_; intro _))
    refine sf_if (fun h4 => ?_) fun h4 => ?_
    · have hi4 : i < k.parts.length := by omega
      have hi5 : i < rp.length := by omega
      obtain ⟨l, ex, sl⟩ := partB (bp.at hi4)
      have ol := sl.one
      haveI : FlatV (rawF (partR τ).sz) (gt rp i) [.bool (gt k.parts i).has, .int .i64 (gt k.parts i).ver, l] := ⟨ex⟩
      have hsz := sizeL_at (f := szPartN) hi4
      have hsl : (gt k.parts i).lights.length ≤ 1048576 := by simp only [szPartN] at hsz hz3; omega
      repeat (first | refine R1 ?_ | (refine R2 ?_; intro _))
      refine fp (y_call (cloneInts_f _ _ _ sl hsl) (by rfl) fun l2 AL gl => ?_)
      have ol2 := gl.one
      repeat (first | refine R1 ?_ | (refine R2 ?_; intro _))
      refine fp (y_bs (by rfl) (by rfl) (by rfl) (by rfl) (by decide) fun u Au gu => ?_)
      repeat (first | refine R1 ?_ | (refine R2 ?_; intro _))
      refine fp (y_append (by rfl) (by rfl) gq gu (by intro y hy; simp at hy; subst hy; exact (inferInstance : AllOne [Value.bool (gt k.parts i).has, .int .i64 (gt k.parts i).ver, l2]).is) (by rfl) (by rfl) (by simp; omega) (by simp; omega) fun pv2 A5 g5 => ?_)
      have o8 := g5.one
      repeat (first | refine R1 ?_ | (refine R2 ?_; intro _))
      refine ⟨i + 1, by omega, ⟨rfl, trivial⟩, rfl, (b5, .cells #[.int .i64 k.first.wide, c2, e2, pv2, .slice none 0 0] 39) :: (A5 ++ (A1 ++ AL) ++ (AC ++ (AE ++ [(b2, .cells #[.int .i64 0, .slice none 0 0, .slice none 0 0, .slice none 0 0, .slice none 0 0] 39), (b1, .cells #[.int .i64 k.first.wide, c, ed, p, s] 39)]))), _, inferInstance, by omega, pv2, A5, A1 ++ AL, rfl, _, by simp [hq], g5, ?_⟩
      rw [take_succ_gt hi4]
      exact oa.snoc (partO_mk (p := gt k.parts i) gl (by omega))
    · refine sf_exit ?_
      rw [take_ge hi (by omega)] at oa
      clear h4
      repeat (first | refine R1 ?_ | (refine R2 ?_; intro _))
      refine sf_lp [2, 3, 34, 35] (fun j : Nat => [(36, .int .i64 (j : Int))]) (fun j O => j ≤ k.shown.length ∧ ∃ sv A3 A4, O = (b5, .cells #[.int .i64 k.first.wide, c2, e2, pv, sv] 39) :: (A3 ++ A4 ++ (A0 ++ A1 ++ (AC ++ (AE ++ [(b2, .cells #[.int .i64 0, .slice none 0 0, .slice none 0 0, .slice none 0 0, .slice none 0 0] 39), (b1, .cells #[.int .i64 k.first.wide, c, ed, p, s] 39)])))) ∧ ∃ ts : List (Raw (shownR τ).sz), ts.length = j ∧ Gr A3 sv 117 (rawF (shownR τ).sz) ts ∧ OAll (shownR τ) A4 ts (k.shown.take j)) (fun j => k.shown.length - j) 0 ((b5, .cells #[.int .i64 k.first.wide, c2, e2, pv, .slice none 0 0] 39) :: ([] ++ [] ++ (A0 ++ A1 ++ (AC ++ (AE ++ [(b2, .cells #[.int .i64 0, .slice none 0 0, .slice none 0 0, .slice none 0 0, .slice none 0 0] 39), (b1, .cells #[.int .i64 k.first.wide, c, ed, p, s] 39)]))))) ⟨by omega, _, [], [], rfl, [], rfl, Gr.nil _ _, .nil⟩ ?_
      rintro j O ⟨hj, sv, A3, A4, rfl, ts, ht, gt', ob⟩
      have o8 := gt'.one
      repeat (first | refine R1 ?_ | (refine R2 ?_; intro _))
      refine sf_if (fun h4 => ?_) fun h4 => ?_
      · have hj4 : j < k.shown.length := by omega
        have hj5 : j < rs.length := by omega
        obtain ⟨l, ex, sl⟩ := shownB (bs.at hj4)
        have ol := sl.one
        haveI : FlatV (rawF (shownR τ).sz) (gt rs j) [.int .i64 (gt k.shown j).ver, l] := ⟨ex⟩
        have hsz := sizeL_at (f := szShownN) hj4
        have hsl : (gt k.shown j).pic.length ≤ 1048576 := by simp only [szShownN] at hsz hz4; omega
        repeat (first | refine R1 ?_ | (refine R2 ?_; intro _))
        refine fp (y_call (cloneInts_f _ _ _ sl hsl) (by rfl) fun l2 AL gl => ?_)
        have ol2 := gl.one
        repeat (first | refine R1 ?_ | (refine R2 ?_; intro _))
        refine fp (y_bs (by rfl) (by rfl) (by rfl) (by rfl) (by decide) fun u Au gu => ?_)
        repeat (first | refine R1 ?_ | (refine R2 ?_; intro _))
        refine fp (y_append (by rfl) (by rfl) gt' gu (by intro y hy; simp at hy; subst hy; exact (inferInstance : AllOne [Value.int .i64 (gt k.shown j).ver, l2]).is) (by rfl) (by rfl) (by simp; omega) (by simp; omega) fun sv2 A5 g5 => ?_)
        have o9 := g5.one
        repeat (first | refine R1 ?_ | (refine R2 ?_; intro _))
        refine ⟨j + 1, by omega, ⟨rfl, trivial⟩, rfl, (b5, .cells #[.int .i64 k.first.wide, c2, e2, pv, sv2] 39) :: (A5 ++ (A4 ++ AL) ++ (A0 ++ A1 ++ (AC ++ (AE ++ [(b2, .cells #[.int .i64 0, .slice none 0 0, .slice none 0 0, .slice none 0 0, .slice none 0 0] 39), (b1, .cells #[.int .i64 k.first.wide, c, ed, p, s] 39)])))), _, inferInstance, by omega, sv2, A5, A4 ++ AL, rfl, _, by simp [ht], g5, ?_⟩
        rw [take_succ_gt hj4]
        exact ob.snoc (shownO_mk (p := gt k.shown j) gl (by omega))
      · refine sf_exit ?_
        rw [take_ge hj (by omega)] at ob
        repeat (first | refine R1 ?_ | (refine R2 ?_; intro _))
        exact sf_ret (rO (AC ++ (AE ++ ((A0 ++ A1) ++ (A3 ++ A4)))) ⟨_, rfl, keeperO_mk g1 l1 ge (by omega) ⟨A0, A1, rfl, qs, gq, oa, by omega⟩ ⟨A3, A4, rfl, ts, gt', ob, by omega⟩⟩)
end Go.Proofs.YtekjikbaefgncaaGreatDoor

/- Walks: a keeper takes an edit in, second part. -/
namespace Go.Proofs.YtekjikbaefgncaaGreatDoor
open Go Go.Sl
set_option maxRecDepth 100000
set_option maxHeartbeats 4000000
attribute [local irreducible] Go.Code.sf sfOps Opq opo retF Do1 anyO
variable {M : Jdg → Prop} [IsCl Tryz.prog M]
theorem keeperO_one {A : Own} {cs : List Value} {k : Keeper} (b : (keeperR τ).O A cs k) : ∃ c e p s, cs = [.int .i64 k.first.wide, c, e, p, s] ∧ Sl.One c ∧ Sl.One e ∧ Sl.One p ∧ Sl.One s := by
  obtain ⟨c, e, p, s, _, _, _, _, h, -, ⟨g1, -⟩, ⟨g2, -⟩, g3, g4⟩ := keeperO b
  exact ⟨c, e, p, s, h, g1.one, g2.one, g3.one, g4.one⟩
theorem keepEdited_f (h : PHeap) (A : Own) (ca : List Value) (k : Keeper) (b : (keeperR τ).O A ca k) (hs : szKeeperN k ≤ 1048576) (e : Edit) : CallF Tryz.prog M 111 [.agg ca.toArray, .agg #[.int .i64 e.at', .int .i64 e.cell.kind, .int .i64 e.cell.light]] A h fun u A' => ∃ cs er, u = .tuple #[.agg cs.toArray, er] ∧ ErrIs er (!(decide (k.edits.length < 60) && editOk k.first e)) ∧ (keeperR τ).O A' cs (if k.edits.length < 60 ∧ editOk k.first e = true then withEdit k e else noKeeper) := by
  obtain ⟨z1, z2, z3, z4⟩ := szKeeper_parts hs
  obtain ⟨c, ed, p, s, A1, A2, A3, A4, rfl, rfl, ⟨g1, l1⟩, ⟨g2, l2⟩, g3, g4⟩ := keeperO b
  have o1 := g1.one
  have o2 := g2.one
  have o3 := g3.one
  have o4 := g4.one
  refine calls_of_sf Tryz.func111 rfl Tryz.ntmps111 ?_
  simp only [argsL, Nat.reduceAdd]
  repeat (first | refine R1 ?_ | (refine R2 ?_; intro _))
  refine sf_if (fun h1 => ?_) fun h1 => ?_
  · repeat (first | refine R1 ?_ | (refine R2 ?_; intro _))
    rw [if_neg (by omega)]
    exact sf_ret (rO [] ⟨[.int .i64 0, .slice none 0 0, .slice none 0 0, .slice none 0 0, .slice none 0 0], _, rfl, .inr ⟨_, rfl, by simp; omega⟩, noKeeperO⟩)
  repeat (first | refine R1 ?_ | (refine R2 ?_; intro _))
  refine fp (y_lendV A1 (fun h' _ i => editOk_v h' c k.first (g1.lent l1 i) e) (by rfl) ?_)
  repeat (first | refine R1 ?_ | (refine R2 ?_; intro _))
  refine sf_cond (by rfl) (fun h2 => ?_) fun h2 => ?_
  · simp only [Bool.not_eq_true'] at h2
    repeat (first | refine R1 ?_ | (refine R2 ?_; intro _))
    rw [if_neg (by simp [h2])]
    exact sf_ret (rO [] ⟨[.int .i64 0, .slice none 0 0, .slice none 0 0, .slice none 0 0, .slice none 0 0], _, rfl, .inr ⟨_, rfl, by simp [h2]⟩, noKeeperO⟩)
  simp only [Bool.not_eq_false'] at h2
  rw [if_pos ⟨by omega, h2⟩]
  repeat (first | refine R1 ?_ | (refine R2 ?_; intro _))
  refine fp (y_bs (by rfl) (by rfl) (by rfl) (by rfl) (by decide) fun u Au gu => ?_)
  repeat (first | refine R1 ?_ | (refine R2 ?_; intro _))
  refine fp (y_append (by rfl) (by rfl) g2 gu (fun y _ => FlatOne.one y) (by rfl) (by rfl) (by simp; omega) (by simp; omega) fun e2 A5 g5 => ?_)
  have o5 := g5.one
  repeat (first | refine R1 ?_ | (refine R2 ?_; intro _))
  exact sf_ret (rO (A1 ++ (A5 ++ (A3 ++ A4))) ⟨[.int .i64 k.first.wide, c, e2, p, s], _, rfl, .inl ⟨rfl, by simp [h2]; omega⟩, keeperO_mk (k := withEdit k e) g1 l1 g5 (by simp [withEdit]; omega) g3 g4⟩)
theorem keepEdit_f [al : Alone Tryz.prog M] (h : PHeap) [BAt h 0 errObj] (ca : List Value) (k : Keeper) (b : (keeperR τ).B h ca k) (hs : szKeeperN k ≤ 1048576) (e : Edit) : CallF Tryz.prog M 46 [.agg ca.toArray, .agg #[.int .i64 e.at', .int .i64 e.cell.kind, .int .i64 e.cell.light]] [] h fun u A => ∃ cs, u = .tuple #[.agg cs.toArray, .bool (keepEdit k e).2] ∧ (keeperR τ).O A cs (keepEdit k e).1 := by
  have b0 := b
  obtain ⟨c, ed, p, s, rfl, s1, s2, s3, s4⟩ := keeperB b
  have o1 := s1.one
  have o2 := s2.one
  have o3 := s3.one
  have o4 := s4.one
  refine calls_of_sf Tryz.func46 rfl Tryz.ntmps46 ?_
  simp only [argsL, Nat.reduceAdd]
  repeat (first | refine R1 ?_ | (refine R2 ?_; intro _))
  refine fp (y_callV (keepOk_v _ _ k b0) (by rfl) ?_)
  repeat (first | refine R1 ?_ | (refine R2 ?_; intro _))
  refine sf_cond (by rfl) (fun h1 => ?_) fun h1 => ?_
  · simp only [Bool.not_eq_true'] at h1
    repeat (first | refine R1 ?_ | (refine R2 ?_; intro _))
    rw [show keepEdit k e = (noKeeper, false) by rw [keepEdit, if_neg (by simp [h1])]]
    exact sf_ret (rO [] ⟨[.int .i64 0, .slice none 0 0, .slice none 0 0, .slice none 0 0, .slice none 0 0], rfl, noKeeperO⟩)
  simp only [Bool.not_eq_false'] at h1
  have e2 : (decide (k.edits.length < 60) && editOk k.first e) = (keepEdit k e).2 ∧ (if k.edits.length < 60 ∧ editOk k.first e = true then withEdit k e else noKeeper) = (keepEdit k e).1 := by
    unfold keepEdit
    by_cases hz : k.edits.length < 60 ∧ editOk k.first e = true
    · rw [if_pos hz, if_pos ⟨h1, hz⟩]; simp [hz.1, hz.2]
    · rw [if_neg hz, if_neg (fun x => hz x.2)]
      refine ⟨?_, rfl⟩
      simp only [Bool.and_eq_false_iff, decide_eq_false_iff_not]
      by_cases h60 : k.edits.length < 60
      · exact .inr (by simpa using fun x => hz ⟨h60, x⟩)
      · exact .inl h60
  repeat (first | refine R1 ?_ | (refine R2 ?_; intro _))
  refine sf_draw (by kernel_rfl) (regX_split 1 7 (by rfl) (regX_split 3 7 (by rfl) ?_ ?_) ?_)
  case' refine_1 =>
    refine (regX_run [[], [0], [], [0, 1, 2], [0, 1, 2, 3], [0, 1, 2, 3, 4], [0, 1, 2, 3, 4], [0, 1, 2, 3], [0, 1, 2, 3, 4, 5, 7], [0, 1, 2, 3, 4, 5, 6, 7, 8]] 9 [(0, false), (2, false), (1, true), (3, true), (4, false), (5, false), (6, false), (7, true), (8, true)] (by kernel_rfl) (by kernel_rfl) (by kernel_rfl) ?_)
    repeat (refine Da1 ?_)
    refine a_call (keepCopy_f _ _ k b0 hs) (by rfl) (by rfl) (.inl rfl) ?_
    rintro _ AC ⟨cc, rfl, q⟩
    refine a_call (keepEdited_f _ AC cc k q hs e) (by rfl) (by rfl) (.inl rfl) ?_
    rintro _ AE ⟨ce, er, rfl, he, q2⟩
    rw [e2.1] at he
    rw [e2.2] at q2
    have oe := he.one
    obtain ⟨x1, x2, x3, x4, rfl, p1, p2, p3, p4⟩ := keeperO_one q2
    repeat (refine Da1 ?_)
    refine a_alloc (by rfl) (.inl rfl) fun b6 => ?_
    repeat (refine Da1 ?_)
  case' refine_2 =>
    refine (regX_run [[], [0], [], [0, 1, 2, 7], [0, 1, 2, 3, 7], [0, 1, 2, 3, 4, 7], [0, 1, 2, 3, 4, 7], [0, 1], [0, 1, 2, 3, 4, 5, 7], [0, 1, 2, 3, 4, 5, 6, 7, 8]] 9 [(0, false), (2, false), (1, true), (7, true), (3, true), (4, false), (5, false), (6, false), (8, true)] (by kernel_rfl) (by kernel_rfl) (by kernel_rfl) ?_)
    repeat (refine Da1 ?_)
    refine a_call (keepCopy_f _ _ k b0 hs) (by rfl) (by rfl) (.inl rfl) ?_
    rintro _ AC ⟨cc, rfl, q⟩
    repeat (refine Da1 ?_)
    refine a_alloc (by rfl) (.inl rfl) fun b6 => ?_
    repeat (refine Da1 ?_)
    refine a_call (keepEdited_f _ AC cc k q hs e) (by rfl) (by rfl) (.inl rfl) ?_
    rintro _ AE ⟨ce, er, rfl, he, q2⟩
    rw [e2.1] at he
    rw [e2.2] at q2
    have oe := he.one
    obtain ⟨x1, x2, x3, x4, rfl, p1, p2, p3, p4⟩ := keeperO_one q2
    repeat (refine Da1 ?_)
  case' refine_3 =>
    refine (regX_run [[], [0, 7], [], [0, 1, 2, 7], [0, 1, 2, 3, 7], [0, 1, 2, 3, 4, 7], [0, 1, 2, 3, 4, 7], [], [0, 1, 2, 3, 4, 5, 7], [0, 1, 2, 3, 4, 5, 6, 7, 8]] 9 [(0, false), (2, false), (7, true), (1, true), (3, true), (4, false), (5, false), (6, false), (8, true)] (by kernel_rfl) (by kernel_rfl) (by kernel_rfl) ?_)
    repeat (refine Da1 ?_)
    refine a_alloc (by rfl) (.inl rfl) fun b6 => ?_
    repeat (refine Da1 ?_)
    refine a_call (keepCopy_f _ _ k b0 hs) (by rfl) (by rfl) (.inl rfl) ?_
    rintro _ AC ⟨cc, rfl, q⟩
    repeat (refine Da1 ?_)
    refine a_call (keepEdited_f _ AC cc k q hs e) (by rfl) (by rfl) (.inl rfl) ?_
    rintro _ AE ⟨ce, er, rfl, he, q2⟩
    rw [e2.1] at he
    rw [e2.2] at q2
    have oe := he.one
    obtain ⟨x1, x2, x3, x4, rfl, p1, p2, p3, p4⟩ := keeperO_one q2
    repeat (refine Da1 ?_)
  all_goals
    refine a_store (by rfl) (by rfl) (by rfl) (.inl rfl) ?_
    repeat (refine Da1 ?_)
    (refine a_end (by rfl) (by rfl) ?_; simp only [finA, setL, List.drop_succ_cons, List.drop_zero])
    repeat (first | refine R1 ?_ | (refine R2 ?_; intro _))
    rename_i b2 b3 b4
    refine sf_draw (by kernel_rfl) (regX_own ([(b4, .cells #[.int .i64 0, .slice none 0 0, .slice none 0 0, .slice none 0 0, .slice none 0 0] 39)]) (regX_runW _ [[], [], [1], [1, 2], [0, 1, 2], [0, 1, 2, 3, 4]] 5 [(0, false), (1, false), (2, true), (3, false), (4, true)] (by kernel_rfl) (by kernel_rfl) (by kernel_rfl) ?_))
    repeat (refine Da1 ?_)
    refine a_callV (refused_v _ _ _ he) (by rfl) (by rfl) (.inl rfl) ?_
    repeat (refine Da1 ?_)
    refine a_store (by rfl) (by rfl) (by rfl) (.inl rfl) ?_
    (refine a_end (by rfl) (by rfl) ?_; simp only [finA, setL, List.drop_succ_cons, List.drop_zero])
    simp only [Bool.not_not]
    repeat (first | refine R1 ?_ | (refine R2 ?_; intro _))
    exact sf_ret (rO AE ⟨[.int .i64 (keepEdit k e).1.first.wide, x1, x2, x3, x4], rfl, q2⟩)
end Go.Proofs.YtekjikbaefgncaaGreatDoor

/- Walks: a keeper hears a word. -/
namespace Go.Proofs.YtekjikbaefgncaaGreatDoor
open Go Go.Sl
set_option maxRecDepth 100000
set_option maxHeartbeats 4000000
attribute [local irreducible] Go.Code.sf sfOps Opq opo retF Do1 anyO
variable {M : Jdg → Prop} [IsCl Tryz.prog M]
theorem pl_of {k : Keeper} (ok : keepOk k = true) : ∀ i, i < k.parts.length → (gt k.parts i).has = true → (gt k.parts i).lights.length = ownCnt (manyOf k.first).toNat k.parts.length (i + 1) := fun i hi hh => by
  have := keepOk_part ok hi
  unfold partOk at this
  rw [if_pos hh] at this
  simp only [Bool.and_eq_true, decide_eq_true_eq] at this
  rw [this.2, partLights, ownLights_len]
theorem setPart_at (k : Keeper) (i j : Nat) (p : Part) (hj : j < k.parts.length) : gt (setPart k i p).parts j = if i = j then p else gt k.parts j := by
  rw [gt_eq (by simpa [setPart] using hj), gt_eq hj]
  simp only [setPart, List.getElem_set]
theorem pub_first (k : Keeper) : (published k).first = k.first ∧ (published k).edits = k.edits ∧ (published k).parts = k.parts := by
  unfold published; split <;> exact ⟨rfl, rfl, rfl⟩
theorem pub_no {k : Keeper} {i : Nat} (hi : i < k.parts.length) : published (setPart k i noPart) = setPart k i noPart := by
  have h1 : partsSame (setPart k i noPart) (setPart k i noPart).parts.length = false := partsSame_F (i := i) (by simpa [setPart] using hi) (by rw [setPart_at k i i _ hi, if_pos rfl]; rfl)
  unfold published
  rw [h1]; rfl
theorem pl_set {k : Keeper} (pl : ∀ i, i < k.parts.length → (gt k.parts i).has = true → (gt k.parts i).lights.length = ownCnt (manyOf k.first).toNat k.parts.length (i + 1)) (i : Nat) (q : Part) (hq : q.has = true → q.lights.length = ownCnt (manyOf k.first).toNat k.parts.length (i + 1)) :
    ∀ j, j < (setPart k i q).parts.length → (gt (setPart k i q).parts j).has = true → (gt (setPart k i q).parts j).lights.length = ownCnt (manyOf (setPart k i q).first).toNat (setPart k i q).parts.length (j + 1) := fun j hj hh => by
  have hl : (setPart k i q).parts.length = k.parts.length := by simp [setPart]
  have hj' : j < k.parts.length := by omega
  rw [setPart_at _ _ _ _ hj'] at hh ⊢
  rw [hl]
  by_cases e : i = j
  · subst e
    rw [if_pos rfl] at hh ⊢
    exact hq hh
  · rw [if_neg e] at hh ⊢
    exact pl j hj' hh
theorem keepHeard_f (h : PHeap) [BAt h 0 errObj] (A : Own) (ca : List Value) (k : Keeper) (b : (keeperR τ).O A ca k) (ok : keepOk k = true) (hs : szKeeperN k ≤ 1048576) (cw : List Value) (w : Word) (bw : (wordR τ).B h cw w) (hw : w.lights.length ≤ 1048576) : CallF Tryz.prog M 121 [.agg ca.toArray, .agg cw.toArray] A h fun u A' => ∃ cs, u = .agg cs.toArray ∧ (keeperR τ).O A' cs (heard k w) := by
  have b0 := b
  obtain ⟨z1, z2, z3, z4⟩ := szKeeper_parts hs
  have hz4 : szShownSN k.shown = k.shown.length + sizeL szShownN k.shown := rfl
  have hk := keepOk_head ok
  have n1 := hk.n1
  have n3 := hk.n3
  have h60 := hk.e60
  obtain ⟨c, ed, p, s, A1, A2, A3, A4, rfl, rfl, ⟨g1, l1⟩, ⟨g2, le2⟩, g3, g4⟩ := keeperO b
  have o1 := g1.one
  have o2 := g2.one
  have o3 := g3.one
  have o4 := g4.one
  obtain ⟨wc, wl, rfl, sw1, sw2⟩ := wordB bw
  have o5 := sw1.one
  have o6 := sw2.one
  obtain ⟨B0, B1, rfl, rs, gq, oa, hq4⟩ := g3
  have lq := oa.len
  have hsh : k.shown.length ≤ 1048576 := by omega
  refine calls_of_sf Tryz.func121 rfl Tryz.ntmps121 ?_
  simp only [argsL, Nat.reduceAdd]
  repeat (first | refine R1 ?_ | (refine R2 ?_; intro _))
  refine f_split (fun h1 => ?_) fun h1 => ?_
  · repeat (first | refine R1 ?_ | (refine R2 ?_; intro _))
    refine sf_T rfl ?_
    repeat (first | refine R1 ?_ | (refine R2 ?_; intro _))
    rw [heard, if_neg (by omega)]
    exact sf_ret (rO (A1 ++ (A2 ++ ((B0 ++ B1) ++ A4))) ⟨[.int .i64 k.first.wide, c, ed, p, s], rfl, b0⟩)
  repeat (first | refine R1 ?_ | (refine R2 ?_; intro _))
  refine sf_if (fun h2 => ?_) fun h2 => ?_
  · repeat (first | refine R1 ?_ | (refine R2 ?_; intro _))
    rw [heard, if_neg (by omega)]
    exact sf_ret (rO (A1 ++ (A2 ++ ((B0 ++ B1) ++ A4))) ⟨[.int .i64 k.first.wide, c, ed, p, s], rfl, b0⟩)
  rw [heard, if_pos (by omega)]
  obtain ⟨i, hi, hz⟩ : ∃ i : Nat, i < k.parts.length ∧ w.frm = i + 1 := ⟨(w.frm - 1).toNat, by omega, by omega⟩
  have ei : w.frm.toNat - 1 = i := by omega
  have ez : w.frm - 1 = (i : Int) := by omega
  rw [ei]
  have hi5 : i < rs.length := by omega
  obtain ⟨C1, Ck, C2, rfl, qk, oset⟩ := oa.at hi
  obtain ⟨lk0, exk, gk, lk1⟩ := partO qk
  have olk := gk.one
  haveI : FlatV (rawF (partR τ).sz) (gt rs i) [.bool (gt k.parts i).has, .int .i64 (gt k.parts i).ver, lk0] := ⟨exk⟩
  have hpl := pl_of ok
  repeat (first | refine R1 ?_ | (refine R2 ?_; intro _))
  refine sf_if (fun h3 => ?_) fun h3 => ?_
  · rw [if_pos h3]
    repeat (first | refine R1 ?_ | (refine R2 ?_; intro _))
    simp only [ez]
    repeat (first | refine R1 ?_ | (refine R2 ?_; intro _))
    refine fp (y_storeG0 (by rfl) (by rfl) gq (by omega) (by rfl) fun D0 ys ey ly _ g5 => ?_)
    have oall := oset [] ⟨[.bool false, .int .i64 0, .slice none 0 0], rfl⟩ noPart (partO_mk (p := noPart) (Gr.nil _ _) (by decide))
    have g3' : GrR (partR τ) (D0 ++ (C1 ++ ([] ++ C2))) p 113 (setPart k i noPart).parts := ⟨D0, _, rfl, ys, g5, by rw [ey]; exact oall, by simp [setPart]; omega⟩
    have hl : (setPart k i noPart).parts.length = k.parts.length := by simp [setPart]
    repeat (first | refine R1 ?_ | (refine R2 ?_; intro _))
    refine fp (y_call (lendF (A1 ++ (D0 ++ (C1 ++ ([] ++ C2)))) fun h' l' inb => keepPublished_f h' c ed p s (setPart k i noPart) A4 (g1.lent l1 (inb_l inb)) o2 (g3'.lent (inb_r inb)) g4 hk.grid (by omega) (by omega) (pl_set hpl i noPart (fun x => by cases x)) hsh) (by rfl) ?_)
    rintro u _ ⟨A', rfl, s', rfl, gs'⟩
    rw [pub_no hi] at gs'
    have o9 := gs'.one
    repeat (first | refine R1 ?_ | (refine R2 ?_; intro _))
    exact sf_ret (rO (A1 ++ (A2 ++ ((D0 ++ (C1 ++ ([] ++ C2))) ++ A'))) ⟨[.int .i64 k.first.wide, c, ed, p, s'], rfl, keeperO_mk (k := setPart k i noPart) g1 l1 g2 le2 g3' gs'⟩)
  · rw [if_neg h3]
    repeat (first | refine R1 ?_ | (refine R2 ?_; intro _))
    refine sf_if (fun h4 => ?_) fun h4 => ?_
    · have ez' : (i : Int) + 1 - 1 = i := by omega
      have hN : takesWord k w = false → (if w.kind = 3 ∧ takesWord k w = true then published (setPart k i ⟨true, w.ver, w.lights⟩) else k) = k := fun x => by rw [if_neg (fun y => by rw [x] at y; cases y.2)]
      have htw : takesWord k w = (verOk k w.ver && decide (w.lights.length = ownCnt (manyOf k.first).toNat k.parts.length (i + 1))) := by rw [takesWord, hz]; rfl
      repeat (first | refine R1 ?_ | (refine R2 ?_; intro _))
      rw [hz, lq]
      refine fp (y_call (lendF A1 fun h' _ inb => paintOwn_f h' _ k.first (gridB_mk (g1.lent l1 inb)) hk.grid (i + 1) k.parts.length (by omega) (by omega) n3) (by rfl) ?_)
      rintro xv _ ⟨AX, rfl, gx⟩
      have ox := gx.one
      have hl := ownList_len (manyOf k.first).toNat k.parts.length (i + 1)
      repeat (first | refine R1 ?_ | (refine R2 ?_; intro _))
      refine fp (y_call (lendF (A1 ++ (A2 ++ ((B0 ++ (C1 ++ (Ck ++ C2))) ++ A4))) fun h' _ inb => keepVersion_f h' _ k ((keeperR τ).lent b0 inb) w.ver) (by rfl) ?_)
      rintro u _ ⟨_, rfl, eu, rfl⟩
      have ou := eu.one
      repeat (first | refine R1 ?_ | (refine R2 ?_; intro _))
      refine fp (y_callV (refused_v _ u _ eu) (by rfl) ?_)
      repeat (first | refine R1 ?_ | (refine R2 ?_; intro _))
      refine f_splitB (fun e0 => ?_) fun e0 => ?_
      · have e := e0
        simp only [Bool.not_eq_true'] at e
        repeat (first | refine R1 ?_ | (refine R2 ?_; intro _))
        refine sf_T rfl ?_
        repeat (first | refine R1 ?_ | (refine R2 ?_; intro _))
        rw [hN (by rw [htw, e]; rfl)]
        exact sf_ret (rO (A1 ++ (A2 ++ ((B0 ++ (C1 ++ (Ck ++ C2))) ++ A4))) ⟨[.int .i64 k.first.wide, c, ed, p, s], rfl, b0⟩)
      have e := e0
      simp only [Bool.not_eq_false'] at e
      repeat (first | refine R1 ?_ | (refine R2 ?_; intro _))
      refine sf_if (fun h6 => ?_) fun h6 => ?_
      · repeat (first | refine R1 ?_ | (refine R2 ?_; intro _))
        rw [hN (by rw [htw, e, Bool.true_and]; exact decide_eq_false (by omega))]
        exact sf_ret (rO (A1 ++ (A2 ++ ((B0 ++ (C1 ++ (Ck ++ C2))) ++ A4))) ⟨[.int .i64 k.first.wide, c, ed, p, s], rfl, b0⟩)
      have hln : w.lights.length = ownCnt (manyOf k.first).toNat k.parts.length (i + 1) := by omega
      rw [if_pos ⟨h4, by rw [htw, e, Bool.true_and]; exact decide_eq_true hln⟩]
      repeat (first | refine R1 ?_ | (refine R2 ?_; intro _))
      refine sf_draw (by kernel_rfl) (regX_run [[], [0], [], [2], [2, 3], [], [5], [], [7], [7, 8], [5, 6, 7, 8, 9], [0, 1, 2, 3, 4, 5, 6, 7, 8, 9, 10], [0, 1, 2, 3, 4, 5, 6, 7, 8, 9, 10, 11]] 11 [(0, false), (1, false), (2, false), (3, false), (4, false), (5, false), (6, false), (7, false), (8, false), (9, true), (10, false)] (by kernel_rfl) (by kernel_rfl) (by kernel_rfl) ?_)
      repeat (refine Da1 ?_)
      refine a_call (cloneInts_f _ _ _ sw2 hw) (by rfl) (by rfl) (.inl rfl) fun l2 AL gl => ?_
      have ol2 := gl.one
      repeat (refine Da1 ?_)
      (refine a_end (by rfl) (by rfl) ?_; simp only [finA, setL, List.drop_succ_cons, List.drop_zero])
      simp only [ez]
      repeat (first | refine R1 ?_ | (refine R2 ?_; intro _))
      refine fp (y_storeG0 (by rfl) (by rfl) gq (by omega) (by rfl) fun D0 ys ey ly _ g5 => ?_)
      have oall := oset AL ⟨[.bool true, .int .i64 w.ver, l2], rfl⟩ ⟨true, w.ver, w.lights⟩ (partO_mk (p := ⟨true, w.ver, w.lights⟩) gl (by simp only; omega))
      have g3' : GrR (partR τ) (D0 ++ (C1 ++ (AL ++ C2))) p 113 (setPart k i ⟨true, w.ver, w.lights⟩).parts := ⟨D0, _, rfl, ys, g5, by rw [ey]; exact oall, by simp [setPart]; omega⟩
      have hl' : (setPart k i ⟨true, w.ver, w.lights⟩).parts.length = k.parts.length := by simp [setPart]
      obtain ⟨f1, f2, f3⟩ := pub_first (setPart k i ⟨true, w.ver, w.lights⟩)
      repeat (first | refine R1 ?_ | (refine R2 ?_; intro _))
      refine fp (y_call (lendF (A1 ++ (D0 ++ (C1 ++ (AL ++ C2)))) fun h' l' inb => keepPublished_f h' c ed p s (setPart k i ⟨true, w.ver, w.lights⟩) A4 (g1.lent l1 (inb_l inb)) o2 (g3'.lent (inb_r inb)) g4 hk.grid (by omega) (by omega) (pl_set hpl i ⟨true, w.ver, w.lights⟩ (fun _ => hln)) hsh) (by rfl) ?_)
      rintro u _ ⟨A', rfl, s', rfl, gs'⟩
      have o9 := gs'.one
      repeat (first | refine R1 ?_ | (refine R2 ?_; intro _))
      refine sf_ret (rO (A1 ++ (A2 ++ ((D0 ++ (C1 ++ (AL ++ C2))) ++ A'))) ⟨[.int .i64 k.first.wide, c, ed, p, s'], rfl, ?_⟩)
      have := keeperO_mk (τ := τ) (k := published (setPart k i ⟨true, w.ver, w.lights⟩)) (c := c) (e := ed) (p := p) (s := s') (A1 := A1) (A2 := A2) (A3 := D0 ++ (C1 ++ (AL ++ C2))) (A4 := A') (by rw [f1]; exact g1) (by rw [f1]; exact l1) (by rw [f2]; exact g2) (by rw [f2]; exact le2) (by rw [f3]; exact g3') gs'
      rw [f1] at this
      exact this
    · rw [if_neg (fun x => h4 x.1)]
      repeat (first | refine R1 ?_ | (refine R2 ?_; intro _))
      exact sf_ret (rO (A1 ++ (A2 ++ ((B0 ++ (C1 ++ (Ck ++ C2))) ++ A4))) ⟨[.int .i64 k.first.wide, c, ed, p, s], rfl, b0⟩)
theorem keepHear_f [al : Alone Tryz.prog M] (h : PHeap) [BAt h 0 errObj] (ca : List Value) (k : Keeper) (b : (keeperR τ).B h ca k) (hs : szKeeperN k ≤ 1048576) (cw : List Value) (w : Word) (bw : (wordR τ).B h cw w) (hw : w.lights.length ≤ 1048576) : CallF Tryz.prog M 53 [.agg ca.toArray, .agg cw.toArray] [] h fun u A => ∃ cs, u = .agg cs.toArray ∧ (keeperR τ).O A cs (keepHear k w) := by
  have b0 := b
  have bw0 := bw
  obtain ⟨c, ed, p, s, rfl, s1, s2, s3, s4⟩ := keeperB b
  have o1 := s1.one
  have o2 := s2.one
  have o3 := s3.one
  have o4 := s4.one
  obtain ⟨wc, wl, rfl, sw1, sw2⟩ := wordB bw
  have o5 := sw1.one
  have o6 := sw2.one
  refine calls_of_sf Tryz.func53 rfl Tryz.ntmps53 ?_
  simp only [argsL, Nat.reduceAdd]
  repeat (first | refine R1 ?_ | (refine R2 ?_; intro _))
  refine fp (y_callV (keepOk_v _ _ k b0) (by rfl) ?_)
  repeat (first | refine R1 ?_ | (refine R2 ?_; intro _))
  refine sf_cond (by rfl) (fun h1 => ?_) fun h1 => ?_
  · simp only [Bool.not_eq_true'] at h1
    repeat (first | refine R1 ?_ | (refine R2 ?_; intro _))
    rw [show keepHear k w = noKeeper by rw [keepHear, if_neg (by simp [h1])]]
    exact sf_ret (rO [] ⟨[.int .i64 0, .slice none 0 0, .slice none 0 0, .slice none 0 0, .slice none 0 0], rfl, noKeeperO⟩)
  simp only [Bool.not_eq_false'] at h1
  rw [show keepHear k w = heard k w by rw [keepHear, if_pos h1]]
  repeat (first | refine R1 ?_ | (refine R2 ?_; intro _))
  refine sf_draw (by kernel_rfl) (regX_run [[], [0], [], [0, 1, 2], [0, 1, 2, 3]] 3 [(0, false), (2, false), (1, true)] (by kernel_rfl) (by kernel_rfl) (by kernel_rfl) ?_)
  repeat (refine Da1 ?_)
  refine a_call (keepCopy_f _ _ k b0 hs) (by rfl) (by rfl) (.inl rfl) ?_
  rintro _ AC ⟨cc, rfl, q⟩
  repeat (refine Da1 ?_)
  (refine a_end (by rfl) (by rfl) ?_; simp only [finA, setL, List.drop_succ_cons, List.drop_zero])
  refine fp (y_call (keepHeard_f _ AC cc k q h1 hs _ w bw0 hw) (by rfl) ?_)
  rintro _ AE ⟨ce, rfl, q2⟩
  have q2' := q2
  obtain ⟨x1, x2, x3, x4, rfl, p1, p2, p3, p4⟩ := keeperO_one q2
  repeat (first | refine R1 ?_ | (refine R2 ?_; intro _))
  exact sf_ret (rO AE ⟨_, rfl, q2'⟩)
end Go.Proofs.YtekjikbaefgncaaGreatDoor

/- Walks: rays and sights: the reference's. -/
namespace Go.Proofs.YtekjikbaefgncaaGreatDoor
open Go Go.Sl
set_option maxRecDepth 100000
set_option maxHeartbeats 4000000
attribute [local irreducible] Go.Code.sf sfOps Opq opo retF Do1 anyO
variable {M : Jdg → Prop} [IsCl Tryz.prog M]

theorem l1High_v (h : PHeap) (c : Value) (g : Grid) (s : Sl h c cellF g.cells) (hw : 1 ≤ g.wide) : CallV Tryz.prog M 182 [.agg #[.int .i64 g.wide, c]] h (.int .i64 (rowsOf g)) := by
  have o1 := s.one
  have hs := s.small
  refine calls_of_sf Tryz.func182 rfl Tryz.ntmps182 ?_
  simp only [argsL, Nat.reduceAdd]
  repeat (first | refine R1 ?_ | (refine R2 ?_; intro _))
  exact sf_ret (rV rfl)
theorem l2Back_v (h : PHeap) (d : Int) (h0 : 0 ≤ d) (h1 : d ≤ 3) : CallV Tryz.prog M 266 [.int .i64 d] h (.int .i64 ((d + 2) % 4)) := by
  refine calls_of_sf Tryz.func266 rfl Tryz.ntmps266 ?_
  simp only [argsL, Nat.reduceAdd]
  repeat (first | refine R1 ?_ | (refine R2 ?_; intro _))
  exact sf_ret (rV rfl)
theorem l3Many_v (h : PHeap) (c : Value) (g : Grid) (s : Sl h c cellF g.cells) {R : Int} (k : Gok g R) : CallV Tryz.prog M 131 [.agg #[.int .i64 g.wide, c]] h (.int .i64 (manyOf g)) := by
  have o1 := s.one
  have h1 := k.w1; have h2 := k.w5; have h3 := k.r1; have h4 := k.r5; have h5 := k.rows
  refine calls_of_sf Tryz.func131 rfl Tryz.ntmps131 ?_
  simp only [argsL, Nat.reduceAdd]
  repeat (first | refine R1 ?_ | (refine R2 ?_; intro _))
  refine sf_draw (by kernel_rfl) (regX_run [[], [0], [], [2], [0, 1, 2, 3], [0, 1, 2, 3, 4], [0, 1, 2, 3, 4, 5]] 4 [(0, false), (1, false), (2, false), (3, true)] (by kernel_rfl) (by kernel_rfl) (by kernel_rfl) ?_)
  repeat (refine Da1 ?_)
  refine a_callV (l1High_v h c g s h1) (by rfl) (by rfl) (.inl rfl) ?_
  repeat (refine Da1 ?_)
  (refine a_end (by rfl) (by rfl) ?_; simp only [finA, setL, List.drop_succ_cons, List.drop_zero])
  repeat (first | refine R1 ?_ | (refine R2 ?_; intro _))
  exact sf_ret (rV rfl)
theorem sDirTurn_v (h : PHeap) (k d : Int) (hd : 0 ≤ d ∧ d ≤ 3) : CallV Tryz.prog M 214 [.int .i64 k, .int .i64 d] h (.int .i64 (dirTurn k d)) := by
  obtain ⟨n, rfl⟩ : ∃ n : Nat, d = n := ⟨d.toNat, by omega⟩
  have hn : n = 0 ∨ n = 1 ∨ n = 2 ∨ n = 3 := by omega
  refine calls_of_sf Tryz.func214 rfl Tryz.ntmps214 ?_
  simp only [argsL, Nat.reduceAdd]
  repeat (first | refine R1 ?_ | (refine R2 ?_; intro _))
  refine fp (y_callV (l6In_v _ _ _ _) (by rfl) ?_)
  repeat (first | refine R1 ?_ | (refine R2 ?_; intro _))
  refine sf_cond (by rfl) (fun e => by simp at e; omega) fun _ => ?_
  repeat (first | refine R1 ?_ | (refine R2 ?_; intro _))
  rcases hn with rfl | rfl | rfl | rfl <;>
  · refine sf_if (fun e1 => ?_) fun e1 => ?_
    · repeat (first | refine R1 ?_ | (refine R2 ?_; intro _))
      refine sf_if (fun _ => ?_) fun e => absurd e1 e
      repeat (first | refine R1 ?_ | (refine R2 ?_; intro _))
      refine sf_ret (rV ?_)
      simp [dirTurn, e1, xorN]
    · repeat (first | refine R1 ?_ | (refine R2 ?_; intro _))
      refine sf_if (fun e2 => ?_) fun e2 => ?_
      · repeat (first | refine R1 ?_ | (refine R2 ?_; intro _))
        refine sf_ret (rV ?_)
        simp [dirTurn, e2, xorN]
      · repeat (first | refine R1 ?_ | (refine R2 ?_; intro _))
        refine sf_if (fun e3 => ?_) fun e3 => ?_
        · repeat (first | refine R1 ?_ | (refine R2 ?_; intro _))
          refine sf_if (fun _ => ?_) fun e => absurd e3 e
          repeat (first | refine R1 ?_ | (refine R2 ?_; intro _))
          refine sf_ret (rV ?_)
          simp [dirTurn, e3]
        · repeat (first | refine R1 ?_ | (refine R2 ?_; intro _))
          refine sf_if (fun e4 => ?_) fun e4 => ?_
          · repeat (first | refine R1 ?_ | (refine R2 ?_; intro _))
            refine sf_ret (rV ?_)
            simp [dirTurn, e4]
          · repeat (first | refine R1 ?_ | (refine R2 ?_; intro _))
            refine sf_ret (rV ?_)
            simp [dirTurn, e1, e2, e3, e4]
/-- Row and column of the next cell. -/
theorem next_rc {g : Grid} {R : Int} (k : Gok g R) {a d : Int} (h0 : 0 ≤ a) (h1 : a < g.cells.length) (dr dc : Int) (hd : (d = 0 ∧ dr = -1 ∧ dc = 0) ∨ (d = 1 ∧ dr = 0 ∧ dc = 1) ∨ (d = 2 ∧ dr = 1 ∧ dc = 0) ∨ (d = 3 ∧ dr = 0 ∧ dc = -1)) :
    nextAt g a d = if (0 ≤ a / g.wide + dr ∧ a / g.wide + dr ≤ rowsOf g - 1) ∧ 0 ≤ a % g.wide + dc ∧ a % g.wide + dc ≤ g.wide - 1 then some ((a / g.wide + dr) * g.wide + (a % g.wide + dc)) else none := by
  have h5 := k.len; have h6 := k.r1; have h7 := k.r5; have h8 := k.rows
  unfold nextAt
  rw [h8]
  rcases k.wides with e | e | e | e | e <;> simp only [e] at h5 ⊢ <;> rcases hd with ⟨rfl, rfl, rfl⟩ | ⟨rfl, rfl, rfl⟩ | ⟨rfl, rfl, rfl⟩ | ⟨rfl, rfl, rfl⟩ <;> simp only [if_true, if_false, show ¬ (1 : Int) = 0 by decide, show ¬ (2 : Int) = 0 by decide, show ¬ (2 : Int) = 1 by decide, show ¬ (3 : Int) = 0 by decide, show ¬ (3 : Int) = 1 by decide, show ¬ (3 : Int) = 2 by decide] <;> (split <;> split) <;> first | rfl | (exfalso; omega) | (congr 1; omega)
theorem l2Next_v (h : PHeap) (c : Value) (g : Grid) (s : Sl h c cellF g.cells) {R : Int} (k : Gok g R) (a d : Int) (ha : 0 ≤ a ∧ a < g.cells.length) (hd : 0 ≤ d ∧ d ≤ 3) : CallV Tryz.prog M 236 [.agg #[.int .i64 g.wide, c], .int .i64 a, .int .i64 d] h (stepV g a d) := by
  have o1 := s.one
  have h1 := k.w1; have h2 := k.w5; have h3 := k.r1; have h4 := k.r5; have h5 := k.rows
  have hsm := k.small
  obtain ⟨n, rfl⟩ : ∃ n : Nat, d = n := ⟨d.toNat, by omega⟩
  have q0 := Int.ediv_nonneg ha.1 (show 0 ≤ g.wide by omega)
  have q1 := Int.ediv_le_self g.wide ha.1
  have q2 := Int.emod_nonneg a (show g.wide ≠ 0 by omega)
  have q3 := Int.emod_lt_of_pos a (show 0 < g.wide by omega)
  have key : ∀ dr dc : Int, gt ([-1, 0, 1, 0] : List Int) n = dr → gt ([0, 1, 0, -1] : List Int) n = dc → nextAt g a (n : Int) = if (0 ≤ a / g.wide + dr ∧ a / g.wide + dr ≤ rowsOf g - 1) ∧ 0 ≤ a % g.wide + dc ∧ a % g.wide + dc ≤ g.wide - 1 then some ((a / g.wide + dr) * g.wide + (a % g.wide + dc)) else none := by
    intro dr dc e1 e2
    have hn : n = 0 ∨ n = 1 ∨ n = 2 ∨ n = 3 := by omega
    refine next_rc k ha.1 ha.2 dr dc ?_
    rcases hn with rfl | rfl | rfl | rfl <;> subst e1 e2 <;> simp [gt]
  have b1 : -1 ≤ gt ([-1, 0, 1, 0] : List Int) n ∧ gt ([-1, 0, 1, 0] : List Int) n ≤ 1 := by
    have hn : n = 0 ∨ n = 1 ∨ n = 2 ∨ n = 3 := by omega
    rcases hn with rfl | rfl | rfl | rfl <;> simp [gt]
  have b2 : -1 ≤ gt ([0, 1, 0, -1] : List Int) n ∧ gt ([0, 1, 0, -1] : List Int) n ≤ 1 := by
    have hn : n = 0 ∨ n = 1 ∨ n = 2 ∨ n = 3 := by omega
    rcases hn with rfl | rfl | rfl | rfl <;> simp [gt]
  refine calls_of_sf Tryz.func236 rfl Tryz.ntmps236 ?_
  simp only [argsL, Nat.reduceAdd]
  repeat (first | refine R1 ?_ | (refine R2 ?_; intro _))
  generalize hX : ([-1, 0, 1, 0] : List Int) = xs at *
  generalize hY : ([0, 1, 0, -1] : List Int) = ys at *
  have lx : xs.length = 4 := by rw [← hX]; rfl
  have ly : ys.length = 4 := by rw [← hY]; rfl
  refine sf_draw (by kernel_rfl) (regX_run [[], [], [1], [0, 1, 2], [], [], [4, 5], [4, 5, 6], [0, 1, 2, 3, 4, 5, 6, 7], [0, 1, 2, 3, 4, 5, 6, 7, 8]] 8 [(0, false), (1, false), (2, false), (3, false), (5, false), (4, true), (6, false), (7, true)] (by kernel_rfl) (by kernel_rfl) (by kernel_rfl) ?_)
  repeat (refine Da1 ?_)
  refine a_bs (by rfl) (by rfl) (by infer_instance) (by infer_instance) (by infer_instance) (by infer_instance) (by rfl) (by rfl) (by rfl) (by decide) (.inl rfl) fun w Aw gw => ?_
  rw [hX] at gw
  repeat (refine Da1 ?_)
  refine a_qw (by rfl) (.inl rfl) (z_loadG (by rfl) gw (by omega) (by rfl)) ?_
  repeat (refine Da1 ?_)
  (refine a_end (by rfl) (by rfl) ?_; simp only [finA, setL, List.drop_succ_cons, List.drop_zero])
  repeat (first | refine R1 ?_ | (refine R2 ?_; intro _))
  refine sf_draw (by kernel_rfl) (regX_run [[], [], [1], [0, 1, 2], [], [], [4, 5], [4, 5, 6], [0, 1, 2, 3, 4, 5, 6, 7], [0, 1, 2, 3, 4, 5, 6, 7, 8]] 8 [(0, false), (1, false), (2, false), (3, false), (5, false), (4, true), (6, false), (7, true)] (by kernel_rfl) (by kernel_rfl) (by kernel_rfl) ?_)
  repeat (refine Da1 ?_)
  refine a_bs (by rfl) (by rfl) (by infer_instance) (by infer_instance) (by infer_instance) (by infer_instance) (by rfl) (by rfl) (by rfl) (by decide) (.inl rfl) fun u Au gu => ?_
  rw [hY] at gu
  repeat (refine Da1 ?_)
  refine a_qw (by rfl) (.inl rfl) (z_loadG (by rfl) gu (by omega) (by rfl)) ?_
  repeat (refine Da1 ?_)
  (refine a_end (by rfl) (by rfl) ?_; simp only [finA, setL, List.drop_succ_cons, List.drop_zero])
  have key' := key _ _ rfl rfl
  clear key
  repeat (first | refine R1 ?_ | (refine R2 ?_; intro _))
  refine fp (y_callV (l1High_v h c g s h1) (by rfl) ?_)
  repeat (first | refine R1 ?_ | (refine R2 ?_; intro _))
  refine fp (y_callV (l6In_v _ _ _ _) (by rfl) ?_)
  repeat (first | refine R1 ?_ | (refine R2 ?_; intro _))
  refine f_splitB (fun e1 => ?_) fun e1 => ?_
  · repeat (first | refine R1 ?_ | (refine R2 ?_; intro _))
    refine sf_T rfl ?_
    repeat (first | refine R1 ?_ | (refine R2 ?_; intro _))
    refine sf_ret (rV ?_)
    rw [stepV, key', if_neg (by simp at e1; omega)]
  · repeat (first | refine R1 ?_ | (refine R2 ?_; intro _))
    refine fp (y_callV (l6In_v _ _ _ _) (by rfl) ?_)
    repeat (first | refine R1 ?_ | (refine R2 ?_; intro _))
    refine sf_cond (by rfl) (fun e2 => ?_) fun e2 => ?_
    · repeat (first | refine R1 ?_ | (refine R2 ?_; intro _))
      refine sf_ret (rV ?_)
      rw [stepV, key', if_neg (by simp at e2; omega)]
    · have f1 : 0 ≤ a / g.wide + gt xs n ∧ a / g.wide + gt xs n ≤ rowsOf g - 1 := by simp at e1; omega
      have f2 : 0 ≤ a % g.wide + gt ys n ∧ a % g.wide + gt ys n ≤ g.wide - 1 := by simp at e2; omega
      have f3 : 0 ≤ (a / g.wide + gt xs n) * g.wide ∧ (a / g.wide + gt xs n) * g.wide ≤ 5 * 5 := ⟨Int.mul_nonneg (by omega) (by omega), Int.mul_le_mul (by omega) (by omega) (by omega) (by omega)⟩
      repeat (first | refine R1 ?_ | (refine R2 ?_; intro _))
      refine sf_ret (rV ?_)
      rw [stepV, key', if_pos ⟨f1, f2⟩]
theorem l3Ray_v (h : PHeap) (c : Value) (g : Grid) (s : Sl h c cellF g.cells) {R : Int} (k : Gok g R) (j : Int) (h0 : 0 ≤ j) (hm : j < manyOf g) : CallV Tryz.prog M 183 [.agg #[.int .i64 g.wide, c], .int .i64 j] h (.agg #[.int .i64 (rayAt g j).at', .int .i64 (rayAt g j).dir]) := by
  have o1 := s.one
  have h1 := k.w1; have h2 := k.w5; have h3 := k.r1; have h4 := k.r5; have h5 := k.rows
  have hsm := k.small
  unfold manyOf at hm
  refine calls_of_sf Tryz.func183 rfl Tryz.ntmps183 ?_
  simp only [argsL, Nat.reduceAdd]
  repeat (first | refine R1 ?_ | (refine R2 ?_; intro _))
  refine fp (y_callV (l1High_v h c g s h1) (by rfl) ?_)
  repeat (first | refine R1 ?_ | (refine R2 ?_; intro _))
  refine sf_if (fun e1 => ?_) fun e1 => ?_
  · repeat (first | refine R1 ?_ | (refine R2 ?_; intro _))
    refine sf_ret (rV ?_)
    rw [rayAt, if_pos e1]
  repeat (first | refine R1 ?_ | (refine R2 ?_; intro _))
  refine sf_if (fun e2 => ?_) fun e2 => ?_
  · have f3 : 0 ≤ (j - g.wide) * g.wide ∧ (j - g.wide) * g.wide ≤ 5 * 5 := ⟨Int.mul_nonneg (by omega) (by omega), Int.mul_le_mul (by omega) (by omega) (by omega) (by omega)⟩
    repeat (first | refine R1 ?_ | (refine R2 ?_; intro _))
    refine sf_ret (rV ?_)
    rw [rayAt, if_neg e1, if_pos e2]
  repeat (first | refine R1 ?_ | (refine R2 ?_; intro _))
  refine sf_if (fun e3 => ?_) fun e3 => ?_
  · repeat (first | refine R1 ?_ | (refine R2 ?_; intro _))
    refine sf_ret (rV ?_)
    rw [rayAt, if_neg e1, if_neg e2, if_pos e3]
  have f3 : 0 ≤ (j - g.wide - rowsOf g - g.wide) * g.wide ∧ (j - g.wide - rowsOf g - g.wide) * g.wide ≤ 5 * 5 := ⟨Int.mul_nonneg (by omega) (by omega), Int.mul_le_mul (by omega) (by omega) (by omega) (by omega)⟩
  repeat (first | refine R1 ?_ | (refine R2 ?_; intro _))
  refine sf_ret (rV ?_)
  rw [rayAt, if_neg e1, if_neg e2, if_neg e3]
  simp only [show (g.cells.length : Int) - 1 - g.wide + 1 - (j - g.wide - rowsOf g - g.wide) * g.wide = g.cells.length - g.wide - (j - g.wide - rowsOf g - g.wide) * g.wide by omega]
theorem l3Of_v (h : PHeap) (c : Value) (g : Grid) (s : Sl h c cellF g.cells) {R : Int} (k : Gok g R) (a d : Int) (hd : 0 ≤ d ∧ d ≤ 3) : CallV Tryz.prog M 237 [.agg #[.int .i64 g.wide, c], .int .i64 a, .int .i64 d] h (.int .i64 (sightOf g a d)) := by
  have o1 := s.one
  have hmm := k.many
  obtain ⟨N, hN⟩ : ∃ N : Nat, manyOf g = N := ⟨(manyOf g).toNat, by omega⟩
  refine calls_of_sf Tryz.func237 rfl Tryz.ntmps237 ?_
  simp only [argsL, Nat.reduceAdd]
  repeat (first | refine R1 ?_ | (refine R2 ?_; intro _))
  refine sf_rd [1, 2, 3] 7 N 0 (fun j => ∀ i : Int, 0 ≤ i → i < j → rayAt g i ≠ ⟨a, (d + 2) % 4⟩) (by omega) (fun i _ _ => by omega) (fun j hj hi => ?_)
  repeat (first | refine R1 ?_ | (refine R2 ?_; intro _))
  refine fp (y_callV (l3Many_v h c g s k) (by rfl) ?_)
  rw [hN]
  repeat (first | refine R1 ?_ | (refine R2 ?_; intro _))
  refine sf_if (fun h4 => ?_) fun h4 => ?_
  · obtain ⟨⟨r0, r1⟩, r2, r3⟩ := rayAt_ok k (j := (j : Int)) (by omega) (by omega)
    repeat (first | refine R1 ?_ | (refine R2 ?_; intro _))
    refine fp (y_callV (l3Ray_v h c g s k (j : Int) (by omega) (by omega)) (by rfl) ?_)
    repeat (first | refine R1 ?_ | (refine R2 ?_; intro _))
    refine f_split (fun e1 => ?_) fun e1 => ?_
    · repeat (first | refine R1 ?_ | (refine R2 ?_; intro _))
      refine fp (y_callV (l2Back_v _ _ r2 r3) (by rfl) ?_)
      repeat (first | refine R1 ?_ | (refine R2 ?_; intro _))
      refine sf_if (fun e2 => ?_) fun e2 => ?_
      · repeat (first | refine R1 ?_ | (refine R2 ?_; intro _))
        refine sf_ret (rV ?_)
        rw [sightOf_some k (i := (j : Int)) (by omega) (by omega) (ray_eq e1 (by omega))]
      · repeat (first | refine R1 ?_ | (refine R2 ?_; intro _))
        refine ⟨⟨by omega, fun i i0 i1 => ?_⟩, rfl, rfl, _, inferInstance⟩
        rcases Int.lt_or_le i j with h | h
        · exact hi i i0 h
        · obtain rfl : i = j := by omega
          intro e; rw [e] at e2; simp only at e2; omega
    · repeat (first | refine R1 ?_ | (refine R2 ?_; intro _))
      refine sf_N rfl ?_
      repeat (first | refine R1 ?_ | (refine R2 ?_; intro _))
      refine ⟨⟨by omega, fun i i0 i1 => ?_⟩, rfl, rfl, _, inferInstance⟩
      rcases Int.lt_or_le i j with h | h
      · exact hi i i0 h
      · obtain rfl : i = j := by omega
        intro e; rw [e] at e1; exact e1 rfl
  · refine sf_exit ?_
    repeat (first | refine R1 ?_ | (refine R2 ?_; intro _))
    refine sf_ret (rV ?_)
    rw [sightOf_none fun i i0 i1 => hi i i0 (by omega)]

/-! ### the walk of light -/
theorem sEnd_f (h : PHeap) (b : Nat) (w c vv ev : Value) (ow : Sl.One w) (oc : Sl.One c) (ov : Sl.One vv) (AE : Own) (es : List LEnd) (gr : Gr AE ev 224 endF es) (hl : es.length ≤ 200000) (kind a n : Int) :
    CallF Tryz.prog M 212 [.pointer (some ⟨b, 0, none⟩), .int .i64 kind, .int .i64 a, .int .i64 n] ((b, .cells #[w, c, vv, ev] 185) :: AE) h fun _ A => ∃ ev' AE', A = (b, .cells #[w, c, vv, ev'] 185) :: AE' ∧ Gr AE' ev' 224 endF (es ++ endIf kind a n) := by
  have o1 := gr.one
  refine calls_of_sf Tryz.func212 rfl Tryz.ntmps212 ?_
  simp only [argsL, Nat.reduceAdd]
  repeat (first | refine R1 ?_ | (refine R2 ?_; intro _))
  refine sf_if (fun e => ?_) fun e => ?_
  · repeat (first | refine R1 ?_ | (refine R2 ?_; intro _))
    refine fp (y_bs (by rfl) (by rfl) (by rfl) (by rfl) (by decide) fun u Au gu => ?_)
    repeat (first | refine R1 ?_ | (refine R2 ?_; intro _))
    refine fp (y_append (by rfl) (by rfl) gr gu (fun y _ => FlatOne.one y) (by rfl) (by rfl) (by simp; omega) (by simp; omega) fun ev2 A2 g2 => ?_)
    have o2 := g2.one
    repeat (first | refine R1 ?_ | (refine R2 ?_; intro _))
    exact nO ((b, .cells #[w, c, vv, ev2] 185) :: A2) ⟨ev2, A2, rfl, by rw [endIf, if_pos e]; exact g2⟩
  · repeat (first | refine R1 ?_ | (refine R2 ?_; intro _))
    exact nO ((b, .cells #[w, c, vv, ev] 185) :: AE) ⟨ev, AE, rfl, by rw [endIf, if_neg e, List.append_nil]; exact gr⟩
/-- A walker that has come so far. -/
def WalkO (b : Nat) (g : Grid) (c : Value) (A : Own) (V : List Visit) (E : List LEnd) : Prop := ∃ vv ev AV AE, A = (b, .cells #[.int .i64 g.wide, c, vv, ev] 185) :: (AV ++ AE) ∧ Gr AV vv 257 visitF V ∧ Gr AE ev 224 endF E
/-- What a call does that lets light go on. -/
def GoesOn (M : Jdg → Prop) (h : PHeap) (b : Nat) (g : Grid) (c : Value) (f : FuncId) (a d w : Int) (r : Sl.Lit) : Prop :=
  ∀ (A : Own) (V : List Visit) (E : List LEnd), WalkO b g c A V E → V.length + r.1 ≤ 50000 → E.length + 2 * r.1 ≤ 100000 →
    CallF Tryz.prog M f [.pointer (some ⟨b, 0, none⟩), .int .i64 a, .int .i64 d, .int .i64 w] A h fun _ A' => WalkO b g c A' (V ++ r.2.1) (E ++ r.2.2)
theorem sLeave_f (h : PHeap) (b : Nat) (c : Value) (g : Grid) (s : Sl h c cellF g.cells) {R : Int} (k : Gok g R) (n : Nat) (a d w : Int) (ha : 0 ≤ a ∧ a < g.cells.length) (hd : 0 ≤ d ∧ d ≤ 3) (hw : 1 ≤ w ∧ w ≤ 64) (r : Sl.Lit) (hr : leaveF g (comeF g n) a d w = some r)
    (ih : ∀ (a d w : Int) (r : Sl.Lit), (0 ≤ a ∧ a < g.cells.length) → (0 ≤ d ∧ d ≤ 3) → (1 ≤ w ∧ w ≤ 64) → comeF g n a d w = some r → GoesOn M h b g c 184 a d w r) : GoesOn M h b g c 215 a d w r := by
  rintro A V E ⟨vv, ev, AV, AE, rfl, gv, ge⟩ hV hE
  have o1 := s.one
  have o2 := gv.one
  have o3 := ge.one
  have hsm := k.small
  unfold leaveF at hr
  rw [if_neg (by omega)] at hr
  refine calls_of_sf Tryz.func215 rfl Tryz.ntmps215 ?_
  simp only [argsL, Nat.reduceAdd]
  repeat (first | refine R1 ?_ | (refine R2 ?_; intro _))
  refine fp (y_callV (l2Next_v h c g s k a d ha hd) (by rfl) ?_)
  unfold stepV
  cases en : nextAt g a d with
  | some b2 =>
    rw [en] at hr
    simp only at hr ⊢
    repeat (first | refine R1 ?_ | (refine R2 ?_; intro _))
    refine sf_T rfl ?_
    repeat (first | refine R1 ?_ | (refine R2 ?_; intro _))
    refine fp (y_call (ih b2 d w r (nextAt_ok k ha.1 ha.2 en) hd hw hr _ V E ⟨vv, ev, AV, AE, rfl, gv, ge⟩ hV hE) (by rfl) ?_)
    rintro _ A2 q
    repeat (first | refine R1 ?_ | (refine R2 ?_; intro _))
    exact sf_ret (rO A2 q)
  | none =>
    rw [en] at hr
    simp only [Option.some.injEq] at hr ⊢
    subst hr
    repeat (first | refine R1 ?_ | (refine R2 ?_; intro _))
    refine sf_N rfl ?_
    repeat (first | refine R1 ?_ | (refine R2 ?_; intro _))
    refine fp (y_callV (l3Of_v h c g s k a d hd) (by rfl) ?_)
    repeat (first | refine R1 ?_ | (refine R2 ?_; intro _))
    refine fp (y_call (sEnd_f h b (.int .i64 g.wide) c vv ev inferInstance o1 o2 AE E ge (by simp only at hE; omega) 0 (sightOf g a d) w) (by rfl) ?_)
    rintro _ _ ⟨ev2, AE2, rfl, ge2⟩
    rw [endIf, if_pos (by omega)] at ge2
    repeat (first | refine R1 ?_ | (refine R2 ?_; intro _))
    exact nO ((b, .cells #[.int .i64 g.wide, c, vv, ev2] 185) :: (AV ++ AE2)) ⟨vv, ev2, AV, AE2, rfl, by simpa using gv, ge2⟩
theorem sHalf_f (h : PHeap) (b : Nat) (c : Value) (g : Grid) (s : Sl h c cellF g.cells) {R : Int} (k : Gok g R) (n : Nat) (a d w : Int) (ha : 0 ≤ a ∧ a < g.cells.length) (hd : 0 ≤ d ∧ d ≤ 3) (hw : 0 ≤ w ∧ w ≤ 64) (r : Sl.Lit) (hr : leaveF g (comeF g n) a d w = some r)
    (ih : ∀ (a d w : Int) (r : Sl.Lit), (0 ≤ a ∧ a < g.cells.length) → (0 ≤ d ∧ d ≤ 3) → (1 ≤ w ∧ w ≤ 64) → comeF g n a d w = some r → GoesOn M h b g c 184 a d w r) : GoesOn M h b g c 213 a d w r := by
  intro A V E hA hV hE
  refine calls_of_sf Tryz.func213 rfl Tryz.ntmps213 ?_
  simp only [argsL, Nat.reduceAdd]
  repeat (first | refine R1 ?_ | (refine R2 ?_; intro _))
  refine sf_if (fun e => ?_) fun e => ?_
  · repeat (first | refine R1 ?_ | (refine R2 ?_; intro _))
    refine fp (y_call (sLeave_f h b c g s k n a d w ha hd ⟨by omega, hw.2⟩ r hr ih A V E hA hV hE) (by rfl) ?_)
    rintro _ A2 q
    repeat (first | refine R1 ?_ | (refine R2 ?_; intro _))
    exact nO A2 q
  · obtain rfl : w = 0 := by omega
    cases hr
    repeat (first | refine R1 ?_ | (refine R2 ?_; intro _))
    exact nO A (by simpa using hA)
theorem lenOf_come {g : Grid} {R : Int} (k : Gok g R) {n : Nat} {a d w : Int} (ha : 0 ≤ a ∧ a < g.cells.length) (hd : 0 ≤ d ∧ d ≤ 3) (hw : w ≤ 64 ∧ 0 ≤ w) {n1 : Nat} {v1 : List Visit} {e1 : List LEnd} (h : leaveF g (comeF g n) a d w = some (n1, v1, e1)) : v1.length ≤ n1 ∧ e1.length ≤ 2 * n1 := by
  unfold leaveF at h
  split at h
  · cases h; simp
  · split at h
    · cases h; simp
    · rename_i b hn
      have hb := nextAt_ok k ha.1 ha.2 hn
      have := comeF_ok k _ _ _ _ _ hb.1 hb.2 hd.1 hd.2 (by omega) h
      exact ⟨this.lv, this.le⟩
theorem sCome_f (h : PHeap) (b : Nat) (c : Value) (g : Grid) (s : Sl h c cellF g.cells) {R : Int} (k : Gok g R) : ∀ (n : Nat) (a d w : Int) (r : Sl.Lit), (0 ≤ a ∧ a < g.cells.length) → (0 ≤ d ∧ d ≤ 3) → (1 ≤ w ∧ w ≤ 64) → comeF g n a d w = some r → GoesOn M h b g c 184 a d w r
  | 0, _, _, _, _, _, _, _, hr => by cases hr
  | n + 1, a, d, w, r, ha, hd, hw, hr => by
    obtain ⟨n1, v1, e1, n2, v2, e2, q1, q2, rfl⟩ := comeF_inv hr
    have ih := sCome_f h b c g s k n
    rintro A V E ⟨vv, ev, AV, AE, rfl, gv, ge⟩ hV hE
    have o1 := s.one
    have o2 := gv.one
    have o3 := ge.one
    have hsm := k.small
    have hkd := k.kind ha.1 ha.2
    have hdt := dirTurn_ok (kind := (gt g.cells a.toNat).kind) hd.1 hd.2
    have hsp := spread_le (kind := (gt g.cells a.toNat).kind) hw.1
    obtain ⟨a, rfl⟩ : ∃ a' : Nat, a = a' := ⟨a.toNat, by omega⟩
    simp only at hV hE
    have hh : w / 2 ≤ 64 ∧ 0 ≤ w / 2 := by omega
    have zr : ∀ {x : Int} {r : Sl.Lit}, leaveF g (comeF g n) a x 0 = some r → r = (1, [], []) := fun e => by cases e; rfl
    refine calls_of_sf Tryz.func184 rfl Tryz.ntmps184 ?_
    simp only [argsL, Nat.reduceAdd]
    repeat (first | refine R1 ?_ | (refine R2 ?_; intro _))
    refine sf_if (fun e0 => ?_) fun e0 => ?_
    · omega
    repeat (first | refine R1 ?_ | (refine R2 ?_; intro _))
    refine fp (y_bs (by rfl) (by rfl) (by rfl) (by rfl) (by decide) fun u Au gu => ?_)
    repeat (first | refine R1 ?_ | (refine R2 ?_; intro _))
    refine fp (y_append (by rfl) (by rfl) gv gu (fun y _ => FlatOne.one y) (by rfl) (by rfl) (by simp; omega) (by simp; omega) fun vv2 AV2 gv2 => ?_)
    have o4 := gv2.one
    repeat (first | refine R1 ?_ | (refine R2 ?_; intro _))
    simp only [Int.toNat_natCast] at hkd hdt hsp q1 q2
    generalize hkk : (gt g.cells a).kind = kd at *
    have hH : hereF g (a : Int) w = endIf (if kd = 7 then 2 else 1) a (spread kd w).stop ++ endIf 3 a (spread kd w).lost := by subst hkk; unfold hereF; simp only [Int.toNat_natCast]
    rw [hH]
    clear hr hH
    refine sf_if (fun k1 => ?_) fun k1 => ?_
    · subst k1
      have z1 := zr q1
      have z2 := zr q2
      simp only [Prod.mk.injEq] at z1 z2
      obtain ⟨rfl, rfl, rfl⟩ := z1
      obtain ⟨rfl, rfl, rfl⟩ := z2
      repeat (first | refine R1 ?_ | (refine R2 ?_; intro _))
      refine fp (y_call (sEnd_f h b (.int .i64 g.wide) c vv2 ev inferInstance o1 o4 AE E ge (by omega) 1 a w) (by rfl) ?_)
      rintro _ _ ⟨ev2, AE2, rfl, ge2⟩
      repeat (first | refine R1 ?_ | (refine R2 ?_; intro _))
      exact nO ((b, .cells #[.int .i64 g.wide, c, vv2, ev2] 185) :: (AV2 ++ AE2)) ⟨vv2, ev2, AV2, AE2, rfl, by simpa using gv2, by simpa [spread, endIf] using ge2⟩
    repeat (first | refine R1 ?_ | (refine R2 ?_; intro _))
    refine sf_if (fun k7 => ?_) fun k7 => ?_
    · subst k7
      have z1 := zr q1
      have z2 := zr q2
      simp only [Prod.mk.injEq] at z1 z2
      obtain ⟨rfl, rfl, rfl⟩ := z1
      obtain ⟨rfl, rfl, rfl⟩ := z2
      repeat (first | refine R1 ?_ | (refine R2 ?_; intro _))
      refine fp (y_call (sEnd_f h b (.int .i64 g.wide) c vv2 ev inferInstance o1 o4 AE E ge (by omega) 2 a w) (by rfl) ?_)
      rintro _ _ ⟨ev2, AE2, rfl, ge2⟩
      repeat (first | refine R1 ?_ | (refine R2 ?_; intro _))
      exact nO ((b, .cells #[.int .i64 g.wide, c, vv2, ev2] 185) :: (AV2 ++ AE2)) ⟨vv2, ev2, AV2, AE2, rfl, by simpa using gv2, by simpa [spread, endIf] using ge2⟩
    repeat (first | refine R1 ?_ | (refine R2 ?_; intro _))
    refine sf_if (fun k6 => ?_) fun k6 => ?_
    · subst k6
      have z2 := zr q2
      simp only [Prod.mk.injEq] at z2
      obtain ⟨rfl, rfl, rfl⟩ := z2
      repeat (first | refine R1 ?_ | (refine R2 ?_; intro _))
      refine fp (y_call (sEnd_f h b (.int .i64 g.wide) c vv2 ev inferInstance o1 o4 AE E ge (by omega) 3 a (w - w / 2)) (by rfl) ?_)
      rintro _ _ ⟨ev2, AE2, rfl, ge2⟩
      have hel := endIf_len 3 a (w - w / 2)
      repeat (first | refine R1 ?_ | (refine R2 ?_; intro _))
      refine fp (y_call (sHalf_f h b c g s k n a d (w / 2) ha hd ⟨hh.2, hh.1⟩ _ q1 ih _ _ _ ⟨vv2, ev2, AV2, AE2, rfl, gv2, ge2⟩ (by simp; omega) (by simp only [List.length_append]; omega)) (by rfl) ?_)
      rintro _ A3 q
      repeat (first | refine R1 ?_ | (refine R2 ?_; intro _))
      exact nO A3 (by simpa [spread, endIf] using q)
    repeat (first | refine R1 ?_ | (refine R2 ?_; intro _))
    by_cases k45 : kd = 4 ∨ kd = 5
    · have es : spread kd w = ⟨w / 2, w / 2, w - w / 2 - w / 2, 0⟩ := by unfold spread; rw [if_neg (by omega), if_neg (by omega), if_pos k45]
      have k7' : kd ≠ 7 := by omega
      simp only [es] at q1 q2 ⊢
      have ew : w - 2 * (w / 2) = w - w / 2 - w / 2 := by omega
      refine sf_if (fun k4 => ?_) fun k4 => ?_
      · repeat (first | refine R1 ?_ | (refine R2 ?_; intro _))
        refine sf_if (fun _ => ?_) fun e => absurd k4 e
        repeat (first | refine R1 ?_ | (refine R2 ?_; intro _))
        rw [ew]
        refine fp (y_call (sEnd_f h b (.int .i64 g.wide) c vv2 ev inferInstance o1 o4 AE E ge (by omega) 3 a (w - w / 2 - w / 2)) (by rfl) ?_)
        rintro _ _ ⟨ev2, AE2, rfl, ge2⟩
        have hel := endIf_len 3 a (w - w / 2 - w / 2)
        repeat (first | refine R1 ?_ | (refine R2 ?_; intro _))
        refine fp (y_call (sHalf_f h b c g s k n a d (w / 2) ha hd ⟨hh.2, hh.1⟩ _ q1 ih _ _ _ ⟨vv2, ev2, AV2, AE2, rfl, gv2, ge2⟩ (by simp; omega) (by simp only [List.length_append]; omega)) (by rfl) ?_)
        rintro _ A3 q
        repeat (first | refine R1 ?_ | (refine R2 ?_; intro _))
        refine fp (y_callV (sDirTurn_v h kd d hd) (by rfl) ?_)
        repeat (first | refine R1 ?_ | (refine R2 ?_; intro _))
        have l1 := lenOf_come k ha hd hh q1
        refine fp (y_call (sHalf_f h b c g s k n a (dirTurn kd d) (w / 2) ha hdt ⟨hh.2, hh.1⟩ _ q2 ih _ _ _ q (by simp only [List.length_append, List.length_cons, List.length_nil]; omega) (by simp only [List.length_append]; omega)) (by rfl) ?_)
        rintro _ A4 q'
        repeat (first | refine R1 ?_ | (refine R2 ?_; intro _))
        exact nO A4 (by simpa [k7', endIf] using q')
      · repeat (first | refine R1 ?_ | (refine R2 ?_; intro _))
        have k5 : kd = 5 := by omega
        refine sf_if (fun _ => ?_) fun e => absurd k5 e
        repeat (first | refine R1 ?_ | (refine R2 ?_; intro _))
        rw [ew]
        refine fp (y_call (sEnd_f h b (.int .i64 g.wide) c vv2 ev inferInstance o1 o4 AE E ge (by omega) 3 a (w - w / 2 - w / 2)) (by rfl) ?_)
        rintro _ _ ⟨ev2, AE2, rfl, ge2⟩
        have hel := endIf_len 3 a (w - w / 2 - w / 2)
        repeat (first | refine R1 ?_ | (refine R2 ?_; intro _))
        refine fp (y_call (sHalf_f h b c g s k n a d (w / 2) ha hd ⟨hh.2, hh.1⟩ _ q1 ih _ _ _ ⟨vv2, ev2, AV2, AE2, rfl, gv2, ge2⟩ (by simp; omega) (by simp only [List.length_append]; omega)) (by rfl) ?_)
        rintro _ A3 q
        repeat (first | refine R1 ?_ | (refine R2 ?_; intro _))
        refine fp (y_callV (sDirTurn_v h kd d hd) (by rfl) ?_)
        repeat (first | refine R1 ?_ | (refine R2 ?_; intro _))
        have l1 := lenOf_come k ha hd hh q1
        refine fp (y_call (sHalf_f h b c g s k n a (dirTurn kd d) (w / 2) ha hdt ⟨hh.2, hh.1⟩ _ q2 ih _ _ _ q (by simp only [List.length_append, List.length_cons, List.length_nil]; omega) (by simp only [List.length_append]; omega)) (by rfl) ?_)
        rintro _ A4 q'
        repeat (first | refine R1 ?_ | (refine R2 ?_; intro _))
        exact nO A4 (by simpa [k7', endIf] using q')
    · have k7' : kd ≠ 7 := k7
      have k4 : ¬ kd = 4 := by omega
      have k5 : ¬ kd = 5 := by omega
      refine sf_if (fun e => absurd e k4) fun _ => ?_
      repeat (first | refine R1 ?_ | (refine R2 ?_; intro _))
      refine sf_if (fun e => absurd e k5) fun _ => ?_
      repeat (first | refine R1 ?_ | (refine R2 ?_; intro _))
      refine fp (y_callV (sDirTurn_v h kd d hd) (by rfl) ?_)
      repeat (first | refine R1 ?_ | (refine R2 ?_; intro _))
      have k023 : kd = 0 ∨ (kd = 2 ∨ kd = 3) := by omega
      rcases k023 with k0 | k23
      · have es : spread kd w = ⟨w, 0, 0, 0⟩ := by unfold spread; rw [if_pos k0]
        simp only [es] at q1 q2 ⊢
        have z2 := zr q2
        simp only [Prod.mk.injEq] at z2
        obtain ⟨rfl, rfl, rfl⟩ := z2
        rw [show dirTurn kd d = d by rw [k0]; rfl]
        refine fp (y_call (sLeave_f h b c g s k n a d w ha hd hw _ q1 ih _ _ _ ⟨vv2, ev, AV2, AE, rfl, gv2, ge⟩ (by simp; omega) (by omega)) (by rfl) ?_)
        rintro _ A3 q
        repeat (first | refine R1 ?_ | (refine R2 ?_; intro _))
        exact nO A3 (by simpa [k7', endIf] using q)
      · have es : spread kd w = ⟨0, w, 0, 0⟩ := by unfold spread; rw [if_neg (by omega), if_pos k23]
        simp only [es] at q1 q2 ⊢
        have z1 := zr q1
        simp only [Prod.mk.injEq] at z1
        obtain ⟨rfl, rfl, rfl⟩ := z1
        refine fp (y_call (sLeave_f h b c g s k n a (dirTurn kd d) w ha hdt hw _ q2 ih _ _ _ ⟨vv2, ev, AV2, AE, rfl, gv2, ge⟩ (by simp; omega) (by omega)) (by rfl) ?_)
        rintro _ A3 q
        repeat (first | refine R1 ?_ | (refine R2 ?_; intro _))
        exact nO A3 (by simpa [k7', endIf] using q)
end Go.Proofs.YtekjikbaefgncaaGreatDoor

/- Walks: light and pictures: the reference's. -/
namespace Go.Proofs.YtekjikbaefgncaaGreatDoor
open Go Go.Sl
set_option maxRecDepth 100000
set_option maxHeartbeats 4000000
attribute [local irreducible] Go.Code.sf sfOps Opq opo retF Do1 anyO
variable {M : Jdg → Prop} [IsCl Tryz.prog M]

theorem l11Go_f (h : PHeap) (c : Value) (g : Grid) (s : Sl h c cellF g.cells) {R : Int} (k : Gok g R) (j : Int) (hj : 0 ≤ j ∧ j < manyOf g) : CallF Tryz.prog M 133 [.agg #[.int .i64 g.wide, c], .int .i64 j] [] h fun v A => ∃ b, v = .pointer (some ⟨b, 0, none⟩) ∧ WalkO b g c A (goLight g j).1 (goLight g j).2 := by
  have o1 := s.one
  obtain ⟨sz, v, es, hc, hg, hsz, hok⟩ := goLight_is k hj.1 hj.2
  rw [hg]
  obtain ⟨hra, hrd⟩ := rayAt_ok k hj.1 hj.2
  refine calls_of_sf Tryz.func133 rfl Tryz.ntmps133 ?_
  simp only [argsL, Nat.reduceAdd]
  repeat (first | refine R1 ?_ | (refine R2 ?_; intro _))
  refine fp (y_bs (by rfl) (by rfl) (by rfl) (by rfl) (by decide) fun vv AV gv => ?_)
  have ov := gv.one
  repeat (first | refine R1 ?_ | (refine R2 ?_; intro _))
  refine fp (y_bs (by rfl) (by rfl) (by rfl) (by rfl) (by decide) fun ev AE ge => ?_)
  have oe := ge.one
  repeat (first | refine R1 ?_ | (refine R2 ?_; intro _))
  refine fp (y_callV (l3Ray_v h c g s k j hj.1 hj.2) (by rfl) ?_)
  repeat (first | refine R1 ?_ | (refine R2 ?_; intro _))
  rename_i b2 b5 b6
  refine fp (y_call (sCome_f h b5 c g s k 6600 _ _ 64 (sz, v, es) hra hrd ⟨by decide, by decide⟩ hc ((b5, .cells #[.int .i64 g.wide, c, vv, ev] 185) :: (AV ++ AE)) [] [] ⟨vv, ev, AV, AE, rfl, gv, ge⟩ (by simp only [List.length_nil]; omega) (by simp only [List.length_nil]; omega)) (by rfl) ?_)
  rintro _ A2 q
  repeat (first | refine R1 ?_ | (refine R2 ?_; intro _))
  exact sf_ret (rO A2 ⟨b5, rfl, by simpa using q⟩)
theorem l11Light_v (h : PHeap) (c : Value) (g : Grid) (s : Sl h c cellF g.cells) {R : Int} (kg : Gok g R) (ev : Value) (es : List LEnd) (sl : Sl h ev endF es) (hes : ∀ e ∈ es, EndOk g 64 e) (hle : es.length ≤ 100000) : CallV Tryz.prog M 132 [.agg #[.int .i64 g.wide, c], ev] h (.int .i64 (lightOf g es)) := by
  have o1 := s.one
  have o2 := sl.one
  refine calls_of_sf Tryz.func132 rfl Tryz.ntmps132 ?_
  simp only [argsL, Nat.reduceAdd]
  repeat (first | refine R1 ?_ | (refine R2 ?_; intro _))
  rename_i b2
  refine sf_lp (ι := Nat) [1, 2] (fun k => [(5, .int .i64 (sumF (endLight g) (es.take k))), (6, .int .i64 (k : Int))]) (fun k O => k ≤ es.length ∧ O = [(b2, .cells #[.int .i64 g.wide, c] 34)]) (fun k => es.length - k) 0 [(b2, .cells #[.int .i64 g.wide, c] 34)] ⟨by omega, rfl⟩ ?_
  rintro j O ⟨hj, rfl⟩
  have hsum := lightOf_bd kg hes j hle
  repeat (first | refine R1 ?_ | (refine R2 ?_; intro _))
  refine sf_if (fun e1 => ?_) fun e1 => ?_
  · have hj1 : j < es.length := by omega
    have ek := hes (gt es j) (by rw [gt_eq hj1]; exact List.getElem_mem _)
    have hst := sumF_step (f := endLight g) hj1
    have hbd := endLight_bd kg ek
    repeat (first | refine R1 ?_ | (refine R2 ?_; intro _))
    refine sf_if (fun e2 => ?_) fun e2 => ?_
    · have hcl := ek.cell (by omega)
      rw [endLight, if_pos e2] at hst hbd
      repeat (first | refine R1 ?_ | (refine R2 ?_; intro _))
      refine sf_draw (by kernel_rfl) (regX_run [[], [], [], [1, 2], [1, 2, 3], [1, 2, 3, 4], [], [6], [], [], [8, 9], [8, 9, 10], [8, 9, 10, 11], [6, 7, 8, 9, 10, 11, 12], [6, 7, 8, 9, 10, 11, 12, 13], [6, 7, 8, 9, 10, 11, 12, 13, 14], [1, 2, 3, 4, 5, 6, 7, 8, 9, 10, 11, 12, 13, 14, 15], [0, 1, 2, 3, 4, 5, 6, 7, 8, 9, 10, 11, 12, 13, 14, 15, 16], [0, 1, 2, 3, 4, 5, 6, 7, 8, 9, 10, 11, 12, 13, 14, 15, 16, 17]] 17 [(0, false), (1, false), (2, false), (3, false), (4, false), (5, false), (6, false), (7, false), (8, false), (9, false), (10, false), (11, false), (12, false), (13, false), (14, false), (15, false), (16, false)] (by kernel_rfl) (by kernel_rfl) (by kernel_rfl) ?_)
      repeat (refine Da1 ?_)
      (refine a_end (by rfl) (by rfl) ?_; simp only [finA, setL, List.drop_succ_cons, List.drop_zero])
      repeat (first | refine R1 ?_ | (refine R2 ?_; intro _))
      exact ⟨j + 1, by omega, ⟨by rw [hst]; rfl, rfl, trivial⟩, rfl, _, _, inferInstance, by omega, rfl⟩
    · rw [endLight, if_neg e2, Int.add_zero] at hst
      repeat (first | refine R1 ?_ | (refine R2 ?_; intro _))
      exact ⟨j + 1, by omega, ⟨by rw [hst]; rfl, rfl, trivial⟩, rfl, _, _, inferInstance, by omega, rfl⟩
  · refine sf_exit ?_
    repeat (first | refine R1 ?_ | (refine R2 ?_; intro _))
    refine sf_ret (rV ?_)
    rw [lightOf, List.take_of_length_le (by omega)]
theorem l12Pic_f (h : PHeap) (c : Value) (g : Grid) (s : Sl h c cellF g.cells) {R : Int} (k : Gok g R) : CallF Tryz.prog M 64 [.agg #[.int .i64 g.wide, c]] [] h fun v A => Gr A v 3 intF (picOf g) := by
  have o1 := s.one
  have hmm := k.many
  obtain ⟨N, hN⟩ : ∃ N : Nat, manyOf g = N := ⟨(manyOf g).toNat, by omega⟩
  have hP : picOf g = (List.range N).map fun j => trailLight g (j : Nat) := by rw [picOf, hN]; rfl
  rw [hP]
  refine calls_of_sf Tryz.func64 rfl Tryz.ntmps64 ?_
  simp only [argsL, Nat.reduceAdd]
  repeat (first | refine R1 ?_ | (refine R2 ?_; intro _))
  refine fp (y_bs (by rfl) (by rfl) (by rfl) (by rfl) (by decide) fun w A g0 => ?_)
  repeat (first | refine R1 ?_ | (refine R2 ?_; intro _))
  rename_i b1
  refine sf_lp (ι := Nat × Value) [1] (fun x => [(4, .int .i64 (x.1 : Int)), (3, x.2)]) (fun x O => x.1 ≤ N ∧ ∃ A', O = A' ++ [(b1, .cells #[.int .i64 g.wide, c] 34)] ∧ ∃ xs, xs.length = x.1 ∧ xs = ((List.range x.1).map fun j => trailLight g (j : Nat)) ∧ Gr A' x.2 3 intF xs) (fun x => N - x.1) (0, w) (A ++ [(b1, .cells #[.int .i64 g.wide, c] 34)]) ⟨by omega, A, rfl, [], rfl, rfl, g0⟩ ?_
  rintro ⟨j, v⟩ O ⟨hj, A', rfl, xs, lx, ex, gr⟩
  simp only at hj lx ex gr ⊢
  have o2 := gr.one
  repeat (first | refine R1 ?_ | (refine R2 ?_; intro _))
  refine fp (y_callV (l3Many_v h c g s k) (by rfl) ?_)
  rw [hN]
  repeat (first | refine R1 ?_ | (refine R2 ?_; intro _))
  refine sf_if (fun e1 => ?_) fun e1 => ?_
  · obtain ⟨sz, vs, es, hc, hg, hsz, hok⟩ := goLight_is k (j := (j : Int)) (by omega) (by omega)
    have hes : ∀ e ∈ es, EndOk g 64 e := hok.es
    have hle := hok.le
    simp only at hle
    have eT : trailLight g (j : Nat) = lightOf g es := by rw [trailLight, hg]
    repeat (first | refine R1 ?_ | (refine R2 ?_; intro _))
    refine sf_draw (by kernel_rfl) (regX_run [[], [], [], [], [2, 3], [2, 3, 4], [2, 3, 4, 5], [2, 3, 4, 5, 6], [1, 2, 3, 4, 5, 6, 7], [1, 2, 3, 4, 5, 6, 7, 8], [0, 1, 2, 3, 4, 5, 6, 7, 8, 9], [0, 1, 2, 3, 4, 5, 6, 7, 8, 9, 10]] 10 [(0, false), (1, false), (2, false), (3, false), (4, true), (5, false), (6, false), (7, true), (8, true), (9, true)] (by kernel_rfl) (by kernel_rfl) (by kernel_rfl) ?_)
    repeat (refine Da1 ?_)
    refine a_call (l11Go_f h c g s k (j : Int) ⟨by omega, by omega⟩) (by rfl) (by rfl) (.inl rfl) ?_
    rintro _ _ ⟨b3, rfl, vv, ev, AV, AE, rfl, gv, ge⟩
    rw [hg] at gv ge
    have ov := gv.one
    have oe := ge.one
    repeat (refine Da1 ?_)
    refine a_qw (by rfl) (.inl rfl) (z_load (by rfl)) ?_
    refine a_call (lendV AE fun h' l' i => l11Light_v h' c g (s.le l'.le) k ev es (ge.lent (by simp only; omega) i) hes (by omega)) (by rfl) (by rfl) (.inl rfl) ?_
    rintro _ _ ⟨rfl, rfl⟩
    repeat (refine Da1 ?_)
    refine a_bs (by rfl) (by rfl) (by infer_instance) (by infer_instance) (by infer_instance) (by infer_instance) (by rfl) (by rfl) (by rfl) (by decide) (.inl rfl) fun u Au gu => ?_
    repeat (refine Da1 ?_)
    (refine a_end (by rfl) (by rfl) ?_; simp only [finA, setL, List.drop_succ_cons, List.drop_zero])
    refine fp (y_append (by rfl) (by rfl) gr gu (fun y _ => FlatOne.one y) (by rfl) (by rfl) (by simp; omega) (by simp; omega) fun v2 A2 g2 => ?_)
    repeat (first | refine R1 ?_ | (refine R2 ?_; intro _))
    exact ⟨(j + 1, v2), by simp only; omega, ⟨rfl, rfl, trivial⟩, rfl, A2 ++ [(b1, .cells #[.int .i64 g.wide, c] 34)], _, inferInstance, by simp only; omega, A2, rfl, _, by simp; omega, by rw [List.range_succ, List.map_append, ex]; simp [eT], g2⟩
  · refine sf_exit ?_
    obtain rfl : j = N := by omega
    repeat (first | refine R1 ?_ | (refine R2 ?_; intro _))
    exact sf_ret (rO A' (by rw [← ex]; exact gr))
end Go.Proofs.YtekjikbaefgncaaGreatDoor

/- Walks: edits, versions, own sights: the reference's. -/
namespace Go.Proofs.YtekjikbaefgncaaGreatDoor
open Go Go.Sl
set_option maxRecDepth 100000
set_option maxHeartbeats 4000000
attribute [local irreducible] Go.Code.sf sfOps Opq opo retF Do1 anyO
variable {M : Jdg → Prop} [IsCl Tryz.prog M]

theorem l13Same_v (h : PHeap) (a b : Value) (xs ys : List Int) (sx : Sl h a intF xs) (sy : Sl h b intF ys) : CallV Tryz.prog M 62 [a, b] h (.bool (decide (xs = ys))) := by
  have o1 := sx.one
  have o2 := sy.one
  have hx := sx.small
  have hy := sy.small
  refine calls_of_sf Tryz.func62 rfl Tryz.ntmps62 ?_
  simp only [argsL, Nat.reduceAdd]
  repeat (first | refine R1 ?_ | (refine R2 ?_; intro _))
  refine sf_if (fun e0 => ?_) fun e0 => ?_
  · repeat (first | refine R1 ?_ | (refine R2 ?_; intro _))
    exact sf_ret (rV (bF fun e => e0 (by rw [e])))
  have hl : xs.length = ys.length := by omega
  repeat (first | refine R1 ?_ | (refine R2 ?_; intro _))
  refine sf_rd [0, 1] 5 xs.length 0 (fun k => xs.take k = ys.take k) (by omega) rfl (fun k hk hi => ?_)
  repeat (first | refine R1 ?_ | (refine R2 ?_; intro _))
  refine sf_if (fun h4 => ?_) fun h4 => ?_
  · have hk4 : k < xs.length := by omega
    have hk5 : k < ys.length := by omega
    repeat (first | refine R1 ?_ | (refine R2 ?_; intro _))
    refine sf_draw (by kernel_rfl) (regX_run [[], [], [0, 1], [0, 1, 2], [], [], [4, 5], [4, 5, 6], [0, 1, 2, 3, 4, 5, 6, 7]] 8 [(0, false), (1, false), (2, false), (3, false), (4, false), (5, false), (6, false), (7, false)] (by kernel_rfl) (by kernel_rfl) (by kernel_rfl) ?_)
    repeat (refine Da1 ?_)
    (refine a_end (by rfl) (by rfl) ?_; simp only [finA, setL, List.drop_succ_cons, List.drop_zero])
    repeat (first | refine R1 ?_ | (refine R2 ?_; intro _))
    refine sf_if (fun e1 => ?_) fun e1 => ?_
    · repeat (first | refine R1 ?_ | (refine R2 ?_; intro _))
      exact sf_ret (rV (bF (eq_at e1)))
    · repeat (first | refine R1 ?_ | (refine R2 ?_; intro _))
      exact ⟨⟨hk4, eq_step hk4 hk5 hi (by simpa using e1)⟩, rfl, rfl, _, inferInstance⟩
  · refine sf_exit ?_
    repeat (first | refine R1 ?_ | (refine R2 ?_; intro _))
    exact sf_ret (rV (bT (eq_end hl (by omega) hi)))
theorem l13Edits_v (h : PHeap) (c : Value) (g : Grid) (s : Sl h c cellF g.cells) (v : Value) (es : List Edit) (s2 : Sl h v editF es) : CallV Tryz.prog M 108 [.agg #[.int .i64 g.wide, c], v] h (.bool (decide (es.length ≤ 20) && editsOk g es)) := by
  have o1 := s.one
  have o2 := s2.one
  have hs := s2.small
  have hs1 := s.small
  refine calls_of_sf Tryz.func108 rfl Tryz.ntmps108 ?_
  simp only [argsL, Nat.reduceAdd]
  repeat (first | refine R1 ?_ | (refine R2 ?_; intro _))
  refine sf_if (fun e0 => ?_) fun e0 => ?_
  · repeat (first | refine R1 ?_ | (refine R2 ?_; intro _))
    refine sf_ret (rV ?_)
    simp; intros; omega
  have h20 : decide (es.length ≤ 20) = true := decide_eq_true (by omega)
  rw [h20, Bool.true_and]
  repeat (first | refine R1 ?_ | (refine R2 ?_; intro _))
  refine sf_rd [1, 2] 5 es.length 0 (fun k => editsOk g (es.take k) = true) (by omega) rfl (fun k hk hi => ?_)
  repeat (first | refine R1 ?_ | (refine R2 ?_; intro _))
  refine sf_if (fun h4 => ?_) fun h4 => ?_
  · have hk4 : k < es.length := by omega
    have hstep : editsOk g (es.take (k + 1)) = editOk g (gt es k) := by
      rw [editsOk, all_take hk4]
      rw [editsOk] at hi
      rw [hi, Bool.true_and]
    have hF : editOk g (gt es k) = false → editsOk g es = false := fun e => by rw [editsOk, all_false hk4 e]
    repeat (first | refine R1 ?_ | (refine R2 ?_; intro _))
    refine sf_draw (by kernel_rfl) (regX_run [[], [], [0, 1], [0, 1, 2], [0, 1, 2, 3], [0, 1, 2, 3, 4], [0, 1, 2, 3, 4, 5], [0, 1, 2, 3, 4, 5, 6], [0, 1, 2, 3, 4, 5, 6, 7], [0, 1, 2, 3, 4, 5, 6, 7], [0, 1, 2, 3, 4, 5, 6, 7, 8, 9], [0, 1, 2, 3, 4, 5, 6, 7, 8, 9, 10], [0, 1, 2, 3, 4, 5, 6, 7, 8, 9, 10, 11], [0, 1, 2, 3, 4, 5, 6, 7], [0, 1, 2, 3, 4, 5, 6, 7, 13], [0, 1, 2, 3, 4, 5, 6, 7, 13, 14], [0, 1, 2, 3, 4, 5, 6, 7, 13, 14, 15], [0, 1, 2, 3, 4, 5, 6, 7, 8, 9, 10, 11, 12, 13, 14, 15, 16], [0, 1, 2, 3, 4, 5, 6, 7, 8, 9, 10, 11, 12, 13, 14, 15, 16, 17], [0, 1, 2, 3, 4, 5, 6, 7, 8, 9, 10, 11, 12, 13, 14, 15, 16, 17, 18]] 17 [(0, false), (1, false), (2, false), (3, false), (4, false), (5, true), (6, false), (7, false), (8, false), (9, false), (10, false), (11, false), (12, false), (13, false), (14, false), (15, false), (16, false)] (by kernel_rfl) (by kernel_rfl) (by kernel_rfl) ?_)
    repeat (refine Da1 ?_)
    refine a_callV (sCellOk_v _ (gt es k).cell) (by rfl) (by rfl) (.inl rfl) ?_
    cases hc : cellOk (gt es k).cell with
    | false =>
      repeat (refine Da1 ?_)
      (refine a_end (by rfl) (by rfl) ?_; simp only [finA, setL, List.drop_succ_cons, List.drop_zero])
      repeat (first | refine R1 ?_ | (refine R2 ?_; intro _))
      refine sf_T rfl ?_
      repeat (first | refine R1 ?_ | (refine R2 ?_; intro _))
      refine sf_ret (rV ?_)
      rw [hF (by simp [editOk, hc])]
    | true =>
      repeat (refine Da1 ?_)
      (refine a_end (by rfl) (by rfl) ?_; simp only [finA, setL, List.drop_succ_cons, List.drop_zero])
      refine fp (y_callV (l6In_v _ _ _ _) (by rfl) ?_)
      repeat (first | refine R1 ?_ | (refine R2 ?_; intro _))
      refine sf_cond (by rfl) (fun h5 => ?_) fun h5 => ?_
      · repeat (first | refine R1 ?_ | (refine R2 ?_; intro _))
        refine sf_ret (rV ?_)
        rw [hF (by simp at h5; simp [editOk, hc]; intros; omega)]
      · repeat (first | refine R1 ?_ | (refine R2 ?_; intro _))
        refine ⟨⟨hk4, ?_⟩, rfl, rfl, _, inferInstance⟩
        rw [hstep]; simp at h5; simp [editOk, hc]; omega
  · refine sf_exit ?_
    repeat (first | refine R1 ?_ | (refine R2 ?_; intro _))
    rw [take_ge hk (by omega)] at hi
    exact sf_ret (rV (by rw [hi]))
theorem l22Edits_v (h : PHeap) (ca : List Value) (k : Keeper) (b : (keeperR τ).B h ca k) : CallV Tryz.prog M 61 [.agg ca.toArray] h (.bool (decide (k.edits.length ≤ 60) && editsOk k.first k.edits)) := by
  obtain ⟨c, e, p, s, rfl, s1, s2, s3, s4⟩ := keeperB b
  have o1 := s1.one
  have o2 := s2.one
  have o3 := s3.one
  have o4 := s4.one
  have hs := s2.small
  generalize hes : k.edits = es at *
  refine calls_of_sf Tryz.func61 rfl Tryz.ntmps61 ?_
  simp only [argsL, Nat.reduceAdd]
  repeat (first | refine R1 ?_ | (refine R2 ?_; intro _))
  refine sf_if (fun e0 => ?_) fun e0 => ?_
  · repeat (first | refine R1 ?_ | (refine R2 ?_; intro _))
    refine sf_ret (rV ?_)
    simp; intros; omega
  have h60 : decide (es.length ≤ 60) = true := decide_eq_true (by omega)
  rw [h60, Bool.true_and]
  repeat (first | refine R1 ?_ | (refine R2 ?_; intro _))
  refine sf_rd [1] 3 es.length 0 (fun j => editsOk k.first (es.take j) = true) (by omega) rfl (fun j hj hi => ?_)
  repeat (first | refine R1 ?_ | (refine R2 ?_; intro _))
  refine sf_if (fun h4 => ?_) fun h4 => ?_
  · have hk4 : j < es.length := by omega
    obtain ⟨v', sv, op⟩ := s2.mid (l := j) (u := j + 1) (by omega) (by omega)
    have ov := sv.one
    have e1 : (es.take (j + 1)).drop j = [gt es j] := by
      rw [take_succ_gt hk4, List.drop_append_of_le_length (by rw [List.length_take]; omega), List.drop_of_length_le (by rw [List.length_take]; omega), List.nil_append]
    rw [e1] at sv
    have hstep : editsOk k.first (es.take (j + 1)) = editOk k.first (gt es j) := by
      rw [editsOk, all_take hk4]
      rw [editsOk] at hi
      rw [hi, Bool.true_and]
    repeat (first | refine R1 ?_ | (refine R2 ?_; intro _))
    refine sf_draw (by kernel_rfl) (regX_run [[], [0], [], [2], [], [], [5], [2, 3, 4, 5, 6], [0, 1, 2, 3, 4, 5, 6, 7], [0, 1, 2, 3, 4, 5, 6, 7, 8]] 8 [(0, false), (1, false), (2, false), (3, false), (4, false), (5, false), (6, false), (7, false)] (by kernel_rfl) (by kernel_rfl) (by kernel_rfl) ?_)
    repeat (refine Da1 ?_)
    refine aq (by rfl) (.inl rfl) (fun X h' [_] => op (by infer_instance) (by infer_instance) (by rfl) (by rfl) (by rfl)) ?_
    repeat (refine Da1 ?_)
    (refine a_end (by rfl) (by rfl) ?_; simp only [finA, setL, List.drop_succ_cons, List.drop_zero])
    refine fp (y_callV (l13Edits_v _ c k.first s1 v' _ sv) (by rfl) ?_)
    rw [show (decide ([gt es j].length ≤ 20) && editsOk k.first [gt es j]) = editOk k.first (gt es j) by simp [editsOk]]
    repeat (first | refine R1 ?_ | (refine R2 ?_; intro _))
    refine sf_cond (by rfl) (fun h5 => ?_) fun h5 => ?_
    · simp only [Bool.not_eq_true'] at h5
      repeat (first | refine R1 ?_ | (refine R2 ?_; intro _))
      exact sf_ret (rV (by rw [editsOk, all_false hk4 h5]))
    · simp only [Bool.not_eq_false'] at h5
      repeat (first | refine R1 ?_ | (refine R2 ?_; intro _))
      exact ⟨⟨hk4, by rw [hstep]; exact h5⟩, rfl, rfl, _, inferInstance⟩
  · refine sf_exit ?_
    repeat (first | refine R1 ?_ | (refine R2 ?_; intro _))
    rw [take_ge hj (by omega)] at hi
    exact sf_ret (rV (by rw [hi]))
end Go.Proofs.YtekjikbaefgncaaGreatDoor

/- Walks: keepers looked at: the reference's. -/
namespace Go.Proofs.YtekjikbaefgncaaGreatDoor
open Go Go.Sl
set_option maxRecDepth 100000
set_option maxHeartbeats 4000000
attribute [local irreducible] Go.Code.sf sfOps Opq opo retF Do1 anyO
variable {M : Jdg → Prop} [IsCl Tryz.prog M]

theorem l22Grid_f (h : PHeap) (ca : List Value) (k : Keeper) (b : (keeperR τ).B h ca k) (hk : HeadOk k) (v : Int) (hv : verOk k v = true) : CallF Tryz.prog M 65 [.agg ca.toArray, .int .i64 v] [] h fun u A => ∃ cs, u = .agg cs.toArray ∧ (gridR τ).O A cs (gridAt k v) := by
  obtain ⟨c, e, p, s, rfl, s1, s2, s3, s4⟩ := keeperB b
  have o1 := s1.one
  have o2 := s2.one
  have o3 := s3.one
  have o4 := s4.one
  have hsm := (gok hk.grid).small
  have h60 := hk.e60
  have hed := hk.edits
  simp only [verOk, Bool.and_eq_true, decide_eq_true_eq] at hv
  obtain ⟨n, rfl⟩ : ∃ n : Nat, v = n := ⟨v.toNat, by omega⟩
  rw [show gridAt k (n : Nat) = gridAfter k.first (k.edits.take n) from rfl]
  have hn : n ≤ k.edits.length := by omega
  generalize k.edits = es at *
  refine calls_of_sf Tryz.func65 rfl Tryz.ntmps65 ?_
  simp only [argsL, Nat.reduceAdd]
  repeat (first | refine R1 ?_ | (refine R2 ?_; intro _))
  refine fp (y_call (l1Copy_f _ _ k.first (gridB_mk s1) (by omega)) (by rfl) ?_)
  rintro _ A1 ⟨_, rfl, q⟩
  obtain ⟨c2, rfl, g1, l1⟩ := gridO q
  have o5 := g1.one
  repeat (first | refine R1 ?_ | (refine R2 ?_; intro _))
  rename_i b2 b4 b5
  refine sf_lp (ι := Nat) [1, 2, 4, 5] (fun i => [(6, .int .i64 (i : Int))]) (fun i O => i ≤ n ∧ ∃ A', O = (b5, .cells #[.int .i64 k.first.wide, c2] 34) :: (A' ++ [(b4, .cells #[.int .i64 0, .slice none 0 0] 34), (b2, .cells #[.int .i64 k.first.wide, c, e, p, s] 39)]) ∧ ∃ cs, cs = (gridAfter k.first (es.take i)).cells ∧ cs.length = k.first.cells.length ∧ Gr A' c2 67 cellF cs) (fun i => n - i) 0 ((b5, .cells #[.int .i64 k.first.wide, c2] 34) :: (A1 ++ [(b4, .cells #[.int .i64 0, .slice none 0 0] 34), (b2, .cells #[.int .i64 k.first.wide, c, e, p, s] 39)])) ⟨by omega, _, rfl, _, rfl, rfl, g1⟩ ?_
  rintro i O ⟨hi, A', rfl, cs, ecs, lcs, gr⟩
  have o6 := gr.one
  repeat (first | refine R1 ?_ | (refine R2 ?_; intro _))
  refine sf_if (fun h4 => ?_) fun h4 => ?_
  · have hi4 : i < es.length := by omega
    obtain ⟨e1, e2, e3⟩ := editOk_is (editsOk_at hed hi4)
    obtain ⟨a, ha⟩ : ∃ a : Nat, (gt es i).at' = a := ⟨(gt es i).at'.toNat, by omega⟩
    repeat (first | refine R1 ?_ | (refine R2 ?_; intro _))
    refine sf_draw (by kernel_rfl) (regX_run [[], [0], [], [2], [], [2, 3, 4], [2, 3, 4, 5], [2, 3, 4, 5, 6], [], [8], [], [8, 9, 10], [8, 9, 10, 11], [8, 9, 10, 11, 12], [0, 1, 2, 3, 4, 5, 6, 7, 8, 9, 10, 11, 12, 13], [0, 1, 2, 3, 4, 5, 6, 7, 8, 9, 10, 11, 12, 13, 14]] 14 [(0, false), (1, false), (2, false), (3, false), (4, false), (5, false), (6, false), (7, false), (8, false), (9, false), (10, false), (11, false), (12, false), (13, false)] (by kernel_rfl) (by kernel_rfl) (by kernel_rfl) ?_)
    repeat (refine Da1 ?_)
    (refine a_end (by rfl) (by rfl) ?_; simp only [finA, setL, List.drop_succ_cons, List.drop_zero])
    simp only [ha]
    repeat (first | refine R1 ?_ | (refine R2 ?_; intro _))
    refine fp (y_storeG0 (by rfl) (by rfl) gr (by omega) (by rfl) fun A2 cs2 ec lc _ g2 => ?_)
    repeat (first | refine R1 ?_ | (refine R2 ?_; intro _))
    refine ⟨i + 1, by omega, ⟨rfl, trivial⟩, rfl, (b5, .cells #[.int .i64 k.first.wide, c2] 34) :: (A2 ++ [(b4, .cells #[.int .i64 0, .slice none 0 0] 34), (b2, .cells #[.int .i64 k.first.wide, c, e, p, s] 39)]), _, inferInstance, by omega, A2, rfl, cs2, ?_, by omega, g2⟩
    rw [gridAfter_step hi4, putCell, ec, ecs, ha]; rfl
  · refine sf_exit ?_
    obtain rfl : i = n := by omega
    repeat (first | refine R1 ?_ | (refine R2 ?_; intro _))
    refine sf_ret (rO A' ⟨_, rfl, ?_⟩)
    have := gridO_mk (τ := τ) (g := gridAfter k.first (es.take i)) (c := c2) (A := A') (by rw [← ecs]; exact gr) (by rw [← ecs]; omega)
    rw [(gridAfter_same (es.take i) k.first).1] at this
    exact this
theorem l21Own_f (h : PHeap) (c : Value) (g : Grid) (s : Sl h c cellF g.cells) {R : Int} (kg : Gok g R) (id many : Nat) (h1 : 1 ≤ id) (h2 : id ≤ many) (h3 : many ≤ 3) : CallF Tryz.prog M 130 [.agg #[.int .i64 g.wide, c], .int .i64 (id : Int), .int .i64 (many : Int)] [] h fun u A => Gr A u 3 intF (ownList (manyOf g).toNat many id) := by
  have o1 := s.one
  have hm := kg.many
  obtain ⟨S, hS⟩ : ∃ S : Nat, manyOf g = S := ⟨(manyOf g).toNat, by omega⟩
  rw [hS] at hm ⊢
  simp only [Int.toNat_natCast]
  have hc : ∀ j, j < ownCnt S many id ↔ id - 1 + j * many < S := fun j => ownCnt_lt h1 h2 h3
  refine calls_of_sf Tryz.func130 rfl Tryz.ntmps130 ?_
  simp only [argsL, Nat.reduceAdd]
  repeat (first | refine R1 ?_ | (refine R2 ?_; intro _))
  refine fp (y_bs (by rfl) (by rfl) (by rfl) (by rfl) (by decide) fun w A0 g0 => ?_)
  repeat (first | refine R1 ?_ | (refine R2 ?_; intro _))
  rename_i b3
  rw [show (id : Int) - 1 = ((id - 1 + 0 * many : Nat) : Int) by omega]
  refine sf_lp (ι := Nat × Value) [2, 3] (fun x => [(8, .int .i64 ((id - 1 + x.1 * many : Nat) : Int)), (7, x.2)]) (fun x O => x.1 ≤ ownCnt S many id ∧ ∃ A', O = A' ++ [(b3, .cells #[.int .i64 g.wide, c] 34)] ∧ ∃ xs, xs.length = x.1 ∧ xs = ((List.range x.1).map fun j => ((id - 1 + j * many : Nat) : Int)) ∧ Gr A' x.2 3 intF xs) (fun x => ownCnt S many id - x.1) (0, w) (A0 ++ [(b3, .cells #[.int .i64 g.wide, c] 34)]) ⟨by omega, A0, rfl, [], rfl, rfl, g0⟩ ?_
  rintro ⟨j, v⟩ O ⟨hj, A', rfl, xs, lx, ex, gr⟩
  simp only at hj lx ex gr ⊢
  have o2 := gr.one
  repeat (first | refine R1 ?_ | (refine R2 ?_; intro _))
  refine fp (y_callV (l3Many_v h c g s kg) (by rfl) ?_)
  rw [hS]
  have hjm : j * many ≤ 20 * 3 ∧ j ≤ 20 := by
    rcases Nat.eq_zero_or_pos j with rfl | hj0
    · omega
    · have := (hc (j - 1)).1 (by omega)
      have h4 : (j - 1) * many ≤ 20 * 3 := by omega
      have h5 : j * many = (j - 1) * many + many := by
        obtain ⟨k, rfl⟩ : ∃ k, j = k + 1 := ⟨j - 1, by omega⟩
        rw [Nat.add_sub_cancel, Nat.add_mul, Nat.one_mul]
      have h6 : j ≤ 20 := by
        have : (j - 1) * 1 ≤ (j - 1) * many := Nat.mul_le_mul_left _ (by omega)
        omega
      exact ⟨Nat.mul_le_mul h6 h3, h6⟩
  repeat (first | refine R1 ?_ | (refine R2 ?_; intro _))
  refine sf_if (fun h4 => ?_) fun h4 => ?_
  · have hj4 : j < ownCnt S many id := (hc j).2 (by omega)
    repeat (first | refine R1 ?_ | (refine R2 ?_; intro _))
    refine fp (y_bs (by rfl) (by rfl) (by rfl) (by rfl) (by decide) fun u Au gu => ?_)
    repeat (first | refine R1 ?_ | (refine R2 ?_; intro _))
    refine fp (y_append (by rfl) (by rfl) gr gu (fun y _ => FlatOne.one y) (by rfl) (by rfl) (by simp; omega) (by simp; omega) fun v2 A2 g2 => ?_)
    repeat (first | refine R1 ?_ | (refine R2 ?_; intro _))
    refine ⟨(j + 1, v2), by simp only; omega, ⟨?_, rfl, trivial⟩, rfl, A2 ++ [(b3, .cells #[.int .i64 g.wide, c] 34)], _, inferInstance, by simp only; omega, A2, rfl, _, by simp; omega, by rw [ownList_step, ex], g2⟩
    rw [show ((id - 1 + (j + 1) * many : Nat) : Int) = ((id - 1 + j * many : Nat) : Int) + (many : Int) by rw [Nat.add_mul, Nat.one_mul]; omega]
    rfl
  · refine sf_exit ?_
    have : j = ownCnt S many id := by
      rcases Nat.lt_or_ge j (ownCnt S many id) with h | h
      · have := (hc j).1 h; omega
      · omega
    repeat (first | refine R1 ?_ | (refine R2 ?_; intro _))
    refine sf_ret (rO A' ?_)
    rw [ownList, ← this, ← ex]; exact gr
theorem l22Own_f (h : PHeap) (ca : List Value) (k : Keeper) (b : (keeperR τ).B h ca k) (hk : HeadOk k) (id : Nat) (h1 : 1 ≤ id) (h2 : id ≤ k.parts.length) (v : Int) (hv : verOk k v = true) : CallF Tryz.prog M 63 [.agg ca.toArray, .int .i64 (id : Int), .int .i64 v] [] h fun u A => Gr A u 3 intF (partLights k id v) := by
  have b0 := b
  obtain ⟨c, e, p, s, rfl, s1, s2, s3, s4⟩ := keeperB b
  have o1 := s1.one
  have o2 := s2.one
  have o3 := s3.one
  have o4 := s4.one
  obtain ⟨rp, sp, bp⟩ := s3
  have lp := bp.len
  have n3 := hk.n3
  have gok' := gridAt_ok hk.grid hk.edits v
  have kg := gok gok'
  have hmm := kg.many
  have hmy := gridAt_many k v
  have hpl : (picOf (gridAt k v)).length = (manyOf (gridAt k v)).toNat := picOf_len _
  refine calls_of_sf Tryz.func63 rfl Tryz.ntmps63 ?_
  simp only [argsL, Nat.reduceAdd]
  repeat (first | refine R1 ?_ | (refine R2 ?_; intro _))
  refine fp (y_call (l22Grid_f _ _ k b0 hk v hv) (by rfl) ?_)
  rintro _ A1 ⟨cs, rfl, q⟩
  obtain ⟨c2, rfl, g1, l1⟩ := gridO q
  have o5 := g1.one
  repeat (first | refine R1 ?_ | (refine R2 ?_; intro _))
  refine fp (y_lend A1 (fun h' _ i => l12Pic_f h' c2 _ (g1.lent (by omega) i) kg) (by rfl) ?_)
  intro v2 A2 g2
  have o6 := g2.one
  repeat (first | refine R1 ?_ | (refine R2 ?_; intro _))
  refine fp (y_lend A1 (fun h' _ i => l21Own_f h' c2 _ (g1.lent (by omega) i) kg id rp.length h1 (by omega) (by omega)) (by rfl) ?_)
  intro v3 A3 g3
  have o7 := g3.one
  rw [lp, hmy] at g3
  rw [hmy] at hpl hmm
  repeat (first | refine R1 ?_ | (refine R2 ?_; intro _))
  refine fp (y_bs (by rfl) (by rfl) (by rfl) (by rfl) (by decide) fun w A4 g4 => ?_)
  repeat (first | refine R1 ?_ | (refine R2 ?_; intro _))
  obtain ⟨S, hS⟩ : ∃ S : Nat, manyOf k.first = S := ⟨(manyOf k.first).toNat, by omega⟩
  have hP : partLights k id v = ownLights (picOf (gridAt k v)) S k.parts.length id := by rw [partLights, hS]; rfl
  rw [hP]
  rw [hS] at g3 hpl hmm
  simp only [Int.toNat_natCast] at g3 hpl
  have hl := ownList_len S k.parts.length id
  have hc : ∀ j, j < ownCnt S k.parts.length id ↔ id - 1 + j * k.parts.length < S := fun j => ownCnt_lt h1 h2 n3
  have hat : ∀ j, j < ownCnt S k.parts.length id → gt (ownList S k.parts.length id) j = ((id - 1 + j * k.parts.length : Nat) : Int) := fun j hj => ownList_at hj
  have hcn : ownCnt S k.parts.length id ≤ S + k.parts.length - id := Nat.div_le_self _ _
  clear hP
  rw [ownLights]
  generalize hxs : ownList S k.parts.length id = xs at *
  generalize hpc : picOf (gridAt k v) = pc at *
  rename_i b3 b7
  refine sf_lp (ι := Nat × Value) [8, 9] (fun x => [(11, .int .i64 (x.1 : Int)), (10, x.2)]) (fun x O => x.1 ≤ xs.length ∧ ∃ A', O = A' ++ (A2 ++ A3) ∧ Gr A' x.2 3 intF ((xs.take x.1).map fun k => gt pc k.toNat)) (fun x => xs.length - x.1) (0, w) (A4 ++ (A2 ++ A3)) ⟨by omega, A4, rfl, g4⟩ ?_
  rintro ⟨j, u⟩ O ⟨hj, A', rfl, gr⟩
  simp only at hj gr ⊢
  have o8 := gr.one
  have hlt : ((xs.take j).map fun k => gt pc k.toNat).length = j := by rw [List.length_map, List.length_take]; omega
  repeat (first | refine R1 ?_ | (refine R2 ?_; intro _))
  refine sf_if (fun h4 => ?_) fun h4 => ?_
  · have hj4 : j < ownCnt S k.parts.length id := by omega
    have ha := hat j hj4
    have hb := (hc j).1 hj4
    have hstep : ((xs.take (j + 1)).map fun k => gt pc k.toNat) = ((xs.take j).map fun k => gt pc k.toNat) ++ [gt pc (id - 1 + j * k.parts.length)] := by
      rw [take_succ_gt (by omega), List.map_append, ha]; rfl
    have hj5 : j < xs.length := by omega
    have hj6 : id - 1 + j * k.parts.length < pc.length := by omega
    repeat (first | refine R1 ?_ | (refine R2 ?_; intro _))
    simp only [ha]
    repeat (first | refine R1 ?_ | (refine R2 ?_; intro _))
    refine fp (y_bs (by rfl) (by rfl) (by rfl) (by rfl) (by decide) fun w2 Au gu => ?_)
    repeat (first | refine R1 ?_ | (refine R2 ?_; intro _))
    refine fp (y_append (by rfl) (by rfl) gr gu (fun y _ => FlatOne.one y) (by rfl) (by rfl) (by simp; omega) (by simp; omega) fun u2 A5 g5 => ?_)
    repeat (first | refine R1 ?_ | (refine R2 ?_; intro _))
    exact ⟨(j + 1, u2), by simp only; omega, ⟨rfl, rfl, trivial⟩, rfl, A5 ++ (A2 ++ A3), _, inferInstance, by simp only; omega, A5, rfl, by rw [hstep]; exact g5⟩
  · refine sf_exit ?_
    repeat (first | refine R1 ?_ | (refine R2 ?_; intro _))
    refine sf_ret (rO A' ?_)
    rw [← take_ge (xs := xs) hj (by omega)]; exact gr
theorem sKeepOk_v (h : PHeap) (ca : List Value) (k : Keeper) (b : (keeperR τ).B h ca k) : CallV Tryz.prog M 13 [.agg ca.toArray] h (.bool (keepOk k)) := by
  have b0 := b
  obtain ⟨c, ed, p, s, rfl, s1, s2, s3, s4⟩ := keeperB b
  have o1 := s1.one
  have o2 := s2.one
  have o3 := s3.one
  have o4 := s4.one
  obtain ⟨rp, sp, bp⟩ := s3
  obtain ⟨rs, ss, bs⟩ := s4
  have lp := bp.len
  have ls := bs.len
  have hsp := sp.small
  have hss := ss.small
  have hs2 := s2.small
  have hN : keepHead k = false → keepOk k = false := fun e => by simp [keepOk, e]
  refine calls_of_sf Tryz.func13 rfl Tryz.ntmps13 ?_
  simp only [argsL, Nat.reduceAdd]
  repeat (first | refine R1 ?_ | (refine R2 ?_; intro _))
  refine fp (y_callV (sGridOk_v _ _ k.first ⟨c, rfl, s1⟩) (by rfl) ?_)
  repeat (first | refine R1 ?_ | (refine R2 ?_; intro _))
  refine f_splitB (fun g0 => ?_) fun g0 => ?_
  · have g0' := g0
    simp only [Bool.not_eq_true'] at g0'
    repeat (first | refine R1 ?_ | (refine R2 ?_; intro _))
    refine sf_T rfl ?_
    repeat (first | refine R1 ?_ | (refine R2 ?_; intro _))
    exact sf_ret (rV (by rw [hN (by simp [keepHead, g0'])]))
  have g0' := g0
  simp only [Bool.not_eq_false'] at g0'
  repeat (first | refine R1 ?_ | (refine R2 ?_; intro _))
  refine fp (y_callV (l6In_v _ _ _ _) (by rfl) ?_)
  repeat (first | refine R1 ?_ | (refine R2 ?_; intro _))
  refine f_splitB (fun g1 => ?_) fun g1 => ?_
  · repeat (first | refine R1 ?_ | (refine R2 ?_; intro _))
    refine sf_T rfl ?_
    repeat (first | refine R1 ?_ | (refine R2 ?_; intro _))
    exact sf_ret (rV (by rw [hN (by simp at g1; simp [keepHead]; intros; omega)]))
  repeat (first | refine R1 ?_ | (refine R2 ?_; intro _))
  refine fp (y_callV (l22Edits_v _ _ k b0) (by rfl) ?_)
  repeat (first | refine R1 ?_ | (refine R2 ?_; intro _))
  refine sf_cond (by rfl) (fun g4 => ?_) fun g4 => ?_
  · repeat (first | refine R1 ?_ | (refine R2 ?_; intro _))
    exact sf_ret (rV (by rw [hN (by simp at g4; simp [keepHead]; intros; rcases g4 with h | h <;> first | exact h | (exfalso; omega))]))
  have hk : HeadOk k := by
    simp at g1 g4
    exact ⟨g0', by omega, by omega, g4.1, g4.2⟩
  have hK := hk.is
  have hF : ∀ {b : Bool}, (partsOk k k.parts.length && shownsOk k k.shown.length) = b → keepOk k = b := fun e => by rw [keepOk, hK, Bool.true_and]; exact e
  have n3 := hk.n3
  clear hN g0 g1 g4
  repeat (first | refine R1 ?_ | (refine R2 ?_; intro _))
  rename_i b1
  refine sf_lp (ι := Nat) [1, 3] (fun i => [(4, .int .i64 (i : Int))]) (fun i O => (i ≤ rp.length ∧ partsOk k i = true) ∧ O = [(b1, .cells #[.int .i64 k.first.wide, c, ed, p, s] 39)]) (fun i => rp.length - i) 0 [(b1, .cells #[.int .i64 k.first.wide, c, ed, p, s] 39)] ⟨⟨by omega, rfl⟩, rfl⟩ ?_
  rintro i O ⟨⟨hi, hpi⟩, rfl⟩
  repeat (first | refine R1 ?_ | (refine R2 ?_; intro _))
  refine sf_if (fun e1 => ?_) fun e1 => ?_
  · have hi1 : i < k.parts.length := by omega
    have hi2 : i < rp.length := by omega
    obtain ⟨l, ex, sl⟩ := partB (bp.at hi1)
    have ol := sl.one
    have hsl := sl.small
    have hG : partOk k (i + 1) (gt k.parts i) = false → keepOk k = false := fun e => hF (by rw [partsOk_F hi1 e]; rfl)
    have hS : partsOk k (i + 1) = partOk k (i + 1) (gt k.parts i) := by rw [partsOk_step, hpi, Bool.true_and]
    have hpo : partOk k (i + 1) (gt k.parts i) = if (gt k.parts i).has = true then verOk k (gt k.parts i).ver && decide ((gt k.parts i).lights = partLights k (i + 1) (gt k.parts i).ver) else decide ((gt k.parts i).ver = 0) && decide ((gt k.parts i).lights.length = 0) := rfl
    haveI : FlatV (rawF (partR τ).sz) (gt rp i) [.bool (gt k.parts i).has, .int .i64 (gt k.parts i).ver, l] := ⟨ex⟩
    repeat (first | refine R1 ?_ | (refine R2 ?_; intro _))
    refine sf_keep [1, 3, 4, 5] ?_
    cases hh : (gt k.parts i).has with
    | false =>
      rw [hh] at hpo
      simp only [Bool.false_eq_true, if_false] at hpo
      by_cases h2 : (gt k.parts i).ver ≠ 0
      · refine sf_draw (by kernel_rfl) (regX_run [[], [0], [0, 1], [0, 1, 2], [0, 1, 2, 3], [0, 1, 2, 3, 4], [0, 1, 2, 3, 4, 5], [0, 1, 2, 3, 4, 5, 6], [0, 1, 2, 3, 4, 5, 6, 7], [0, 1, 2, 3, 4, 5, 6, 7, 8], [0, 1, 2, 3, 4, 5, 6, 7, 8, 9], [0, 1, 2, 3, 4, 5, 6, 7, 8, 9, 10], [0, 1, 2, 3, 4, 5, 6, 7, 8, 9, 10, 11], [0, 1, 2, 3, 4, 5, 6, 7, 8, 9, 10, 11, 12], [0, 1, 2, 3, 4, 5, 6, 7, 8, 9, 10, 11, 12, 13], [0, 1, 2, 3, 4, 5, 6, 7, 8, 9, 10, 11, 12, 13, 14], [0, 1, 2, 3, 4, 5, 6, 7, 8, 9, 10, 11, 12, 13, 14, 15], [0, 1, 2, 3, 4, 5, 6, 7, 8, 9, 10, 11, 12, 13, 14, 15, 16], [0, 1, 2, 3, 4, 5, 6, 7, 8, 9, 10, 11, 12, 13, 14, 15, 16, 17], [0, 1, 2, 3, 4, 5, 6, 7, 8, 9, 10, 11, 12, 13, 14, 15, 16, 17, 18], [0, 1, 2, 3, 4, 5, 6, 7, 8, 9, 10, 11, 12, 13, 14, 15, 16, 17], [0, 1, 2, 3, 4, 5, 6, 7, 8, 9, 10, 11, 12, 13, 14, 15, 16, 17, 18, 19, 20], [0, 1, 2, 3, 4, 5, 6, 7, 8, 9, 10, 11, 12, 13, 14, 15, 16, 17, 18, 19, 20, 21], [0, 1, 2, 3, 4, 5, 6, 7, 8, 9, 10, 11, 12, 13, 14, 15, 16, 17, 18, 19, 20, 21, 22], [0, 1, 2, 3, 4, 5, 6, 7, 8, 9, 10, 11, 12, 13, 14, 15, 16, 17, 18, 19, 20, 21, 22, 23], [0, 1, 2, 3, 4, 5, 6, 7, 8, 9, 10, 11, 12, 13, 14, 15, 16, 17, 18, 19, 20, 21, 22, 23, 24], [0, 1, 2, 3, 4, 5, 6, 7, 8, 9, 10, 11, 12, 13, 14, 15, 16, 17, 18, 19, 20, 21, 22, 23], [0, 1, 2, 3, 4, 5, 6, 7, 8, 9, 10, 11, 12, 13, 14, 15, 16, 17, 18, 19, 20, 21, 22, 23], [0, 1, 2, 3, 4, 5, 6, 7, 8, 9, 10, 11, 12, 13, 14, 15, 16, 17, 18, 19, 20, 21, 22, 23, 27], [0, 1, 2, 3, 4, 5, 6, 7, 8, 9, 10, 11, 12, 13, 14, 15, 16, 17, 18, 19, 20, 21, 22, 23], [0, 1, 2, 3, 4, 5, 6, 7, 8, 9, 10, 11, 12, 13, 14, 15, 16, 17, 18, 19, 20, 21, 22, 23, 29], [0, 1, 2, 3, 4, 5, 6, 7, 8, 9, 10, 11, 12, 13, 14, 15, 16, 17, 18, 19, 20, 21, 22, 23, 26, 27, 28, 29, 30], [0, 1, 2, 3, 4, 5, 6, 7, 8, 9, 10, 11, 12, 13, 14, 15, 16, 17, 18, 19, 20, 21, 22, 23, 24, 25, 26, 27, 28, 29, 30, 31], [0, 1, 2, 3, 4, 5, 6, 7, 8, 9, 10, 11, 12, 13, 14, 15, 16, 17, 18, 19, 20, 21, 22, 23, 24, 25, 26, 27, 28, 29, 30, 31, 32], [0, 1, 2, 3, 4, 5, 6, 7, 8, 9, 10, 11, 12, 13, 14, 15, 16, 17, 18, 19, 20, 21, 22, 23, 24, 25, 26, 27, 28, 29, 30, 31, 32, 33], [0, 1, 2, 3, 4, 5, 6, 7, 8, 9, 10, 11, 12, 13, 14, 15, 16, 17, 18, 19, 20, 21, 22, 23, 24, 25, 26, 27, 28, 29, 30, 31, 32, 33, 34], [0, 1, 2, 3, 4, 5, 6, 7, 8, 9, 10, 11, 12, 13, 14, 15, 16, 17, 18, 19, 20, 21, 22, 23, 24, 25, 26, 27, 28, 29, 30, 31, 32, 33, 34, 35]] 32 [(0, false), (1, false), (2, false), (3, false), (4, false), (5, false), (6, false), (7, false), (8, false), (9, false), (10, false), (11, false), (12, false), (13, false), (14, false), (15, false), (16, false), (17, false), (18, false), (19, false), (20, false), (21, false), (22, false), (23, false), (24, false), (25, false), (26, false), (27, false), (28, false), (29, false), (30, false), (31, false)] (by kernel_rfl) (by kernel_rfl) (by kernel_rfl) ?_)
        repeat (refine Da1 ?_)
        (refine a_end (by rfl) (by rfl) ?_; simp only [finA, setL, List.drop_succ_cons, List.drop_zero])
        repeat (first | refine R1 ?_ | (refine R2 ?_; intro _))
        refine sf_T rfl ?_
        repeat (first | refine R1 ?_ | (refine R2 ?_; intro _))
        exact sf_ret (rV (by rw [hG (by rw [hpo]; simp [h2])]))
      · by_cases h3 : ((gt k.parts i).lights.length : Int) > 0
        · refine sf_draw (by kernel_rfl) (regX_run [[], [0], [0, 1], [0, 1, 2], [0, 1, 2, 3], [0, 1, 2, 3, 4], [0, 1, 2, 3, 4, 5], [0, 1, 2, 3, 4, 5, 6], [0, 1, 2, 3, 4, 5, 6, 7], [0, 1, 2, 3, 4, 5, 6, 7, 8], [0, 1, 2, 3, 4, 5, 6, 7, 8, 9], [0, 1, 2, 3, 4, 5, 6, 7, 8, 9, 10], [0, 1, 2, 3, 4, 5, 6, 7, 8, 9, 10, 11], [0, 1, 2, 3, 4, 5, 6, 7, 8, 9, 10, 11, 12], [0, 1, 2, 3, 4, 5, 6, 7, 8, 9, 10, 11, 12, 13], [0, 1, 2, 3, 4, 5, 6, 7, 8, 9, 10, 11, 12, 13, 14], [0, 1, 2, 3, 4, 5, 6, 7, 8, 9, 10, 11, 12, 13, 14, 15], [0, 1, 2, 3, 4, 5, 6, 7, 8, 9, 10, 11, 12, 13, 14, 15, 16], [0, 1, 2, 3, 4, 5, 6, 7, 8, 9, 10, 11, 12, 13, 14, 15, 16, 17], [0, 1, 2, 3, 4, 5, 6, 7, 8, 9, 10, 11, 12, 13, 14, 15, 16, 17, 18], [0, 1, 2, 3, 4, 5, 6, 7, 8, 9, 10, 11, 12, 13, 14, 15, 16, 17], [0, 1, 2, 3, 4, 5, 6, 7, 8, 9, 10, 11, 12, 13, 14, 15, 16, 17, 18, 19, 20], [0, 1, 2, 3, 4, 5, 6, 7, 8, 9, 10, 11, 12, 13, 14, 15, 16, 17, 18, 19, 20, 21], [0, 1, 2, 3, 4, 5, 6, 7, 8, 9, 10, 11, 12, 13, 14, 15, 16, 17, 18, 19, 20, 21, 22], [0, 1, 2, 3, 4, 5, 6, 7, 8, 9, 10, 11, 12, 13, 14, 15, 16, 17, 18, 19, 20, 21, 22, 23], [0, 1, 2, 3, 4, 5, 6, 7, 8, 9, 10, 11, 12, 13, 14, 15, 16, 17, 18, 19, 20, 21, 22, 23, 24], [0, 1, 2, 3, 4, 5, 6, 7, 8, 9, 10, 11, 12, 13, 14, 15, 16, 17, 18, 19, 20, 21, 22, 23], [0, 1, 2, 3, 4, 5, 6, 7, 8, 9, 10, 11, 12, 13, 14, 15, 16, 17, 18, 19, 20, 21, 22, 23], [0, 1, 2, 3, 4, 5, 6, 7, 8, 9, 10, 11, 12, 13, 14, 15, 16, 17, 18, 19, 20, 21, 22, 23, 27], [0, 1, 2, 3, 4, 5, 6, 7, 8, 9, 10, 11, 12, 13, 14, 15, 16, 17, 18, 19, 20, 21, 22, 23], [0, 1, 2, 3, 4, 5, 6, 7, 8, 9, 10, 11, 12, 13, 14, 15, 16, 17, 18, 19, 20, 21, 22, 23, 29], [0, 1, 2, 3, 4, 5, 6, 7, 8, 9, 10, 11, 12, 13, 14, 15, 16, 17, 18, 19, 20, 21, 22, 23, 26, 27, 28, 29, 30], [0, 1, 2, 3, 4, 5, 6, 7, 8, 9, 10, 11, 12, 13, 14, 15, 16, 17, 18, 19, 20, 21, 22, 23, 24, 25, 26, 27, 28, 29, 30, 31], [0, 1, 2, 3, 4, 5, 6, 7, 8, 9, 10, 11, 12, 13, 14, 15, 16, 17, 18, 19, 20, 21, 22, 23, 24, 25, 26, 27, 28, 29, 30, 31, 32], [0, 1, 2, 3, 4, 5, 6, 7, 8, 9, 10, 11, 12, 13, 14, 15, 16, 17, 18, 19, 20, 21, 22, 23, 24, 25, 26, 27, 28, 29, 30, 31, 32, 33], [0, 1, 2, 3, 4, 5, 6, 7, 8, 9, 10, 11, 12, 13, 14, 15, 16, 17, 18, 19, 20, 21, 22, 23, 24, 25, 26, 27, 28, 29, 30, 31, 32, 33, 34], [0, 1, 2, 3, 4, 5, 6, 7, 8, 9, 10, 11, 12, 13, 14, 15, 16, 17, 18, 19, 20, 21, 22, 23, 24, 25, 26, 27, 28, 29, 30, 31, 32, 33, 34, 35]] 32 [(0, false), (1, false), (2, false), (3, false), (4, false), (5, false), (6, false), (7, false), (8, false), (9, false), (10, false), (11, false), (12, false), (13, false), (14, false), (15, false), (16, false), (17, false), (18, false), (19, false), (20, false), (21, false), (22, false), (23, false), (24, false), (25, false), (26, false), (27, false), (28, false), (29, false), (30, false), (31, false)] (by kernel_rfl) (by kernel_rfl) (by kernel_rfl) ?_)
          repeat (refine Da1 ?_)
          (refine a_end (by rfl) (by rfl) ?_; simp only [finA, setL, List.drop_succ_cons, List.drop_zero])
          repeat (first | refine R1 ?_ | (refine R2 ?_; intro _))
          refine sf_T rfl ?_
          repeat (first | refine R1 ?_ | (refine R2 ?_; intro _))
          exact sf_ret (rV (by rw [hG (by rw [hpo, decide_eq_false (p := (gt k.parts i).lights.length = 0) (by omega)]; simp)]))
        · refine sf_draw (by kernel_rfl) (regX_run [[], [0], [0, 1], [0, 1, 2], [0, 1, 2, 3], [0, 1, 2, 3, 4], [0, 1, 2, 3, 4, 5], [0, 1, 2, 3, 4, 5, 6], [0, 1, 2, 3, 4, 5, 6, 7], [0, 1, 2, 3, 4, 5, 6, 7, 8], [0, 1, 2, 3, 4, 5, 6, 7, 8, 9], [0, 1, 2, 3, 4, 5, 6, 7, 8, 9, 10], [0, 1, 2, 3, 4, 5, 6, 7, 8, 9, 10, 11], [0, 1, 2, 3, 4, 5, 6, 7, 8, 9, 10, 11, 12], [0, 1, 2, 3, 4, 5, 6, 7, 8, 9, 10, 11, 12, 13], [0, 1, 2, 3, 4, 5, 6, 7, 8, 9, 10, 11, 12, 13, 14], [0, 1, 2, 3, 4, 5, 6, 7, 8, 9, 10, 11, 12, 13, 14, 15], [0, 1, 2, 3, 4, 5, 6, 7, 8, 9, 10, 11, 12, 13, 14, 15, 16], [0, 1, 2, 3, 4, 5, 6, 7, 8, 9, 10, 11, 12, 13, 14, 15, 16, 17], [0, 1, 2, 3, 4, 5, 6, 7, 8, 9, 10, 11, 12, 13, 14, 15, 16, 17, 18], [0, 1, 2, 3, 4, 5, 6, 7, 8, 9, 10, 11, 12, 13, 14, 15, 16, 17], [0, 1, 2, 3, 4, 5, 6, 7, 8, 9, 10, 11, 12, 13, 14, 15, 16, 17, 18, 19, 20], [0, 1, 2, 3, 4, 5, 6, 7, 8, 9, 10, 11, 12, 13, 14, 15, 16, 17, 18, 19, 20, 21], [0, 1, 2, 3, 4, 5, 6, 7, 8, 9, 10, 11, 12, 13, 14, 15, 16, 17, 18, 19, 20, 21, 22], [0, 1, 2, 3, 4, 5, 6, 7, 8, 9, 10, 11, 12, 13, 14, 15, 16, 17, 18, 19, 20, 21, 22, 23], [0, 1, 2, 3, 4, 5, 6, 7, 8, 9, 10, 11, 12, 13, 14, 15, 16, 17, 18, 19, 20, 21, 22, 23, 24], [0, 1, 2, 3, 4, 5, 6, 7, 8, 9, 10, 11, 12, 13, 14, 15, 16, 17, 18, 19, 20, 21, 22, 23], [0, 1, 2, 3, 4, 5, 6, 7, 8, 9, 10, 11, 12, 13, 14, 15, 16, 17, 18, 19, 20, 21, 22, 23], [0, 1, 2, 3, 4, 5, 6, 7, 8, 9, 10, 11, 12, 13, 14, 15, 16, 17, 18, 19, 20, 21, 22, 23, 27], [0, 1, 2, 3, 4, 5, 6, 7, 8, 9, 10, 11, 12, 13, 14, 15, 16, 17, 18, 19, 20, 21, 22, 23], [0, 1, 2, 3, 4, 5, 6, 7, 8, 9, 10, 11, 12, 13, 14, 15, 16, 17, 18, 19, 20, 21, 22, 23, 29], [0, 1, 2, 3, 4, 5, 6, 7, 8, 9, 10, 11, 12, 13, 14, 15, 16, 17, 18, 19, 20, 21, 22, 23, 26, 27, 28, 29, 30], [0, 1, 2, 3, 4, 5, 6, 7, 8, 9, 10, 11, 12, 13, 14, 15, 16, 17, 18, 19, 20, 21, 22, 23, 24, 25, 26, 27, 28, 29, 30, 31], [0, 1, 2, 3, 4, 5, 6, 7, 8, 9, 10, 11, 12, 13, 14, 15, 16, 17, 18, 19, 20, 21, 22, 23, 24, 25, 26, 27, 28, 29, 30, 31, 32], [0, 1, 2, 3, 4, 5, 6, 7, 8, 9, 10, 11, 12, 13, 14, 15, 16, 17, 18, 19, 20, 21, 22, 23, 24, 25, 26, 27, 28, 29, 30, 31, 32, 33], [0, 1, 2, 3, 4, 5, 6, 7, 8, 9, 10, 11, 12, 13, 14, 15, 16, 17, 18, 19, 20, 21, 22, 23, 24, 25, 26, 27, 28, 29, 30, 31, 32, 33, 34], [0, 1, 2, 3, 4, 5, 6, 7, 8, 9, 10, 11, 12, 13, 14, 15, 16, 17, 18, 19, 20, 21, 22, 23, 24, 25, 26, 27, 28, 29, 30, 31, 32, 33, 34, 35]] 32 [(0, false), (1, false), (2, false), (3, false), (4, false), (5, false), (6, false), (7, false), (8, false), (9, false), (10, false), (11, false), (12, false), (13, false), (14, false), (15, false), (16, false), (17, false), (18, false), (19, false), (20, false), (21, false), (22, false), (23, false), (24, false), (25, false), (26, false), (27, false), (28, false), (29, false), (30, false), (31, false)] (by kernel_rfl) (by kernel_rfl) (by kernel_rfl) ?_)
          repeat (refine Da1 ?_)
          (refine a_end (by rfl) (by rfl) ?_; simp only [finA, setL, List.drop_succ_cons, List.drop_zero])
          repeat (first | refine R1 ?_ | (refine R2 ?_; intro _))
          refine sf_N rfl ?_
          repeat (first | refine R1 ?_ | (refine R2 ?_; intro _))
          exact ⟨i + 1, by omega, ⟨rfl, trivial⟩, rfl, _, _, inferInstance, ⟨by omega, by rw [hS, hpo, decide_eq_true (p := (gt k.parts i).lights.length = 0) (by omega), decide_eq_true (p := (gt k.parts i).ver = 0) (by omega)]; rfl⟩, rfl⟩
    | true =>
      rw [hh] at hpo
      simp only [if_true] at hpo
      have c21 : ∀ h, CallV Tryz.prog M 60 [.int .i64 (gt k.parts i).ver, .int .i64 0, .int .i64 k.edits.length] h (.bool (verOk k (gt k.parts i).ver)) := fun h => l6In_v h _ _ _
      cases hv : verOk k (gt k.parts i).ver with
      | false =>
        rw [hv] at c21 hpo
        refine sf_draw (by kernel_rfl) (regX_run [[], [0], [0, 1], [0, 1, 2], [0, 1, 2, 3], [0, 1, 2, 3, 4], [0, 1, 2, 3, 4, 5], [0, 1, 2, 3, 4, 5, 6], [0, 1, 2, 3, 4, 5, 6, 7], [0, 1, 2, 3, 4, 5, 6, 7, 8], [0, 1, 2, 3, 4, 5, 6, 7, 8, 9], [0, 1, 2, 3, 4, 5, 6, 7, 8, 9, 10], [0, 1, 2, 3, 4, 5, 6, 7, 8, 9, 10, 11], [0, 1, 2, 3, 4, 5, 6, 7, 8, 9, 10, 11, 12], [0, 1, 2, 3, 4, 5, 6, 7, 8, 9, 10, 11, 12, 13], [0, 1, 2, 3, 4, 5, 6, 7, 8, 9, 10, 11, 12, 13, 14], [0, 1, 2, 3, 4, 5, 6, 7, 8, 9, 10, 11, 12, 13, 14, 15], [0, 1, 2, 3, 4, 5, 6, 7, 8, 9, 10, 11, 12, 13, 14, 15, 16], [0, 1, 2, 3, 4, 5, 6, 7, 8, 9, 10, 11, 12, 13, 14, 15, 16, 17], [0, 1, 2, 3, 4, 5, 6, 7, 8, 9, 10, 11, 12, 13, 14, 15, 16, 17, 18], [0, 1, 2, 3, 4, 5, 6, 7, 8, 9, 10, 11, 12, 13, 14, 15, 16, 17], [0, 1, 2, 3, 4, 5, 6, 7, 8, 9, 10, 11, 12, 13, 14, 15, 16, 17, 18, 19, 20], [0, 1, 2, 3, 4, 5, 6, 7, 8, 9, 10, 11, 12, 13, 14, 15, 16, 17, 18, 19, 20, 21], [0, 1, 2, 3, 4, 5, 6, 7, 8, 9, 10, 11, 12, 13, 14, 15, 16, 17, 18, 19, 20, 21, 22], [0, 1, 2, 3, 4, 5, 6, 7, 8, 9, 10, 11, 12, 13, 14, 15, 16, 17, 18, 19, 20, 21, 22, 23], [0, 1, 2, 3, 4, 5, 6, 7, 8, 9, 10, 11, 12, 13, 14, 15, 16, 17, 18, 19, 20, 21, 22, 23, 24], [0, 1, 2, 3, 4, 5, 6, 7, 8, 9, 10, 11, 12, 13, 14, 15, 16, 17, 18, 19, 20, 21, 22, 23], [0, 1, 2, 3, 4, 5, 6, 7, 8, 9, 10, 11, 12, 13, 14, 15, 16, 17, 18, 19, 20, 21, 22, 23], [0, 1, 2, 3, 4, 5, 6, 7, 8, 9, 10, 11, 12, 13, 14, 15, 16, 17, 18, 19, 20, 21, 22, 23, 27], [0, 1, 2, 3, 4, 5, 6, 7, 8, 9, 10, 11, 12, 13, 14, 15, 16, 17, 18, 19, 20, 21, 22, 23], [0, 1, 2, 3, 4, 5, 6, 7, 8, 9, 10, 11, 12, 13, 14, 15, 16, 17, 18, 19, 20, 21, 22, 23, 29], [0, 1, 2, 3, 4, 5, 6, 7, 8, 9, 10, 11, 12, 13, 14, 15, 16, 17, 18, 19, 20, 21, 22, 23, 26, 27, 28, 29, 30], [0, 1, 2, 3, 4, 5, 6, 7, 8, 9, 10, 11, 12, 13, 14, 15, 16, 17, 18, 19, 20, 21, 22, 23, 24, 25, 26, 27, 28, 29, 30, 31], [0, 1, 2, 3, 4, 5, 6, 7, 8, 9, 10, 11, 12, 13, 14, 15, 16, 17, 18, 19, 20, 21, 22, 23, 24, 25, 26, 27, 28, 29, 30, 31, 32], [0, 1, 2, 3, 4, 5, 6, 7, 8, 9, 10, 11, 12, 13, 14, 15, 16, 17, 18, 19, 20, 21, 22, 23, 24, 25, 26, 27, 28, 29, 30, 31, 32, 33], [0, 1, 2, 3, 4, 5, 6, 7, 8, 9, 10, 11, 12, 13, 14, 15, 16, 17, 18, 19, 20, 21, 22, 23, 24, 25, 26, 27, 28, 29, 30, 31, 32, 33, 34], [0, 1, 2, 3, 4, 5, 6, 7, 8, 9, 10, 11, 12, 13, 14, 15, 16, 17, 18, 19, 20, 21, 22, 23, 24, 25, 26, 27, 28, 29, 30, 31, 32, 33, 34, 35]] 32 [(0, false), (1, false), (2, false), (3, false), (4, false), (5, false), (6, false), (7, false), (8, false), (9, false), (10, false), (11, false), (12, false), (13, false), (14, false), (15, false), (16, false), (17, false), (18, false), (19, false), (20, false), (21, true), (22, false), (23, false), (24, false), (25, false), (26, false), (27, false), (28, false), (29, false), (30, false), (31, false)] (by kernel_rfl) (by kernel_rfl) (by kernel_rfl) ?_)
        repeat (refine Da1 ?_)
        refine a_callV (c21 h) (by rfl) (by rfl) (.inr ⟨_, _, _, _, rfl, by rfl, by rfl, by rfl⟩) ?_
        repeat (refine Da1 ?_)
        (refine a_end (by rfl) (by rfl) ?_; simp only [finA, setL, List.drop_succ_cons, List.drop_zero])
        repeat (first | refine R1 ?_ | (refine R2 ?_; intro _))
        refine sf_T rfl ?_
        repeat (first | refine R1 ?_ | (refine R2 ?_; intro _))
        exact sf_ret (rV (by rw [hG (by rw [hpo]; rfl)]))
      | true =>
        rw [hv] at c21 hpo
        rw [Bool.true_and] at hpo
        refine sf_draw (by kernel_rfl) (regX_run [[], [0], [0, 1], [0, 1, 2], [0, 1, 2, 3], [0, 1, 2, 3, 4], [0, 1, 2, 3, 4, 5], [0, 1, 2, 3, 4, 5, 6], [0, 1, 2, 3, 4, 5, 6, 7], [0, 1, 2, 3, 4, 5, 6, 7, 8], [0, 1, 2, 3, 4, 5, 6, 7, 8, 9], [0, 1, 2, 3, 4, 5, 6, 7, 8, 9, 10], [0, 1, 2, 3, 4, 5, 6, 7, 8, 9, 10, 11], [0, 1, 2, 3, 4, 5, 6, 7, 8, 9, 10, 11, 12], [0, 1, 2, 3, 4, 5, 6, 7, 8, 9, 10, 11, 12, 13], [0, 1, 2, 3, 4, 5, 6, 7, 8, 9, 10, 11, 12, 13, 14], [0, 1, 2, 3, 4, 5, 6, 7, 8, 9, 10, 11, 12, 13, 14, 15], [0, 1, 2, 3, 4, 5, 6, 7, 8, 9, 10, 11, 12, 13, 14, 15, 16], [0, 1, 2, 3, 4, 5, 6, 7, 8, 9, 10, 11, 12, 13, 14, 15, 16, 17], [0, 1, 2, 3, 4, 5, 6, 7, 8, 9, 10, 11, 12, 13, 14, 15, 16, 17, 18], [0, 1, 2, 3, 4, 5, 6, 7, 8, 9, 10, 11, 12, 13, 14, 15, 16, 17], [0, 1, 2, 3, 4, 5, 6, 7, 8, 9, 10, 11, 12, 13, 14, 15, 16, 17, 18, 19, 20], [0, 1, 2, 3, 4, 5, 6, 7, 8, 9, 10, 11, 12, 13, 14, 15, 16, 17, 18, 19, 20, 21], [0, 1, 2, 3, 4, 5, 6, 7, 8, 9, 10, 11, 12, 13, 14, 15, 16, 17, 18, 19, 20, 21, 22], [0, 1, 2, 3, 4, 5, 6, 7, 8, 9, 10, 11, 12, 13, 14, 15, 16, 17, 18, 19, 20, 21, 22, 23], [0, 1, 2, 3, 4, 5, 6, 7, 8, 9, 10, 11, 12, 13, 14, 15, 16, 17, 18, 19, 20, 21, 22, 23, 24], [0, 1, 2, 3, 4, 5, 6, 7, 8, 9, 10, 11, 12, 13, 14, 15, 16, 17, 18, 19, 20, 21, 22, 23], [0, 1, 2, 3, 4, 5, 6, 7, 8, 9, 10, 11, 12, 13, 14, 15, 16, 17, 18, 19, 20, 21, 22, 23], [0, 1, 2, 3, 4, 5, 6, 7, 8, 9, 10, 11, 12, 13, 14, 15, 16, 17, 18, 19, 20, 21, 22, 23, 27], [0, 1, 2, 3, 4, 5, 6, 7, 8, 9, 10, 11, 12, 13, 14, 15, 16, 17, 18, 19, 20, 21, 22, 23], [0, 1, 2, 3, 4, 5, 6, 7, 8, 9, 10, 11, 12, 13, 14, 15, 16, 17, 18, 19, 20, 21, 22, 23, 29], [0, 1, 2, 3, 4, 5, 6, 7, 8, 9, 10, 11, 12, 13, 14, 15, 16, 17, 18, 19, 20, 21, 22, 23, 26, 27, 28, 29, 30], [0, 1, 2, 3, 4, 5, 6, 7, 8, 9, 10, 11, 12, 13, 14, 15, 16, 17, 18, 19, 20, 21, 22, 23, 24, 25, 26, 27, 28, 29, 30, 31], [0, 1, 2, 3, 4, 5, 6, 7, 8, 9, 10, 11, 12, 13, 14, 15, 16, 17, 18, 19, 20, 21, 22, 23, 24, 25, 26, 27, 28, 29, 30, 31, 32], [0, 1, 2, 3, 4, 5, 6, 7, 8, 9, 10, 11, 12, 13, 14, 15, 16, 17, 18, 19, 20, 21, 22, 23, 24, 25, 26, 27, 28, 29, 30, 31, 32, 33], [0, 1, 2, 3, 4, 5, 6, 7, 8, 9, 10, 11, 12, 13, 14, 15, 16, 17, 18, 19, 20, 21, 22, 23, 24, 25, 26, 27, 28, 29, 30, 31, 32, 33, 34], [0, 1, 2, 3, 4, 5, 6, 7, 8, 9, 10, 11, 12, 13, 14, 15, 16, 17, 18, 19, 20, 21, 22, 23, 24, 25, 26, 27, 28, 29, 30, 31, 32, 33, 34, 35]] 32 [(0, false), (1, false), (2, false), (3, false), (4, false), (5, false), (6, false), (7, false), (8, false), (9, false), (10, false), (11, false), (12, false), (13, false), (14, false), (15, false), (16, false), (17, false), (18, false), (19, false), (20, false), (21, true), (22, false), (23, false), (24, false), (25, false), (26, false), (27, false), (28, false), (29, false), (30, false), (31, true)] (by kernel_rfl) (by kernel_rfl) (by kernel_rfl) ?_)
        repeat (refine Da1 ?_)
        refine a_callV (c21 h) (by rfl) (by rfl) (.inr ⟨_, _, _, _, rfl, by rfl, by rfl, by rfl⟩) ?_
        repeat (refine Da1 ?_)
        refine a_call (l22Own_f h _ k b0 hk (i + 1) (by omega) (by omega) (gt k.parts i).ver hv) (by rfl) (by rfl) (.inr ⟨_, _, _, _, rfl, by rfl, by rfl, by rfl⟩) ?_
        intro v2 A2 g2
        have o6 := g2.one
        repeat (refine Da1 ?_)
        (refine a_end (by rfl) (by rfl) ?_; simp only [finA, setL, List.drop_succ_cons, List.drop_zero])
        refine fp (y_lendV A2 (fun h' l' inb => l13Same_v h' _ _ _ _ (sl.le l'.le) (g2.lent (by have := partLights_le hk (i + 1) (gt k.parts i).ver; omega) inb)) (by rfl) ?_)
        repeat (first | refine R1 ?_ | (refine R2 ?_; intro _))
        refine sf_cond (by rfl) (fun h5 => ?_) fun h5 => ?_
        · simp only [Bool.not_eq_true'] at h5
          repeat (first | refine R1 ?_ | (refine R2 ?_; intro _))
          exact sf_ret (rV (by rw [hG (by rw [hpo, h5])]))
        · simp only [Bool.not_eq_false'] at h5
          repeat (first | refine R1 ?_ | (refine R2 ?_; intro _))
          exact ⟨i + 1, by omega, ⟨rfl, trivial⟩, rfl, [(b1, .cells #[.int .i64 k.first.wide, c, ed, p, s] 39)], _, inferInstance, ⟨by omega, by rw [hS, hpo, h5]⟩, rfl⟩
  · refine sf_exit ?_
    have hpo : partsOk k k.parts.length = true := by rw [show k.parts.length = i by omega]; exact hpi
    clear hpi hi e1
    repeat (first | refine R1 ?_ | (refine R2 ?_; intro _))
    refine sf_lp (ι := Nat) [1, 3] (fun i => [(6, .int .i64 (i : Int))]) (fun i O => (i ≤ rs.length ∧ shownsOk k i = true) ∧ O = [(b1, .cells #[.int .i64 k.first.wide, c, ed, p, s] 39)]) (fun i => rs.length - i) 0 [(b1, .cells #[.int .i64 k.first.wide, c, ed, p, s] 39)] ⟨⟨by omega, rfl⟩, rfl⟩ ?_
    rintro j O ⟨⟨hi, hpi⟩, rfl⟩
    repeat (first | refine R1 ?_ | (refine R2 ?_; intro _))
    refine sf_if (fun e2 => ?_) fun e2 => ?_
    · have hi1 : j < k.shown.length := by omega
      have hi2 : j < rs.length := by omega
      obtain ⟨l, ex, sl⟩ := shownB (bs.at hi1)
      have ol := sl.one
      have hsl := sl.small
      haveI : FlatV (rawF (shownR τ).sz) (gt rs j) [.int .i64 (gt k.shown j).ver, l] := ⟨ex⟩
      have hG : shownOk k j = false → keepOk k = false := fun e => hF (by rw [shownsOk_F hi1 e]; simp)
      have hS : shownsOk k (j + 1) = shownOk k j := by rw [shownsOk_step, hpi, Bool.true_and]
      have c3 : ∀ h, CallV Tryz.prog M 60 [.int .i64 (gt k.shown j).ver, .int .i64 0, .int .i64 k.edits.length] h (.bool (verOk k (gt k.shown j).ver)) := fun h => l6In_v h _ _ _
      repeat (first | refine R1 ?_ | (refine R2 ?_; intro _))
      refine sf_keep [1, 3, 6, 7] ?_
      cases hv : verOk k (gt k.shown j).ver with
      | false =>
        rw [hv] at c3
        refine sf_draw (by kernel_rfl) (regX_run [[], [0], [], [0, 1, 2], [0, 1, 2, 3], [0, 1, 2, 3, 4], [0, 1, 2, 3, 4, 5], [0, 1, 2, 3, 4, 5, 6], [0, 1, 2, 3, 4, 5, 6, 7], [0, 1, 2, 3, 4, 5, 6, 7, 8], [0, 1, 2, 3, 4, 5, 6, 7, 8, 9], [0, 1, 2, 3, 4, 5, 6, 7, 8], [0, 1, 2, 3, 4, 5, 6, 7, 8, 11], [0, 1, 2, 3, 4, 5, 6, 7, 8, 9, 10, 11, 12], [0, 1, 2, 3, 4, 5, 6, 7, 8, 9, 10, 11, 12, 13], [0, 1, 2, 3, 4, 5, 6, 7, 8, 9, 10, 11, 12, 13, 14], [0, 1, 2, 3, 4, 5, 6, 7, 8], [0, 1, 2, 3, 4, 5, 6, 7, 8, 16], [0, 1, 2, 3, 4, 5, 6, 7, 8, 9, 10, 11, 12, 13, 14, 15, 16, 17], [0, 1, 2, 3, 4, 5, 6, 7, 8, 9, 10, 11, 12, 13, 14, 15, 16, 17, 18], [0, 1, 2, 3, 4, 5, 6, 7, 8, 9, 10, 11, 12, 13, 14, 15, 16, 17, 18, 19], [0, 1, 2, 3, 4, 5, 6, 7, 8, 9, 10, 11, 12, 13, 14, 15, 16, 17, 18, 19, 20], [0, 1, 2, 3, 4, 5, 6, 7, 8, 9, 10, 11, 12, 13, 14, 15, 16, 17, 18, 19, 20, 21], [0, 1, 2, 3, 4, 5, 6, 7, 8, 9, 10, 11, 12, 13, 14, 15, 16, 17, 18, 19, 20, 21, 22], [0, 1, 2, 3, 4, 5, 6, 7, 8, 9, 10, 11, 12, 13, 14, 15, 16, 17, 18, 19, 20, 21], [0, 1, 2, 3, 4, 5, 6, 7, 8, 9, 10, 11, 12, 13, 14, 15, 16, 17, 18, 19, 20, 21], [0, 1, 2, 3, 4, 5, 6, 7, 8, 9, 10, 11, 12, 13, 14, 15, 16, 17, 18, 19, 20, 21, 25], [0, 1, 2, 3, 4, 5, 6, 7, 8, 9, 10, 11, 12, 13, 14, 15, 16, 17, 18, 19, 20, 21, 24, 25, 26], [0, 1, 2, 3, 4, 5, 6, 7, 8, 9, 10, 11, 12, 13, 14, 15, 16, 17, 18, 19, 20, 21, 24, 25, 26, 27], [0, 1, 2, 3, 4, 5, 6, 7, 8, 9, 10, 11, 12, 13, 14, 15, 16, 17, 18, 19, 20, 21, 22, 23, 24, 25, 26, 27, 28], [0, 1, 2, 3, 4, 5, 6, 7, 8, 9, 10, 11, 12, 13, 14, 15, 16, 17, 18, 19, 20, 21, 22, 23, 24, 25, 26, 27, 28, 29], [0, 1, 2, 3, 4, 5, 6, 7, 8, 9, 10, 11, 12, 13, 14, 15, 16, 17, 18, 19, 20, 21, 22, 23, 24, 25, 26, 27, 28, 29, 30]] 29 [(0, false), (1, false), (2, false), (3, true), (4, false), (5, false), (6, false), (7, false), (8, false), (9, false), (10, false), (11, false), (12, false), (13, false), (14, false), (15, false), (16, false), (17, false), (18, false), (19, false), (20, false), (21, false), (22, false), (23, false), (24, false), (25, false), (26, false), (27, false), (28, false)] (by kernel_rfl) (by kernel_rfl) (by kernel_rfl) ?_)
        repeat (refine Da1 ?_)
        refine a_callV (c3 h) (by rfl) (by rfl) (.inl rfl) ?_
        repeat (refine Da1 ?_)
        (refine a_end (by rfl) (by rfl) ?_; simp only [finA, setL, List.drop_succ_cons, List.drop_zero])
        repeat (first | refine R1 ?_ | (refine R2 ?_; intro _))
        refine sf_T rfl ?_
        repeat (first | refine R1 ?_ | (refine R2 ?_; intro _))
        exact sf_ret (rV (by rw [hG (by rw [shownOk, hv]; rfl)]))
      | true =>
        rw [hv] at c3
        have hv' := hv
        simp only [verOk, Bool.and_eq_true, decide_eq_true_eq] at hv'
        have gok' := gridAt_ok hk.grid hk.edits (gt k.shown j).ver
        rcases Nat.eq_zero_or_pos j with rfl | hj0
        · have hpv : prevVer k 0 < (gt k.shown 0).ver := by simp only [prevVer, if_true]; omega
          have hn0 : ¬ (((0 : Nat) : Int) > 0) := by omega
          refine sf_draw (by kernel_rfl) (regX_run [[], [0], [], [0, 1, 2], [0, 1, 2, 3], [0, 1, 2, 3, 4], [0, 1, 2, 3, 4, 5], [0, 1, 2, 3, 4, 5, 6], [0, 1, 2, 3, 4, 5, 6, 7], [0, 1, 2, 3, 4, 5, 6, 7, 8], [0, 1, 2, 3, 4, 5, 6, 7, 8, 9], [0, 1, 2, 3, 4, 5, 6, 7, 8], [0, 1, 2, 3, 4, 5, 6, 7, 8, 11], [0, 1, 2, 3, 4, 5, 6, 7, 8, 9, 10, 11, 12], [0, 1, 2, 3, 4, 5, 6, 7, 8, 9, 10, 11, 12, 13], [0, 1, 2, 3, 4, 5, 6, 7, 8, 9, 10, 11, 12, 13, 14], [0, 1, 2, 3, 4, 5, 6, 7, 8], [0, 1, 2, 3, 4, 5, 6, 7, 8, 16], [0, 1, 2, 3, 4, 5, 6, 7, 8, 9, 10, 11, 12, 13, 14, 15, 16, 17], [0, 1, 2, 3, 4, 5, 6, 7, 8, 9, 10, 11, 12, 13, 14, 15, 16, 17, 18], [0, 1, 2, 3, 4, 5, 6, 7, 8, 9, 10, 11, 12, 13, 14, 15, 16, 17, 18, 19], [0, 1, 2, 3, 4, 5, 6, 7, 8, 9, 10, 11, 12, 13, 14, 15, 16, 17, 18, 19, 20], [0, 1, 2, 3, 4, 5, 6, 7, 8, 9, 10, 11, 12, 13, 14, 15, 16, 17, 18, 19, 20, 21], [0, 1, 2, 3, 4, 5, 6, 7, 8, 9, 10, 11, 12, 13, 14, 15, 16, 17, 18, 19, 20, 21, 22], [0, 1, 2, 3, 4, 5, 6, 7, 8, 9, 10, 11, 12, 13, 14, 15, 16, 17, 18, 19, 20, 21], [0, 1, 2, 3, 4, 5, 6, 7, 8, 9, 10, 11, 12, 13, 14, 15, 16, 17, 18, 19, 20, 21], [0, 1, 2, 3, 4, 5, 6, 7, 8, 9, 10, 11, 12, 13, 14, 15, 16, 17, 18, 19, 20, 21, 25], [0, 1, 2, 3, 4, 5, 6, 7, 8, 9, 10, 11, 12, 13, 14, 15, 16, 17, 18, 19, 20, 21, 24, 25, 26], [0, 1, 2, 3, 4, 5, 6, 7, 8, 9, 10, 11, 12, 13, 14, 15, 16, 17, 18, 19, 20, 21, 24, 25, 26, 27], [0, 1, 2, 3, 4, 5, 6, 7, 8, 9, 10, 11, 12, 13, 14, 15, 16, 17, 18, 19, 20, 21, 22, 23, 24, 25, 26, 27, 28], [0, 1, 2, 3, 4, 5, 6, 7, 8, 9, 10, 11, 12, 13, 14, 15, 16, 17, 18, 19, 20, 21, 22, 23, 24, 25, 26, 27, 28, 29], [0, 1, 2, 3, 4, 5, 6, 7, 8, 9, 10, 11, 12, 13, 14, 15, 16, 17, 18, 19, 20, 21, 22, 23, 24, 25, 26, 27, 28, 29, 30]] 29 [(0, false), (1, false), (2, false), (3, true), (4, false), (5, false), (6, false), (7, false), (8, false), (9, false), (10, false), (11, false), (12, false), (13, false), (14, false), (15, false), (16, false), (17, false), (18, false), (19, false), (20, false), (21, false), (22, false), (23, false), (24, false), (25, false), (26, false), (27, true), (28, true)] (by kernel_rfl) (by kernel_rfl) (by kernel_rfl) ?_)
          repeat (refine Da1 ?_)
          refine a_callV (c3 h) (by rfl) (by rfl) (.inl rfl) ?_
          repeat (refine Da1 ?_)
          refine a_call (l22Grid_f h _ k b0 hk (gt k.shown 0).ver hv) (by rfl) (by rfl) (.inr ⟨_, _, _, _, rfl, by rfl, by rfl, by rfl⟩) ?_
          rintro _ A1 ⟨cs, rfl, q⟩
          obtain ⟨c2, rfl, g1, l1⟩ := gridO q
          have o5 := g1.one
          refine a_call (lendF A1 fun h' _ inb => l12Pic_f h' c2 _ (g1.lent (by omega) inb) (gok gok')) (by rfl) (by rfl) (.inr ⟨_, _, _, _, rfl, by rfl, by rfl, by rfl⟩) ?_
          rintro v2 _ ⟨A2, rfl, g2⟩
          have o6 := g2.one
          repeat (refine Da1 ?_)
          (refine a_end (by rfl) (by rfl) ?_; simp only [finA, setL, List.drop_succ_cons, List.drop_zero])
          refine fp (y_lendV A2 (fun h' l' inb => l13Same_v h' _ _ _ _ (sl.le l'.le) (g2.lent (by rw [picOf_len]; have := (gok gok').many; omega) inb)) (by rfl) ?_)
          repeat (first | refine R1 ?_ | (refine R2 ?_; intro _))
          refine sf_cond (by rfl) (fun h5 => ?_) fun h5 => ?_
          · simp only [Bool.not_eq_true'] at h5
            repeat (first | refine R1 ?_ | (refine R2 ?_; intro _))
            exact sf_ret (rV (by rw [hG (by rw [shownOk, hv, h5]; simp)]))
          · simp only [Bool.not_eq_false'] at h5
            repeat (first | refine R1 ?_ | (refine R2 ?_; intro _))
            exact ⟨0 + 1, by omega, ⟨rfl, trivial⟩, rfl, [(b1, .cells #[.int .i64 k.first.wide, c, ed, p, s] 39)], _, inferInstance, ⟨by omega, by rw [hS, shownOk, hv, h5, decide_eq_true hpv]; rfl⟩, rfl⟩
        · have hn1 : (j : Int) > 0 := by omega
          have hpe : prevVer k j = (gt k.shown (j - 1)).ver := by rw [prevVer, if_neg (by omega)]
          obtain ⟨l2, ex2, sl2⟩ := shownB (bs.at (show j - 1 < k.shown.length by omega))
          have ej : ((j : Int) - 1).toNat = j - 1 := by omega
          haveI : FlatV (rawF (shownR τ).sz) (gt rs (j - 1)) [.int .i64 (gt k.shown (j - 1)).ver, l2] := ⟨ex2⟩
          have ej2 : (j : Int) - 1 = ((j - 1 : Nat) : Int) := by omega
          by_cases hpv : prevVer k j < (gt k.shown j).ver
          · have hn2 : ¬ ((gt k.shown (j - 1)).ver ≥ (gt k.shown j).ver) := by omega
            refine sf_draw (by kernel_rfl) (regX_run [[], [0], [], [0, 1, 2], [0, 1, 2, 3], [0, 1, 2, 3, 4], [0, 1, 2, 3, 4, 5], [0, 1, 2, 3, 4, 5, 6], [0, 1, 2, 3, 4, 5, 6, 7], [0, 1, 2, 3, 4, 5, 6, 7, 8], [0, 1, 2, 3, 4, 5, 6, 7, 8, 9], [0, 1, 2, 3, 4, 5, 6, 7, 8], [0, 1, 2, 3, 4, 5, 6, 7, 8, 11], [0, 1, 2, 3, 4, 5, 6, 7, 8, 9, 10, 11, 12], [0, 1, 2, 3, 4, 5, 6, 7, 8, 9, 10, 11, 12, 13], [0, 1, 2, 3, 4, 5, 6, 7, 8, 9, 10, 11, 12, 13, 14], [0, 1, 2, 3, 4, 5, 6, 7, 8], [0, 1, 2, 3, 4, 5, 6, 7, 8, 16], [0, 1, 2, 3, 4, 5, 6, 7, 8, 9, 10, 11, 12, 13, 14, 15, 16, 17], [0, 1, 2, 3, 4, 5, 6, 7, 8, 9, 10, 11, 12, 13, 14, 15, 16, 17, 18], [0, 1, 2, 3, 4, 5, 6, 7, 8, 9, 10, 11, 12, 13, 14, 15, 16, 17, 18, 19], [0, 1, 2, 3, 4, 5, 6, 7, 8, 9, 10, 11, 12, 13, 14, 15, 16, 17, 18, 19, 20], [0, 1, 2, 3, 4, 5, 6, 7, 8, 9, 10, 11, 12, 13, 14, 15, 16, 17, 18, 19, 20, 21], [0, 1, 2, 3, 4, 5, 6, 7, 8, 9, 10, 11, 12, 13, 14, 15, 16, 17, 18, 19, 20, 21, 22], [0, 1, 2, 3, 4, 5, 6, 7, 8, 9, 10, 11, 12, 13, 14, 15, 16, 17, 18, 19, 20, 21], [0, 1, 2, 3, 4, 5, 6, 7, 8, 9, 10, 11, 12, 13, 14, 15, 16, 17, 18, 19, 20, 21], [0, 1, 2, 3, 4, 5, 6, 7, 8, 9, 10, 11, 12, 13, 14, 15, 16, 17, 18, 19, 20, 21, 25], [0, 1, 2, 3, 4, 5, 6, 7, 8, 9, 10, 11, 12, 13, 14, 15, 16, 17, 18, 19, 20, 21, 24, 25, 26], [0, 1, 2, 3, 4, 5, 6, 7, 8, 9, 10, 11, 12, 13, 14, 15, 16, 17, 18, 19, 20, 21, 24, 25, 26, 27], [0, 1, 2, 3, 4, 5, 6, 7, 8, 9, 10, 11, 12, 13, 14, 15, 16, 17, 18, 19, 20, 21, 22, 23, 24, 25, 26, 27, 28], [0, 1, 2, 3, 4, 5, 6, 7, 8, 9, 10, 11, 12, 13, 14, 15, 16, 17, 18, 19, 20, 21, 22, 23, 24, 25, 26, 27, 28, 29], [0, 1, 2, 3, 4, 5, 6, 7, 8, 9, 10, 11, 12, 13, 14, 15, 16, 17, 18, 19, 20, 21, 22, 23, 24, 25, 26, 27, 28, 29, 30]] 29 [(0, false), (1, false), (2, false), (3, true), (4, false), (5, false), (6, false), (7, false), (8, false), (9, false), (10, false), (11, false), (12, false), (13, false), (14, false), (15, false), (16, false), (17, false), (18, false), (19, false), (20, false), (21, false), (22, false), (23, false), (24, false), (25, false), (26, false), (27, true), (28, true)] (by kernel_rfl) (by kernel_rfl) (by kernel_rfl) ?_)
            repeat (refine Da1 ?_)
            refine a_callV (c3 h) (by rfl) (by rfl) (.inl rfl) ?_
            iterate 9 (refine Da1 ?_)
            rw [ej2]
            repeat (refine Da1 ?_)
            refine a_call (l22Grid_f h _ k b0 hk (gt k.shown j).ver hv) (by rfl) (by rfl) (.inr ⟨_, _, _, _, rfl, by rfl, by rfl, decide_eq_false hn2⟩) ?_
            rintro _ A1 ⟨cs, rfl, q⟩
            obtain ⟨c2, rfl, g1, l1⟩ := gridO q
            have o5 := g1.one
            refine a_call (lendF A1 fun h' _ inb => l12Pic_f h' c2 _ (g1.lent (by omega) inb) (gok gok')) (by rfl) (by rfl) (.inr ⟨_, _, _, _, rfl, by rfl, by rfl, decide_eq_false hn2⟩) ?_
            rintro v2 _ ⟨A2, rfl, g2⟩
            have o6 := g2.one
            repeat (refine Da1 ?_)
            (refine a_end (by rfl) (by rfl) ?_; simp only [finA, setL, List.drop_succ_cons, List.drop_zero])
            refine fp (y_lendV A2 (fun h' l' inb => l13Same_v h' _ _ _ _ (sl.le l'.le) (g2.lent (by rw [picOf_len]; have := (gok gok').many; omega) inb)) (by rfl) ?_)
            repeat (first | refine R1 ?_ | (refine R2 ?_; intro _))
            refine sf_cond (by rfl) (fun h5 => ?_) fun h5 => ?_
            · simp only [Bool.not_eq_true'] at h5
              repeat (first | refine R1 ?_ | (refine R2 ?_; intro _))
              exact sf_ret (rV (by rw [hG (by rw [shownOk, hv, h5]; simp)]))
            · simp only [Bool.not_eq_false'] at h5
              repeat (first | refine R1 ?_ | (refine R2 ?_; intro _))
              exact ⟨j + 1, by omega, ⟨rfl, trivial⟩, rfl, [(b1, .cells #[.int .i64 k.first.wide, c, ed, p, s] 39)], _, inferInstance, ⟨by omega, by rw [hS, shownOk, hv, h5, decide_eq_true hpv]; rfl⟩, rfl⟩
          · have hn2 : (gt k.shown (j - 1)).ver ≥ (gt k.shown j).ver := by omega
            refine sf_draw (by kernel_rfl) (regX_run [[], [0], [], [0, 1, 2], [0, 1, 2, 3], [0, 1, 2, 3, 4], [0, 1, 2, 3, 4, 5], [0, 1, 2, 3, 4, 5, 6], [0, 1, 2, 3, 4, 5, 6, 7], [0, 1, 2, 3, 4, 5, 6, 7, 8], [0, 1, 2, 3, 4, 5, 6, 7, 8, 9], [0, 1, 2, 3, 4, 5, 6, 7, 8], [0, 1, 2, 3, 4, 5, 6, 7, 8, 11], [0, 1, 2, 3, 4, 5, 6, 7, 8, 9, 10, 11, 12], [0, 1, 2, 3, 4, 5, 6, 7, 8, 9, 10, 11, 12, 13], [0, 1, 2, 3, 4, 5, 6, 7, 8, 9, 10, 11, 12, 13, 14], [0, 1, 2, 3, 4, 5, 6, 7, 8], [0, 1, 2, 3, 4, 5, 6, 7, 8, 16], [0, 1, 2, 3, 4, 5, 6, 7, 8, 9, 10, 11, 12, 13, 14, 15, 16, 17], [0, 1, 2, 3, 4, 5, 6, 7, 8, 9, 10, 11, 12, 13, 14, 15, 16, 17, 18], [0, 1, 2, 3, 4, 5, 6, 7, 8, 9, 10, 11, 12, 13, 14, 15, 16, 17, 18, 19], [0, 1, 2, 3, 4, 5, 6, 7, 8, 9, 10, 11, 12, 13, 14, 15, 16, 17, 18, 19, 20], [0, 1, 2, 3, 4, 5, 6, 7, 8, 9, 10, 11, 12, 13, 14, 15, 16, 17, 18, 19, 20, 21], [0, 1, 2, 3, 4, 5, 6, 7, 8, 9, 10, 11, 12, 13, 14, 15, 16, 17, 18, 19, 20, 21, 22], [0, 1, 2, 3, 4, 5, 6, 7, 8, 9, 10, 11, 12, 13, 14, 15, 16, 17, 18, 19, 20, 21], [0, 1, 2, 3, 4, 5, 6, 7, 8, 9, 10, 11, 12, 13, 14, 15, 16, 17, 18, 19, 20, 21], [0, 1, 2, 3, 4, 5, 6, 7, 8, 9, 10, 11, 12, 13, 14, 15, 16, 17, 18, 19, 20, 21, 25], [0, 1, 2, 3, 4, 5, 6, 7, 8, 9, 10, 11, 12, 13, 14, 15, 16, 17, 18, 19, 20, 21, 24, 25, 26], [0, 1, 2, 3, 4, 5, 6, 7, 8, 9, 10, 11, 12, 13, 14, 15, 16, 17, 18, 19, 20, 21, 24, 25, 26, 27], [0, 1, 2, 3, 4, 5, 6, 7, 8, 9, 10, 11, 12, 13, 14, 15, 16, 17, 18, 19, 20, 21, 22, 23, 24, 25, 26, 27, 28], [0, 1, 2, 3, 4, 5, 6, 7, 8, 9, 10, 11, 12, 13, 14, 15, 16, 17, 18, 19, 20, 21, 22, 23, 24, 25, 26, 27, 28, 29], [0, 1, 2, 3, 4, 5, 6, 7, 8, 9, 10, 11, 12, 13, 14, 15, 16, 17, 18, 19, 20, 21, 22, 23, 24, 25, 26, 27, 28, 29, 30]] 29 [(0, false), (1, false), (2, false), (3, true), (4, false), (5, false), (6, false), (7, false), (8, false), (9, false), (10, false), (11, false), (12, false), (13, false), (14, false), (15, false), (16, false), (17, false), (18, false), (19, false), (20, false), (21, false), (22, false), (23, false), (24, false), (25, false), (26, false), (27, false), (28, false)] (by kernel_rfl) (by kernel_rfl) (by kernel_rfl) ?_)
            repeat (refine Da1 ?_)
            refine a_callV (c3 h) (by rfl) (by rfl) (.inl rfl) ?_
            iterate 9 (refine Da1 ?_)
            rw [ej2]
            repeat (refine Da1 ?_)
            (refine a_end (by rfl) (by rfl) ?_; simp only [finA, setL, List.drop_succ_cons, List.drop_zero])
            repeat (first | refine R1 ?_ | (refine R2 ?_; intro _))
            refine sf_T rfl ?_
            repeat (first | refine R1 ?_ | (refine R2 ?_; intro _))
            exact sf_ret (rV (by rw [hG (by rw [shownOk, hv, decide_eq_false hpv]; rfl)]))
    · refine sf_exit ?_
      repeat (first | refine R1 ?_ | (refine R2 ?_; intro _))
      exact sf_ret (rV (by rw [hF (b := true) (by rw [hpo, show k.shown.length = j by omega, hpi]; rfl)]))
theorem sKeepGrid_f (h : PHeap) (ca : List Value) (k : Keeper) (b : (keeperR τ).B h ca k) (v : Int) : CallF Tryz.prog M 17 [.agg ca.toArray, .int .i64 v] [] h fun u A => ∃ cs, u = .tuple #[.agg cs.toArray, .bool (keepGrid k v).2] ∧ (gridR τ).O A cs (keepGrid k v).1 := by
  have b0 := b
  obtain ⟨c, ed, p, s, rfl, s1, s2, s3, s4⟩ := keeperB b
  have o1 := s1.one
  have o2 := s2.one
  have o3 := s3.one
  have o4 := s4.one
  have hs2 := s2.small
  have eF : (keepOk k && verOk k v) = false → keepGrid k v = (noGrid, false) := fun e => by rw [keepGrid, e]; rfl
  have z0 : (gridR τ).O [] [.int .i64 0, .slice none 0 0] noGrid := gridO_mk (g := noGrid) (Gr.nil _ _) (by decide)
  have c1 : ∀ h, CallV Tryz.prog M 60 [.int .i64 v, .int .i64 0, .int .i64 k.edits.length] h (.bool (verOk k v)) := fun h => l6In_v h _ _ _
  refine calls_of_sf Tryz.func17 rfl Tryz.ntmps17 ?_
  simp only [argsL, Nat.reduceAdd]
  repeat (first | refine R1 ?_ | (refine R2 ?_; intro _))
  refine fp (y_callV (sKeepOk_v _ _ k b0) (by rfl) ?_)
  repeat (first | refine R1 ?_ | (refine R2 ?_; intro _))
  refine f_splitB (fun h1 => ?_) fun h1 => ?_
  · have h1' := h1
    simp only [Bool.not_eq_true'] at h1'
    repeat (first | refine R1 ?_ | (refine R2 ?_; intro _))
    refine sf_T rfl ?_
    repeat (first | refine R1 ?_ | (refine R2 ?_; intro _))
    rw [eF (by rw [h1']; rfl)]
    exact sf_ret (rO [] ⟨_, rfl, z0⟩)
  have h1' := h1
  simp only [Bool.not_eq_false'] at h1'
  repeat (first | refine R1 ?_ | (refine R2 ?_; intro _))
  refine fp (y_callV (c1 _) (by rfl) ?_)
  repeat (first | refine R1 ?_ | (refine R2 ?_; intro _))
  refine sf_cond (by rfl) (fun h2 => ?_) fun h2 => ?_
  · simp only [Bool.not_eq_true'] at h2
    repeat (first | refine R1 ?_ | (refine R2 ?_; intro _))
    rw [eF (by rw [h2]; simp)]
    exact sf_ret (rO [] ⟨_, rfl, z0⟩)
  simp only [Bool.not_eq_false'] at h2
  have hh : keepHead k = true := by
    simp only [keepOk, Bool.and_eq_true] at h1'; exact h1'.1.1
  rw [show keepGrid k v = (gridAt k v, true) by rw [keepGrid, h1', h2]; rfl]
  repeat (first | refine R1 ?_ | (refine R2 ?_; intro _))
  refine fp (y_call (l22Grid_f _ _ k b0 (keepHead_is hh) v h2) (by rfl) ?_)
  rintro _ A1 ⟨cs, rfl, q⟩
  have q' := q
  obtain ⟨c2, rfl, g1, l1⟩ := gridO q
  have o5 := g1.one
  repeat (first | refine R1 ?_ | (refine R2 ?_; intro _))
  exact sf_ret (rO A1 ⟨_, rfl, q'⟩)
end Go.Proofs.YtekjikbaefgncaaGreatDoor

/- Walks of the reference: a keeper shows what all have told. -/
namespace Go.Proofs.YtekjikbaefgncaaGreatDoor
open Go Go.Sl
set_option maxRecDepth 100000
set_option maxHeartbeats 4000000
attribute [local irreducible] Go.Code.sf sfOps Opq opo retF Do1 anyO
variable {M : Jdg → Prop} [IsCl Tryz.prog M]
/-- As 'via', where the end is hidden from the machine. -/
structure Later (G : Prop) : Prop where
  get : G
theorem viaL {A G : Prop} (h : Later G → A) (t : G) : A := h ⟨t⟩
theorem l22Show_f (h : PHeap) (c ed p sv : Value) (k : Keeper) (A4 : Own) (s1 : Sl h c cellF k.first.cells) (o2 : Sl.One ed) (s3 : SlR (partR τ) h p k.parts) (g4 : GrR (shownR τ) A4 sv 117 k.shown) (kg : gridOk k.first = true) (n1 : 1 ≤ k.parts.length) (n3 : k.parts.length ≤ 3)
    (pl : ∀ i, i < k.parts.length → (gt k.parts i).has = true → (gt k.parts i).lights.length = ownCnt (manyOf k.first).toNat k.parts.length (i + 1)) (hsh : k.shown.length ≤ 1048576) : CallF Tryz.prog M 172 [.agg #[.int .i64 k.first.wide, c, ed, p, sv]] A4 h fun u A' => ∃ s', u = .agg #[.int .i64 k.first.wide, c, ed, p, s'] ∧ GrR (shownR τ) A' s' 117 (published k).shown := by
  have g40 := g4
  have o1 := s1.one
  have o3 := s3.one
  have o4 := g4.one
  obtain ⟨rp, sp, bp⟩ := s3
  have lp := bp.len
  have hsm := sp.small
  obtain ⟨B0, B1, rfl, rs, gs, oa, hs4⟩ := g4
  have ls := oa.len
  have hm := (gok kg).many
  obtain ⟨S, hS⟩ : ∃ S : Nat, manyOf k.first = S := ⟨(manyOf k.first).toNat, by omega⟩
  have hSn : (manyOf k.first).toNat = S := by rw [hS]; rfl
  rw [hS] at hm
  simp only [hSn] at pl
  obtain ⟨l0, ex0, sl0⟩ := partB (bp.at n1)
  have ol0 := sl0.one
  haveI i0 : FlatV (rawF (partR τ).sz) (gt rp 0) [.bool (gt k.parts 0).has, .int .i64 (gt k.parts 0).ver, l0] := ⟨ex0⟩
  have hrp : 0 < rp.length := by omega
  have hNo : partsSame k k.parts.length = false ∨ shownNewer k = false → (published k).shown = k.shown := fun x => by
    unfold published
    rcases x with x | x <;> simp [x]
  refine calls_of_sf Tryz.func172 rfl Tryz.ntmps172 ?_
  simp only [argsL, Nat.reduceAdd]
  repeat (first | refine R1 ?_ | (refine R2 ?_; intro _))
  rename_i b1 b2
  refine sf_lp (ι := Nat) [1, 2, 3] (fun i => [(4, .int .i64 (i : Int))]) (fun i O => i ≤ k.parts.length ∧ partsSame k i = true ∧ O = (B0 ++ (B1 ++ [(b2, .cells #[.int .i64 0, .slice none 0 0, .slice none 0 0, .slice none 0 0, .slice none 0 0] 39), (b1, .cells #[.int .i64 k.first.wide, c, ed, p, sv] 39)]))) (fun i => k.parts.length - i) 0 (B0 ++ (B1 ++ [(b2, .cells #[.int .i64 0, .slice none 0 0, .slice none 0 0, .slice none 0 0, .slice none 0 0] 39), (b1, .cells #[.int .i64 k.first.wide, c, ed, p, sv] 39)])) ⟨by omega, rfl, rfl⟩ ?_
  rintro i O ⟨hi, hpi, rfl⟩
  repeat (first | refine R1 ?_ | (refine R2 ?_; intro _))
  refine sf_if (fun h4 => ?_) fun h4 => ?_
  · have hi4 : i < k.parts.length := by omega
    have hi5 : i < rp.length := by omega
    obtain ⟨l, ex, sl⟩ := partB (bp.at hi4)
    have ol := sl.one
    haveI : FlatV (rawF (partR τ).sz) (gt rp i) [.bool (gt k.parts i).has, .int .i64 (gt k.parts i).ver, l] := ⟨ex⟩
    have hret : ((gt k.parts i).has && decide ((gt k.parts i).ver = (gt k.parts 0).ver)) = false → (published k).shown = k.shown := fun x => hNo (.inl (partsSame_F hi4 x))
    repeat (first | refine R1 ?_ | (refine R2 ?_; intro _))
    refine f_splitB (fun e0 => ?_) fun e0 => ?_
    · have e := e0
      simp only [Bool.not_eq_true'] at e
      repeat (first | refine R1 ?_ | (refine R2 ?_; intro _))
      refine sf_T rfl ?_
      repeat (first | refine R1 ?_ | (refine R2 ?_; intro _))
      exact sf_ret (rO (B0 ++ B1) ⟨sv, rfl, by rw [hret (by rw [e]; rfl)]; exact g40⟩)
    have e := e0
    simp only [Bool.not_eq_false'] at e
    repeat (first | refine R1 ?_ | (refine R2 ?_; intro _))
    refine sf_if (fun h6 => ?_) fun h6 => ?_
    · repeat (first | refine R1 ?_ | (refine R2 ?_; intro _))
      exact sf_ret (rO (B0 ++ B1) ⟨sv, rfl, by rw [hret (by rw [e, decide_eq_false h6]; rfl)]; exact g40⟩)
    repeat (first | refine R1 ?_ | (refine R2 ?_; intro _))
    refine ⟨i + 1, by omega, ⟨rfl, trivial⟩, rfl, (B0 ++ (B1 ++ [(b2, .cells #[.int .i64 0, .slice none 0 0, .slice none 0 0, .slice none 0 0, .slice none 0 0] 39), (b1, .cells #[.int .i64 k.first.wide, c, ed, p, sv] 39)])), _, inferInstance, by omega, ?_, rfl⟩
    rw [partsSame_step, hpi, e]
    simpa using h6
  · refine sf_exit ?_
    obtain rfl : i = k.parts.length := by omega
    have hall : ∀ j, j < k.parts.length → (gt k.parts j).has = true := fun j hj => by
      have := List.all_eq_true.1 hpi j (List.mem_range.2 hj)
      simp only [Bool.and_eq_true] at this
      exact this.1
    have hYes : shownNewer k = true → (published k).shown = k.shown ++ [⟨(gt k.parts 0).ver, pubPic k⟩] := fun x => by
      unfold published
      rw [hpi, x]; rfl
    repeat (first | refine R1 ?_ | (refine R2 ?_; intro _))
    apply viaL
    · intro tail
      by_cases h0 : k.shown.length = 0
      · refine f_split (fun h8 => ?_) fun h8 => ?_
        · omega
        repeat (first | refine R1 ?_ | (refine R2 ?_; intro _))
        refine sf_N (by first | rfl | (simp; omega)) ?_
        refine R1 ?_
        refine sf_keep [1, 2, 3] ?_
        refine sf_own (B0 ++ (B1 ++ [(b2, .cells #[.int .i64 0, .slice none 0 0, .slice none 0 0, .slice none 0 0, .slice none 0 0] 39), (b1, .cells #[.int .i64 k.first.wide, c, ed, p, sv] 39)])) ?_
        have hn : shownNewer k = true := by simp [shownNewer, h0]
        revert hn
        exact tail.get
      · obtain ⟨m, hm'⟩ : ∃ m : Nat, k.shown.length = m + 1 := ⟨k.shown.length - 1, by omega⟩
        have hrm : rs.length = m + 1 := by omega
        obtain ⟨_, _, _, -, qk, -⟩ := oa.at (k := m) (by omega)
        obtain ⟨lm, exm, gm⟩ := shownO qk
        have olm : Sl.One lm := by first | exact gm.1.one | exact gm.one
        have hix : ((rs.length : Int) - 1) = (m : Int) := by omega
        have hm5 : m < rs.length := by omega
        haveI : FlatV (rawF (shownR τ).sz) (gt rs m) [.int .i64 (gt k.shown m).ver, lm] := ⟨exm⟩
        have hnw : shownNewer k = decide ((gt k.shown m).ver < (gt k.parts 0).ver) := by
          rw [shownNewer, hm', Nat.add_sub_cancel]; simp
        refine f_split (fun h8 => ?_) fun h8 => ?_
        · repeat (first | refine R1 ?_ | (refine R2 ?_; intro _))
          simp only [hix]
          repeat (first | refine R1 ?_ | (refine R2 ?_; intro _))
          refine sf_if (fun h9 => ?_) fun h9 => ?_
          · rw [hNo (.inr (by rw [hnw]; simp; omega))]
            repeat (first | refine R1 ?_ | (refine R2 ?_; intro _))
            exact sf_ret (rO (B0 ++ B1) ⟨sv, rfl, g40⟩)
          · refine R1 ?_
            refine sf_keep [1, 2, 3] ?_
            refine sf_own (B0 ++ (B1 ++ [(b2, .cells #[.int .i64 0, .slice none 0 0, .slice none 0 0, .slice none 0 0, .slice none 0 0] 39), (b1, .cells #[.int .i64 k.first.wide, c, ed, p, sv] 39)])) ?_
            have hn : shownNewer k = true := by rw [hnw]; simp; omega
            revert hn
            exact tail.get
        · omega
    intro hn
    rw [hYes hn]
    repeat (first | refine R1 ?_ | (refine R2 ?_; intro _))
    refine fp (y_bs (by rfl) (by rfl) (by rfl) (by rfl) (by decide) fun w A0 g0 => ?_)
    have ow := g0.one
    repeat (first | refine R1 ?_ | (refine R2 ?_; intro _))
    refine sf_lp (ι := Nat × Value) [1, 2, 3] (fun x => [(6, .int .i64 (x.1 : Int)), (5, x.2)]) (fun x O => x.1 ≤ S ∧ ∃ A', O = A' ++ (B0 ++ (B1 ++ [(b2, .cells #[.int .i64 0, .slice none 0 0, .slice none 0 0, .slice none 0 0, .slice none 0 0] 39), (b1, .cells #[.int .i64 k.first.wide, c, ed, p, sv] 39)])) ∧ Gr A' x.2 3 intF ((List.range x.1).map fun s => gt (gt k.parts (s % k.parts.length)).lights (s / k.parts.length))) (fun x => S - x.1) (0, w) (A0 ++ (B0 ++ (B1 ++ [(b2, .cells #[.int .i64 0, .slice none 0 0, .slice none 0 0, .slice none 0 0, .slice none 0 0] 39), (b1, .cells #[.int .i64 k.first.wide, c, ed, p, sv] 39)]))) ⟨by simp only; omega, A0, rfl, g0⟩ ?_
    rintro ⟨j, u⟩ O ⟨hj, A', rfl, gr⟩
    simp only at hj gr ⊢
    have ou := gr.one
    repeat (first | refine R1 ?_ | (refine R2 ?_; intro _))
    refine fp (y_callV (l3Many_v _ c k.first s1 (gok kg)) (by rfl) ?_)
    rw [hS]
    repeat (first | refine R1 ?_ | (refine R2 ?_; intro _))
    refine sf_if (fun h4 => ?_) fun h4 => ?_
    · have hj4 : j < S := by omega
      obtain ⟨q, hq⟩ : ∃ q, j % k.parts.length = q := ⟨_, rfl⟩
      have hq1 : q < k.parts.length := by rw [← hq]; exact Nat.mod_lt _ (by omega)
      obtain ⟨d, hd⟩ : ∃ d, j / k.parts.length = d := ⟨_, rfl⟩
      have hqd : q + d * k.parts.length = j := by rw [← hq, ← hd, Nat.mul_comm]; exact Nat.mod_add_div j _
      have hmod : (j : Int) % (rp.length : Int) = (q : Int) := by rw [lp, ← hq]; rfl
      have hdiv : (j : Int) / (rp.length : Int) = (d : Int) := by rw [lp, ← hd]; rfl
      have hq5 : q < rp.length := by omega
      obtain ⟨l, ex, sl⟩ := partB (bp.at hq1)
      have ol := sl.one
      haveI : FlatV (rawF (partR τ).sz) (gt rp q) [.bool (gt k.parts q).has, .int .i64 (gt k.parts q).ver, l] := ⟨ex⟩
      have hdl : d < (gt k.parts q).lights.length := by
        rw [pl q hq1 (hall q hq1), ownCnt_lt (by omega) (by omega) n3]
        omega
      repeat (first | refine R1 ?_ | (refine R2 ?_; intro _))
      refine sf_draw (by kernel_rfl) (regX_run [[], [], [1], [], [], [4], [4, 5], [3, 4, 5, 6], [1, 2, 3, 4, 5, 6, 7], [1, 2, 3, 4, 5, 6, 7, 8], [1, 2, 3, 4, 5, 6, 7, 8, 9], [], [], [12], [12, 13], [11, 12, 13, 14], [1, 2, 3, 4, 5, 6, 7, 8, 9, 10, 11, 12, 13, 14, 15], [1, 2, 3, 4, 5, 6, 7, 8, 9, 10, 11, 12, 13, 14, 15, 16], [1, 2, 3, 4, 5, 6, 7, 8, 9, 10, 11, 12, 13, 14, 15, 16, 17], [0, 1, 2, 3, 4, 5, 6, 7, 8, 9, 10, 11, 12, 13, 14, 15, 16, 17, 18], [0, 1, 2, 3, 4, 5, 6, 7, 8, 9, 10, 11, 12, 13, 14, 15, 16, 17, 18, 19]] 19 [(0, false), (1, false), (2, false), (3, false), (4, false), (5, false), (6, false), (7, false), (8, false), (9, false), (10, false), (11, false), (12, false), (13, false), (14, false), (15, false), (16, false), (17, false), (18, true)] (by kernel_rfl) (by kernel_rfl) (by kernel_rfl) ?_)
      repeat (refine Da1 ?_)
      simp only [hmod, hdiv, Int.toNat_natCast]
      repeat (refine Da1 ?_)
      simp only [hmod, hdiv, Int.toNat_natCast]
      repeat (refine Da1 ?_)
      refine a_bs (by rfl) (by rfl) (by infer_instance) (by infer_instance) (by infer_instance) (by infer_instance) (by rfl) (by rfl) (by rfl) (by decide) (.inl rfl) fun u1 Au gu => ?_
      repeat (refine Da1 ?_)
      (refine a_end (by rfl) (by rfl) ?_; simp only [finA, setL, List.drop_succ_cons, List.drop_zero])
      repeat (first | refine R1 ?_ | (refine R2 ?_; intro _))
      refine fp (y_append (by rfl) (by rfl) gr gu (fun y _ => FlatOne.one y) (by rfl) (by rfl) (by simp; omega) (by simp; omega) fun u2 A2 g2 => ?_)
      have ou2 := g2.one
      repeat (first | refine R1 ?_ | (refine R2 ?_; intro _))
      refine ⟨(j + 1, u2), by simp only; omega, ⟨rfl, rfl, trivial⟩, rfl, A2 ++ (B0 ++ (B1 ++ [(b2, .cells #[.int .i64 0, .slice none 0 0, .slice none 0 0, .slice none 0 0, .slice none 0 0] 39), (b1, .cells #[.int .i64 k.first.wide, c, ed, p, sv] 39)])), _, inferInstance, by simp only; omega, A2, rfl, ?_⟩
      simp only [List.range_succ, List.map_append, List.map_cons, List.map_nil]
      rw [lp] at g2
      rw [hq]
      exact g2
    · refine sf_exit ?_
      obtain rfl : j = S := by omega
      have hpp : (pubPic k).length = j := by simp [pubPic, hSn]
      have gp : Gr A' u 3 intF (pubPic k) := by rw [pubPic, hSn]; exact gr
      repeat (first | refine R1 ?_ | (refine R2 ?_; intro _))
      refine fp (y_bs (by rfl) (by rfl) (by rfl) (by rfl) (by decide) fun u3 Au gu => ?_)
      repeat (first | refine R1 ?_ | (refine R2 ?_; intro _))
      refine fp (y_append (by rfl) (by rfl) gs gu (by intro y hy; simp at hy; subst hy; exact (inferInstance : AllOne [Value.int .i64 (gt k.parts 0).ver, u]).is) (by rfl) (by rfl) (by simp; omega) (by simp; omega) fun s2 A5 g5 => ?_)
      have o9 := g5.one
      repeat (first | refine R1 ?_ | (refine R2 ?_; intro _))
      exact sf_ret (rO (A5 ++ (B1 ++ A')) ⟨s2, rfl, ⟨A5, B1 ++ A', rfl, _, g5, oa.snoc (shownO_mk (p := ⟨(gt k.parts 0).ver, pubPic k⟩) gp (by simp only; omega)), by simp; omega⟩⟩)
theorem sPl_of {k : Keeper} (ok : keepOk k = true) : ∀ i, i < k.parts.length → (gt k.parts i).has = true → (gt k.parts i).lights.length = ownCnt (manyOf k.first).toNat k.parts.length (i + 1) := fun i hi hh => by
  have := keepOk_part ok hi
  unfold partOk at this
  rw [if_pos hh] at this
  simp only [Bool.and_eq_true, decide_eq_true_eq] at this
  rw [this.2, partLights, ownLights_len]
end Go.Proofs.YtekjikbaefgncaaGreatDoor

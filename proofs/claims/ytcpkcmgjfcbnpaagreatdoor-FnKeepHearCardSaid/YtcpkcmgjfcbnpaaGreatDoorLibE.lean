/- Rules of a calculus of our own, no program: SmN SmIs SmRx. -/
import Derived.Test.YtcpkcmgjfcbnpaaGreatDoorLibG
import Derived.Test.YtcpkcmgjfcbnpaaGreatDoorLibD
import Derived.Test.YtcpkcmgjfcbnpaaGreatDoorSmE
set_option linter.unusedVariables false
set_option linter.unusedSimpArgs false
set_option linter.unusedSectionVars false
namespace Go.Sl
open Go Go.Conc PHeap
section
variable {P : Program} {M : Jdg → Prop} [hM : IsCl P M] {n : Nat} {Q : Qf} {L L' : Locals} {O O' R A B : Own} {h : PHeap} {ops : Array Oper} {rest : List Oper} {o : Oper}
  {d : Nat} {ty : TypeId} {pos : String} {af : Array Edge} {g : Option (Nat × Bool)} {op : Op} {x y z : Operand}
  {t e kt : TypeId} {D D' : TypeDesc} {size bytes size' bytes' size'' bytes'' : Nat} {zero zero' zero'' : Value} {v u : Value} {b : Nat} {m : List (Int × Value)}
theorem gt_set_ne {α : Type} [Inhabited α] {xs : List α} {j i : Nat} {z : α} (h : j ≠ i) : gt (xs.set j z) i = gt xs i := by
  simp [gt, List.getElem?_set, h]
theorem Gr.shape {α : Type} {E : Flat α} {A : Own} {v : Value} {T : TypeId} {xs : List α} (gr : Gr A v T E xs) (h0 : 0 < xs.length) : ∃ b cap, v = .slice (some ⟨b, 0, none⟩) xs.length cap ∧ xs.length ≤ cap := by
  rcases gr.at' with ⟨_, rfl, _⟩ | ⟨b, cap, sp, rfl, rfl, h1, h2⟩
  · cases h0
  · exact ⟨b, cap, rfl, h2⟩
omit hM in
theorem z_indexGI {i : Operand} {z : Int} {T' : TypeId} {α : Type} {fl : Flat α} {xs : List α} (hx : ev L x = some v) (hi : ev L i = some (.int .i64 z)) (gr : Gr A v T' fl xs) (h0 : 0 ≤ z) (hk : z < xs.length) [S : Ty P t (.slice e) size' bytes' zero'] [T : Ty P e D size bytes zero] :
    Opq P n ⟨some d, .indexAddr t x i, ty, pos, af, g⟩ L O h (.pointer (some ⟨vb v, vo v + z.toNat * size + 0, none⟩)) := by
  rcases gr.at' with ⟨rfl, rfl, rfl⟩ | ⟨b, cap, sp, rfl, rfl, h1, h2⟩
  · simp at hk; omega
  · exact q_indexV S T hx hi h0 (by omega)
end
theorem Di {G G' : Prop} (k : G') (h : Hole G' → G := by
    (intro x
     repeat first
      | refine aq (by rfl) (by first | exact .inl rfl | exact .inr ⟨_, _, _, _, rfl, by rfl, by rfl, by first | assumption | exact decide_eq_true (by assumption) | exact decide_eq_false (by assumption) | rfl⟩) (fun X h' [_] => oq) ?_
      | refine agF (by rfl) (by rfl) (by rfl) (by first | assumption | exact decide_eq_true (by assumption) | exact decide_eq_false (by assumption) | rfl) ?_
      | refine agU (by rfl) (by rfl) (by rfl) ?_
      | refine aq (by rfl) (by first | exact .inl rfl | exact .inr ⟨_, _, _, _, rfl, by rfl, by rfl, by first | assumption | exact decide_eq_true (by assumption) | exact decide_eq_false (by assumption) | rfl⟩) (fun X h' [_] => z_indexGI (by rfl) (by rfl) (by assumption) (by omega) (by omega)) ?_
     exact x.out)) : G := h ⟨k⟩
structure Lat (G : Prop) : Prop where
  out : G
theorem viaT {A G : Prop} (h : Lat G → A) (t : G) : A := h ⟨t⟩
section
variable {P : Program} {n : Nat} {L L' : Locals} {O O' R A B : Own} {h : PHeap} {ops : Array Oper} {rest : List Oper} {o : Oper}
  {d : Nat} {ty : TypeId} {pos : String} {af : Array Edge} {g : Option (Nat × Bool)} {op : Op} {x y : Operand}
  {t e : TypeId} {D D' : TypeDesc} {size bytes size' bytes' : Nat} {zero zero' : Value} {α : Type} {fl : Flat α} {v u : Value} {l l' vs cs : List Value} {b off : Nat} {T' : TypeId} {fr : Nat × Nat} {xs ys : List α}
end
section
variable {P : Program} {M : Jdg → Prop} [hM : IsCl P M] {n : Nat} {Q : Qf} {L : Locals} {O R A W : Own} {h : PHeap} {ops : List Oper} {dsts : List (Option Nat)} {anc : List (List Nat)} {m : Nat} {π : List (Nat × Bool)} {acc : Acc}
  {ty t : TypeId} {pos : String} {af : Array Edge} {g : Option (Nat × Bool)} {i : Nat} {v u : Value} {D : TypeDesc} {size bytes : Nat} {zero : Value} {α : Type} {fl : Flat α} {xs : List α} {vs : List Value} {T' : TypeId} {x y : Operand}
end
section
variable {P : Program} {M : Jdg → Prop} [hM : IsCl P M] {n : Nat} {Q : Qf} {L : Locals} {O : Own} {h : PHeap}
theorem sf_rx {ι : Type} {c : Code} {K : Locals} (is : List Nat) (va : ι → Locals) (I : ι → Prop) (μ : ι → Nat) (x0 : ι) (i0 : I x0)
    (round : ∀ x, I x → c.sf P M n (thenF (fun L O' => ∃ y, μ y < μ x ∧ (va y).sub L ∧ pickL L is = some K ∧ I y ∧ ∃ R, Sp O' O R) Q) (va x ++ K) O h) (hp : pickL L is = some K := by rfl) (h0 : (va x0).sub L := by repeat (first | exact trivial | refine ⟨by rfl, ?_⟩)) : (Code.loop c).sf P M n Q L O h := by
  haveI : Sp O O [] := ⟨by simp⟩
  refine sf_lp (ι := ι) (K := K) is va (fun x O' => O' = O ∧ I x) μ x0 O ⟨rfl, i0⟩ ?_ hp h0
  rintro x O' ⟨rfl, h2⟩
  refine sf_mono (round x h2) fun e L O q => ?_
  cases e with
  | nrm =>
    obtain ⟨y, q1, q2, q3, q4, R', q5⟩ := q
    exact ⟨y, q1, q2, q3, _, R', q5, rfl, q4⟩
  | _ => exact q
end
end Go.Sl

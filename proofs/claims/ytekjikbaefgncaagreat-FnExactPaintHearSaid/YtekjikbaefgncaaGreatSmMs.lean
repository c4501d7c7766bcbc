/- Maps of one's own whose values are slices of one's own. No program. -/
import Derived.Test.YtekjikbaefgncaaGreatLibF
import Derived.Test.YtekjikbaefgncaaGreatSmG
set_option linter.unusedVariables false
set_option linter.unusedSimpArgs false
set_option linter.unusedSectionVars false

namespace Go.Sl
open Go Go.Conc PHeap
inductive SM (T : TypeId) : Own → List (Int × Value) → List (Int × List Int) → Prop
  | nil : SM T [] [] []
  | cons {A A' : Own} {k : Int} {v : Value} {xs : List Int} {m : List (Int × Value)} {e : List (Int × List Int)} : Gr A v T intF xs → SM T A' m e → SM T (A ++ A') ((k, v) :: m) ((k, xs) :: e)
def eGet (e : List (Int × List Int)) (a : Int) : List Int := match e with
  | [] => []
  | (k, xs) :: e => if a = k then xs else eGet e a
def valOf (m : List (Int × Value)) (a : Int) : Value := match mGet m a with
  | some z => z.2
  | none => .slice none 0 0
theorem valOf_ne {m : List (Int × Value)} {a k : Int} {v : Value} (h : ¬ a = k) : valOf ((k, v) :: m) a = valOf m a := by
  simp only [valOf, mGet, if_neg h]
  cases mGet m a <;> rfl
theorem mSet_ne {m : List (Int × Value)} {a k : Int} {v u : Value} (h : ¬ a = k) : mSet ((k, v) :: m) a u = (k, v) :: mSet m a u := by
  simp only [mSet, mGet, if_neg h]
  cases mGet m a with
  | none => rfl
  | some z => obtain ⟨i, w⟩ := z; rfl
theorem SM.at {T : TypeId} (a : Int) : ∀ {A : Own} {m : List (Int × Value)} {e : List (Int × List Int)}, SM T A m e → ∃ B1 Bk B2 v, A = B1 ++ (Bk ++ B2) ∧ valOf m a = v ∧ Gr Bk v T intF (eGet e a) ∧ ∀ A' v' ys, Gr A' v' T intF ys → ∃ e', SM T (B1 ++ (A' ++ B2)) (mSet m a v') e' ∧ ∀ x, eGet e' x = if x = a then ys else eGet e x := by
  intro A m e s
  induction s with
  | nil => exact ⟨[], [], [], _, rfl, rfl, Gr.nil _ _, fun A' v' ys g => ⟨[(a, ys)], (SM.cons (k := a) g (SM.nil (T := T)) : SM T (A' ++ []) _ _), fun x => rfl⟩⟩
  | @cons A A' k v xs m e g s ih =>
    by_cases h : a = k
    · subst h
      refine ⟨[], A, A', v, rfl, by simp [valOf, mGet], by simpa [eGet] using g, fun C v' ys g' => ⟨(a, ys) :: e, ?_, fun x => ?_⟩⟩
      · have : mSet ((a, v) :: m) a v' = (a, v') :: m := by simp [mSet, mGet]
        rw [this]; exact (SM.cons (k := a) g' s : SM T (C ++ A') _ _)
      · simp only [eGet]; split <;> rfl
    · obtain ⟨B1, Bk, B2, u, rfl, hv, gk, put⟩ := ih
      refine ⟨A ++ B1, Bk, B2, u, by simp, by rw [valOf_ne h]; exact hv, by simpa [eGet, h] using gk, fun C v' ys g' => ?_⟩
      obtain ⟨e', s', he⟩ := put C v' ys g'
      refine ⟨(k, xs) :: e', ?_, fun x => ?_⟩
      · rw [mSet_ne h, List.append_assoc]; exact .cons g s'
      · simp only [eGet, he]
        by_cases h1 : x = k
        · subst h1
          rw [if_pos rfl, if_pos rfl, if_neg (fun z => h z.symm)]
        · rw [if_neg h1, if_neg h1]
def SMap (T : TypeId) (A : Own) (o : Obj) (φ : Int → List Int) : Prop := ∃ m e, MapObj o m ∧ SM T A m e ∧ ∀ a, eGet e a = φ a
theorem SMap.nil {T : TypeId} {o : Obj} (h : MapObj o []) : SMap T [] o fun _ => [] := ⟨[], [], h, .nil, fun _ => rfl⟩
theorem SMap.at {T : TypeId} {A : Own} {o : Obj} {φ : Int → List Int} (s : SMap T A o φ) (a : Int) : ∃ m, MapObj o m ∧ ∃ B1 Bk B2 v, A = B1 ++ (Bk ++ B2) ∧ valOf m a = v ∧ Gr Bk v T intF (φ a) ∧
    ∀ A' v' ys o', MapObj o' (mSet m a v') → Gr A' v' T intF ys → SMap T (B1 ++ (A' ++ B2)) o' fun x => if x = a then ys else φ x := by
  obtain ⟨m, e, hm, s, he⟩ := s
  obtain ⟨B1, Bk, B2, v, rfl, hv, gk, put⟩ := s.at a
  refine ⟨m, hm, B1, Bk, B2, v, rfl, hv, by rw [← he]; exact gk, fun A' v' ys o' ho g => ?_⟩
  obtain ⟨e', s', h'⟩ := put A' v' ys g
  exact ⟨_, e', ho, s', fun x => by rw [h', he]⟩
theorem SMap.congr {T : TypeId} {A : Own} {o : Obj} {φ ψ : Int → List Int} (s : SMap T A o φ) (h : ∀ a, φ a = ψ a) : SMap T A o ψ := by
  obtain ⟨m, e, hm, s, he⟩ := s
  exact ⟨m, e, hm, s, fun a => by rw [he, h]⟩
theorem z_lookupV {P : Program} {n : Nat} {L : Locals} {O : Own} {h : PHeap} {d : Nat} {ty : TypeId} {pos : String} {af : Array Edge} {g : Option (Nat × Bool)} {x y : Operand} {t e kt : TypeId} {D : TypeDesc} {size bytes size' bytes' size'' bytes'' : Nat} {zero zero' : Value} {v : Value} {b : Nat} {m : List (Int × Value)} {o : Obj} {k : Int}
    (hx : ev L x = some (.map (some b))) (hy : ev L y = some (.int .i64 k)) (S : Ty P t (.map kt e) size' bytes' zero') (Tk : Ty P kt (.int .i64) size bytes zero) (Te : Ty P e D size'' bytes'' (.slice none 0 0)) (hm : (b, o) ∈ O) (ho : MapObj o m) (hv : valOf m k = v) :
    Opq P n ⟨some d, .lookup t x y false, ty, pos, af, g⟩ L O h v := by
  subst hv
  exact z_lookup hx hy S Tk Te hm ho
theorem y_insert {P : Program} {M : Jdg → Prop} [hM : IsCl P M] {n : Nat} {Q : Qf} {L : Locals} {O R : Own} {h : PHeap} {ops : Array Oper} {rest : List Oper} {ty : TypeId} {pos : String} {af : Array Edge} {g : Option (Nat × Bool)} {x y z : Operand} {t e kt : TypeId} {size bytes size' bytes' : Nat} {zero zero' : Value} {v : Value} {b : Nat} {m : List (Int × Value)} {o : Obj} {k : Int}
    (hx : ev L x = some (.map (some b))) (hy : ev L y = some (.int .i64 k)) (hz : ev L z = some v) (S : Ty P t (.map kt e) size' bytes' zero') (Tk : Ty P kt (.int .i64) size bytes zero) [sp : Sp O [(b, o)] R] (ho : MapObj o m)
    (kk : ∀ o', MapObj o' (mSet m k v) → sfOps P M n ops Q rest L ((b, o') :: R) h) : Do1 P M n ops Q ⟨none, .insert t x y z, ty, pos, af, g⟩ rest L O h :=
  y_mapUpdate (n := n) (Q := Q) (ops := ops) (rest := rest) (ty := ty) (pos := pos) (af := af) (g := g) hx hy hz S Tk ho kk
def valOf2 (m : List (Int × Value)) (u : Value) (a : Int) : Value := match mGet m a with
  | some z => .tuple #[z.2, .bool true]
  | none => .tuple #[u, .bool false]
theorem z_lookup2V {P : Program} {n : Nat} {L : Locals} {O : Own} {h : PHeap} {d : Nat} {ty : TypeId} {pos : String} {af : Array Edge} {g : Option (Nat × Bool)} {x y : Operand} {t e kt : TypeId} {D : TypeDesc} {size bytes size' bytes' size'' bytes'' : Nat} {zero zero' zero'' : Value} {v : Value} {b : Nat} {m : List (Int × Value)} {o : Obj} {k : Int}
    (hx : ev L x = some (.map (some b))) (hy : ev L y = some (.int .i64 k)) (S : Ty P t (.map kt e) size' bytes' zero') (Tk : Ty P kt (.int .i64) size bytes zero) (Te : Ty P e D size'' bytes'' zero'') (hm : (b, o) ∈ O) (ho : MapObj o m) (hv : valOf2 m zero'' k = v) :
    Opq P n ⟨some d, .lookup t x y true, ty, pos, af, g⟩ L O h v := by
  subst hv
  exact z_lookup2 hx hy S Tk Te hm ho
end Go.Sl

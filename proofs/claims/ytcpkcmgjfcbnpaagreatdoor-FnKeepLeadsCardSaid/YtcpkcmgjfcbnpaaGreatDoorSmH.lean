/- What the laws' own helpers compute: sizes, marks that are found again, equality. No program. -/
import Derived.Test.YtcpkcmgjfcbnpaaGreatDoorSmG
set_option linter.unusedVariables false
set_option linter.unusedSimpArgs false
set_option linter.unusedSectionVars false

namespace Go.Sl
open Go Go.Conc PHeap
def sizeL {α:Type} (f:α→Nat):List α→Nat
  | []=>0
  | x :: xs=>f x + sizeL f xs
theorem sizeL_take {α:Type} [Inhabited α] {f:α→Nat}:∀ {xs:List α} {k:Nat},k < xs.length→sizeL f (xs.take (k + 1)) = sizeL f (xs.take k) + f (gt xs k)
  | [],_,h=>by cases h
  | x :: xs,0,_=>by simp [sizeL,gt]
  | x :: xs,k + 1,h=>by
    have:=sizeL_take (f:=f) (xs:=xs) (k:=k) (by simpa using h)
    simp only [List.take_succ_cons,sizeL] at this ⊢
    rw [this]; simp [gt]; omega
theorem sizeL_split {α:Type} {f:α→Nat}:∀ (xs:List α) (k:Nat),sizeL f xs = sizeL f (xs.take k) + sizeL f (xs.drop k)
  | [],k=>by simp [sizeL]
  | x :: xs,0=>by simp [sizeL]
  | x :: xs,k + 1=>by have:=sizeL_split (f:=f) xs k; simp only [List.take_succ_cons,List.drop_succ_cons,sizeL]; omega
theorem sizeL_at {α:Type} [Inhabited α] {f:α→Nat} {xs:List α} {k:Nat} (h:k < xs.length):f (gt xs k) ≤ sizeL f xs:=by
  have h1:=sizeL_take (f:=f) h
  have h2:=sizeL_split (f:=f) xs (k + 1)
  omega
def szGridN (g:Grid):Nat:=g.cells.length
def szIntSSN (x:List (List Int)):Nat:=x.length + sizeL List.length x
def szSceneN (s:Scene):Nat:=s.grid.cells.length + s.lights.length + szIntSSN s.feet
def szPartN (p:Part):Nat:=p.lights.length
def szShownN (p:Shown):Nat:=p.pic.length
def szPartSN (x:List Part):Nat:=x.length + sizeL szPartN x
def szShownSN (x:List Shown):Nat:=x.length + sizeL szShownN x
def szKeeperN (k:Keeper):Nat:=k.first.cells.length + k.edits.length + szPartSN k.parts + szShownSN k.shown
def szPainterN (p:Painter):Nat:=szSceneN p.scene
def hI (v:Int) (f:Int→Int) (k:Int):Int:=if v = k then f (k + 1) else -1
def hB (v:Bool) (f:Int→Int) (k:Int):Int:=if v = decide (k % 3 = 0) then f (k + 1) else -1
def hL {α:Type} (f:α→Int→Int):List α→Int→Int
  | [],k=>k
  | x :: xs,k=>if f x k < 0 then -1 else hL f xs (f x k)
def hS (f g:Int→Int) (k:Int):Int:=if f k < 0 then -1 else g (f k)
def hN (f:Int→Int) (k:Int):Int:=if f k < 0 then -1 else f k
def Bd (f:Int→Int) (c:Nat):Prop:=∀ k,0 ≤ k→f k = -1 ∨ (k ≤ f k∧f k ≤ k + c)
theorem Bd.id:Bd id 0:=fun k _=>.inr ⟨Int.le_refl _,by simp⟩
theorem Bd.hI {v:Int} {f:Int→Int} {c:Nat} (b:Bd f c):Bd (hI v f) (c + 1):=fun k hk=>by
  unfold Go.Sl.hI; split
  · rcases b (k + 1) (by omega) with h | h
    · exact .inl h
    · exact .inr (by omega)
  · exact .inl rfl
theorem Bd.hB {v:Bool} {f:Int→Int} {c:Nat} (b:Bd f c):Bd (hB v f) (c + 1):=fun k hk=>by
  unfold Go.Sl.hB; split
  · rcases b (k + 1) (by omega) with h | h
    · exact .inl h
    · exact .inr (by omega)
  · exact .inl rfl
theorem Bd.hS {f g:Int→Int} {c d:Nat} (a:Bd f c) (b:Bd g d):Bd (hS f g) (c + d):=fun k hk=>by
  unfold Go.Sl.hS; split
  · exact .inl rfl
  · rcases a k hk with h | h
    · omega
    · rcases b (f k) (by omega) with h' | h'
      · exact .inl h'
      · exact .inr (by omega)
theorem Bd.hN {f:Int→Int} {c:Nat} (a:Bd f c):Bd (hN f) c:=fun k hk=>by
  unfold Go.Sl.hN; split
  · exact .inl rfl
  · exact a k hk
theorem Bd.hL {α:Type} {f:α→Int→Int} {c:α→Nat} (a:∀ x,Bd (f x) (c x)):∀ xs:List α,Bd (hL f xs) (sizeL c xs)
  | [],k,hk=>.inr ⟨Int.le_refl _,by simp [Go.Sl.hL,sizeL]⟩
  | x :: xs,k,hk=>by
    unfold Go.Sl.hL; split
    · exact .inl rfl
    · rcases a x k hk with h | h
      · omega
      · rcases Bd.hL a xs (f x k) (by omega) with h' | h'
        · exact .inl h'
        · exact .inr (by simp only [sizeL]; omega)
theorem eq_at {α:Type} [Inhabited α] {xs ys:List α} {k:Nat} (h:¬ gt xs k = gt ys k):¬ xs = ys:=fun e=>h (by rw [e])
theorem eq_step {α:Type} [Inhabited α] {xs ys:List α} {k:Nat} (h1:k < xs.length) (h2:k < ys.length) (hi:xs.take k = ys.take k) (h:gt xs k = gt ys k):xs.take (k + 1) = ys.take (k + 1):=by
  rw [take_succ_gt h1,take_succ_gt h2,hi,h]
theorem eq_end {α:Type} {xs ys:List α} {k:Nat} (hl:xs.length = ys.length) (hk:¬ k < xs.length) (hi:xs.take k = ys.take k):xs = ys:=by
  rwa [List.take_of_length_le (by omega),List.take_of_length_le (by omega)] at hi
theorem bF {p:Prop} [Decidable p] (h:¬p):Value.bool false = Value.bool (decide p):=by rw [decide_eq_false h]
theorem bT {p:Prop} [Decidable p] (h:p):Value.bool true = Value.bool (decide p):=by rw [decide_eq_true h]
def noGrid:Grid:=⟨0,[]⟩
def noKeeper:Keeper:=⟨noGrid,[],[],[]⟩
def noPart:Part:=⟨false,0,[]⟩
def keepNew (g:Grid) (many:Int):Keeper × Bool:=if gridOk g && (decide (1 ≤ many) && decide (many ≤ 3)) then (⟨g,[],List.replicate many.toNat noPart,[]⟩,true) else (noKeeper,false)
theorem noKeeperO {τ:Tys}:(keeperR τ).O [] [.int .i64 0,.slice none 0 0,.slice none 0 0,.slice none 0 0,.slice none 0 0] noKeeper:=by
  exact keeperO_mk (τ:=τ) (k:=noKeeper) (Gr.nil τ.cell cellF) (by decide) (Gr.nil τ.edit editF) (by decide) (GrR.nil (R:=partR τ)) (GrR.nil (R:=shownR τ))
theorem GrR.of_gr {α:Type} {R:Rep α} {A:Own} {v:Value} {T:TypeId} (g:Gr A v T (rawF R.sz) []):GrR R A v T []:=⟨A,[],by simp,[],g,.nil,by simp⟩
theorem gridOk_iff (g:Grid):gridOk g = true ↔ (1 ≤ g.wide∧g.wide ≤ 5)∧(g.cells.length:Int) ≠ 0∧(g.cells.length:Int) ≤ g.wide * 5∧(g.cells.length:Int) % g.wide = 0∧g.cells.all cellOk = true:=by
  simp only [gridOk,Bool.and_eq_true,decide_eq_true_eq]
  by_cases h:1 ≤ g.wide∧g.wide ≤ 5
  · generalize g.cells.length = n
    generalize g.cells.all cellOk = b
    obtain ⟨w,hw⟩:∃ w:Int,g.wide = w:=⟨_,rfl⟩
    rw [hw] at h ⊢
    have:w = 1 ∨ w = 2 ∨ w = 3 ∨ w = 4 ∨ w = 5:=by omega
    rcases this with rfl | rfl | rfl | rfl | rfl <;> constructor <;> rintro ⟨⟩ <;> simp_all <;> omega
  · constructor
    · rintro ⟨⟨⟨⟨⟨a,b⟩,_⟩,_⟩,_⟩,_⟩; exact absurd ⟨a,b⟩ h
    · rintro ⟨a,_⟩; exact absurd a h
theorem gridOk_F {g:Grid} (h:¬ ((1 ≤ g.wide∧g.wide ≤ 5)∧(g.cells.length:Int) ≠ 0∧(g.cells.length:Int) ≤ g.wide * 5∧(g.cells.length:Int) % g.wide = 0∧g.cells.all cellOk = true)):gridOk g = false:=by
  cases e:gridOk g with
  | false=>rfl
  | true=>exact absurd ((gridOk_iff g).1 e) h
end Go.Sl

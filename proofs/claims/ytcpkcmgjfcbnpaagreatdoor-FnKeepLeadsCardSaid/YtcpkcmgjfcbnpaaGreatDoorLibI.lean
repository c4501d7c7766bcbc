/- Rules of a calculus of our own, no program: SmWo SmWp. -/
import Derived.Test.YtcpkcmgjfcbnpaaGreatDoorLibH
import Derived.Test.YtcpkcmgjfcbnpaaGreatDoorLibG
set_option linter.unusedVariables false
set_option linter.unusedSimpArgs false
set_option linter.unusedSectionVars false
namespace Go.Sl
open Go Go.Conc PHeap
section
variable {τ:Tys} {w:World'} {A AK AP AN:Own} {cs:List Value} {c e p s ps ns:Value}
theorem worldX (b:(worldR τ).O A cs w):∃ c e p s ps ns AK AP AN,cs = [.int .i64 w.keeper.first.wide,c,e,p,s,ps,ns]∧A = AK++(AP++AN)∧(keeperR τ).O AK [.int .i64 w.keeper.first.wide,c,e,p,s] w.keeper∧GrR (painterR τ) AP ps τ.painter w.painters∧GrR (wordR τ) AN ns τ.word w.nets∧One c∧One e∧One p∧One s:=by
  obtain ⟨_,_,_,_,rfl,rfl,k,_,_,_,_,rfl,rfl,⟨ps,rfl,s5⟩,ns,rfl,s6⟩:=b
  have k0:=k
  obtain ⟨c,e,p,s,A1,A2,A3,A4,rfl,-,⟨g1,-⟩,⟨g2,-⟩,g3,g4⟩:=keeperO k
  exact ⟨c,e,p,s,ps,ns,_,_,_,rfl,rfl,k0,s5,s6,g1.one,g2.one,g3.one,g4.one⟩
theorem worldX_mk (k:(keeperR τ).O AK [.int .i64 w.keeper.first.wide,c,e,p,s] w.keeper) (s5:GrR (painterR τ) AP ps τ.painter w.painters) (s6:GrR (wordR τ) AN ns τ.word w.nets):(worldR τ).O (AK++(AP++AN)) [.int .i64 w.keeper.first.wide,c,e,p,s,ps,ns] w:=
  ⟨[_,_,_,_,_],[_,_],AK,AP++AN,rfl,rfl,k,[_],[_],_,_,rfl,rfl,⟨_,rfl,s5⟩,_,rfl,s6⟩
theorem worldC (b:(worldR τ).O A cs w):∃ c e p s ps ns,cs = [.int .i64 w.keeper.first.wide,c,e,p,s,ps,ns]∧One c∧One e∧One p∧One s∧One ps∧One ns:=by
  obtain ⟨c,e,p,s,ps,ns,_,_,_,rfl,-,-,gp,gn,o1,o2,o3,o4⟩:=worldX b
  exact ⟨c,e,p,s,ps,ns,rfl,o1,o2,o3,o4,gp.one,gn.one⟩
theorem keeperX {k:Keeper} (b:(keeperR τ).O A cs k):∃ c e p s,cs = [.int .i64 k.first.wide,c,e,p,s]∧One c∧One e∧One p∧One s:=by
  obtain ⟨c,e,p,s,A1,A2,A3,A4,rfl,-,⟨g1,-⟩,⟨g2,-⟩,g3,g4⟩:=keeperO b
  exact ⟨c,e,p,s,rfl,g1.one,g2.one,g3.one,g4.one⟩
theorem wordX {x:Word} (b:(wordR τ).O A cs x):∃ c l,cs = wordCs x c l∧One c∧One l:=by
  obtain ⟨c,l,_,_,rfl,-,⟨g1,-⟩,⟨g2,-⟩⟩:=wordO b
  exact ⟨c,l,rfl,g1.one,g2.one⟩
theorem painterX {x:Painter} (b:(painterR τ).O A cs x):∃ c l f,cs = [.bool x.up,.bool x.has,.int .i64 x.ver,.int .i64 x.scene.grid.wide,c,l,f]∧One c∧One l∧One f:=by
  obtain ⟨c,l,f,_,_,_,rfl,-,⟨g1,-⟩,⟨g2,-⟩,g3⟩:=painterO b
  exact ⟨c,l,f,rfl,g1.one,g2.one,g3.one⟩
theorem noPainterO':(painterR τ).O [] [.bool false,.bool false,.int .i64 0,.int .i64 0,.slice none 0 0,.slice none 0 0,.slice none 0 0] noPainter:=
  painterO_mk (A1:=[]) (A2:=[]) (A3:=[]) (p:=noPainter) (Gr.nil _ _) (by decide) (Gr.nil _ _) (by decide) GrR.nil
end
theorem OAll.pull {α:Type} [Inhabited α] {R:Rep α} {A:Own} {rs:List (Raw R.sz)} {xs:List α} (o:OAll R A rs xs):∀ {k:Nat},k < xs.length→∃ A1 Ak A2,A = A1++(Ak++A2)∧R.O Ak (gt rs k).cs (gt xs k)∧OAll R (A1++A2) (rs.take k++rs.drop (k + 1)) (xs.take k++xs.drop (k + 1)):=by
  induction o with
  | nil=>intro k hk; cases hk
  | @cons B B' r rs x xs a t ih=>
    intro k hk
    cases k with
    | zero=>exact ⟨[],B,B',rfl,a,by simpa using t⟩
    | succ k=>
      obtain ⟨A1,Ak,A2,rfl,q1,q2⟩:=ih (k:=k) (by simpa using hk)
      refine ⟨B++A1,Ak,A2,by simp,q1,?_⟩
      have:=OAll.cons a q2
      simpa using this
theorem OAll.ones {α:Type} {R:Rep α} {A:Own} {rs:List (Raw R.sz)} {xs:List α} (o:OAll R A rs xs):∀ r ∈ rs,allOne r.cs = true:=by
  induction o with
  | nil=>intro r hr; cases hr
  | cons a _ ih=>
    intro r hr
    rcases List.mem_cons.1 hr with rfl | hr
    · exact (R.oneO a).is
    · exact ih r hr
theorem Sl.cut {α:Type} {E:Flat α} {h:PHeap} {v:Value} {xs:List α} (s:Sl h v E xs) {i:Nat} (hi:i < xs.length):∃ b off cap,v = .slice (some ⟨b,off,none⟩) xs.length cap∧xs.length ≤ cap∧Sl h (.slice (some ⟨b,off,none⟩) i cap) E (xs.take i)∧Sl h (.slice (some ⟨b,if cap = i + 1 then off else off + (i + 1) * E.sz,none⟩) (xs.length - (i + 1)) (cap - (i + 1))) E (xs.drop (i + 1)):=by
  have hs:=s.small
  rcases s.reads with ⟨_,_,rfl⟩ | ⟨cap,e,hc,k⟩
  · cases hi
  · refine ⟨vb v,vo v,cap,e,hc,⟨by simp; omega,.inr ⟨cap,by simp [vb,vo,Nat.min_eq_left (Nat.le_of_lt hi)],by simp; omega,fun j x hx=>?_⟩⟩,?_⟩
    · have hj : j < i := by
        rcases Nat.lt_or_ge j i with y | y
        · exact y
        · rw [List.getElem?_take,if_neg (by omega)] at hx; cases hx
      rw [List.getElem?_take,if_pos hj] at hx
      exact k j x hx
    · refine ⟨by simp; omega,.inr ⟨cap - (i + 1),by simp [vb,vo],by simp; omega,fun j x hx=>?_⟩⟩
      rw [List.getElem?_drop] at hx
      have hl:i + 1 + j < xs.length:=by
        rcases Nat.lt_or_ge (i + 1 + j) xs.length with y | y
        · exact y
        · rw [List.getElem?_eq_none y] at hx; cases hx
      have:=k (i + 1 + j) x hx
      show Cells h ⟨vb v,(if cap = i + 1 then vo v else vo v + (i + 1) * E.sz) + j * E.sz,none⟩ (E.f x)
      rw [if_neg (by omega)]
      rw [show vo v + (i + 1) * E.sz + j * E.sz = vo v + (i + 1 + j) * E.sz by rw [Nat.add_mul (i + 1) j]; omega]
      exact this
theorem sizeL_bd {α:Type} {f:α→Nat} {c:Nat}:∀ xs:List α,(∀ x ∈ xs,f x ≤ c)→sizeL f xs ≤ c * xs.length
  | [],_=>by simp [sizeL]
  | x :: xs,h=>by
    have h1:=h x (by simp)
    have h2:=sizeL_bd xs fun y hy=>h y (by simp [hy])
    simp only [sizeL,List.length_cons,Nat.mul_add]; omega
theorem ver_ge {k:Keeper} (h:∀ i,i < k.shown.length→shownOk k i = true):∀ i,i < k.shown.length→(i:Int) ≤ (gt k.shown i).ver
  | 0,h0=>by
    have:=h 0 h0
    unfold shownOk verOk at this
    simp only [Bool.and_eq_true] at this
    have h3:=of_decide_eq_true this.1.1.1
    omega
  | i + 1,h0=>by
    have ih:=ver_ge h i (by omega)
    have:=h (i + 1) h0
    unfold shownOk at this
    simp only [Bool.and_eq_true] at this
    have h3:=of_decide_eq_true this.1.2
    have h4:prevVer k (i + 1) = (gt k.shown i).ver:=by unfold prevVer; rw [if_neg (by omega)]; rfl
    omega
theorem sz_keeper {k:Keeper} (h:keepOk k = true):szKeeperN k ≤ 100000∧k.shown.length ≤ 61:=by
  obtain ⟨h1,h2,h3⟩:=(keepOk_iff k).1 h
  have hs:=(gok h1.grid).small
  have hm:=(gok h1.grid).many
  have e60:=h1.e60
  have n3:=h1.n3
  have hl:k.shown.length ≤ 61:=by
    by_cases e:k.shown.length = 0
    · omega
    · have a:=ver_ge h3 (k.shown.length - 1) (by omega)
      have b:=h3 (k.shown.length - 1) (by omega)
      unfold shownOk verOk at b
      simp only [Bool.and_eq_true] at b
      have h4:=of_decide_eq_true b.1.1.2
      omega
  have p1:sizeL szPartN k.parts ≤ 30 * k.parts.length:=sizeL_bd _ fun p hp=>by
    obtain ⟨i,hi,rfl⟩:=List.getElem_of_mem hp
    have:=h2 i hi
    rw [gt_eq hi] at this
    unfold partOk at this
    split at this
    · simp only [Bool.and_eq_true,decide_eq_true_eq] at this
      rw [szPartN,this.2]; exact partLights_le h1 _ _
    · simp only [Bool.and_eq_true,decide_eq_true_eq] at this
      rw [szPartN]; omega
  have p2:sizeL szShownN k.shown ≤ 30 * k.shown.length:=sizeL_bd _ fun p hp=>by
    obtain ⟨i,hi,rfl⟩:=List.getElem_of_mem hp
    have:=h3 i hi
    rw [shownOk,gt_eq hi] at this
    simp only [Bool.and_eq_true,decide_eq_true_eq] at this
    rw [szShownN,this.2,picOf_len,gridAt_many]; omega
  refine ⟨?_,hl⟩
  simp only [szKeeperN,szPartSN,szShownSN]
  omega
theorem sz_scene {s:Scene} (h:sceneOk s = true):szSceneN s ≤ 100000:=by
  obtain ⟨h1,h2⟩:=sceneOk_is h
  have hs:=(gok h1).small
  have hm:=(gok h1).many
  have e2:s.lights.length = (manyOf s.grid).toNat:=by rw [h2]; exact picOf_len _
  have e3:s.feet.length = (manyOf s.grid).toNat:=by rw [h2]; exact feetOf_len _
  have e4:sizeL List.length s.feet ≤ 25 * s.feet.length:=sizeL_bd _ fun x hx=>by
    rw [h2] at hx
    simp only [sceneOf,feetOf,List.mem_map] at hx
    obtain ⟨j,-,rfl⟩:=hx
    unfold footOf
    have:=footIs_len s.grid (goLight s.grid j).1
    omega
  simp only [szSceneN,szIntSSN]
  omega
theorem sz_painter {p:Painter} (h:paintOk p = true):szPainterN p ≤ 100000:=by
  unfold szPainterN
  by_cases hh:p.has = true
  · exact sz_scene (paintOk_has h hh).2.2.2
  · unfold paintOk at h
    rw [if_neg hh] at h
    simp only [Bool.and_eq_true,decide_eq_true_eq] at h
    rw [h.2]; decide
theorem sz_word {k:Keeper} (hk:HeadOk k) {x:Word} (h:wordTrue k x = true):x.grid.cells.length ≤ 25∧x.lights.length ≤ 30:=by
  have hx:x = rightWord k x:=by simp only [wordTrue,Bool.and_eq_true,decide_eq_true_eq] at h; exact h.2
  have hg:∀ v,(gridAt k v).cells.length ≤ 25:=fun v=>by have:=(gok (gridAt_ok hk.grid hk.edits v)).small; omega
  rw [hx]
  unfold rightWord
  split
  · exact ⟨hg _,by simp⟩
  · split
    · exact ⟨by simp [noGrid],by simp⟩
    · split
      · exact ⟨by simp [noGrid],partLights_le hk _ _⟩
      · exact ⟨by simp [noGrid],by simp⟩
theorem sizeL_set {α:Type} {f:α→Nat}:∀ (l:List α) (i:Nat) (x:α),sizeL f (l.set i x) ≤ sizeL f l + f x
  | [],_,_=>by simp [sizeL]
  | y :: l,0,x=>by simp only [List.set,sizeL]; omega
  | y :: l,i + 1,x=>by have:=sizeL_set (f:=f) l i x; simp only [List.set,sizeL]; omega
theorem sizeL_snoc {α:Type} {f:α→Nat} {x:α}:∀ l:List α,sizeL f (l++[x]) = sizeL f l + f x
  | []=>by simp [sizeL]
  | y :: l=>by simp only [List.cons_append,sizeL,sizeL_snoc l]; omega
theorem BAll.snoc {α:Type} {R:Rep α} {h:PHeap} {rs:List (Raw R.sz)} {xs:List α} {r:Raw R.sz} {x:α} (o:BAll R h rs xs) (p:R.B h r.cs x):BAll R h (rs++[r]) (xs++[x]):=by
  induction o with
  | nil=>exact .cons p .nil
  | cons a _ ih=>exact .cons a ih
theorem set_self {α:Type} [Inhabited α] {l:List α} {i:Nat} (h:i < l.length):l.set i (gt l i) = l:=by
  refine ext_gt (by simp) fun j hj=>?_
  have hj':j < l.length:=by simpa using hj
  rw [gt_setI hj']
  split
  · rename_i e; subst e; rfl
  · rfl
theorem part_small {k:Keeper} (h:keepOk k = true) {i:Nat} (hi:i < k.parts.length):0 ≤ (gt k.parts i).ver∧(gt k.parts i).ver ≤ 60∧(gt k.parts i).lights.length ≤ 30:=by
  have h1:=keepOk_head h
  have:=keepOk_part h hi
  have h60:=h1.e60
  unfold partOk at this
  split at this
  · simp only [Bool.and_eq_true,decide_eq_true_eq,verOk] at this
    refine ⟨by omega,by omega,?_⟩
    rw [this.2]; exact partLights_le h1 _ _
  · simp only [Bool.and_eq_true,decide_eq_true_eq] at this
    omega
theorem pic_long {k:Keeper} (h:keepOk k = true) {i:Nat} (hi:i < k.shown.length):4 ≤ (gt k.shown i).pic.length∧(gt k.shown i).pic.length ≤ 20:=by
  have h1:=keepOk_head h
  have:=((keepOk_iff k).1 h).2.2 i hi
  unfold shownOk at this
  simp only [Bool.and_eq_true] at this
  have h2:=of_decide_eq_true this.2
  have hm:=(gok h1.grid).many
  rw [h2,picOf_len,gridAt_many]
  omega
end Go.Sl

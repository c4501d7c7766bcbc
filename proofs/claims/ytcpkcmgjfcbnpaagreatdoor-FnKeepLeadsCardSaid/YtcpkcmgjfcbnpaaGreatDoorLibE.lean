/- Rules of a calculus of our own, no program: SpP SpS. -/
import Derived.Test.YtcpkcmgjfcbnpaaGreatDoorLibC
import Derived.Test.YtcpkcmgjfcbnpaaGreatDoorSmE
import Derived.Sort.AssemblyPlain
set_option linter.unusedVariables false
set_option linter.unusedSimpArgs false
set_option linter.unusedSectionVars false
namespace Go.Sl
def Asc (xs:List Int):Prop:=xs.Pairwise (· < ·)
theorem asc_ext:∀ {xs ys:List Int},Asc xs→Asc ys→(∀ x,x ∈ xs ↔ x ∈ ys)→xs = ys
  | [],[],_,_,_=>rfl
  | [],y :: ys,_,_,h=>by have:=(h y).2 (by simp); cases this
  | x :: xs,[],_,_,h=>by have:=(h x).1 (by simp); cases this
  | x :: xs,y :: ys,hx,hy,h=>by
    have hx':=List.pairwise_cons.1 hx
    have hy':=List.pairwise_cons.1 hy
    have e:x = y:=by
      have h1:=(h x).1 (by simp)
      have h2:=(h y).2 (by simp)
      rcases List.mem_cons.1 h1 with e | h1
      · exact e
      rcases List.mem_cons.1 h2 with e | h2
      · exact e.symm
      have:=hx'.1 y h2
      have:=hy'.1 x h1
      omega
    subst e
    rw [asc_ext hx'.2 hy'.2 fun z=>?_]
    constructor
    · intro hz
      have:=(h z).1 (by simp [hz])
      rcases List.mem_cons.1 this with e | h1
      · subst e; have:=hx'.1 z hz; omega
      · exact h1
    · intro hz
      have:=(h z).2 (by simp [hz])
      rcases List.mem_cons.1 this with e | h1
      · subst e; have:=hy'.1 z hz; omega
      · exact h1
def compactF:List Int→List Int
  | []=>[]
  | [x]=>[x]
  | x :: y :: l=>if x = y then compactF (y :: l) else x :: compactF (y :: l)
theorem compactF_snoc (b:Int):∀ (xs:List Int) (a:Int),compactF (xs++[a,b]) = if a = b then compactF (xs++[a]) else compactF (xs++[a])++[b]
  | [],a=>by simp only [List.nil_append,compactF]; split <;> simp_all
  | [x],a=>by
    simp only [List.cons_append,List.nil_append,compactF]
    split <;> split <;> simp_all
  | x :: y :: xs,a=>by
    have ih:=compactF_snoc b (y :: xs) a
    simp only [List.cons_append] at ih ⊢
    unfold compactF
    by_cases e:x = y
    · simp only [e,if_true]; exact ih
    · simp only [e,if_false]; rw [ih]
      split <;> simp
theorem take_two {xs:List Int} {j:Nat} (h:j + 1 < xs.length):xs.take (j + 2) = xs.take j++[gt xs j,gt xs (j + 1)]:=by
  rw [take_succ_gt h,take_succ_gt (by omega:j < xs.length)]; simp
theorem compactF_step {xs:List Int} {j:Nat} (h:j + 1 < xs.length):compactF (xs.take (j + 2)) = if gt xs (j + 1) = gt xs j then compactF (xs.take (j + 1)) else compactF (xs.take (j + 1))++[gt xs (j + 1)]:=by
  rw [take_two h,compactF_snoc,take_succ_gt (by omega:j < xs.length)]
  by_cases e:gt xs j = gt xs (j + 1)
  · rw [if_pos e,if_pos e.symm]
  · rw [if_neg e,if_neg (Ne.symm e)]
theorem compactF_mem:∀ (xs:List Int) (z:Int),z ∈ compactF xs ↔ z ∈ xs
  | [],z=>by simp [compactF]
  | [x],z=>by simp [compactF]
  | x :: y :: l,z=>by
    have ih:=compactF_mem (y :: l) z
    unfold compactF
    split
    · rename_i e; subst e; rw [ih]; simp
    · rw [List.mem_cons,ih]; simp
theorem compactF_asc:∀ (xs:List Int),xs.Pairwise (· ≤ ·)→Asc (compactF xs)
  | [],_=>List.Pairwise.nil
  | [x],_=>by unfold compactF; exact List.pairwise_singleton _ _
  | x :: y :: l,h=>by
    have h':=List.pairwise_cons.1 h
    have ih:=compactF_asc (y :: l) h'.2
    unfold compactF
    split
    · exact ih
    · rename_i e
      refine List.pairwise_cons.2 ⟨fun z hz=>?_,ih⟩
      have hz':=(compactF_mem _ z).1 hz
      have h1:=h'.1 z hz'
      have h2:=h'.1 y (by simp)
      rcases List.mem_cons.1 hz' with e | hz2
      · omega
      · have:=(List.pairwise_cons.1 h'.2).1 z hz2; omega
theorem compactF_id {xs:List Int} (h:Asc xs):compactF xs = xs:=asc_ext (compactF_asc xs (h.imp fun h=>by omega)) h (compactF_mem xs)
def sortF (xs:List Int):List Int:=xs.mergeSort fun x y=>decide (x ≤ y)
theorem sortF_mem (xs:List Int) (z:Int):z ∈ sortF xs ↔ z ∈ xs:=List.mem_mergeSort
theorem sortF_sorted (xs:List Int):(sortF xs).Pairwise (· ≤ ·):=by
  have:=List.pairwise_mergeSort (le:=fun x y:Int=>decide (x ≤ y)) (by intro a b c; simp; omega) (by intro a b; simp; omega) xs
  exact this.imp fun h=>by simpa using h
theorem sortF_id {xs:List Int} (h:Asc xs):sortF xs = xs:=List.mergeSort_of_pairwise (h.imp fun h=>by simp; omega)
theorem sortF_len (xs:List Int):(sortF xs).length = xs.length:=List.length_mergeSort xs
theorem footIs_asc (g:Grid) (vs:List Visit):Asc (footIs g vs):=by
  unfold footIs Asc
  rw [List.pairwise_map]
  refine (List.Pairwise.filter _ List.pairwise_lt_range).imp fun h=>by omega
theorem footIs_mem (g:Grid) (vs:List Visit) (hv:∀ v ∈ vs,0 ≤ v.at'∧v.at' < g.cells.length) (z:Int):z ∈ footIs g vs ↔ z ∈ vs.map Visit.at':=by
  unfold footIs
  simp only [List.mem_map,List.mem_filter,List.mem_range,List.any_eq_true,decide_eq_true_eq]
  constructor
  · rintro ⟨i,⟨hi,v,hv',e⟩,rfl⟩; exact ⟨v,hv',e⟩
  · rintro ⟨v,hv',rfl⟩
    have:=hv v hv'
    exact ⟨v.at'.toNat,⟨by omega,v,hv',by omega⟩,by omega⟩
theorem foot_sorted (g:Grid) (vs:List Visit) (hv:∀ v ∈ vs,0 ≤ v.at'∧v.at' < g.cells.length):compactF (sortF (vs.map Visit.at')) = footIs g vs:=
  asc_ext (compactF_asc _ (sortF_sorted _)) (footIs_asc g vs) fun z=>by rw [compactF_mem,sortF_mem,footIs_mem g vs hv]
theorem footIs_len (g:Grid) (vs:List Visit):(footIs g vs).length ≤ g.cells.length:=by
  unfold footIs
  rw [List.length_map]
  have:=List.length_filter_le (fun i=>vs.any fun v=>decide (v.at' = (i:Nat))) (List.range g.cells.length)
  simpa using this
theorem feetOf_len (g:Grid):(feetOf g).length = (manyOf g).toNat:=by simp [feetOf]
theorem feetOf_at {g:Grid} {k:Nat} (h:k < (manyOf g).toNat):gt (feetOf g) k = footOf g k:=by
  rw [gt_eq (by rw [feetOf_len]; exact h)]; simp [feetOf]
def noScene:Scene:=⟨noGrid,[],[]⟩
def sceneOk (s:Scene):Bool:=gridOk s.grid && decide (s = sceneOf s.grid)
theorem sceneOk_is {s:Scene} (h:sceneOk s = true):gridOk s.grid = true∧s = sceneOf s.grid:=by simpa [sceneOk] using h
theorem sceneOk_of {g:Grid} (h:gridOk g = true):sceneOk (sceneOf g) = true:=by simp [sceneOk,sceneOf,h]
def sceneNew (g:Grid):Scene × Bool:=if gridOk g = true then (sceneOf g,true) else (noScene,false)
def touchTo (feet:List (List Int)) (a:Int) (n:Nat):List Nat:=(List.range n).filter fun k=>decide (a ∈ gt feet k)
def touched (feet:List (List Int)) (a:Int):List Nat:=touchTo feet a feet.length
theorem touchTo_step (feet:List (List Int)) (a:Int) (n:Nat):touchTo feet a (n + 1) = if a ∈ gt feet n then touchTo feet a n++[n] else touchTo feet a n:=by
  unfold touchTo
  rw [List.range_succ,List.filter_append]
  split <;> simp_all
theorem touchTo_lt {feet:List (List Int)} {a:Int} {n k:Nat} (h:k ∈ touchTo feet a n):k < n:=by
  unfold touchTo at h; simp at h; exact h.1
theorem touchTo_len (feet:List (List Int)) (a:Int) (n:Nat):(touchTo feet a n).length ≤ n:=by
  unfold touchTo
  have:=List.length_filter_le (fun k=>decide (a ∈ gt feet k)) (List.range n)
  simpa using this
def natsI (ks:List Nat):List Int:=ks.map fun k=>((k:Nat):Int)
theorem touched_asc (feet:List (List Int)) (a:Int) (n:Nat):Asc (natsI (touchTo feet a n)):=by
  unfold natsI Asc touchTo
  rw [List.pairwise_map]
  exact (List.Pairwise.filter _ List.pairwise_lt_range).imp fun h=>by omega
def lookL (g:Grid) (ks:List Nat) (l:List Int):List Int:=ks.foldl (fun l k=>l.set k (trailLight g k)) l
def lookF (g:Grid) (ks:List Nat) (l:List (List Int)):List (List Int):=ks.foldl (fun l k=>l.set k (footOf g k)) l
theorem lookL_len (g:Grid) (ks:List Nat):∀ l,(lookL g ks l).length = l.length:=by
  induction ks with
  | nil=>intro l; rfl
  | cons k ks ih=>intro l; show (lookL g ks _).length = _; rw [ih]; simp
theorem lookF_len (g:Grid) (ks:List Nat):∀ l,(lookF g ks l).length = l.length:=by
  induction ks with
  | nil=>intro l; rfl
  | cons k ks ih=>intro l; show (lookF g ks _).length = _; rw [ih]; simp
theorem lookL_snoc (g:Grid) (ks:List Nat) (k:Nat) (l:List Int):lookL g (ks++[k]) l = (lookL g ks l).set k (trailLight g k):=by simp [lookL]
theorem lookF_snoc (g:Grid) (ks:List Nat) (k:Nat) (l:List (List Int)):lookF g (ks++[k]) l = (lookF g ks l).set k (footOf g k):=by simp [lookF]
def editScene (s:Scene) (e:Edit):Scene:=
  ⟨putCell s.grid e,lookL (putCell s.grid e) (touched s.feet e.at') s.lights,lookF (putCell s.grid e) (touched s.feet e.at') s.feet⟩
def noPainter:Painter:=⟨false,false,0,noScene⟩
def paintOk (p:Painter):Bool:=if p.has = true then p.up && (decide (0 ≤ p.ver) && decide (p.ver ≤ 60)) && sceneOk p.scene else decide (p.ver = 0) && decide (p.scene = noScene)
theorem paintOk_has {p:Painter} (h:paintOk p = true) (hp:p.has = true):p.up = true∧0 ≤ p.ver∧p.ver ≤ 60∧sceneOk p.scene = true:=by
  unfold paintOk at h
  rw [if_pos hp] at h
  simpa [and_assoc] using h
def idOk (id many:Int):Bool:=decide (1 ≤ many) && decide (many ≤ 3) && decide (1 ≤ id) && decide (id ≤ many)
def paintTold (p:Painter) (id many:Int):Word × Bool:=
  if p.up = false then (noWord,false)
  else if p.has = false then (⟨4,0,id,0,noGrid,noEdit,[]⟩,true)
  else (⟨3,0,id,p.ver,noGrid,noEdit,ownLights p.scene.lights (manyOf p.scene.grid).toNat many.toNat id.toNat⟩,true)
def paintHeard (p:Painter) (w:Word):Painter:=
  if p.up = false then p
  else if w.kind = 1 then (if (0 ≤ w.ver∧w.ver ≤ 60)∧(p.has = true→p.ver < w.ver)∧gridOk w.grid = true then ⟨true,true,w.ver,sceneOf w.grid⟩ else p)
  else if w.kind = 2 then (if p.has = true∧w.ver = p.ver + 1∧w.ver ≤ 60∧editOk p.scene.grid w.edit = true then ⟨true,true,w.ver,editScene p.scene w.edit⟩ else p)
  else p
def paintHear (p:Painter) (w:Word):Painter:=if paintOk p = true then paintHeard p w else noPainter
end Go.Sl
namespace Go.Sl
open Go Go.Sort
theorem gt_arr {d:Array Int} {i:Nat} (h:i < d.size):gt d.toList i = d[i]!:=by
  rw [gt_eq (by simpa using h),getElem!_pos d i h]; simp
theorem gt_arr' {d:Array Int} {z:Int} {i:Nat} (e:z.toNat = i) (h:i < d.size):gt d.toList z.toNat = d[i]!:=by rw [e]; exact gt_arr h
theorem swp_list {d:Array Int} {i j:Nat} (hi:i < d.size) (hj:j < d.size):(swp d i j).toList = (d.toList.set i (gt d.toList j)).set j (gt d.toList i):=by
  rw [gt_arr hi,gt_arr hj]; simp [swp]
theorem swp_is {d:Array Int} {a b c e i j:Nat} {ys zs:List Int} (hy:ys = d.toList.set a (gt d.toList b)) (hz:zs = ys.set c (gt d.toList e)) (h1:a = i) (h2:b = j) (h3:c = j) (h4:e = i) (hi:i < d.size) (hj:j < d.size):zs = (swp d i j).toList:=by
  subst h1 h2 h3 hy hz; rw [h4,swp_list hi hj]
theorem ltInt_is (x y:Int):ltInt x y = decide (x < y):=rfl
theorem vI {a b:Int} (h:a = b):some (Value.int .i64 a) = some (Value.int .i64 b):=by rw [h]
theorem insInner_no {a j:Nat} {d:Array Int} (h:¬ a < j):insInner ltInt a j d = d:=by
  cases j with
  | zero=>rfl
  | succ j=>simp only [insInner]; rw [if_neg]; simp; omega
theorem insInner_stop {a j:Nat} {d:Array Int} (h:¬ d[j + 1]! < d[j]!):insInner ltInt a (j + 1) d = d:=by
  simp only [insInner]; rw [if_neg]; simp [ltInt_is]; omega
theorem insInner_go {a j:Nat} {d:Array Int} (h:a < j + 1) (h2:d[j + 1]! < d[j]!):insInner ltInt a (j + 1) d = insInner ltInt a j (swp d (j + 1) j):=by
  rw [insInner,if_pos]; simp [ltInt_is,h2]; omega
theorem insOuter_go {a b i:Nat} {d:Array Int} (h:i < b):insOuter ltInt a b i d = insOuter ltInt a b (i + 1) (insInner ltInt a i d):=by rw [insOuter,if_pos h]
theorem insOuter_end {a b i:Nat} {d:Array Int} (h:¬ i < b):insOuter ltInt a b i d = d:=by rw [insOuter,if_neg h]
def Child (hi first r:Nat) (f:Array Int) (c:Nat):Prop:=
  ((2 * r + 2 < hi∧f[first + (2 * r + 1)]! < f[first + (2 * r + 2)]!)∧c = 2 * r + 2) ∨ (¬ (2 * r + 2 < hi∧f[first + (2 * r + 1)]! < f[first + (2 * r + 2)]!)∧c = 2 * r + 1)
theorem child_is (hi first r:Nat) (f:Array Int):∃ c,Child hi first r f c:=by
  by_cases h:2 * r + 2 < hi∧f[first + (2 * r + 1)]! < f[first + (2 * r + 2)]!
  · exact ⟨_,.inl ⟨h,rfl⟩⟩
  · exact ⟨_,.inr ⟨h,rfl⟩⟩
theorem siftDown_step {hi first r c:Nat} {f:Array Int} (h1:2 * r + 1 < hi) (hc:Child hi first r f c):siftDown ltInt hi first r f = if f[first + r]! < f[first + c]! then siftDown ltInt hi first c (swp f (first + r) (first + c)) else f:=by
  rw [siftDown,dif_neg (by omega)]
  rcases hc with ⟨⟨h2,h3⟩,rfl⟩ | ⟨h2,rfl⟩
  · rw [if_pos (by simp only [Bool.and_eq_true,decide_eq_true_eq,ltInt_is]; exact ⟨by omega,h3⟩)]
    by_cases h4:f[first + r]! < f[first + (2 * r + 2)]!
    · rw [if_neg (by simp [ltInt_is,h4]),dif_pos h2,if_pos h4]
    · rw [if_pos (by simp [ltInt_is]; omega),if_neg h4]
  · rw [if_neg (by simp only [Bool.and_eq_true,decide_eq_true_eq,ltInt_is]; exact fun h=>h2 ⟨by omega,h.2⟩)]
    by_cases h4:f[first + r]! < f[first + (2 * r + 1)]!
    · rw [if_neg (by simp [ltInt_is,h4]),if_pos h4]
    · rw [if_pos (by simp [ltInt_is]; omega),if_neg h4]
theorem scanUp_go {p:Int→Bool} {d:Array Int} {j i:Nat} (h:i ≤ j) (hp:p d[i]! = true):scanUp p d j i = scanUp p d j (i + 1):=by
  rw [scanUp,if_pos]; simp [h,hp]
theorem scanUp_stop {p:Int→Bool} {d:Array Int} {j i:Nat} (h:¬ (i ≤ j∧p d[i]! = true)):scanUp p d j i = i:=by
  rw [scanUp,if_neg]; simpa using h
theorem scanDown_go {p:Int→Bool} {d:Array Int} {j i:Nat} (h:i ≤ j + 1) (hp:p d[j + 1]! = true):scanDown p d i (j + 1) = scanDown p d i j:=by
  rw [scanDown,if_pos]; simp [h,hp]
theorem scanDown_stop {p:Int→Bool} {d:Array Int} {j i:Nat} (h:¬ (i ≤ j∧p d[j]! = true)):scanDown p d i j = j:=by
  cases j with
  | zero=>rfl
  | succ j=>rw [scanDown,if_neg]; simpa using h
theorem partLoop_step {a i j i2 j2 : Nat} {d : Array Int} (h1 : scanUp (fun x => ltInt x d[a]!) d j i = i2) (h2 : scanDown (fun x => !ltInt x d[a]!) d i2 j = j2) (hi : i ≤ i2) (hj : j2 ≤ j) :
    (j2 < i2→partLoop ltInt a i j d = (j2,d))∧(i2 ≤ j2→1 ≤ j2→partLoop ltInt a i j d = partLoop ltInt a (i2 + 1) (j2 - 1) (swp d i2 j2)):=by
  constructor
  · intro h; rw [partLoop]; simp only [h1,h2]; rw [if_pos h]
  · intro h h0; rw [partLoop]; simp only [h1,h2]; rw [if_neg (by omega),dif_pos (by omega)]
theorem partEqLoop_step {a i j i2 j2 : Nat} {d : Array Int} (h1 : scanUp (fun x => !ltInt d[a]! x) d j i = i2) (h2 : scanDown (fun x => ltInt d[a]! x) d i2 j = j2) (hi : i ≤ i2) (hj : j2 ≤ j) :
    (j2 < i2→partEqLoop ltInt a i j d = (i2,d))∧(i2 ≤ j2→1 ≤ j2→partEqLoop ltInt a i j d = partEqLoop ltInt a (i2 + 1) (j2 - 1) (swp d i2 j2)):=by
  constructor
  · intro h; rw [partEqLoop]; simp only [h1,h2]; rw [if_pos h]
  · intro h h0; rw [partEqLoop]; simp only [h1,h2]; rw [if_neg (by omega),dif_pos (by omega)]
theorem partition_A {a b pivot i j:Nat} {d e:Array Int} (h0:e = swp d a pivot) (h1:scanUp (fun x=>ltInt x e[a]!) e (b - 1) (a + 1) = i) (h2:scanDown (fun x=>!ltInt x e[a]!) e i (b - 1) = j) (h:j < i):Sort.partition ltInt d a b pivot = (j,true,swp e j a):=by
  subst h0; unfold Sort.partition; simp only [h1,h2]; rw [if_pos h]
theorem partition_B {a b pivot i j:Nat} {d e:Array Int} (h0:e = swp d a pivot) (h1:scanUp (fun x=>ltInt x e[a]!) e (b - 1) (a + 1) = i) (h2:scanDown (fun x=>!ltInt x e[a]!) e i (b - 1) = j) (h:i ≤ j) {r:Nat × Array Int} (hr:partLoop ltInt a (i + 1) (j - 1) (swp e i j) = r):Sort.partition ltInt d a b pivot = (r.1,false,swp r.2 r.1 a):=by
  subst h0 hr; unfold Sort.partition; simp only [h1,h2]; rw [if_neg (by omega)]
theorem scanSorted_go {d:Array Int} {b i:Nat} (h:i < b) (hp:¬ d[i]! < d[i - 1]!):scanSorted ltInt d b i = scanSorted ltInt d b (i + 1):=by
  rw [scanSorted,if_pos]; simp [h,ltInt_is]; omega
theorem scanSorted_stop {d:Array Int} {b i:Nat} (h:¬ (i < b∧¬ d[i]! < d[i - 1]!)):scanSorted ltInt d b i = i:=by
  rw [scanSorted,if_neg]; simp only [Bool.and_eq_true,decide_eq_true_eq,ltInt_is,Bool.not_eq_true',decide_eq_false_iff_not]; exact h
theorem shiftDown_go {d:Array Int} {j:Nat} (h:d[j + 1]! < d[j]!):shiftDown ltInt (j + 1) d = shiftDown ltInt j (swp d (j + 1) j):=by
  rw [shiftDown,if_neg]; simp [ltInt_is,h]
theorem shiftDown_stop {d:Array Int} {j:Nat} (h:¬ d[j + 1]! < d[j]!):shiftDown ltInt (j + 1) d = d:=by
  rw [shiftDown,if_pos]; simp [ltInt_is]; omega
theorem shiftUp_go {d:Array Int} {b j:Nat} (h0:j < b) (h:d[j]! < d[j - 1]!):shiftUp ltInt b j d = shiftUp ltInt b (j + 1) (swp d j (j - 1)):=by
  rw [shiftUp,if_pos h0,if_neg]; simp [ltInt_is,h]
theorem shiftUp_stop {d:Array Int} {b j:Nat} (h:¬ (j < b∧d[j]! < d[j - 1]!)):shiftUp ltInt b j d = d:=by
  rw [shiftUp]
  split
  · rw [if_pos]; simp [ltInt_is]; omega
  · rfl
theorem partialIns_step {a b s i i2 : Nat} {d : Array Int} (h1 : scanSorted ltInt d b i = i2) :
    (i2 = b→partialIns ltInt a b (s + 1) i d = (d,true))∧(i2 ≠ b→b - a < 50→partialIns ltInt a b (s + 1) i d = (d,false)) ∧
    (i2 ≠ b→¬ b - a < 50→∀ d2 d3,d2 = (if 2 ≤ i2 - a then shiftDown ltInt (i2 - 1) (swp d i2 (i2 - 1)) else swp d i2 (i2 - 1))→d3 = (if 2 ≤ b - i2 then shiftUp ltInt b (i2 + 1) d2 else d2)→partialIns ltInt a b (s + 1) i d = partialIns ltInt a b s i2 d3):=by
  refine ⟨fun h=>?_,fun h h2=>?_,fun h h2 d2 d3 e2 e3=>?_⟩
  · rw [partialIns]; simp only [h1]; rw [if_pos h]
  · rw [partialIns]; simp only [h1]; rw [if_neg h,if_pos h2]
  · rw [partialIns]; simp only [h1]; rw [if_neg h,if_neg h2]; subst e2 e3; rfl
theorem siftDown_size' (hi first:Nat):∀ (n r:Nat) (f:Array Int),hi - r ≤ n→(siftDown ltInt hi first r f).size = f.size:=by
  intro n
  induction n with
  | zero=>intro r f hn; rw [siftDown,dif_pos (by omega)]
  | succ n ih=>
    intro r f hn
    by_cases h:2 * r + 1 < hi
    · obtain ⟨c,hc⟩:=child_is hi first r f
      rw [siftDown_step h hc]
      split
      · rw [ih c _ (by rcases hc with ⟨_,rfl⟩ | ⟨_,rfl⟩ <;> omega),swp_size]
      · rfl
    · rw [siftDown,dif_pos (by omega)]
theorem siftDown_size (hi first r:Nat) (f:Array Int):(siftDown ltInt hi first r f).size = f.size:=siftDown_size' hi first _ r f (Nat.le_refl _)
end Go.Sl

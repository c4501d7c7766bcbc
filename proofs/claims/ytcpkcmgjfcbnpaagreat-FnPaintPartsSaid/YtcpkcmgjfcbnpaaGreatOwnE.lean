/- Walks of the seat: QD QE QF QG LC LD KE Wg FkF FkG FkH FkI FkJ FkK KF KH PA PB PC. -/
import Derived.Test.YtcpkcmgjfcbnpaaGreatOwnD
import Derived.Test.YtcpkcmgjfcbnpaaGreatLibF
import Derived.Test.YtcpkcmgjfcbnpaaGreatOwnC
import Derived.Test.YtcpkcmgjfcbnpaaGreatLibC
import Derived.Test.YtcpkcmgjfcbnpaaGreatLibD
import Derived.Test.YtcpkcmgjfcbnpaaGreatProg
import Derived.Conc.WgLib
import Derived.KernelRfl
import Derived.Test.YtcpkcmgjfcbnpaaGreatOwnA
import Derived.Test.YtcpkcmgjfcbnpaaGreatSlK
import Derived.Test.YtcpkcmgjfcbnpaaGreatLibA
import Derived.Test.YtcpkcmgjfcbnpaaGreatSlGo
import Derived.Test.YtcpkcmgjfcbnpaaGreatSlSw
import Derived.Test.YtcpkcmgjfcbnpaaGreatSlEd
import Derived.Test.YtcpkcmgjfcbnpaaGreatSmL
import Derived.Test.YtcpkcmgjfcbnpaaGreatLibJ
import Derived.Test.YtcpkcmgjfcbnpaaGreatLibE
set_option linter.unusedVariables false
set_option linter.unusedSimpArgs false
set_option linter.unusedSectionVars false
namespace Go.Proofs.YtcpkcmgjfcbnpaaGreat
open Go Go.Sl Go.Sort
set_option maxRecDepth 100000
set_option maxHeartbeats 4000000
attribute [local irreducible] Go.Code.sf sfOps Opq opo retF Do1 anyO
variable {M : Jdg → Prop} [IsCl Tryz.prog M]
theorem partitionEqual_f (h : PHeap) (v : Value) (A : Own) (d : Array Int) (g : Gr A v 3 intF d.toList) (a b p : Nat) (hb : b ≤ d.size) (hs : d.size ≤ 1000000) (hab : a < b) (hp : a ≤ p ∧ p < b) :
    CallF Tryz.prog M 136 [v, .int .i64 (a : Int), .int .i64 (b : Int), .int .i64 (p : Int)] A h fun u A' => u = .int .i64 ((partitionEqual ltInt d a b p).1 : Int) ∧ Gr A' v 3 intF (partitionEqual ltInt d a b p).2.toList := by
  have o := g.one
  have ld : d.toList.length = d.size := by simp
  obtain ⟨n, rfl⟩ : ∃ n : Nat, b = n + 1 := ⟨b - 1, by omega⟩
  refine Cs Tryz.func136 Tryz.ntmps136 ?_
  refine Wo ?_
  apply viaT (G := ∀ (B : Own), Gr B v 3 intF (swp d a p).toList → _)
  · intro tail
    refine sf_draw (by kernel_rfl) (regX_own (A) (regX_split 7 11 (by rfl) ?_ ?_))
    case' refine_1 =>
      refine Sw [[],[],[],[],[],[],[4,5],[4,5,6],[],[],[8,9],[4,5,6,7,8,9,10],[0,1,4,5,6,7,8,9,10,11],[0,1,4,5,6,7,8,9,10,11,12],[0,1,2,3,4,5,6,7,8,9,10,11,12,13],[0,1,2,3,4,5,6,7,8,9,10,11,12,13,14]] 14 [Nn 0,Nn 1,Nn 2,Nn 3,Nn 4,Nn 5,Nn 6,Nn 8,Nn 9,Nn 10,Yy 7,Yy 11,Nn 12,Yy 13] ?_
      refine Di ?_
      refine Yw (by rfl) (z_loadG (by rfl) g (by omega) (by rfl)) ?_
      refine Di ?_
      refine Yw (by rfl) (z_loadG (by rfl) g (by omega) (by rfl)) ?_
      refine Di ?_
      refine Yg g fun As ys hy hl fs gg => ?_
      refine Di ?_
      refine Ae ?_
    case' refine_2 =>
      refine Sw [[],[],[],[],[],[],[4,5],[4,5,6,8,9,10,11],[],[],[8,9],[8,9,10],[0,1,4,5,6,7,8,9,10,11],[0,1,4,5,6,7,8,9,10,11,12],[0,1,2,3,4,5,6,7,8,9,10,11,12,13],[0,1,2,3,4,5,6,7,8,9,10,11,12,13,14]] 14 [Nn 0,Nn 1,Nn 2,Nn 3,Nn 4,Nn 5,Nn 6,Nn 8,Nn 9,Nn 10,Yy 11,Yy 7,Nn 12,Yy 13] ?_
      refine Di ?_
      refine Yw (by rfl) (z_loadG (by rfl) g (by omega) (by rfl)) ?_
      refine Di ?_
      refine Yw (by rfl) (z_loadG (by rfl) g (by omega) (by rfl)) ?_
      refine Di ?_
      refine Yg g fun As ys hy hl fs gg => ?_
      refine Di ?_
      refine Ae ?_
    all_goals
      refine Wi ?_
      refine Xg gg fun At zs hz hlz fz gz => ?_
      refine Wi ?_
      rw [show (((n + 1 : Nat) : Int) - 1) = (n : Int) by omega]
      have hf : zs = (swp d a p).toList := swp_is hy hz (by omega) (by omega) (by omega) (by omega) (by omega) (by omega)
      rw [hf] at gz
      show Code.sf _ _ _ _ _ _ _ _
      refine sf_keep [0, 1, 9, 10] ?_
      refine sf_own At ?_
      exact tail.out At gz
  intro B ge
  obtain ⟨e, he⟩ : ∃ e, e = swp d a p := ⟨_, rfl⟩
  rw [← he] at ge
  have es : e.size = d.size := by rw [he, swp_size]
  have hpe : partitionEqual ltInt d a (n + 1) p = partEqLoop ltInt a (a + 1) n e := by rw [he]; rfl
  rw [hpe]
  refine sf_lp (ι := Nat × Nat × Array Int) [0, 1] (fun x => [(9, .int .i64 (x.1 : Int)), (10, .int .i64 (x.2.1 : Int))]) (fun x O => Gr O v 3 intF x.2.2.toList ∧ x.2.2.size = d.size ∧ a + 1 ≤ x.1 ∧ x.1 ≤ x.2.1 + 2 ∧ a ≤ x.2.1 ∧ x.2.1 ≤ n ∧ partEqLoop ltInt a x.1 x.2.1 x.2.2 = partEqLoop ltInt a (a + 1) n e) (fun x => x.2.1 + 2 - x.1) (a + 1, n, e) B ⟨ge, by simp only; omega, by simp only; omega, by simp only; omega, by simp only; omega, by simp only; omega, rfl⟩ ?_
  rintro ⟨i3, j3, f⟩ O3 ⟨gf, fsz, k1, k2, k3, k4, finv⟩
  simp only at gf fsz k1 k2 k3 k4 finv ⊢
  have lf : f.toList.length = f.size := by simp
  have uf : gt f.toList a = f[a]! := gt_arr (by omega)
  refine Wo ?_
  apply viaT (G := ∀ i : Nat, i3 ≤ i → i ≤ j3 + 2 → scanUp (fun x => !ltInt f[a]! x) f j3 i3 = i → _)
  · intro tail
    refine sf_lp (ι := Nat) [0, 1, 10] (fun x => [(9, .int .i64 (x : Int))]) (fun x O' => O' = O3 ∧ i3 ≤ x ∧ x ≤ j3 + 2 ∧ scanUp (fun x => !ltInt f[a]! x) f j3 x = scanUp (fun x => !ltInt f[a]! x) f j3 (i3)) (fun x => j3 + 2 - x) (i3) O3 ⟨rfl, by omega, by omega, rfl⟩ ?_
    rintro x _ ⟨rfl, hx0, hx1, hinv⟩
    by_cases h2 : x ≤ j3
    · have h3 : (x : Int) ≤ ((j3 : Nat) : Int) := by omega
      have u1 : gt f.toList x = f[x]! := gt_arr (by omega)
      refine Wo ?_
      refine Sd [[],[],[0,1],[0,1,2],[0,1,2,3],[0,1,2,3],[0,1,2,3,4,5],[0,1,2,3,4,5,6],[0,1,2,3],[0,1,2,3],[0,1,2,3,8,9],[0,1,2,3,8,9,10],[0,1,2,3,4,5,6,7,8,9,10,11],[0,1,2,3,4,5,6,7,8,9,10,11,12],[0,1,2,3,4,5,6,7,8,9,10,11,12,13]] 12 [Nn 0,Nn 1,Nn 2,Nn 3,Nn 4,Nn 5,Nn 6,Nn 7,Nn 8,Nn 9,Nn 10,Nn 11] ?_
      refine Di ?_
      refine Ae ?_
      refine Xv (less_v _ _ _) ?_
      refine Wo ?_
      rw [u1, uf]
      refine sf_ifn (fun h4 => ?_) fun h4 => ?_
      · refine Wo ?_
        exact ⟨x + 1, by omega, ⟨rfl, trivial⟩, rfl, _, _, inferInstance, rfl, by omega, by omega, by rw [← hinv]; exact (scanUp_go h2 (by simp only [ltInt_is]; simp [h4])).symm⟩
      · refine sf_exit ?_
        refine Wo ?_
        refine sf_keep [0, 1, 9, 10] ?_
        exact tail.out x (by omega) (by omega) (by rw [← hinv]; exact scanUp_stop (fun h => absurd h4 (by simpa [ltInt_is] using h.2)))
    · have h3 : ¬ (x : Int) ≤ ((j3 : Nat) : Int) := by omega
      refine Wo ?_
      refine Sd [[],[],[0,1],[0,1,2],[0,1,2,3],[0,1,2,3],[0,1,2,3,4,5],[0,1,2,3,4,5,6],[0,1,2,3],[0,1,2,3],[0,1,2,3,8,9],[0,1,2,3,8,9,10],[0,1,2,3,4,5,6,7,8,9,10,11],[0,1,2,3,4,5,6,7,8,9,10,11,12],[0,1,2,3,4,5,6,7,8,9,10,11,12,13]] 12 [Nn 0,Nn 1,Nn 2,Nn 3,Nn 4,Nn 5,Nn 6,Nn 7,Nn 8,Nn 9,Nn 10,Nn 11] ?_
      refine Di ?_
      refine Ae ?_
      refine Wo ?_
      refine sf_cond (by rfl) (fun e => by cases e) fun z1 => ?_
      clear z1
      refine sf_exit ?_
      refine Wo ?_
      refine sf_keep [0, 1, 9, 10] ?_
      exact tail.out x (by omega) (by omega) (by rw [← hinv]; exact scanUp_stop (fun h => h2 h.1))
  intro i4 hi4 hi5 hsu4
  apply viaT (G := ∀ j : Nat, i4 ≤ j + 2 → a ≤ j → j ≤ j3 → scanDown (fun x => ltInt f[a]! x) f i4 j3 = j → _)
  · intro tail
    refine sf_lp (ι := Nat) [0, 1, 9] (fun x => [(10, .int .i64 (x : Int))]) (fun x O' => O' = O3 ∧ i4 ≤ x + 2 ∧ a ≤ x ∧ x ≤ j3 ∧ scanDown (fun x => ltInt f[a]! x) f i4 x = scanDown (fun x => ltInt f[a]! x) f i4 (j3)) (fun x => x) (j3) O3 ⟨rfl, by omega, by omega, by omega, rfl⟩ ?_
    rintro x _ ⟨rfl, hx0, hx2, hx1, hinv⟩
    by_cases h2 : i4 ≤ x
    · obtain ⟨y, hy0⟩ : ∃ k, x = k + 1 := ⟨x - 1, by omega⟩
      have h3 : ((i4 : Nat) : Int) ≤ (x : Int) := by omega
      have u1 : gt f.toList x = f[x]! := gt_arr (by omega)
      refine Wo ?_
      refine Sd [[],[],[0,1],[0,1,2],[0,1,2,3],[0,1,2,3],[0,1,2,3,4,5],[0,1,2,3,4,5,6],[0,1,2,3],[0,1,2,3],[0,1,2,3,8,9],[0,1,2,3,8,9,10],[0,1,2,3,4,5,6,7,8,9,10,11],[0,1,2,3,4,5,6,7,8,9,10,11,12]] 12 [Nn 0,Nn 1,Nn 2,Nn 3,Nn 4,Nn 5,Nn 6,Nn 7,Nn 8,Nn 9,Nn 10,Nn 11] ?_
      refine Di ?_
      refine Ae ?_
      refine Xv (less_v _ _ _) ?_
      refine Wo ?_
      rw [u1, uf]
      refine sf_if (fun h4 => ?_) fun h4 => ?_
      · refine Wo ?_
        subst hy0
        exact ⟨y, by omega, ⟨vI (show ((y + 1 : Nat) : Int) - 1 = (y : Int) by omega), trivial⟩, rfl, _, _, inferInstance, rfl, by omega, by omega, by omega, by rw [← hinv]; exact (scanDown_go h2 (by simp only [ltInt_is]; simp [h4])).symm⟩
      · refine sf_exit ?_
        refine Wo ?_
        (show Code.sf _ _ _ _ _ _ _ _; refine sf_keep [0, 1, 9, 10, 64] ?_)
        exact tail.out x (by omega) (by omega) (by omega) (by rw [← hinv]; exact scanDown_stop (fun h => h4 (by simpa [ltInt_is] using h.2)))
    · have h3 : ¬ ((i4 : Nat) : Int) ≤ (x : Int) := by omega
      refine Wo ?_
      refine Sd [[],[],[0,1],[0,1,2],[0,1,2,3],[0,1,2,3],[0,1,2,3,4,5],[0,1,2,3,4,5,6],[0,1,2,3],[0,1,2,3],[0,1,2,3,8,9],[0,1,2,3,8,9,10],[0,1,2,3,4,5,6,7,8,9,10,11],[0,1,2,3,4,5,6,7,8,9,10,11,12]] 12 [Nn 0,Nn 1,Nn 2,Nn 3,Nn 4,Nn 5,Nn 6,Nn 7,Nn 8,Nn 9,Nn 10,Nn 11] ?_
      refine Di ?_
      refine Ae ?_
      refine Wo ?_
      refine sf_cond (by rfl) (fun e => by cases e) fun z1 => ?_
      clear z1
      refine sf_exit ?_
      refine Wo ?_
      (show Code.sf _ _ _ _ _ _ _ _; refine sf_keep [0, 1, 9, 10, 64] ?_)
      exact tail.out x (by omega) (by omega) (by omega) (by rw [← hinv]; exact scanDown_stop (fun h => h2 h.1))
  intro j4 hj4 hj5 hj6 hsd4
  obtain ⟨s1, s2⟩ := partEqLoop_step hsu4 hsd4 hi4 hj6
  refine sf_if (fun h5 => ?_) fun h5 => ?_
  · refine sf_exit ?_
    rw [← finv, s1 (by omega)]
    refine Wo ?_
    exact sf_ret (rO O3 ⟨rfl, gf⟩)
  obtain ⟨j4, rfl⟩ : ∃ k, j4 = k + 1 := ⟨j4 - 1, by omega⟩
  have s3 := s2 (by omega) (by omega)
  refine Wo ?_
  refine sf_draw (by kernel_rfl) (regX_own (O3) (regX_split 7 11 (by rfl) ?_ ?_))
  case' refine_1 =>
    refine Sw [[],[],[],[],[],[],[4,5],[4,5,6],[],[],[8,9],[4,5,6,7,8,9,10],[0,1,4,5,6,7,8,9,10,11],[0,1,4,5,6,7,8,9,10,11,12],[0,1,2,3,4,5,6,7,8,9,10,11,12,13],[0,1,2,3,4,5,6,7,8,9,10,11,12,13,14]] 14 [Nn 0,Nn 1,Nn 2,Nn 3,Nn 4,Nn 5,Nn 6,Nn 8,Nn 9,Nn 10,Yy 7,Yy 11,Nn 12,Yy 13] ?_
    refine Di ?_
    refine Yw (by rfl) (z_loadG (by rfl) gf (by omega) (by rfl)) ?_
    refine Di ?_
    refine Yw (by rfl) (z_loadG (by rfl) gf (by omega) (by rfl)) ?_
    refine Di ?_
    refine Yg gf fun As ys hy hl fs gg => ?_
    refine Di ?_
    refine Ae ?_
  case' refine_2 =>
    refine Sw [[],[],[],[],[],[],[4,5],[4,5,6,8,9,10,11],[],[],[8,9],[8,9,10],[0,1,4,5,6,7,8,9,10,11],[0,1,4,5,6,7,8,9,10,11,12],[0,1,2,3,4,5,6,7,8,9,10,11,12,13],[0,1,2,3,4,5,6,7,8,9,10,11,12,13,14]] 14 [Nn 0,Nn 1,Nn 2,Nn 3,Nn 4,Nn 5,Nn 6,Nn 8,Nn 9,Nn 10,Yy 11,Yy 7,Nn 12,Yy 13] ?_
    refine Di ?_
    refine Yw (by rfl) (z_loadG (by rfl) gf (by omega) (by rfl)) ?_
    refine Di ?_
    refine Yw (by rfl) (z_loadG (by rfl) gf (by omega) (by rfl)) ?_
    refine Di ?_
    refine Yg gf fun As ys hy hl fs gg => ?_
    refine Di ?_
    refine Ae ?_
  all_goals
    refine Wi ?_
    refine Xg gg fun At zs hz hlz fz gz => ?_
    refine Wi ?_
    rw [show (((j4 + 1 : Nat) : Int) - 1) = (j4 : Int) by omega]
    have hf : zs = (swp f i4 (j4 + 1)).toList := swp_is hy hz (by omega) (by omega) (by omega) (by omega) (by omega) (by omega)
    rw [hf] at gz
    exact ⟨(i4 + 1, j4, swp f i4 (j4 + 1)), by simp only; omega, ⟨rfl, rfl, trivial⟩, rfl, _, _, inferInstance, gz, by simp only [swp_size]; exact fsz, by simp only; omega, by simp only; omega, by simp only; omega, by simp only; omega, by simp only; rw [← finv, s3]; rfl⟩
theorem partialInsertionSort_f (h : PHeap) (v : Value) (A : Own) (d : Array Int) (g : Gr A v 3 intF d.toList) (a b : Nat) (hb : b ≤ d.size) (hs : d.size ≤ 1000000) (hab : a < b) :
    CallF Tryz.prog M 134 [v, .int .i64 (a : Int), .int .i64 (b : Int)] A h fun u A' => u = .bool (partialInsertionSort ltInt d a b).2 ∧ Gr A' v 3 intF (partialInsertionSort ltInt d a b).1.toList := by
  have o := g.one
  refine Cs Tryz.func134 Tryz.ntmps134 ?_
  refine Wo ?_
  refine sf_lp (ι := Nat × Nat × Array Int) [0, 1, 2] (fun x => [(8, .int .i64 (5 - (x.1 : Int))), (7, .int .i64 (x.2.1 : Int))]) (fun x O => Gr O v 3 intF x.2.2.toList ∧ x.2.2.size = d.size ∧ x.1 ≤ 5 ∧ a + 1 ≤ x.2.1 ∧ x.2.1 ≤ b ∧ partialIns ltInt a b x.1 x.2.1 x.2.2 = partialInsertionSort ltInt d a b) (fun x => x.1) (5, a + 1, d) A ⟨g, rfl, by simp only; omega, by simp only; omega, by simp only; omega, rfl⟩ ?_
  rintro ⟨s, i, f⟩ O ⟨gf, fsz, hs5, hi, hib, finv⟩
  simp only at gf fsz hs5 hi hib finv ⊢
  have lf : f.toList.length = f.size := by simp
  refine Wo ?_
  refine sf_if (fun h1 => ?_) fun h1 => ?_
  · obtain ⟨s, rfl⟩ : ∃ k, s = k + 1 := ⟨s - 1, by omega⟩
    refine Wo ?_
    apply viaT (G := ∀ i2 : Nat, i ≤ i2 → i2 ≤ b → scanSorted ltInt f b i = i2 → _)
    · intro tail
      refine sf_lp (ι := Nat) [0, 1, 2, 8] (fun x => [(7, .int .i64 (x : Int))]) (fun x O' => O' = O ∧ i ≤ x ∧ x ≤ b ∧ scanSorted ltInt f b x = scanSorted ltInt f b i) (fun x => b - x) i O ⟨rfl, by omega, hib, rfl⟩ ?_
      rintro x _ ⟨rfl, hx0, hx1, hinv⟩
      by_cases h2 : x < b
      · have h3 : (x : Int) < ((b : Nat) : Int) := by omega
        have u1 : gt f.toList x = f[x]! := gt_arr (by omega)
        have u2 : gt f.toList ((x : Int) - 1).toNat = f[x - 1]! := gt_arr' (by omega) (by omega)
        refine Wo ?_
        refine Sd [[],[],[0,1],[0,1,2],[0,1,2,3],[0,1,2,3],[0,1,2,3,4,5],[0,1,2,3,4,5,6],[0,1,2,3],[0,1,2,3],[0,1,2,3,9],[0,1,2,3,8,9,10],[0,1,2,3,8,9,10,11],[0,1,2,3,4,5,6,7,8,9,10,11,12],[0,1,2,3,4,5,6,7,8,9,10,11,12,13],[0,1,2,3,4,5,6,7,8,9,10,11,12,13,14]] 13 [Nn 0,Nn 1,Nn 2,Nn 3,Nn 4,Nn 5,Nn 6,Nn 7,Nn 8,Nn 9,Nn 10,Nn 11,Nn 12] ?_
        refine Di ?_
        refine Ae ?_
        refine Xv (less_v _ _ _) ?_
        refine Wo ?_
        rw [u1, u2]
        refine sf_ifn (fun h4 => ?_) fun h4 => ?_
        · refine Wo ?_
          exact ⟨x + 1, by omega, ⟨rfl, trivial⟩, rfl, _, _, inferInstance, rfl, by omega, by omega, by rw [← hinv]; exact (scanSorted_go h2 h4).symm⟩
        · refine sf_exit ?_
          refine Wo ?_
          show Code.sf _ _ _ _ _ _ _ _
          refine sf_keep [0, 1, 2, 7, 8, 37] ?_
          exact tail.out x hx0 hx1 (by rw [← hinv]; exact scanSorted_stop fun h => h.2 h4)
      · have h3 : ¬ (x : Int) < ((b : Nat) : Int) := by omega
        refine Wo ?_
        refine Sd [[],[],[0,1],[0,1,2],[0,1,2,3],[0,1,2,3],[0,1,2,3,4,5],[0,1,2,3,4,5,6],[0,1,2,3],[0,1,2,3],[0,1,2,3,9],[0,1,2,3,8,9,10],[0,1,2,3,8,9,10,11],[0,1,2,3,4,5,6,7,8,9,10,11,12],[0,1,2,3,4,5,6,7,8,9,10,11,12,13],[0,1,2,3,4,5,6,7,8,9,10,11,12,13,14]] 13 [Nn 0,Nn 1,Nn 2,Nn 3,Nn 4,Nn 5,Nn 6,Nn 7,Nn 8,Nn 9,Nn 10,Nn 11,Nn 12] ?_
        refine Di ?_
        refine Ae ?_
        refine Wo ?_
        refine sf_cond (by rfl) (fun e => by cases e) fun z1 => ?_
        clear z1
        refine sf_exit ?_
        refine Wo ?_
        show Code.sf _ _ _ _ _ _ _ _
        refine sf_keep [0, 1, 2, 7, 8, 37] ?_
        exact tail.out x hx0 hx1 (by rw [← hinv]; exact scanSorted_stop fun h => h2 h.1)
    intro i2 hi2 hi3 hsc
    obtain ⟨p1, p2, p3⟩ := partialIns_step (a := a) (s := s) hsc
    refine sf_if (fun h5 => ?_) fun h5 => ?_
    · refine Wo ?_
      refine sf_ret (rO O ?_)
      rw [← finv, p1 (by omega)]
      exact ⟨rfl, gf⟩
    refine Wo ?_
    refine sf_if (fun h6 => ?_) fun h6 => ?_
    · refine Wo ?_
      refine sf_ret (rO O ?_)
      rw [← finv, p2 (by omega) (by omega)]
      exact ⟨rfl, gf⟩
    have p4 := p3 (by omega) (by omega) _ _ rfl rfl
    clear p1 p2 p3
    rw [finv] at p4
    clear finv
    refine Wo ?_
    apply viaT (G := ∀ (B : Own), Gr B v 3 intF (swp f i2 (i2 - 1)).toList → _)
    · intro tail
      refine sf_draw (by kernel_rfl) (regX_own (O) (regX_split 9 13 (by rfl) ?_ ?_))
      case' refine_1 =>
        refine Sw [[],[],[],[],[3],[],[],[6],[5,6,7],[5,6,7,8],[],[],[10,11],[5,6,7,8,9,10,11,12],[0,1,5,6,7,8,9,10,11,12,13],[0,1,5,6,7,8,9,10,11,12,13,14],[0,1,2,3,4,5,6,7,8,9,10,11,12,13,14,15],[0,1,2,3,4,5,6,7,8,9,10,11,12,13,14,15,16]] 16 [Nn 0,Nn 1,Nn 2,Nn 3,Nn 4,Nn 5,Nn 6,Nn 7,Nn 8,Nn 10,Nn 11,Nn 12,Yy 9,Yy 13,Nn 14,Yy 15] ?_
        refine Di ?_
        refine Yw (by rfl) (z_loadG (by rfl) gf (by omega) (by rfl)) ?_
        refine Di ?_
        refine Yw (by rfl) (z_loadG (by rfl) gf (by omega) (by rfl)) ?_
        refine Di ?_
        refine Yg gf fun As ys hy hl fs gg => ?_
        refine Di ?_
        refine Ae ?_
      case' refine_2 =>
        refine Sw [[],[],[],[],[3],[],[],[6],[5,6,7],[5,6,7,8,10,11,12,13],[],[],[10,11],[10,11,12],[0,1,5,6,7,8,9,10,11,12,13],[0,1,5,6,7,8,9,10,11,12,13,14],[0,1,2,3,4,5,6,7,8,9,10,11,12,13,14,15],[0,1,2,3,4,5,6,7,8,9,10,11,12,13,14,15,16]] 16 [Nn 0,Nn 1,Nn 2,Nn 3,Nn 4,Nn 5,Nn 6,Nn 7,Nn 8,Nn 10,Nn 11,Nn 12,Yy 13,Yy 9,Nn 14,Yy 15] ?_
        refine Di ?_
        refine Yw (by rfl) (z_loadG (by rfl) gf (by omega) (by rfl)) ?_
        refine Di ?_
        refine Yw (by rfl) (z_loadG (by rfl) gf (by omega) (by rfl)) ?_
        refine Di ?_
        refine Yg gf fun As ys hy hl fs gg => ?_
        refine Di ?_
        refine Ae ?_
      all_goals
        refine Wi ?_
        refine Xg gg fun At zs hz hlz fz gz => ?_
        refine Wi ?_
        have hf : zs = (swp f i2 (i2 - 1)).toList := swp_is hy hz (by omega) (by omega) (by omega) (by omega) (by omega) (by omega)
        rw [hf] at gz
        show Code.sf _ _ _ _ _ _ _ _
        refine sf_keep [0, 1, 2, 7, 8, 61] ?_
        refine sf_own At ?_
        exact tail.out At gz
    intro B ge
    obtain ⟨e, he⟩ : ∃ e, e = swp f i2 (i2 - 1) := ⟨_, rfl⟩
    rw [← he] at ge p4
    have es : e.size = d.size := by rw [he, swp_size]; exact fsz
    apply viaT (G := ∀ (B : Own), Gr B v 3 intF (if 2 ≤ i2 - a then shiftDown ltInt (i2 - 1) e else e).toList → (if 2 ≤ i2 - a then shiftDown ltInt (i2 - 1) e else e).size = d.size → _)
    · intro tail
      refine sf_if (fun h7 => ?_) fun h7 => ?_
      · rw [if_pos (by omega)] at tail
        refine Wo ?_
        rw [show ((i2 : Int) - 1) = ((i2 - 1 : Nat) : Int) by omega]
        refine sf_lp (ι := Nat × Array Int) [0, 1, 2, 7, 8] (fun x => [(9, .int .i64 (x.1 : Int))]) (fun x O => Gr O v 3 intF x.2.toList ∧ x.2.size = d.size ∧ x.1 < b ∧ shiftDown ltInt x.1 x.2 = shiftDown ltInt (i2 - 1) e) (fun x => x.1) (i2 - 1, e) B ⟨ge, es, by simp only; omega, rfl⟩ ?_
        rintro ⟨j, f2⟩ O2 ⟨gf2, f2sz, hj, f2inv⟩
        simp only at gf2 f2sz hj f2inv ⊢
        have lf2 : f2.toList.length = f2.size := by simp
        refine Wo ?_
        refine sf_if (fun h8 => ?_) fun h8 => ?_
        · obtain ⟨j, rfl⟩ : ∃ k, j = k + 1 := ⟨j - 1, by omega⟩
          have u1 : gt f2.toList (j + 1) = f2[j + 1]! := gt_arr (by omega)
          have u2 : gt f2.toList (((j + 1 : Nat) : Int) - 1).toNat = f2[j]! := gt_arr' (by omega) (by omega)
          refine Wo ?_
          refine Sd [[],[],[0,1],[0,1,2],[],[],[5],[4,5,6],[4,5,6,7],[0,1,2,3,4,5,6,7,8],[0,1,2,3,4,5,6,7,8,9]] 9 [Nn 0,Nn 1,Nn 2,Nn 3,Nn 4,Nn 5,Nn 6,Nn 7,Nn 8] ?_
          refine Di ?_
          refine Ae ?_
          refine Xv (less_v _ _ _) ?_
          refine Wo ?_
          rw [u1, u2]
          refine sf_ifn (fun h9 => ?_) fun h9 => ?_
          · refine sf_exit ?_
            have fin := f2inv.symm.trans (shiftDown_stop h9)
            rw [fin] at tail
            refine Wo ?_
            show Code.sf _ _ _ _ _ _ _ _
            refine sf_keep [0, 1, 2, 7, 8, 98] ?_
            refine sf_own O2 ?_
            exact tail.out O2 gf2 f2sz
          · refine Wo ?_
            refine sf_draw (by kernel_rfl) (regX_own (O2) (regX_split 9 13 (by rfl) ?_ ?_))
            case' refine_1 =>
              refine Sw [[],[],[],[],[3],[],[],[6],[5,6,7],[5,6,7,8],[],[],[10,11],[5,6,7,8,9,10,11,12],[0,1,5,6,7,8,9,10,11,12,13],[0,1,5,6,7,8,9,10,11,12,13,14],[0,1,2,3,4,5,6,7,8,9,10,11,12,13,14,15],[0,1,2,3,4,5,6,7,8,9,10,11,12,13,14,15,16]] 16 [Nn 0,Nn 1,Nn 2,Nn 3,Nn 4,Nn 5,Nn 6,Nn 7,Nn 8,Nn 10,Nn 11,Nn 12,Yy 9,Yy 13,Nn 14,Yy 15] ?_
              refine Di ?_
              refine Yw (by rfl) (z_loadG (by rfl) gf2 (by omega) (by rfl)) ?_
              refine Di ?_
              refine Yw (by rfl) (z_loadG (by rfl) gf2 (by omega) (by rfl)) ?_
              refine Di ?_
              refine Yg gf2 fun As ys hy hl fs gg => ?_
              refine Di ?_
              refine Ae ?_
            case' refine_2 =>
              refine Sw [[],[],[],[],[3],[],[],[6],[5,6,7],[5,6,7,8,10,11,12,13],[],[],[10,11],[10,11,12],[0,1,5,6,7,8,9,10,11,12,13],[0,1,5,6,7,8,9,10,11,12,13,14],[0,1,2,3,4,5,6,7,8,9,10,11,12,13,14,15],[0,1,2,3,4,5,6,7,8,9,10,11,12,13,14,15,16]] 16 [Nn 0,Nn 1,Nn 2,Nn 3,Nn 4,Nn 5,Nn 6,Nn 7,Nn 8,Nn 10,Nn 11,Nn 12,Yy 13,Yy 9,Nn 14,Yy 15] ?_
              refine Di ?_
              refine Yw (by rfl) (z_loadG (by rfl) gf2 (by omega) (by rfl)) ?_
              refine Di ?_
              refine Yw (by rfl) (z_loadG (by rfl) gf2 (by omega) (by rfl)) ?_
              refine Di ?_
              refine Yg gf2 fun As ys hy hl fs gg => ?_
              refine Di ?_
              refine Ae ?_
            all_goals
              refine Wi ?_
              refine Xg gg fun At zs hz hlz fz gz => ?_
              refine Wi ?_
              rw [show (((j + 1 : Nat) : Int) - 1) = (j : Int) by omega]
              have hf : zs = (swp f2 (j + 1) j).toList := swp_is hy hz (by omega) (by omega) (by omega) (by omega) (by omega) (by omega)
              rw [hf] at gz
              exact ⟨(j, swp f2 (j + 1) j), by simp only; omega, ⟨rfl, trivial⟩, rfl, _, _, inferInstance, gz, by simp only [swp_size]; exact f2sz, by simp only; omega, by simp only; rw [← f2inv, shiftDown_go h9]⟩
        · obtain rfl : j = 0 := by omega
          refine sf_exit ?_
          have fin : shiftDown ltInt (i2 - 1) e = f2 := f2inv.symm
          rw [fin] at tail
          refine Wo ?_
          show Code.sf _ _ _ _ _ _ _ _
          refine sf_keep [0, 1, 2, 7, 8, 98] ?_
          refine sf_own O2 ?_
          exact tail.out O2 gf2 f2sz
      · rw [if_neg (by omega)] at tail
        refine Wo ?_
        show Code.sf _ _ _ _ _ _ _ _
        refine sf_keep [0, 1, 2, 7, 8, 98] ?_
        exact tail.out B ge es
    intro B2 ge2 es2
    obtain ⟨e2, he2⟩ : ∃ e2, e2 = (if 2 ≤ i2 - a then shiftDown ltInt (i2 - 1) e else e) := ⟨_, rfl⟩
    rw [← he2] at ge2 p4 es2
    refine sf_if (fun h7 => ?_) fun h7 => ?_
    · rw [if_pos (by omega)] at p4
      refine Wo ?_
      refine sf_lp (ι := Nat × Array Int) [0, 1, 2, 7, 8] (fun x => [(10, .int .i64 (x.1 : Int))]) (fun x O => Gr O v 3 intF x.2.toList ∧ x.2.size = d.size ∧ 1 ≤ x.1 ∧ x.1 ≤ b ∧ shiftUp ltInt b x.1 x.2 = shiftUp ltInt b (i2 + 1) e2) (fun x => b - x.1) (i2 + 1, e2) B2 ⟨ge2, es2, by simp only; omega, by simp only; omega, rfl⟩ ?_
      rintro ⟨j, f2⟩ O2 ⟨gf2, f2sz, hj0, hj, f2inv⟩
      simp only at gf2 f2sz hj0 hj f2inv ⊢
      have lf2 : f2.toList.length = f2.size := by simp
      refine Wo ?_
      refine sf_if (fun h8 => ?_) fun h8 => ?_
      · have u1 : gt f2.toList j = f2[j]! := gt_arr (by omega)
        have u2 : gt f2.toList ((j : Int) - 1).toNat = f2[j - 1]! := gt_arr' (by omega) (by omega)
        refine Wo ?_
        refine Sd [[],[],[0,1],[0,1,2],[],[],[5],[4,5,6],[4,5,6,7],[0,1,2,3,4,5,6,7,8],[0,1,2,3,4,5,6,7,8,9]] 9 [Nn 0,Nn 1,Nn 2,Nn 3,Nn 4,Nn 5,Nn 6,Nn 7,Nn 8] ?_
        refine Di ?_
        refine Ae ?_
        refine Xv (less_v _ _ _) ?_
        refine Wo ?_
        rw [u1, u2]
        refine sf_ifn (fun h9 => ?_) fun h9 => ?_
        · refine sf_exit ?_
          have fin := f2inv.symm.trans (shiftUp_stop fun h => h9 h.2)
          rw [fin] at p4
          refine Wo ?_
          exact ⟨(s, i2, f2), by simp only; omega, ⟨vI (show (5 : Int) - ((s + 1 : Nat) : Int) + 1 = 5 - (s : Int) by omega), rfl, trivial⟩, rfl, _, _, inferInstance, gf2, f2sz, by simp only; omega, by simp only; omega, hi3, p4.symm⟩
        · refine Wo ?_
          refine sf_draw (by kernel_rfl) (regX_own (O2) (regX_split 9 13 (by rfl) ?_ ?_))
          case' refine_1 =>
            refine Sw [[],[],[],[],[3],[],[],[6],[5,6,7],[5,6,7,8],[],[],[10,11],[5,6,7,8,9,10,11,12],[0,1,5,6,7,8,9,10,11,12,13],[0,1,5,6,7,8,9,10,11,12,13,14],[0,1,2,3,4,5,6,7,8,9,10,11,12,13,14,15],[0,1,2,3,4,5,6,7,8,9,10,11,12,13,14,15,16]] 16 [Nn 0,Nn 1,Nn 2,Nn 3,Nn 4,Nn 5,Nn 6,Nn 7,Nn 8,Nn 10,Nn 11,Nn 12,Yy 9,Yy 13,Nn 14,Yy 15] ?_
            refine Di ?_
            refine Yw (by rfl) (z_loadG (by rfl) gf2 (by omega) (by rfl)) ?_
            refine Di ?_
            refine Yw (by rfl) (z_loadG (by rfl) gf2 (by omega) (by rfl)) ?_
            refine Di ?_
            refine Yg gf2 fun As ys hy hl fs gg => ?_
            refine Di ?_
            refine Ae ?_
          case' refine_2 =>
            refine Sw [[],[],[],[],[3],[],[],[6],[5,6,7],[5,6,7,8,10,11,12,13],[],[],[10,11],[10,11,12],[0,1,5,6,7,8,9,10,11,12,13],[0,1,5,6,7,8,9,10,11,12,13,14],[0,1,2,3,4,5,6,7,8,9,10,11,12,13,14,15],[0,1,2,3,4,5,6,7,8,9,10,11,12,13,14,15,16]] 16 [Nn 0,Nn 1,Nn 2,Nn 3,Nn 4,Nn 5,Nn 6,Nn 7,Nn 8,Nn 10,Nn 11,Nn 12,Yy 13,Yy 9,Nn 14,Yy 15] ?_
            refine Di ?_
            refine Yw (by rfl) (z_loadG (by rfl) gf2 (by omega) (by rfl)) ?_
            refine Di ?_
            refine Yw (by rfl) (z_loadG (by rfl) gf2 (by omega) (by rfl)) ?_
            refine Di ?_
            refine Yg gf2 fun As ys hy hl fs gg => ?_
            refine Di ?_
            refine Ae ?_
          all_goals
            refine Wi ?_
            refine Xg gg fun At zs hz hlz fz gz => ?_
            refine Wi ?_
            have hf : zs = (swp f2 j (j - 1)).toList := swp_is hy hz (by omega) (by omega) (by omega) (by omega) (by omega) (by omega)
            rw [hf] at gz
            exact ⟨(j + 1, swp f2 j (j - 1)), by simp only; omega, ⟨rfl, trivial⟩, rfl, _, _, inferInstance, gz, by simp only [swp_size]; exact f2sz, by simp only; omega, by simp only; omega, by simp only; rw [← f2inv, shiftUp_go (by omega) h9]⟩
      · refine sf_exit ?_
        have fin := f2inv.symm.trans (shiftUp_stop fun h => h8 (by omega))
        rw [fin] at p4
        refine Wo ?_
        exact ⟨(s, i2, f2), by simp only; omega, ⟨vI (show (5 : Int) - ((s + 1 : Nat) : Int) + 1 = 5 - (s : Int) by omega), rfl, trivial⟩, rfl, _, _, inferInstance, gf2, f2sz, by simp only; omega, by simp only; omega, hi3, p4.symm⟩
    · rw [if_neg (by omega)] at p4
      refine Wo ?_
      exact ⟨(s, i2, e2), by simp only; omega, ⟨vI (show (5 : Int) - ((s + 1 : Nat) : Int) + 1 = 5 - (s : Int) by omega), rfl, trivial⟩, rfl, _, _, inferInstance, ge2, es2, by simp only; omega, by simp only; omega, hi3, p4.symm⟩
  · refine sf_exit ?_
    refine Wo ?_
    refine sf_ret (rO O ?_)
    obtain rfl : s = 0 := by omega
    rw [← finv]
    exact ⟨rfl, gf⟩
theorem len64_f (h : PHeap) (n : Nat) (hn : n ≤ 1000000) : CallF Tryz.prog M 139 [.int .u64 (n : Int)] [] h fun u A => A = [] ∧ ∃ L : Nat, u = .int .i64 (L : Int) ∧ L ≤ 40 ∧ (1 ≤ n → 2 ^ L ≤ 2 * n) := by
  refine Cs Tryz.func139 Tryz.ntmps139 ?_
  refine Wo ?_
  refine sf_if (fun h1 => ?_) fun h1 => ?_
  · omega
  refine Wo ?_
  refine sf_if (fun h2 => ?_) fun h2 => ?_
  · refine Wo ?_
    refine fp (Rq ?_ (q_shrU (s := 16) (by rfl) (by rfl) (by decide)))
    refine Wo ?_
    refine sf_if (fun h3 => ?_) fun h3 => ?_
    · omega
    refine Wo ?_
    rw [IntKind.wrap_u8, show (((n / 2 ^ 16 : Nat) : Int)) % 256 = ((n / 2 ^ 16 : Nat) : Int) by omega]
    refine Wo ?_
    refine fp (y_len8 (by infer_instance) (by rfl) (by rfl) (by omega) (by kernel_rfl) fun b hb1 hb2 => ?_)
    refine Wo ?_
    rw [show IntKind.i64.wrap (b : Int) = (b : Int) from wrap_in (by omega) (by omega), wrap_in (by omega) (by omega)]
    refine Wo ?_
    refine sf_ret (rO [] ⟨rfl, 16 + b, rfl, by omega, fun _ => ?_⟩)
    have := hb2 (by omega)
    rw [Nat.pow_add]
    omega
  refine Wo ?_
  refine sf_if (fun h3 => ?_) fun h3 => ?_
  · refine Wo ?_
    refine fp (Rq ?_ (q_shrU (s := 8) (by rfl) (by rfl) (by decide)))
    refine Wo ?_
    rw [IntKind.wrap_u8, show (((n / 2 ^ 8 : Nat) : Int)) % 256 = ((n / 2 ^ 8 : Nat) : Int) by omega]
    refine Wo ?_
    refine fp (y_len8 (by infer_instance) (by rfl) (by rfl) (by omega) (by kernel_rfl) fun b hb1 hb2 => ?_)
    refine Wo ?_
    rw [show IntKind.i64.wrap (b : Int) = (b : Int) from wrap_in (by omega) (by omega), wrap_in (by omega) (by omega)]
    refine Wo ?_
    refine sf_ret (rO [] ⟨rfl, 8 + b, rfl, by omega, fun _ => ?_⟩)
    have := hb2 (by omega)
    rw [Nat.pow_add]
    omega
  · refine Wo ?_
    rw [IntKind.wrap_u8, show (((n : Nat) : Int)) % 256 = ((n : Nat) : Int) by omega]
    refine Wo ?_
    refine fp (y_len8 (by infer_instance) (by rfl) (by rfl) (by omega) (by kernel_rfl) fun b hb1 hb2 => ?_)
    refine Wo ?_
    rw [show IntKind.i64.wrap (b : Int) = (b : Int) from wrap_in (by omega) (by omega), wrap_in (by omega) (by omega)]
    refine Wo ?_
    refine sf_ret (rO [] ⟨rfl, b, ?_, by omega, hb2⟩)
    simp
theorem len_f (h : PHeap) (n : Nat) (hn : n ≤ 1000000) : CallF Tryz.prog M 108 [.int .u64 (n : Int)] [] h fun u A => A = [] ∧ ∃ L : Nat, u = .int .i64 (L : Int) ∧ L ≤ 40 ∧ (1 ≤ n → 2 ^ L ≤ 2 * n) := by
  refine Cs Tryz.func108 Tryz.ntmps108 ?_
  refine Wo ?_
  refine sf_cond (by rfl) (fun e => by cases e) fun z1 => ?_
  clear z1
  refine Wo ?_
  refine fp (y_call (len64_f (M := M) _ n hn) (by rfl) ?_)
  rintro _ _ ⟨rfl, L, rfl, h1, h2⟩
  refine Wo ?_
  exact sf_ret (rO [] ⟨rfl, L, rfl, h1, h2⟩)
theorem nextPow_f (h : PHeap) (n : Nat) (hn : n ≤ 1000000) (h1 : 1 ≤ n) : CallF Tryz.prog M 166 [.int .i64 (n : Int)] [] h fun u A => A = [] ∧ ∃ m : Nat, u = .int .u64 (m : Int) ∧ 1 ≤ m ∧ m ≤ 2 * n := by
  refine Cs Tryz.func166 Tryz.ntmps166 ?_
  refine Wo ?_
  rw [IntKind.wrap_u64, show (n : Int) % 18446744073709551616 = (n : Int) by omega]
  refine fp (y_call (len_f (M := M) _ n hn) (by rfl) ?_)
  rintro _ _ ⟨rfl, L, rfl, k1, k2⟩
  refine Wo ?_
  refine fp (Rq ?_ (q_shlU (a := 1) (s := L) (by rfl) (by rfl) (by omega)))
  refine Wo ?_
  have k3 := k2 h1
  have k4 : 1 ≤ 2 ^ L := Nat.one_le_two_pow
  refine sf_ret (rO [] ⟨rfl, _, rfl, ?_, ?_⟩)
  · rw [Nat.one_mul, Nat.mod_eq_of_lt (by omega)]; exact k4
  · rw [Nat.one_mul, Nat.mod_eq_of_lt (by omega)]; exact k3
instance : Fun Tryz.prog 167 := ⟨by kernel_rfl⟩
abbrev rndA (br : Nat) (r : Nat) : Own := [(br, .cells #[.int .u64 (r : Int)] 235)]
theorem next_f (h : PHeap) (br r : Nat) (hr : r < 18446744073709551616) : CallF Tryz.prog M 167 [.pointer (some ⟨br, 0, none⟩)] (rndA br r) h fun u A => ∃ r' : Nat, u = .int .u64 (r' : Int) ∧ r' < 18446744073709551616 ∧ A = rndA br r' := by
  refine Cs Tryz.func167 Tryz.ntmps167 ?_
  refine Wo ?_
  have step : ∀ (z : Nat), z < 18446744073709551616 → z * 2 ^ 13 % 18446744073709551616 < 18446744073709551616 ∧ z / 2 ^ 7 < 18446744073709551616 ∧ z * 2 ^ 17 % 18446744073709551616 < 18446744073709551616 := fun z hz => ⟨Nat.mod_lt _ (by decide), by omega, Nat.mod_lt _ (by decide)⟩
  have xl : ∀ a b : Nat, a < 18446744073709551616 → b < 18446744073709551616 → a ^^^ b < 18446744073709551616 := fun a b ha hb => Nat.xor_lt_two_pow (n := 64) ha hb
  refine Sd [[],[0],[0,1],[],[3],[3,4],[3,4,5],[0,1,2,3,4,5,6],[0,1,2,3,4,5,6,7],[0,1,2,3,4,5,6,7,8]] 7 [Nn 0,Nn 1,Nn 2,Nn 3,Nn 4,Nn 5,Nn 6] ?_
  refine Da ?_
  refine Yq (by rfl) (fun X h' [_] => q_shlU (s := 13) (by rfl) (by rfl) (by decide)) ?_
  refine Da ?_
  refine Ae ?_
  refine fp (Rq ?_ (q_xorU (by rfl) (by rfl) hr (step r hr).1))
  refine Wo ?_
  obtain ⟨r1, hr1⟩ : ∃ z, z = r ^^^ (r * 2 ^ 13 % 18446744073709551616) := ⟨_, rfl⟩
  have h1 : r1 < 18446744073709551616 := by rw [hr1]; exact xl _ _ hr (step r hr).1
  rw [← hr1]
  refine Sd [[],[0],[0,1],[],[3],[3,4],[3,4,5],[0,1,2,3,4,5,6],[0,1,2,3,4,5,6,7],[0,1,2,3,4,5,6,7,8]] 7 [Nn 0,Nn 1,Nn 2,Nn 3,Nn 4,Nn 5,Nn 6] ?_
  refine Da ?_
  refine Yq (by rfl) (fun X h' [_] => q_shrU (s := 7) (by rfl) (by rfl) (by decide)) ?_
  refine Da ?_
  refine Ae ?_
  refine fp (Rq ?_ (q_xorU (by rfl) (by rfl) h1 (step r1 h1).2.1))
  refine Wo ?_
  obtain ⟨r2, hr2⟩ : ∃ z, z = r1 ^^^ (r1 / 2 ^ 7) := ⟨_, rfl⟩
  have h2 : r2 < 18446744073709551616 := by rw [hr2]; exact xl _ _ h1 (step r1 h1).2.1
  rw [← hr2]
  refine Sd [[],[0],[0,1],[],[3],[3,4],[3,4,5],[0,1,2,3,4,5,6],[0,1,2,3,4,5,6,7],[0,1,2,3,4,5,6,7,8]] 7 [Nn 0,Nn 1,Nn 2,Nn 3,Nn 4,Nn 5,Nn 6] ?_
  refine Da ?_
  refine Yq (by rfl) (fun X h' [_] => q_shlU (s := 17) (by rfl) (by rfl) (by decide)) ?_
  refine Da ?_
  refine Ae ?_
  refine fp (Rq ?_ (q_xorU (by rfl) (by rfl) h2 (step r2 h2).2.2))
  refine Wo ?_
  exact sf_ret (rO _ ⟨_, rfl, xl _ _ h2 (step r2 h2).2.2, rfl⟩)
theorem breakPatterns_f (h : PHeap) (v : Value) (A : Own) (d : Array Int) (g : Gr A v 3 intF d.toList) (a b : Nat) (hb : b ≤ d.size) (hs : d.size ≤ 1000000) (hab : a < b) :
    CallF Tryz.prog M 131 [v, .int .i64 (a : Int), .int .i64 (b : Int)] A h fun u A' => u = .tuple #[] ∧ ∃ d' : Array Int, Gr A' v 3 intF d'.toList ∧ PermIn a b d d' := by
  have o := g.one
  obtain ⟨n, rfl⟩ : ∃ n : Nat, b = a + n := ⟨b - a, by omega⟩
  refine Cs Tryz.func131 Tryz.ntmps131 ?_
  repeat first | refine R1 ?_ | refine R2 fun _ => ?_
  have e0 : ((a + n : Nat) : Int) - (a : Int) = (n : Int) := by omega
  rw [e0]
  refine sf_if (fun h1 => ?_) fun h1 => ?_
  · repeat first | refine R1 ?_ | refine R2 fun _ => ?_
    rw [IntKind.wrap_u64, show (n : Int) % 18446744073709551616 = (n : Int) by omega]
    repeat first | refine R1 ?_ | refine R2 fun _ => ?_
    rename_i br
    refine fp (y_call (nextPow_f (M := M) _ n (by omega) (by omega)) (by rfl) ?_)
    rintro _ _ ⟨rfl, m, rfl, hm1, hm2⟩
    repeat first | refine R1 ?_ | refine R2 fun _ => ?_
    rw [show (a : Int) + (n : Int) / 4 * 2 - 1 = ((a + n / 4 * 2 - 1 : Nat) : Int) by omega]
    refine sf_lp (ι := Nat × Array Int) [0, 1, 6, 7, 8] (fun x => [(9, .int .i64 (x.1 : Int))]) (fun x O => ∃ (B : Own) (r : Nat), O = rndA br r ++ B ∧ r < 18446744073709551616 ∧ Gr B v 3 intF x.2.toList ∧ x.2.size = d.size ∧ a ≤ x.1 ∧ PermIn a (a + n) d x.2) (fun x => a + n / 4 * 2 + 2 - x.1) (a + n / 4 * 2 - 1, d) (rndA br n ++ A) ⟨A, n, rfl, by omega, g, rfl, by simp only; omega, Sort.permIn_refl _ _ _⟩ ?_
    rintro ⟨k, f⟩ O ⟨B, r, rfl, hr, gf, fsz, hk, fp0⟩
    simp only at gf fsz hk fp0 ⊢
    have lf : f.toList.length = f.size := by simp
    repeat first | refine R1 ?_ | refine R2 fun _ => ?_
    refine sf_if (fun h2 => ?_) fun h2 => ?_
    · repeat first | refine R1 ?_ | refine R2 fun _ => ?_
      refine fp (y_call (next_f (M := M) _ br r hr) (by rfl) ?_)
      rintro _ _ ⟨r2, rfl, hr2, rfl⟩
      repeat first | refine R1 ?_ | refine R2 fun _ => ?_
      rw [IntKind.wrap_u64, show ((m : Int) - 1) % 18446744073709551616 = ((m - 1 : Nat) : Int) by omega]
      refine fp (Rq ?_ (q_andU (by rfl) (by rfl) hr2 (by omega)))
      have ho : r2 &&& (m - 1) ≤ m - 1 := Nat.and_le_right
      generalize r2 &&& (m - 1) = w at ho
      repeat first | refine R1 ?_ | refine R2 fun _ => ?_
      rw [wrap_in (by omega) (by omega)]
      apply viaT (G := ∀ w : Nat, w < n → _)
      · intro tail
        refine sf_if (fun h3 => ?_) fun h3 => ?_
        · repeat first | refine R1 ?_ | refine R2 fun _ => ?_
          rw [show (w : Int) - (n : Int) = ((w - n : Nat) : Int) by omega]
          generalize hw : w - n = w2
          refine sf_keep [0, 1, 6, 7, 8, 9, 10] ?_
          exact tail.out w2 (by omega)
        · repeat first | refine R1 ?_ | refine R2 fun _ => ?_
          refine sf_keep [0, 1, 6, 7, 8, 9, 10] ?_
          exact tail.out w (by omega)
      intro w hw
      refine sf_draw (by kernel_rfl) (regX_own (B) (regX_split 11 15 (by rfl) ?_ ?_))
      case' refine_1 =>
        refine Sw [[],[],[],[],[],[3,4],[],[],[],[7,8],[6,7,8,9],[6,7,8,9,10],[],[],[12,13],[6,7,8,9,10,11,12,13,14],[0,1,6,7,8,9,10,11,12,13,14,15],[0,1,6,7,8,9,10,11,12,13,14,15,16],[0,1,2,3,4,5,6,7,8,9,10,11,12,13,14,15,16,17],[0,1,2,3,4,5,6,7,8,9,10,11,12,13,14,15,16,17,18]] 18 [Nn 0,Nn 1,Nn 2,Nn 3,Nn 4,Nn 5,Nn 6,Nn 7,Nn 8,Nn 9,Nn 10,Nn 12,Nn 13,Nn 14,Yy 11,Yy 15,Nn 16,Yy 17] ?_
        refine Di ?_
        refine Yw (by rfl) (z_loadG (by rfl) gf (by omega) (by rfl)) ?_
        refine Di ?_
        refine Yw (by rfl) (z_loadG (by rfl) gf (by omega) (by rfl)) ?_
        refine Di ?_
        refine Yg gf fun As ys hy hl fs gg => ?_
        refine Di ?_
        refine Ae ?_
      case' refine_2 =>
        refine Sw [[],[],[],[],[],[3,4],[],[],[],[7,8],[6,7,8,9],[6,7,8,9,10,12,13,14,15],[],[],[12,13],[12,13,14],[0,1,6,7,8,9,10,11,12,13,14,15],[0,1,6,7,8,9,10,11,12,13,14,15,16],[0,1,2,3,4,5,6,7,8,9,10,11,12,13,14,15,16,17],[0,1,2,3,4,5,6,7,8,9,10,11,12,13,14,15,16,17,18]] 18 [Nn 0,Nn 1,Nn 2,Nn 3,Nn 4,Nn 5,Nn 6,Nn 7,Nn 8,Nn 9,Nn 10,Nn 12,Nn 13,Nn 14,Yy 15,Yy 11,Nn 16,Yy 17] ?_
        refine Di ?_
        refine Yw (by rfl) (z_loadG (by rfl) gf (by omega) (by rfl)) ?_
        refine Di ?_
        refine Yw (by rfl) (z_loadG (by rfl) gf (by omega) (by rfl)) ?_
        refine Di ?_
        refine Yg gf fun As ys hy hl fs gg => ?_
        refine Di ?_
        refine Ae ?_
      all_goals
        repeat first | refine R1 ?_ | refine R2 fun _ => ?_ | refine fp (Rq ?_ (z_indexGI (by rfl) (by rfl) (by assumption) (by omega) (by omega)))
        refine Xg gg fun At zs hz hlz fz gz => ?_
        repeat first | refine R1 ?_ | refine R2 fun _ => ?_ | refine fp (Rq ?_ (z_indexGI (by rfl) (by rfl) (by assumption) (by omega) (by omega)))
        have hf : zs = (swp f k (a + w)).toList := swp_is hy hz (by omega) (by omega) (by omega) (by omega) (by omega) (by omega)
        rw [hf] at gz
        refine ⟨(k + 1, swp f k (a + w)), by simp only; omega, ⟨rfl, trivial⟩, rfl, rndA br r2 ++ At, _, inferInstance, At, r2, rfl, hr2, gz, by simp only [swp_size]; exact fsz, by simp only; omega, ?_⟩
        exact Sort.permIn_trans _ _ _ _ _ fp0 (Sort.swp_permIn _ _ _ _ _ (by omega) (by omega) (by omega) (by omega) (by omega))
    · refine sf_exit ?_
      repeat first | refine R1 ?_ | refine R2 fun _ => ?_
      exact nO B ⟨rfl, f, gf, fp0⟩
  · repeat first | refine R1 ?_ | refine R2 fun _ => ?_
    exact nO A ⟨rfl, d, g, Sort.permIn_refl _ _ _⟩
theorem pdqsort_f (m : Nat) : ∀ (h : PHeap) (v : Value) (A : Own) (d : Array Int) (_ : Gr A v 3 intF d.toList) (a b : Nat) (l : Int) (_ : b ≤ d.size) (_ : d.size ≤ 1000000) (_ : a ≤ b) (_ : 0 ≤ l ∧ l ≤ 1000) (_ : Below ltInt a b d) (_ : b - a = m),
    CallF Tryz.prog M 107 [v, .int .i64 (a : Int), .int .i64 (b : Int), .int .i64 l] A h fun u A' => u = .tuple #[] ∧ ∃ d' : Array Int, Gr A' v 3 intF d'.toList ∧ PermIn a b d d' ∧ SortedIn ltInt a b d' := by
  induction m using Nat.strongRecOn with
  | _ m ih =>
  intro h v A d g a b l hb hs hab hl hB hm
  have o := g.one
  refine Cs Tryz.func107 Tryz.ntmps107 ?_
  refine Wo ?_
  refine sf_lp (ι := Nat × Nat × Int × Bool × Bool × Array Int) [0] (fun x => [(1, .int .i64 (x.1 : Int)), (2, .int .i64 (x.2.1 : Int)), (3, .int .i64 x.2.2.1), (8, .bool x.2.2.2.1), (9, .bool x.2.2.2.2.1)])
    (fun x O => Gr O v 3 intF x.2.2.2.2.2.toList ∧ x.2.2.2.2.2.size = d.size ∧ x.1 ≤ x.2.1 ∧ x.2.1 ≤ d.size ∧ (0 ≤ x.2.2.1 ∧ x.2.2.1 ≤ 1000) ∧ Below ltInt x.1 x.2.1 x.2.2.2.2.2 ∧ x.2.1 - x.1 ≤ m ∧ ∀ R, PermIn x.1 x.2.1 x.2.2.2.2.2 R → SortedIn ltInt x.1 x.2.1 R → PermIn a b d R ∧ SortedIn ltInt a b R)
    (fun x => x.2.1 - x.1) (a, b, l, true, true, d) A ⟨g, rfl, hab, hb, hl, hB, by simp only; omega, fun R r1 r2 => ⟨r1, r2⟩⟩ ?_
  rintro ⟨a1, b1, l1, wb, wp, f⟩ O ⟨gf, fsz, hab1, hb1, hl1, hB1, hm1, hT⟩
  simp only at gf fsz hab1 hb1 hl1 hB1 hm1 hT ⊢
  clear hB hl g
  refine Wo ?_
  refine sf_if (fun h1 => ?_) fun h1 => ?_
  · refine Wo ?_
    refine fp (y_call (insertionSort_f (M := M) _ v O f gf a1 b1 (by omega) (by omega) hab1) (by rfl) ?_)
    rintro _ A1 ⟨rfl, g1⟩
    refine Wo ?_
    obtain ⟨p1, p2⟩ := insertionSort_holds (lt := ltInt) swo_ltInt f a1 b1 hab1 (by omega)
    obtain ⟨q1, q2⟩ := hT _ p1 p2
    exact sf_ret (rO A1 ⟨rfl, _, g1, q1, q2⟩)
  refine Wo ?_
  refine sf_if (fun h2 => ?_) fun h2 => ?_
  · refine Wo ?_
    refine fp (y_call (heapSort_f (M := M) _ v O f gf a1 b1 (by omega) (by omega) (by omega)) (by rfl) ?_)
    rintro _ A1 ⟨rfl, g1⟩
    refine Wo ?_
    obtain ⟨p1, p2⟩ := heapSort_holds (lt := ltInt) swo_ltInt f a1 b1 hab1 (by omega)
    obtain ⟨q1, q2⟩ := hT _ p1 p2
    exact sf_ret (rO A1 ⟨rfl, _, g1, q1, q2⟩)
  refine Wo ?_
  apply viaT (G := ∀ (B : Own) (f1 : Array Int) (l2 : Int), (0 ≤ l2 ∧ l2 ≤ 1000) → Gr B v 3 intF f1.toList → PermIn a1 b1 f f1 → _)
  · intro tail
    refine sf_cond (by rfl) (fun e => ?_) fun e => ?_
    · refine Wo ?_
      refine fp (y_call (breakPatterns_f (M := M) _ v O f gf a1 b1 (by omega) (by omega) (by omega)) (by rfl) ?_)
      rintro _ A1 ⟨rfl, f1, g1, p1⟩
      refine Wo ?_
      obtain ⟨l2, hl2⟩ : ∃ l2, l2 = l1 - 1 := ⟨_, rfl⟩
      rw [← hl2]
      refine fops_keep [0, 1, 2, 3, 8, 9, 10, 43, 44, 45] ?_
      refine fops_own A1 ?_
      exact tail.out A1 f1 l2 (by omega) g1 p1
    · refine Wo ?_
      refine fops_keep [0, 1, 2, 3, 8, 9, 10, 43, 44, 45] ?_
      exact tail.out O f l1 hl1 gf (Sort.permIn_refl _ _ _)
  intro B1 f1 l2 hl2 g1 p1
  have hs1 : f1.size = d.size := p1.1.trans fsz
  have hl1 : f1.toList.length = f1.size := by simp
  have B1' : Below ltInt a1 b1 f1 := hB1.perm (by omega) p1
  have hT1 : ∀ R, PermIn a1 b1 f1 R → SortedIn ltInt a1 b1 R → PermIn a b d R ∧ SortedIn ltInt a b R := fun R r1 r2 => hT R (Sort.permIn_trans _ _ _ _ _ p1 r1) r2
  clear hB1 hT gf fsz p1
  refine fp (y_lend B1 (fun h' _ i => choosePivot_f (M := M) h' v f1.toList (g1.lent (by omega) i) a1 b1 (by omega) (by omega) (by omega)) (by rfl) ?_)
  rintro _ _ ⟨p, z, rfl, hp, rfl⟩
  refine Wo ?_
  apply viaT (G := ∀ (B : Own) (f2 : Array Int) (p : Nat) (z : Int), (a1 ≤ p ∧ p < b1) → Gr B v 3 intF f2.toList → PermIn a1 b1 f1 f2 → _)
  · intro tail
    refine sf_if (fun h3 => ?_) fun h3 => ?_
    rotate_left
    · refine Wo ?_
      refine fops_keep [0, 1, 2, 3, 8, 9, 10, 11, 12, 61, 62] ?_
      refine fops_own B1 ?_
      obtain ⟨Bc, hBc⟩ : ∃ x, x = B1 := ⟨_, rfl⟩
      obtain ⟨fc, hfc⟩ : ∃ x, x = f1 := ⟨_, rfl⟩
      obtain ⟨pc, hpc⟩ : ∃ x, x = p := ⟨_, rfl⟩
      obtain ⟨zc, hzc⟩ : ∃ x, x = z := ⟨_, rfl⟩
      rw [← hBc, ← hpc, ← hzc]
      exact tail.out Bc fc pc zc (by omega) (by rw [hBc, hfc]; exact g1) (by rw [hfc]; exact Sort.permIn_refl _ _ _)
    · refine Wo ?_
      refine fp (y_call (reverseRange_f (M := M) _ v B1 f1 g1 a1 b1 (by omega) (by omega) (by omega)) (by rfl) ?_)
      rintro _ A1 ⟨rfl, g2⟩
      refine Wo ?_
      rw [show (b1 : Int) - 1 - ((p : Int) - (a1 : Int)) = ((b1 - 1 - (p - a1) : Nat) : Int) by omega]
      refine fops_keep [0, 1, 2, 3, 8, 9, 10, 11, 12, 61, 62] ?_
      refine fops_own A1 ?_
      exact tail.out A1 _ (b1 - 1 - (p - a1)) 1 (by omega) g2 (reverseRange_holds _ _ _ (by omega) (by omega))
  intro B2 f2 p z hp g2 p2
  have hs2 : f2.size = d.size := p2.1.trans hs1
  have B2' : Below ltInt a1 b1 f2 := B1'.perm (by omega) p2
  have hT2 : ∀ R, PermIn a1 b1 f2 R → SortedIn ltInt a1 b1 R → PermIn a b d R ∧ SortedIn ltInt a b R := fun R r1 r2 => hT1 R (Sort.permIn_trans _ _ _ _ _ p2 r1) r2
  clear B1' hT1 g1 p2
  clear hs1 hl1
  apply viaT (G := ∀ (B : Own) (f3 : Array Int), Gr B v 3 intF f3.toList → PermIn a1 b1 f2 f3 → _)
  · intro tail
    refine f_splitB (fun w1 => ?_) fun w1 => ?_
    rotate_left
    · refine Wo ?_
      refine sf_cond (by rfl) (fun e => by cases e) fun z1 => ?_
      clear z1
      refine Wo ?_
      refine sf_keep [0, 1, 2, 3, 8, 9, 10, 11] ?_
      obtain ⟨Bc, hBc⟩ : ∃ x, x = B2 := ⟨_, rfl⟩
      obtain ⟨fc, hfc⟩ : ∃ x, x = f2 := ⟨_, rfl⟩
      rw [← hBc]
      exact tail.out Bc fc (by rw [hBc, hfc]; exact g2) (by rw [hfc]; exact Sort.permIn_refl _ _ _)
    · refine Wo ?_
      refine f_splitB (fun w2 => ?_) fun w2 => ?_
      rotate_left
      · refine Wo ?_
        refine sf_cond (by rfl) (fun e => by cases e) fun z1 => ?_
        clear z1
        refine Wo ?_
        refine sf_keep [0, 1, 2, 3, 8, 9, 10, 11] ?_
        exact tail.out B2 f2 g2 (Sort.permIn_refl _ _ _)
      · refine Wo ?_
        refine sf_if (fun h4 => ?_) fun h4 => ?_
        rotate_left
        · refine Wo ?_
          refine sf_keep [0, 1, 2, 3, 8, 9, 10, 11] ?_
          exact tail.out B2 f2 g2 (Sort.permIn_refl _ _ _)
        · refine Wo ?_
          refine fp (y_call (partialInsertionSort_f (M := M) _ v B2 f2 g2 a1 b1 (by omega) (by omega) (by omega)) (by rfl) ?_)
          rintro _ A1 ⟨rfl, g3⟩
          refine Wo ?_
          obtain ⟨p3, s3⟩ := partialInsertionSort_holds (lt := ltInt) swo_ltInt f2 a1 b1 (by omega) (by omega) B2'
          refine sf_cond (by rfl) (fun e => ?_) fun e => ?_
          · refine Wo ?_
            obtain ⟨q1, q2⟩ := hT2 _ p3 (s3 e)
            exact sf_ret (rO A1 ⟨rfl, _, g3, q1, q2⟩)
          · refine Wo ?_
            refine sf_keep [0, 1, 2, 3, 8, 9, 10, 11] ?_
            refine sf_own A1 ?_
            exact tail.out A1 _ g3 p3
  intro B3 f3 g3 p3
  have hs3 : f3.size = d.size := p3.1.trans hs2
  have B3' : Below ltInt a1 b1 f3 := B2'.perm (by omega) p3
  have hT3 : ∀ R, PermIn a1 b1 f3 R → SortedIn ltInt a1 b1 R → PermIn a b d R ∧ SortedIn ltInt a b R := fun R r1 r2 => hT2 R (Sort.permIn_trans _ _ _ _ _ p3 r1) r2
  have hl3 : f3.toList.length = f3.size := by simp
  clear B2' hT2 g2 p3 hs2
  apply viaT
  · intro tail
    by_cases h5 : 0 < a1
    · have h6 : (a1 : Int) > 0 := by omega
      have u1 : gt f3.toList ((a1 : Int) - 1).toNat = f3[a1 - 1]! := gt_arr' (by omega) (by omega)
      have u2 : gt f3.toList p = f3[p]! := gt_arr (by omega)
      refine Sd [[],[0],[0,1],[0,1,2],[0,1,2],[0,1,2,4],[0,1,2,3,4,5],[0,1,2,3,4,5,6],[0,1,2],[0,1,2],[0,1,2,8,9],[0,1,2,8,9,10],[0,1,2,3,4,5,6,7,8,9,10,11],[0,1,2,3,4,5,6,7,8,9,10,11,12],[0,1,2,3,4,5,6,7,8,9,10,11,12,13]] 12 [Nn 0,Nn 1,Nn 2,Nn 3,Nn 4,Nn 5,Nn 6,Nn 7,Nn 8,Nn 9,Nn 10,Nn 11] ?_
      refine Di ?_
      refine Ae ?_
      refine Xv (less_v _ _ _) ?_
      refine Wo ?_
      rw [u1, u2]
      refine sf_ifn (fun h7 => ?_) fun h7 => ?_
      · refine Wo ?_
        refine fp (y_call (partitionEqual_f (M := M) _ v B3 f3 g3 a1 b1 p (by omega) (by omega) (by omega) hp) (by rfl) ?_)
        rintro _ A1 ⟨rfl, g4⟩
        refine Wo ?_
        refine sf_exit ?_
        obtain ⟨k1, k2, k3, k4, k5⟩ := round_eq swo_ltInt (partitionEqual_holds ltInt) h5 hp.1 hp.2 (by omega) B3' (by rw [ltInt_is]; exact decide_eq_false h7) (show partitionEqual ltInt f3 a1 b1 p = ((partitionEqual ltInt f3 a1 b1 p).1, (partitionEqual ltInt f3 a1 b1 p).2) from rfl)
        exact ⟨((partitionEqual ltInt f3 a1 b1 p).1, b1, l2, wb, wp, (partitionEqual ltInt f3 a1 b1 p).2), by simp only; omega, ⟨rfl, rfl, rfl, rfl, rfl, trivial⟩, rfl, A1, _, inferInstance, g4, k3.trans hs3, k2, hb1, hl2, k4, by simp only; omega, fun R r1 r2 => by obtain ⟨q1, q2⟩ := k5 R r1 r2; exact hT3 R q1 q2⟩
      · refine Wo ?_
        refine fops_keep [0, 1, 2, 3, 8, 9, 10, 11, 95, 96, 97, 98] ?_
        exact tail.out
    · have h6 : ¬ (a1 : Int) > 0 := by omega
      refine Sd [[],[0],[0,1],[0,1,2],[0,1,2],[0,1,2,4],[0,1,2,3,4,5],[0,1,2,3,4,5,6],[0,1,2],[0,1,2],[0,1,2,8,9],[0,1,2,8,9,10],[0,1,2,3,4,5,6,7,8,9,10,11],[0,1,2,3,4,5,6,7,8,9,10,11,12],[0,1,2,3,4,5,6,7,8,9,10,11,12,13]] 12 [Nn 0,Nn 1,Nn 2,Nn 3,Nn 4,Nn 5,Nn 6,Nn 7,Nn 8,Nn 9,Nn 10,Nn 11] ?_
      refine Di ?_
      refine Ae ?_
      refine Wo ?_
      refine sf_cond (by rfl) (fun e => by cases e) fun z1 => ?_
      clear z1
      refine Wo ?_
      refine fops_keep [0, 1, 2, 3, 8, 9, 10, 11, 95, 96, 97, 98] ?_
      exact tail.out
  refine fp (y_call (partition_f (M := M) _ v B3 f3 g3 a1 b1 p (by omega) (by omega) (by omega) hp) (by rfl) ?_)
  obtain ⟨mid, ap, d4, hx⟩ : ∃ mid ap d4, Sort.partition ltInt f3 a1 b1 p = (mid, ap, d4) := ⟨_, _, _, rfl⟩
  rw [hx]
  rintro _ A1 ⟨rfl, g4⟩
  simp only at g4
  obtain ⟨k1, k2, k3, k4, k5, k6, k7⟩ := round_part swo_ltInt (partition_holds ltInt) hp.1 hp.2 (by omega) B3' hx
  refine Wo ?_
  refine sf_if (fun h7 => ?_) fun h7 => ?_
  · refine Wo ?_
    refine fp (y_call (ih (mid - a1) (by omega) _ v A1 d4 g4 a1 mid l2 (by omega) (by omega) k1 hl2 k4 rfl) (by rfl) ?_)
    rintro _ A2 ⟨rfl, d5, g5, p5, s5⟩
    obtain ⟨j1, j2⟩ := k6 d5 p5 s5
    refine Wo ?_
    exact ⟨(mid + 1, b1, l2, _, ap, d5), by simp only; omega, ⟨rfl, rfl, rfl, rfl, rfl, trivial⟩, rfl, A2, _, inferInstance, g5, (p5.1.trans k3).trans hs3, by simp only; omega, hb1, hl2, j1, by simp only; omega, fun R r1 r2 => by obtain ⟨q1, q2⟩ := j2 R r1 r2; exact hT3 R q1 q2⟩
  · refine Wo ?_
    refine fp (y_call (ih (b1 - (mid + 1)) (by omega) _ v A1 d4 g4 (mid + 1) b1 l2 (by omega) (by omega) (by omega) hl2 k5 rfl) (by rfl) ?_)
    rintro _ A2 ⟨rfl, d5, g5, p5, s5⟩
    obtain ⟨j1, j2⟩ := k7 d5 p5 s5
    refine Wo ?_
    exact ⟨(a1, mid, l2, _, ap, d5), by simp only; omega, ⟨rfl, rfl, rfl, rfl, rfl, trivial⟩, rfl, A2, _, inferInstance, g5, (p5.1.trans k3).trans hs3, by simp only; omega, by simp only; omega, hl2, j1, by simp only; omega, fun R r1 r2 => by obtain ⟨q1, q2⟩ := j2 R r1 r2; exact hT3 R q1 q2⟩
theorem sort_f (h : PHeap) (v : Value) (A : Own) (xs : List Int) (g : Gr A v 3 intF xs) (hs : xs.length ≤ 1000000) : CallF Tryz.prog M 79 [v] A h fun u A' => u = .tuple #[] ∧ Gr A' v 3 intF (sortF xs) := by
  have o := g.one
  refine Cs Tryz.func79 Tryz.ntmps79 ?_
  refine Wo ?_
  rw [IntKind.wrap_u64, show ((xs.length : Nat) : Int) % 18446744073709551616 = ((xs.length : Nat) : Int) by omega]
  refine fp (y_call (len_f (M := M) _ xs.length hs) (by rfl) ?_)
  rintro _ _ ⟨rfl, L, rfl, k1, k2⟩
  refine Wo ?_
  refine fp (y_call (pdqsort_f (M := M) xs.length _ v A xs.toArray g 0 xs.length (L : Int) (by simp) (by simpa using hs) (by omega) (by omega) (.inl rfl) (by omega)) (by rfl) ?_)
  rintro _ A2 ⟨rfl, d', g', p', s'⟩
  refine Wo ?_
  refine nO A2 ⟨rfl, ?_⟩
  have e := sorted_unique_holds (lt := ltInt) swo_ltInt (fun x y h1 h2 => by simp only [ltInt_is, decide_eq_false_iff_not] at h1 h2; omega) xs.toArray d' (by simpa using p') (by simpa using s')
  have e2 : d'.toList = sortF xs := by
    rw [e]; unfold sortF
    congr 1
    funext x y
    simp only [ltInt_is]
    by_cases h : y < x
    · simp [h] <;> omega
    · simp [h] <;> omega
  rw [← e2]; exact g'
end Go.Proofs.YtcpkcmgjfcbnpaaGreat
namespace Go.Proofs.YtcpkcmgjfcbnpaaGreat
open Go Go.Sl
set_option maxRecDepth 100000
set_option maxHeartbeats 4000000
attribute [local irreducible] Go.Code.sf sfOps Opq opo retF Do1 anyO
variable {M : Jdg → Prop} [IsCl Tryz.prog M]
theorem compact_f (h : PHeap) (v : Value) (A : Own) (xs : List Int) (g : Gr A v 3 intF xs) (hs : xs.length ≤ 1000000) : CallF Tryz.prog M 80 [v] A h fun u A' => Gr A' u 3 intF (compactF xs) := by
  have o := g.one
  refine Cs Tryz.func80 Tryz.ntmps80 ?_
  refine Wo ?_
  refine sf_if (fun h1 => ?_) fun h1 => ?_
  · refine Wo ?_
    refine sf_ret (rO A ?_)
    match xs, h1 with
    | [], _ => exact g
    | [x], _ => exact g
    | x :: y :: l, h1 => simp at h1; omega
  refine Wo ?_
  refine sf_lp (ι := Nat) [0] (fun x => [(3, .int .i64 (x : Int))]) (fun x O => O = A ∧ 1 ≤ x ∧ x ≤ xs.length ∧ compactF (xs.take x) = xs.take x) (fun x => xs.length - x) 1 A ⟨rfl, by omega, by omega, by rw [take_succ_gt (by omega : 0 < xs.length)]; rfl⟩ ?_
  rintro k O0 ⟨rfl, hk1, hk2, hinv⟩
  refine Wo ?_
  refine sf_if (fun h2 => ?_) fun h2 => ?_
  · have q1 : gt xs ((k : Int) - 1).toNat = gt xs (k - 1) := by congr 1; omega
    have hst := compactF_step (xs := xs) (j := k - 1) (by omega)
    rw [show k - 1 + 2 = k + 1 by omega, show k - 1 + 1 = k by omega] at hst
    refine Wo ?_
    refine Sd [[],[],[0,1],[0,1,2],[],[],[5],[4,5,6],[4,5,6,7],[0,1,2,3,4,5,6,7,8]] 9 [Nn 0,Nn 1,Nn 2,Nn 3,Nn 4,Nn 5,Nn 6,Nn 7,Nn 8] ?_
    refine Di ?_
    refine Ae ?_
    refine Wo ?_
    rw [q1]
    refine sf_if (fun h3 => ?_) fun h3 => ?_
    · rw [if_pos h3, hinv] at hst
      obtain ⟨b, cap, rfl, hcap⟩ := g.shape (by omega)
      refine Wo ?_
      refine fp (Rq ?_ (q_sliceLo (l := k) (by infer_instance) (by infer_instance) (by rfl) (by rfl) (by omega)))
      rw [if_neg (by omega : ¬ cap = k)]
      refine Wo ?_
      refine sf_lp (ι := Nat × Nat × List Int) [0, 4] (fun x => [(3, .int .i64 (x.1 : Int)), (5, .int .i64 (x.2.1 : Int))]) (fun x O => Gr O (.slice (some ⟨b, 0, none⟩) xs.length cap) 3 intF x.2.2 ∧ x.2.2.length = xs.length ∧ 1 ≤ x.2.1 ∧ x.2.1 ≤ xs.length - k ∧ 1 ≤ x.1 ∧ x.1 + 1 ≤ k + x.2.1 ∧ x.2.2.take x.1 = compactF (xs.take (k + x.2.1)) ∧ ∀ i, k + x.2.1 ≤ i + 1 → gt x.2.2 i = gt xs i) (fun x => xs.length - x.2.1) (k, 1, xs) _ ⟨g, rfl, by simp only; omega, by simp only; omega, hk1, by simp only; omega, hst.symm, fun _ _ => rfl⟩ ?_
      rintro ⟨j, m, ys⟩ O ⟨gy, hly, hm1, hm2, hj1, hj2, hy1, hy2⟩
      simp only at gy hly hm1 hm2 hj1 hj2 hy1 hy2 ⊢
      clear hinv q1
      refine Wo ?_
      refine sf_if (fun h4 => ?_) fun h4 => ?_
      · have u1 : gt ys (k + ((m : Int)).toNat) = gt xs (k + m) := by rw [Int.toNat_natCast]; exact hy2 _ (by omega)
        have u2 : gt ys (k + ((m : Int) - 1).toNat) = gt xs (k + m - 1) := by rw [show k + ((m : Int) - 1).toNat = k + m - 1 by omega]; exact hy2 _ (by omega)
        have hs2 := compactF_step (xs := xs) (j := k + m - 1) (by omega)
        rw [show k + m - 1 + 2 = k + (m + 1) by omega, show k + m - 1 + 1 = k + m by omega, ← hy1] at hs2
        refine Wo ?_
        refine Sd [[],[],[0,1],[0,1,2],[],[],[5],[4,5,6],[4,5,6,7],[0,1,2,3,4,5,6,7,8]] 9 [Nn 0,Nn 1,Nn 2,Nn 3,Nn 4,Nn 5,Nn 6,Nn 7,Nn 8] ?_
        refine Da ?_
        refine Yq (by rfl) (fun X h' [_] => z_indexT (k := k) (size := 1) (by rfl) (by rfl) (.slice (some ⟨b, 0, none⟩) xs.length cap) ⟨rfl, rfl⟩ (by omega) (by omega) (by omega) (by infer_instance) (by infer_instance)) ?_
        refine Da ?_
        refine Yq (by rfl) (fun X h' [_] => z_indexT (k := k) (size := 1) (by rfl) (by rfl) (.slice (some ⟨b, 0, none⟩) xs.length cap) ⟨rfl, rfl⟩ (by omega) (by omega) (by omega) (by infer_instance) (by infer_instance)) ?_
        refine Da ?_
        refine Ae ?_
        refine Wo ?_
        rw [u1, u2]
        refine sf_if (fun h5 => ?_) fun h5 => ?_
        · refine Wo ?_
          rw [if_neg h5] at hs2
          refine fp (Rq ?_ (z_indexT (k := k) (size := 1) (by rfl) (by rfl) (.slice (some ⟨b, 0, none⟩) xs.length cap) ⟨rfl, rfl⟩ (by omega) (by omega) (by omega) (by infer_instance) (by infer_instance)))
          refine Wo ?_
          refine Xg gy fun A2 zs hz hlz fz gz => ?_
          refine Wo ?_
          rw [u1] at hz
          refine ⟨(j + 1, m + 1, zs), by simp only; omega, ⟨rfl, rfl, trivial⟩, rfl, A2, _, inferInstance, gz, by simp only; omega, by simp only; omega, by simp only; omega, by simp only; omega, by simp only; omega, ?_, ?_⟩
          · simp only
            rw [hs2, hz, take_succ_gt (by simp; omega), gt_set (by omega), List.take_set_of_le (by omega)]
          · intro i hi
            simp only at hi ⊢
            rw [hz, gt_set_ne (by omega)]
            exact hy2 i (by omega)
        · rw [if_pos (by omega)] at hs2
          refine Wo ?_
          refine ⟨(j, m + 1, ys), by simp only; omega, ⟨rfl, rfl, trivial⟩, rfl, O, _, inferInstance, gy, hly, by simp only; omega, by simp only; omega, hj1, by simp only; omega, hs2.symm, fun i hi => hy2 i (by simp only at hi; omega)⟩
      · refine sf_exit ?_
        have hm : k + m = xs.length := by omega
        rw [hm, List.take_of_length_le (Nat.le_refl _)] at hy1
        refine Wo ?_
        refine fp (Rq ?_ (q_sliceLo (l := j) (by infer_instance) (by infer_instance) (by rfl) (by rfl) (by omega)))
        rw [if_neg (by omega : ¬ cap = j)]
        refine fp (y_clearT (k := j) (size := 1) (by rfl) (by rfl) gy ⟨rfl, rfl⟩ (by omega) (by omega) (by omega) (by infer_instance) (by infer_instance) (by infer_instance) (by infer_instance) (by exact FlatOne.one _) (by rfl) (by decide) fun A2 gz => ?_)
        refine Wo ?_
        refine fp (Rq ?_ (q_sliceHi (l := j) (by infer_instance) (by infer_instance) (by rfl) (by rfl) (by omega)))
        refine Wo ?_
        obtain ⟨b2, cap2, e2, hc2, cut⟩ := gz.cut (by simp; omega)
        have hcut := cut j (by simp; omega)
        rw [Value.slice.injEq] at e2
        obtain ⟨e3, _, rfl⟩ := e2
        simp only [Option.some.injEq, Addr.mk.injEq] at e3
        obtain rfl := e3.1
        refine sf_ret (rO A2 ?_)
        rw [← hy1]
        rw [List.take_left' (by rw [List.length_take]; omega)] at hcut
        exact hcut
    · refine Wo ?_
      rw [if_neg h3, hinv] at hst
      exact ⟨k + 1, by omega, ⟨rfl, trivial⟩, rfl, _, _, inferInstance, rfl, by omega, by omega, by rw [hst, take_succ_gt (by omega : k < xs.length)]⟩
  · refine sf_exit ?_
    refine Wo ?_
    refine sf_ret (rO O0 ?_)
    rw [List.take_of_length_le (by omega)] at hinv
    rw [hinv]; exact g
theorem spreadPass_v (h : PHeap) (w : Int) : CallV Tryz.prog M 87 [.int .i64 w] h (.agg #[.int .i64 w, .int .i64 0, .int .i64 0, .int .i64 0]) := by
  refine Cs Tryz.func87 Tryz.ntmps87 ?_
  repeat first | refine R1 ?_ | refine R2 fun _ => ?_
  exact sf_ret (rV rfl)
theorem spreadTurn_v (h : PHeap) (w : Int) : CallV Tryz.prog M 88 [.int .i64 w] h (.agg #[.int .i64 0, .int .i64 w, .int .i64 0, .int .i64 0]) := by
  refine Cs Tryz.func88 Tryz.ntmps88 ?_
  repeat first | refine R1 ?_ | refine R2 fun _ => ?_
  exact sf_ret (rV rfl)
theorem spreadStop_v (h : PHeap) (w : Int) : CallV Tryz.prog M 89 [.int .i64 w] h (.agg #[.int .i64 0, .int .i64 0, .int .i64 0, .int .i64 w]) := by
  refine Cs Tryz.func89 Tryz.ntmps89 ?_
  repeat first | refine R1 ?_ | refine R2 fun _ => ?_
  exact sf_ret (rV rfl)
theorem spreadSplit_v (h : PHeap) (w : Int) (hw : 0 ≤ w ∧ w ≤ 64) : CallV Tryz.prog M 90 [.int .i64 w] h (.agg #[.int .i64 (w / 2), .int .i64 (w / 2), .int .i64 (w - w / 2 - w / 2), .int .i64 0]) := by
  refine Cs Tryz.func90 Tryz.ntmps90 ?_
  repeat first | refine R1 ?_ | refine R2 fun _ => ?_
  exact sf_ret (rV rfl)
theorem spreadDim_v (h : PHeap) (w : Int) (hw : 0 ≤ w ∧ w ≤ 64) : CallV Tryz.prog M 91 [.int .i64 w] h (.agg #[.int .i64 (w / 2), .int .i64 0, .int .i64 (w - w / 2), .int .i64 0]) := by
  refine Cs Tryz.func91 Tryz.ntmps91 ?_
  repeat first | refine R1 ?_ | refine R2 fun _ => ?_
  exact sf_ret (rV rfl)
def spreadV (s : Spread) : Value := .agg #[.int .i64 s.pass, .int .i64 s.turn, .int .i64 s.lost, .int .i64 s.stop]
theorem spreadOf_v (h : PHeap) (k w : Int) (hk : 0 ≤ k ∧ k ≤ 7) (hw : 0 ≤ w ∧ w ≤ 64) : CallV Tryz.prog M 54 [.int .i64 k, .int .i64 w] h (spreadV (spread k w)) := by
  obtain ⟨n, rfl⟩ : ∃ n : Nat, k = n := ⟨k.toNat, by omega⟩
  have hn : n = 0 ∨ n = 1 ∨ n = 2 ∨ n = 3 ∨ n = 4 ∨ n = 5 ∨ n = 6 ∨ n = 7 := by omega
  refine Cs Tryz.func54 Tryz.ntmps54 ?_
  repeat first | refine R1 ?_ | refine R2 fun _ => ?_
  rcases hn with rfl | rfl | rfl | rfl | rfl | rfl | rfl | rfl
  · repeat first | refine R1 ?_ | refine R2 fun _ => ?_
    refine fp (y_callC2 (by rfl) (by rfl) (by exact spreadPass_v h w) ?_)
    rintro _ _ ⟨rfl, rfl⟩
    repeat first | refine R1 ?_ | refine R2 fun _ => ?_
    exact sf_ret (rV rfl)
  · repeat first | refine R1 ?_ | refine R2 fun _ => ?_
    refine fp (y_callC2 (by rfl) (by rfl) (by exact spreadStop_v h w) ?_)
    rintro _ _ ⟨rfl, rfl⟩
    repeat first | refine R1 ?_ | refine R2 fun _ => ?_
    exact sf_ret (rV rfl)
  · repeat first | refine R1 ?_ | refine R2 fun _ => ?_
    refine fp (y_callC2 (by rfl) (by rfl) (by exact spreadTurn_v h w) ?_)
    rintro _ _ ⟨rfl, rfl⟩
    repeat first | refine R1 ?_ | refine R2 fun _ => ?_
    exact sf_ret (rV rfl)
  · repeat first | refine R1 ?_ | refine R2 fun _ => ?_
    refine fp (y_callC2 (by rfl) (by rfl) (by exact spreadTurn_v h w) ?_)
    rintro _ _ ⟨rfl, rfl⟩
    repeat first | refine R1 ?_ | refine R2 fun _ => ?_
    exact sf_ret (rV rfl)
  · repeat first | refine R1 ?_ | refine R2 fun _ => ?_
    refine fp (y_callC2 (by rfl) (by rfl) (by exact spreadSplit_v h w hw) ?_)
    rintro _ _ ⟨rfl, rfl⟩
    repeat first | refine R1 ?_ | refine R2 fun _ => ?_
    exact sf_ret (rV rfl)
  · repeat first | refine R1 ?_ | refine R2 fun _ => ?_
    refine fp (y_callC2 (by rfl) (by rfl) (by exact spreadSplit_v h w hw) ?_)
    rintro _ _ ⟨rfl, rfl⟩
    repeat first | refine R1 ?_ | refine R2 fun _ => ?_
    exact sf_ret (rV rfl)
  · repeat first | refine R1 ?_ | refine R2 fun _ => ?_
    refine fp (y_callC2 (by rfl) (by rfl) (by exact spreadDim_v h w hw) ?_)
    rintro _ _ ⟨rfl, rfl⟩
    repeat first | refine R1 ?_ | refine R2 fun _ => ?_
    exact sf_ret (rV rfl)
  · repeat first | refine R1 ?_ | refine R2 fun _ => ?_
    refine fp (y_callC2 (by rfl) (by rfl) (by exact spreadStop_v h w) ?_)
    rintro _ _ ⟨rfl, rfl⟩
    repeat first | refine R1 ?_ | refine R2 fun _ => ?_
    exact sf_ret (rV rfl)
theorem beamFrom_v (h : PHeap) (c : Value) (g : Grid) (s : Sl h c cellF g.cells) (e : gridOk g = true) (a d w : Int) (ha : 0 ≤ a ∧ a < 1000) (hd : 0 ≤ d ∧ d ≤ 3) : CallV Tryz.prog M 55 [.agg #[.int .i64 g.wide, c], .int .i64 a, .int .i64 d, .int .i64 w] h (.agg #[.int .i64 (beamFrom g a d w).at', .int .i64 (beamFrom g a d w).dir, .int .i64 (beamFrom g a d w).weight, .int .i64 (beamFrom g a d w).out]) := by
  have o1 := s.one
  have kg := gok e
  refine Cs Tryz.func55 Tryz.ntmps55 ?_
  repeat first | refine R1 ?_ | refine R2 fun _ => ?_
  refine Xv (rayStep_v h c g a d s ⟨kg.w1, kg.w5⟩ ha hd) ?_
  unfold stepV
  cases en : nextAt g a d with
  | some b =>
    simp only
    repeat first | refine R1 ?_ | refine R2 fun _ => ?_
    refine sf_cond (by rfl) (fun e => by cases e) fun z1 => ?_
    clear z1
    repeat first | refine R1 ?_ | refine R2 fun _ => ?_
    refine sf_ret (rV ?_)
    simp only [beamFrom, en]
  | none =>
    simp only
    repeat first | refine R1 ?_ | refine R2 fun _ => ?_
    refine sf_cond (by rfl) (fun _ => ?_) fun e => by cases e
    repeat first | refine R1 ?_ | refine R2 fun _ => ?_
    refine Xv (sightOf_v h _ g (gridB_mk s) e a d hd) ?_
    repeat first | refine R1 ?_ | refine R2 fun _ => ?_
    refine sf_ret (rV ?_)
    simp only [beamFrom, en]
theorem endOf_f (h : PHeap) (b : Nat) (vv ev : Value) (ov : Sl.One vv) (AE : Own) (es : List LEnd) (gr : Gr AE ev 70 endF es) (hl : es.length ≤ 200000) (kind a w : Int) :
    CallF Tryz.prog M 53 [.pointer (some ⟨b, 0, none⟩), .int .i64 kind, .int .i64 a, .int .i64 w] ((b, .cells #[vv, ev] 67) :: AE) h fun _ A => ∃ ev' AE', A = (b, .cells #[vv, ev'] 67) :: AE' ∧ Gr AE' ev' 70 endF (es ++ endIf kind a w) := by
  have o1 := gr.one
  refine Cs Tryz.func53 Tryz.ntmps53 ?_
  refine Wo ?_
  refine sf_if (fun e => ?_) fun e => ?_
  · refine Wo ?_
    refine Xb fun u Au gu => ?_
    refine Wo ?_
    refine Xa gr gu fun ev2 A2 g2 => ?_
    have o2 := g2.one
    refine Wo ?_
    exact nO ((b, .cells #[vv, ev2] 67) :: A2) ⟨ev2, A2, rfl, by rw [endIf, if_pos e]; exact g2⟩
  · refine Wo ?_
    exact nO ((b, .cells #[vv, ev] 67) :: AE) ⟨ev, AE, rfl, by rw [endIf, if_neg e, List.append_nil]; exact gr⟩
theorem trailOf_f (h : PHeap) (c : Value) (g : Grid) (s : Sl h c cellF g.cells) (e : gridOk g = true) (k : Int) (hk : 0 ≤ k ∧ k < manyOf g) : CallF Tryz.prog M 34 [.agg #[.int .i64 g.wide, c], .int .i64 k] [] h fun v A => ∃ vv ev AV AE, v = .agg #[vv, ev] ∧ A = AV ++ AE ∧ Gr AV vv 99 visitF (goLight g k).1 ∧ Gr AE ev 70 endF (goLight g k).2 := by
  have o1 := s.one
  have kg := gok e
  have hm := kg.small
  obtain ⟨sz, v, es, hc, hg, hsz, hok⟩ := goLight_is kg hk.1 hk.2
  rw [hg]
  have er : sightRayV g k = .tuple #[.agg #[.int .i64 (rayAt g k).at', .int .i64 (rayAt g k).dir], .bool true] := by
    rw [sightRayV, sightMany, if_pos e, if_pos hk]
  obtain ⟨⟨ra0, ra1⟩, rd0, rd1⟩ := rayAt_ok kg hk.1 hk.2
  refine Cs Tryz.func34 Tryz.ntmps34 ?_
  repeat first | refine R1 ?_ | refine R2 fun _ => ?_
  refine Xv (sightRay_v h _ g (gridB_mk s) k) ?_
  rw [er]
  repeat first | refine R1 ?_ | refine R2 fun _ => ?_
  refine sf_cond (by rfl) (fun e => by cases e) fun z1 => ?_
  clear z1
  repeat first | refine R1 ?_ | refine R2 fun _ => ?_
  refine Xb fun w Aw gw => ?_
  repeat first | refine R1 ?_ | refine R2 fun _ => ?_
  rename_i b2 b4 b5 b6
  have t0 : Todo g [(⟨(rayAt g k).at', (rayAt g k).dir, 64, -1⟩ : Beam)] (sz + 0) (v ++ []) (es ++ []) := .cons (.inr (.inr ⟨by simp, by simp, ⟨ra0, ra1⟩, ⟨rd0, rd1⟩, 6600, hc⟩)) (by simp) hok.n1 .nil
  have hlv := hok.lv
  have hle := hok.le
  simp only at hlv hle
  refine sf_lp (ι := Nat × Value) [2, 4, 5] (fun x => [(8, x.2)]) (fun x O => ∃ vv ev AS AV AE, O = (b5, .cells #[vv, ev] 67) :: (AS ++ (AV ++ (AE ++ [(b6, .cells #[.int .i64 (rayAt g k).at', .int .i64 (rayAt g k).dir] 95), (b4, .cells #[.slice none 0 0, .slice none 0 0] 67), (b2, .cells #[.int .i64 g.wide, c] 25)]))) ∧ ∃ st V E v' e', Gr AS x.2 101 beamF st ∧ Gr AV vv 99 visitF V ∧ Gr AE ev 70 endF E ∧ Todo g st.reverse x.1 v' e' ∧ v = V ++ v' ∧ es = E ++ e' ∧ x.1 ≤ 26000) (fun x => x.1) (sz, w) ((b5, .cells #[.slice none 0 0, .slice none 0 0] 67) :: (Aw ++ ([] ++ ([] ++ [(b6, .cells #[.int .i64 (rayAt g k).at', .int .i64 (rayAt g k).dir] 95), (b4, .cells #[.slice none 0 0, .slice none 0 0] 67), (b2, .cells #[.int .i64 g.wide, c] 25)])))) ⟨_, _, Aw, [], [], rfl, _, [], [], v, es, gw, Gr.nil _ _, Gr.nil _ _, by simpa using t0, rfl, rfl, hsz⟩ ?_
  rintro ⟨m, sv⟩ O ⟨vv, ev, AS, AV, AE, rfl, st, V, E, v', e', gs, gv, ge, td, hv, he, hm26⟩
  simp only at gs td hm26 ⊢
  have lvv : V.length ≤ 26000 := by have := congrArg List.length hv; simp only [List.length_append] at this; omega
  have lee : E.length ≤ 52000 := by have := congrArg List.length he; simp only [List.length_append] at this; omega
  have os := gs.one
  have ovv := gv.one
  have oev := ge.one
  have lst := td.len
  rw [List.length_reverse] at lst
  repeat first | refine R1 ?_ | refine R2 fun _ => ?_
  refine sf_if (fun e1 => ?_) fun e1 => ?_
  · obtain ⟨s', b, rfl⟩ := snoc_of (xs := st) (by omega)
    have hlen : (s' ++ [b]).length = s'.length + 1 := by simp
    haveI : FlatV beamF (gt (s' ++ [b]) s'.length) [.int .i64 b.at', .int .i64 b.dir, .int .i64 b.weight, .int .i64 b.out] := ⟨by rw [gt_snoc]; rfl⟩
    obtain ⟨bb, cap, rfl, hcap, cut⟩ := gs.cut (by omega)
    have gs2 := cut s'.length (by omega)
    rw [List.take_left'  rfl] at gs2
    rw [List.reverse_append, List.reverse_singleton, List.singleton_append] at td
    cases td with
    | @cons _ _ n m v1 v2 ea eb hb hbw hn t =>
    clear cut
    have hl1 : (((s' ++ [b]).length : Nat) : Int) - 1 = ((s'.length : Nat) : Int) := by omega
    repeat first | refine R1 ?_ | refine R2 fun _ => ?_
    rw [hl1]
    repeat first | refine R1 ?_ | refine R2 fun _ => ?_
    rw [hl1]
    refine fp (Rq ?_ (q_sliceHi (l := s'.length) (by infer_instance) (by infer_instance) (by rfl) (by rfl) (by omega)))
    repeat first | refine R1 ?_ | refine R2 fun _ => ?_
    rename_i b9 b10
    refine sf_if (fun e2 => ?_) fun e2 => ?_
    · have hz : (n, v1, ea) = (1, [], []) := by
        rcases hb with ⟨_, q⟩ | ⟨q, _⟩ | ⟨q, _⟩
        · exact q
        · exact absurd e2 q
        · exact absurd e2 q
      simp only [Prod.mk.injEq] at hz
      obtain ⟨rfl, rfl, rfl⟩ := hz
      refine sf_exit ?_
      exact ⟨(m, .slice (some ⟨bb, 0, none⟩) s'.length cap), by simp only; omega, ⟨rfl, trivial⟩, rfl, (b5, .cells #[vv, ev] 67) :: (AS ++ (AV ++ (AE ++ [(b6, .cells #[.int .i64 (rayAt g k).at', .int .i64 (rayAt g k).dir] 95), (b4, .cells #[.slice none 0 0, .slice none 0 0] 67), (b2, .cells #[.int .i64 g.wide, c] 25)]))), _, inferInstance, vv, ev, AS, AV, AE, rfl, s', V, E, v2, eb, gs2, gv, ge, t, hv, he, by simp only; omega⟩
    repeat first | refine R1 ?_ | refine R2 fun _ => ?_
    refine sf_if (fun e3 => ?_) fun e3 => ?_
    · have hz : (n, v1, ea) = (1, [], [⟨0, b.out, b.weight⟩]) := by
        rcases hb with ⟨q, _⟩ | ⟨_, _, q⟩ | ⟨_, q, _⟩
        · exact absurd q e2
        · exact q
        · omega
      simp only [Prod.mk.injEq] at hz
      obtain ⟨rfl, rfl, rfl⟩ := hz
      repeat first | refine R1 ?_ | refine R2 fun _ => ?_
      refine fp (y_call (endOf_f h b5 vv ev ovv AE E ge (by omega) 0 b.out b.weight) (by rfl) ?_)
      rintro _ _ ⟨ev2, AE2, rfl, ge2⟩
      rw [endIf, if_pos (by omega)] at ge2
      repeat first | refine R1 ?_ | refine R2 fun _ => ?_
      refine sf_exit ?_
      exact ⟨(m, .slice (some ⟨bb, 0, none⟩) s'.length cap), by simp only; omega, ⟨rfl, trivial⟩, rfl, (b5, .cells #[vv, ev2] 67) :: (AS ++ (AV ++ (AE2 ++ [(b6, .cells #[.int .i64 (rayAt g k).at', .int .i64 (rayAt g k).dir] 95), (b4, .cells #[.slice none 0 0, .slice none 0 0] 67), (b2, .cells #[.int .i64 g.wide, c] 25)]))), _, inferInstance, vv, ev2, AS, AV, AE2, rfl, s', V, _, v2, eb, gs2, gv, ge2, t, hv, by rw [he]; simp, by simp only; omega⟩
    obtain ⟨ha, hd', nn, hcm⟩ : (0 ≤ b.at' ∧ b.at' < g.cells.length) ∧ (0 ≤ b.dir ∧ b.dir ≤ 3) ∧ ∃ n', comeF g n' b.at' b.dir b.weight = some (n, v1, ea) := by
      rcases hb with ⟨q, _⟩ | ⟨_, q, _⟩ | ⟨_, _, q⟩
      · exact absurd q e2
      · omega
      · exact q
    have ha' : 0 ≤ b.at' ∧ b.at' < 1000 := by omega
    obtain ⟨n', v1', e1'', hr, td2⟩ := todo_two kg ha.1 ha.2 hd'.1 hd'.2 (by omega) hbw.2 hcm t
    simp only [Prod.mk.injEq] at hr
    obtain ⟨rfl, rfl, rfl⟩ := hr
    have ls' : s'.length ≤ 26000 := by omega
    clear lst hn
    have hkd := kg.kind ha.1 ha.2
    clear hb hcm t hc
    repeat first | refine R1 ?_ | refine R2 fun _ => ?_
    refine Xb fun u Au gu => ?_
    repeat first | refine R1 ?_ | refine R2 fun _ => ?_
    refine Xa gv gu fun vv2 AV2 gv2 => ?_
    have ov2 := gv2.one
    repeat first | refine R1 ?_ | refine R2 fun _ => ?_
    have csp := spreadOf_v (M := M) h (gt g.cells b.at'.toNat).kind b.weight ⟨hkd.1, hkd.2.1⟩ hbw
    unfold spreadV at csp
    refine Xv (csp) ?_
    repeat first | refine R1 ?_ | refine R2 fun _ => ?_
    refine sf_if (fun e7 => ?_) fun e7 => ?_
    · repeat first | refine R1 ?_ | refine R2 fun _ => ?_
      refine fp (y_call (endOf_f h b5 vv2 ev ov2 AE E ge (by omega) 2 b.at' (spread (gt g.cells b.at'.toNat).kind b.weight).stop) (by rfl) ?_)
      rintro _ _ ⟨ev2, AE2, rfl, ge2⟩
      have oe2 := ge2.one
      repeat first | refine R1 ?_ | refine R2 fun _ => ?_
      refine fp (y_call (endOf_f h b5 vv2 ev2 ov2 AE2 _ ge2 (by simp only [List.length_append]; have := endIf_len 2 b.at' (spread (gt g.cells b.at'.toNat).kind b.weight).stop; omega) 3 b.at' (spread (gt g.cells b.at'.toNat).kind b.weight).lost) (by rfl) ?_)
      rintro _ _ ⟨ev3, AE3, rfl, ge3⟩
      have oe3 := ge3.one
      have hH : hereF g b.at' b.weight = endIf 2 b.at' (spread (gt g.cells b.at'.toNat).kind b.weight).stop ++ endIf 3 b.at' (spread (gt g.cells b.at'.toNat).kind b.weight).lost := by
        unfold hereF; simp [e7]
      repeat first | refine R1 ?_ | refine R2 fun _ => ?_
      refine Sd [[],[],[],[2],[],[4],[],[6],[4,5,6,7],[],[9],[1,2,3,4,5,6,7,8,9,10],[],[],[13],[],[15],[],[17],[1,2,3,4,5,6,7,8,9,10,11,12,13,14,15,16,17,18],[1,2,3,4,5,6,7,8,9,10,11,12,13,14,15,16,17,18,19],[0,1,2,3,4,5,6,7,8,9,10,11,12,13,14,15,16,17,18,19,20],[0,1,2,3,4,5,6,7,8,9,10,11,12,13,14,15,16,17,18,19,20,21]] 21 [Nn 0,Nn 1,Nn 2,Nn 3,Nn 4,Nn 5,Nn 6,Nn 7,Nn 9,Nn 10,Nn 12,Nn 13,Nn 14,Nn 15,Nn 16,Nn 17,Nn 18,Yy 8,Yy 11,Yy 19,Yy 20] ?_
      refine Da ?_
      refine Yv (dirTurn_v h (gt g.cells b.at'.toNat).kind b.dir hd') ?_
      refine Da ?_
      refine Yv (beamFrom_v h c g s e b.at' (dirTurn (gt g.cells b.at'.toNat).kind b.dir) (spread (gt g.cells b.at'.toNat).kind b.weight).turn ha' (dirTurn_ok hd'.1 hd'.2)) ?_
      refine Da ?_
      refine Yv (beamFrom_v h c g s e b.at' b.dir (spread (gt g.cells b.at'.toNat).kind b.weight).pass ha' hd') ?_
      refine Da ?_
      refine Yb fun w3 Aw3 gw3 => ?_
      refine Da ?_
      refine Ae ?_
      refine Xa gs2 gw3 fun sv4 AS4 gs4 => ?_
      have os4 := gs4.one
      repeat first | refine R1 ?_ | refine R2 fun _ => ?_
      exact ⟨(n' + m, sv4), by simp only; omega, ⟨rfl, trivial⟩, rfl, (b5, .cells #[vv2, ev3] 67) :: (AS4 ++ (AV2 ++ (AE3 ++ [(b6, .cells #[.int .i64 (rayAt g k).at', .int .i64 (rayAt g k).dir] 95), (b4, .cells #[.slice none 0 0, .slice none 0 0] 67), (b2, .cells #[.int .i64 g.wide, c] 25)]))), _, inferInstance, vv2, ev3, AS4, AV2, AE3, rfl, _, _, _, v1' ++ v2, e1'' ++ eb, gs4, gv2, ge3, by simpa using td2, by rw [hv]; simp, by rw [he, hH]; simp, by simp only; omega⟩
    · repeat first | refine R1 ?_ | refine R2 fun _ => ?_
      refine fp (y_call (endOf_f h b5 vv2 ev ov2 AE E ge (by omega) 1 b.at' (spread (gt g.cells b.at'.toNat).kind b.weight).stop) (by rfl) ?_)
      rintro _ _ ⟨ev2, AE2, rfl, ge2⟩
      have oe2 := ge2.one
      repeat first | refine R1 ?_ | refine R2 fun _ => ?_
      refine fp (y_call (endOf_f h b5 vv2 ev2 ov2 AE2 _ ge2 (by simp only [List.length_append]; have := endIf_len 1 b.at' (spread (gt g.cells b.at'.toNat).kind b.weight).stop; omega) 3 b.at' (spread (gt g.cells b.at'.toNat).kind b.weight).lost) (by rfl) ?_)
      rintro _ _ ⟨ev3, AE3, rfl, ge3⟩
      have oe3 := ge3.one
      have hH : hereF g b.at' b.weight = endIf 1 b.at' (spread (gt g.cells b.at'.toNat).kind b.weight).stop ++ endIf 3 b.at' (spread (gt g.cells b.at'.toNat).kind b.weight).lost := by
        unfold hereF; simp [e7]
      repeat first | refine R1 ?_ | refine R2 fun _ => ?_
      refine Sd [[],[],[],[2],[],[4],[],[6],[4,5,6,7],[],[9],[1,2,3,4,5,6,7,8,9,10],[],[],[13],[],[15],[],[17],[1,2,3,4,5,6,7,8,9,10,11,12,13,14,15,16,17,18],[1,2,3,4,5,6,7,8,9,10,11,12,13,14,15,16,17,18,19],[0,1,2,3,4,5,6,7,8,9,10,11,12,13,14,15,16,17,18,19,20],[0,1,2,3,4,5,6,7,8,9,10,11,12,13,14,15,16,17,18,19,20,21]] 21 [Nn 0,Nn 1,Nn 2,Nn 3,Nn 4,Nn 5,Nn 6,Nn 7,Nn 9,Nn 10,Nn 12,Nn 13,Nn 14,Nn 15,Nn 16,Nn 17,Nn 18,Yy 8,Yy 11,Yy 19,Yy 20] ?_
      refine Da ?_
      refine Yv (dirTurn_v h (gt g.cells b.at'.toNat).kind b.dir hd') ?_
      refine Da ?_
      refine Yv (beamFrom_v h c g s e b.at' (dirTurn (gt g.cells b.at'.toNat).kind b.dir) (spread (gt g.cells b.at'.toNat).kind b.weight).turn ha' (dirTurn_ok hd'.1 hd'.2)) ?_
      refine Da ?_
      refine Yv (beamFrom_v h c g s e b.at' b.dir (spread (gt g.cells b.at'.toNat).kind b.weight).pass ha' hd') ?_
      refine Da ?_
      refine Yb fun w3 Aw3 gw3 => ?_
      refine Da ?_
      refine Ae ?_
      refine Xa gs2 gw3 fun sv4 AS4 gs4 => ?_
      have os4 := gs4.one
      repeat first | refine R1 ?_ | refine R2 fun _ => ?_
      exact ⟨(n' + m, sv4), by simp only; omega, ⟨rfl, trivial⟩, rfl, (b5, .cells #[vv2, ev3] 67) :: (AS4 ++ (AV2 ++ (AE3 ++ [(b6, .cells #[.int .i64 (rayAt g k).at', .int .i64 (rayAt g k).dir] 95), (b4, .cells #[.slice none 0 0, .slice none 0 0] 67), (b2, .cells #[.int .i64 g.wide, c] 25)]))), _, inferInstance, vv2, ev3, AS4, AV2, AE3, rfl, _, _, _, v1' ++ v2, e1'' ++ eb, gs4, gv2, ge3, by simpa using td2, by rw [hv]; simp, by rw [he, hH]; simp, by simp only; omega⟩
  · refine sf_exit ?_
    obtain rfl : st = [] := List.eq_nil_of_length_eq_zero (by omega)
    cases td
    repeat first | refine R1 ?_ | refine R2 fun _ => ?_
    exact sf_ret (rO (AV ++ AE) ⟨vv, ev, AV, AE, rfl, rfl, by rw [hv, List.append_nil]; exact gv, by rw [he, List.append_nil]; exact ge⟩)
theorem trailLight_v (h : PHeap) (c : Value) (g : Grid) (s : Sl h c cellF g.cells) (e : gridOk g = true) (k : Int) (hk : 0 ≤ k ∧ k < manyOf g) : CallV Tryz.prog M 15 [.agg #[.int .i64 g.wide, c], .int .i64 k] h (.int .i64 (trailLight g k)) := by
  have o1 := s.one
  have kg := gok e
  obtain ⟨sz, v, es, hc, hg, hsz, hok⟩ := goLight_is kg hk.1 hk.2
  have hle := hok.le
  have hes : ∀ e ∈ es, EndOk g 64 e := hok.es
  simp only at hle
  refine Cs Tryz.func15 Tryz.ntmps15 ?_
  repeat first | refine R1 ?_ | refine R2 fun _ => ?_
  refine fp (y_call (trailOf_f h c g s e k hk) (by rfl) ?_)
  rintro _ _ ⟨vv, ev, AV, AE, rfl, rfl, gv, ge⟩
  rw [hg] at gv ge
  have ov := gv.one
  have oe := ge.one
  simp only at ge gv
  have hg' := hg
  clear hc hg
  repeat first | refine R1 ?_ | refine R2 fun _ => ?_
  rename_i b2
  refine sf_lp (ι := Nat) [2, 11, 12] (fun k => [(5, .int .i64 (sumF (endLight g) (es.take k))), (13, .int .i64 (k : Int))]) (fun k O => k ≤ es.length ∧ O = AV ++ (AE ++ [(b2, .cells #[.int .i64 g.wide, c] 25)])) (fun k => es.length - k) 0 (AV ++ (AE ++ [(b2, .cells #[.int .i64 g.wide, c] 25)])) ⟨by omega, rfl⟩ ?_
  rintro j O ⟨hj, rfl⟩
  have hsum := lightOf_bd kg hes j (by omega)
  repeat first | refine R1 ?_ | refine R2 fun _ => ?_
  refine sf_if (fun e1 => ?_) fun e1 => ?_
  · have hj1 : j < es.length := by omega
    have ek := hes (gt es j) (by rw [gt_eq hj1]; exact List.getElem_mem _)
    have hst := sumF_step (f := endLight g) hj1
    have hbd := endLight_bd kg ek
    repeat first | refine R1 ?_ | refine R2 fun _ => ?_
    refine sf_if (fun e2 => ?_) fun e2 => ?_
    · have hcl := ek.cell (by omega)
      rw [endLight, if_pos e2] at hst hbd
      repeat first | refine R1 ?_ | refine R2 fun _ => ?_
      refine Sd [[],[],[1],[],[3],[],[5],[3,4,5,6],[3,4,5,6,7],[3,4,5,6,7,8],[1,2,3,4,5,6,7,8,9],[0,1,2,3,4,5,6,7,8,9,10],[0,1,2,3,4,5,6,7,8,9,10,11]] 11 [Nn 0,Nn 1,Nn 2,Nn 3,Nn 4,Nn 5,Nn 6,Nn 7,Nn 8,Nn 9,Nn 10] ?_
      refine Da ?_
      refine Ae ?_
      repeat first | refine R1 ?_ | refine R2 fun _ => ?_
      exact ⟨j + 1, by omega, ⟨by rw [hst]; rfl, rfl, trivial⟩, rfl, _, _, inferInstance, by omega, rfl⟩
    · rw [endLight, if_neg e2, Int.add_zero] at hst
      repeat first | refine R1 ?_ | refine R2 fun _ => ?_
      exact ⟨j + 1, by omega, ⟨by rw [hst]; rfl, rfl, trivial⟩, rfl, _, _, inferInstance, by omega, rfl⟩
  · refine sf_exit ?_
    repeat first | refine R1 ?_ | refine R2 fun _ => ?_
    refine sf_ret (rV ?_)
    rw [trailLight, lightOf, hg', List.take_of_length_le (by omega)]
theorem paintIdOk_v (h : PHeap) (id many : Int) : CallV Tryz.prog M 30 [.int .i64 id, .int .i64 many] h (.bool (decide (1 ≤ many) && decide (many ≤ 3) && decide (1 ≤ id) && decide (id ≤ many))) := by
  refine Cs Tryz.func30 Tryz.ntmps30 ?_
  refine Wo ?_
  refine f_split (fun h1 => ?_) fun h1 => ?_
  · refine Wo ?_
    refine f_split (fun h2 => ?_) fun h2 => ?_
    · refine Wo ?_
      refine f_split (fun h3 => ?_) fun h3 => ?_ <;>
      · refine Wo ?_
        refine sf_ret (rV ?_)
        simp [h1, h2, h3]
    · refine Wo ?_
      refine sf_ret (rV ?_)
      simp [h1, h2]
  · refine Wo ?_
    refine sf_ret (rV ?_)
    simp [h1]
theorem sightMany_ok {g : Grid} (h : gridOk g = true) : sightMany g = manyOf g := by rw [sightMany, if_pos h]
theorem paintOwn_f (h : PHeap) (ca : List Value) (g : Grid) (b : (gridR τ).B h ca g) (e : gridOk g = true) (id many : Nat) (h1 : 1 ≤ id) (h2 : id ≤ many) (h3 : many ≤ 3) : CallF Tryz.prog M 13 [.agg ca.toArray, .int .i64 (id : Int), .int .i64 (many : Int)] [] h fun u A => Gr A u 3 intF (ownList (manyOf g).toNat many id) := by
  obtain ⟨c, rfl, s⟩ := gridB b
  have o1 := s.one
  have hm := (gok e).many
  obtain ⟨S, hS⟩ : ∃ S : Nat, manyOf g = S := ⟨(manyOf g).toNat, by omega⟩
  rw [hS] at hm ⊢
  simp only [Int.toNat_natCast]
  have hc : ∀ j, j < ownCnt S many id ↔ id - 1 + j * many < S := fun j => ownCnt_lt h1 h2 h3
  refine Cs Tryz.func13 Tryz.ntmps13 ?_
  repeat first | refine R1 ?_ | refine R2 fun _ => ?_
  refine Xv (paintIdOk_v _ _ _) ?_
  rw [show (decide ((1 : Int) ≤ (many : Int)) && decide ((many : Int) ≤ 3) && decide (1 ≤ (id : Int)) && decide ((id : Int) ≤ (many : Int))) = true by simp; omega]
  repeat first | refine R1 ?_ | refine R2 fun _ => ?_
  refine sf_cond (by rfl) (fun e => by cases e) fun z1 => ?_
  clear z1
  repeat first | refine R1 ?_ | refine R2 fun _ => ?_
  rename_i b3
  rw [show (id : Int) - 1 = ((id - 1 + 0 * many : Nat) : Int) by omega]
  refine sf_lp (ι := Nat × Value) [2, 3] (fun x => [(8, .int .i64 ((id - 1 + x.1 * many : Nat) : Int)), (7, x.2)]) (fun x O => x.1 ≤ ownCnt S many id ∧ ∃ A', O = A' ++ [(b3, .cells #[.int .i64 g.wide, c] 25)] ∧ ∃ xs, xs.length = x.1 ∧ xs = ((List.range x.1).map fun j => ((id - 1 + j * many : Nat) : Int)) ∧ Gr A' x.2 3 intF xs) (fun x => ownCnt S many id - x.1) (0, .slice none 0 0) ([] ++ [(b3, .cells #[.int .i64 g.wide, c] 25)]) ⟨by omega, [], rfl, [], rfl, rfl, Gr.nil _ _⟩ ?_
  rintro ⟨j, v⟩ O ⟨hj, A', rfl, xs, lx, ex, gr⟩
  simp only at hj lx ex gr ⊢
  have o2 := gr.one
  repeat first | refine R1 ?_ | refine R2 fun _ => ?_
  refine Xv (sightMany_v _ _ g b) ?_
  rw [sightMany_ok e, hS]
  have hjm : j * many ≤ 20 * 3 ∧ j ≤ 20 := by
    rcases Nat.eq_zero_or_pos j with rfl | hj0
    · omega
    · have := (hc (j - 1)).1 (by omega)
      have h4 : (j - 1) * many ≤ 20 * 3 := by omega
      have h5 : j * many = (j - 1) * many + many := by
        obtain ⟨k, rfl⟩ : ∃ k, j = k + 1 := ⟨j - 1, by omega⟩
        rw [Nat.add_sub_cancel, Nat.add_mul, Nat.one_mul]
      have h6 : j ≤ 20 := by
        have : (j - 1) * 1 ≤ (j - 1) * many := Nat.mul_le_mul_left _ (by omega)
        omega
      exact ⟨Nat.mul_le_mul h6 h3, h6⟩
  repeat first | refine R1 ?_ | refine R2 fun _ => ?_
  refine sf_if (fun h4 => ?_) fun h4 => ?_
  · have hj4 : j < ownCnt S many id := (hc j).2 (by omega)
    repeat first | refine R1 ?_ | refine R2 fun _ => ?_
    refine Xb fun u Au gu => ?_
    repeat first | refine R1 ?_ | refine R2 fun _ => ?_
    refine Xa gr gu fun v2 A2 g2 => ?_
    repeat first | refine R1 ?_ | refine R2 fun _ => ?_
    refine ⟨(j + 1, v2), by simp only; omega, ⟨?_, rfl, trivial⟩, rfl, A2 ++ [(b3, .cells #[.int .i64 g.wide, c] 25)], _, inferInstance, by simp only; omega, A2, rfl, _, by simp; omega, by rw [ownList_step, ex], g2⟩
    rw [show ((id - 1 + (j + 1) * many : Nat) : Int) = ((id - 1 + j * many : Nat) : Int) + (many : Int) by rw [Nat.add_mul, Nat.one_mul]; omega]
    rfl
  · refine sf_exit ?_
    have : j = ownCnt S many id := by
      rcases Nat.lt_or_ge j (ownCnt S many id) with h | h
      · have := (hc j).1 h; omega
      · omega
    repeat first | refine R1 ?_ | refine R2 fun _ => ?_
    refine sf_ret (rO A' ?_)
    rw [ownList, ← this, ← ex]; exact gr
theorem intsEqual_v (h : PHeap) (a b : Value) (xs ys : List Int) (sx : Sl h a intF xs) (sy : Sl h b intF ys) : CallV Tryz.prog M 70 [a, b] h (.bool (decide (xs = ys))) := by
  have o1 := sx.one
  have o2 := sy.one
  have hx := sx.small
  have hy := sy.small
  refine Cs Tryz.func70 Tryz.ntmps70 ?_
  refine Wo ?_
  refine sf_if (fun e0 => ?_) fun e0 => ?_
  · refine Wo ?_
    exact sf_ret (rV (bF fun e => e0 (by rw [e])))
  have hl : xs.length = ys.length := by omega
  refine Wo ?_
  refine sf_rd [0, 1, 12] 13 xs.length 0 (fun k => xs.take k = ys.take k) (by omega) rfl (fun k hk hi => ?_)
  refine Wo ?_
  refine sf_if (fun h4 => ?_) fun h4 => ?_
  · have hk4 : k < xs.length := by omega
    have hk5 : k < ys.length := by omega
    refine Wo ?_
    refine Sd [[],[],[0,1],[0,1,2],[],[],[4,5],[4,5,6],[0,1,2,3,4,5,6,7]] 8 [Nn 0,Nn 1,Nn 2,Nn 3,Nn 4,Nn 5,Nn 6,Nn 7] ?_
    refine Da ?_
    refine Ae ?_
    refine Wo ?_
    refine sf_if (fun e1 => ?_) fun e1 => ?_
    · refine Wo ?_
      exact sf_ret (rV (bF (eq_at e1)))
    · refine Wo ?_
      exact ⟨⟨hk4, eq_step hk4 hk5 hi (by simpa using e1)⟩, rfl, rfl, _, inferInstance⟩
  · refine sf_exit ?_
    refine Wo ?_
    exact sf_ret (rV (bT (eq_end hl (by omega) hi)))
end Go.Proofs.YtcpkcmgjfcbnpaaGreat
namespace Go.Proofs.YtcpkcmgjfcbnpaaGreat
open Go
abbrev wgLink : Go.Conc.Lib.WgLink := { add := 125, done := 127, wait := 128, relMerge := 147, disable := 148, enable := 149, inBubble := 150, associate := 151, fatal := 152, uOr := 153, uAdd := 154, raceRead := 155, uLoad := 156, uStore := 157, disassociate := 158, semrelease := 159, acquire := 160, isAssociated := 161, uCas := 162, raceWrite := 163, semacquire := 164, orU64 := 177, addU64 := 178, loadU64 := 179, storeU64 := 180, casU64 := 181, tWgP := 219, tUP := 221, tAssoc := 223, tWg := 198, tAU := 195, tU64 := 193, tUint := 158, tU32 := 196, tPU32 := 227, tPAU := 242, tPU64 := 244, tNoCopy := 190, tANoCopy := 191, tAlign64 := 192 }
theorem wgLib : Go.Conc.Lib.WgLib Tryz.prog wgLink :=
  ⟨Tryz.func125, Tryz.func127, Tryz.func128, Tryz.func147, Tryz.func148, Tryz.func149, Tryz.func150, Tryz.func151, Tryz.func152, Tryz.func153, Tryz.func154, Tryz.func155, Tryz.func156, Tryz.func157, Tryz.func158, Tryz.func159, Tryz.func160, Tryz.func161, Tryz.func162, Tryz.func163, Tryz.func164, Tryz.func177, Tryz.func178, Tryz.func179, Tryz.func180, Tryz.func181, Tryz.underlying219, Tryz.runUnderlying219, Tryz.sizeOf219, Tryz.isAgg219, Tryz.zeroValue219, Tryz.underlying221, Tryz.runUnderlying221, Tryz.sizeOf221, Tryz.isAgg221, Tryz.zeroValue221, Tryz.underlying223, Tryz.runUnderlying223, Tryz.sizeOf223, Tryz.isAgg223, Tryz.zeroValue223, Tryz.underlying198, Tryz.runUnderlying198, Tryz.sizeOf198, Tryz.isAgg198, Tryz.zeroValue198, Tryz.underlying195, Tryz.runUnderlying195, Tryz.sizeOf195, Tryz.isAgg195, Tryz.zeroValue195, Tryz.underlying193, Tryz.runUnderlying193, Tryz.sizeOf193, Tryz.isAgg193, Tryz.zeroValue193, Tryz.underlying158, Tryz.runUnderlying158, Tryz.sizeOf158, Tryz.isAgg158, Tryz.zeroValue158, Tryz.underlying196, Tryz.runUnderlying196, Tryz.sizeOf196, Tryz.isAgg196, Tryz.zeroValue196, Tryz.underlying227, Tryz.runUnderlying227, Tryz.sizeOf227, Tryz.isAgg227, Tryz.zeroValue227, Tryz.underlying242, Tryz.runUnderlying242, Tryz.sizeOf242, Tryz.isAgg242, Tryz.zeroValue242, Tryz.underlying244, Tryz.runUnderlying244, Tryz.sizeOf244, Tryz.isAgg244, Tryz.zeroValue244, Tryz.underlying0, Tryz.runUnderlying0, Tryz.sizeOf0, Tryz.isAgg0, Tryz.zeroValue0, Tryz.underlying3, Tryz.runUnderlying3, Tryz.sizeOf3, Tryz.isAgg3, Tryz.zeroValue3, Tryz.underlying4, Tryz.runUnderlying4, Tryz.sizeOf4, Tryz.isAgg4, Tryz.zeroValue4, Tryz.underlying9, Tryz.runUnderlying9, Tryz.sizeOf9, Tryz.isAgg9, Tryz.zeroValue9, Tryz.underlying20, Tryz.runUnderlying20, Tryz.sizeOf20, Tryz.isAgg20, Tryz.zeroValue20, Tryz.underlying21, Tryz.runUnderlying21, Tryz.sizeOf21, Tryz.isAgg21, Tryz.zeroValue21, (by kernel_rfl), (by kernel_rfl)⟩
end Go.Proofs.YtcpkcmgjfcbnpaaGreat
namespace Go.Proofs.YtcpkcmgjfcbnpaaGreat
open Go Go.Sl Go.Conc
set_option maxRecDepth 100000
noncomputable def loop52 : Code := match Tryz.f126.body with
  | some (.seq _ (.seq _ (.seq (.seq _ b) _))) => b
  | _ => .skip
abbrev wl (bS bC bO bCh : Nat) (v : Value) (k : Nat) : Locals := [(1, .pointer (some ⟨bS, 0, none⟩)), (2, .pointer (some ⟨bC, 0, none⟩)), (3, .pointer (some ⟨bO, 0, none⟩)), (4, .pointer (some ⟨bCh, 0, none⟩)), (5, v), (6, .int .i64 (k : Int))]
section
variable {M : Jdg → Prop} [IsCl Tryz.prog M]
attribute [local irreducible] Go.Code.so soOps Opq opo retO
theorem worker_loop (B : PHeap) (Wg : Nat) (bS bC bO bCh : Nat) (st : Nat → Nat) (fn : FuncId) (Fun52 : Fun Tryz.prog fn) (first cap : Array Value) (val : Nat → Int) (j : Nat) (hj : j < 4) (s4 : ∀ i, i < 5 → st i ≤ 1048576) (mono : st j ≤ st (j + 1))
    (hS : BAt B bS (.cells #[.int .i64 (st 0), .int .i64 (st 1), .int .i64 (st 2), .int .i64 (st 3), .int .i64 (st 4)] 187 (0, 0)))
    (hC : BAt B bC (.cells #[.int .i64 j] 3 (0, 0))) (hO : BAt B bO (.cells #[.func (.func fn) first cap] 60 (0, 0)))
    (of : ∀ (B' : PHeap), Le B B' → ∀ k, st j ≤ k → k < st (j + 1) → CallsR Tryz.prog M fn (first.toList ++ [.int .i64 (k : Int)] ++ cap.toList) B' fun v _ => v = .int .i64 (val k)) (L : Locals)
    (hL : Locals.sub (wl bS bC bO bCh (.slice none 0 0) (st j)) L) :
    loop52.so Tryz.prog M 28 (fun e L' A h' => e = .nrm ∧ ∃ v, Locals.sub [(2, .pointer (some ⟨bC, 0, none⟩)), (4, .pointer (some ⟨bCh, 0, none⟩)), (5, v)] L' ∧ Gr A v 3 intF ((List.range' (st j) (st (j + 1) - st j)).map val)) L [] B := by
  simp only [loop52, Tryz.f126]
  refine so_block ?_
  refine so_loop (ι := Nat) (A := fun k L O h' => st j ≤ k ∧ k ≤ st (j + 1) ∧ ∃ v, L = wl bS bC bO bCh v k ∧ Gr O v 3 intF ((List.range' (st j) (k - st j)).map val)) (fun k => st (j + 1) - k) (st j) hL ⟨Nat.le_refl _, mono, _, rfl, by simpa using Gr.nil _ _⟩ ?_
  rintro k _ O h' le ⟨k1, k2, v, rfl, gr⟩
  have hk := s4 (j + 1) (by omega)
  obtain rfl | rfl | rfl | rfl : j = 0 ∨ j = 1 ∨ j = 2 ∨ j = 3 := by omega
  · refine so_seq ?_
    refine so_seq ?_
    refine so_reg ?_
    refine so_q (q_move (by rfl)) ?_
    refine so_q (q_loadB (by infer_instance) (by rfl) (by infer_instance) (by rfl) (by rfl)) ?_
    refine Run.go ?_
    refine so_q (q_indexP (by infer_instance) (by infer_instance) (by rfl) (by rfl) (by decide) (by decide)) ?_
    refine so_q (q_loadB (by infer_instance) (by rfl) (by infer_instance) (by rfl) (by rfl)) ?_
    refine Run.go ?_
    refine so_cond rfl (fun h1 => ?_) (fun h1 => ?_)
    · have hlt : k < st 1 := by simpa using h1
      refine Run.go ?_
      refine so_q (q_loadB (by infer_instance) (by rfl) (by infer_instance) (by rfl) (by rfl)) ?_
      refine Run.go ?_
      refine op_callv Fun52 (vs := [.int .i64 (k : Int)]) (by rfl) (of h' le k k1 hlt) (.refl ([] ++ O)) (by rfl) ?_
      rintro u A' h'' le2 ⟨rfl, rfl⟩
      refine Run.go ?_
      refine op_buildSlice (by infer_instance) (by infer_instance) (by rfl) (by rfl) (by rfl) (by rfl) fun b => ?_
      refine Run.go ?_
      refine op_append (ys := [val k]) (R := [(b, .cells [Value.int .i64 (val k)].toArray 3 (0, 0))]) (by rfl) (by rfl) (by infer_instance) (by infer_instance) (by rfl) gr (List.perm_append_singleton _ _).symm rfl (src_own (by infer_instance)) (by simp [intF, allOne]; rfl) (by simp; omega) (by simp; omega) fun v' A' gr' => ?_
      refine so_drop (O' := A') (List.sublist_append_left _ _) ?_
      refine Run.go ?_
      have hw : IntKind.i64.wrap ((k : Int) + 1) = ((k + 1 : Nat) : Int) := by rw [IntKind.wrap_i64]; omega
      have hr : List.range' (st 0) (k + 1 - st 0) = List.range' (st 0) (k - st 0) ++ [k] := by
        rw [show k + 1 - st 0 = (k - st 0) + 1 by omega, List.range'_1_concat, show st 0 + (k - st 0) = k by omega]
      refine ⟨k + 1, wl bS bC bO bCh v' (k + 1), by simp only [Nat.reduceAdd]; omega, ⟨rfl, rfl, rfl, rfl, rfl, ?_, trivial⟩, by omega, by simp only [Nat.reduceAdd]; omega, v', rfl, ?_⟩
      · rw [← hw]; rfl
      · rw [hr, List.map_append]; exact gr'
    · have hge : k = st 1 := by
        have : ¬ (k < st 1) := by simpa using h1
        simp only [Nat.reduceAdd] at k2
        omega
      subst hge
      refine so_exit ?_
      exact ⟨rfl, v, ⟨rfl, rfl, rfl, trivial⟩, gr⟩
  · refine so_seq ?_
    refine so_seq ?_
    refine so_reg ?_
    refine so_q (q_move (by rfl)) ?_
    refine so_q (q_loadB (by infer_instance) (by rfl) (by infer_instance) (by rfl) (by rfl)) ?_
    refine Run.go ?_
    refine so_q (q_indexP (by infer_instance) (by infer_instance) (by rfl) (by rfl) (by decide) (by decide)) ?_
    refine so_q (q_loadB (by infer_instance) (by rfl) (by infer_instance) (by rfl) (by rfl)) ?_
    refine Run.go ?_
    refine so_cond rfl (fun h1 => ?_) (fun h1 => ?_)
    · have hlt : k < st 2 := by simpa using h1
      refine Run.go ?_
      refine so_q (q_loadB (by infer_instance) (by rfl) (by infer_instance) (by rfl) (by rfl)) ?_
      refine Run.go ?_
      refine op_callv Fun52 (vs := [.int .i64 (k : Int)]) (by rfl) (of h' le k k1 hlt) (.refl ([] ++ O)) (by rfl) ?_
      rintro u A' h'' le2 ⟨rfl, rfl⟩
      refine Run.go ?_
      refine op_buildSlice (by infer_instance) (by infer_instance) (by rfl) (by rfl) (by rfl) (by rfl) fun b => ?_
      refine Run.go ?_
      refine op_append (ys := [val k]) (R := [(b, .cells [Value.int .i64 (val k)].toArray 3 (0, 0))]) (by rfl) (by rfl) (by infer_instance) (by infer_instance) (by rfl) gr (List.perm_append_singleton _ _).symm rfl (src_own (by infer_instance)) (by simp [intF, allOne]; rfl) (by simp; omega) (by simp; omega) fun v' A' gr' => ?_
      refine so_drop (O' := A') (List.sublist_append_left _ _) ?_
      refine Run.go ?_
      have hw : IntKind.i64.wrap ((k : Int) + 1) = ((k + 1 : Nat) : Int) := by rw [IntKind.wrap_i64]; omega
      have hr : List.range' (st 1) (k + 1 - st 1) = List.range' (st 1) (k - st 1) ++ [k] := by
        rw [show k + 1 - st 1 = (k - st 1) + 1 by omega, List.range'_1_concat, show st 1 + (k - st 1) = k by omega]
      refine ⟨k + 1, wl bS bC bO bCh v' (k + 1), by simp only [Nat.reduceAdd]; omega, ⟨rfl, rfl, rfl, rfl, rfl, ?_, trivial⟩, by omega, by simp only [Nat.reduceAdd]; omega, v', rfl, ?_⟩
      · rw [← hw]; rfl
      · rw [hr, List.map_append]; exact gr'
    · have hge : k = st 2 := by
        have : ¬ (k < st 2) := by simpa using h1
        simp only [Nat.reduceAdd] at k2
        omega
      subst hge
      refine so_exit ?_
      exact ⟨rfl, v, ⟨rfl, rfl, rfl, trivial⟩, gr⟩
  · refine so_seq ?_
    refine so_seq ?_
    refine so_reg ?_
    refine so_q (q_move (by rfl)) ?_
    refine so_q (q_loadB (by infer_instance) (by rfl) (by infer_instance) (by rfl) (by rfl)) ?_
    refine Run.go ?_
    refine so_q (q_indexP (by infer_instance) (by infer_instance) (by rfl) (by rfl) (by decide) (by decide)) ?_
    refine so_q (q_loadB (by infer_instance) (by rfl) (by infer_instance) (by rfl) (by rfl)) ?_
    refine Run.go ?_
    refine so_cond rfl (fun h1 => ?_) (fun h1 => ?_)
    · have hlt : k < st 3 := by simpa using h1
      refine Run.go ?_
      refine so_q (q_loadB (by infer_instance) (by rfl) (by infer_instance) (by rfl) (by rfl)) ?_
      refine Run.go ?_
      refine op_callv Fun52 (vs := [.int .i64 (k : Int)]) (by rfl) (of h' le k k1 hlt) (.refl ([] ++ O)) (by rfl) ?_
      rintro u A' h'' le2 ⟨rfl, rfl⟩
      refine Run.go ?_
      refine op_buildSlice (by infer_instance) (by infer_instance) (by rfl) (by rfl) (by rfl) (by rfl) fun b => ?_
      refine Run.go ?_
      refine op_append (ys := [val k]) (R := [(b, .cells [Value.int .i64 (val k)].toArray 3 (0, 0))]) (by rfl) (by rfl) (by infer_instance) (by infer_instance) (by rfl) gr (List.perm_append_singleton _ _).symm rfl (src_own (by infer_instance)) (by simp [intF, allOne]; rfl) (by simp; omega) (by simp; omega) fun v' A' gr' => ?_
      refine so_drop (O' := A') (List.sublist_append_left _ _) ?_
      refine Run.go ?_
      have hw : IntKind.i64.wrap ((k : Int) + 1) = ((k + 1 : Nat) : Int) := by rw [IntKind.wrap_i64]; omega
      have hr : List.range' (st 2) (k + 1 - st 2) = List.range' (st 2) (k - st 2) ++ [k] := by
        rw [show k + 1 - st 2 = (k - st 2) + 1 by omega, List.range'_1_concat, show st 2 + (k - st 2) = k by omega]
      refine ⟨k + 1, wl bS bC bO bCh v' (k + 1), by simp only [Nat.reduceAdd]; omega, ⟨rfl, rfl, rfl, rfl, rfl, ?_, trivial⟩, by omega, by simp only [Nat.reduceAdd]; omega, v', rfl, ?_⟩
      · rw [← hw]; rfl
      · rw [hr, List.map_append]; exact gr'
    · have hge : k = st 3 := by
        have : ¬ (k < st 3) := by simpa using h1
        simp only [Nat.reduceAdd] at k2
        omega
      subst hge
      refine so_exit ?_
      exact ⟨rfl, v, ⟨rfl, rfl, rfl, trivial⟩, gr⟩
  · refine so_seq ?_
    refine so_seq ?_
    refine so_reg ?_
    refine so_q (q_move (by rfl)) ?_
    refine so_q (q_loadB (by infer_instance) (by rfl) (by infer_instance) (by rfl) (by rfl)) ?_
    refine Run.go ?_
    refine so_q (q_indexP (by infer_instance) (by infer_instance) (by rfl) (by rfl) (by decide) (by decide)) ?_
    refine so_q (q_loadB (by infer_instance) (by rfl) (by infer_instance) (by rfl) (by rfl)) ?_
    refine Run.go ?_
    refine so_cond rfl (fun h1 => ?_) (fun h1 => ?_)
    · have hlt : k < st 4 := by simpa using h1
      refine Run.go ?_
      refine so_q (q_loadB (by infer_instance) (by rfl) (by infer_instance) (by rfl) (by rfl)) ?_
      refine Run.go ?_
      refine op_callv Fun52 (vs := [.int .i64 (k : Int)]) (by rfl) (of h' le k k1 hlt) (.refl ([] ++ O)) (by rfl) ?_
      rintro u A' h'' le2 ⟨rfl, rfl⟩
      refine Run.go ?_
      refine op_buildSlice (by infer_instance) (by infer_instance) (by rfl) (by rfl) (by rfl) (by rfl) fun b => ?_
      refine Run.go ?_
      refine op_append (ys := [val k]) (R := [(b, .cells [Value.int .i64 (val k)].toArray 3 (0, 0))]) (by rfl) (by rfl) (by infer_instance) (by infer_instance) (by rfl) gr (List.perm_append_singleton _ _).symm rfl (src_own (by infer_instance)) (by simp [intF, allOne]; rfl) (by simp; omega) (by simp; omega) fun v' A' gr' => ?_
      refine so_drop (O' := A') (List.sublist_append_left _ _) ?_
      refine Run.go ?_
      have hw : IntKind.i64.wrap ((k : Int) + 1) = ((k + 1 : Nat) : Int) := by rw [IntKind.wrap_i64]; omega
      have hr : List.range' (st 3) (k + 1 - st 3) = List.range' (st 3) (k - st 3) ++ [k] := by
        rw [show k + 1 - st 3 = (k - st 3) + 1 by omega, List.range'_1_concat, show st 3 + (k - st 3) = k by omega]
      refine ⟨k + 1, wl bS bC bO bCh v' (k + 1), by simp only [Nat.reduceAdd]; omega, ⟨rfl, rfl, rfl, rfl, rfl, ?_, trivial⟩, by omega, by simp only [Nat.reduceAdd]; omega, v', rfl, ?_⟩
      · rw [← hw]; rfl
      · rw [hr, List.map_append]; exact gr'
    · have hge : k = st 4 := by
        have : ¬ (k < st 4) := by simpa using h1
        simp only [Nat.reduceAdd] at k2
        omega
      subst hge
      refine so_exit ?_
      exact ⟨rfl, v, ⟨rfl, rfl, rfl, trivial⟩, gr⟩
end
end Go.Proofs.YtcpkcmgjfcbnpaaGreat
namespace Go.Proofs.YtcpkcmgjfcbnpaaGreat
open Go Go.Sl Go.Conc Go.Conc.Lib
set_option maxRecDepth 100000
theorem gr_at {A : Own} {v : Value} {T : TypeId} {α : Type} {E : Flat α} {xs : List α} (g : Gr A v T E xs) (hs : xs.length ≤ 281474976710656) {S : PHeap} (h : ∀ b o, (b, o) ∈ A → S.obj b = some o) : Sl S v E xs := by
  rcases g.at' with ⟨rfl, rfl, rfl⟩ | ⟨b, cap, sp, rfl, rfl, h1, h2⟩
  · exact Sl.nil _ _
  · refine ⟨hs, .inr ⟨cap, rfl, h2, ?_⟩⟩
    refine cells_flat (fun j v e => ?_)
    rw [add_none]
    have e0 := h b _ (List.mem_singleton.2 rfl)
    simp only [vo, vb]
    rw [cell_of e0]
    have hj : j < (xs.flatMap E.f).length := by
      rcases Nat.lt_or_ge j (xs.flatMap E.f).length with h | h
      · exact h
      · rw [List.getElem?_eq_none h] at e; cases e
    simp only [Nat.zero_add, List.getElem?_toArray]
    rw [List.getElem?_append_left hj]; exact e
def RowI (st : Nat → Nat) (val : Nat → Int) (i : Nat) (v : Value) (S : PHeap) : Prop := ∃ sl, v = .agg #[.int .i64 (i : Int), sl] ∧ Sl S sl intF ((List.range' (st i) (st (i + 1) - st i)).map val)
theorem RowI.mono {st : Nat → Nat} {val : Nat → Int} : ∀ i v (h h' : PHeap), (∀ b o, h.obj b = some o → h'.obj b = some o) → RowI st val i v h → RowI st val i v h' := fun i v h h' l ⟨sl, e, s⟩ => ⟨sl, e, s.sub l⟩
noncomputable abbrev FI (W : World) (RR : Value → Prop) (Wg Ch : Nat) (H0 : PHeap) (st : Nat → Nat) (val : Nat → Int) : Fk := mkFk Tryz.prog W RR Wg Ch 198 3 H0 (RowI st val) RowI.mono
instance {W : World} {RR : Value → Prop} {Wg Ch : Nat} {H0 : PHeap} {st : Nat → Nat} {val : Nat → Int} {i C : Nat} {v : Value} : IsCl Tryz.prog (· = JW (FI W RR Wg Ch H0 st val) i C v) := inferInstanceAs (IsCl (FI W RR Wg Ch H0 st val).P _)
noncomputable def body52 : Code := match Tryz.f126.body with | some c => c | _ => .skip
noncomputable def tail52 : Code := match Tryz.f126.body with | some (.seq _ c) => c | _ => .skip
section
variable {W : World} {RR : Value → Prop} {Wg Ch : Nat} {H0 : PHeap} {st : Nat → Nat} {val : Nat → Int}
attribute [local irreducible] Go.Code.so soOps Opq opo retO Go.Code.sl slOps slList opv
theorem tail52_jw (B : PHeap) (bS bC bO bCh : Nat) (fn : FuncId) (Fun52 : Fun Tryz.prog fn) (first cap : Array Value) (j : Nat) (hj : j < 4) (s4 : ∀ i, i < 5 → st i ≤ 1048576) (mono : st j ≤ st (j + 1)) (hgh : B.gh = [0]) (hsub : ∀ b o, H0.obj b = some o → B.obj b = some o)
    (hS : BAt B bS (.cells #[.int .i64 (st 0), .int .i64 (st 1), .int .i64 (st 2), .int .i64 (st 3), .int .i64 (st 4)] 187 (0, 0)))
    (hC : BAt B bC (.cells #[.int .i64 j] 3 (0, 0))) (hO : BAt B bO (.cells #[.func (.func fn) first cap] 60 (0, 0))) (hCh : BAt B bCh (.cells #[.chan (some Ch)] 189 (0, 0)))
    (of : ∀ (M : Jdg → Prop) [IsCl Tryz.prog M] (B' : PHeap), Le B B' → ∀ k, st j ≤ k → k < st (j + 1) → CallsR Tryz.prog M fn (first.toList ++ [.int .i64 (k : Int)] ++ cap.toList) B' fun v _ => v = .int .i64 (val k)) :
    tail52.sl Tryz.prog (· = JW (FI W RR Wg Ch H0 st val) j bC (.int .i64 j)) 28 (fun e _ h' => match e with | .nrm => h'.gh = [1] | _ => False) [(0, .pointer (some ⟨Wg, 0, none⟩)), (1, .pointer (some ⟨bS, 0, none⟩)), (2, .pointer (some ⟨bC, 0, none⟩)), (3, .pointer (some ⟨bO, 0, none⟩)), (4, .pointer (some ⟨bCh, 0, none⟩))] B := by
  have e0 : tail52 = .seq (match tail52 with | .seq a _ => a | _ => .skip) (.seq (.seq (match tail52 with | .seq _ (.seq (.seq a _) _) => a | _ => .skip) loop52) (match tail52 with | .seq _ (.seq _ a) => a | _ => .skip)) := rfl
  rw [e0]
  simp only [tail52, Tryz.f126]
  refine sl_seq ?_
  refine sl_reg ?_
  refine l_q (fun _ _ => o_assign (by rfl)) ?_
  refine l_nil ?_
  refine sl_seq ?_
  refine sl_seq ?_
  refine sl_reg ?_
  refine l_q (fun _ _ => o_loadB (by rfl) hC.at' (by rfl) (by rfl)) ?_
  have hcs : takeCells #[.int .i64 (st 0), .int .i64 (st 1), .int .i64 (st 2), .int .i64 (st 3), .int .i64 (st 4)] (0 + (j : Int).toNat * 1) 1 = some [.int .i64 (st j)] := by
    obtain rfl | rfl | rfl | rfl : j = 0 ∨ j = 1 ∨ j = 2 ∨ j = 3 := by omega
    all_goals rfl
  refine l_q (fun _ _ => o_indexAddrA (by rfl) (by rfl) (by omega) (by omega)) ?_
  refine l_q (fun _ _ => o_loadB (by rfl) hS.at' hcs (by rfl)) ?_
  refine l_q (fun _ _ => o_assign (by rfl)) ?_
  refine l_nil ?_
  refine sl_of_so (worker_loop B Wg bS bC bO bCh st fn Fun52 first cap val j hj s4 mono hS hC hO (of _) _ ⟨rfl, rfl, rfl, rfl, rfl, rfl, trivial⟩) (PHeap.le_refl _) rfl ?_
  rintro e L' A h' H' le ⟨rfl, v, ⟨g2, g4, g5, _⟩, gr⟩ rel
  have hB : ∀ b o, B.obj b = some o → H'.obj b = some o := fun b o e => (rel.base b o (le.le b o e).1).1
  refine sl_reg ?_
  refine l_q (fun _ _ => o_loadB g4 (hB _ _ hCh.at') (by rfl) (by rfl)) ?_
  refine l_q (fun _ _ => o_loadB (off := 0) (by first | exact g2 | (show Locals.get _ 2 = _; exact g2)) (hB _ _ hC.at') (by rfl) (by rfl)) ?_
  refine l_q (fun _ _ => o_move g5) ?_
  have hg' : H'.gh = [0] := (rel.gh.trans le.gh).trans hgh
  have hlen : ((List.range' (st j) (st (j + 1) - st j)).map val).length ≤ 281474976710656 := by
    have := s4 (j + 1) (by omega)
    simp; omega
  have hSl : Sl (beyond H0 (delb (ro H' [1]) bC)) v intF ((List.range' (st j) (st (j + 1) - st j)).map val) := gr_at gr hlen fun b o m => by
    obtain ⟨o1, o2, o3, o4⟩ := rel.own b o m
    have hn : H0.obj b = none := by
      cases z : H0.obj b with
      | none => rfl
      | some o => rw [(le.le b o (hsub b o z)).1] at o4; cases o4
    have hbC : b ≠ bC := fun z => by
      have := (le.le bC _ hC.at').1
      rw [← z, o4] at this; cases this
    simp only [beyond, hn, Option.isSome_none, Bool.false_eq_true, if_false, delb, ro, hbC]
    exact o1
  obtain ⟨ba, cp, rfl⟩ := hSl.val
  refine l_q (fun _ _ => o_build (by infer_instance) (by infer_instance) (by rfl) (by rfl)) ?_
  refine l_send (F := FI W RR Wg Ch H0 st val) (C := bC) (i := j) (v := .int .i64 j) hg' (hB _ _ hC.at') (by rfl) (by rfl) ?_ ?_
  · exact ⟨_, rfl, hSl⟩
  · exact l_nil rfl
end
section
variable {W : World} {RR : Value → Prop} {Wg Ch : Nat} {H0 : PHeap} {st : Nat → Nat} {val : Nat → Int}
theorem worker_jw (B : PHeap) (bS bC bO bCh : Nat) (fn : FuncId) (Fun52 : Fun Tryz.prog fn) (first cap : Array Value) (j : Nat) (hj : j < 4) (s4 : ∀ i, i < 5 → st i ≤ 1048576) (mono : st j ≤ st (j + 1)) (hgh : B.gh = [0]) (hsub : ∀ b o, H0.obj b = some o → B.obj b = some o)
    (hS : BAt B bS (.cells #[.int .i64 (st 0), .int .i64 (st 1), .int .i64 (st 2), .int .i64 (st 3), .int .i64 (st 4)] 187 (0, 0)))
    (hC : BAt B bC (.cells #[.int .i64 j] 3 (0, 0))) (hO : BAt B bO (.cells #[.func (.func fn) first cap] 60 (0, 0))) (hCh : BAt B bCh (.cells #[.chan (some Ch)] 189 (0, 0)))
    (of : ∀ (M : Jdg → Prop) [IsCl Tryz.prog M] (B' : PHeap), Le B B' → ∀ k, st j ≤ k → k < st (j + 1) → CallsR Tryz.prog M fn (first.toList ++ [.int .i64 (k : Int)] ++ cap.toList) B' fun v _ => v = .int .i64 (val k))
    (tm : Array Value) (ha : Agree 28 [(0, .pointer (some ⟨Wg, 0, none⟩)), (1, .pointer (some ⟨bS, 0, none⟩)), (2, .pointer (some ⟨bC, 0, none⟩)), (3, .pointer (some ⟨bO, 0, none⟩)), (4, .pointer (some ⟨bCh, 0, none⟩))] tm) :
    JW (FI W RR Wg Ch H0 st val) j bC (.int .i64 j) B (G ((baseD 126).at ⟨tm, []⟩ [.code body52]) [bot Tryz.prog]) := by
  have Qu : ∀ {g g' : Goroutine} {h : PHeap}, g.status = .running → (∀ main w, stepG Tryz.prog main g w = .go g' w) → JW (FI W RR Wg Ch H0 st val) j bC (.int .i64 j) h g' → JW (FI W RR Wg Ch H0 st val) j bC (.int .i64 j) h g := fun {g g' h} hr hs x => quiet (P := Tryz.prog) (M := (· = JW (FI W RR Wg Ch H0 st val) j bC (.int .i64 j))) rfl hr hs x
  have e0 : body52 = .seq (match body52 with | .seq a _ => a | _ => .skip) tail52 := rfl
  have e1 : (match body52 with | .seq a _ => a | _ => .skip) = Code.region 0 #[⟨none, .defer { callee := .value (.func 127), args := #[.tmp 0], argTypes := #[198] }, 0, "l12_pic.go:29", #[], none⟩] false := rfl
  rw [e0, e1]
  refine Qu rfl (fun _ _ => stepG_seq) ?_
  refine Qu rfl (fun _ _ => stepG_region) ?_
  refine Qu rfl (fun _ _ => stepG_defer (o := ⟨none, .defer { callee := .value (.func 127), args := #[.tmp 0], argTypes := #[198] }, 0, "l12_pic.go:29", #[], none⟩) rfl rfl (by simp [baseD]) rfl) ?_
  refine Qu rfl (fun _ _ => stepG_region_end) ?_
  have hd : (#[Operand.tmp 0] : Array Operand).map (Act.mk tm []).eval = #[.pointer (some ⟨Wg, 0, none⟩)] := by simp [Agree.ev (a := ⟨tm, []⟩) ha (o := .tmp 0) rfl]
  simp only [hd, Act.put]
  refine sl_app (tail52_jw B bS bC bO bCh fn Fun52 first cap j hj s4 mono hgh hsub hS hC hO hCh of) rfl (baseD 126) [] [bot Tryz.prog] [dcall 127 #[.pointer (some ⟨Wg, 0, none⟩)]] tm (by simp [baseD]) ha (ends_nrm fun L1 h1 tm1 q1 ha1 => ?_)
  refine Qu rfl (fun _ _ => stepG_end) ?_
  exact jw_out (F := FI W RR Wg Ch H0 st val) (Wl := wgLink) wgLib rfl Tryz.func126 rfl q1
end
noncomputable def fork43 : Code := match Tryz.f103.body with | some (.seq _ (.seq _ (.seq _ (.seq _ (.seq c _))))) => c | _ => .skip
noncomputable def join43 : Code := match Tryz.f103.body with | some (.seq _ (.seq _ (.seq _ (.seq _ (.seq _ (.seq c _)))))) => c | _ => .skip
instance {W : World} {RR : Value → Prop} {Wg Ch : Nat} {H0 : PHeap} {st : Nat → Nat} {val : Nat → Int} : IsCl Tryz.prog (· = JM (FI W RR Wg Ch H0 st val)) := inferInstanceAs (IsCl (FI W RR Wg Ch H0 st val).P _)
abbrev ml (bO bS bCh Wg j : Nat) : Locals := [(3, .pointer (some ⟨bO, 0, none⟩)), (5, .pointer (some ⟨bS, 0, none⟩)), (6, .pointer (some ⟨bCh, 0, none⟩)), (7, .pointer (some ⟨Wg, 0, none⟩)), (17, .int .i64 (j : Int))]
section
variable {W : World} {RR : Value → Prop} {Wg Ch : Nat} {H0 : PHeap} {st : Nat → Nat} {val : Nat → Int}
attribute [local irreducible] Go.Code.sl slOps slList opv
theorem join43_jm (bO bS bCh : Nat) (h : PHeap) (hgh : h.gh = [0, 4]) (K : Locals → PHeap → Prop) (L : Locals) (hL : Locals.sub (ml bO bS bCh Wg 4) L) (hK : ∀ v, K (setL (some 23) v L) (stay h [10])) :
    join43.sl Tryz.prog (· = JM (FI W RR Wg Ch H0 st val)) 43 (fun e L' h' => match e with | .nrm => K L' h' | _ => False) L h := by
  simp only [join43, Tryz.f103]
  refine sl_reg ?_
  refine l_call (F := FI W RR Wg Ch H0 st val) wgLib.f_wait rfl rfl (vs := [.pointer (some ⟨Wg, 0, none⟩)]) (by show evAll L [.tmp 7] = _; simp only [evAll, ev, hL.2.2.2.1]) (wait_jm (F := FI W RR Wg Ch H0 st val) wgLib hgh) ?_
  rintro v _ rfl
  exact l_nil (hK v)
end
section
variable {W : World} {RR : Value → Prop} {Wg Ch : Nat} {H0 : PHeap} {st : Nat → Nat} {val : Nat → Int}
attribute [local irreducible] Go.Code.sl slOps slList opv
theorem fork43_jm (bS bO bCh : Nat) (fn : FuncId) (Fun52 : Fun Tryz.prog fn) (first cap : Array Value) (s4 : ∀ i, i < 5 → st i ≤ 1048576) (mono : ∀ j, j < 4 → st j ≤ st (j + 1))
    (hS : H0.obj bS = some (.cells #[.int .i64 (st 0), .int .i64 (st 1), .int .i64 (st 2), .int .i64 (st 3), .int .i64 (st 4)] 187 (0, 0))) (hO : H0.obj bO = some (.cells #[.func (.func fn) first cap] 60 (0, 0))) (hCh : H0.obj bCh = some (.cells #[.chan (some Ch)] 189 (0, 0)))
    (of : ∀ (M : Jdg → Prop) [IsCl Tryz.prog M] (B' : PHeap), (∀ b o, H0.obj b = some o → B'.obj b = some o) → ∀ k, k < st 4 → CallsR Tryz.prog M fn (first.toList ++ [.int .i64 (k : Int)] ++ cap.toList) B' fun v _ => v = .int .i64 (val k)) (m4 : ∀ j, j < 4 → st (j + 1) ≤ st 4) (h : PHeap) (hgh : h.gh = [0, 0]) (ro0 : ∀ b o, H0.obj b = some o → h.obj b = some o ∧ h.wr b = false) (L : Locals)
    (hL : Locals.sub [(3, .pointer (some ⟨bO, 0, none⟩)), (5, .pointer (some ⟨bS, 0, none⟩)), (6, .pointer (some ⟨bCh, 0, none⟩)), (7, .pointer (some ⟨Wg, 0, none⟩))] L) :
    fork43.sl Tryz.prog (· = JM (FI W RR Wg Ch H0 st val)) 43 (fun e L' h' => match e with | .nrm => h'.gh = [0, 4] ∧ (∀ b o, H0.obj b = some o → h'.obj b = some o ∧ h'.wr b = false) ∧ Locals.sub (ml bO bS bCh Wg 4) L' | _ => False) L h := by
  simp only [fork43, Tryz.f103]
  refine sl_seq ?_
  refine sl_reg ?_
  refine l_q (fun _ _ => o_move (by rfl)) ?_
  refine l_nil ?_
  refine sl_block ?_
  refine sl_loop (ι := Nat) (Lo := fun j => ml bO bS bCh Wg j) (A := fun j h' => j ≤ 4 ∧ h'.gh = [0, j] ∧ ∀ b o, H0.obj b = some o → h'.obj b = some o ∧ h'.wr b = false) (μ := fun j => 4 - j) 0 ⟨hL.1, hL.2.1, hL.2.2.1, hL.2.2.2.1, rfl, trivial⟩ ⟨by decide, hgh, ro0⟩ ?_
  rintro j h1 ⟨hj, hg1, ro1⟩
  refine sl_seq ?_
  refine sl_reg ?_
  refine l_q (x_num (by rfl) (by rfl) (by rfl)) ?_
  refine l_nil ?_
  refine sl_seq ?_
  refine sl_cond (by rfl) (fun c1 => ?_) (fun c1 => ?_)
  · have hlt : j < 4 := by
      have := of_decide_eq_true c1
      omega
    refine sl_skip ?_
    refine sl_seq ?_
    refine sl_block ?_
    refine sl_seq ?_
    refine sl_reg ?_
    refine l_q (fun _ _ => o_move (by rfl)) ?_
    refine l_plain rfl (by rfl) (o_alloc fun C hCn => ?_)
    refine l_plain rfl (by rfl) (o_store (v := .int .i64 (j : Int)) (b := C) (off := 0) (by rfl) (by rfl) (obj_put _ _ _) (wr_put _ _ _) (by rfl) (by show 1 ≤ 1; decide) (by rfl) ?_)
    refine l_nil ?_
    refine sl_seq ?_
    refine sl_reg ?_
    refine l_call (F := FI W RR Wg Ch H0 st val) wgLib.f_add rfl rfl (vs := [.pointer (some ⟨Wg, 0, none⟩), .int .i64 1]) (by rfl) (add_jm (F := FI W RR Wg Ch H0 st val) wgLib (j := j) hj hg1) ?_
    rintro v _ rfl
    refine l_nil ?_
    refine sl_reg ?_
    refine l_q (fun _ _ => o_makeFunc (vs := []) (us := [.pointer (some ⟨Wg, 0, none⟩), .pointer (some ⟨bS, 0, none⟩), .pointer (some ⟨C, 0, none⟩), .pointer (some ⟨bO, 0, none⟩), .pointer (some ⟨bCh, 0, none⟩)]) (by rfl) (by rfl)) ?_
    have hC0 : H0.obj C = none := by
      cases z : H0.obj C with
      | none => rfl
      | some o => rw [(ro1 C o z).1] at hCn; cases hCn
    have hne : ∀ b o, H0.obj b = some o → b ≠ C := fun b o z e => by rw [e, hC0] at z; cases z
    have hob : ∀ b o, H0.obj b = some o → (stay ((h1.put C (.cells (Value.int .i64 0).cells 3)).put C (.cells (setCells (Value.int .i64 0).cells 0 (Value.int .i64 (j : Int)).cells.toList) 3)) [3, j]).obj b = some o := fun b o z => by
      simp only [stay, PHeap.put, hne b o z, if_false]; exact (ro1 b o z).1
    refine l_go (F := FI W RR Wg Ch H0 st val) (vs := [.pointer (some ⟨Wg, 0, none⟩), .pointer (some ⟨bS, 0, none⟩), .pointer (some ⟨C, 0, none⟩), .pointer (some ⟨bO, 0, none⟩), .pointer (some ⟨bCh, 0, none⟩)]) (C := C) (v := .int .i64 (j : Int)) (j := j) (f := 126) (nf := 28) rfl hlt (by rfl) Tryz.func126 rfl rfl rfl (show 5 ≤ 28 by decide) ?_ ?_ hC0 (fun tm ha => ?_) ?_
    · simp [stay, PHeap.put]; exact ⟨rfl, rfl⟩
    · simp [stay, PHeap.put]
    · refine worker_jw (H0 := H0) (ro _ [0]) bS C bO bCh fn Fun52 first cap j hlt s4 (mono j hlt) rfl (fun b o z => hob b o z) ⟨hob _ _ hS⟩ ⟨?_⟩ ⟨hob _ _ hO⟩ ⟨hob _ _ hCh⟩ (fun M _ B' le k k1 k2 => of M B' (fun b o z => (le.le b o (hob b o z)).1) k (Nat.lt_of_lt_of_le k2 (m4 j hlt))) tm ha
      simp [ro, stay, PHeap.put]; rfl
    · refine l_nil ?_
      refine sl_reg ?_
      refine l_q (x_num (by rfl) (by rfl) (by rfl)) ?_
      refine l_q (fun _ _ => o_move (by rfl)) ?_
      refine l_nil ?_
      have hw : IntKind.i64.wrap ((j : Int) + 1) = ((j + 1 : Nat) : Int) := by rw [IntKind.wrap_i64]; omega
      refine ⟨j + 1, by show 4 - (j + 1) < 4 - j; omega, ⟨rfl, rfl, rfl, rfl, ?_, trivial⟩, by omega, rfl, fun b o z => ⟨?_, rfl⟩⟩
      · rw [← hw]; rfl
      · simp only [delb, hne b o z, if_false]; exact hob b o z
  · have : j = 4 := by
      have := of_decide_eq_false c1
      omega
    subst this
    refine sl_exit ?_
    exact ⟨hg1, ro1, ⟨rfl, rfl, rfl, rfl, rfl, trivial⟩⟩
end
end Go.Proofs.YtcpkcmgjfcbnpaaGreat
namespace Go.Proofs.YtcpkcmgjfcbnpaaGreat
open Go Go.Sl
set_option maxRecDepth 100000
set_option maxHeartbeats 4000000
attribute [local irreducible] Go.Code.sf sfOps Opq opo retF Do1 anyO
variable {M : Jdg → Prop} [IsCl Tryz.prog M]
theorem gridRows_v (h : PHeap) (ca : List Value) (g : Grid) (b : (gridR τ).B h ca g) (hw : 0 < g.wide) : CallV Tryz.prog M 51 [.agg ca.toArray] h (.int .i64 ((g.cells.length : Int) / g.wide)) := by
  obtain ⟨c, rfl, s⟩ := gridB b
  have o1 := s.one
  have hs := s.small
  refine Cs Tryz.func51 Tryz.ntmps51 ?_
  repeat first | refine R1 ?_ | refine R2 fun _ => ?_
  exact sf_ret (rV rfl)
theorem sideStarts_v (h : PHeap) (ca : List Value) (g : Grid) (b : (gridR τ).B h ca g) (w r : Nat) (hw : g.wide = w) (h1 : 1 ≤ w) (h5 : w ≤ 5) (hr : (g.cells.length : Int) / g.wide = r) (hr5 : r ≤ 5) : CallV Tryz.prog M 124 [.agg ca.toArray] h (.agg #[.int .i64 (stOf w r 0 : Nat), .int .i64 (stOf w r 1 : Nat), .int .i64 (stOf w r 2 : Nat), .int .i64 (stOf w r 3 : Nat), .int .i64 (stOf w r 4 : Nat)]) := by
  obtain ⟨c, rfl, s⟩ := gridB b
  have o1 := s.one
  refine Cs Tryz.func124 Tryz.ntmps124 ?_
  repeat first | refine R1 ?_ | refine R2 fun _ => ?_
  refine Xv (gridRows_v _ _ g b (by omega)) ?_
  rw [hr]
  obtain ⟨gw, gc⟩ := g
  simp only at hw hr
  subst hw
  repeat first | refine R1 ?_ | refine R2 fun _ => ?_
  refine sf_ret (rV ?_)
  simp only [stOf, IntKind.wrap_i64, Value.agg.injEq]
  simp
  omega
noncomputable def tail43 : Code := match Tryz.f103.body with | some (.seq _ (.seq _ (.seq _ (.seq _ c)))) => c | _ => .skip
noncomputable def rest43 : Code := match Tryz.f103.body with | some (.seq _ (.seq _ (.seq _ (.seq _ (.seq _ (.seq _ c)))))) => c | _ => .skip
theorem hide4 {P : Program} {M : Jdg → Prop} {n : Nat} {Q : Qf} {L : Locals} {O : Own} {h : PHeap} {c0 c1 c2 c3 t t' : Code} (e : t' = t) (x : (Code.seq c0 (.seq c1 (.seq c2 (.seq c3 t')))).sf P M n Q L O h) : (Code.seq c0 (.seq c1 (.seq c2 (.seq c3 t)))).sf P M n Q L O h := e ▸ x
def SideI (h : PHeap) (w r : Nat) (val : Nat → Int) (i : Nat) (v : Value) : Prop := Sl h v intF ((List.range' (stOf w r i) (stOf w r (i + 1) - stOf w r i)).map val)
theorem sidesInt_f [al : Alone Tryz.prog M] (h : PHeap) (ca : List Value) (g : Grid) (b : (gridR τ).B h ca g) (w r : Nat) (hw : g.wide = w) (h1 : 1 ≤ w) (h5 : w ≤ 5) (hr : (g.cells.length : Int) / g.wide = r) (hr5 : r ≤ 5) (fn : FuncId) [Fu : Fun Tryz.prog fn] (first cap : Array Value) (val : Nat → Int)
    (of : ∀ (M : Jdg → Prop) [IsCl Tryz.prog M] (h' : PHeap), (∀ b o, h.obj b = some o → h'.obj b = some o) → ∀ k, k < stOf w r 4 → CallV Tryz.prog M fn (first.toList ++ [.int .i64 (k : Int)] ++ cap.toList) h' (.int .i64 (val k))) :
    CallF Tryz.prog M 103 [.agg ca.toArray, .func (.func fn) first cap] [] h fun v A => Gr A v 3 intF ((List.range (stOf w r 4)).map val) := by
  obtain ⟨W, RR, rfl⟩ := al.is
  have b0 := b
  obtain ⟨c, rfl, s⟩ := gridB b
  have o1 := s.one
  refine Cs Tryz.func103 Tryz.ntmps103 ?_
  obtain ⟨t', et⟩ : ∃ t', t' = tail43 := ⟨_, rfl⟩
  refine hide4 (et.trans rfl) ?_
  repeat first | refine R1 ?_ | refine R2 fun _ => ?_
  refine Xv (sideStarts_v _ _ g b0 w r hw h1 h5 hr hr5) ?_
  repeat first | refine R1 ?_ | refine R2 fun _ => ?_
  refine f_makeChan (by rfl) (by rfl) fun Ch => ?_
  repeat first | refine R1 ?_ | refine R2 fun _ => ?_
  rename_i b2 b3 b5 b6 b7
  subst et
  show (Code.seq fork43 (Code.seq join43 rest43)).sf _ _ _ _ _ _ _
  refine sf_fork (Wg := b7) (Ch := Ch) (ty := 198) (it := 3) (RowI (stOf w r) val) RowI.mono (fun L' => Locals.sub (ml b3 b5 b6 b7 4) L') (R := [(b6, .cells #[.chan (some Ch)] 189), (b5, .cells #[.int .i64 (stOf w r 0 : Nat), .int .i64 (stOf w r 1 : Nat), .int .i64 (stOf w r 2 : Nat), .int .i64 (stOf w r 3 : Nat), .int .i64 (stOf w r 4 : Nat)] 187), (b3, .cells #[.func (.func fn) first cap] 60), (b2, .cells #[.int .i64 g.wide, c] 25)]) ?_ (fun H0 hle hR hWg hCh => ?_) fun L' h2 rows hle hL hp hrow => ?_
  · exact (List.Perm.refl _).cons _ |>.trans ((List.Perm.swap _ _ _).cons _)
  · refine sl_mono (fork43_jm (Wg := b7) (Ch := Ch) (H0 := H0) (W := W) (RR := RR) (st := stOf w r) (val := val) b5 b3 b6 fn Fu first cap (fun i _ => Nat.le_trans (stOf_le h5 hr5 i) (by decide)) (stOf_mono) (hR _ _ (by simp)) (hR _ _ (by simp)) (hR _ _ (by simp)) (fun M _ B' hB k hk => callsR_of (of M B' (fun b o z => hB b o (hle b o z).1) k hk)) ?_ (ro H0 [0, 0]) rfl (fun b o z => ⟨z, rfl⟩) _ ⟨rfl, rfl, rfl, rfl, trivial⟩) ?_
    · intro j hj
      obtain rfl | rfl | rfl | rfl : j = 0 ∨ j = 1 ∨ j = 2 ∨ j = 3 := by omega
      all_goals simp only [stOf]; omega
    · rintro e L1 h1' q
      cases e with
      | nrm =>
        obtain ⟨q1, q2, q3⟩ := q
        exact join43_jm b3 b5 b6 h1' q1 (fun L' h' => h'.gh = [10] ∧ (∀ b o, H0.obj b = some o → h'.obj b = some o ∧ h'.wr b = false) ∧ Locals.sub (ml b3 b5 b6 b7 4) L') L1 q3 fun v => ⟨rfl, fun b o z => q2 b o z, ⟨q3.1, q3.2.1, q3.2.2.1, q3.2.2.2.1, q3.2.2.2.2.1, trivial⟩⟩
      | _ => exact q.elim
  · simp only [rest43]
    refine sf_sub (ml b3 b5 b6 b7 4) hL ?_
    repeat first | refine R1 ?_ | refine R2 fun _ => ?_
    refine f_close (by rfl) ?_
    repeat first | refine R1 ?_ | refine R2 fun _ => ?_
    rename_i b9
    refine sf_lp (ι := List (Nat × Value) × Value × Value × Value × Value) [9, 25] (fun _ => []) (fun x O => ∃ rc, O = [(b9, .cells #[x.2.1, x.2.2.1, x.2.2.2.1, x.2.2.2.2] 202), (Ch, .chan 4 (x.1.map Prod.snd).toArray true 4 rc false)] ∧ (∀ p ∈ x.1, p.1 < 4 ∧ RowI (stOf w r) val p.1 p.2 h2) ∧ (Sl.One x.2.1 ∧ Sl.One x.2.2.1 ∧ Sl.One x.2.2.2.1 ∧ Sl.One x.2.2.2.2) ∧ (0 ∈ x.1.map Prod.fst ∨ SideI h2 w r val 0 x.2.1) ∧ (1 ∈ x.1.map Prod.fst ∨ SideI h2 w r val 1 x.2.2.1) ∧ (2 ∈ x.1.map Prod.fst ∨ SideI h2 w r val 2 x.2.2.2.1) ∧ (3 ∈ x.1.map Prod.fst ∨ SideI h2 w r val 3 x.2.2.2.2)) (fun x => x.1.length) (rows, .slice none 0 0, .slice none 0 0, .slice none 0 0, .slice none 0 0) [(b9, .cells #[.slice none 0 0, .slice none 0 0, .slice none 0 0, .slice none 0 0] 202), (Ch, .chan 4 (rows.map Prod.snd).toArray true 4 0 false)] ⟨0, rfl, fun p hp' => ⟨?_, hrow p hp'⟩, ⟨inferInstance, inferInstance, inferInstance, inferInstance⟩, .inl ?_, .inl ?_, .inl ?_, .inl ?_⟩ ?_
    · have := hp.mem_iff.1 (List.mem_map.2 ⟨p, hp', rfl⟩)
      simp at this; omega
    · exact hp.mem_iff.2 (by simp)
    · exact hp.mem_iff.2 (by simp)
    · exact hp.mem_iff.2 (by simp)
    · exact hp.mem_iff.2 (by simp)
    clear hrow hp hL hle b b0 of
    rintro ⟨rs, v0, v1, v2, v3⟩ O ⟨rc, rfl, hrow, ⟨p0, p1, p2, p3⟩, s0, s1, s2, s3⟩
    simp only at hrow p0 p1 p2 p3 s0 s1 s2 s3 ⊢
    match rs, hrow, s0, s1, s2, s3 with
    | [], hrow, s0, s1, s2, s3 =>
      simp only [List.map_nil, List.not_mem_nil, false_or] at s0 s1 s2 s3 ⊢
      repeat first | refine R1 ?_ | refine R2 fun _ => ?_
      refine f_shut (by rfl) ?_
      repeat first | refine R1 ?_ | refine R2 fun _ => ?_
      refine sf_cond (by rfl) (fun e => by cases e) fun _ => ?_
      refine sf_exit ?_
      repeat first | refine R1 ?_ | refine R2 fun _ => ?_
      have t0 := stOf_le (w := w) (r := r) h5 hr5 0
      have t1 := stOf_le (w := w) (r := r) h5 hr5 1
      have t2 := stOf_le (w := w) (r := r) h5 hr5 2
      have t3 := stOf_le (w := w) (r := r) h5 hr5 3
      have t4 := stOf_le (w := w) (r := r) h5 hr5 4
      refine sf_lp (ι := Nat × Value) [34] (fun x => [(35, .int .i64 (x.1 : Int)), (11, x.2)]) (fun x O => x.1 ≤ 4 ∧ Gr O x.2 3 intF ((List.range (stOf w r x.1)).map val)) (fun x => 4 - x.1) (0, .slice none 0 0) [] ⟨by decide, by simpa [stOf] using Gr.nil _ _⟩ ?_
      rintro ⟨k, v⟩ O ⟨hk, g3⟩
      simp only at hk g3 ⊢
      have o5 := g3.one
      repeat first | refine R1 ?_ | refine R2 fun _ => ?_
      refine sf_if (fun h4 => ?_) fun h4 => ?_
      · have hk4 : k = 0 ∨ k = 1 ∨ k = 2 ∨ k = 3 := by omega
        have hrng : ∀ j, j < 4 → (List.range (stOf w r j)).map val ++ (List.range' (stOf w r j) (stOf w r (j + 1) - stOf w r j)).map val = (List.range (stOf w r (j + 1))).map val := fun j hj => by
          rw [← List.map_append]
          congr 1
          rw [List.range_eq_range', List.range_eq_range', show stOf w r (j + 1) = stOf w r j + (stOf w r (j + 1) - stOf w r j) by have := stOf_mono (w := w) (r := r) j hj; omega, ← List.range'_append_1]
          simp
        rcases hk4 with rfl | rfl | rfl | rfl
        · repeat first | refine R1 ?_ | refine R2 fun _ => ?_
          refine fp (Rq ?_ (q_index (by infer_instance) (by infer_instance) (by rfl) (by rfl) (by decide) (by decide) (by rfl)))
          repeat first | refine R1 ?_ | refine R2 fun _ => ?_
          refine Xs g3 s0 fun v' A' g4 => ?_
          repeat first | refine R1 ?_ | refine R2 fun _ => ?_
          exact ⟨(1, v'), by simp only; omega, ⟨rfl, rfl, trivial⟩, rfl, A', _, inferInstance, by simp only; omega, by rw [← hrng 0 (by decide)]; exact g4⟩
        · repeat first | refine R1 ?_ | refine R2 fun _ => ?_
          refine fp (Rq ?_ (q_index (by infer_instance) (by infer_instance) (by rfl) (by rfl) (by decide) (by decide) (by rfl)))
          repeat first | refine R1 ?_ | refine R2 fun _ => ?_
          refine Xs g3 s1 fun v' A' g4 => ?_
          repeat first | refine R1 ?_ | refine R2 fun _ => ?_
          exact ⟨(2, v'), by simp only; omega, ⟨rfl, rfl, trivial⟩, rfl, A', _, inferInstance, by simp only; omega, by rw [← hrng 1 (by decide)]; exact g4⟩
        · repeat first | refine R1 ?_ | refine R2 fun _ => ?_
          refine fp (Rq ?_ (q_index (by infer_instance) (by infer_instance) (by rfl) (by rfl) (by decide) (by decide) (by rfl)))
          repeat first | refine R1 ?_ | refine R2 fun _ => ?_
          refine Xs g3 s2 fun v' A' g4 => ?_
          repeat first | refine R1 ?_ | refine R2 fun _ => ?_
          exact ⟨(3, v'), by simp only; omega, ⟨rfl, rfl, trivial⟩, rfl, A', _, inferInstance, by simp only; omega, by rw [← hrng 2 (by decide)]; exact g4⟩
        · repeat first | refine R1 ?_ | refine R2 fun _ => ?_
          refine fp (Rq ?_ (q_index (by infer_instance) (by infer_instance) (by rfl) (by rfl) (by decide) (by decide) (by rfl)))
          repeat first | refine R1 ?_ | refine R2 fun _ => ?_
          refine Xs g3 s3 fun v' A' g4 => ?_
          repeat first | refine R1 ?_ | refine R2 fun _ => ?_
          exact ⟨(4, v'), by simp only; omega, ⟨rfl, rfl, trivial⟩, rfl, A', _, inferInstance, by simp only; omega, by rw [← hrng 3 (by decide)]; exact g4⟩
      · refine sf_exit ?_
        repeat first | refine R1 ?_ | refine R2 fun _ => ?_
        have : k = 4 := by omega
        subst this
        exact sf_ret (rO O g3)
    | (i, u) :: rs, hrow, s0, s1, s2, s3 =>
      have hh := hrow (i, u) (List.mem_cons_self ..)
      simp only [RowI] at hh
      obtain ⟨hi, sl, rfl, sl0⟩ := hh
      have ol := sl0.one
      have hrow' : ∀ p ∈ rs, p.1 < 4 ∧ RowI (stOf w r) val p.1 p.2 h2 := fun p hp => hrow p (List.mem_cons_of_mem _ hp)
      simp only [List.map_cons] at s0 s1 s2 s3 ⊢
      repeat first | refine R1 ?_ | refine R2 fun _ => ?_
      have hi' : i = 0 ∨ i = 1 ∨ i = 2 ∨ i = 3 := by omega
      refine f_recv (by rfl) ?_
      repeat first | refine R1 ?_ | refine R2 fun _ => ?_
      refine sf_T rfl ?_
      rcases hi' with rfl | rfl | rfl | rfl
      · repeat first | refine R1 ?_ | refine R2 fun _ => ?_
        exact ⟨(rs, sl, v1, v2, v3), by simp only [List.length_cons]; omega, trivial, rfl, _, _, inferInstance, rc + 1, rfl, hrow', ⟨ol, p1, p2, p3⟩, .inr sl0, by simpa using s1, by simpa using s2, by simpa using s3⟩
      · repeat first | refine R1 ?_ | refine R2 fun _ => ?_
        exact ⟨(rs, v0, sl, v2, v3), by simp only [List.length_cons]; omega, trivial, rfl, _, _, inferInstance, rc + 1, rfl, hrow', ⟨p0, ol, p2, p3⟩, by simpa using s0, .inr sl0, by simpa using s2, by simpa using s3⟩
      · repeat first | refine R1 ?_ | refine R2 fun _ => ?_
        exact ⟨(rs, v0, v1, sl, v3), by simp only [List.length_cons]; omega, trivial, rfl, _, _, inferInstance, rc + 1, rfl, hrow', ⟨p0, p1, ol, p3⟩, by simpa using s0, by simpa using s1, .inr sl0, by simpa using s3⟩
      · repeat first | refine R1 ?_ | refine R2 fun _ => ?_
        exact ⟨(rs, v0, v1, v2, sl), by simp only [List.length_cons]; omega, trivial, rfl, _, _, inferInstance, rc + 1, rfl, hrow', ⟨p0, p1, p2, ol⟩, by simpa using s0, by simpa using s1, by simpa using s2, .inr sl0⟩
theorem picOf1_v (h : PHeap) (c : Value) (g : Grid) (s : Sl h c cellF g.cells) (e : gridOk g = true) (b : Nat) [BAt h b (.cells #[.int .i64 g.wide, c] 25)] (k : Int) (hk : 0 ≤ k ∧ k < manyOf g) : CallV Tryz.prog M 104 [.int .i64 k, .pointer (some ⟨b, 0, none⟩)] h (.int .i64 (trailLight g k)) := by
  have o1 := s.one
  refine Cs Tryz.func104 Tryz.ntmps104 ?_
  refine Wo ?_
  refine Xv (trailLight_v h c g s e k hk) ?_
  refine Wo ?_
  exact sf_ret (rV rfl)
theorem picOf_f [al : Alone Tryz.prog M] (h : PHeap) (ca : List Value) (g : Grid) (b : (gridR τ).B h ca g) (e : gridOk g = true) : CallF Tryz.prog M 74 [.agg ca.toArray] [] h fun u A => Gr A u 3 intF (picOf g) := by
  obtain ⟨c, rfl, s⟩ := gridB b
  have o1 := s.one
  have kg := gok e
  have w1 := kg.w1; have w5 := kg.w5; have r1 := kg.r1; have r5 := kg.r5
  obtain ⟨ww, ew⟩ : ∃ ww : Nat, g.wide = ww := ⟨g.wide.toNat, by omega⟩
  obtain ⟨rr, er⟩ : ∃ rr : Nat, rowsOf g = rr := ⟨(rowsOf g).toNat, by omega⟩
  have hN : (manyOf g).toNat = stOf ww rr 4 := by
    simp only [stOf]; rw [manyOf, er, ew]; omega
  refine Cs Tryz.func74 Tryz.ntmps74 ?_
  repeat first | refine R1 ?_ | refine R2 fun _ => ?_
  refine Xv (gridOk_v _ _ g b) ?_
  rw [e]
  repeat first | refine R1 ?_ | refine R2 fun _ => ?_
  refine sf_cond (by rfl) (fun e => by cases e) fun z1 => ?_
  clear z1
  repeat first | refine R1 ?_ | refine R2 fun _ => ?_
  rename_i b1
  refine fp (y_lend [(b1, .cells #[.int .i64 g.wide, c] 25)] (fun h' l i => sidesInt_f h' _ g (gridB_mk (s.le l.le)) ww rr ew (by omega) (by omega) er (by omega) 104 #[] #[.pointer (some ⟨b1, 0, none⟩)] (fun k => trailLight g (k : Nat)) (fun M _ h'' sub k hk => ?_)) (by rfl) ?_)
  · haveI : BAt h'' b1 (.cells #[.int .i64 g.wide, c] 25) := ⟨sub _ _ (i.at' _ _ (by simp))⟩
    exact picOf1_v h'' c g ((s.le l.le).sub sub) e b1 k (by omega)
  intro v A gr
  rw [← hN] at gr
  repeat first | refine R1 ?_ | refine R2 fun _ => ?_
  exact sf_ret (rO A gr)
theorem trailFoot_f (h : PHeap) (c : Value) (g : Grid) (s : Sl h c cellF g.cells) (e : gridOk g = true) (k : Int) (hk : 0 ≤ k ∧ k < manyOf g) : CallF Tryz.prog M 75 [.agg #[.int .i64 g.wide, c], .int .i64 k] [] h fun u A => Gr A u 3 intF (footOf g k) := by
  have o1 := s.one
  have kg := gok e
  obtain ⟨sz, vs, es, hc, hg, hsz, hok⟩ := goLight_is kg hk.1 hk.2
  have hlv := hok.lv
  have hvs : ∀ v ∈ vs, 0 ≤ v.at' ∧ v.at' < g.cells.length := fun v hv => ⟨(hok.vs v hv).a0, (hok.vs v hv).a1⟩
  simp only at hlv
  refine Cs Tryz.func75 Tryz.ntmps75 ?_
  repeat first | refine R1 ?_ | refine R2 fun _ => ?_
  refine fp (y_call (trailOf_f h c g s e k hk) (by rfl) ?_)
  rintro _ _ ⟨vv, ev, AV, AE, rfl, rfl, gv, ge⟩
  rw [hg] at gv ge
  have ov := gv.one
  have oe := ge.one
  simp only at ge gv
  have hfoot : compactF (sortF (vs.map Visit.at')) = footOf g k := by rw [foot_sorted g vs hvs, footOf, hg]
  clear hc hg
  repeat first | refine R1 ?_ | refine R2 fun _ => ?_
  rename_i b2
  refine sf_lp (ι := Nat × Value) [11, 12] (fun x => [(5, x.2), (13, .int .i64 (x.1 : Int))]) (fun x O => x.1 ≤ vs.length ∧ ∃ A xs, O = A ++ (AV ++ (AE ++ [(b2, .cells #[.int .i64 g.wide, c] 25)])) ∧ xs = (vs.take x.1).map Visit.at' ∧ Gr A x.2 3 intF xs) (fun x => vs.length - x.1) (0, .slice none 0 0) ([] ++ (AV ++ (AE ++ [(b2, .cells #[.int .i64 g.wide, c] 25)]))) ⟨by simp only; omega, [], [], rfl, rfl, Gr.nil _ _⟩ ?_
  rintro ⟨j, w⟩ O ⟨hj, A, xs, rfl, hxs, gx⟩
  simp only at hj hxs gx ⊢
  have lx : xs.length = j := by rw [hxs]; simp; omega
  have ow := gx.one
  repeat first | refine R1 ?_ | refine R2 fun _ => ?_
  refine sf_if (fun e1 => ?_) fun e1 => ?_
  · have hj1 : j < vs.length := by omega
    repeat first | refine R1 ?_ | refine R2 fun _ => ?_
    rename_i b7
    refine Xb fun u Au gu => ?_
    repeat first | refine R1 ?_ | refine R2 fun _ => ?_
    refine Xa gx gu fun w2 A2 g2 => ?_
    repeat first | refine R1 ?_ | refine R2 fun _ => ?_
    exact ⟨(j + 1, w2), by simp only; omega, ⟨rfl, rfl, trivial⟩, rfl, A2 ++ (AV ++ (AE ++ [(b2, .cells #[.int .i64 g.wide, c] 25)])), _, inferInstance, by simp only; omega, A2, _, rfl, by simp only; rw [take_succ_gt hj1, List.map_append, ← hxs]; rfl, g2⟩
  · refine sf_exit ?_
    obtain rfl : j = vs.length := by omega
    rw [List.take_of_length_le (Nat.le_refl _)] at hxs
    repeat first | refine R1 ?_ | refine R2 fun _ => ?_
    refine fp (y_call (sort_f (M := M) _ w A xs gx (by omega)) (by rfl) ?_)
    rintro _ A2 ⟨rfl, g2⟩
    repeat first | refine R1 ?_ | refine R2 fun _ => ?_
    refine fp (y_call (compact_f (M := M) _ w A2 _ g2 (by rw [sortF_len]; omega)) (by rfl) ?_)
    intro w3 A3 g3
    repeat first | refine R1 ?_ | refine R2 fun _ => ?_
    refine sf_ret (rO A3 ?_)
    rw [← hfoot, ← hxs]; exact g3
instance : EqFl Tryz.prog 35 cellF := eqFl_cell inferInstance (inferInstance : Ty Tryz.prog 3 _ 1 _ _) (by kernel_rfl)
theorem cellsEqual_v (h : PHeap) (a b : Value) (xs ys : List Cell) (sx : Sl h a cellF xs) (sy : Sl h b cellF ys) : CallV Tryz.prog M 100 [a, b] h (.bool (decide (xs = ys))) := by
  have o1 := sx.one
  have o2 := sy.one
  have hx := sx.small
  have hy := sy.small
  refine Cs Tryz.func100 Tryz.ntmps100 ?_
  refine Wo ?_
  refine sf_if (fun e0 => ?_) fun e0 => ?_
  · refine Wo ?_
    exact sf_ret (rV (bF fun e => e0 (by rw [e])))
  have hl : xs.length = ys.length := by omega
  refine Wo ?_
  refine sf_rd [0, 1, 12] 13 xs.length 0 (fun k => xs.take k = ys.take k) (by omega) rfl (fun k hk hi => ?_)
  refine Wo ?_
  refine sf_if (fun h4 => ?_) fun h4 => ?_
  · have hk4 : k < xs.length := by omega
    have hk5 : k < ys.length := by omega
    refine Wo ?_
    refine Sd [[],[],[0,1],[0,1,2],[],[],[4,5],[4,5,6],[0,1,2,3,4,5,6,7]] 8 [Nn 0,Nn 1,Nn 2,Nn 3,Nn 4,Nn 5,Nn 6,Nn 7] ?_
    refine Da ?_
    refine Ae ?_
    refine fp (Rq ?_ (q_neqS (E := cellF) (a := gt xs k) (b := gt ys k) inferInstance (by rfl) (by rfl)))
    refine Wo ?_
    refine sf_ifn (fun e1 => ?_) fun e1 => ?_
    · refine Wo ?_
      exact sf_ret (rV (bF (eq_at e1)))
    · refine Wo ?_
      exact ⟨⟨hk4, eq_step hk4 hk5 hi e1⟩, rfl, rfl, _, inferInstance⟩
  · refine sf_exit ?_
    refine Wo ?_
    exact sf_ret (rV (bT (eq_end hl (by omega) hi)))
theorem equalFunc_v (h : PHeap) (a b : Value) (xs ys : List (List Int)) (sx : SlR (intSR τ) h a xs) (sy : SlR (intSR τ) h b ys) : CallV Tryz.prog M 71 [a, b, .func (.func 70) #[] #[]] h (.bool (decide (xs = ys))) := by
  have o1 := sx.one
  have o2 := sy.one
  obtain ⟨rx, sx, bx⟩ := sx
  obtain ⟨ry, sy, by'⟩ := sy
  have lx := bx.len
  have ly := by'.len
  have hx := sx.small
  have hy := sy.small
  refine Cs Tryz.func71 Tryz.ntmps71 ?_
  refine Wo ?_
  refine sf_if (fun e0 => ?_) fun e0 => ?_
  · refine Wo ?_
    exact sf_ret (rV (bF fun e => e0 (by rw [lx, ly, e])))
  have hl : xs.length = ys.length := by omega
  refine Wo ?_
  refine sf_rd [0, 1, 2, 15, 16] 17 xs.length 0 (fun k => xs.take k = ys.take k) (by omega) rfl (fun k hk hi => ?_)
  refine Wo ?_
  refine sf_if (fun h4 => ?_) fun h4 => ?_
  · have hk4 : k < xs.length := by omega
    have hk5 : k < ys.length := by omega
    have bx4 := bx.at hk4
    have by4 := by'.at hk5
    have hk6 : k < rx.length := by omega
    have hk7 : k < ry.length := by omega
    obtain ⟨vx, ex, sx4⟩ := bx4
    obtain ⟨vy, ey, sy4⟩ := by4
    haveI : FlatV (rawF (intSR τ).sz) (gt rx k) [vx] := ⟨ex⟩
    haveI : FlatV (rawF (intSR τ).sz) (gt ry k) [vy] := ⟨ey⟩
    have o3 := sx4.one
    have o4 := sy4.one
    refine Wo ?_
    refine fp (y_callCV (first := #[]) (captured := #[]) (vs := [vx, vy]) (by simpa using intsEqual_v (M := M) _ _ _ _ _ sx4 sy4) (by rfl) (by rfl) ?_)
    refine Wo ?_
    refine sf_ifn (fun e1 => ?_) fun e1 => ?_
    · refine Wo ?_
      exact sf_ret (rV (bF (eq_at e1)))
    · refine Wo ?_
      exact ⟨⟨hk4, eq_step hk4 hk5 hi (by exact e1)⟩, rfl, rfl, _, inferInstance⟩
  · refine sf_exit ?_
    refine Wo ?_
    exact sf_ret (rV (bT (eq_end hl (by omega) hi)))
theorem gridSame_v (h : PHeap) (ca cb : List Value) (x y : Grid) (bx : (gridR τ).B h ca x) (by' : (gridR τ).B h cb y) : CallV Tryz.prog M 69 [.agg ca.toArray, .agg cb.toArray] h (.bool (decide (x = y))) := by
  obtain ⟨c1, rfl, s1⟩ := gridB bx
  obtain ⟨c2, rfl, s2⟩ := gridB by'
  have o1 := s1.one
  have o2 := s2.one
  refine Cs Tryz.func69 Tryz.ntmps69 ?_
  repeat first | refine R1 ?_ | refine R2 fun _ => ?_
  refine f_split (fun e1 => ?_) fun e1 => ?_
  · repeat first | refine R1 ?_ | refine R2 fun _ => ?_
    refine Xv (cellsEqual_v _ _ _ _ _ s1 s2) ?_
    repeat first | refine R1 ?_ | refine R2 fun _ => ?_
    refine sf_ret (rV ?_)
    congr 1
    cases x; cases y; simp_all
  · repeat first | refine R1 ?_ | refine R2 fun _ => ?_
    refine sf_ret (rV ?_)
    congr 1
    cases x; cases y; simp_all
theorem sceneSame_v (h : PHeap) (ca cb : List Value) (x y : Scene) (bx : (sceneR τ).B h ca x) (by' : (sceneR τ).B h cb y) : CallV Tryz.prog M 44 [.agg ca.toArray, .agg cb.toArray] h (.bool (decide (x = y))) := by
  obtain ⟨c1, l1, f1, rfl, s1, t1, u1⟩ := sceneB bx
  obtain ⟨c2, l2, f2, rfl, s2, t2, u2⟩ := sceneB by'
  have o1 := s1.one
  have o2 := s2.one
  have o3 := t1.one
  have o4 := t2.one
  have o5 := u1.one
  have o6 := u2.one
  refine Cs Tryz.func44 Tryz.ntmps44 ?_
  repeat first | refine R1 ?_ | refine R2 fun _ => ?_
  refine Xv (gridSame_v _ _ _ x.grid y.grid (gridB_mk s1) (gridB_mk s2)) ?_
  repeat first | refine R1 ?_ | refine R2 fun _ => ?_
  refine f_split (fun e1 => ?_) fun e1 => ?_
  · repeat first | refine R1 ?_ | refine R2 fun _ => ?_
    refine Xv (intsEqual_v _ _ _ _ _ t1 t2) ?_
    repeat first | refine R1 ?_ | refine R2 fun _ => ?_
    refine f_split (fun e2 => ?_) fun e2 => ?_
    · repeat first | refine R1 ?_ | refine R2 fun _ => ?_
      refine Xv (equalFunc_v _ _ _ _ _ u1 u2) ?_
      repeat first | refine R1 ?_ | refine R2 fun _ => ?_
      refine sf_ret (rV ?_)
      congr 1
      cases x; cases y; simp_all
    · repeat first | refine R1 ?_ | refine R2 fun _ => ?_
      refine sf_ret (rV ?_)
      congr 1
      cases x; cases y; simp_all
  · repeat first | refine R1 ?_ | refine R2 fun _ => ?_
    refine sf_ret (rV ?_)
    congr 1
    cases x; cases y; simp_all
instance : ElemF Tryz.prog 26 (rawF (intSR τ).sz) := ⟨trivial⟩
theorem sceneOf_f [al : Alone Tryz.prog M] (h : PHeap) (ca : List Value) (g : Grid) (b : (gridR τ).B h ca g) (e : gridOk g = true) : CallF Tryz.prog M 46 [.agg ca.toArray] [] h fun u A => ∃ cs, u = .agg cs.toArray ∧ (sceneR τ).O A cs (sceneOf g) := by
  obtain ⟨c, rfl, s⟩ := gridB b
  have o1 := s.one
  have kg := gok e
  have hm := kg.many
  have hsm := kg.small
  obtain ⟨N, hN⟩ : ∃ N : Nat, manyOf g = N := ⟨(manyOf g).toNat, by omega⟩
  have hf : feetOf g = (List.range N).map fun k => footOf g (k : Nat) := by rw [feetOf, hN]; rfl
  refine Cs Tryz.func46 Tryz.ntmps46 ?_
  repeat first | refine R1 ?_ | refine R2 fun _ => ?_
  rename_i b1 b2
  apply viaT (G := ∀ (c2 p2 : Value) (AC AP : Own) (b3 : Nat), Gr AC c2 35 cellF g.cells → Gr AP p2 3 intF (picOf g) → _)
  · intro tail
    refine sf_draw (by kernel_rfl) (regX_split 1 5 (by rfl) (regX_split 3 5 (by rfl) ?_ ?_) ?_)
    case' refine_1 =>
      refine Sr [[],[0],[],[0,1,2],[0,1,2,3],[0,1,2,3],[0,1,2,3,4,5]] 6 [Nn 0,Nn 2,Yy 1,Yy 3,Nn 4,Yy 5] ?_
      refine Da ?_
      refine Yc (gridCopy_f _ _ g (gridB_mk s) (by omega)) ?_
      rintro _ AC ⟨_, rfl, q⟩
      obtain ⟨c2, rfl, g1, l1⟩ := gridO q
      have o5 := g1.one
      refine Da ?_
      refine Yc (picOf_f (M := M) _ _ g (gridB_mk s) e) ?_
      intro p2 AP gp
      have o6 := gp.one
      refine Da ?_
      refine Yl fun b3 => ?_
      refine Da ?_
      refine Ae ?_
      repeat first | refine R1 ?_ | refine R2 fun _ => ?_
      refine fops_keep [1, 2, 3, 10] ?_
      refine fops_own ((b3, .cells #[.int .i64 g.wide, c2, p2, .slice none 0 0] 29) :: (AC ++ (AP ++ [(b2, .cells #[.int .i64 0, .slice none 0 0, .slice none 0 0, .slice none 0 0] 29), (b1, .cells #[.int .i64 g.wide, c] 25)]))) ?_
      exact tail.out c2 p2 AC AP b3 g1 gp
    case' refine_2 =>
      refine Sr [[],[0],[],[0,1,2,5],[0,1,2,3,5],[0,1],[0,1,2,3,4,5]] 6 [Nn 0,Nn 2,Yy 1,Yy 5,Yy 3,Nn 4] ?_
      refine Da ?_
      refine Yc (gridCopy_f _ _ g (gridB_mk s) (by omega)) ?_
      rintro _ AC ⟨_, rfl, q⟩
      obtain ⟨c2, rfl, g1, l1⟩ := gridO q
      have o5 := g1.one
      refine Da ?_
      refine Yl fun b3 => ?_
      refine Da ?_
      refine Yc (picOf_f (M := M) _ _ g (gridB_mk s) e) ?_
      intro p2 AP gp
      have o6 := gp.one
      refine Da ?_
      refine Ae ?_
      repeat first | refine R1 ?_ | refine R2 fun _ => ?_
      refine fops_keep [1, 2, 3, 10] ?_
      refine fops_own ((b3, .cells #[.int .i64 g.wide, c2, p2, .slice none 0 0] 29) :: (AC ++ (AP ++ [(b2, .cells #[.int .i64 0, .slice none 0 0, .slice none 0 0, .slice none 0 0] 29), (b1, .cells #[.int .i64 g.wide, c] 25)]))) ?_
      exact tail.out c2 p2 AC AP b3 g1 gp
    case' refine_3 =>
      refine Sr [[],[0,5],[],[0,1,2,5],[0,1,2,3,5],[],[0,1,2,3,4,5]] 6 [Nn 0,Nn 2,Yy 5,Yy 1,Yy 3,Nn 4] ?_
      refine Da ?_
      refine Yl fun b3 => ?_
      refine Da ?_
      refine Yc (gridCopy_f _ _ g (gridB_mk s) (by omega)) ?_
      rintro _ AC ⟨_, rfl, q⟩
      obtain ⟨c2, rfl, g1, l1⟩ := gridO q
      have o5 := g1.one
      refine Da ?_
      refine Yc (picOf_f (M := M) _ _ g (gridB_mk s) e) ?_
      intro p2 AP gp
      have o6 := gp.one
      refine Da ?_
      refine Ae ?_
      repeat first | refine R1 ?_ | refine R2 fun _ => ?_
      refine fops_keep [1, 2, 3, 10] ?_
      refine fops_own ((b3, .cells #[.int .i64 g.wide, c2, p2, .slice none 0 0] 29) :: (AC ++ (AP ++ [(b2, .cells #[.int .i64 0, .slice none 0 0, .slice none 0 0, .slice none 0 0] 29), (b1, .cells #[.int .i64 g.wide, c] 25)]))) ?_
      exact tail.out c2 p2 AC AP b3 g1 gp
  intro c2 p2 AC AP b3 g1 gp
  have o5 := g1.one
  have o6 := gp.one
  refine Xv (sightMany_v _ _ g (gridB_mk s)) ?_
  rw [sightMany_ok e, hN]
  repeat first | refine R1 ?_ | refine R2 fun _ => ?_
  refine sf_lp (ι := Nat) [1, 2, 3, 11] (fun k => [(12, .int .i64 (k : Int))]) (fun k O => k ≤ N ∧ ∃ fv A0 A1, O = (b3, .cells #[.int .i64 g.wide, c2, p2, fv] 29) :: (A0 ++ A1 ++ (AC ++ (AP ++ [(b2, .cells #[.int .i64 0, .slice none 0 0, .slice none 0 0, .slice none 0 0] 29), (b1, .cells #[.int .i64 g.wide, c] 25)]))) ∧ ∃ rs : List (Raw (intSR τ).sz), rs.length = k ∧ Gr A0 fv 26 (rawF (intSR τ).sz) rs ∧ OAll (intSR τ) A1 rs ((List.range k).map fun j => footOf g (j : Nat))) (fun k => N - k) 0 ((b3, .cells #[.int .i64 g.wide, c2, p2, .slice none 0 0] 29) :: ([] ++ [] ++ (AC ++ (AP ++ [(b2, .cells #[.int .i64 0, .slice none 0 0, .slice none 0 0, .slice none 0 0] 29), (b1, .cells #[.int .i64 g.wide, c] 25)])))) ⟨by omega, _, [], [], rfl, [], rfl, Gr.nil _ _, .nil⟩ ?_
  rintro k O ⟨hk, fv, A0, A1, rfl, rs, hr, gr, oa⟩
  have o7 := gr.one
  repeat first | refine R1 ?_ | refine R2 fun _ => ?_
  refine sf_if (fun h4 => ?_) fun h4 => ?_
  · have hk4 : k < N := by omega
    repeat first | refine R1 ?_ | refine R2 fun _ => ?_
    refine Sd [[],[0],[],[],[2,3],[2,3,4],[0,1,2,3,4,5],[0,1,2,3,4,5,6],[0,1,2,3,4,5,6,7]] 6 [Nn 0,Nn 1,Nn 2,Nn 3,Yy 4,Yy 5] ?_
    refine Da ?_
    refine Yc (trailFoot_f (M := M) _ c g s e (k : Int) (by omega)) ?_
    intro w AW gw
    have o8 := gw.one
    refine Da ?_
    refine Yb fun u Au gu => ?_
    refine Da ?_
    refine Ae ?_
    refine fp (y_append (by rfl) (by rfl) gr gu (by intro y hy; simp at hy; subst hy; exact (inferInstance : AllOne [w]).is) (by rfl) (by rfl) (by simp; omega) (by simp; omega) fun fv2 A5 g5 => ?_)
    have o9 := g5.one
    repeat first | refine R1 ?_ | refine R2 fun _ => ?_
    refine ⟨k + 1, by omega, ⟨rfl, trivial⟩, rfl, (b3, .cells #[.int .i64 g.wide, c2, p2, fv2] 29) :: (A5 ++ (A1 ++ AW) ++ (AC ++ (AP ++ [(b2, .cells #[.int .i64 0, .slice none 0 0, .slice none 0 0, .slice none 0 0] 29), (b1, .cells #[.int .i64 g.wide, c] 25)]))), _, inferInstance, by omega, fv2, A5, A1 ++ AW, rfl, _, by simp [hr], g5, ?_⟩
    rw [List.range_succ, List.map_append]
    exact oa.snoc ⟨w, rfl, gw, by show (footOf g (k : Int)).length ≤ _; unfold footOf; have := footIs_len g (goLight g (k : Int)).1; omega⟩
  · refine sf_exit ?_
    obtain rfl : k = N := by omega
    repeat first | refine R1 ?_ | refine R2 fun _ => ?_
    refine sf_ret (rO (AC ++ (AP ++ (A0 ++ A1))) ⟨_, rfl, ?_⟩)
    exact sceneO_mk (s := sceneOf g) g1 (by simp only [sceneOf]; omega) gp (by simp only [sceneOf]; rw [picOf_len, hN]; simp; omega) ⟨A0, A1, rfl, rs, gr, by simp only [sceneOf]; rw [hf]; exact oa, by simp only [sceneOf]; rw [hf]; simp; omega⟩
theorem sceneOk_v [al : Alone Tryz.prog M] (h : PHeap) (ca : List Value) (s : Scene) (b : (sceneR τ).B h ca s) : CallV Tryz.prog M 43 [.agg ca.toArray] h (.bool (sceneOk s)) := by
  obtain ⟨c, l, f, rfl, s1, s2, s3⟩ := sceneB b
  have o1 := s1.one
  have o2 := s2.one
  have o3 := s3.one
  have b0 := b
  refine Cs Tryz.func43 Tryz.ntmps43 ?_
  repeat first | refine R1 ?_ | refine R2 fun _ => ?_
  by_cases e : gridOk s.grid = true
  · have hg1 := gridOk_v (M := M) h _ s.grid (gridB_mk (τ := τ) s1)
    rw [e] at hg1
    refine Sd [[],[0],[0,1],[0,1,2],[0,1,2,3],[0,1,2,3],[0,1,2,3,5],[0,1,2,3,5,6],[0,1,2,3,4,5,6,7],[0,1,2,3,4,5,6,7,8],[0,1,2,3,4,5,6,7,8,9]] 8 [Nn 0,Nn 1,Yy 2,Nn 3,Nn 4,Nn 5,Nn 6,Yy 7] ?_
    refine Da ?_
    refine Yv hg1 ?_
    refine Da ?_
    refine a_call (sceneOf_f (M := M) _ _ s.grid (gridB_mk s1) e) (by rfl) (by rfl) (.inr ⟨_, _, _, _, rfl, by rfl, by rfl, rfl⟩) ?_
    rintro _ A1 ⟨cs, rfl, q⟩
    have q0 := q
    obtain ⟨c2, l2, f2, X1, X2, X3, rfl, rfl, ⟨g1, _⟩, ⟨g2, _⟩, g3⟩ := sceneO q
    have o4 := g1.one
    have o5 := g2.one
    have o6 := g3.one
    refine Da ?_
    refine Ae ?_
    refine fp (y_lendV (X1 ++ (X2 ++ X3)) (fun h' l i => sceneSame_v (M := M) h' _ _ s (sceneOf s.grid) ((sceneR τ).up l b0) ((sceneR τ).lent q0 i)) (by rfl) ?_)
    repeat first | refine R1 ?_ | refine R2 fun _ => ?_
    refine sf_ret (rV ?_)
    rw [sceneOk, e]; rfl
  · have e' : gridOk s.grid = false := by simpa using e
    have hg1 := gridOk_v (M := M) h _ s.grid (gridB_mk (τ := τ) s1)
    rw [e'] at hg1
    refine Sd [[],[0],[0,1],[0,1,2],[0,1,2,3],[0,1,2,3],[0,1,2,3,5],[0,1,2,3,5,6],[0,1,2,3,4,5,6,7],[0,1,2,3,4,5,6,7,8],[0,1,2,3,4,5,6,7,8,9]] 8 [Nn 0,Nn 1,Yy 2,Nn 3,Nn 4,Nn 5,Nn 6,Nn 7] ?_
    refine Da ?_
    refine Yv hg1 ?_
    refine Da ?_
    refine Ae ?_
    repeat first | refine R1 ?_ | refine R2 fun _ => ?_
    refine sf_ret (rV ?_)
    rw [sceneOk, e']; rfl
theorem noSceneB (h : PHeap) : (sceneR τ).B h [.int .i64 0, .slice none 0 0, .slice none 0 0, .slice none 0 0] noScene := sceneB_mk (s := noScene) (Sl.nil _ _) (Sl.nil _ _) SlR.nil
theorem paintOk_v [al : Alone Tryz.prog M] (h : PHeap) (ca : List Value) (p : Painter) (b : (painterR τ).B h ca p) : CallV Tryz.prog M 21 [.agg ca.toArray] h (.bool (paintOk p)) := by
  obtain ⟨c, l, f, rfl, s1, s2, s3⟩ := painterB b
  have o1 := s1.one
  have o2 := s2.one
  have o3 := s3.one
  have bs : (sceneR τ).B h [.int .i64 p.scene.grid.wide, c, l, f] p.scene := sceneB_mk s1 s2 s3
  refine Cs Tryz.func21 Tryz.ntmps21 ?_
  repeat first | refine R1 ?_ | refine R2 fun _ => ?_
  refine sf_cond (by rfl) (fun e1 => ?_) fun e1 => ?_
  · have ep : paintOk p = (p.up && (decide (0 ≤ p.ver) && decide (p.ver ≤ 60)) && sceneOk p.scene) := by rw [paintOk, if_pos e1]
    rw [ep]
    repeat first | refine R1 ?_ | refine R2 fun _ => ?_
    refine f_splitB (fun e2 => ?_) fun e2 => ?_
    · repeat first | refine R1 ?_ | refine R2 fun _ => ?_
      refine f_split (fun e3 => ?_) fun e3 => ?_
      · repeat first | refine R1 ?_ | refine R2 fun _ => ?_
        refine f_split (fun e4 => ?_) fun e4 => ?_
        · repeat first | refine R1 ?_ | refine R2 fun _ => ?_
          refine Xv (sceneOk_v (M := M) _ _ p.scene bs) ?_
          repeat first | refine R1 ?_ | refine R2 fun _ => ?_
          refine sf_ret (rV ?_)
          simp [e2]; omega
        · repeat first | refine R1 ?_ | refine R2 fun _ => ?_
          refine sf_ret (rV ?_)
          simp [e4]
      · repeat first | refine R1 ?_ | refine R2 fun _ => ?_
        refine sf_ret (rV ?_)
        simp; omega
    · repeat first | refine R1 ?_ | refine R2 fun _ => ?_
      refine sf_ret (rV ?_)
      simp [e2]
  · have ep : paintOk p = (decide (p.ver = 0) && decide (p.scene = noScene)) := by rw [paintOk, if_neg (by rw [e1]; decide)]
    rw [ep]
    repeat first | refine R1 ?_ | refine R2 fun _ => ?_
    refine f_split (fun e2 => ?_) fun e2 => ?_
    · repeat first | refine R1 ?_ | refine R2 fun _ => ?_
      refine Xv (sceneSame_v (M := M) _ _ _ p.scene noScene bs (noSceneB _)) ?_
      repeat first | refine R1 ?_ | refine R2 fun _ => ?_
      refine sf_ret (rV ?_)
      simp [e2]
    · repeat first | refine R1 ?_ | refine R2 fun _ => ?_
      refine sf_ret (rV ?_)
      simp [e2]
theorem noWordO' : (wordR τ).O [] (wordCs noWord (.slice none 0 0) (.slice none 0 0)) noWord := wordO_mk (w := noWord) (Gr.nil _ _) (by decide) (Gr.nil _ _) (by decide)
theorem paintTold_f (h : PHeap) (ca : List Value) (p : Painter) (b : (painterR τ).B h ca p) (ok : paintOk p = true) (id many : Int) (hid : idOk id many = true) : CallF Tryz.prog M 31 [.agg ca.toArray, .int .i64 id, .int .i64 many] [] h fun u A => ∃ cs, u = .tuple #[.agg cs.toArray, .bool (paintTold p id many).2] ∧ (wordR τ).O A cs (paintTold p id many).1 := by
  obtain ⟨c, l, f, rfl, s1, s2, s3⟩ := painterB b
  have o1 := s1.one
  have o2 := s2.one
  have o3 := s3.one
  simp only [idOk, Bool.and_eq_true, decide_eq_true_eq] at hid
  refine Cs Tryz.func31 Tryz.ntmps31 ?_
  repeat first | refine R1 ?_ | refine R2 fun _ => ?_
  refine sf_cond (by rfl) (fun e1 => ?_) fun e1 => ?_
  · simp only [Bool.not_eq_true'] at e1
    repeat first | refine R1 ?_ | refine R2 fun _ => ?_
    rw [paintTold, if_pos e1]
    exact sf_ret (rO [] ⟨_, rfl, noWordO'⟩)
  simp only [Bool.not_eq_false'] at e1
  repeat first | refine R1 ?_ | refine R2 fun _ => ?_
  refine sf_cond (by rfl) (fun e2 => ?_) fun e2 => ?_
  · simp only [Bool.not_eq_true'] at e2
    repeat first | refine R1 ?_ | refine R2 fun _ => ?_
    rw [paintTold, if_neg (by rw [e1]; decide), if_pos e2]
    exact sf_ret (rO [] ⟨wordCs ⟨4, 0, id, 0, noGrid, noEdit, []⟩ (.slice none 0 0) (.slice none 0 0), rfl, wordO_mk (w := ⟨4, 0, id, 0, noGrid, noEdit, []⟩) (Gr.nil _ _) (by simp [noGrid]) (Gr.nil _ _) (by simp)⟩)
  simp only [Bool.not_eq_false'] at e2
  obtain ⟨hup, hv0, hv1, hsc⟩ := paintOk_has ok e2
  obtain ⟨hg, hs⟩ := sceneOk_is hsc
  have kg := gok hg
  have hm := kg.many
  obtain ⟨N, hN⟩ : ∃ N : Nat, manyOf p.scene.grid = N := ⟨(manyOf p.scene.grid).toNat, by omega⟩
  have hll : p.scene.lights.length = N := by rw [hs]; simp only [sceneOf]; rw [picOf_len, hN]; simp
  obtain ⟨i, rfl⟩ : ∃ i : Nat, id = i := ⟨id.toNat, by omega⟩
  obtain ⟨m, rfl⟩ : ∃ m : Nat, many = m := ⟨many.toNat, by omega⟩
  have hres : paintTold p i m = (⟨3, 0, i, p.ver, noGrid, noEdit, ownLights p.scene.lights N m i⟩, true) := by
    rw [paintTold, if_neg (by rw [e1]; decide), if_neg (by rw [e2]; decide), hN]; simp
  rw [hres]
  repeat first | refine R1 ?_ | refine R2 fun _ => ?_
  rename_i b3 b6 b8
  refine fp (y_call (paintOwn_f (M := M) _ _ p.scene.grid (gridB_mk s1) hg i m (by omega) (by omega) (by omega)) (by rfl) ?_)
  intro w AW gw
  have ow := gw.one
  rw [hN] at gw
  simp only [Int.toNat_natCast] at gw
  have lw := ownList_len N m i
  have hc : ∀ j, j < ownCnt N m i ↔ i - 1 + j * m < N := fun j => ownCnt_lt (by omega) (by omega) (by omega)
  have hln : ownCnt N m i ≤ 20 := by
    rcases Nat.lt_or_ge 20 (ownCnt N m i) with h | h
    · have := (hc 20).1 h
      have : 20 * 1 ≤ 20 * m := Nat.mul_le_mul_left _ (by omega)
      omega
    · exact h
  have hat : ∀ j, j < ownCnt N m i → gt (ownList N m i) j = ((i - 1 + j * m : Nat) : Int) := fun j hj => ownList_at hj
  unfold ownLights
  generalize hxs : ownList N m i = xs at *
  repeat first | refine R1 ?_ | refine R2 fun _ => ?_
  refine sf_lp (ι := Nat) [3, 6, 8, 29, 30] (fun x => [(31, .int .i64 (x : Int))]) (fun x O => x ≤ xs.length ∧ ∃ lv A', O = (b8, .cells #[.int .i64 3, .int .i64 0, .int .i64 (i : Int), .int .i64 p.ver, .int .i64 0, .slice none 0 0, .int .i64 0, .int .i64 0, .int .i64 0, lv] 39) :: (A' ++ (AW ++ [(b6, .cells #[.int .i64 0, .int .i64 0, .int .i64 0, .int .i64 0, .int .i64 0, .slice none 0 0, .int .i64 0, .int .i64 0, .int .i64 0, .slice none 0 0] 39), (b3, .cells #[.bool p.up, .bool p.has, .int .i64 p.ver, .int .i64 p.scene.grid.wide, c, l, f] 31)])) ∧ Gr A' lv 3 intF ((xs.take x).map fun k => gt p.scene.lights k.toNat)) (fun x => xs.length - x) 0 ((b8, .cells #[.int .i64 3, .int .i64 0, .int .i64 (i : Int), .int .i64 p.ver, .int .i64 0, .slice none 0 0, .int .i64 0, .int .i64 0, .int .i64 0, .slice none 0 0] 39) :: ([] ++ (AW ++ [(b6, .cells #[.int .i64 0, .int .i64 0, .int .i64 0, .int .i64 0, .int .i64 0, .slice none 0 0, .int .i64 0, .int .i64 0, .int .i64 0, .slice none 0 0] 39), (b3, .cells #[.bool p.up, .bool p.has, .int .i64 p.ver, .int .i64 p.scene.grid.wide, c, l, f] 31)]))) ⟨by omega, _, [], rfl, Gr.nil _ _⟩ ?_
  rintro j O ⟨hj, lv, A', rfl, gr⟩
  have o4 := gr.one
  have hlt : ((xs.take j).map fun k => gt p.scene.lights k.toNat).length = j := by rw [List.length_map, List.length_take]; omega
  repeat first | refine R1 ?_ | refine R2 fun _ => ?_
  refine sf_if (fun h4 => ?_) fun h4 => ?_
  · have hj4 : j < ownCnt N m i := by omega
    have ha := hat j hj4
    have hb := (hc j).1 hj4
    have hstep : ((xs.take (j + 1)).map fun k => gt p.scene.lights k.toNat) = ((xs.take j).map fun k => gt p.scene.lights k.toNat) ++ [gt p.scene.lights (i - 1 + j * m)] := by
      rw [take_succ_gt (by omega), List.map_append, ha]; rfl
    repeat first | refine R1 ?_ | refine R2 fun _ => ?_
    rw [ha]
    refine Sd [[],[0],[],[2],[2,3],[],[2,3,4,5],[2,3,4,5,6],[2,3,4,5,6,7],[0,1,2,3,4,5,6,7,8],[0,1,2,3,4,5,6,7,8,9],[0,1,2,3,4,5,6,7,8,9,10]] 9 [Nn 0,Nn 1,Nn 2,Nn 3,Nn 4,Nn 5,Nn 6,Nn 7,Yy 8] ?_
    refine Da ?_
    refine Yb fun u Au gu => ?_
    refine Da ?_
    refine Ae ?_
    refine Xa gr gu fun lv2 A2 g2 => ?_
    have o5 := g2.one
    repeat first | refine R1 ?_ | refine R2 fun _ => ?_
    exact ⟨j + 1, by omega, ⟨rfl, trivial⟩, rfl, (b8, .cells #[.int .i64 3, .int .i64 0, .int .i64 (i : Int), .int .i64 p.ver, .int .i64 0, .slice none 0 0, .int .i64 0, .int .i64 0, .int .i64 0, lv2] 39) :: (A2 ++ (AW ++ [(b6, .cells #[.int .i64 0, .int .i64 0, .int .i64 0, .int .i64 0, .int .i64 0, .slice none 0 0, .int .i64 0, .int .i64 0, .int .i64 0, .slice none 0 0] 39), (b3, .cells #[.bool p.up, .bool p.has, .int .i64 p.ver, .int .i64 p.scene.grid.wide, c, l, f] 31)])), _, inferInstance, by omega, lv2, A2, rfl, by rw [hstep]; exact g2⟩
  · refine sf_exit ?_
    repeat first | refine R1 ?_ | refine R2 fun _ => ?_
    rw [take_ge hj (by omega)] at gr
    refine sf_ret (rO ([] ++ A') ⟨wordCs ⟨3, 0, i, p.ver, noGrid, noEdit, xs.map fun k => gt p.scene.lights k.toNat⟩ (.slice none 0 0) lv, rfl, ?_⟩)
    exact wordO_mk (τ := τ) (w := ⟨3, 0, i, p.ver, noGrid, noEdit, xs.map fun k => gt p.scene.lights k.toNat⟩) (Gr.nil _ _) (by simp [noGrid]) gr (by simp; omega)
theorem paintTell_f [al : Alone Tryz.prog M] (h : PHeap) (ca : List Value) (p : Painter) (b : (painterR τ).B h ca p) (id many : Int) : CallF Tryz.prog M 11 [.agg ca.toArray, .int .i64 id, .int .i64 many] [] h fun u A => ∃ cs, u = .tuple #[.agg cs.toArray, .bool (paintTell p id many).2] ∧ (wordR τ).O A cs (paintTell p id many).1 := by
  have b0 := b
  obtain ⟨c, l, f, rfl, s1, s2, s3⟩ := painterB b
  have o1 := s1.one
  have o2 := s2.one
  have o3 := s3.one
  refine Cs Tryz.func11 Tryz.ntmps11 ?_
  repeat first | refine R1 ?_ | refine R2 fun _ => ?_
  refine Xv (paintOk_v (M := M) _ _ p b0) ?_
  repeat first | refine R1 ?_ | refine R2 fun _ => ?_
  refine f_splitB (fun h1 => ?_) fun h1 => ?_
  · have h1' := h1
    simp only [Bool.not_eq_true'] at h1'
    repeat first | refine R1 ?_ | refine R2 fun _ => ?_
    refine sf_T rfl ?_
    repeat first | refine R1 ?_ | refine R2 fun _ => ?_
    rw [paintTell, if_neg (fun h => by rw [h.1] at h1'; cases h1')]
    exact sf_ret (rO [] ⟨_, rfl, noWordO'⟩)
  have h1' := h1
  simp only [Bool.not_eq_false'] at h1'
  repeat first | refine R1 ?_ | refine R2 fun _ => ?_
  refine Xv (paintIdOk_v _ _ _) ?_
  repeat first | refine R1 ?_ | refine R2 fun _ => ?_
  refine sf_cond (by rfl) (fun h2 => ?_) fun h2 => ?_
  · simp only [Bool.not_eq_true'] at h2
    repeat first | refine R1 ?_ | refine R2 fun _ => ?_
    rw [paintTell, if_neg (fun h => by have h3 := h.2; unfold idOk at h3; rw [h2] at h3; cases h3)]
    exact sf_ret (rO [] ⟨_, rfl, noWordO'⟩)
  · simp only [Bool.not_eq_false'] at h2
    repeat first | refine R1 ?_ | refine R2 fun _ => ?_
    refine fp (y_call (paintTold_f (M := M) _ _ p b0 h1' id many h2) (by rfl) ?_)
    rintro _ A1 ⟨cs, rfl, q⟩
    have q0 := q
    obtain ⟨c2, l2, X1, X2, rfl, rfl, ⟨g1, _⟩, ⟨g2, _⟩⟩ := wordO q
    have o4 := g1.one
    have o5 := g2.one
    repeat first | refine R1 ?_ | refine R2 fun _ => ?_
    rw [paintTell, if_pos ⟨h1', h2⟩]
    exact sf_ret (rO (X1 ++ X2) ⟨_, rfl, q0⟩)
end Go.Proofs.YtcpkcmgjfcbnpaaGreat

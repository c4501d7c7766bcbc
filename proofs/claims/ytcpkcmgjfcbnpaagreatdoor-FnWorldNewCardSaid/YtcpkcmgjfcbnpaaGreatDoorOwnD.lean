/- Walks of the seat: QE QF QG LC LD ES KE Wg FkF FkG FkH FkI FkJ FkK KF KH PA PB PC PD PE PF PG PH KG UA UB Z9. -/
import Derived.Test.YtcpkcmgjfcbnpaaGreatDoorOwnC
import Derived.Test.YtcpkcmgjfcbnpaaGreatDoorLibF
import Derived.Test.YtcpkcmgjfcbnpaaGreatDoorLibC
import Derived.Test.YtcpkcmgjfcbnpaaGreatDoorOwnA
import Derived.Test.YtcpkcmgjfcbnpaaGreatDoorLibD
import Derived.Test.YtcpkcmgjfcbnpaaGreatDoorProg
import Derived.Conc.WgLib
import Derived.KernelRfl
import Derived.Test.YtcpkcmgjfcbnpaaGreatDoorSlK
import Derived.Test.YtcpkcmgjfcbnpaaGreatDoorLibA
import Derived.Test.YtcpkcmgjfcbnpaaGreatDoorSlGo
import Derived.Test.YtcpkcmgjfcbnpaaGreatDoorSlSw
import Derived.Test.YtcpkcmgjfcbnpaaGreatDoorSlEd
import Derived.Test.YtcpkcmgjfcbnpaaGreatDoorSmL
import Derived.Test.YtcpkcmgjfcbnpaaGreatDoorLibJ
import Derived.Test.YtcpkcmgjfcbnpaaGreatDoorLibE
import Derived.Test.YtcpkcmgjfcbnpaaGreatDoorLibG
import Derived.Test.YtcpkcmgjfcbnpaaGreatDoorSmYe
import Derived.Test.YtcpkcmgjfcbnpaaGreatDoorLibI
import Derived.Test.YtcpkcmgjfcbnpaaGreatDoorSmZ
set_option linter.unusedVariables false
set_option linter.unusedSimpArgs false
set_option linter.unusedSectionVars false
namespace Go.Proofs.YtcpkcmgjfcbnpaaGreatDoor
open Go Go.Sl Go.Sort
set_option maxRecDepth 100000
set_option maxHeartbeats 4000000
attribute [local irreducible] Go.Code.sf sfOps Opq opo retF Do1 anyO
variable {M : Jdg → Prop} [IsCl Tryz.prog M]
theorem len64_f (h : PHeap) (n : Nat) (hn : n ≤ 1000000) : CallF Tryz.prog M 214 [.int .u64 (n : Int)] [] h fun u A => A = [] ∧ ∃ L : Nat, u = .int .i64 (L : Int) ∧ L ≤ 40 ∧ (1 ≤ n → 2 ^ L ≤ 2 * n) := by
  refine Cs Tryz.func214 Tryz.ntmps214 ?_
  refine Wo ?_
  refine sf_if (fun h1 => ?_) fun h1 => ?_
  · omega
  refine Wo ?_
  refine sf_if (fun h2 => ?_) fun h2 => ?_
  · refine Wo ?_
    refine fp (Rq ?_ (q_shrU (s := 16) (by rfl) (by rfl) (by decide)))
    refine Wo ?_
    refine sf_if (fun h3 => ?_) fun h3 => ?_
    · omega
    refine Wo ?_
    rw [IntKind.wrap_u8, show (((n / 2 ^ 16 : Nat) : Int)) % 256 = ((n / 2 ^ 16 : Nat) : Int) by omega]
    refine Wo ?_
    refine fp (y_len8 (by infer_instance) (by rfl) (by rfl) (by omega) (by kernel_rfl) fun b hb1 hb2 => ?_)
    refine Wo ?_
    rw [show IntKind.i64.wrap (b : Int) = (b : Int) from wrap_in (by omega) (by omega), wrap_in (by omega) (by omega)]
    refine Wo ?_
    refine sf_ret (rO [] ⟨rfl, 16 + b, rfl, by omega, fun _ => ?_⟩)
    have := hb2 (by omega)
    rw [Nat.pow_add]
    omega
  refine Wo ?_
  refine sf_if (fun h3 => ?_) fun h3 => ?_
  · refine Wo ?_
    refine fp (Rq ?_ (q_shrU (s := 8) (by rfl) (by rfl) (by decide)))
    refine Wo ?_
    rw [IntKind.wrap_u8, show (((n / 2 ^ 8 : Nat) : Int)) % 256 = ((n / 2 ^ 8 : Nat) : Int) by omega]
    refine Wo ?_
    refine fp (y_len8 (by infer_instance) (by rfl) (by rfl) (by omega) (by kernel_rfl) fun b hb1 hb2 => ?_)
    refine Wo ?_
    rw [show IntKind.i64.wrap (b : Int) = (b : Int) from wrap_in (by omega) (by omega), wrap_in (by omega) (by omega)]
    refine Wo ?_
    refine sf_ret (rO [] ⟨rfl, 8 + b, rfl, by omega, fun _ => ?_⟩)
    have := hb2 (by omega)
    rw [Nat.pow_add]
    omega
  · refine Wo ?_
    rw [IntKind.wrap_u8, show (((n : Nat) : Int)) % 256 = ((n : Nat) : Int) by omega]
    refine Wo ?_
    refine fp (y_len8 (by infer_instance) (by rfl) (by rfl) (by omega) (by kernel_rfl) fun b hb1 hb2 => ?_)
    refine Wo ?_
    rw [show IntKind.i64.wrap (b : Int) = (b : Int) from wrap_in (by omega) (by omega), wrap_in (by omega) (by omega)]
    refine Wo ?_
    refine sf_ret (rO [] ⟨rfl, b, ?_, by omega, hb2⟩)
    simp
theorem len_f (h : PHeap) (n : Nat) (hn : n ≤ 1000000) : CallF Tryz.prog M 190 [.int .u64 (n : Int)] [] h fun u A => A = [] ∧ ∃ L : Nat, u = .int .i64 (L : Int) ∧ L ≤ 40 ∧ (1 ≤ n → 2 ^ L ≤ 2 * n) := by
  refine Cs Tryz.func190 Tryz.ntmps190 ?_
  refine Wo ?_
  refine sf_cond (by rfl) (fun e => by cases e) fun z1 => ?_
  clear z1
  refine Wo ?_
  refine fp (y_call (len64_f (M := M) _ n hn) (by rfl) ?_)
  rintro _ _ ⟨rfl, L, rfl, h1, h2⟩
  refine Wo ?_
  exact sf_ret (rO [] ⟨rfl, L, rfl, h1, h2⟩)
theorem nextPow_f (h : PHeap) (n : Nat) (hn : n ≤ 1000000) (h1 : 1 ≤ n) : CallF Tryz.prog M 219 [.int .i64 (n : Int)] [] h fun u A => A = [] ∧ ∃ m : Nat, u = .int .u64 (m : Int) ∧ 1 ≤ m ∧ m ≤ 2 * n := by
  refine Cs Tryz.func219 Tryz.ntmps219 ?_
  refine Wo ?_
  rw [IntKind.wrap_u64, show (n : Int) % 18446744073709551616 = (n : Int) by omega]
  refine fp (y_call (len_f (M := M) _ n hn) (by rfl) ?_)
  rintro _ _ ⟨rfl, L, rfl, k1, k2⟩
  refine Wo ?_
  refine fp (Rq ?_ (q_shlU (a := 1) (s := L) (by rfl) (by rfl) (by omega)))
  refine Wo ?_
  have k3 := k2 h1
  have k4 : 1 ≤ 2 ^ L := Nat.one_le_two_pow
  refine sf_ret (rO [] ⟨rfl, _, rfl, ?_, ?_⟩)
  · rw [Nat.one_mul, Nat.mod_eq_of_lt (by omega)]; exact k4
  · rw [Nat.one_mul, Nat.mod_eq_of_lt (by omega)]; exact k3
instance : Fun Tryz.prog 220 := ⟨by kernel_rfl⟩
abbrev rndA (br : Nat) (r : Nat) : Own := [(br, .cells #[.int .u64 (r : Int)] 298)]
theorem next_f (h : PHeap) (br r : Nat) (hr : r < 18446744073709551616) : CallF Tryz.prog M 220 [.pointer (some ⟨br, 0, none⟩)] (rndA br r) h fun u A => ∃ r' : Nat, u = .int .u64 (r' : Int) ∧ r' < 18446744073709551616 ∧ A = rndA br r' := by
  refine Cs Tryz.func220 Tryz.ntmps220 ?_
  refine Wo ?_
  have step : ∀ (z : Nat), z < 18446744073709551616 → z * 2 ^ 13 % 18446744073709551616 < 18446744073709551616 ∧ z / 2 ^ 7 < 18446744073709551616 ∧ z * 2 ^ 17 % 18446744073709551616 < 18446744073709551616 := fun z hz => ⟨Nat.mod_lt _ (by decide), by omega, Nat.mod_lt _ (by decide)⟩
  have xl : ∀ a b : Nat, a < 18446744073709551616 → b < 18446744073709551616 → a ^^^ b < 18446744073709551616 := fun a b ha hb => Nat.xor_lt_two_pow (n := 64) ha hb
  refine Sd [[],[0],[0,1],[],[3],[3,4],[3,4,5],[0,1,2,3,4,5,6],[0,1,2,3,4,5,6,7],[0,1,2,3,4,5,6,7,8]] 7 [Nn 0,Nn 1,Nn 2,Nn 3,Nn 4,Nn 5,Nn 6] ?_
  refine Da ?_
  refine Yq (by rfl) (fun X h' [_] => q_shlU (s := 13) (by rfl) (by rfl) (by decide)) ?_
  refine Da ?_
  refine Ae ?_
  refine fp (Rq ?_ (q_xorU (by rfl) (by rfl) hr (step r hr).1))
  refine Wo ?_
  obtain ⟨r1, hr1⟩ : ∃ z, z = r ^^^ (r * 2 ^ 13 % 18446744073709551616) := ⟨_, rfl⟩
  have h1 : r1 < 18446744073709551616 := by rw [hr1]; exact xl _ _ hr (step r hr).1
  rw [← hr1]
  refine Sd [[],[0],[0,1],[],[3],[3,4],[3,4,5],[0,1,2,3,4,5,6],[0,1,2,3,4,5,6,7],[0,1,2,3,4,5,6,7,8]] 7 [Nn 0,Nn 1,Nn 2,Nn 3,Nn 4,Nn 5,Nn 6] ?_
  refine Da ?_
  refine Yq (by rfl) (fun X h' [_] => q_shrU (s := 7) (by rfl) (by rfl) (by decide)) ?_
  refine Da ?_
  refine Ae ?_
  refine fp (Rq ?_ (q_xorU (by rfl) (by rfl) h1 (step r1 h1).2.1))
  refine Wo ?_
  obtain ⟨r2, hr2⟩ : ∃ z, z = r1 ^^^ (r1 / 2 ^ 7) := ⟨_, rfl⟩
  have h2 : r2 < 18446744073709551616 := by rw [hr2]; exact xl _ _ h1 (step r1 h1).2.1
  rw [← hr2]
  refine Sd [[],[0],[0,1],[],[3],[3,4],[3,4,5],[0,1,2,3,4,5,6],[0,1,2,3,4,5,6,7],[0,1,2,3,4,5,6,7,8]] 7 [Nn 0,Nn 1,Nn 2,Nn 3,Nn 4,Nn 5,Nn 6] ?_
  refine Da ?_
  refine Yq (by rfl) (fun X h' [_] => q_shlU (s := 17) (by rfl) (by rfl) (by decide)) ?_
  refine Da ?_
  refine Ae ?_
  refine fp (Rq ?_ (q_xorU (by rfl) (by rfl) h2 (step r2 h2).2.2))
  refine Wo ?_
  exact sf_ret (rO _ ⟨_, rfl, xl _ _ h2 (step r2 h2).2.2, rfl⟩)
theorem breakPatterns_f (h : PHeap) (v : Value) (A : Own) (d : Array Int) (g : Gr A v 3 intF d.toList) (a b : Nat) (hb : b ≤ d.size) (hs : d.size ≤ 1000000) (hab : a < b) :
    CallF Tryz.prog M 206 [v, .int .i64 (a : Int), .int .i64 (b : Int)] A h fun u A' => u = .tuple #[] ∧ ∃ d' : Array Int, Gr A' v 3 intF d'.toList ∧ PermIn a b d d' := by
  have o := g.one
  obtain ⟨n, rfl⟩ : ∃ n : Nat, b = a + n := ⟨b - a, by omega⟩
  refine Cs Tryz.func206 Tryz.ntmps206 ?_
  repeat first | refine R1 ?_ | refine R2 fun _ => ?_
  have e0 : ((a + n : Nat) : Int) - (a : Int) = (n : Int) := by omega
  rw [e0]
  refine sf_if (fun h1 => ?_) fun h1 => ?_
  · repeat first | refine R1 ?_ | refine R2 fun _ => ?_
    rw [IntKind.wrap_u64, show (n : Int) % 18446744073709551616 = (n : Int) by omega]
    repeat first | refine R1 ?_ | refine R2 fun _ => ?_
    rename_i br
    refine fp (y_call (nextPow_f (M := M) _ n (by omega) (by omega)) (by rfl) ?_)
    rintro _ _ ⟨rfl, m, rfl, hm1, hm2⟩
    repeat first | refine R1 ?_ | refine R2 fun _ => ?_
    rw [show (a : Int) + (n : Int) / 4 * 2 - 1 = ((a + n / 4 * 2 - 1 : Nat) : Int) by omega]
    refine sf_lp (ι := Nat × Array Int) [0, 1, 6, 7, 8] (fun x => [(9, .int .i64 (x.1 : Int))]) (fun x O => ∃ (B : Own) (r : Nat), O = rndA br r ++ B ∧ r < 18446744073709551616 ∧ Gr B v 3 intF x.2.toList ∧ x.2.size = d.size ∧ a ≤ x.1 ∧ PermIn a (a + n) d x.2) (fun x => a + n / 4 * 2 + 2 - x.1) (a + n / 4 * 2 - 1, d) (rndA br n ++ A) ⟨A, n, rfl, by omega, g, rfl, by simp only; omega, Sort.permIn_refl _ _ _⟩ ?_
    rintro ⟨k, f⟩ O ⟨B, r, rfl, hr, gf, fsz, hk, fp0⟩
    simp only at gf fsz hk fp0 ⊢
    have lf : f.toList.length = f.size := by simp
    repeat first | refine R1 ?_ | refine R2 fun _ => ?_
    refine sf_if (fun h2 => ?_) fun h2 => ?_
    · repeat first | refine R1 ?_ | refine R2 fun _ => ?_
      refine fp (y_call (next_f (M := M) _ br r hr) (by rfl) ?_)
      rintro _ _ ⟨r2, rfl, hr2, rfl⟩
      repeat first | refine R1 ?_ | refine R2 fun _ => ?_
      rw [IntKind.wrap_u64, show ((m : Int) - 1) % 18446744073709551616 = ((m - 1 : Nat) : Int) by omega]
      refine fp (Rq ?_ (q_andU (by rfl) (by rfl) hr2 (by omega)))
      have ho : r2 &&& (m - 1) ≤ m - 1 := Nat.and_le_right
      generalize r2 &&& (m - 1) = w at ho
      repeat first | refine R1 ?_ | refine R2 fun _ => ?_
      rw [wrap_in (by omega) (by omega)]
      apply viaT (G := ∀ w : Nat, w < n → _)
      · intro tail
        refine sf_if (fun h3 => ?_) fun h3 => ?_
        · repeat first | refine R1 ?_ | refine R2 fun _ => ?_
          rw [show (w : Int) - (n : Int) = ((w - n : Nat) : Int) by omega]
          generalize hw : w - n = w2
          refine sf_keep [0, 1, 6, 7, 8, 9, 10] ?_
          exact tail.out w2 (by omega)
        · repeat first | refine R1 ?_ | refine R2 fun _ => ?_
          refine sf_keep [0, 1, 6, 7, 8, 9, 10] ?_
          exact tail.out w (by omega)
      intro w hw
      refine sf_draw (by kernel_rfl) (regX_own (B) (regX_split 11 15 (by rfl) ?_ ?_))
      case' refine_1 =>
        refine Sw [[],[],[],[],[],[3,4],[],[],[],[7,8],[6,7,8,9],[6,7,8,9,10],[],[],[12,13],[6,7,8,9,10,11,12,13,14],[0,1,6,7,8,9,10,11,12,13,14,15],[0,1,6,7,8,9,10,11,12,13,14,15,16],[0,1,2,3,4,5,6,7,8,9,10,11,12,13,14,15,16,17],[0,1,2,3,4,5,6,7,8,9,10,11,12,13,14,15,16,17,18]] 18 [Nn 0,Nn 1,Nn 2,Nn 3,Nn 4,Nn 5,Nn 6,Nn 7,Nn 8,Nn 9,Nn 10,Nn 12,Nn 13,Nn 14,Yy 11,Yy 15,Nn 16,Yy 17] ?_
        refine Di ?_
        refine Yw (by rfl) (z_loadG (by rfl) gf (by omega) (by rfl)) ?_
        refine Di ?_
        refine Yw (by rfl) (z_loadG (by rfl) gf (by omega) (by rfl)) ?_
        refine Di ?_
        refine Yg gf fun As ys hy hl fs gg => ?_
        refine Di ?_
        refine Ae ?_
      case' refine_2 =>
        refine Sw [[],[],[],[],[],[3,4],[],[],[],[7,8],[6,7,8,9],[6,7,8,9,10,12,13,14,15],[],[],[12,13],[12,13,14],[0,1,6,7,8,9,10,11,12,13,14,15],[0,1,6,7,8,9,10,11,12,13,14,15,16],[0,1,2,3,4,5,6,7,8,9,10,11,12,13,14,15,16,17],[0,1,2,3,4,5,6,7,8,9,10,11,12,13,14,15,16,17,18]] 18 [Nn 0,Nn 1,Nn 2,Nn 3,Nn 4,Nn 5,Nn 6,Nn 7,Nn 8,Nn 9,Nn 10,Nn 12,Nn 13,Nn 14,Yy 15,Yy 11,Nn 16,Yy 17] ?_
        refine Di ?_
        refine Yw (by rfl) (z_loadG (by rfl) gf (by omega) (by rfl)) ?_
        refine Di ?_
        refine Yw (by rfl) (z_loadG (by rfl) gf (by omega) (by rfl)) ?_
        refine Di ?_
        refine Yg gf fun As ys hy hl fs gg => ?_
        refine Di ?_
        refine Ae ?_
      all_goals
        repeat first | refine R1 ?_ | refine R2 fun _ => ?_ | refine fp (Rq ?_ (z_indexGI (by rfl) (by rfl) (by assumption) (by omega) (by omega)))
        refine Xg gg fun At zs hz hlz fz gz => ?_
        repeat first | refine R1 ?_ | refine R2 fun _ => ?_ | refine fp (Rq ?_ (z_indexGI (by rfl) (by rfl) (by assumption) (by omega) (by omega)))
        have hf : zs = (swp f k (a + w)).toList := swp_is hy hz (by omega) (by omega) (by omega) (by omega) (by omega) (by omega)
        rw [hf] at gz
        refine ⟨(k + 1, swp f k (a + w)), by simp only; omega, ⟨rfl, trivial⟩, rfl, rndA br r2 ++ At, _, inferInstance, At, r2, rfl, hr2, gz, by simp only [swp_size]; exact fsz, by simp only; omega, ?_⟩
        exact Sort.permIn_trans _ _ _ _ _ fp0 (Sort.swp_permIn _ _ _ _ _ (by omega) (by omega) (by omega) (by omega) (by omega))
    · refine sf_exit ?_
      repeat first | refine R1 ?_ | refine R2 fun _ => ?_
      exact nO B ⟨rfl, f, gf, fp0⟩
  · repeat first | refine R1 ?_ | refine R2 fun _ => ?_
    exact nO A ⟨rfl, d, g, Sort.permIn_refl _ _ _⟩
theorem pdqsort_f (m : Nat) : ∀ (h : PHeap) (v : Value) (A : Own) (d : Array Int) (_ : Gr A v 3 intF d.toList) (a b : Nat) (l : Int) (_ : b ≤ d.size) (_ : d.size ≤ 1000000) (_ : a ≤ b) (_ : 0 ≤ l ∧ l ≤ 1000) (_ : Below ltInt a b d) (_ : b - a = m),
    CallF Tryz.prog M 189 [v, .int .i64 (a : Int), .int .i64 (b : Int), .int .i64 l] A h fun u A' => u = .tuple #[] ∧ ∃ d' : Array Int, Gr A' v 3 intF d'.toList ∧ PermIn a b d d' ∧ SortedIn ltInt a b d' := by
  induction m using Nat.strongRecOn with
  | _ m ih =>
  intro h v A d g a b l hb hs hab hl hB hm
  have o := g.one
  refine Cs Tryz.func189 Tryz.ntmps189 ?_
  refine Wo ?_
  refine sf_lp (ι := Nat × Nat × Int × Bool × Bool × Array Int) [0] (fun x => [(1, .int .i64 (x.1 : Int)), (2, .int .i64 (x.2.1 : Int)), (3, .int .i64 x.2.2.1), (8, .bool x.2.2.2.1), (9, .bool x.2.2.2.2.1)])
    (fun x O => Gr O v 3 intF x.2.2.2.2.2.toList ∧ x.2.2.2.2.2.size = d.size ∧ x.1 ≤ x.2.1 ∧ x.2.1 ≤ d.size ∧ (0 ≤ x.2.2.1 ∧ x.2.2.1 ≤ 1000) ∧ Below ltInt x.1 x.2.1 x.2.2.2.2.2 ∧ x.2.1 - x.1 ≤ m ∧ ∀ R, PermIn x.1 x.2.1 x.2.2.2.2.2 R → SortedIn ltInt x.1 x.2.1 R → PermIn a b d R ∧ SortedIn ltInt a b R)
    (fun x => x.2.1 - x.1) (a, b, l, true, true, d) A ⟨g, rfl, hab, hb, hl, hB, by simp only; omega, fun R r1 r2 => ⟨r1, r2⟩⟩ ?_
  rintro ⟨a1, b1, l1, wb, wp, f⟩ O ⟨gf, fsz, hab1, hb1, hl1, hB1, hm1, hT⟩
  simp only at gf fsz hab1 hb1 hl1 hB1 hm1 hT ⊢
  clear hB hl g
  refine Wo ?_
  refine sf_if (fun h1 => ?_) fun h1 => ?_
  · refine Wo ?_
    refine fp (y_call (insertionSort_f (M := M) _ v O f gf a1 b1 (by omega) (by omega) hab1) (by rfl) ?_)
    rintro _ A1 ⟨rfl, g1⟩
    refine Wo ?_
    obtain ⟨p1, p2⟩ := insertionSort_holds (lt := ltInt) swo_ltInt f a1 b1 hab1 (by omega)
    obtain ⟨q1, q2⟩ := hT _ p1 p2
    exact sf_ret (rO A1 ⟨rfl, _, g1, q1, q2⟩)
  refine Wo ?_
  refine sf_if (fun h2 => ?_) fun h2 => ?_
  · refine Wo ?_
    refine fp (y_call (heapSort_f (M := M) _ v O f gf a1 b1 (by omega) (by omega) (by omega)) (by rfl) ?_)
    rintro _ A1 ⟨rfl, g1⟩
    refine Wo ?_
    obtain ⟨p1, p2⟩ := heapSort_holds (lt := ltInt) swo_ltInt f a1 b1 hab1 (by omega)
    obtain ⟨q1, q2⟩ := hT _ p1 p2
    exact sf_ret (rO A1 ⟨rfl, _, g1, q1, q2⟩)
  refine Wo ?_
  apply viaT (G := ∀ (B : Own) (f1 : Array Int) (l2 : Int), (0 ≤ l2 ∧ l2 ≤ 1000) → Gr B v 3 intF f1.toList → PermIn a1 b1 f f1 → _)
  · intro tail
    refine sf_cond (by rfl) (fun e => ?_) fun e => ?_
    · refine Wo ?_
      refine fp (y_call (breakPatterns_f (M := M) _ v O f gf a1 b1 (by omega) (by omega) (by omega)) (by rfl) ?_)
      rintro _ A1 ⟨rfl, f1, g1, p1⟩
      refine Wo ?_
      obtain ⟨l2, hl2⟩ : ∃ l2, l2 = l1 - 1 := ⟨_, rfl⟩
      rw [← hl2]
      refine fops_keep [0, 1, 2, 3, 8, 9, 10, 43, 44, 45] ?_
      refine fops_own A1 ?_
      exact tail.out A1 f1 l2 (by omega) g1 p1
    · refine Wo ?_
      refine fops_keep [0, 1, 2, 3, 8, 9, 10, 43, 44, 45] ?_
      exact tail.out O f l1 hl1 gf (Sort.permIn_refl _ _ _)
  intro B1 f1 l2 hl2 g1 p1
  have hs1 : f1.size = d.size := p1.1.trans fsz
  have hl1 : f1.toList.length = f1.size := by simp
  have B1' : Below ltInt a1 b1 f1 := hB1.perm (by omega) p1
  have hT1 : ∀ R, PermIn a1 b1 f1 R → SortedIn ltInt a1 b1 R → PermIn a b d R ∧ SortedIn ltInt a b R := fun R r1 r2 => hT R (Sort.permIn_trans _ _ _ _ _ p1 r1) r2
  clear hB1 hT gf fsz p1
  refine fp (y_lend B1 (fun h' _ i => choosePivot_f (M := M) h' v f1.toList (g1.lent (by omega) i) a1 b1 (by omega) (by omega) (by omega)) (by rfl) ?_)
  rintro _ _ ⟨p, z, rfl, hp, rfl⟩
  refine Wo ?_
  apply viaT (G := ∀ (B : Own) (f2 : Array Int) (p : Nat) (z : Int), (a1 ≤ p ∧ p < b1) → Gr B v 3 intF f2.toList → PermIn a1 b1 f1 f2 → _)
  · intro tail
    refine sf_if (fun h3 => ?_) fun h3 => ?_
    rotate_left
    · refine Wo ?_
      refine fops_keep [0, 1, 2, 3, 8, 9, 10, 11, 12, 61, 62] ?_
      refine fops_own B1 ?_
      obtain ⟨Bc, hBc⟩ : ∃ x, x = B1 := ⟨_, rfl⟩
      obtain ⟨fc, hfc⟩ : ∃ x, x = f1 := ⟨_, rfl⟩
      obtain ⟨pc, hpc⟩ : ∃ x, x = p := ⟨_, rfl⟩
      obtain ⟨zc, hzc⟩ : ∃ x, x = z := ⟨_, rfl⟩
      rw [← hBc, ← hpc, ← hzc]
      exact tail.out Bc fc pc zc (by omega) (by rw [hBc, hfc]; exact g1) (by rw [hfc]; exact Sort.permIn_refl _ _ _)
    · refine Wo ?_
      refine fp (y_call (reverseRange_f (M := M) _ v B1 f1 g1 a1 b1 (by omega) (by omega) (by omega)) (by rfl) ?_)
      rintro _ A1 ⟨rfl, g2⟩
      refine Wo ?_
      rw [show (b1 : Int) - 1 - ((p : Int) - (a1 : Int)) = ((b1 - 1 - (p - a1) : Nat) : Int) by omega]
      refine fops_keep [0, 1, 2, 3, 8, 9, 10, 11, 12, 61, 62] ?_
      refine fops_own A1 ?_
      exact tail.out A1 _ (b1 - 1 - (p - a1)) 1 (by omega) g2 (reverseRange_holds _ _ _ (by omega) (by omega))
  intro B2 f2 p z hp g2 p2
  have hs2 : f2.size = d.size := p2.1.trans hs1
  have B2' : Below ltInt a1 b1 f2 := B1'.perm (by omega) p2
  have hT2 : ∀ R, PermIn a1 b1 f2 R → SortedIn ltInt a1 b1 R → PermIn a b d R ∧ SortedIn ltInt a b R := fun R r1 r2 => hT1 R (Sort.permIn_trans _ _ _ _ _ p2 r1) r2
  clear B1' hT1 g1 p2
  clear hs1 hl1
  apply viaT (G := ∀ (B : Own) (f3 : Array Int), Gr B v 3 intF f3.toList → PermIn a1 b1 f2 f3 → _)
  · intro tail
    refine f_splitB (fun w1 => ?_) fun w1 => ?_
    rotate_left
    · refine Wo ?_
      refine sf_cond (by rfl) (fun e => by cases e) fun z1 => ?_
      clear z1
      refine Wo ?_
      refine sf_keep [0, 1, 2, 3, 8, 9, 10, 11] ?_
      obtain ⟨Bc, hBc⟩ : ∃ x, x = B2 := ⟨_, rfl⟩
      obtain ⟨fc, hfc⟩ : ∃ x, x = f2 := ⟨_, rfl⟩
      rw [← hBc]
      exact tail.out Bc fc (by rw [hBc, hfc]; exact g2) (by rw [hfc]; exact Sort.permIn_refl _ _ _)
    · refine Wo ?_
      refine f_splitB (fun w2 => ?_) fun w2 => ?_
      rotate_left
      · refine Wo ?_
        refine sf_cond (by rfl) (fun e => by cases e) fun z1 => ?_
        clear z1
        refine Wo ?_
        refine sf_keep [0, 1, 2, 3, 8, 9, 10, 11] ?_
        exact tail.out B2 f2 g2 (Sort.permIn_refl _ _ _)
      · refine Wo ?_
        refine sf_if (fun h4 => ?_) fun h4 => ?_
        rotate_left
        · refine Wo ?_
          refine sf_keep [0, 1, 2, 3, 8, 9, 10, 11] ?_
          exact tail.out B2 f2 g2 (Sort.permIn_refl _ _ _)
        · refine Wo ?_
          refine fp (y_call (partialInsertionSort_f (M := M) _ v B2 f2 g2 a1 b1 (by omega) (by omega) (by omega)) (by rfl) ?_)
          rintro _ A1 ⟨rfl, g3⟩
          refine Wo ?_
          obtain ⟨p3, s3⟩ := partialInsertionSort_holds (lt := ltInt) swo_ltInt f2 a1 b1 (by omega) (by omega) B2'
          refine sf_cond (by rfl) (fun e => ?_) fun e => ?_
          · refine Wo ?_
            obtain ⟨q1, q2⟩ := hT2 _ p3 (s3 e)
            exact sf_ret (rO A1 ⟨rfl, _, g3, q1, q2⟩)
          · refine Wo ?_
            refine sf_keep [0, 1, 2, 3, 8, 9, 10, 11] ?_
            refine sf_own A1 ?_
            exact tail.out A1 _ g3 p3
  intro B3 f3 g3 p3
  have hs3 : f3.size = d.size := p3.1.trans hs2
  have B3' : Below ltInt a1 b1 f3 := B2'.perm (by omega) p3
  have hT3 : ∀ R, PermIn a1 b1 f3 R → SortedIn ltInt a1 b1 R → PermIn a b d R ∧ SortedIn ltInt a b R := fun R r1 r2 => hT2 R (Sort.permIn_trans _ _ _ _ _ p3 r1) r2
  have hl3 : f3.toList.length = f3.size := by simp
  clear B2' hT2 g2 p3 hs2
  apply viaT
  · intro tail
    by_cases h5 : 0 < a1
    · have h6 : (a1 : Int) > 0 := by omega
      have u1 : gt f3.toList ((a1 : Int) - 1).toNat = f3[a1 - 1]! := gt_arr' (by omega) (by omega)
      have u2 : gt f3.toList p = f3[p]! := gt_arr (by omega)
      refine Sd [[],[0],[0,1],[0,1,2],[0,1,2],[0,1,2,4],[0,1,2,3,4,5],[0,1,2,3,4,5,6],[0,1,2],[0,1,2],[0,1,2,8,9],[0,1,2,8,9,10],[0,1,2,3,4,5,6,7,8,9,10,11],[0,1,2,3,4,5,6,7,8,9,10,11,12],[0,1,2,3,4,5,6,7,8,9,10,11,12,13]] 12 [Nn 0,Nn 1,Nn 2,Nn 3,Nn 4,Nn 5,Nn 6,Nn 7,Nn 8,Nn 9,Nn 10,Nn 11] ?_
      refine Di ?_
      refine Ae ?_
      refine Xv (less_v _ _ _) ?_
      refine Wo ?_
      rw [u1, u2]
      refine sf_ifn (fun h7 => ?_) fun h7 => ?_
      · refine Wo ?_
        refine fp (y_call (partitionEqual_f (M := M) _ v B3 f3 g3 a1 b1 p (by omega) (by omega) (by omega) hp) (by rfl) ?_)
        rintro _ A1 ⟨rfl, g4⟩
        refine Wo ?_
        refine sf_exit ?_
        obtain ⟨k1, k2, k3, k4, k5⟩ := round_eq swo_ltInt (partitionEqual_holds ltInt) h5 hp.1 hp.2 (by omega) B3' (by rw [ltInt_is]; exact decide_eq_false h7) (show partitionEqual ltInt f3 a1 b1 p = ((partitionEqual ltInt f3 a1 b1 p).1, (partitionEqual ltInt f3 a1 b1 p).2) from rfl)
        exact ⟨((partitionEqual ltInt f3 a1 b1 p).1, b1, l2, wb, wp, (partitionEqual ltInt f3 a1 b1 p).2), by simp only; omega, ⟨rfl, rfl, rfl, rfl, rfl, trivial⟩, rfl, A1, _, inferInstance, g4, k3.trans hs3, k2, hb1, hl2, k4, by simp only; omega, fun R r1 r2 => by obtain ⟨q1, q2⟩ := k5 R r1 r2; exact hT3 R q1 q2⟩
      · refine Wo ?_
        refine fops_keep [0, 1, 2, 3, 8, 9, 10, 11, 95, 96, 97, 98] ?_
        exact tail.out
    · have h6 : ¬ (a1 : Int) > 0 := by omega
      refine Sd [[],[0],[0,1],[0,1,2],[0,1,2],[0,1,2,4],[0,1,2,3,4,5],[0,1,2,3,4,5,6],[0,1,2],[0,1,2],[0,1,2,8,9],[0,1,2,8,9,10],[0,1,2,3,4,5,6,7,8,9,10,11],[0,1,2,3,4,5,6,7,8,9,10,11,12],[0,1,2,3,4,5,6,7,8,9,10,11,12,13]] 12 [Nn 0,Nn 1,Nn 2,Nn 3,Nn 4,Nn 5,Nn 6,Nn 7,Nn 8,Nn 9,Nn 10,Nn 11] ?_
      refine Di ?_
      refine Ae ?_
      refine Wo ?_
      refine sf_cond (by rfl) (fun e => by cases e) fun z1 => ?_
      clear z1
      refine Wo ?_
      refine fops_keep [0, 1, 2, 3, 8, 9, 10, 11, 95, 96, 97, 98] ?_
      exact tail.out
  refine fp (y_call (partition_f (M := M) _ v B3 f3 g3 a1 b1 p (by omega) (by omega) (by omega) hp) (by rfl) ?_)
  obtain ⟨mid, ap, d4, hx⟩ : ∃ mid ap d4, Sort.partition ltInt f3 a1 b1 p = (mid, ap, d4) := ⟨_, _, _, rfl⟩
  rw [hx]
  rintro _ A1 ⟨rfl, g4⟩
  simp only at g4
  obtain ⟨k1, k2, k3, k4, k5, k6, k7⟩ := round_part swo_ltInt (partition_holds ltInt) hp.1 hp.2 (by omega) B3' hx
  refine Wo ?_
  refine sf_if (fun h7 => ?_) fun h7 => ?_
  · refine Wo ?_
    refine fp (y_call (ih (mid - a1) (by omega) _ v A1 d4 g4 a1 mid l2 (by omega) (by omega) k1 hl2 k4 rfl) (by rfl) ?_)
    rintro _ A2 ⟨rfl, d5, g5, p5, s5⟩
    obtain ⟨j1, j2⟩ := k6 d5 p5 s5
    refine Wo ?_
    exact ⟨(mid + 1, b1, l2, _, ap, d5), by simp only; omega, ⟨rfl, rfl, rfl, rfl, rfl, trivial⟩, rfl, A2, _, inferInstance, g5, (p5.1.trans k3).trans hs3, by simp only; omega, hb1, hl2, j1, by simp only; omega, fun R r1 r2 => by obtain ⟨q1, q2⟩ := j2 R r1 r2; exact hT3 R q1 q2⟩
  · refine Wo ?_
    refine fp (y_call (ih (b1 - (mid + 1)) (by omega) _ v A1 d4 g4 (mid + 1) b1 l2 (by omega) (by omega) (by omega) hl2 k5 rfl) (by rfl) ?_)
    rintro _ A2 ⟨rfl, d5, g5, p5, s5⟩
    obtain ⟨j1, j2⟩ := k7 d5 p5 s5
    refine Wo ?_
    exact ⟨(a1, mid, l2, _, ap, d5), by simp only; omega, ⟨rfl, rfl, rfl, rfl, rfl, trivial⟩, rfl, A2, _, inferInstance, g5, (p5.1.trans k3).trans hs3, by simp only; omega, by simp only; omega, hl2, j1, by simp only; omega, fun R r1 r2 => by obtain ⟨q1, q2⟩ := j2 R r1 r2; exact hT3 R q1 q2⟩
theorem sort_f (h : PHeap) (v : Value) (A : Own) (xs : List Int) (g : Gr A v 3 intF xs) (hs : xs.length ≤ 1000000) : CallF Tryz.prog M 149 [v] A h fun u A' => u = .tuple #[] ∧ Gr A' v 3 intF (sortF xs) := by
  have o := g.one
  refine Cs Tryz.func149 Tryz.ntmps149 ?_
  refine Wo ?_
  rw [IntKind.wrap_u64, show ((xs.length : Nat) : Int) % 18446744073709551616 = ((xs.length : Nat) : Int) by omega]
  refine fp (y_call (len_f (M := M) _ xs.length hs) (by rfl) ?_)
  rintro _ _ ⟨rfl, L, rfl, k1, k2⟩
  refine Wo ?_
  refine fp (y_call (pdqsort_f (M := M) xs.length _ v A xs.toArray g 0 xs.length (L : Int) (by simp) (by simpa using hs) (by omega) (by omega) (.inl rfl) (by omega)) (by rfl) ?_)
  rintro _ A2 ⟨rfl, d', g', p', s'⟩
  refine Wo ?_
  refine nO A2 ⟨rfl, ?_⟩
  have e := sorted_unique_holds (lt := ltInt) swo_ltInt (fun x y h1 h2 => by simp only [ltInt_is, decide_eq_false_iff_not] at h1 h2; omega) xs.toArray d' (by simpa using p') (by simpa using s')
  have e2 : d'.toList = sortF xs := by
    rw [e]; unfold sortF
    congr 1
    funext x y
    simp only [ltInt_is]
    by_cases h : y < x
    · simp [h] <;> omega
    · simp [h] <;> omega
  rw [← e2]; exact g'
end Go.Proofs.YtcpkcmgjfcbnpaaGreatDoor
namespace Go.Proofs.YtcpkcmgjfcbnpaaGreatDoor
open Go Go.Sl
set_option maxRecDepth 100000
set_option maxHeartbeats 4000000
attribute [local irreducible] Go.Code.sf sfOps Opq opo retF Do1 anyO
variable {M : Jdg → Prop} [IsCl Tryz.prog M]
theorem compact_f (h : PHeap) (v : Value) (A : Own) (xs : List Int) (g : Gr A v 3 intF xs) (hs : xs.length ≤ 1000000) : CallF Tryz.prog M 150 [v] A h fun u A' => Gr A' u 3 intF (compactF xs) := by
  have o := g.one
  refine Cs Tryz.func150 Tryz.ntmps150 ?_
  refine Wo ?_
  refine sf_if (fun h1 => ?_) fun h1 => ?_
  · refine Wo ?_
    refine sf_ret (rO A ?_)
    match xs, h1 with
    | [], _ => exact g
    | [x], _ => exact g
    | x :: y :: l, h1 => simp at h1; omega
  refine Wo ?_
  refine sf_lp (ι := Nat) [0] (fun x => [(3, .int .i64 (x : Int))]) (fun x O => O = A ∧ 1 ≤ x ∧ x ≤ xs.length ∧ compactF (xs.take x) = xs.take x) (fun x => xs.length - x) 1 A ⟨rfl, by omega, by omega, by rw [take_succ_gt (by omega : 0 < xs.length)]; rfl⟩ ?_
  rintro k O0 ⟨rfl, hk1, hk2, hinv⟩
  refine Wo ?_
  refine sf_if (fun h2 => ?_) fun h2 => ?_
  · have q1 : gt xs ((k : Int) - 1).toNat = gt xs (k - 1) := by congr 1; omega
    have hst := compactF_step (xs := xs) (j := k - 1) (by omega)
    rw [show k - 1 + 2 = k + 1 by omega, show k - 1 + 1 = k by omega] at hst
    refine Wo ?_
    refine Sd [[],[],[0,1],[0,1,2],[],[],[5],[4,5,6],[4,5,6,7],[0,1,2,3,4,5,6,7,8]] 9 [Nn 0,Nn 1,Nn 2,Nn 3,Nn 4,Nn 5,Nn 6,Nn 7,Nn 8] ?_
    refine Di ?_
    refine Ae ?_
    refine Wo ?_
    rw [q1]
    refine sf_if (fun h3 => ?_) fun h3 => ?_
    · rw [if_pos h3, hinv] at hst
      obtain ⟨b, cap, rfl, hcap⟩ := g.shape (by omega)
      refine Wo ?_
      refine fp (Rq ?_ (q_sliceLo (l := k) (by infer_instance) (by infer_instance) (by rfl) (by rfl) (by omega)))
      rw [if_neg (by omega : ¬ cap = k)]
      refine Wo ?_
      refine sf_lp (ι := Nat × Nat × List Int) [0, 4] (fun x => [(3, .int .i64 (x.1 : Int)), (5, .int .i64 (x.2.1 : Int))]) (fun x O => Gr O (.slice (some ⟨b, 0, none⟩) xs.length cap) 3 intF x.2.2 ∧ x.2.2.length = xs.length ∧ 1 ≤ x.2.1 ∧ x.2.1 ≤ xs.length - k ∧ 1 ≤ x.1 ∧ x.1 + 1 ≤ k + x.2.1 ∧ x.2.2.take x.1 = compactF (xs.take (k + x.2.1)) ∧ ∀ i, k + x.2.1 ≤ i + 1 → gt x.2.2 i = gt xs i) (fun x => xs.length - x.2.1) (k, 1, xs) _ ⟨g, rfl, by simp only; omega, by simp only; omega, hk1, by simp only; omega, hst.symm, fun _ _ => rfl⟩ ?_
      rintro ⟨j, m, ys⟩ O ⟨gy, hly, hm1, hm2, hj1, hj2, hy1, hy2⟩
      simp only at gy hly hm1 hm2 hj1 hj2 hy1 hy2 ⊢
      clear hinv q1
      refine Wo ?_
      refine sf_if (fun h4 => ?_) fun h4 => ?_
      · have u1 : gt ys (k + ((m : Int)).toNat) = gt xs (k + m) := by rw [Int.toNat_natCast]; exact hy2 _ (by omega)
        have u2 : gt ys (k + ((m : Int) - 1).toNat) = gt xs (k + m - 1) := by rw [show k + ((m : Int) - 1).toNat = k + m - 1 by omega]; exact hy2 _ (by omega)
        have hs2 := compactF_step (xs := xs) (j := k + m - 1) (by omega)
        rw [show k + m - 1 + 2 = k + (m + 1) by omega, show k + m - 1 + 1 = k + m by omega, ← hy1] at hs2
        refine Wo ?_
        refine Sd [[],[],[0,1],[0,1,2],[],[],[5],[4,5,6],[4,5,6,7],[0,1,2,3,4,5,6,7,8]] 9 [Nn 0,Nn 1,Nn 2,Nn 3,Nn 4,Nn 5,Nn 6,Nn 7,Nn 8] ?_
        refine Da ?_
        refine Yq (by rfl) (fun X h' [_] => z_indexT (k := k) (size := 1) (by rfl) (by rfl) (.slice (some ⟨b, 0, none⟩) xs.length cap) ⟨rfl, rfl⟩ (by omega) (by omega) (by omega) (by infer_instance) (by infer_instance)) ?_
        refine Da ?_
        refine Yq (by rfl) (fun X h' [_] => z_indexT (k := k) (size := 1) (by rfl) (by rfl) (.slice (some ⟨b, 0, none⟩) xs.length cap) ⟨rfl, rfl⟩ (by omega) (by omega) (by omega) (by infer_instance) (by infer_instance)) ?_
        refine Da ?_
        refine Ae ?_
        refine Wo ?_
        rw [u1, u2]
        refine sf_if (fun h5 => ?_) fun h5 => ?_
        · refine Wo ?_
          rw [if_neg h5] at hs2
          refine fp (Rq ?_ (z_indexT (k := k) (size := 1) (by rfl) (by rfl) (.slice (some ⟨b, 0, none⟩) xs.length cap) ⟨rfl, rfl⟩ (by omega) (by omega) (by omega) (by infer_instance) (by infer_instance)))
          refine Wo ?_
          refine Xg gy fun A2 zs hz hlz fz gz => ?_
          refine Wo ?_
          rw [u1] at hz
          refine ⟨(j + 1, m + 1, zs), by simp only; omega, ⟨rfl, rfl, trivial⟩, rfl, A2, _, inferInstance, gz, by simp only; omega, by simp only; omega, by simp only; omega, by simp only; omega, by simp only; omega, ?_, ?_⟩
          · simp only
            rw [hs2, hz, take_succ_gt (by simp; omega), gt_set (by omega), List.take_set_of_le (by omega)]
          · intro i hi
            simp only at hi ⊢
            rw [hz, gt_set_ne (by omega)]
            exact hy2 i (by omega)
        · rw [if_pos (by omega)] at hs2
          refine Wo ?_
          refine ⟨(j, m + 1, ys), by simp only; omega, ⟨rfl, rfl, trivial⟩, rfl, O, _, inferInstance, gy, hly, by simp only; omega, by simp only; omega, hj1, by simp only; omega, hs2.symm, fun i hi => hy2 i (by simp only at hi; omega)⟩
      · refine sf_exit ?_
        have hm : k + m = xs.length := by omega
        rw [hm, List.take_of_length_le (Nat.le_refl _)] at hy1
        refine Wo ?_
        refine fp (Rq ?_ (q_sliceLo (l := j) (by infer_instance) (by infer_instance) (by rfl) (by rfl) (by omega)))
        rw [if_neg (by omega : ¬ cap = j)]
        refine fp (y_clearT (k := j) (size := 1) (by rfl) (by rfl) gy ⟨rfl, rfl⟩ (by omega) (by omega) (by omega) (by infer_instance) (by infer_instance) (by infer_instance) (by infer_instance) (by exact FlatOne.one _) (by rfl) (by decide) fun A2 gz => ?_)
        refine Wo ?_
        refine fp (Rq ?_ (q_sliceHi (l := j) (by infer_instance) (by infer_instance) (by rfl) (by rfl) (by omega)))
        refine Wo ?_
        obtain ⟨b2, cap2, e2, hc2, cut⟩ := gz.cut (by simp; omega)
        have hcut := cut j (by simp; omega)
        rw [Value.slice.injEq] at e2
        obtain ⟨e3, _, rfl⟩ := e2
        simp only [Option.some.injEq, Addr.mk.injEq] at e3
        obtain rfl := e3.1
        refine sf_ret (rO A2 ?_)
        rw [← hy1]
        rw [List.take_left' (by rw [List.length_take]; omega)] at hcut
        exact hcut
    · refine Wo ?_
      rw [if_neg h3, hinv] at hst
      exact ⟨k + 1, by omega, ⟨rfl, trivial⟩, rfl, _, _, inferInstance, rfl, by omega, by omega, by rw [hst, take_succ_gt (by omega : k < xs.length)]⟩
  · refine sf_exit ?_
    refine Wo ?_
    refine sf_ret (rO O0 ?_)
    rw [List.take_of_length_le (by omega)] at hinv
    rw [hinv]; exact g
theorem spreadPass_v (h : PHeap) (w : Int) : CallV Tryz.prog M 141 [.int .i64 w] h (.agg #[.int .i64 w, .int .i64 0, .int .i64 0, .int .i64 0]) := by
  refine Cs Tryz.func141 Tryz.ntmps141 ?_
  repeat first | refine R1 ?_ | refine R2 fun _ => ?_
  exact sf_ret (rV rfl)
theorem spreadTurn_v (h : PHeap) (w : Int) : CallV Tryz.prog M 142 [.int .i64 w] h (.agg #[.int .i64 0, .int .i64 w, .int .i64 0, .int .i64 0]) := by
  refine Cs Tryz.func142 Tryz.ntmps142 ?_
  repeat first | refine R1 ?_ | refine R2 fun _ => ?_
  exact sf_ret (rV rfl)
theorem spreadStop_v (h : PHeap) (w : Int) : CallV Tryz.prog M 143 [.int .i64 w] h (.agg #[.int .i64 0, .int .i64 0, .int .i64 0, .int .i64 w]) := by
  refine Cs Tryz.func143 Tryz.ntmps143 ?_
  repeat first | refine R1 ?_ | refine R2 fun _ => ?_
  exact sf_ret (rV rfl)
theorem spreadSplit_v (h : PHeap) (w : Int) (hw : 0 ≤ w ∧ w ≤ 64) : CallV Tryz.prog M 144 [.int .i64 w] h (.agg #[.int .i64 (w / 2), .int .i64 (w / 2), .int .i64 (w - w / 2 - w / 2), .int .i64 0]) := by
  refine Cs Tryz.func144 Tryz.ntmps144 ?_
  repeat first | refine R1 ?_ | refine R2 fun _ => ?_
  exact sf_ret (rV rfl)
theorem spreadDim_v (h : PHeap) (w : Int) (hw : 0 ≤ w ∧ w ≤ 64) : CallV Tryz.prog M 145 [.int .i64 w] h (.agg #[.int .i64 (w / 2), .int .i64 0, .int .i64 (w - w / 2), .int .i64 0]) := by
  refine Cs Tryz.func145 Tryz.ntmps145 ?_
  repeat first | refine R1 ?_ | refine R2 fun _ => ?_
  exact sf_ret (rV rfl)
def spreadV (s : Spread) : Value := .agg #[.int .i64 s.pass, .int .i64 s.turn, .int .i64 s.lost, .int .i64 s.stop]
theorem spreadOf_v (h : PHeap) (k w : Int) (hk : 0 ≤ k ∧ k ≤ 7) (hw : 0 ≤ w ∧ w ≤ 64) : CallV Tryz.prog M 111 [.int .i64 k, .int .i64 w] h (spreadV (spread k w)) := by
  obtain ⟨n, rfl⟩ : ∃ n : Nat, k = n := ⟨k.toNat, by omega⟩
  have hn : n = 0 ∨ n = 1 ∨ n = 2 ∨ n = 3 ∨ n = 4 ∨ n = 5 ∨ n = 6 ∨ n = 7 := by omega
  refine Cs Tryz.func111 Tryz.ntmps111 ?_
  repeat first | refine R1 ?_ | refine R2 fun _ => ?_
  rcases hn with rfl | rfl | rfl | rfl | rfl | rfl | rfl | rfl
  · repeat first | refine R1 ?_ | refine R2 fun _ => ?_
    refine fp (y_callC2 (by rfl) (by rfl) (by exact spreadPass_v h w) ?_)
    rintro _ _ ⟨rfl, rfl⟩
    repeat first | refine R1 ?_ | refine R2 fun _ => ?_
    exact sf_ret (rV rfl)
  · repeat first | refine R1 ?_ | refine R2 fun _ => ?_
    refine fp (y_callC2 (by rfl) (by rfl) (by exact spreadStop_v h w) ?_)
    rintro _ _ ⟨rfl, rfl⟩
    repeat first | refine R1 ?_ | refine R2 fun _ => ?_
    exact sf_ret (rV rfl)
  · repeat first | refine R1 ?_ | refine R2 fun _ => ?_
    refine fp (y_callC2 (by rfl) (by rfl) (by exact spreadTurn_v h w) ?_)
    rintro _ _ ⟨rfl, rfl⟩
    repeat first | refine R1 ?_ | refine R2 fun _ => ?_
    exact sf_ret (rV rfl)
  · repeat first | refine R1 ?_ | refine R2 fun _ => ?_
    refine fp (y_callC2 (by rfl) (by rfl) (by exact spreadTurn_v h w) ?_)
    rintro _ _ ⟨rfl, rfl⟩
    repeat first | refine R1 ?_ | refine R2 fun _ => ?_
    exact sf_ret (rV rfl)
  · repeat first | refine R1 ?_ | refine R2 fun _ => ?_
    refine fp (y_callC2 (by rfl) (by rfl) (by exact spreadSplit_v h w hw) ?_)
    rintro _ _ ⟨rfl, rfl⟩
    repeat first | refine R1 ?_ | refine R2 fun _ => ?_
    exact sf_ret (rV rfl)
  · repeat first | refine R1 ?_ | refine R2 fun _ => ?_
    refine fp (y_callC2 (by rfl) (by rfl) (by exact spreadSplit_v h w hw) ?_)
    rintro _ _ ⟨rfl, rfl⟩
    repeat first | refine R1 ?_ | refine R2 fun _ => ?_
    exact sf_ret (rV rfl)
  · repeat first | refine R1 ?_ | refine R2 fun _ => ?_
    refine fp (y_callC2 (by rfl) (by rfl) (by exact spreadDim_v h w hw) ?_)
    rintro _ _ ⟨rfl, rfl⟩
    repeat first | refine R1 ?_ | refine R2 fun _ => ?_
    exact sf_ret (rV rfl)
  · repeat first | refine R1 ?_ | refine R2 fun _ => ?_
    refine fp (y_callC2 (by rfl) (by rfl) (by exact spreadStop_v h w) ?_)
    rintro _ _ ⟨rfl, rfl⟩
    repeat first | refine R1 ?_ | refine R2 fun _ => ?_
    exact sf_ret (rV rfl)
theorem beamFrom_v (h : PHeap) (c : Value) (g : Grid) (s : Sl h c cellF g.cells) (e : gridOk g = true) (a d w : Int) (ha : 0 ≤ a ∧ a < 1000) (hd : 0 ≤ d ∧ d ≤ 3) : CallV Tryz.prog M 112 [.agg #[.int .i64 g.wide, c], .int .i64 a, .int .i64 d, .int .i64 w] h (.agg #[.int .i64 (beamFrom g a d w).at', .int .i64 (beamFrom g a d w).dir, .int .i64 (beamFrom g a d w).weight, .int .i64 (beamFrom g a d w).out]) := by
  have o1 := s.one
  have kg := gok e
  refine Cs Tryz.func112 Tryz.ntmps112 ?_
  repeat first | refine R1 ?_ | refine R2 fun _ => ?_
  refine Xv (rayStep_v h c g a d s ⟨kg.w1, kg.w5⟩ ha hd) ?_
  unfold stepV
  cases en : nextAt g a d with
  | some b =>
    simp only
    repeat first | refine R1 ?_ | refine R2 fun _ => ?_
    refine sf_cond (by rfl) (fun e => by cases e) fun z1 => ?_
    clear z1
    repeat first | refine R1 ?_ | refine R2 fun _ => ?_
    refine sf_ret (rV ?_)
    simp only [beamFrom, en]
  | none =>
    simp only
    repeat first | refine R1 ?_ | refine R2 fun _ => ?_
    refine sf_cond (by rfl) (fun _ => ?_) fun e => by cases e
    repeat first | refine R1 ?_ | refine R2 fun _ => ?_
    refine Xv (sightOf_v h _ g (gridB_mk s) e a d hd) ?_
    repeat first | refine R1 ?_ | refine R2 fun _ => ?_
    refine sf_ret (rV ?_)
    simp only [beamFrom, en]
theorem endOf_f (h : PHeap) (b : Nat) (vv ev : Value) (ov : Sl.One vv) (AE : Own) (es : List LEnd) (gr : Gr AE ev 117 endF es) (hl : es.length ≤ 200000) (kind a w : Int) :
    CallF Tryz.prog M 110 [.pointer (some ⟨b, 0, none⟩), .int .i64 kind, .int .i64 a, .int .i64 w] ((b, .cells #[vv, ev] 114) :: AE) h fun _ A => ∃ ev' AE', A = (b, .cells #[vv, ev'] 114) :: AE' ∧ Gr AE' ev' 117 endF (es ++ endIf kind a w) := by
  have o1 := gr.one
  refine Cs Tryz.func110 Tryz.ntmps110 ?_
  refine Wo ?_
  refine sf_if (fun e => ?_) fun e => ?_
  · refine Wo ?_
    refine Xb fun u Au gu => ?_
    refine Wo ?_
    refine Xa gr gu fun ev2 A2 g2 => ?_
    have o2 := g2.one
    refine Wo ?_
    exact nO ((b, .cells #[vv, ev2] 114) :: A2) ⟨ev2, A2, rfl, by rw [endIf, if_pos e]; exact g2⟩
  · refine Wo ?_
    exact nO ((b, .cells #[vv, ev] 114) :: AE) ⟨ev, AE, rfl, by rw [endIf, if_neg e, List.append_nil]; exact gr⟩
theorem trailOf_f (h : PHeap) (c : Value) (g : Grid) (s : Sl h c cellF g.cells) (e : gridOk g = true) (k : Int) (hk : 0 ≤ k ∧ k < manyOf g) : CallF Tryz.prog M 73 [.agg #[.int .i64 g.wide, c], .int .i64 k] [] h fun v A => ∃ vv ev AV AE, v = .agg #[vv, ev] ∧ A = AV ++ AE ∧ Gr AV vv 155 visitF (goLight g k).1 ∧ Gr AE ev 117 endF (goLight g k).2 := by
  have o1 := s.one
  have kg := gok e
  have hm := kg.small
  obtain ⟨sz, v, es, hc, hg, hsz, hok⟩ := goLight_is kg hk.1 hk.2
  rw [hg]
  have er : sightRayV g k = .tuple #[.agg #[.int .i64 (rayAt g k).at', .int .i64 (rayAt g k).dir], .bool true] := by
    rw [sightRayV, sightMany, if_pos e, if_pos hk]
  obtain ⟨⟨ra0, ra1⟩, rd0, rd1⟩ := rayAt_ok kg hk.1 hk.2
  refine Cs Tryz.func73 Tryz.ntmps73 ?_
  repeat first | refine R1 ?_ | refine R2 fun _ => ?_
  refine Xv (sightRay_v h _ g (gridB_mk s) k) ?_
  rw [er]
  repeat first | refine R1 ?_ | refine R2 fun _ => ?_
  refine sf_cond (by rfl) (fun e => by cases e) fun z1 => ?_
  clear z1
  repeat first | refine R1 ?_ | refine R2 fun _ => ?_
  refine Xb fun w Aw gw => ?_
  repeat first | refine R1 ?_ | refine R2 fun _ => ?_
  rename_i b2 b4 b5 b6
  have t0 : Todo g [(⟨(rayAt g k).at', (rayAt g k).dir, 64, -1⟩ : Beam)] (sz + 0) (v ++ []) (es ++ []) := .cons (.inr (.inr ⟨by simp, by simp, ⟨ra0, ra1⟩, ⟨rd0, rd1⟩, 6600, hc⟩)) (by simp) hok.n1 .nil
  have hlv := hok.lv
  have hle := hok.le
  simp only at hlv hle
  refine sf_lp (ι := Nat × Value) [2, 4, 5] (fun x => [(8, x.2)]) (fun x O => ∃ vv ev AS AV AE, O = (b5, .cells #[vv, ev] 114) :: (AS ++ (AV ++ (AE ++ [(b6, .cells #[.int .i64 (rayAt g k).at', .int .i64 (rayAt g k).dir] 151), (b4, .cells #[.slice none 0 0, .slice none 0 0] 114), (b2, .cells #[.int .i64 g.wide, c] 25)]))) ∧ ∃ st V E v' e', Gr AS x.2 157 beamF st ∧ Gr AV vv 155 visitF V ∧ Gr AE ev 117 endF E ∧ Todo g st.reverse x.1 v' e' ∧ v = V ++ v' ∧ es = E ++ e' ∧ x.1 ≤ 26000) (fun x => x.1) (sz, w) ((b5, .cells #[.slice none 0 0, .slice none 0 0] 114) :: (Aw ++ ([] ++ ([] ++ [(b6, .cells #[.int .i64 (rayAt g k).at', .int .i64 (rayAt g k).dir] 151), (b4, .cells #[.slice none 0 0, .slice none 0 0] 114), (b2, .cells #[.int .i64 g.wide, c] 25)])))) ⟨_, _, Aw, [], [], rfl, _, [], [], v, es, gw, Gr.nil _ _, Gr.nil _ _, by simpa using t0, rfl, rfl, hsz⟩ ?_
  rintro ⟨m, sv⟩ O ⟨vv, ev, AS, AV, AE, rfl, st, V, E, v', e', gs, gv, ge, td, hv, he, hm26⟩
  simp only at gs td hm26 ⊢
  have lvv : V.length ≤ 26000 := by have := congrArg List.length hv; simp only [List.length_append] at this; omega
  have lee : E.length ≤ 52000 := by have := congrArg List.length he; simp only [List.length_append] at this; omega
  have os := gs.one
  have ovv := gv.one
  have oev := ge.one
  have lst := td.len
  rw [List.length_reverse] at lst
  repeat first | refine R1 ?_ | refine R2 fun _ => ?_
  refine sf_if (fun e1 => ?_) fun e1 => ?_
  · obtain ⟨s', b, rfl⟩ := snoc_of (xs := st) (by omega)
    have hlen : (s' ++ [b]).length = s'.length + 1 := by simp
    haveI : FlatV beamF (gt (s' ++ [b]) s'.length) [.int .i64 b.at', .int .i64 b.dir, .int .i64 b.weight, .int .i64 b.out] := ⟨by rw [gt_snoc]; rfl⟩
    obtain ⟨bb, cap, rfl, hcap, cut⟩ := gs.cut (by omega)
    have gs2 := cut s'.length (by omega)
    rw [List.take_left'  rfl] at gs2
    rw [List.reverse_append, List.reverse_singleton, List.singleton_append] at td
    cases td with
    | @cons _ _ n m v1 v2 ea eb hb hbw hn t =>
    clear cut
    have hl1 : (((s' ++ [b]).length : Nat) : Int) - 1 = ((s'.length : Nat) : Int) := by omega
    repeat first | refine R1 ?_ | refine R2 fun _ => ?_
    rw [hl1]
    repeat first | refine R1 ?_ | refine R2 fun _ => ?_
    rw [hl1]
    refine fp (Rq ?_ (q_sliceHi (l := s'.length) (by infer_instance) (by infer_instance) (by rfl) (by rfl) (by omega)))
    repeat first | refine R1 ?_ | refine R2 fun _ => ?_
    rename_i b9 b10
    refine sf_if (fun e2 => ?_) fun e2 => ?_
    · have hz : (n, v1, ea) = (1, [], []) := by
        rcases hb with ⟨_, q⟩ | ⟨q, _⟩ | ⟨q, _⟩
        · exact q
        · exact absurd e2 q
        · exact absurd e2 q
      simp only [Prod.mk.injEq] at hz
      obtain ⟨rfl, rfl, rfl⟩ := hz
      refine sf_exit ?_
      exact ⟨(m, .slice (some ⟨bb, 0, none⟩) s'.length cap), by simp only; omega, ⟨rfl, trivial⟩, rfl, (b5, .cells #[vv, ev] 114) :: (AS ++ (AV ++ (AE ++ [(b6, .cells #[.int .i64 (rayAt g k).at', .int .i64 (rayAt g k).dir] 151), (b4, .cells #[.slice none 0 0, .slice none 0 0] 114), (b2, .cells #[.int .i64 g.wide, c] 25)]))), _, inferInstance, vv, ev, AS, AV, AE, rfl, s', V, E, v2, eb, gs2, gv, ge, t, hv, he, by simp only; omega⟩
    repeat first | refine R1 ?_ | refine R2 fun _ => ?_
    refine sf_if (fun e3 => ?_) fun e3 => ?_
    · have hz : (n, v1, ea) = (1, [], [⟨0, b.out, b.weight⟩]) := by
        rcases hb with ⟨q, _⟩ | ⟨_, _, q⟩ | ⟨_, q, _⟩
        · exact absurd q e2
        · exact q
        · omega
      simp only [Prod.mk.injEq] at hz
      obtain ⟨rfl, rfl, rfl⟩ := hz
      repeat first | refine R1 ?_ | refine R2 fun _ => ?_
      refine fp (y_call (endOf_f h b5 vv ev ovv AE E ge (by omega) 0 b.out b.weight) (by rfl) ?_)
      rintro _ _ ⟨ev2, AE2, rfl, ge2⟩
      rw [endIf, if_pos (by omega)] at ge2
      repeat first | refine R1 ?_ | refine R2 fun _ => ?_
      refine sf_exit ?_
      exact ⟨(m, .slice (some ⟨bb, 0, none⟩) s'.length cap), by simp only; omega, ⟨rfl, trivial⟩, rfl, (b5, .cells #[vv, ev2] 114) :: (AS ++ (AV ++ (AE2 ++ [(b6, .cells #[.int .i64 (rayAt g k).at', .int .i64 (rayAt g k).dir] 151), (b4, .cells #[.slice none 0 0, .slice none 0 0] 114), (b2, .cells #[.int .i64 g.wide, c] 25)]))), _, inferInstance, vv, ev2, AS, AV, AE2, rfl, s', V, _, v2, eb, gs2, gv, ge2, t, hv, by rw [he]; simp, by simp only; omega⟩
    obtain ⟨ha, hd', nn, hcm⟩ : (0 ≤ b.at' ∧ b.at' < g.cells.length) ∧ (0 ≤ b.dir ∧ b.dir ≤ 3) ∧ ∃ n', comeF g n' b.at' b.dir b.weight = some (n, v1, ea) := by
      rcases hb with ⟨q, _⟩ | ⟨_, q, _⟩ | ⟨_, _, q⟩
      · exact absurd q e2
      · omega
      · exact q
    have ha' : 0 ≤ b.at' ∧ b.at' < 1000 := by omega
    obtain ⟨n', v1', e1'', hr, td2⟩ := todo_two kg ha.1 ha.2 hd'.1 hd'.2 (by omega) hbw.2 hcm t
    simp only [Prod.mk.injEq] at hr
    obtain ⟨rfl, rfl, rfl⟩ := hr
    have ls' : s'.length ≤ 26000 := by omega
    clear lst hn
    have hkd := kg.kind ha.1 ha.2
    clear hb hcm t hc
    repeat first | refine R1 ?_ | refine R2 fun _ => ?_
    refine Xb fun u Au gu => ?_
    repeat first | refine R1 ?_ | refine R2 fun _ => ?_
    refine Xa gv gu fun vv2 AV2 gv2 => ?_
    have ov2 := gv2.one
    repeat first | refine R1 ?_ | refine R2 fun _ => ?_
    have csp := spreadOf_v (M := M) h (gt g.cells b.at'.toNat).kind b.weight ⟨hkd.1, hkd.2.1⟩ hbw
    unfold spreadV at csp
    refine Xv (csp) ?_
    repeat first | refine R1 ?_ | refine R2 fun _ => ?_
    refine sf_if (fun e7 => ?_) fun e7 => ?_
    · repeat first | refine R1 ?_ | refine R2 fun _ => ?_
      refine fp (y_call (endOf_f h b5 vv2 ev ov2 AE E ge (by omega) 2 b.at' (spread (gt g.cells b.at'.toNat).kind b.weight).stop) (by rfl) ?_)
      rintro _ _ ⟨ev2, AE2, rfl, ge2⟩
      have oe2 := ge2.one
      repeat first | refine R1 ?_ | refine R2 fun _ => ?_
      refine fp (y_call (endOf_f h b5 vv2 ev2 ov2 AE2 _ ge2 (by simp only [List.length_append]; have := endIf_len 2 b.at' (spread (gt g.cells b.at'.toNat).kind b.weight).stop; omega) 3 b.at' (spread (gt g.cells b.at'.toNat).kind b.weight).lost) (by rfl) ?_)
      rintro _ _ ⟨ev3, AE3, rfl, ge3⟩
      have oe3 := ge3.one
      have hH : hereF g b.at' b.weight = endIf 2 b.at' (spread (gt g.cells b.at'.toNat).kind b.weight).stop ++ endIf 3 b.at' (spread (gt g.cells b.at'.toNat).kind b.weight).lost := by
        unfold hereF; simp [e7]
      repeat first | refine R1 ?_ | refine R2 fun _ => ?_
      refine Sd [[],[],[],[2],[],[4],[],[6],[4,5,6,7],[],[9],[1,2,3,4,5,6,7,8,9,10],[],[],[13],[],[15],[],[17],[1,2,3,4,5,6,7,8,9,10,11,12,13,14,15,16,17,18],[1,2,3,4,5,6,7,8,9,10,11,12,13,14,15,16,17,18,19],[0,1,2,3,4,5,6,7,8,9,10,11,12,13,14,15,16,17,18,19,20],[0,1,2,3,4,5,6,7,8,9,10,11,12,13,14,15,16,17,18,19,20,21]] 21 [Nn 0,Nn 1,Nn 2,Nn 3,Nn 4,Nn 5,Nn 6,Nn 7,Nn 9,Nn 10,Nn 12,Nn 13,Nn 14,Nn 15,Nn 16,Nn 17,Nn 18,Yy 8,Yy 11,Yy 19,Yy 20] ?_
      refine Da ?_
      refine Yv (dirTurn_v h (gt g.cells b.at'.toNat).kind b.dir hd') ?_
      refine Da ?_
      refine Yv (beamFrom_v h c g s e b.at' (dirTurn (gt g.cells b.at'.toNat).kind b.dir) (spread (gt g.cells b.at'.toNat).kind b.weight).turn ha' (dirTurn_ok hd'.1 hd'.2)) ?_
      refine Da ?_
      refine Yv (beamFrom_v h c g s e b.at' b.dir (spread (gt g.cells b.at'.toNat).kind b.weight).pass ha' hd') ?_
      refine Da ?_
      refine Yb fun w3 Aw3 gw3 => ?_
      refine Da ?_
      refine Ae ?_
      refine Xa gs2 gw3 fun sv4 AS4 gs4 => ?_
      have os4 := gs4.one
      repeat first | refine R1 ?_ | refine R2 fun _ => ?_
      exact ⟨(n' + m, sv4), by simp only; omega, ⟨rfl, trivial⟩, rfl, (b5, .cells #[vv2, ev3] 114) :: (AS4 ++ (AV2 ++ (AE3 ++ [(b6, .cells #[.int .i64 (rayAt g k).at', .int .i64 (rayAt g k).dir] 151), (b4, .cells #[.slice none 0 0, .slice none 0 0] 114), (b2, .cells #[.int .i64 g.wide, c] 25)]))), _, inferInstance, vv2, ev3, AS4, AV2, AE3, rfl, _, _, _, v1' ++ v2, e1'' ++ eb, gs4, gv2, ge3, by simpa using td2, by rw [hv]; simp, by rw [he, hH]; simp, by simp only; omega⟩
    · repeat first | refine R1 ?_ | refine R2 fun _ => ?_
      refine fp (y_call (endOf_f h b5 vv2 ev ov2 AE E ge (by omega) 1 b.at' (spread (gt g.cells b.at'.toNat).kind b.weight).stop) (by rfl) ?_)
      rintro _ _ ⟨ev2, AE2, rfl, ge2⟩
      have oe2 := ge2.one
      repeat first | refine R1 ?_ | refine R2 fun _ => ?_
      refine fp (y_call (endOf_f h b5 vv2 ev2 ov2 AE2 _ ge2 (by simp only [List.length_append]; have := endIf_len 1 b.at' (spread (gt g.cells b.at'.toNat).kind b.weight).stop; omega) 3 b.at' (spread (gt g.cells b.at'.toNat).kind b.weight).lost) (by rfl) ?_)
      rintro _ _ ⟨ev3, AE3, rfl, ge3⟩
      have oe3 := ge3.one
      have hH : hereF g b.at' b.weight = endIf 1 b.at' (spread (gt g.cells b.at'.toNat).kind b.weight).stop ++ endIf 3 b.at' (spread (gt g.cells b.at'.toNat).kind b.weight).lost := by
        unfold hereF; simp [e7]
      repeat first | refine R1 ?_ | refine R2 fun _ => ?_
      refine Sd [[],[],[],[2],[],[4],[],[6],[4,5,6,7],[],[9],[1,2,3,4,5,6,7,8,9,10],[],[],[13],[],[15],[],[17],[1,2,3,4,5,6,7,8,9,10,11,12,13,14,15,16,17,18],[1,2,3,4,5,6,7,8,9,10,11,12,13,14,15,16,17,18,19],[0,1,2,3,4,5,6,7,8,9,10,11,12,13,14,15,16,17,18,19,20],[0,1,2,3,4,5,6,7,8,9,10,11,12,13,14,15,16,17,18,19,20,21]] 21 [Nn 0,Nn 1,Nn 2,Nn 3,Nn 4,Nn 5,Nn 6,Nn 7,Nn 9,Nn 10,Nn 12,Nn 13,Nn 14,Nn 15,Nn 16,Nn 17,Nn 18,Yy 8,Yy 11,Yy 19,Yy 20] ?_
      refine Da ?_
      refine Yv (dirTurn_v h (gt g.cells b.at'.toNat).kind b.dir hd') ?_
      refine Da ?_
      refine Yv (beamFrom_v h c g s e b.at' (dirTurn (gt g.cells b.at'.toNat).kind b.dir) (spread (gt g.cells b.at'.toNat).kind b.weight).turn ha' (dirTurn_ok hd'.1 hd'.2)) ?_
      refine Da ?_
      refine Yv (beamFrom_v h c g s e b.at' b.dir (spread (gt g.cells b.at'.toNat).kind b.weight).pass ha' hd') ?_
      refine Da ?_
      refine Yb fun w3 Aw3 gw3 => ?_
      refine Da ?_
      refine Ae ?_
      refine Xa gs2 gw3 fun sv4 AS4 gs4 => ?_
      have os4 := gs4.one
      repeat first | refine R1 ?_ | refine R2 fun _ => ?_
      exact ⟨(n' + m, sv4), by simp only; omega, ⟨rfl, trivial⟩, rfl, (b5, .cells #[vv2, ev3] 114) :: (AS4 ++ (AV2 ++ (AE3 ++ [(b6, .cells #[.int .i64 (rayAt g k).at', .int .i64 (rayAt g k).dir] 151), (b4, .cells #[.slice none 0 0, .slice none 0 0] 114), (b2, .cells #[.int .i64 g.wide, c] 25)]))), _, inferInstance, vv2, ev3, AS4, AV2, AE3, rfl, _, _, _, v1' ++ v2, e1'' ++ eb, gs4, gv2, ge3, by simpa using td2, by rw [hv]; simp, by rw [he, hH]; simp, by simp only; omega⟩
  · refine sf_exit ?_
    obtain rfl : st = [] := List.eq_nil_of_length_eq_zero (by omega)
    cases td
    repeat first | refine R1 ?_ | refine R2 fun _ => ?_
    exact sf_ret (rO (AV ++ AE) ⟨vv, ev, AV, AE, rfl, rfl, by rw [hv, List.append_nil]; exact gv, by rw [he, List.append_nil]; exact ge⟩)
theorem trailLight_v (h : PHeap) (c : Value) (g : Grid) (s : Sl h c cellF g.cells) (e : gridOk g = true) (k : Int) (hk : 0 ≤ k ∧ k < manyOf g) : CallV Tryz.prog M 35 [.agg #[.int .i64 g.wide, c], .int .i64 k] h (.int .i64 (trailLight g k)) := by
  have o1 := s.one
  have kg := gok e
  obtain ⟨sz, v, es, hc, hg, hsz, hok⟩ := goLight_is kg hk.1 hk.2
  have hle := hok.le
  have hes : ∀ e ∈ es, EndOk g 64 e := hok.es
  simp only at hle
  refine Cs Tryz.func35 Tryz.ntmps35 ?_
  repeat first | refine R1 ?_ | refine R2 fun _ => ?_
  refine fp (y_call (trailOf_f h c g s e k hk) (by rfl) ?_)
  rintro _ _ ⟨vv, ev, AV, AE, rfl, rfl, gv, ge⟩
  rw [hg] at gv ge
  have ov := gv.one
  have oe := ge.one
  simp only at ge gv
  have hg' := hg
  clear hc hg
  repeat first | refine R1 ?_ | refine R2 fun _ => ?_
  rename_i b2
  refine sf_lp (ι := Nat) [2, 11, 12] (fun k => [(5, .int .i64 (sumF (endLight g) (es.take k))), (13, .int .i64 (k : Int))]) (fun k O => k ≤ es.length ∧ O = AV ++ (AE ++ [(b2, .cells #[.int .i64 g.wide, c] 25)])) (fun k => es.length - k) 0 (AV ++ (AE ++ [(b2, .cells #[.int .i64 g.wide, c] 25)])) ⟨by omega, rfl⟩ ?_
  rintro j O ⟨hj, rfl⟩
  have hsum := lightOf_bd kg hes j (by omega)
  repeat first | refine R1 ?_ | refine R2 fun _ => ?_
  refine sf_if (fun e1 => ?_) fun e1 => ?_
  · have hj1 : j < es.length := by omega
    have ek := hes (gt es j) (by rw [gt_eq hj1]; exact List.getElem_mem _)
    have hst := sumF_step (f := endLight g) hj1
    have hbd := endLight_bd kg ek
    repeat first | refine R1 ?_ | refine R2 fun _ => ?_
    refine sf_if (fun e2 => ?_) fun e2 => ?_
    · have hcl := ek.cell (by omega)
      rw [endLight, if_pos e2] at hst hbd
      repeat first | refine R1 ?_ | refine R2 fun _ => ?_
      refine Sd [[],[],[1],[],[3],[],[5],[3,4,5,6],[3,4,5,6,7],[3,4,5,6,7,8],[1,2,3,4,5,6,7,8,9],[0,1,2,3,4,5,6,7,8,9,10],[0,1,2,3,4,5,6,7,8,9,10,11]] 11 [Nn 0,Nn 1,Nn 2,Nn 3,Nn 4,Nn 5,Nn 6,Nn 7,Nn 8,Nn 9,Nn 10] ?_
      refine Da ?_
      refine Ae ?_
      repeat first | refine R1 ?_ | refine R2 fun _ => ?_
      exact ⟨j + 1, by omega, ⟨by rw [hst]; rfl, rfl, trivial⟩, rfl, _, _, inferInstance, by omega, rfl⟩
    · rw [endLight, if_neg e2, Int.add_zero] at hst
      repeat first | refine R1 ?_ | refine R2 fun _ => ?_
      exact ⟨j + 1, by omega, ⟨by rw [hst]; rfl, rfl, trivial⟩, rfl, _, _, inferInstance, by omega, rfl⟩
  · refine sf_exit ?_
    repeat first | refine R1 ?_ | refine R2 fun _ => ?_
    refine sf_ret (rV ?_)
    rw [trailLight, lightOf, hg', List.take_of_length_le (by omega)]
end Go.Proofs.YtcpkcmgjfcbnpaaGreatDoor
namespace Go.Proofs.YtcpkcmgjfcbnpaaGreatDoor
open Go Go.Sl
set_option maxRecDepth 100000
set_option maxHeartbeats 4000000
attribute [local irreducible] Go.Code.sf sfOps Opq opo retF Do1 anyO
variable {M : Jdg → Prop} [IsCl Tryz.prog M]
open Go.Extern
theorem asErr_f (h : PHeap) (b b2 : Nat) (s s0 : ByteArray) : CallF Tryz.prog M 130 [.iface 131 (.agg #[.string s]), .iface 133 (.pointer (some ⟨b, 0, none⟩)), .agg #[hdl 133, .pointer (some ⟨b2, 0, none⟩), .int .u64 150], rty 131] [(b, .cells #[.string s0] 131), (b2, .cells #[.pointer (some ⟨b, 0, none⟩)] 133)] h fun v A => v = .bool true ∧ A = [] := by
  refine Cs Tryz.func130 Tryz.ntmps130 ?_
  repeat first | refine R1 ?_ | refine R2 fun _ => ?_
  rename_i b3
  refine sf_lp (ι := Unit) [0, 3, 6] (fun _ => []) (fun _ O => O = [(b3, .cells #[hdl 133, .pointer (some ⟨b2, 0, none⟩), .int .u64 150] 182), (b, .cells #[.string s0] 131), (b2, .cells #[.pointer (some ⟨b, 0, none⟩)] 133)]) (fun _ => 0) () [(b3, .cells #[hdl 133, .pointer (some ⟨b2, 0, none⟩), .int .u64 150] 182), (b, .cells #[.string s0] 131), (b2, .cells #[.pointer (some ⟨b, 0, none⟩)] 133)] rfl ?_
  rintro _ O rfl
  repeat first | refine R1 ?_ | refine R2 fun _ => ?_
  refine fp (Rq ?_ (q_ext (by infer_instance) (by rfl) fun K E H x => by rw [show _ = _ from e_typeOf _]; exact x))
  repeat first | refine R1 ?_ | refine R2 fun _ => ?_
  refine fp (Rq ?_ (q_invokeX (by rfl) (by rfl) (m_assign _) (by infer_instance) fun K E H x => by rw [show _ = _ from e_assign]; exact x))
  repeat first | refine R1 ?_ | refine R2 fun _ => ?_
  refine sf_T rfl ?_
  repeat first | refine R1 ?_ | refine R2 fun _ => ?_
  have sp0 : Sp [(b3, Obj.cells #[hdl 133, .pointer (some ⟨b2, 0, none⟩), .int .u64 150] 182), (b, .cells #[.string s0] 131), (b2, .cells #[.pointer (some ⟨b, 0, none⟩)] 133)] [(b2, .cells #[.pointer (some ⟨b, 0, none⟩)] 133)] _ := inferInstance
  refine fp (x_ext (by infer_instance) (by rfl) fun F H r => ?_)
  refine slp_elem (u := 131) (p := ⟨b, 0, none⟩) (w := .agg #[hdl 131, .pointer (some ⟨b, 0, none⟩), .int .u64 409]) inferInstance (by rfl) (p_parts _) (by rw [cell_of (r.own b2 (.cells #[.pointer (some ⟨b, 0, none⟩)] 133) (by simp)).1]; rfl) (fun K E H x => by rw [e_elemOf]; exact x) (fun K E H x => by rw [e_mk]; exact x) ⟨_, r, ?_⟩
  clear r
  repeat first | refine R1 ?_ | refine R2 fun _ => ?_
  refine fp (x_ext (by infer_instance) (by rfl) fun F H r => ?_)
  show (ReflectliteValue.unpack (.iface 131 (.agg #[.string s]))).slp Tryz.prog _ _ H
  rw [e_unpackN]
  intro b4 hb4
  refine ⟨_, r.alloc hb4 _, ?_⟩
  clear r hb4
  repeat first | refine R1 ?_ | refine R2 fun _ => ?_
  refine fp (x_ext (by infer_instance) (by rfl) fun F H r => ?_)
  have r' : Rel F h ([(b4, Obj.cells #[.string s] 131), (b3, Obj.cells #[hdl 133, .pointer (some ⟨b2, 0, none⟩), .int .u64 150] 182)] ++ (b, .cells #[.string s0] 131) :: [(b2, .cells #[.pointer (some ⟨b, 0, none⟩)] 133)]) H := r
  obtain ⟨o1, o2, _⟩ := r'.own b (.cells #[.string s0] 131) (by simp)
  refine slp_set (val := .agg #[.string s]) (p_partsA _) (p_partsN _) (by rfl) (fun K E x => slp_loadVar inferInstance (cs := [.string s]) rfl (fun e => by cases e) (cells_one (by rw [cell_of (r.own b4 (.cells #[.string s] 131) (by simp)).1]; rfl)) x) (fun K E H x => by rw [e_direct]; exact x) inferInstance rfl o1 o2 (by simp [Value.cells]) (by rfl) ⟨_, r'.set _, ?_⟩
  clear r r' o1 o2
  repeat first | refine R1 ?_ | refine R2 fun _ => ?_
  exact sf_ret (rO [] ⟨rfl, rfl⟩)
theorem errorsAs_f (h : PHeap) [BAt h 0 errObj] (b : Nat) (s s0 : ByteArray) : CallF Tryz.prog M 85 [.iface 131 (.agg #[.string s]), .iface 133 (.pointer (some ⟨b, 0, none⟩))] [(b, .cells #[.string s0] 131)] h fun v A => v = .bool true ∧ A = [] := by
  refine Cs Tryz.func85 Tryz.ntmps85 ?_
  repeat first | refine R1 ?_ | refine R2 fun _ => ?_
  refine fp (Rq ?_ (q_eqI (.inr ⟨_, _, rfl, rfl⟩) (by infer_instance) (by rfl)))
  repeat first | refine R1 ?_ | refine R2 fun _ => ?_
  refine sf_N rfl ?_
  repeat first | refine R1 ?_ | refine R2 fun _ => ?_
  refine fp (Rq ?_ (q_eqI (.inr ⟨_, _, rfl, rfl⟩) (by infer_instance) (by rfl)))
  repeat first | refine R1 ?_ | refine R2 fun _ => ?_
  refine sf_N rfl ?_
  repeat first | refine R1 ?_ | refine R2 fun _ => ?_
  refine fp (x_ext (by infer_instance) (by rfl) fun F H r => ?_)
  show (ReflectliteValue.unpack (.iface 133 (.pointer (some ⟨b, 0, none⟩)))).slp Tryz.prog _ _ H
  rw [e_unpackP]
  intro b2 hb2
  refine ⟨_, r.alloc hb2 _, ?_⟩
  clear r hb2
  repeat first | refine R1 ?_ | refine R2 fun _ => ?_
  refine fp (Rq ?_ (q_ext (by infer_instance) (by rfl) fun K E H x => by rw [show _ = _ from e_type _ _]; exact x))
  repeat first | refine R1 ?_ | refine R2 fun _ => ?_
  refine fp (Rq ?_ (q_invokeX (by rfl) (by rfl) (m_kind _) (by infer_instance) fun K E H x => by rw [show _ = _ from e_kindP]; exact x))
  repeat first | refine R1 ?_ | refine R2 fun _ => ?_
  refine fp (x_ext (by infer_instance) (by rfl) fun F H r => ?_)
  refine slp_isNil (u := 131) (p := ⟨b, 0, none⟩) inferInstance (by rfl) (p_parts _) (by rw [cell_of (r.own b2 (.cells #[.pointer (some ⟨b, 0, none⟩)] 133) (by simp)).1]; rfl) ⟨_, r, ?_⟩
  clear r
  repeat first | refine R1 ?_ | refine R2 fun _ => ?_
  refine sf_N rfl ?_
  repeat first | refine R1 ?_ | refine R2 fun _ => ?_
  refine fp (Rq ?_ (q_invokeX (by rfl) (by rfl) (m_elem _) (by infer_instance) fun K E H x => by rw [show _ = _ from e_elem]; exact x))
  repeat first | refine R1 ?_ | refine R2 fun _ => ?_
  refine fp (Rq ?_ (q_invokeX (by rfl) (by rfl) (m_kind _) (by infer_instance) fun K E H x => by rw [show _ = _ from e_kindN]; exact x))
  repeat first | refine R1 ?_ | refine R2 fun _ => ?_
  refine fp (Rq ?_ (q_invokeX (by rfl) (by rfl) (m_impl _) (by infer_instance) fun K E H x => by rw [show _ = _ from e_impl]; exact x))
  repeat first | refine R1 ?_ | refine R2 fun _ => ?_
  refine sf_N rfl ?_
  repeat first | refine R1 ?_ | refine R2 fun _ => ?_
  refine fp (y_call (asErr_f h b b2 s s0) (by rfl) ?_)
  rintro _ _ ⟨rfl, rfl⟩
  repeat first | refine R1 ?_ | refine R2 fun _ => ?_
  exact sf_ret (rO [] ⟨rfl, rfl⟩)
def ErrIs (v : Value) (b : Bool) : Prop := (v = .nilIface ∧ b = false) ∨ ∃ s, v = .iface 131 (.agg #[.string s]) ∧ b = true
theorem ErrIs.one {v : Value} {b : Bool} (e : ErrIs v b) : Sl.One v := by
  rcases e with ⟨rfl, _⟩ | ⟨s, rfl, _⟩ <;> infer_instance
theorem errorsAs_nil' (h : PHeap) (u : TypeId) (z : Value) : CallV Tryz.prog M 85 [.nilIface, .iface u z] h (.bool false) := by
  refine Cs Tryz.func85 Tryz.ntmps85 ?_
  repeat first | refine R1 ?_ | refine R2 fun _ => ?_
  refine fp (Rq ?_ (q_eqI (.inl ⟨rfl, rfl⟩) (by infer_instance) (by rfl)))
  repeat first | refine R1 ?_ | refine R2 fun _ => ?_
  refine sf_T rfl ?_
  repeat first | refine R1 ?_ | refine R2 fun _ => ?_
  exact sf_ret (rV rfl)
theorem refused_v (h : PHeap) [BAt h 0 errObj] (v : Value) (b : Bool) (e : ErrIs v b) : CallV Tryz.prog M 46 [v] h (.bool b) := by
  have o1 := e.one
  refine Cs Tryz.func46 Tryz.ntmps46 ?_
  repeat first | refine R1 ?_ | refine R2 fun _ => ?_
  rename_i b1
  rcases e with ⟨rfl, rfl⟩ | ⟨s, rfl, rfl⟩
  · refine Xv (errorsAs_nil' _ _ _) ?_
    repeat first | refine R1 ?_ | refine R2 fun _ => ?_
    exact sf_ret (rV rfl)
  · refine fp (y_call (errorsAs_f h b1 s ⟨#[]⟩) (by rfl) ?_)
    rintro _ _ ⟨rfl, rfl⟩
    repeat first | refine R1 ?_ | refine R2 fun _ => ?_
    exact sf_ret (rV rfl)
theorem neqErr {n : Nat} {L : Locals} {O : Own} {h : PHeap} {d : Option Nat} {t' ty : TypeId} {pos : String} {af : Array Edge} {g : Option (Nat × Bool)} {x : Operand} {v : Value} {b : Bool} (e : ErrIs v b) (hx : Sl.ev L x = some v) : Opq Tryz.prog n ⟨d, .binOp .neq 90 x (.const .nilIface) t', ty, pos, af, g⟩ L O h (.bool b) := by
  rcases e with ⟨rfl, rfl⟩ | ⟨s, rfl, rfl⟩
  · exact q_neqI (.inl ⟨rfl, rfl⟩) inferInstance hx
  · exact q_neqI (.inr ⟨_, _, rfl, rfl⟩) inferInstance hx
end Go.Proofs.YtcpkcmgjfcbnpaaGreatDoor
namespace Go.Proofs.YtcpkcmgjfcbnpaaGreatDoor
open Go Go.Sl
set_option maxRecDepth 100000
set_option maxHeartbeats 4000000
attribute [local irreducible] Go.Code.sf sfOps Opq opo retF Do1 anyO
variable {M : Jdg → Prop} [IsCl Tryz.prog M]
theorem editOk_v (h : PHeap) (c : Value) (g : Grid) (s : Sl h c cellF g.cells) (e : Edit) : CallV Tryz.prog M 103 [.agg #[.int .i64 g.wide, c], .agg #[.int .i64 e.at', .int .i64 e.cell.kind, .int .i64 e.cell.light]] h (.bool (editOk g e)) := by
  have o1 := s.one
  refine Cs Tryz.func103 Tryz.ntmps103 ?_
  repeat first | refine R1 ?_ | refine R2 fun _ => ?_
  refine Xv (cellOk_v _ e.cell) ?_
  repeat first | refine R1 ?_ | refine R2 fun _ => ?_
  refine f_splitB (fun h1 => ?_) fun h1 => ?_
  · repeat first | refine R1 ?_ | refine R2 fun _ => ?_
    refine f_split (fun h2 => ?_) fun h2 => ?_ <;>
    · repeat first | refine R1 ?_ | refine R2 fun _ => ?_
      refine sf_ret (rV ?_)
      simp [editOk, h1, h2]
  · repeat first | refine R1 ?_ | refine R2 fun _ => ?_
    refine sf_ret (rV ?_)
    simp [editOk, h1]
theorem editsOk_v (h : PHeap) (c : Value) (g : Grid) (s : Sl h c cellF g.cells) (v : Value) (es : List Edit) (s2 : Sl h v editF es) : CallV Tryz.prog M 86 [.agg #[.int .i64 g.wide, c], v] h (.bool (editsOk g es)) := by
  have o1 := s.one
  have o2 := s2.one
  have hs := s2.small
  refine Cs Tryz.func86 Tryz.ntmps86 ?_
  repeat first | refine R1 ?_ | refine R2 fun _ => ?_
  refine sf_rd [2, 7, 8] 9 es.length 0 (fun k => editsOk g (es.take k) = true) (by omega) rfl (fun k hk hi => ?_)
  repeat first | refine R1 ?_ | refine R2 fun _ => ?_
  refine sf_if (fun h4 => ?_) fun h4 => ?_
  · have hk4 : k < es.length := by omega
    repeat first | refine R1 ?_ | refine R2 fun _ => ?_
    refine Xv (editOk_v _ c g s (gt es k)) ?_
    repeat first | refine R1 ?_ | refine R2 fun _ => ?_
    refine sf_cond (by rfl) (fun h5 => ?_) fun h5 => ?_
    · repeat first | refine R1 ?_ | refine R2 fun _ => ?_
      simp only [Bool.not_eq_true'] at h5
      refine sf_ret (rV ?_)
      rw [editsOk, all_false hk4 h5]
    · repeat first | refine R1 ?_ | refine R2 fun _ => ?_
      refine ⟨⟨hk4, ?_⟩, rfl, rfl, _, inferInstance⟩
      rw [editsOk, all_take hk4]
      rw [editsOk] at hi
      rw [hi]; simpa using h5
  · refine sf_exit ?_
    repeat first | refine R1 ?_ | refine R2 fun _ => ?_
    rw [take_ge hk (by omega)] at hi
    exact sf_ret (rV (by rw [hi]))
theorem paintIdOk_v (h : PHeap) (id many : Int) : CallV Tryz.prog M 71 [.int .i64 id, .int .i64 many] h (.bool (decide (1 ≤ many) && decide (many ≤ 3) && decide (1 ≤ id) && decide (id ≤ many))) := by
  refine Cs Tryz.func71 Tryz.ntmps71 ?_
  refine Wo ?_
  refine f_split (fun h1 => ?_) fun h1 => ?_
  · refine Wo ?_
    refine f_split (fun h2 => ?_) fun h2 => ?_
    · refine Wo ?_
      refine f_split (fun h3 => ?_) fun h3 => ?_ <;>
      · refine Wo ?_
        refine sf_ret (rV ?_)
        simp [h1, h2, h3]
    · refine Wo ?_
      refine sf_ret (rV ?_)
      simp [h1, h2]
  · refine Wo ?_
    refine sf_ret (rV ?_)
    simp [h1]
theorem keepVersion_f (h : PHeap) (ca : List Value) (k : Keeper) (b : (keeperR τ).B h ca k) (v : Int) : CallF Tryz.prog M 57 [.agg ca.toArray, .int .i64 v] [] h fun u A => ErrIs u (!verOk k v) ∧ A = [] := by
  obtain ⟨c, e, p, s, rfl, s1, s2, s3, s4⟩ := keeperB b
  have o1 := s1.one
  have o2 := s2.one
  have o3 := s3.one
  have o4 := s4.one
  refine Cs Tryz.func57 Tryz.ntmps57 ?_
  repeat first | refine R1 ?_ | refine R2 fun _ => ?_
  refine f_split (fun h1 => ?_) fun h1 => ?_
  · repeat first | refine R1 ?_ | refine R2 fun _ => ?_
    refine sf_T rfl ?_
    repeat first | refine R1 ?_ | refine R2 fun _ => ?_
    exact sf_ret (rO [] ⟨.inr ⟨_, rfl, by simp [verOk]; omega⟩, rfl⟩)
  · repeat first | refine R1 ?_ | refine R2 fun _ => ?_
    refine sf_if (fun h2 => ?_) fun h2 => ?_
    · repeat first | refine R1 ?_ | refine R2 fun _ => ?_
      exact sf_ret (rO [] ⟨.inr ⟨_, rfl, by simp [verOk]; omega⟩, rfl⟩)
    · repeat first | refine R1 ?_ | refine R2 fun _ => ?_
      exact sf_ret (rO [] ⟨.inl ⟨rfl, by simp [verOk]; omega⟩, rfl⟩)
theorem keepGridOf_f (h : PHeap) (ca : List Value) (k : Keeper) (b : (keeperR τ).B h ca k) (hk : HeadOk k) (v : Int) (hv : verOk k v = true) : CallF Tryz.prog M 58 [.agg ca.toArray, .int .i64 v] [] h fun u A => ∃ cs, u = .agg cs.toArray ∧ (gridR τ).O A cs (gridAt k v) := by
  obtain ⟨c, e, p, s, rfl, s1, s2, s3, s4⟩ := keeperB b
  have o1 := s1.one
  have o2 := s2.one
  have o3 := s3.one
  have o4 := s4.one
  have hsm := (gok hk.grid).small
  have h60 := hk.e60
  simp only [verOk, Bool.and_eq_true, decide_eq_true_eq] at hv
  obtain ⟨n, rfl⟩ : ∃ n : Nat, v = n := ⟨v.toNat, by omega⟩
  obtain ⟨v', sv, op⟩ := s2.upTo (l := n) (by omega)
  have ov := sv.one
  have hln : (k.edits.take n).length = n := by rw [List.length_take]; omega
  have hed := editsOk_take hk.edits n
  have hgd : gridAt k (n : Nat) = gridAfter k.first (k.edits.take n) := rfl
  rw [hgd]
  clear hgd
  refine Cs Tryz.func58 Tryz.ntmps58 ?_
  repeat first | refine R1 ?_ | refine R2 fun _ => ?_
  refine fp (y_call (gridCopy_f _ _ k.first (gridB_mk s1) (by omega)) (by rfl) ?_)
  rintro _ A1 ⟨_, rfl, q⟩
  obtain ⟨c2, rfl, g1, l1⟩ := gridO q
  have o5 := g1.one
  repeat first | refine R1 ?_ | refine R2 fun _ => ?_
  refine fp (Rq ?_ (op (by infer_instance) (by infer_instance) (by rfl) (by rfl)))
  generalize k.edits.take n = es at *
  repeat first | refine R1 ?_ | refine R2 fun _ => ?_
  rename_i b2 b4 b5
  refine sf_lp (ι := Nat) [4, 5, 14, 15] (fun i => [(16, .int .i64 (i : Int))]) (fun i O => i ≤ es.length ∧ ∃ A', O = (b5, .cells #[.int .i64 k.first.wide, c2] 25) :: (A' ++ [(b4, .cells #[.int .i64 0, .slice none 0 0] 25)]) ∧ ∃ cs, cs = (gridAfter k.first (es.take i)).cells ∧ cs.length = k.first.cells.length ∧ Gr A' c2 46 cellF cs) (fun i => es.length - i) 0 ((b5, .cells #[.int .i64 k.first.wide, c2] 25) :: (A1 ++ [(b4, .cells #[.int .i64 0, .slice none 0 0] 25)])) ⟨by omega, _, rfl, _, rfl, rfl, g1⟩ ?_
  rintro i O ⟨hi, A', rfl, cs, ecs, lcs, gr⟩
  have o6 := gr.one
  repeat first | refine R1 ?_ | refine R2 fun _ => ?_
  refine sf_if (fun h4 => ?_) fun h4 => ?_
  · have hi4 : i < es.length := by omega
    obtain ⟨e1, e2, e3⟩ := editOk_is (editsOk_at hed hi4)
    obtain ⟨a, ha⟩ : ∃ a : Nat, (gt es i).at' = a := ⟨(gt es i).at'.toNat, by omega⟩
    repeat first | refine R1 ?_ | refine R2 fun _ => ?_
    simp only [ha]
    repeat first | refine R1 ?_ | refine R2 fun _ => ?_
    refine Xg gr fun A2 cs2 ec lc _ g2 => ?_
    repeat first | refine R1 ?_ | refine R2 fun _ => ?_
    refine ⟨i + 1, by omega, ⟨rfl, trivial⟩, rfl, (b5, .cells #[.int .i64 k.first.wide, c2] 25) :: (A2 ++ [(b4, .cells #[.int .i64 0, .slice none 0 0] 25)]), _, inferInstance, by omega, A2, rfl, cs2, ?_, by omega, g2⟩
    rw [gridAfter_step hi4, putCell, ec, ecs, ha]; rfl
  · refine sf_exit ?_
    repeat first | refine R1 ?_ | refine R2 fun _ => ?_
    rw [take_ge hi (by omega)] at ecs
    refine sf_ret (rO A' ⟨_, rfl, ?_⟩)
    have := gridO_mk (τ := τ) (g := gridAfter k.first es) (c := c2) (A := A') (by rw [← ecs]; exact gr) (by rw [← ecs]; omega)
    rw [(gridAfter_same es k.first).1] at this
    exact this
theorem sightMany_ok {g : Grid} (h : gridOk g = true) : sightMany g = manyOf g := by rw [sightMany, if_pos h]
theorem paintOwn_f (h : PHeap) (ca : List Value) (g : Grid) (b : (gridR τ).B h ca g) (e : gridOk g = true) (id many : Nat) (h1 : 1 ≤ id) (h2 : id ≤ many) (h3 : many ≤ 3) : CallF Tryz.prog M 34 [.agg ca.toArray, .int .i64 (id : Int), .int .i64 (many : Int)] [] h fun u A => Gr A u 3 intF (ownList (manyOf g).toNat many id) := by
  obtain ⟨c, rfl, s⟩ := gridB b
  have o1 := s.one
  have hm := (gok e).many
  obtain ⟨S, hS⟩ : ∃ S : Nat, manyOf g = S := ⟨(manyOf g).toNat, by omega⟩
  rw [hS] at hm ⊢
  simp only [Int.toNat_natCast]
  have hc : ∀ j, j < ownCnt S many id ↔ id - 1 + j * many < S := fun j => ownCnt_lt h1 h2 h3
  refine Cs Tryz.func34 Tryz.ntmps34 ?_
  repeat first | refine R1 ?_ | refine R2 fun _ => ?_
  refine Xv (paintIdOk_v _ _ _) ?_
  rw [show (decide ((1 : Int) ≤ (many : Int)) && decide ((many : Int) ≤ 3) && decide (1 ≤ (id : Int)) && decide ((id : Int) ≤ (many : Int))) = true by simp; omega]
  repeat first | refine R1 ?_ | refine R2 fun _ => ?_
  refine sf_cond (by rfl) (fun e => by cases e) fun z1 => ?_
  clear z1
  repeat first | refine R1 ?_ | refine R2 fun _ => ?_
  rename_i b3
  rw [show (id : Int) - 1 = ((id - 1 + 0 * many : Nat) : Int) by omega]
  refine sf_lp (ι := Nat × Value) [2, 3] (fun x => [(8, .int .i64 ((id - 1 + x.1 * many : Nat) : Int)), (7, x.2)]) (fun x O => x.1 ≤ ownCnt S many id ∧ ∃ A', O = A' ++ [(b3, .cells #[.int .i64 g.wide, c] 25)] ∧ ∃ xs, xs.length = x.1 ∧ xs = ((List.range x.1).map fun j => ((id - 1 + j * many : Nat) : Int)) ∧ Gr A' x.2 3 intF xs) (fun x => ownCnt S many id - x.1) (0, .slice none 0 0) ([] ++ [(b3, .cells #[.int .i64 g.wide, c] 25)]) ⟨by omega, [], rfl, [], rfl, rfl, Gr.nil _ _⟩ ?_
  rintro ⟨j, v⟩ O ⟨hj, A', rfl, xs, lx, ex, gr⟩
  simp only at hj lx ex gr ⊢
  have o2 := gr.one
  repeat first | refine R1 ?_ | refine R2 fun _ => ?_
  refine Xv (sightMany_v _ _ g b) ?_
  rw [sightMany_ok e, hS]
  have hjm : j * many ≤ 20 * 3 ∧ j ≤ 20 := by
    rcases Nat.eq_zero_or_pos j with rfl | hj0
    · omega
    · have := (hc (j - 1)).1 (by omega)
      have h4 : (j - 1) * many ≤ 20 * 3 := by omega
      have h5 : j * many = (j - 1) * many + many := by
        obtain ⟨k, rfl⟩ : ∃ k, j = k + 1 := ⟨j - 1, by omega⟩
        rw [Nat.add_sub_cancel, Nat.add_mul, Nat.one_mul]
      have h6 : j ≤ 20 := by
        have : (j - 1) * 1 ≤ (j - 1) * many := Nat.mul_le_mul_left _ (by omega)
        omega
      exact ⟨Nat.mul_le_mul h6 h3, h6⟩
  repeat first | refine R1 ?_ | refine R2 fun _ => ?_
  refine sf_if (fun h4 => ?_) fun h4 => ?_
  · have hj4 : j < ownCnt S many id := (hc j).2 (by omega)
    repeat first | refine R1 ?_ | refine R2 fun _ => ?_
    refine Xb fun u Au gu => ?_
    repeat first | refine R1 ?_ | refine R2 fun _ => ?_
    refine Xa gr gu fun v2 A2 g2 => ?_
    repeat first | refine R1 ?_ | refine R2 fun _ => ?_
    refine ⟨(j + 1, v2), by simp only; omega, ⟨?_, rfl, trivial⟩, rfl, A2 ++ [(b3, .cells #[.int .i64 g.wide, c] 25)], _, inferInstance, by simp only; omega, A2, rfl, _, by simp; omega, by rw [ownList_step, ex], g2⟩
    rw [show ((id - 1 + (j + 1) * many : Nat) : Int) = ((id - 1 + j * many : Nat) : Int) + (many : Int) by rw [Nat.add_mul, Nat.one_mul]; omega]
    rfl
  · refine sf_exit ?_
    have : j = ownCnt S many id := by
      rcases Nat.lt_or_ge j (ownCnt S many id) with h | h
      · have := (hc j).1 h; omega
      · omega
    repeat first | refine R1 ?_ | refine R2 fun _ => ?_
    refine sf_ret (rO A' ?_)
    rw [ownList, ← this, ← ex]; exact gr
theorem intsEqual_v (h : PHeap) (a b : Value) (xs ys : List Int) (sx : Sl h a intF xs) (sy : Sl h b intF ys) : CallV Tryz.prog M 88 [a, b] h (.bool (decide (xs = ys))) := by
  have o1 := sx.one
  have o2 := sy.one
  have hx := sx.small
  have hy := sy.small
  refine Cs Tryz.func88 Tryz.ntmps88 ?_
  refine Wo ?_
  refine sf_if (fun e0 => ?_) fun e0 => ?_
  · refine Wo ?_
    exact sf_ret (rV (bF fun e => e0 (by rw [e])))
  have hl : xs.length = ys.length := by omega
  refine Wo ?_
  refine sf_rd [0, 1, 12] 13 xs.length 0 (fun k => xs.take k = ys.take k) (by omega) rfl (fun k hk hi => ?_)
  refine Wo ?_
  refine sf_if (fun h4 => ?_) fun h4 => ?_
  · have hk4 : k < xs.length := by omega
    have hk5 : k < ys.length := by omega
    refine Wo ?_
    refine Sd [[],[],[0,1],[0,1,2],[],[],[4,5],[4,5,6],[0,1,2,3,4,5,6,7]] 8 [Nn 0,Nn 1,Nn 2,Nn 3,Nn 4,Nn 5,Nn 6,Nn 7] ?_
    refine Da ?_
    refine Ae ?_
    refine Wo ?_
    refine sf_if (fun e1 => ?_) fun e1 => ?_
    · refine Wo ?_
      exact sf_ret (rV (bF (eq_at e1)))
    · refine Wo ?_
      exact ⟨⟨hk4, eq_step hk4 hk5 hi (by simpa using e1)⟩, rfl, rfl, _, inferInstance⟩
  · refine sf_exit ?_
    refine Wo ?_
    exact sf_ret (rV (bT (eq_end hl (by omega) hi)))
end Go.Proofs.YtcpkcmgjfcbnpaaGreatDoor
namespace Go.Proofs.YtcpkcmgjfcbnpaaGreatDoor
open Go
abbrev wgLink : Go.Conc.Lib.WgLink := { add := 135, done := 137, wait := 138, relMerge := 164, disable := 165, enable := 166, inBubble := 167, associate := 168, fatal := 169, uOr := 170, uAdd := 171, raceRead := 172, uLoad := 173, uStore := 174, disassociate := 175, semrelease := 176, acquire := 177, isAssociated := 178, uCas := 179, raceWrite := 180, semacquire := 181, orU64 := 199, addU64 := 200, loadU64 := 201, storeU64 := 202, casU64 := 203, tWgP := 250, tUP := 179, tAssoc := 252, tWg := 205, tAU := 202, tU64 := 200, tUint := 256, tU32 := 203, tPU32 := 257, tPAU := 281, tPU64 := 283, tNoCopy := 197, tANoCopy := 198, tAlign64 := 199 }
theorem wgLib : Go.Conc.Lib.WgLib Tryz.prog wgLink :=
  ⟨Tryz.func135, Tryz.func137, Tryz.func138, Tryz.func164, Tryz.func165, Tryz.func166, Tryz.func167, Tryz.func168, Tryz.func169, Tryz.func170, Tryz.func171, Tryz.func172, Tryz.func173, Tryz.func174, Tryz.func175, Tryz.func176, Tryz.func177, Tryz.func178, Tryz.func179, Tryz.func180, Tryz.func181, Tryz.func199, Tryz.func200, Tryz.func201, Tryz.func202, Tryz.func203, Tryz.underlying250, Tryz.runUnderlying250, Tryz.sizeOf250, Tryz.isAgg250, Tryz.zeroValue250, Tryz.underlying179, Tryz.runUnderlying179, Tryz.sizeOf179, Tryz.isAgg179, Tryz.zeroValue179, Tryz.underlying252, Tryz.runUnderlying252, Tryz.sizeOf252, Tryz.isAgg252, Tryz.zeroValue252, Tryz.underlying205, Tryz.runUnderlying205, Tryz.sizeOf205, Tryz.isAgg205, Tryz.zeroValue205, Tryz.underlying202, Tryz.runUnderlying202, Tryz.sizeOf202, Tryz.isAgg202, Tryz.zeroValue202, Tryz.underlying200, Tryz.runUnderlying200, Tryz.sizeOf200, Tryz.isAgg200, Tryz.zeroValue200, Tryz.underlying256, Tryz.runUnderlying256, Tryz.sizeOf256, Tryz.isAgg256, Tryz.zeroValue256, Tryz.underlying203, Tryz.runUnderlying203, Tryz.sizeOf203, Tryz.isAgg203, Tryz.zeroValue203, Tryz.underlying257, Tryz.runUnderlying257, Tryz.sizeOf257, Tryz.isAgg257, Tryz.zeroValue257, Tryz.underlying281, Tryz.runUnderlying281, Tryz.sizeOf281, Tryz.isAgg281, Tryz.zeroValue281, Tryz.underlying283, Tryz.runUnderlying283, Tryz.sizeOf283, Tryz.isAgg283, Tryz.zeroValue283, Tryz.underlying0, Tryz.runUnderlying0, Tryz.sizeOf0, Tryz.isAgg0, Tryz.zeroValue0, Tryz.underlying3, Tryz.runUnderlying3, Tryz.sizeOf3, Tryz.isAgg3, Tryz.zeroValue3, Tryz.underlying4, Tryz.runUnderlying4, Tryz.sizeOf4, Tryz.isAgg4, Tryz.zeroValue4, Tryz.underlying9, Tryz.runUnderlying9, Tryz.sizeOf9, Tryz.isAgg9, Tryz.zeroValue9, Tryz.underlying20, Tryz.runUnderlying20, Tryz.sizeOf20, Tryz.isAgg20, Tryz.zeroValue20, Tryz.underlying21, Tryz.runUnderlying21, Tryz.sizeOf21, Tryz.isAgg21, Tryz.zeroValue21, (by kernel_rfl), (by kernel_rfl)⟩
end Go.Proofs.YtcpkcmgjfcbnpaaGreatDoor
namespace Go.Proofs.YtcpkcmgjfcbnpaaGreatDoor
open Go Go.Sl Go.Conc
set_option maxRecDepth 100000
noncomputable def loop52 : Code := match Tryz.f136.body with
  | some (.seq _ (.seq _ (.seq (.seq _ b) _))) => b
  | _ => .skip
abbrev wl (bS bC bO bCh : Nat) (v : Value) (k : Nat) : Locals := [(1, .pointer (some ⟨bS, 0, none⟩)), (2, .pointer (some ⟨bC, 0, none⟩)), (3, .pointer (some ⟨bO, 0, none⟩)), (4, .pointer (some ⟨bCh, 0, none⟩)), (5, v), (6, .int .i64 (k : Int))]
section
variable {M : Jdg → Prop} [IsCl Tryz.prog M]
attribute [local irreducible] Go.Code.so soOps Opq opo retO
theorem worker_loop (B : PHeap) (Wg : Nat) (bS bC bO bCh : Nat) (st : Nat → Nat) (fn : FuncId) (Fun52 : Fun Tryz.prog fn) (first cap : Array Value) (val : Nat → Int) (j : Nat) (hj : j < 4) (s4 : ∀ i, i < 5 → st i ≤ 1048576) (mono : st j ≤ st (j + 1))
    (hS : BAt B bS (.cells #[.int .i64 (st 0), .int .i64 (st 1), .int .i64 (st 2), .int .i64 (st 3), .int .i64 (st 4)] 193 (0, 0)))
    (hC : BAt B bC (.cells #[.int .i64 j] 3 (0, 0))) (hO : BAt B bO (.cells #[.func (.func fn) first cap] 97 (0, 0)))
    (of : ∀ (B' : PHeap), Le B B' → ∀ k, st j ≤ k → k < st (j + 1) → CallsR Tryz.prog M fn (first.toList ++ [.int .i64 (k : Int)] ++ cap.toList) B' fun v _ => v = .int .i64 (val k)) (L : Locals)
    (hL : Locals.sub (wl bS bC bO bCh (.slice none 0 0) (st j)) L) :
    loop52.so Tryz.prog M 28 (fun e L' A h' => e = .nrm ∧ ∃ v, Locals.sub [(2, .pointer (some ⟨bC, 0, none⟩)), (4, .pointer (some ⟨bCh, 0, none⟩)), (5, v)] L' ∧ Gr A v 3 intF ((List.range' (st j) (st (j + 1) - st j)).map val)) L [] B := by
  simp only [loop52, Tryz.f136]
  refine so_block ?_
  refine so_loop (ι := Nat) (A := fun k L O h' => st j ≤ k ∧ k ≤ st (j + 1) ∧ ∃ v, L = wl bS bC bO bCh v k ∧ Gr O v 3 intF ((List.range' (st j) (k - st j)).map val)) (fun k => st (j + 1) - k) (st j) hL ⟨Nat.le_refl _, mono, _, rfl, by simpa using Gr.nil _ _⟩ ?_
  rintro k _ O h' le ⟨k1, k2, v, rfl, gr⟩
  have hk := s4 (j + 1) (by omega)
  obtain rfl | rfl | rfl | rfl : j = 0 ∨ j = 1 ∨ j = 2 ∨ j = 3 := by omega
  · refine so_seq ?_
    refine so_seq ?_
    refine so_reg ?_
    refine so_q (q_move (by rfl)) ?_
    refine so_q (q_loadB (by infer_instance) (by rfl) (by infer_instance) (by rfl) (by rfl)) ?_
    refine Run.go ?_
    refine so_q (q_indexP (by infer_instance) (by infer_instance) (by rfl) (by rfl) (by decide) (by decide)) ?_
    refine so_q (q_loadB (by infer_instance) (by rfl) (by infer_instance) (by rfl) (by rfl)) ?_
    refine Run.go ?_
    refine so_cond rfl (fun h1 => ?_) (fun h1 => ?_)
    · have hlt : k < st 1 := by simpa using h1
      refine Run.go ?_
      refine so_q (q_loadB (by infer_instance) (by rfl) (by infer_instance) (by rfl) (by rfl)) ?_
      refine Run.go ?_
      refine op_callv Fun52 (vs := [.int .i64 (k : Int)]) (by rfl) (of h' le k k1 hlt) (.refl ([] ++ O)) (by rfl) ?_
      rintro u A' h'' le2 ⟨rfl, rfl⟩
      refine Run.go ?_
      refine op_buildSlice (by infer_instance) (by infer_instance) (by rfl) (by rfl) (by rfl) (by rfl) fun b => ?_
      refine Run.go ?_
      refine op_append (ys := [val k]) (R := [(b, .cells [Value.int .i64 (val k)].toArray 3 (0, 0))]) (by rfl) (by rfl) (by infer_instance) (by infer_instance) (by rfl) gr (List.perm_append_singleton _ _).symm rfl (src_own (by infer_instance)) (by simp [intF, allOne]; rfl) (by simp; omega) (by simp; omega) fun v' A' gr' => ?_
      refine so_drop (O' := A') (List.sublist_append_left _ _) ?_
      refine Run.go ?_
      have hw : IntKind.i64.wrap ((k : Int) + 1) = ((k + 1 : Nat) : Int) := by rw [IntKind.wrap_i64]; omega
      have hr : List.range' (st 0) (k + 1 - st 0) = List.range' (st 0) (k - st 0) ++ [k] := by
        rw [show k + 1 - st 0 = (k - st 0) + 1 by omega, List.range'_1_concat, show st 0 + (k - st 0) = k by omega]
      refine ⟨k + 1, wl bS bC bO bCh v' (k + 1), by simp only [Nat.reduceAdd]; omega, ⟨rfl, rfl, rfl, rfl, rfl, ?_, trivial⟩, by omega, by simp only [Nat.reduceAdd]; omega, v', rfl, ?_⟩
      · rw [← hw]; rfl
      · rw [hr, List.map_append]; exact gr'
    · have hge : k = st 1 := by
        have : ¬ (k < st 1) := by simpa using h1
        simp only [Nat.reduceAdd] at k2
        omega
      subst hge
      refine so_exit ?_
      exact ⟨rfl, v, ⟨rfl, rfl, rfl, trivial⟩, gr⟩
  · refine so_seq ?_
    refine so_seq ?_
    refine so_reg ?_
    refine so_q (q_move (by rfl)) ?_
    refine so_q (q_loadB (by infer_instance) (by rfl) (by infer_instance) (by rfl) (by rfl)) ?_
    refine Run.go ?_
    refine so_q (q_indexP (by infer_instance) (by infer_instance) (by rfl) (by rfl) (by decide) (by decide)) ?_
    refine so_q (q_loadB (by infer_instance) (by rfl) (by infer_instance) (by rfl) (by rfl)) ?_
    refine Run.go ?_
    refine so_cond rfl (fun h1 => ?_) (fun h1 => ?_)
    · have hlt : k < st 2 := by simpa using h1
      refine Run.go ?_
      refine so_q (q_loadB (by infer_instance) (by rfl) (by infer_instance) (by rfl) (by rfl)) ?_
      refine Run.go ?_
      refine op_callv Fun52 (vs := [.int .i64 (k : Int)]) (by rfl) (of h' le k k1 hlt) (.refl ([] ++ O)) (by rfl) ?_
      rintro u A' h'' le2 ⟨rfl, rfl⟩
      refine Run.go ?_
      refine op_buildSlice (by infer_instance) (by infer_instance) (by rfl) (by rfl) (by rfl) (by rfl) fun b => ?_
      refine Run.go ?_
      refine op_append (ys := [val k]) (R := [(b, .cells [Value.int .i64 (val k)].toArray 3 (0, 0))]) (by rfl) (by rfl) (by infer_instance) (by infer_instance) (by rfl) gr (List.perm_append_singleton _ _).symm rfl (src_own (by infer_instance)) (by simp [intF, allOne]; rfl) (by simp; omega) (by simp; omega) fun v' A' gr' => ?_
      refine so_drop (O' := A') (List.sublist_append_left _ _) ?_
      refine Run.go ?_
      have hw : IntKind.i64.wrap ((k : Int) + 1) = ((k + 1 : Nat) : Int) := by rw [IntKind.wrap_i64]; omega
      have hr : List.range' (st 1) (k + 1 - st 1) = List.range' (st 1) (k - st 1) ++ [k] := by
        rw [show k + 1 - st 1 = (k - st 1) + 1 by omega, List.range'_1_concat, show st 1 + (k - st 1) = k by omega]
      refine ⟨k + 1, wl bS bC bO bCh v' (k + 1), by simp only [Nat.reduceAdd]; omega, ⟨rfl, rfl, rfl, rfl, rfl, ?_, trivial⟩, by omega, by simp only [Nat.reduceAdd]; omega, v', rfl, ?_⟩
      · rw [← hw]; rfl
      · rw [hr, List.map_append]; exact gr'
    · have hge : k = st 2 := by
        have : ¬ (k < st 2) := by simpa using h1
        simp only [Nat.reduceAdd] at k2
        omega
      subst hge
      refine so_exit ?_
      exact ⟨rfl, v, ⟨rfl, rfl, rfl, trivial⟩, gr⟩
  · refine so_seq ?_
    refine so_seq ?_
    refine so_reg ?_
    refine so_q (q_move (by rfl)) ?_
    refine so_q (q_loadB (by infer_instance) (by rfl) (by infer_instance) (by rfl) (by rfl)) ?_
    refine Run.go ?_
    refine so_q (q_indexP (by infer_instance) (by infer_instance) (by rfl) (by rfl) (by decide) (by decide)) ?_
    refine so_q (q_loadB (by infer_instance) (by rfl) (by infer_instance) (by rfl) (by rfl)) ?_
    refine Run.go ?_
    refine so_cond rfl (fun h1 => ?_) (fun h1 => ?_)
    · have hlt : k < st 3 := by simpa using h1
      refine Run.go ?_
      refine so_q (q_loadB (by infer_instance) (by rfl) (by infer_instance) (by rfl) (by rfl)) ?_
      refine Run.go ?_
      refine op_callv Fun52 (vs := [.int .i64 (k : Int)]) (by rfl) (of h' le k k1 hlt) (.refl ([] ++ O)) (by rfl) ?_
      rintro u A' h'' le2 ⟨rfl, rfl⟩
      refine Run.go ?_
      refine op_buildSlice (by infer_instance) (by infer_instance) (by rfl) (by rfl) (by rfl) (by rfl) fun b => ?_
      refine Run.go ?_
      refine op_append (ys := [val k]) (R := [(b, .cells [Value.int .i64 (val k)].toArray 3 (0, 0))]) (by rfl) (by rfl) (by infer_instance) (by infer_instance) (by rfl) gr (List.perm_append_singleton _ _).symm rfl (src_own (by infer_instance)) (by simp [intF, allOne]; rfl) (by simp; omega) (by simp; omega) fun v' A' gr' => ?_
      refine so_drop (O' := A') (List.sublist_append_left _ _) ?_
      refine Run.go ?_
      have hw : IntKind.i64.wrap ((k : Int) + 1) = ((k + 1 : Nat) : Int) := by rw [IntKind.wrap_i64]; omega
      have hr : List.range' (st 2) (k + 1 - st 2) = List.range' (st 2) (k - st 2) ++ [k] := by
        rw [show k + 1 - st 2 = (k - st 2) + 1 by omega, List.range'_1_concat, show st 2 + (k - st 2) = k by omega]
      refine ⟨k + 1, wl bS bC bO bCh v' (k + 1), by simp only [Nat.reduceAdd]; omega, ⟨rfl, rfl, rfl, rfl, rfl, ?_, trivial⟩, by omega, by simp only [Nat.reduceAdd]; omega, v', rfl, ?_⟩
      · rw [← hw]; rfl
      · rw [hr, List.map_append]; exact gr'
    · have hge : k = st 3 := by
        have : ¬ (k < st 3) := by simpa using h1
        simp only [Nat.reduceAdd] at k2
        omega
      subst hge
      refine so_exit ?_
      exact ⟨rfl, v, ⟨rfl, rfl, rfl, trivial⟩, gr⟩
  · refine so_seq ?_
    refine so_seq ?_
    refine so_reg ?_
    refine so_q (q_move (by rfl)) ?_
    refine so_q (q_loadB (by infer_instance) (by rfl) (by infer_instance) (by rfl) (by rfl)) ?_
    refine Run.go ?_
    refine so_q (q_indexP (by infer_instance) (by infer_instance) (by rfl) (by rfl) (by decide) (by decide)) ?_
    refine so_q (q_loadB (by infer_instance) (by rfl) (by infer_instance) (by rfl) (by rfl)) ?_
    refine Run.go ?_
    refine so_cond rfl (fun h1 => ?_) (fun h1 => ?_)
    · have hlt : k < st 4 := by simpa using h1
      refine Run.go ?_
      refine so_q (q_loadB (by infer_instance) (by rfl) (by infer_instance) (by rfl) (by rfl)) ?_
      refine Run.go ?_
      refine op_callv Fun52 (vs := [.int .i64 (k : Int)]) (by rfl) (of h' le k k1 hlt) (.refl ([] ++ O)) (by rfl) ?_
      rintro u A' h'' le2 ⟨rfl, rfl⟩
      refine Run.go ?_
      refine op_buildSlice (by infer_instance) (by infer_instance) (by rfl) (by rfl) (by rfl) (by rfl) fun b => ?_
      refine Run.go ?_
      refine op_append (ys := [val k]) (R := [(b, .cells [Value.int .i64 (val k)].toArray 3 (0, 0))]) (by rfl) (by rfl) (by infer_instance) (by infer_instance) (by rfl) gr (List.perm_append_singleton _ _).symm rfl (src_own (by infer_instance)) (by simp [intF, allOne]; rfl) (by simp; omega) (by simp; omega) fun v' A' gr' => ?_
      refine so_drop (O' := A') (List.sublist_append_left _ _) ?_
      refine Run.go ?_
      have hw : IntKind.i64.wrap ((k : Int) + 1) = ((k + 1 : Nat) : Int) := by rw [IntKind.wrap_i64]; omega
      have hr : List.range' (st 3) (k + 1 - st 3) = List.range' (st 3) (k - st 3) ++ [k] := by
        rw [show k + 1 - st 3 = (k - st 3) + 1 by omega, List.range'_1_concat, show st 3 + (k - st 3) = k by omega]
      refine ⟨k + 1, wl bS bC bO bCh v' (k + 1), by simp only [Nat.reduceAdd]; omega, ⟨rfl, rfl, rfl, rfl, rfl, ?_, trivial⟩, by omega, by simp only [Nat.reduceAdd]; omega, v', rfl, ?_⟩
      · rw [← hw]; rfl
      · rw [hr, List.map_append]; exact gr'
    · have hge : k = st 4 := by
        have : ¬ (k < st 4) := by simpa using h1
        simp only [Nat.reduceAdd] at k2
        omega
      subst hge
      refine so_exit ?_
      exact ⟨rfl, v, ⟨rfl, rfl, rfl, trivial⟩, gr⟩
end
end Go.Proofs.YtcpkcmgjfcbnpaaGreatDoor
namespace Go.Proofs.YtcpkcmgjfcbnpaaGreatDoor
open Go Go.Sl Go.Conc Go.Conc.Lib
set_option maxRecDepth 100000
theorem gr_at {A : Own} {v : Value} {T : TypeId} {α : Type} {E : Flat α} {xs : List α} (g : Gr A v T E xs) (hs : xs.length ≤ 281474976710656) {S : PHeap} (h : ∀ b o, (b, o) ∈ A → S.obj b = some o) : Sl S v E xs := by
  rcases g.at' with ⟨rfl, rfl, rfl⟩ | ⟨b, cap, sp, rfl, rfl, h1, h2⟩
  · exact Sl.nil _ _
  · refine ⟨hs, .inr ⟨cap, rfl, h2, ?_⟩⟩
    refine cells_flat (fun j v e => ?_)
    rw [add_none]
    have e0 := h b _ (List.mem_singleton.2 rfl)
    simp only [vo, vb]
    rw [cell_of e0]
    have hj : j < (xs.flatMap E.f).length := by
      rcases Nat.lt_or_ge j (xs.flatMap E.f).length with h | h
      · exact h
      · rw [List.getElem?_eq_none h] at e; cases e
    simp only [Nat.zero_add, List.getElem?_toArray]
    rw [List.getElem?_append_left hj]; exact e
def RowI (st : Nat → Nat) (val : Nat → Int) (i : Nat) (v : Value) (S : PHeap) : Prop := ∃ sl, v = .agg #[.int .i64 (i : Int), sl] ∧ Sl S sl intF ((List.range' (st i) (st (i + 1) - st i)).map val)
theorem RowI.mono {st : Nat → Nat} {val : Nat → Int} : ∀ i v (h h' : PHeap), (∀ b o, h.obj b = some o → h'.obj b = some o) → RowI st val i v h → RowI st val i v h' := fun i v h h' l ⟨sl, e, s⟩ => ⟨sl, e, s.sub l⟩
noncomputable abbrev FI (W : World) (RR : Value → Prop) (Wg Ch : Nat) (H0 : PHeap) (st : Nat → Nat) (val : Nat → Int) : Fk := mkFk Tryz.prog W RR Wg Ch 205 3 H0 (RowI st val) RowI.mono
instance {W : World} {RR : Value → Prop} {Wg Ch : Nat} {H0 : PHeap} {st : Nat → Nat} {val : Nat → Int} {i C : Nat} {v : Value} : IsCl Tryz.prog (· = JW (FI W RR Wg Ch H0 st val) i C v) := inferInstanceAs (IsCl (FI W RR Wg Ch H0 st val).P _)
noncomputable def body52 : Code := match Tryz.f136.body with | some c => c | _ => .skip
noncomputable def tail52 : Code := match Tryz.f136.body with | some (.seq _ c) => c | _ => .skip
section
variable {W : World} {RR : Value → Prop} {Wg Ch : Nat} {H0 : PHeap} {st : Nat → Nat} {val : Nat → Int}
attribute [local irreducible] Go.Code.so soOps Opq opo retO Go.Code.sl slOps slList opv
theorem tail52_jw (B : PHeap) (bS bC bO bCh : Nat) (fn : FuncId) (Fun52 : Fun Tryz.prog fn) (first cap : Array Value) (j : Nat) (hj : j < 4) (s4 : ∀ i, i < 5 → st i ≤ 1048576) (mono : st j ≤ st (j + 1)) (hgh : B.gh = [0]) (hsub : ∀ b o, H0.obj b = some o → B.obj b = some o)
    (hS : BAt B bS (.cells #[.int .i64 (st 0), .int .i64 (st 1), .int .i64 (st 2), .int .i64 (st 3), .int .i64 (st 4)] 193 (0, 0)))
    (hC : BAt B bC (.cells #[.int .i64 j] 3 (0, 0))) (hO : BAt B bO (.cells #[.func (.func fn) first cap] 97 (0, 0))) (hCh : BAt B bCh (.cells #[.chan (some Ch)] 195 (0, 0)))
    (of : ∀ (M : Jdg → Prop) [IsCl Tryz.prog M] (B' : PHeap), Le B B' → ∀ k, st j ≤ k → k < st (j + 1) → CallsR Tryz.prog M fn (first.toList ++ [.int .i64 (k : Int)] ++ cap.toList) B' fun v _ => v = .int .i64 (val k)) :
    tail52.sl Tryz.prog (· = JW (FI W RR Wg Ch H0 st val) j bC (.int .i64 j)) 28 (fun e _ h' => match e with | .nrm => h'.gh = [1] | _ => False) [(0, .pointer (some ⟨Wg, 0, none⟩)), (1, .pointer (some ⟨bS, 0, none⟩)), (2, .pointer (some ⟨bC, 0, none⟩)), (3, .pointer (some ⟨bO, 0, none⟩)), (4, .pointer (some ⟨bCh, 0, none⟩))] B := by
  have e0 : tail52 = .seq (match tail52 with | .seq a _ => a | _ => .skip) (.seq (.seq (match tail52 with | .seq _ (.seq (.seq a _) _) => a | _ => .skip) loop52) (match tail52 with | .seq _ (.seq _ a) => a | _ => .skip)) := rfl
  rw [e0]
  simp only [tail52, Tryz.f136]
  refine sl_seq ?_
  refine sl_reg ?_
  refine l_q (fun _ _ => o_assign (by rfl)) ?_
  refine l_nil ?_
  refine sl_seq ?_
  refine sl_seq ?_
  refine sl_reg ?_
  refine l_q (fun _ _ => o_loadB (by rfl) hC.at' (by rfl) (by rfl)) ?_
  have hcs : takeCells #[.int .i64 (st 0), .int .i64 (st 1), .int .i64 (st 2), .int .i64 (st 3), .int .i64 (st 4)] (0 + (j : Int).toNat * 1) 1 = some [.int .i64 (st j)] := by
    obtain rfl | rfl | rfl | rfl : j = 0 ∨ j = 1 ∨ j = 2 ∨ j = 3 := by omega
    all_goals rfl
  refine l_q (fun _ _ => o_indexAddrA (by rfl) (by rfl) (by omega) (by omega)) ?_
  refine l_q (fun _ _ => o_loadB (by rfl) hS.at' hcs (by rfl)) ?_
  refine l_q (fun _ _ => o_assign (by rfl)) ?_
  refine l_nil ?_
  refine sl_of_so (worker_loop B Wg bS bC bO bCh st fn Fun52 first cap val j hj s4 mono hS hC hO (of _) _ ⟨rfl, rfl, rfl, rfl, rfl, rfl, trivial⟩) (PHeap.le_refl _) rfl ?_
  rintro e L' A h' H' le ⟨rfl, v, ⟨g2, g4, g5, _⟩, gr⟩ rel
  have hB : ∀ b o, B.obj b = some o → H'.obj b = some o := fun b o e => (rel.base b o (le.le b o e).1).1
  refine sl_reg ?_
  refine l_q (fun _ _ => o_loadB g4 (hB _ _ hCh.at') (by rfl) (by rfl)) ?_
  refine l_q (fun _ _ => o_loadB (off := 0) (by first | exact g2 | (show Locals.get _ 2 = _; exact g2)) (hB _ _ hC.at') (by rfl) (by rfl)) ?_
  refine l_q (fun _ _ => o_move g5) ?_
  have hg' : H'.gh = [0] := (rel.gh.trans le.gh).trans hgh
  have hlen : ((List.range' (st j) (st (j + 1) - st j)).map val).length ≤ 281474976710656 := by
    have := s4 (j + 1) (by omega)
    simp; omega
  have hSl : Sl (beyond H0 (delb (ro H' [1]) bC)) v intF ((List.range' (st j) (st (j + 1) - st j)).map val) := gr_at gr hlen fun b o m => by
    obtain ⟨o1, o2, o3, o4⟩ := rel.own b o m
    have hn : H0.obj b = none := by
      cases z : H0.obj b with
      | none => rfl
      | some o => rw [(le.le b o (hsub b o z)).1] at o4; cases o4
    have hbC : b ≠ bC := fun z => by
      have := (le.le bC _ hC.at').1
      rw [← z, o4] at this; cases this
    simp only [beyond, hn, Option.isSome_none, Bool.false_eq_true, if_false, delb, ro, hbC]
    exact o1
  obtain ⟨ba, cp, rfl⟩ := hSl.val
  refine l_q (fun _ _ => o_build (by infer_instance) (by infer_instance) (by rfl) (by rfl)) ?_
  refine l_send (F := FI W RR Wg Ch H0 st val) (C := bC) (i := j) (v := .int .i64 j) hg' (hB _ _ hC.at') (by rfl) (by rfl) ?_ ?_
  · exact ⟨_, rfl, hSl⟩
  · exact l_nil rfl
end
section
variable {W : World} {RR : Value → Prop} {Wg Ch : Nat} {H0 : PHeap} {st : Nat → Nat} {val : Nat → Int}
theorem worker_jw (B : PHeap) (bS bC bO bCh : Nat) (fn : FuncId) (Fun52 : Fun Tryz.prog fn) (first cap : Array Value) (j : Nat) (hj : j < 4) (s4 : ∀ i, i < 5 → st i ≤ 1048576) (mono : st j ≤ st (j + 1)) (hgh : B.gh = [0]) (hsub : ∀ b o, H0.obj b = some o → B.obj b = some o)
    (hS : BAt B bS (.cells #[.int .i64 (st 0), .int .i64 (st 1), .int .i64 (st 2), .int .i64 (st 3), .int .i64 (st 4)] 193 (0, 0)))
    (hC : BAt B bC (.cells #[.int .i64 j] 3 (0, 0))) (hO : BAt B bO (.cells #[.func (.func fn) first cap] 97 (0, 0))) (hCh : BAt B bCh (.cells #[.chan (some Ch)] 195 (0, 0)))
    (of : ∀ (M : Jdg → Prop) [IsCl Tryz.prog M] (B' : PHeap), Le B B' → ∀ k, st j ≤ k → k < st (j + 1) → CallsR Tryz.prog M fn (first.toList ++ [.int .i64 (k : Int)] ++ cap.toList) B' fun v _ => v = .int .i64 (val k))
    (tm : Array Value) (ha : Agree 28 [(0, .pointer (some ⟨Wg, 0, none⟩)), (1, .pointer (some ⟨bS, 0, none⟩)), (2, .pointer (some ⟨bC, 0, none⟩)), (3, .pointer (some ⟨bO, 0, none⟩)), (4, .pointer (some ⟨bCh, 0, none⟩))] tm) :
    JW (FI W RR Wg Ch H0 st val) j bC (.int .i64 j) B (G ((baseD 136).at ⟨tm, []⟩ [.code body52]) [bot Tryz.prog]) := by
  have Qu : ∀ {g g' : Goroutine} {h : PHeap}, g.status = .running → (∀ main w, stepG Tryz.prog main g w = .go g' w) → JW (FI W RR Wg Ch H0 st val) j bC (.int .i64 j) h g' → JW (FI W RR Wg Ch H0 st val) j bC (.int .i64 j) h g := fun {g g' h} hr hs x => quiet (P := Tryz.prog) (M := (· = JW (FI W RR Wg Ch H0 st val) j bC (.int .i64 j))) rfl hr hs x
  have e0 : body52 = .seq (match body52 with | .seq a _ => a | _ => .skip) tail52 := rfl
  have e1 : (match body52 with | .seq a _ => a | _ => .skip) = Code.region 0 #[⟨none, .defer { callee := .value (.func 137), args := #[.tmp 0], argTypes := #[205] }, 0, "l12_pic.go:29", #[], none⟩] false := rfl
  rw [e0, e1]
  refine Qu rfl (fun _ _ => stepG_seq) ?_
  refine Qu rfl (fun _ _ => stepG_region) ?_
  refine Qu rfl (fun _ _ => stepG_defer (o := ⟨none, .defer { callee := .value (.func 137), args := #[.tmp 0], argTypes := #[205] }, 0, "l12_pic.go:29", #[], none⟩) rfl rfl (by simp [baseD]) rfl) ?_
  refine Qu rfl (fun _ _ => stepG_region_end) ?_
  have hd : (#[Operand.tmp 0] : Array Operand).map (Act.mk tm []).eval = #[.pointer (some ⟨Wg, 0, none⟩)] := by simp [Agree.ev (a := ⟨tm, []⟩) ha (o := .tmp 0) rfl]
  simp only [hd, Act.put]
  refine sl_app (tail52_jw B bS bC bO bCh fn Fun52 first cap j hj s4 mono hgh hsub hS hC hO hCh of) rfl (baseD 136) [] [bot Tryz.prog] [dcall 137 #[.pointer (some ⟨Wg, 0, none⟩)]] tm (by simp [baseD]) ha (ends_nrm fun L1 h1 tm1 q1 ha1 => ?_)
  refine Qu rfl (fun _ _ => stepG_end) ?_
  exact jw_out (F := FI W RR Wg Ch H0 st val) (Wl := wgLink) wgLib rfl Tryz.func136 rfl q1
end
noncomputable def fork43 : Code := match Tryz.f95.body with | some (.seq _ (.seq _ (.seq _ (.seq _ (.seq c _))))) => c | _ => .skip
noncomputable def join43 : Code := match Tryz.f95.body with | some (.seq _ (.seq _ (.seq _ (.seq _ (.seq _ (.seq c _)))))) => c | _ => .skip
instance {W : World} {RR : Value → Prop} {Wg Ch : Nat} {H0 : PHeap} {st : Nat → Nat} {val : Nat → Int} : IsCl Tryz.prog (· = JM (FI W RR Wg Ch H0 st val)) := inferInstanceAs (IsCl (FI W RR Wg Ch H0 st val).P _)
abbrev ml (bO bS bCh Wg j : Nat) : Locals := [(3, .pointer (some ⟨bO, 0, none⟩)), (5, .pointer (some ⟨bS, 0, none⟩)), (6, .pointer (some ⟨bCh, 0, none⟩)), (7, .pointer (some ⟨Wg, 0, none⟩)), (17, .int .i64 (j : Int))]
section
variable {W : World} {RR : Value → Prop} {Wg Ch : Nat} {H0 : PHeap} {st : Nat → Nat} {val : Nat → Int}
attribute [local irreducible] Go.Code.sl slOps slList opv
theorem join43_jm (bO bS bCh : Nat) (h : PHeap) (hgh : h.gh = [0, 4]) (K : Locals → PHeap → Prop) (L : Locals) (hL : Locals.sub (ml bO bS bCh Wg 4) L) (hK : ∀ v, K (setL (some 23) v L) (stay h [10])) :
    join43.sl Tryz.prog (· = JM (FI W RR Wg Ch H0 st val)) 43 (fun e L' h' => match e with | .nrm => K L' h' | _ => False) L h := by
  simp only [join43, Tryz.f95]
  refine sl_reg ?_
  refine l_call (F := FI W RR Wg Ch H0 st val) wgLib.f_wait rfl rfl (vs := [.pointer (some ⟨Wg, 0, none⟩)]) (by show evAll L [.tmp 7] = _; simp only [evAll, ev, hL.2.2.2.1]) (wait_jm (F := FI W RR Wg Ch H0 st val) wgLib hgh) ?_
  rintro v _ rfl
  exact l_nil (hK v)
end
section
variable {W : World} {RR : Value → Prop} {Wg Ch : Nat} {H0 : PHeap} {st : Nat → Nat} {val : Nat → Int}
attribute [local irreducible] Go.Code.sl slOps slList opv
theorem fork43_jm (bS bO bCh : Nat) (fn : FuncId) (Fun52 : Fun Tryz.prog fn) (first cap : Array Value) (s4 : ∀ i, i < 5 → st i ≤ 1048576) (mono : ∀ j, j < 4 → st j ≤ st (j + 1))
    (hS : H0.obj bS = some (.cells #[.int .i64 (st 0), .int .i64 (st 1), .int .i64 (st 2), .int .i64 (st 3), .int .i64 (st 4)] 193 (0, 0))) (hO : H0.obj bO = some (.cells #[.func (.func fn) first cap] 97 (0, 0))) (hCh : H0.obj bCh = some (.cells #[.chan (some Ch)] 195 (0, 0)))
    (of : ∀ (M : Jdg → Prop) [IsCl Tryz.prog M] (B' : PHeap), (∀ b o, H0.obj b = some o → B'.obj b = some o) → ∀ k, k < st 4 → CallsR Tryz.prog M fn (first.toList ++ [.int .i64 (k : Int)] ++ cap.toList) B' fun v _ => v = .int .i64 (val k)) (m4 : ∀ j, j < 4 → st (j + 1) ≤ st 4) (h : PHeap) (hgh : h.gh = [0, 0]) (ro0 : ∀ b o, H0.obj b = some o → h.obj b = some o ∧ h.wr b = false) (L : Locals)
    (hL : Locals.sub [(3, .pointer (some ⟨bO, 0, none⟩)), (5, .pointer (some ⟨bS, 0, none⟩)), (6, .pointer (some ⟨bCh, 0, none⟩)), (7, .pointer (some ⟨Wg, 0, none⟩))] L) :
    fork43.sl Tryz.prog (· = JM (FI W RR Wg Ch H0 st val)) 43 (fun e L' h' => match e with | .nrm => h'.gh = [0, 4] ∧ (∀ b o, H0.obj b = some o → h'.obj b = some o ∧ h'.wr b = false) ∧ Locals.sub (ml bO bS bCh Wg 4) L' | _ => False) L h := by
  simp only [fork43, Tryz.f95]
  refine sl_seq ?_
  refine sl_reg ?_
  refine l_q (fun _ _ => o_move (by rfl)) ?_
  refine l_nil ?_
  refine sl_block ?_
  refine sl_loop (ι := Nat) (Lo := fun j => ml bO bS bCh Wg j) (A := fun j h' => j ≤ 4 ∧ h'.gh = [0, j] ∧ ∀ b o, H0.obj b = some o → h'.obj b = some o ∧ h'.wr b = false) (μ := fun j => 4 - j) 0 ⟨hL.1, hL.2.1, hL.2.2.1, hL.2.2.2.1, rfl, trivial⟩ ⟨by decide, hgh, ro0⟩ ?_
  rintro j h1 ⟨hj, hg1, ro1⟩
  refine sl_seq ?_
  refine sl_reg ?_
  refine l_q (x_num (by rfl) (by rfl) (by rfl)) ?_
  refine l_nil ?_
  refine sl_seq ?_
  refine sl_cond (by rfl) (fun c1 => ?_) (fun c1 => ?_)
  · have hlt : j < 4 := by
      have := of_decide_eq_true c1
      omega
    refine sl_skip ?_
    refine sl_seq ?_
    refine sl_block ?_
    refine sl_seq ?_
    refine sl_reg ?_
    refine l_q (fun _ _ => o_move (by rfl)) ?_
    refine l_plain rfl (by rfl) (o_alloc fun C hCn => ?_)
    refine l_plain rfl (by rfl) (o_store (v := .int .i64 (j : Int)) (b := C) (off := 0) (by rfl) (by rfl) (obj_put _ _ _) (wr_put _ _ _) (by rfl) (by show 1 ≤ 1; decide) (by rfl) ?_)
    refine l_nil ?_
    refine sl_seq ?_
    refine sl_reg ?_
    refine l_call (F := FI W RR Wg Ch H0 st val) wgLib.f_add rfl rfl (vs := [.pointer (some ⟨Wg, 0, none⟩), .int .i64 1]) (by rfl) (add_jm (F := FI W RR Wg Ch H0 st val) wgLib (j := j) hj hg1) ?_
    rintro v _ rfl
    refine l_nil ?_
    refine sl_reg ?_
    refine l_q (fun _ _ => o_makeFunc (vs := []) (us := [.pointer (some ⟨Wg, 0, none⟩), .pointer (some ⟨bS, 0, none⟩), .pointer (some ⟨C, 0, none⟩), .pointer (some ⟨bO, 0, none⟩), .pointer (some ⟨bCh, 0, none⟩)]) (by rfl) (by rfl)) ?_
    have hC0 : H0.obj C = none := by
      cases z : H0.obj C with
      | none => rfl
      | some o => rw [(ro1 C o z).1] at hCn; cases hCn
    have hne : ∀ b o, H0.obj b = some o → b ≠ C := fun b o z e => by rw [e, hC0] at z; cases z
    have hob : ∀ b o, H0.obj b = some o → (stay ((h1.put C (.cells (Value.int .i64 0).cells 3)).put C (.cells (setCells (Value.int .i64 0).cells 0 (Value.int .i64 (j : Int)).cells.toList) 3)) [3, j]).obj b = some o := fun b o z => by
      simp only [stay, PHeap.put, hne b o z, if_false]; exact (ro1 b o z).1
    refine l_go (F := FI W RR Wg Ch H0 st val) (vs := [.pointer (some ⟨Wg, 0, none⟩), .pointer (some ⟨bS, 0, none⟩), .pointer (some ⟨C, 0, none⟩), .pointer (some ⟨bO, 0, none⟩), .pointer (some ⟨bCh, 0, none⟩)]) (C := C) (v := .int .i64 (j : Int)) (j := j) (f := 136) (nf := 28) rfl hlt (by rfl) Tryz.func136 rfl rfl rfl (show 5 ≤ 28 by decide) ?_ ?_ hC0 (fun tm ha => ?_) ?_
    · simp [stay, PHeap.put]; exact ⟨rfl, rfl⟩
    · simp [stay, PHeap.put]
    · refine worker_jw (H0 := H0) (ro _ [0]) bS C bO bCh fn Fun52 first cap j hlt s4 (mono j hlt) rfl (fun b o z => hob b o z) ⟨hob _ _ hS⟩ ⟨?_⟩ ⟨hob _ _ hO⟩ ⟨hob _ _ hCh⟩ (fun M _ B' le k k1 k2 => of M B' (fun b o z => (le.le b o (hob b o z)).1) k (Nat.lt_of_lt_of_le k2 (m4 j hlt))) tm ha
      simp [ro, stay, PHeap.put]; rfl
    · refine l_nil ?_
      refine sl_reg ?_
      refine l_q (x_num (by rfl) (by rfl) (by rfl)) ?_
      refine l_q (fun _ _ => o_move (by rfl)) ?_
      refine l_nil ?_
      have hw : IntKind.i64.wrap ((j : Int) + 1) = ((j + 1 : Nat) : Int) := by rw [IntKind.wrap_i64]; omega
      refine ⟨j + 1, by show 4 - (j + 1) < 4 - j; omega, ⟨rfl, rfl, rfl, rfl, ?_, trivial⟩, by omega, rfl, fun b o z => ⟨?_, rfl⟩⟩
      · rw [← hw]; rfl
      · simp only [delb, hne b o z, if_false]; exact hob b o z
  · have : j = 4 := by
      have := of_decide_eq_false c1
      omega
    subst this
    refine sl_exit ?_
    exact ⟨hg1, ro1, ⟨rfl, rfl, rfl, rfl, rfl, trivial⟩⟩
end
end Go.Proofs.YtcpkcmgjfcbnpaaGreatDoor
namespace Go.Proofs.YtcpkcmgjfcbnpaaGreatDoor
open Go Go.Sl
set_option maxRecDepth 100000
set_option maxHeartbeats 4000000
attribute [local irreducible] Go.Code.sf sfOps Opq opo retF Do1 anyO
variable {M : Jdg → Prop} [IsCl Tryz.prog M]
theorem gridRows_v (h : PHeap) (ca : List Value) (g : Grid) (b : (gridR τ).B h ca g) (hw : 0 < g.wide) : CallV Tryz.prog M 108 [.agg ca.toArray] h (.int .i64 ((g.cells.length : Int) / g.wide)) := by
  obtain ⟨c, rfl, s⟩ := gridB b
  have o1 := s.one
  have hs := s.small
  refine Cs Tryz.func108 Tryz.ntmps108 ?_
  repeat first | refine R1 ?_ | refine R2 fun _ => ?_
  exact sf_ret (rV rfl)
theorem sideStarts_v (h : PHeap) (ca : List Value) (g : Grid) (b : (gridR τ).B h ca g) (w r : Nat) (hw : g.wide = w) (h1 : 1 ≤ w) (h5 : w ≤ 5) (hr : (g.cells.length : Int) / g.wide = r) (hr5 : r ≤ 5) : CallV Tryz.prog M 134 [.agg ca.toArray] h (.agg #[.int .i64 (stOf w r 0 : Nat), .int .i64 (stOf w r 1 : Nat), .int .i64 (stOf w r 2 : Nat), .int .i64 (stOf w r 3 : Nat), .int .i64 (stOf w r 4 : Nat)]) := by
  obtain ⟨c, rfl, s⟩ := gridB b
  have o1 := s.one
  refine Cs Tryz.func134 Tryz.ntmps134 ?_
  repeat first | refine R1 ?_ | refine R2 fun _ => ?_
  refine Xv (gridRows_v _ _ g b (by omega)) ?_
  rw [hr]
  obtain ⟨gw, gc⟩ := g
  simp only at hw hr
  subst hw
  repeat first | refine R1 ?_ | refine R2 fun _ => ?_
  refine sf_ret (rV ?_)
  simp only [stOf, IntKind.wrap_i64, Value.agg.injEq]
  simp
  omega
noncomputable def tail43 : Code := match Tryz.f95.body with | some (.seq _ (.seq _ (.seq _ (.seq _ c)))) => c | _ => .skip
noncomputable def rest43 : Code := match Tryz.f95.body with | some (.seq _ (.seq _ (.seq _ (.seq _ (.seq _ (.seq _ c)))))) => c | _ => .skip
theorem hide4 {P : Program} {M : Jdg → Prop} {n : Nat} {Q : Qf} {L : Locals} {O : Own} {h : PHeap} {c0 c1 c2 c3 t t' : Code} (e : t' = t) (x : (Code.seq c0 (.seq c1 (.seq c2 (.seq c3 t')))).sf P M n Q L O h) : (Code.seq c0 (.seq c1 (.seq c2 (.seq c3 t)))).sf P M n Q L O h := e ▸ x
def SideI (h : PHeap) (w r : Nat) (val : Nat → Int) (i : Nat) (v : Value) : Prop := Sl h v intF ((List.range' (stOf w r i) (stOf w r (i + 1) - stOf w r i)).map val)
theorem sidesInt_f [al : Alone Tryz.prog M] (h : PHeap) (ca : List Value) (g : Grid) (b : (gridR τ).B h ca g) (w r : Nat) (hw : g.wide = w) (h1 : 1 ≤ w) (h5 : w ≤ 5) (hr : (g.cells.length : Int) / g.wide = r) (hr5 : r ≤ 5) (fn : FuncId) [Fu : Fun Tryz.prog fn] (first cap : Array Value) (val : Nat → Int)
    (of : ∀ (M : Jdg → Prop) [IsCl Tryz.prog M] (h' : PHeap), (∀ b o, h.obj b = some o → h'.obj b = some o) → ∀ k, k < stOf w r 4 → CallV Tryz.prog M fn (first.toList ++ [.int .i64 (k : Int)] ++ cap.toList) h' (.int .i64 (val k))) :
    CallF Tryz.prog M 95 [.agg ca.toArray, .func (.func fn) first cap] [] h fun v A => Gr A v 3 intF ((List.range (stOf w r 4)).map val) := by
  obtain ⟨W, RR, rfl⟩ := al.is
  have b0 := b
  obtain ⟨c, rfl, s⟩ := gridB b
  have o1 := s.one
  refine Cs Tryz.func95 Tryz.ntmps95 ?_
  obtain ⟨t', et⟩ : ∃ t', t' = tail43 := ⟨_, rfl⟩
  refine hide4 (et.trans rfl) ?_
  repeat first | refine R1 ?_ | refine R2 fun _ => ?_
  refine Xv (sideStarts_v _ _ g b0 w r hw h1 h5 hr hr5) ?_
  repeat first | refine R1 ?_ | refine R2 fun _ => ?_
  refine f_makeChan (by rfl) (by rfl) fun Ch => ?_
  repeat first | refine R1 ?_ | refine R2 fun _ => ?_
  rename_i b2 b3 b5 b6 b7
  subst et
  show (Code.seq fork43 (Code.seq join43 rest43)).sf _ _ _ _ _ _ _
  refine sf_fork (Wg := b7) (Ch := Ch) (ty := 205) (it := 3) (RowI (stOf w r) val) RowI.mono (fun L' => Locals.sub (ml b3 b5 b6 b7 4) L') (R := [(b6, .cells #[.chan (some Ch)] 195), (b5, .cells #[.int .i64 (stOf w r 0 : Nat), .int .i64 (stOf w r 1 : Nat), .int .i64 (stOf w r 2 : Nat), .int .i64 (stOf w r 3 : Nat), .int .i64 (stOf w r 4 : Nat)] 193), (b3, .cells #[.func (.func fn) first cap] 97), (b2, .cells #[.int .i64 g.wide, c] 25)]) ?_ (fun H0 hle hR hWg hCh => ?_) fun L' h2 rows hle hL hp hrow => ?_
  · exact (List.Perm.refl _).cons _ |>.trans ((List.Perm.swap _ _ _).cons _)
  · refine sl_mono (fork43_jm (Wg := b7) (Ch := Ch) (H0 := H0) (W := W) (RR := RR) (st := stOf w r) (val := val) b5 b3 b6 fn Fu first cap (fun i _ => Nat.le_trans (stOf_le h5 hr5 i) (by decide)) (stOf_mono) (hR _ _ (by simp)) (hR _ _ (by simp)) (hR _ _ (by simp)) (fun M _ B' hB k hk => callsR_of (of M B' (fun b o z => hB b o (hle b o z).1) k hk)) ?_ (ro H0 [0, 0]) rfl (fun b o z => ⟨z, rfl⟩) _ ⟨rfl, rfl, rfl, rfl, trivial⟩) ?_
    · intro j hj
      obtain rfl | rfl | rfl | rfl : j = 0 ∨ j = 1 ∨ j = 2 ∨ j = 3 := by omega
      all_goals simp only [stOf]; omega
    · rintro e L1 h1' q
      cases e with
      | nrm =>
        obtain ⟨q1, q2, q3⟩ := q
        exact join43_jm b3 b5 b6 h1' q1 (fun L' h' => h'.gh = [10] ∧ (∀ b o, H0.obj b = some o → h'.obj b = some o ∧ h'.wr b = false) ∧ Locals.sub (ml b3 b5 b6 b7 4) L') L1 q3 fun v => ⟨rfl, fun b o z => q2 b o z, ⟨q3.1, q3.2.1, q3.2.2.1, q3.2.2.2.1, q3.2.2.2.2.1, trivial⟩⟩
      | _ => exact q.elim
  · simp only [rest43]
    refine sf_sub (ml b3 b5 b6 b7 4) hL ?_
    repeat first | refine R1 ?_ | refine R2 fun _ => ?_
    refine f_close (by rfl) ?_
    repeat first | refine R1 ?_ | refine R2 fun _ => ?_
    rename_i b9
    refine sf_lp (ι := List (Nat × Value) × Value × Value × Value × Value) [9, 25] (fun _ => []) (fun x O => ∃ rc, O = [(b9, .cells #[x.2.1, x.2.2.1, x.2.2.2.1, x.2.2.2.2] 209), (Ch, .chan 4 (x.1.map Prod.snd).toArray true 4 rc false)] ∧ (∀ p ∈ x.1, p.1 < 4 ∧ RowI (stOf w r) val p.1 p.2 h2) ∧ (Sl.One x.2.1 ∧ Sl.One x.2.2.1 ∧ Sl.One x.2.2.2.1 ∧ Sl.One x.2.2.2.2) ∧ (0 ∈ x.1.map Prod.fst ∨ SideI h2 w r val 0 x.2.1) ∧ (1 ∈ x.1.map Prod.fst ∨ SideI h2 w r val 1 x.2.2.1) ∧ (2 ∈ x.1.map Prod.fst ∨ SideI h2 w r val 2 x.2.2.2.1) ∧ (3 ∈ x.1.map Prod.fst ∨ SideI h2 w r val 3 x.2.2.2.2)) (fun x => x.1.length) (rows, .slice none 0 0, .slice none 0 0, .slice none 0 0, .slice none 0 0) [(b9, .cells #[.slice none 0 0, .slice none 0 0, .slice none 0 0, .slice none 0 0] 209), (Ch, .chan 4 (rows.map Prod.snd).toArray true 4 0 false)] ⟨0, rfl, fun p hp' => ⟨?_, hrow p hp'⟩, ⟨inferInstance, inferInstance, inferInstance, inferInstance⟩, .inl ?_, .inl ?_, .inl ?_, .inl ?_⟩ ?_
    · have := hp.mem_iff.1 (List.mem_map.2 ⟨p, hp', rfl⟩)
      simp at this; omega
    · exact hp.mem_iff.2 (by simp)
    · exact hp.mem_iff.2 (by simp)
    · exact hp.mem_iff.2 (by simp)
    · exact hp.mem_iff.2 (by simp)
    clear hrow hp hL hle b b0 of
    rintro ⟨rs, v0, v1, v2, v3⟩ O ⟨rc, rfl, hrow, ⟨p0, p1, p2, p3⟩, s0, s1, s2, s3⟩
    simp only at hrow p0 p1 p2 p3 s0 s1 s2 s3 ⊢
    match rs, hrow, s0, s1, s2, s3 with
    | [], hrow, s0, s1, s2, s3 =>
      simp only [List.map_nil, List.not_mem_nil, false_or] at s0 s1 s2 s3 ⊢
      repeat first | refine R1 ?_ | refine R2 fun _ => ?_
      refine f_shut (by rfl) ?_
      repeat first | refine R1 ?_ | refine R2 fun _ => ?_
      refine sf_cond (by rfl) (fun e => by cases e) fun _ => ?_
      refine sf_exit ?_
      repeat first | refine R1 ?_ | refine R2 fun _ => ?_
      have t0 := stOf_le (w := w) (r := r) h5 hr5 0
      have t1 := stOf_le (w := w) (r := r) h5 hr5 1
      have t2 := stOf_le (w := w) (r := r) h5 hr5 2
      have t3 := stOf_le (w := w) (r := r) h5 hr5 3
      have t4 := stOf_le (w := w) (r := r) h5 hr5 4
      refine sf_lp (ι := Nat × Value) [34] (fun x => [(35, .int .i64 (x.1 : Int)), (11, x.2)]) (fun x O => x.1 ≤ 4 ∧ Gr O x.2 3 intF ((List.range (stOf w r x.1)).map val)) (fun x => 4 - x.1) (0, .slice none 0 0) [] ⟨by decide, by simpa [stOf] using Gr.nil _ _⟩ ?_
      rintro ⟨k, v⟩ O ⟨hk, g3⟩
      simp only at hk g3 ⊢
      have o5 := g3.one
      repeat first | refine R1 ?_ | refine R2 fun _ => ?_
      refine sf_if (fun h4 => ?_) fun h4 => ?_
      · have hk4 : k = 0 ∨ k = 1 ∨ k = 2 ∨ k = 3 := by omega
        have hrng : ∀ j, j < 4 → (List.range (stOf w r j)).map val ++ (List.range' (stOf w r j) (stOf w r (j + 1) - stOf w r j)).map val = (List.range (stOf w r (j + 1))).map val := fun j hj => by
          rw [← List.map_append]
          congr 1
          rw [List.range_eq_range', List.range_eq_range', show stOf w r (j + 1) = stOf w r j + (stOf w r (j + 1) - stOf w r j) by have := stOf_mono (w := w) (r := r) j hj; omega, ← List.range'_append_1]
          simp
        rcases hk4 with rfl | rfl | rfl | rfl
        · repeat first | refine R1 ?_ | refine R2 fun _ => ?_
          refine fp (Rq ?_ (q_index (by infer_instance) (by infer_instance) (by rfl) (by rfl) (by decide) (by decide) (by rfl)))
          repeat first | refine R1 ?_ | refine R2 fun _ => ?_
          refine Xs g3 s0 fun v' A' g4 => ?_
          repeat first | refine R1 ?_ | refine R2 fun _ => ?_
          exact ⟨(1, v'), by simp only; omega, ⟨rfl, rfl, trivial⟩, rfl, A', _, inferInstance, by simp only; omega, by rw [← hrng 0 (by decide)]; exact g4⟩
        · repeat first | refine R1 ?_ | refine R2 fun _ => ?_
          refine fp (Rq ?_ (q_index (by infer_instance) (by infer_instance) (by rfl) (by rfl) (by decide) (by decide) (by rfl)))
          repeat first | refine R1 ?_ | refine R2 fun _ => ?_
          refine Xs g3 s1 fun v' A' g4 => ?_
          repeat first | refine R1 ?_ | refine R2 fun _ => ?_
          exact ⟨(2, v'), by simp only; omega, ⟨rfl, rfl, trivial⟩, rfl, A', _, inferInstance, by simp only; omega, by rw [← hrng 1 (by decide)]; exact g4⟩
        · repeat first | refine R1 ?_ | refine R2 fun _ => ?_
          refine fp (Rq ?_ (q_index (by infer_instance) (by infer_instance) (by rfl) (by rfl) (by decide) (by decide) (by rfl)))
          repeat first | refine R1 ?_ | refine R2 fun _ => ?_
          refine Xs g3 s2 fun v' A' g4 => ?_
          repeat first | refine R1 ?_ | refine R2 fun _ => ?_
          exact ⟨(3, v'), by simp only; omega, ⟨rfl, rfl, trivial⟩, rfl, A', _, inferInstance, by simp only; omega, by rw [← hrng 2 (by decide)]; exact g4⟩
        · repeat first | refine R1 ?_ | refine R2 fun _ => ?_
          refine fp (Rq ?_ (q_index (by infer_instance) (by infer_instance) (by rfl) (by rfl) (by decide) (by decide) (by rfl)))
          repeat first | refine R1 ?_ | refine R2 fun _ => ?_
          refine Xs g3 s3 fun v' A' g4 => ?_
          repeat first | refine R1 ?_ | refine R2 fun _ => ?_
          exact ⟨(4, v'), by simp only; omega, ⟨rfl, rfl, trivial⟩, rfl, A', _, inferInstance, by simp only; omega, by rw [← hrng 3 (by decide)]; exact g4⟩
      · refine sf_exit ?_
        repeat first | refine R1 ?_ | refine R2 fun _ => ?_
        have : k = 4 := by omega
        subst this
        exact sf_ret (rO O g3)
    | (i, u) :: rs, hrow, s0, s1, s2, s3 =>
      have hh := hrow (i, u) (List.mem_cons_self ..)
      simp only [RowI] at hh
      obtain ⟨hi, sl, rfl, sl0⟩ := hh
      have ol := sl0.one
      have hrow' : ∀ p ∈ rs, p.1 < 4 ∧ RowI (stOf w r) val p.1 p.2 h2 := fun p hp => hrow p (List.mem_cons_of_mem _ hp)
      simp only [List.map_cons] at s0 s1 s2 s3 ⊢
      repeat first | refine R1 ?_ | refine R2 fun _ => ?_
      have hi' : i = 0 ∨ i = 1 ∨ i = 2 ∨ i = 3 := by omega
      refine f_recv (by rfl) ?_
      repeat first | refine R1 ?_ | refine R2 fun _ => ?_
      refine sf_T rfl ?_
      rcases hi' with rfl | rfl | rfl | rfl
      · repeat first | refine R1 ?_ | refine R2 fun _ => ?_
        exact ⟨(rs, sl, v1, v2, v3), by simp only [List.length_cons]; omega, trivial, rfl, _, _, inferInstance, rc + 1, rfl, hrow', ⟨ol, p1, p2, p3⟩, .inr sl0, by simpa using s1, by simpa using s2, by simpa using s3⟩
      · repeat first | refine R1 ?_ | refine R2 fun _ => ?_
        exact ⟨(rs, v0, sl, v2, v3), by simp only [List.length_cons]; omega, trivial, rfl, _, _, inferInstance, rc + 1, rfl, hrow', ⟨p0, ol, p2, p3⟩, by simpa using s0, .inr sl0, by simpa using s2, by simpa using s3⟩
      · repeat first | refine R1 ?_ | refine R2 fun _ => ?_
        exact ⟨(rs, v0, v1, sl, v3), by simp only [List.length_cons]; omega, trivial, rfl, _, _, inferInstance, rc + 1, rfl, hrow', ⟨p0, p1, ol, p3⟩, by simpa using s0, by simpa using s1, .inr sl0, by simpa using s3⟩
      · repeat first | refine R1 ?_ | refine R2 fun _ => ?_
        exact ⟨(rs, v0, v1, v2, sl), by simp only [List.length_cons]; omega, trivial, rfl, _, _, inferInstance, rc + 1, rfl, hrow', ⟨p0, p1, p2, ol⟩, by simpa using s0, by simpa using s1, by simpa using s2, .inr sl0⟩
theorem picOf1_v (h : PHeap) (c : Value) (g : Grid) (s : Sl h c cellF g.cells) (e : gridOk g = true) (b : Nat) [BAt h b (.cells #[.int .i64 g.wide, c] 25)] (k : Int) (hk : 0 ≤ k ∧ k < manyOf g) : CallV Tryz.prog M 96 [.int .i64 k, .pointer (some ⟨b, 0, none⟩)] h (.int .i64 (trailLight g k)) := by
  have o1 := s.one
  refine Cs Tryz.func96 Tryz.ntmps96 ?_
  refine Wo ?_
  refine Xv (trailLight_v h c g s e k hk) ?_
  refine Wo ?_
  exact sf_ret (rV rfl)
theorem picOf_f [al : Alone Tryz.prog M] (h : PHeap) (ca : List Value) (g : Grid) (b : (gridR τ).B h ca g) (e : gridOk g = true) : CallF Tryz.prog M 55 [.agg ca.toArray] [] h fun u A => Gr A u 3 intF (picOf g) := by
  obtain ⟨c, rfl, s⟩ := gridB b
  have o1 := s.one
  have kg := gok e
  have w1 := kg.w1; have w5 := kg.w5; have r1 := kg.r1; have r5 := kg.r5
  obtain ⟨ww, ew⟩ : ∃ ww : Nat, g.wide = ww := ⟨g.wide.toNat, by omega⟩
  obtain ⟨rr, er⟩ : ∃ rr : Nat, rowsOf g = rr := ⟨(rowsOf g).toNat, by omega⟩
  have hN : (manyOf g).toNat = stOf ww rr 4 := by
    simp only [stOf]; rw [manyOf, er, ew]; omega
  refine Cs Tryz.func55 Tryz.ntmps55 ?_
  repeat first | refine R1 ?_ | refine R2 fun _ => ?_
  refine Xv (gridOk_v _ _ g b) ?_
  rw [e]
  repeat first | refine R1 ?_ | refine R2 fun _ => ?_
  refine sf_cond (by rfl) (fun e => by cases e) fun z1 => ?_
  clear z1
  repeat first | refine R1 ?_ | refine R2 fun _ => ?_
  rename_i b1
  refine fp (y_lend [(b1, .cells #[.int .i64 g.wide, c] 25)] (fun h' l i => sidesInt_f h' _ g (gridB_mk (s.le l.le)) ww rr ew (by omega) (by omega) er (by omega) 96 #[] #[.pointer (some ⟨b1, 0, none⟩)] (fun k => trailLight g (k : Nat)) (fun M _ h'' sub k hk => ?_)) (by rfl) ?_)
  · haveI : BAt h'' b1 (.cells #[.int .i64 g.wide, c] 25) := ⟨sub _ _ (i.at' _ _ (by simp))⟩
    exact picOf1_v h'' c g ((s.le l.le).sub sub) e b1 k (by omega)
  intro v A gr
  rw [← hN] at gr
  repeat first | refine R1 ?_ | refine R2 fun _ => ?_
  exact sf_ret (rO A gr)
theorem partOf_f (h : PHeap) (ca : List Value) (g : Grid) (b : (gridR τ).B h ca g) (e : gridOk g = true) (pv : Value) (pic : List Int) (sp : Sl h pv intF pic) (hp : pic.length = (manyOf g).toNat) (id many : Nat) (h1 : 1 ≤ id) (h2 : id ≤ many) (h3 : many ≤ 3) :
    CallF Tryz.prog M 123 [.agg ca.toArray, pv, .int .i64 (id : Int), .int .i64 (many : Int)] [] h fun u A => Gr A u 3 intF (ownLights pic (manyOf g).toNat many id) := by
  obtain ⟨c, rfl, s⟩ := gridB b
  have o1 := s.one
  have o2 := sp.one
  have hm := (gok e).many
  obtain ⟨S, hS⟩ : ∃ S : Nat, manyOf g = S := ⟨(manyOf g).toNat, by omega⟩
  have hc : ∀ j, j < ownCnt S many id ↔ id - 1 + j * many < S := fun j => ownCnt_lt h1 h2 h3
  have hsm := sp.small
  refine Cs Tryz.func123 Tryz.ntmps123 ?_
  repeat first | refine R1 ?_ | refine R2 fun _ => ?_
  refine fp (y_call (paintOwn_f _ _ g b e id many h1 h2 h3) (by rfl) ?_)
  intro v A1 g1
  rw [hS] at hm hp g1 ⊢
  simp only [Int.toNat_natCast] at hp g1 ⊢
  have o3 := g1.one
  have hl := ownList_len S many id
  have hln : ownCnt S many id ≤ 20 := by
    rcases Nat.lt_or_ge 20 (ownCnt S many id) with h | h
    · have := (hc 20).1 h
      have : 20 * 1 ≤ 20 * many := Nat.mul_le_mul_left _ (by omega)
      omega
    · exact h
  have hat : ∀ j, j < ownCnt S many id → gt (ownList S many id) j = ((id - 1 + j * many : Nat) : Int) := fun j hj => ownList_at hj
  have hol : ∀ n, (ownList S many id).take n = ownList S many id → True := fun _ _ => trivial
  generalize hxs : ownList S many id = xs at *
  repeat first | refine R1 ?_ | refine R2 fun _ => ?_
  rename_i b3
  refine sf_lp (ι := Nat × Value) [1, 15, 16] (fun x => [(17, .int .i64 (x.1 : Int)), (9, x.2)]) (fun x O => x.1 ≤ xs.length ∧ ∃ A', O = A' ++ (A1 ++ [(b3, .cells #[.int .i64 g.wide, c] 25)]) ∧ Gr A' x.2 3 intF ((xs.take x.1).map fun k => gt pic k.toNat)) (fun x => xs.length - x.1) (0, .slice none 0 0) ([] ++ (A1 ++ [(b3, .cells #[.int .i64 g.wide, c] 25)])) ⟨by omega, [], rfl, Gr.nil _ _⟩ ?_
  rintro ⟨j, u⟩ O ⟨hj, A', rfl, gr⟩
  simp only at hj gr ⊢
  have o4 := gr.one
  have hlt : ((xs.take j).map fun k => gt pic k.toNat).length = j := by rw [List.length_map, List.length_take]; omega
  repeat first | refine R1 ?_ | refine R2 fun _ => ?_
  refine sf_if (fun h4 => ?_) fun h4 => ?_
  · have hj4 : j < ownCnt S many id := by omega
    have ha := hat j hj4
    have hb := (hc j).1 hj4
    have hstep : ((xs.take (j + 1)).map fun k => gt pic k.toNat) = ((xs.take j).map fun k => gt pic k.toNat) ++ [gt pic (id - 1 + j * many)] := by
      rw [take_succ_gt (by omega), List.map_append, ha]; rfl
    repeat first | refine R1 ?_ | refine R2 fun _ => ?_
    simp only [ha]
    repeat first | refine R1 ?_ | refine R2 fun _ => ?_
    refine Xb fun w Au gu => ?_
    repeat first | refine R1 ?_ | refine R2 fun _ => ?_
    refine Xa gr gu fun u2 A2 g2 => ?_
    repeat first | refine R1 ?_ | refine R2 fun _ => ?_
    exact ⟨(j + 1, u2), by simp only; omega, ⟨rfl, rfl, trivial⟩, rfl, A2 ++ (A1 ++ [(b3, .cells #[.int .i64 g.wide, c] 25)]), _, inferInstance, by simp only; omega, A2, rfl, by rw [hstep]; exact g2⟩
  · refine sf_exit ?_
    repeat first | refine R1 ?_ | refine R2 fun _ => ?_
    refine sf_ret (rO A' ?_)
    rw [ownLights, hxs, ← take_ge (xs := xs) hj (by omega)]; exact gr
theorem partCheck_f [al : Alone Tryz.prog M] (h : PHeap) (ca : List Value) (k : Keeper) (b : (keeperR τ).B h ca k) (hk : HeadOk k) (z : Int) (i : Nat) (hz : z = i + 1) (hi : i < k.parts.length) : CallF Tryz.prog M 87 [.agg ca.toArray, .int .i64 z] [] h fun u A => ErrIs u (!partOk k (i + 1) (gt k.parts i)) ∧ A = [] := by
  have b0 := b
  obtain ⟨c, ed, p, s, rfl, s1, s2, s3, s4⟩ := keeperB b
  have o1 := s1.one
  have o2 := s2.one
  have o3 := s3.one
  have o4 := s4.one
  have n3 := hk.n3
  obtain ⟨rp, sp, bp⟩ := s3
  have lp := bp.len
  obtain ⟨l, ex, sl⟩ := partB (bp.at hi)
  have ol := sl.one
  have hsl := sl.small
  have hsm := sp.small
  have hi' : i < rp.length := by omega
  generalize hpt : gt k.parts i = pt at *
  have ez : (z - 1).toNat = i := by omega
  haveI : FlatV (rawF (partR τ).sz) (gt rp (z - 1).toNat) [.bool pt.has, .int .i64 pt.ver, l] := ⟨by rw [ez]; exact ex⟩
  refine Cs Tryz.func87 Tryz.ntmps87 ?_
  repeat first | refine R1 ?_ | refine R2 fun _ => ?_
  refine sf_cond (by rfl) (fun e => ?_) fun e => ?_
  · simp only [Bool.not_eq_true'] at e
    repeat first | refine R1 ?_ | refine R2 fun _ => ?_
    refine f_split (fun h1 => ?_) fun h1 => ?_
    · repeat first | refine R1 ?_ | refine R2 fun _ => ?_
      refine sf_T rfl ?_
      repeat first | refine R1 ?_ | refine R2 fun _ => ?_
      exact sf_ret (rO [] ⟨.inr ⟨_, rfl, by simp [partOk, e, h1]⟩, rfl⟩)
    · repeat first | refine R1 ?_ | refine R2 fun _ => ?_
      refine sf_if (fun h2 => ?_) fun h2 => ?_
      · repeat first | refine R1 ?_ | refine R2 fun _ => ?_
        exact sf_ret (rO [] ⟨.inr ⟨_, rfl, by simp [partOk, e]; exact .inr fun h => h2 (by simp [h])⟩, rfl⟩)
      · repeat first | refine R1 ?_ | refine R2 fun _ => ?_
        exact sf_ret (rO [] ⟨.inl ⟨rfl, by simp [partOk, e]; exact ⟨by omega, List.eq_nil_of_length_eq_zero (by omega)⟩⟩, rfl⟩)
  · simp only [Bool.not_eq_false'] at e
    repeat first | refine R1 ?_ | refine R2 fun _ => ?_
    refine fp (y_call (keepVersion_f _ _ k b0 pt.ver) (by rfl) ?_)
    rintro u _ ⟨eu, rfl⟩
    have ou := eu.one
    repeat first | refine R1 ?_ | refine R2 fun _ => ?_
    refine fp (Rq ?_ (neqErr eu (by rfl)))
    repeat first | refine R1 ?_ | refine R2 fun _ => ?_
    refine sf_cond (by rfl) (fun h1 => ?_) fun h1 => ?_
    · rw [h1] at eu
      simp only [Bool.not_eq_true'] at h1
      repeat first | refine R1 ?_ | refine R2 fun _ => ?_
      exact sf_ret (rO [] ⟨by simpa [partOk, e, h1] using eu, rfl⟩)
    · simp only [Bool.not_eq_false'] at h1
      clear eu ou
      repeat first | refine R1 ?_ | refine R2 fun _ => ?_
      refine fp (y_call (keepGridOf_f _ _ k b0 hk pt.ver h1) (by rfl) ?_)
      rintro _ A1 ⟨cs, rfl, q⟩
      obtain ⟨c2, rfl, g1, l1⟩ := gridO q
      have o5 := g1.one
      have gok' := gridAt_ok hk.grid hk.edits pt.ver
      have eL : partLights k (i + 1) pt.ver = ownLights (picOf (gridAt k pt.ver)) (manyOf (gridAt k pt.ver)).toNat k.parts.length (i + 1) := by rw [partLights, gridAt_many]
      rw [show z = ((i + 1 : Nat) : Int) by omega]
      repeat first | refine R1 ?_ | refine R2 fun _ => ?_
      refine sf_draw (by kernel_rfl) (regX_own (A1) (Sw [[],[0],[],[],[3],[],[],[6],[6,7],[2,3,4,5,6,7,8],[0,1,2,3,4,5,6,7,8,9],[0,1,2,3,4,5,6,7,8,9,10]] 10 [Nn 0,Nn 1,Nn 2,Nn 3,Nn 5,Nn 6,Nn 7,Nn 8,Yy 4,Yy 9] ?_))
      refine Da ?_
      refine Yc (lendF A1 fun h' _ inb => picOf_f h' _ _ ((gridR τ).lent q inb) gok') ?_
      rintro v2 _ ⟨A2, rfl, g2⟩
      have o6 := g2.one
      refine Da ?_
      refine Yc (lendF (A1 ++ A2) fun h' _ inb => partOf_f h' _ _ ((gridR τ).lent q (inb_l inb)) gok' v2 _ (g2.lent (by rw [picOf_len]; have := (gok gok').many; omega) (inb_r inb)) (picOf_len _) (i + 1) rp.length (by omega) (by omega) (by omega)) ?_
      rintro v3 _ ⟨A3, rfl, g3⟩
      have o7 := g3.one
      rw [lp, ← eL] at g3
      refine Da ?_
      refine Ae ?_
      refine fp (y_lendV A3 (fun h' l' inb => intsEqual_v h' _ _ _ _ (sl.le l'.le) (g3.lent (by have := partLights_le hk (i + 1) pt.ver; omega) inb)) (by rfl) ?_)
      repeat first | refine R1 ?_ | refine R2 fun _ => ?_
      refine sf_cond (by rfl) (fun h2 => ?_) fun h2 => ?_
      · repeat first | refine R1 ?_ | refine R2 fun _ => ?_
        exact sf_ret (rO [] ⟨.inr ⟨_, rfl, by simp only [Bool.not_eq_true'] at h2; simp [partOk, e, h2]⟩, rfl⟩)
      · repeat first | refine R1 ?_ | refine R2 fun _ => ?_
        exact sf_ret (rO [] ⟨.inl ⟨rfl, by simp only [Bool.not_eq_false'] at h2; simp [partOk, e, h1, h2]⟩, rfl⟩)
theorem keepCheck_f [al : Alone Tryz.prog M] (h : PHeap) (ca : List Value) (k : Keeper) (b : (keeperR τ).B h ca k) : CallF Tryz.prog M 47 [.agg ca.toArray] [] h fun u A => ErrIs u (!keepOk k) ∧ A = [] := by
  have b0 := b
  obtain ⟨c, ed, p, s, rfl, s1, s2, s3, s4⟩ := keeperB b
  have o1 := s1.one
  have o2 := s2.one
  have o3 := s3.one
  have o4 := s4.one
  obtain ⟨rp, sp, bp⟩ := s3
  obtain ⟨rs, ss, bs⟩ := s4
  have lp := bp.len
  have ls := bs.len
  have hsp := sp.small
  have hss := ss.small
  have hs2 := s2.small
  have hN : keepHead k = false → keepOk k = false := fun e => by simp [keepOk, e]
  refine Cs Tryz.func47 Tryz.ntmps47 ?_
  repeat first | refine R1 ?_ | refine R2 fun _ => ?_
  refine Xv (gridOk_v _ _ k.first (gridB_mk s1)) ?_
  repeat first | refine R1 ?_ | refine R2 fun _ => ?_
  refine sf_cond (by rfl) (fun g0 => ?_) fun g0 => ?_
  · simp only [Bool.not_eq_true'] at g0
    repeat first | refine R1 ?_ | refine R2 fun _ => ?_
    exact sf_ret (rO [] ⟨.inr ⟨_, rfl, by rw [hN (by simp [keepHead, g0])]; rfl⟩, rfl⟩)
  simp only [Bool.not_eq_false'] at g0
  repeat first | refine R1 ?_ | refine R2 fun _ => ?_
  refine f_split (fun g1 => ?_) fun g1 => ?_
  · repeat first | refine R1 ?_ | refine R2 fun _ => ?_
    refine sf_T rfl ?_
    repeat first | refine R1 ?_ | refine R2 fun _ => ?_
    exact sf_ret (rO [] ⟨.inr ⟨_, rfl, by rw [hN (by simp [keepHead]; intros; omega)]; rfl⟩, rfl⟩)
  repeat first | refine R1 ?_ | refine R2 fun _ => ?_
  refine sf_if (fun g2 => ?_) fun g2 => ?_
  · repeat first | refine R1 ?_ | refine R2 fun _ => ?_
    exact sf_ret (rO [] ⟨.inr ⟨_, rfl, by rw [hN (by simp [keepHead]; intros; omega)]; rfl⟩, rfl⟩)
  repeat first | refine R1 ?_ | refine R2 fun _ => ?_
  refine f_split (fun g3 => ?_) fun g3 => ?_
  · repeat first | refine R1 ?_ | refine R2 fun _ => ?_
    refine sf_T rfl ?_
    repeat first | refine R1 ?_ | refine R2 fun _ => ?_
    exact sf_ret (rO [] ⟨.inr ⟨_, rfl, by rw [hN (by simp [keepHead]; intros; omega)]; rfl⟩, rfl⟩)
  repeat first | refine R1 ?_ | refine R2 fun _ => ?_
  refine Xv (editsOk_v _ c k.first s1 ed k.edits s2) ?_
  repeat first | refine R1 ?_ | refine R2 fun _ => ?_
  refine sf_cond (by rfl) (fun g4 => ?_) fun g4 => ?_
  · simp only [Bool.not_eq_true'] at g4
    repeat first | refine R1 ?_ | refine R2 fun _ => ?_
    exact sf_ret (rO [] ⟨.inr ⟨_, rfl, by rw [hN (by simp [keepHead, g4])]; rfl⟩, rfl⟩)
  simp only [Bool.not_eq_false'] at g4
  have hk : HeadOk k := ⟨g0, by omega, by omega, by omega, g4⟩
  have hK := hk.is
  have hF : ∀ {b : Bool}, (partsOk k k.parts.length && shownsOk k k.shown.length) = b → keepOk k = b := fun e => by rw [keepOk, hK, Bool.true_and]; exact e
  clear hN
  repeat first | refine R1 ?_ | refine R2 fun _ => ?_
  rename_i b1
  refine sf_lp (ι := Nat) [1] (fun i => [(3, .int .i64 ((i : Int) + 1))]) (fun i O => (i ≤ rp.length ∧ partsOk k i = true) ∧ O = [(b1, .cells #[.int .i64 k.first.wide, c, ed, p, s] 30)]) (fun i => rp.length - i) 0 [(b1, .cells #[.int .i64 k.first.wide, c, ed, p, s] 30)] ⟨⟨by omega, rfl⟩, rfl⟩ ?_
  rintro i O ⟨⟨hi, hpi⟩, rfl⟩
  repeat first | refine R1 ?_ | refine R2 fun _ => ?_
  refine sf_if (fun e1 => ?_) fun e1 => ?_
  · have hi1 : i < k.parts.length := by omega
    repeat first | refine R1 ?_ | refine R2 fun _ => ?_
    refine fp (y_call (partCheck_f _ _ k b0 hk ((i : Int) + 1) i rfl hi1) (by rfl) ?_)
    rintro u _ ⟨eu, rfl⟩
    have ou := eu.one
    repeat first | refine R1 ?_ | refine R2 fun _ => ?_
    refine fp (Rq ?_ (neqErr eu (by rfl)))
    repeat first | refine R1 ?_ | refine R2 fun _ => ?_
    refine sf_cond (by rfl) (fun h1 => ?_) fun h1 => ?_
    · rw [h1] at eu
      simp only [Bool.not_eq_true'] at h1
      repeat first | refine R1 ?_ | refine R2 fun _ => ?_
      exact sf_ret (rO [] ⟨by rw [hF (b := false) (by rw [partsOk_F hi1 h1]; rfl)]; exact eu, rfl⟩)
    · simp only [Bool.not_eq_false'] at h1
      repeat first | refine R1 ?_ | refine R2 fun _ => ?_
      exact ⟨i + 1, by omega, ⟨rfl, trivial⟩, rfl, _, _, inferInstance, ⟨by omega, by rw [partsOk_step, hpi, h1]; rfl⟩, rfl⟩
  · refine sf_exit ?_
    have hpo : partsOk k k.parts.length = true := by rw [show k.parts.length = i by omega]; exact hpi
    clear hpi hi e1
    repeat first | refine R1 ?_ | refine R2 fun _ => ?_
    refine sf_lp (ι := Nat) [1, 55, 56] (fun i => [(5, .int .i64 (prevVer k i)), (57, .int .i64 (i : Int))]) (fun i O => (i ≤ rs.length ∧ shownsOk k i = true) ∧ O = [(b1, .cells #[.int .i64 k.first.wide, c, ed, p, s] 30)]) (fun i => rs.length - i) 0 [(b1, .cells #[.int .i64 k.first.wide, c, ed, p, s] 30)] ⟨⟨by omega, rfl⟩, rfl⟩ ?_
    rintro j O ⟨⟨hi, hpi⟩, rfl⟩
    repeat first | refine R1 ?_ | refine R2 fun _ => ?_
    refine sf_if (fun e2 => ?_) fun e2 => ?_
    · have hi1 : j < k.shown.length := by omega
      have hi2 : j < rs.length := by omega
      obtain ⟨l, ex, sl⟩ := shownB (bs.at hi1)
      have ol := sl.one
      have hsl := sl.small
      haveI : FlatV (rawF (shownR τ).sz) (gt rs j) [.int .i64 (gt k.shown j).ver, l] := ⟨ex⟩
      repeat first | refine R1 ?_ | refine R2 fun _ => ?_
      refine fp (y_call (keepVersion_f _ _ k b0 (gt k.shown j).ver) (by rfl) ?_)
      rintro u _ ⟨eu, rfl⟩
      have ou := eu.one
      repeat first | refine R1 ?_ | refine R2 fun _ => ?_
      refine fp (Rq ?_ (neqErr eu (by rfl)))
      repeat first | refine R1 ?_ | refine R2 fun _ => ?_
      refine sf_cond (by rfl) (fun h1 => ?_) fun h1 => ?_
      · rw [h1] at eu
        simp only [Bool.not_eq_true'] at h1
        repeat first | refine R1 ?_ | refine R2 fun _ => ?_
        exact sf_ret (rO [] ⟨by rw [hF (b := false) (by rw [shownsOk_F hi1 (by simp [shownOk, h1])]; simp)]; exact eu, rfl⟩)
      simp only [Bool.not_eq_false'] at h1
      clear eu ou
      have hvr := h1
      simp only [verOk, Bool.and_eq_true, decide_eq_true_eq] at hvr
      by_cases h2 : (gt k.shown j).ver ≤ prevVer k j
      · repeat first | refine R1 ?_ | refine R2 fun _ => ?_
        refine Sd [[],[0],[],[0,1,2],[0,1,2,3],[0,1,2,3,4],[0,1,2,3,4,5],[0,1,2,3,4],[0,1,2,3,4],[0,1,2,3,4,8],[0,1,2,3,4,7,8,9],[0,1,2,3,4,7,8,9,10],[0,1,2,3,4,5,6,7,8,9,10,11],[0,1,2,3,4,5,6,7,8,9,10,11,12],[0,1,2,3,4,5,6,7,8,9,10,11,12,13]] 12 [Nn 0,Nn 1,Nn 2,Nn 3,Nn 4,Nn 5,Nn 6,Nn 7,Nn 8,Nn 9,Nn 10,Nn 11] ?_
        refine Da ?_
        refine Ae ?_
        repeat first | refine R1 ?_ | refine R2 fun _ => ?_
        refine sf_T rfl ?_
        repeat first | refine R1 ?_ | refine R2 fun _ => ?_
        exact sf_ret (rO [] ⟨.inr ⟨_, rfl, by rw [hF (b := false) (by rw [shownsOk_F hi1 (by simp [shownOk]; intros; omega)]; simp)]; rfl⟩, rfl⟩)
      · have gok' := gridAt_ok hk.grid hk.edits (gt k.shown j).ver
        repeat first | refine R1 ?_ | refine R2 fun _ => ?_
        refine Sd [[],[0],[],[0,1,2],[0,1,2,3],[0,1,2,3,4],[0,1,2,3,4,5],[0,1,2,3,4],[0,1,2,3,4],[0,1,2,3,4,8],[0,1,2,3,4,7,8,9],[0,1,2,3,4,7,8,9,10],[0,1,2,3,4,5,6,7,8,9,10,11],[0,1,2,3,4,5,6,7,8,9,10,11,12],[0,1,2,3,4,5,6,7,8,9,10,11,12,13]] 12 [Nn 0,Nn 1,Nn 2,Nn 3,Nn 4,Nn 5,Nn 6,Nn 7,Nn 8,Nn 9,Yy 10,Yy 11] ?_
        refine Da ?_
        refine a_call (keepGridOf_f _ _ k b0 hk (gt k.shown j).ver h1) (by rfl) (by rfl) (.inr ⟨_, _, _, _, rfl, by rfl, by rfl, decide_eq_false h2⟩) ?_
        rintro _ A1 ⟨cs, rfl, q⟩
        obtain ⟨c2, rfl, g1, l1⟩ := gridO q
        have o5 := g1.one
        refine Da ?_
        refine a_call (lendF A1 fun h' _ inb => picOf_f h' _ _ ((gridR τ).lent q inb) gok') (by rfl) (by rfl) (.inr ⟨_, _, _, _, rfl, by rfl, by rfl, decide_eq_false h2⟩) ?_
        rintro v2 _ ⟨A2, rfl, g2⟩
        have o6 := g2.one
        refine Da ?_
        refine Ae ?_
        refine fp (y_lendV A2 (fun h' l' inb => intsEqual_v h' _ _ _ _ (sl.le l'.le) (g2.lent (by rw [picOf_len]; have := (gok gok').many; omega) inb)) (by rfl) ?_)
        repeat first | refine R1 ?_ | refine R2 fun _ => ?_
        refine sf_cond (by rfl) (fun h3 => ?_) fun h3 => ?_
        · repeat first | refine R1 ?_ | refine R2 fun _ => ?_
          exact sf_ret (rO [] ⟨.inr ⟨_, rfl, by rw [hF (b := false) (by rw [shownsOk_F hi1 (by simp only [Bool.not_eq_true'] at h3; simp [shownOk, h3])]; simp)]; rfl⟩, rfl⟩)
        · simp only [Bool.not_eq_false'] at h3
          repeat first | refine R1 ?_ | refine R2 fun _ => ?_
          refine ⟨j + 1, by omega, ⟨?_, rfl, trivial⟩, rfl, [(b1, .cells #[.int .i64 k.first.wide, c, ed, p, s] 30)], _, inferInstance, ⟨by omega, ?_⟩, rfl⟩
          · simp only [prevVer, Nat.add_sub_cancel, show ¬ (j + 1 = 0) by omega, if_false]; rfl
          · rw [shownsOk_step, hpi, Bool.true_and, shownOk, h1, h3]; simp; omega
    · refine sf_exit ?_
      repeat first | refine R1 ?_ | refine R2 fun _ => ?_
      exact sf_ret (rO [] ⟨.inl ⟨rfl, by rw [hF (b := true) (by rw [hpo, show k.shown.length = j by omega, hpi]; rfl)]; rfl⟩, rfl⟩)
theorem keepOk_v [al : Alone Tryz.prog M] (h : PHeap) [BAt h 0 errObj] (ca : List Value) (k : Keeper) (b : (keeperR τ).B h ca k) : CallV Tryz.prog M 13 [.agg ca.toArray] h (.bool (keepOk k)) := by
  have b0 := b
  obtain ⟨c, ed, p, s, rfl, s1, s2, s3, s4⟩ := keeperB b
  have o1 := s1.one
  have o2 := s2.one
  have o3 := s3.one
  have o4 := s4.one
  refine Cs Tryz.func13 Tryz.ntmps13 ?_
  repeat first | refine R1 ?_ | refine R2 fun _ => ?_
  refine fp (y_call (keepCheck_f _ _ k b0) (by rfl) ?_)
  rintro u _ ⟨eu, rfl⟩
  have ou := eu.one
  repeat first | refine R1 ?_ | refine R2 fun _ => ?_
  refine Xv (refused_v _ u _ eu) ?_
  repeat first | refine R1 ?_ | refine R2 fun _ => ?_
  refine sf_ret (rV ?_)
  simp
theorem trailFoot_f (h : PHeap) (c : Value) (g : Grid) (s : Sl h c cellF g.cells) (e : gridOk g = true) (k : Int) (hk : 0 ≤ k ∧ k < manyOf g) : CallF Tryz.prog M 114 [.agg #[.int .i64 g.wide, c], .int .i64 k] [] h fun u A => Gr A u 3 intF (footOf g k) := by
  have o1 := s.one
  have kg := gok e
  obtain ⟨sz, vs, es, hc, hg, hsz, hok⟩ := goLight_is kg hk.1 hk.2
  have hlv := hok.lv
  have hvs : ∀ v ∈ vs, 0 ≤ v.at' ∧ v.at' < g.cells.length := fun v hv => ⟨(hok.vs v hv).a0, (hok.vs v hv).a1⟩
  simp only at hlv
  refine Cs Tryz.func114 Tryz.ntmps114 ?_
  repeat first | refine R1 ?_ | refine R2 fun _ => ?_
  refine fp (y_call (trailOf_f h c g s e k hk) (by rfl) ?_)
  rintro _ _ ⟨vv, ev, AV, AE, rfl, rfl, gv, ge⟩
  rw [hg] at gv ge
  have ov := gv.one
  have oe := ge.one
  simp only at ge gv
  have hfoot : compactF (sortF (vs.map Visit.at')) = footOf g k := by rw [foot_sorted g vs hvs, footOf, hg]
  clear hc hg
  repeat first | refine R1 ?_ | refine R2 fun _ => ?_
  rename_i b2
  refine sf_lp (ι := Nat × Value) [11, 12] (fun x => [(5, x.2), (13, .int .i64 (x.1 : Int))]) (fun x O => x.1 ≤ vs.length ∧ ∃ A xs, O = A ++ (AV ++ (AE ++ [(b2, .cells #[.int .i64 g.wide, c] 25)])) ∧ xs = (vs.take x.1).map Visit.at' ∧ Gr A x.2 3 intF xs) (fun x => vs.length - x.1) (0, .slice none 0 0) ([] ++ (AV ++ (AE ++ [(b2, .cells #[.int .i64 g.wide, c] 25)]))) ⟨by simp only; omega, [], [], rfl, rfl, Gr.nil _ _⟩ ?_
  rintro ⟨j, w⟩ O ⟨hj, A, xs, rfl, hxs, gx⟩
  simp only at hj hxs gx ⊢
  have lx : xs.length = j := by rw [hxs]; simp; omega
  have ow := gx.one
  repeat first | refine R1 ?_ | refine R2 fun _ => ?_
  refine sf_if (fun e1 => ?_) fun e1 => ?_
  · have hj1 : j < vs.length := by omega
    repeat first | refine R1 ?_ | refine R2 fun _ => ?_
    rename_i b7
    refine Xb fun u Au gu => ?_
    repeat first | refine R1 ?_ | refine R2 fun _ => ?_
    refine Xa gx gu fun w2 A2 g2 => ?_
    repeat first | refine R1 ?_ | refine R2 fun _ => ?_
    exact ⟨(j + 1, w2), by simp only; omega, ⟨rfl, rfl, trivial⟩, rfl, A2 ++ (AV ++ (AE ++ [(b2, .cells #[.int .i64 g.wide, c] 25)])), _, inferInstance, by simp only; omega, A2, _, rfl, by simp only; rw [take_succ_gt hj1, List.map_append, ← hxs]; rfl, g2⟩
  · refine sf_exit ?_
    obtain rfl : j = vs.length := by omega
    rw [List.take_of_length_le (Nat.le_refl _)] at hxs
    repeat first | refine R1 ?_ | refine R2 fun _ => ?_
    refine fp (y_call (sort_f (M := M) _ w A xs gx (by omega)) (by rfl) ?_)
    rintro _ A2 ⟨rfl, g2⟩
    repeat first | refine R1 ?_ | refine R2 fun _ => ?_
    refine fp (y_call (compact_f (M := M) _ w A2 _ g2 (by rw [sortF_len]; omega)) (by rfl) ?_)
    intro w3 A3 g3
    repeat first | refine R1 ?_ | refine R2 fun _ => ?_
    refine sf_ret (rO A3 ?_)
    rw [← hfoot, ← hxs]; exact g3
instance : EqFl Tryz.prog 46 cellF := eqFl_cell inferInstance (inferInstance : Ty Tryz.prog 3 _ 1 _ _) (by kernel_rfl)
theorem cellsEqual_v (h : PHeap) (a b : Value) (xs ys : List Cell) (sx : Sl h a cellF xs) (sy : Sl h b cellF ys) : CallV Tryz.prog M 154 [a, b] h (.bool (decide (xs = ys))) := by
  have o1 := sx.one
  have o2 := sy.one
  have hx := sx.small
  have hy := sy.small
  refine Cs Tryz.func154 Tryz.ntmps154 ?_
  refine Wo ?_
  refine sf_if (fun e0 => ?_) fun e0 => ?_
  · refine Wo ?_
    exact sf_ret (rV (bF fun e => e0 (by rw [e])))
  have hl : xs.length = ys.length := by omega
  refine Wo ?_
  refine sf_rd [0, 1, 12] 13 xs.length 0 (fun k => xs.take k = ys.take k) (by omega) rfl (fun k hk hi => ?_)
  refine Wo ?_
  refine sf_if (fun h4 => ?_) fun h4 => ?_
  · have hk4 : k < xs.length := by omega
    have hk5 : k < ys.length := by omega
    refine Wo ?_
    refine Sd [[],[],[0,1],[0,1,2],[],[],[4,5],[4,5,6],[0,1,2,3,4,5,6,7]] 8 [Nn 0,Nn 1,Nn 2,Nn 3,Nn 4,Nn 5,Nn 6,Nn 7] ?_
    refine Da ?_
    refine Ae ?_
    refine fp (Rq ?_ (q_neqS (E := cellF) (a := gt xs k) (b := gt ys k) inferInstance (by rfl) (by rfl)))
    refine Wo ?_
    refine sf_ifn (fun e1 => ?_) fun e1 => ?_
    · refine Wo ?_
      exact sf_ret (rV (bF (eq_at e1)))
    · refine Wo ?_
      exact ⟨⟨hk4, eq_step hk4 hk5 hi e1⟩, rfl, rfl, _, inferInstance⟩
  · refine sf_exit ?_
    refine Wo ?_
    exact sf_ret (rV (bT (eq_end hl (by omega) hi)))
theorem equalFunc_v (h : PHeap) (a b : Value) (xs ys : List (List Int)) (sx : SlR (intSR τ) h a xs) (sy : SlR (intSR τ) h b ys) : CallV Tryz.prog M 151 [a, b, .func (.func 88) #[] #[]] h (.bool (decide (xs = ys))) := by
  have o1 := sx.one
  have o2 := sy.one
  obtain ⟨rx, sx, bx⟩ := sx
  obtain ⟨ry, sy, by'⟩ := sy
  have lx := bx.len
  have ly := by'.len
  have hx := sx.small
  have hy := sy.small
  refine Cs Tryz.func151 Tryz.ntmps151 ?_
  refine Wo ?_
  refine sf_if (fun e0 => ?_) fun e0 => ?_
  · refine Wo ?_
    exact sf_ret (rV (bF fun e => e0 (by rw [lx, ly, e])))
  have hl : xs.length = ys.length := by omega
  refine Wo ?_
  refine sf_rd [0, 1, 2, 15, 16] 17 xs.length 0 (fun k => xs.take k = ys.take k) (by omega) rfl (fun k hk hi => ?_)
  refine Wo ?_
  refine sf_if (fun h4 => ?_) fun h4 => ?_
  · have hk4 : k < xs.length := by omega
    have hk5 : k < ys.length := by omega
    have bx4 := bx.at hk4
    have by4 := by'.at hk5
    have hk6 : k < rx.length := by omega
    have hk7 : k < ry.length := by omega
    obtain ⟨vx, ex, sx4⟩ := bx4
    obtain ⟨vy, ey, sy4⟩ := by4
    haveI : FlatV (rawF (intSR τ).sz) (gt rx k) [vx] := ⟨ex⟩
    haveI : FlatV (rawF (intSR τ).sz) (gt ry k) [vy] := ⟨ey⟩
    have o3 := sx4.one
    have o4 := sy4.one
    refine Wo ?_
    refine fp (y_callCV (first := #[]) (captured := #[]) (vs := [vx, vy]) (by simpa using intsEqual_v (M := M) _ _ _ _ _ sx4 sy4) (by rfl) (by rfl) ?_)
    refine Wo ?_
    refine sf_ifn (fun e1 => ?_) fun e1 => ?_
    · refine Wo ?_
      exact sf_ret (rV (bF (eq_at e1)))
    · refine Wo ?_
      exact ⟨⟨hk4, eq_step hk4 hk5 hi (by exact e1)⟩, rfl, rfl, _, inferInstance⟩
  · refine sf_exit ?_
    refine Wo ?_
    exact sf_ret (rV (bT (eq_end hl (by omega) hi)))
theorem gridSame_v (h : PHeap) (ca cb : List Value) (x y : Grid) (bx : (gridR τ).B h ca x) (by' : (gridR τ).B h cb y) : CallV Tryz.prog M 121 [.agg ca.toArray, .agg cb.toArray] h (.bool (decide (x = y))) := by
  obtain ⟨c1, rfl, s1⟩ := gridB bx
  obtain ⟨c2, rfl, s2⟩ := gridB by'
  have o1 := s1.one
  have o2 := s2.one
  refine Cs Tryz.func121 Tryz.ntmps121 ?_
  repeat first | refine R1 ?_ | refine R2 fun _ => ?_
  refine f_split (fun e1 => ?_) fun e1 => ?_
  · repeat first | refine R1 ?_ | refine R2 fun _ => ?_
    refine Xv (cellsEqual_v _ _ _ _ _ s1 s2) ?_
    repeat first | refine R1 ?_ | refine R2 fun _ => ?_
    refine sf_ret (rV ?_)
    congr 1
    cases x; cases y; simp_all
  · repeat first | refine R1 ?_ | refine R2 fun _ => ?_
    refine sf_ret (rV ?_)
    congr 1
    cases x; cases y; simp_all
theorem sceneSame_v (h : PHeap) (ca cb : List Value) (x y : Scene) (bx : (sceneR τ).B h ca x) (by' : (sceneR τ).B h cb y) : CallV Tryz.prog M 116 [.agg ca.toArray, .agg cb.toArray] h (.bool (decide (x = y))) := by
  obtain ⟨c1, l1, f1, rfl, s1, t1, u1⟩ := sceneB bx
  obtain ⟨c2, l2, f2, rfl, s2, t2, u2⟩ := sceneB by'
  have o1 := s1.one
  have o2 := s2.one
  have o3 := t1.one
  have o4 := t2.one
  have o5 := u1.one
  have o6 := u2.one
  refine Cs Tryz.func116 Tryz.ntmps116 ?_
  repeat first | refine R1 ?_ | refine R2 fun _ => ?_
  refine Xv (gridSame_v _ _ _ x.grid y.grid (gridB_mk s1) (gridB_mk s2)) ?_
  repeat first | refine R1 ?_ | refine R2 fun _ => ?_
  refine f_split (fun e1 => ?_) fun e1 => ?_
  · repeat first | refine R1 ?_ | refine R2 fun _ => ?_
    refine Xv (intsEqual_v _ _ _ _ _ t1 t2) ?_
    repeat first | refine R1 ?_ | refine R2 fun _ => ?_
    refine f_split (fun e2 => ?_) fun e2 => ?_
    · repeat first | refine R1 ?_ | refine R2 fun _ => ?_
      refine Xv (equalFunc_v _ _ _ _ _ u1 u2) ?_
      repeat first | refine R1 ?_ | refine R2 fun _ => ?_
      refine sf_ret (rV ?_)
      congr 1
      cases x; cases y; simp_all
    · repeat first | refine R1 ?_ | refine R2 fun _ => ?_
      refine sf_ret (rV ?_)
      congr 1
      cases x; cases y; simp_all
  · repeat first | refine R1 ?_ | refine R2 fun _ => ?_
    refine sf_ret (rV ?_)
    congr 1
    cases x; cases y; simp_all
instance : ElemF Tryz.prog 33 (rawF (intSR τ).sz) := ⟨trivial⟩
theorem sceneOf_f [al : Alone Tryz.prog M] (h : PHeap) (ca : List Value) (g : Grid) (b : (gridR τ).B h ca g) (e : gridOk g = true) : CallF Tryz.prog M 74 [.agg ca.toArray] [] h fun u A => ∃ cs, u = .agg cs.toArray ∧ (sceneR τ).O A cs (sceneOf g) := by
  obtain ⟨c, rfl, s⟩ := gridB b
  have o1 := s.one
  have kg := gok e
  have hm := kg.many
  have hsm := kg.small
  obtain ⟨N, hN⟩ : ∃ N : Nat, manyOf g = N := ⟨(manyOf g).toNat, by omega⟩
  have hf : feetOf g = (List.range N).map fun k => footOf g (k : Nat) := by rw [feetOf, hN]; rfl
  refine Cs Tryz.func74 Tryz.ntmps74 ?_
  repeat first | refine R1 ?_ | refine R2 fun _ => ?_
  rename_i b1 b2
  apply viaT (G := ∀ (c2 p2 : Value) (AC AP : Own) (b3 : Nat), Gr AC c2 46 cellF g.cells → Gr AP p2 3 intF (picOf g) → _)
  · intro tail
    refine sf_draw (by kernel_rfl) (regX_split 1 5 (by rfl) (regX_split 3 5 (by rfl) ?_ ?_) ?_)
    case' refine_1 =>
      refine Sr [[],[0],[],[0,1,2],[0,1,2,3],[0,1,2,3],[0,1,2,3,4,5]] 6 [Nn 0,Nn 2,Yy 1,Yy 3,Nn 4,Yy 5] ?_
      refine Da ?_
      refine Yc (gridCopy_f _ _ g (gridB_mk s) (by omega)) ?_
      rintro _ AC ⟨_, rfl, q⟩
      obtain ⟨c2, rfl, g1, l1⟩ := gridO q
      have o5 := g1.one
      refine Da ?_
      refine Yc (picOf_f (M := M) _ _ g (gridB_mk s) e) ?_
      intro p2 AP gp
      have o6 := gp.one
      refine Da ?_
      refine Yl fun b3 => ?_
      refine Da ?_
      refine Ae ?_
      repeat first | refine R1 ?_ | refine R2 fun _ => ?_
      refine fops_keep [1, 2, 3, 10] ?_
      refine fops_own ((b3, .cells #[.int .i64 g.wide, c2, p2, .slice none 0 0] 68) :: (AC ++ (AP ++ [(b2, .cells #[.int .i64 0, .slice none 0 0, .slice none 0 0, .slice none 0 0] 68), (b1, .cells #[.int .i64 g.wide, c] 25)]))) ?_
      exact tail.out c2 p2 AC AP b3 g1 gp
    case' refine_2 =>
      refine Sr [[],[0],[],[0,1,2,5],[0,1,2,3,5],[0,1],[0,1,2,3,4,5]] 6 [Nn 0,Nn 2,Yy 1,Yy 5,Yy 3,Nn 4] ?_
      refine Da ?_
      refine Yc (gridCopy_f _ _ g (gridB_mk s) (by omega)) ?_
      rintro _ AC ⟨_, rfl, q⟩
      obtain ⟨c2, rfl, g1, l1⟩ := gridO q
      have o5 := g1.one
      refine Da ?_
      refine Yl fun b3 => ?_
      refine Da ?_
      refine Yc (picOf_f (M := M) _ _ g (gridB_mk s) e) ?_
      intro p2 AP gp
      have o6 := gp.one
      refine Da ?_
      refine Ae ?_
      repeat first | refine R1 ?_ | refine R2 fun _ => ?_
      refine fops_keep [1, 2, 3, 10] ?_
      refine fops_own ((b3, .cells #[.int .i64 g.wide, c2, p2, .slice none 0 0] 68) :: (AC ++ (AP ++ [(b2, .cells #[.int .i64 0, .slice none 0 0, .slice none 0 0, .slice none 0 0] 68), (b1, .cells #[.int .i64 g.wide, c] 25)]))) ?_
      exact tail.out c2 p2 AC AP b3 g1 gp
    case' refine_3 =>
      refine Sr [[],[0,5],[],[0,1,2,5],[0,1,2,3,5],[],[0,1,2,3,4,5]] 6 [Nn 0,Nn 2,Yy 5,Yy 1,Yy 3,Nn 4] ?_
      refine Da ?_
      refine Yl fun b3 => ?_
      refine Da ?_
      refine Yc (gridCopy_f _ _ g (gridB_mk s) (by omega)) ?_
      rintro _ AC ⟨_, rfl, q⟩
      obtain ⟨c2, rfl, g1, l1⟩ := gridO q
      have o5 := g1.one
      refine Da ?_
      refine Yc (picOf_f (M := M) _ _ g (gridB_mk s) e) ?_
      intro p2 AP gp
      have o6 := gp.one
      refine Da ?_
      refine Ae ?_
      repeat first | refine R1 ?_ | refine R2 fun _ => ?_
      refine fops_keep [1, 2, 3, 10] ?_
      refine fops_own ((b3, .cells #[.int .i64 g.wide, c2, p2, .slice none 0 0] 68) :: (AC ++ (AP ++ [(b2, .cells #[.int .i64 0, .slice none 0 0, .slice none 0 0, .slice none 0 0] 68), (b1, .cells #[.int .i64 g.wide, c] 25)]))) ?_
      exact tail.out c2 p2 AC AP b3 g1 gp
  intro c2 p2 AC AP b3 g1 gp
  have o5 := g1.one
  have o6 := gp.one
  refine Xv (sightMany_v _ _ g (gridB_mk s)) ?_
  rw [sightMany_ok e, hN]
  repeat first | refine R1 ?_ | refine R2 fun _ => ?_
  refine sf_lp (ι := Nat) [1, 2, 3, 11] (fun k => [(12, .int .i64 (k : Int))]) (fun k O => k ≤ N ∧ ∃ fv A0 A1, O = (b3, .cells #[.int .i64 g.wide, c2, p2, fv] 68) :: (A0 ++ A1 ++ (AC ++ (AP ++ [(b2, .cells #[.int .i64 0, .slice none 0 0, .slice none 0 0, .slice none 0 0] 68), (b1, .cells #[.int .i64 g.wide, c] 25)]))) ∧ ∃ rs : List (Raw (intSR τ).sz), rs.length = k ∧ Gr A0 fv 33 (rawF (intSR τ).sz) rs ∧ OAll (intSR τ) A1 rs ((List.range k).map fun j => footOf g (j : Nat))) (fun k => N - k) 0 ((b3, .cells #[.int .i64 g.wide, c2, p2, .slice none 0 0] 68) :: ([] ++ [] ++ (AC ++ (AP ++ [(b2, .cells #[.int .i64 0, .slice none 0 0, .slice none 0 0, .slice none 0 0] 68), (b1, .cells #[.int .i64 g.wide, c] 25)])))) ⟨by omega, _, [], [], rfl, [], rfl, Gr.nil _ _, .nil⟩ ?_
  rintro k O ⟨hk, fv, A0, A1, rfl, rs, hr, gr, oa⟩
  have o7 := gr.one
  repeat first | refine R1 ?_ | refine R2 fun _ => ?_
  refine sf_if (fun h4 => ?_) fun h4 => ?_
  · have hk4 : k < N := by omega
    repeat first | refine R1 ?_ | refine R2 fun _ => ?_
    refine Sd [[],[0],[],[],[2,3],[2,3,4],[0,1,2,3,4,5],[0,1,2,3,4,5,6],[0,1,2,3,4,5,6,7]] 6 [Nn 0,Nn 1,Nn 2,Nn 3,Yy 4,Yy 5] ?_
    refine Da ?_
    refine Yc (trailFoot_f (M := M) _ c g s e (k : Int) (by omega)) ?_
    intro w AW gw
    have o8 := gw.one
    refine Da ?_
    refine Yb fun u Au gu => ?_
    refine Da ?_
    refine Ae ?_
    refine fp (y_append (by rfl) (by rfl) gr gu (by intro y hy; simp at hy; subst hy; exact (inferInstance : AllOne [w]).is) (by rfl) (by rfl) (by simp; omega) (by simp; omega) fun fv2 A5 g5 => ?_)
    have o9 := g5.one
    repeat first | refine R1 ?_ | refine R2 fun _ => ?_
    refine ⟨k + 1, by omega, ⟨rfl, trivial⟩, rfl, (b3, .cells #[.int .i64 g.wide, c2, p2, fv2] 68) :: (A5 ++ (A1 ++ AW) ++ (AC ++ (AP ++ [(b2, .cells #[.int .i64 0, .slice none 0 0, .slice none 0 0, .slice none 0 0] 68), (b1, .cells #[.int .i64 g.wide, c] 25)]))), _, inferInstance, by omega, fv2, A5, A1 ++ AW, rfl, _, by simp [hr], g5, ?_⟩
    rw [List.range_succ, List.map_append]
    exact oa.snoc ⟨w, rfl, gw, by show (footOf g (k : Int)).length ≤ _; unfold footOf; have := footIs_len g (goLight g (k : Int)).1; omega⟩
  · refine sf_exit ?_
    obtain rfl : k = N := by omega
    repeat first | refine R1 ?_ | refine R2 fun _ => ?_
    refine sf_ret (rO (AC ++ (AP ++ (A0 ++ A1))) ⟨_, rfl, ?_⟩)
    exact sceneO_mk (s := sceneOf g) g1 (by simp only [sceneOf]; omega) gp (by simp only [sceneOf]; rw [picOf_len, hN]; simp; omega) ⟨A0, A1, rfl, rs, gr, by simp only [sceneOf]; rw [hf]; exact oa, by simp only [sceneOf]; rw [hf]; simp; omega⟩
theorem sceneOk_v [al : Alone Tryz.prog M] (h : PHeap) (ca : List Value) (s : Scene) (b : (sceneR τ).B h ca s) : CallV Tryz.prog M 115 [.agg ca.toArray] h (.bool (sceneOk s)) := by
  obtain ⟨c, l, f, rfl, s1, s2, s3⟩ := sceneB b
  have o1 := s1.one
  have o2 := s2.one
  have o3 := s3.one
  have b0 := b
  refine Cs Tryz.func115 Tryz.ntmps115 ?_
  repeat first | refine R1 ?_ | refine R2 fun _ => ?_
  by_cases e : gridOk s.grid = true
  · have hg1 := gridOk_v (M := M) h _ s.grid (gridB_mk (τ := τ) s1)
    rw [e] at hg1
    refine Sd [[],[0],[0,1],[0,1,2],[0,1,2,3],[0,1,2,3],[0,1,2,3,5],[0,1,2,3,5,6],[0,1,2,3,4,5,6,7],[0,1,2,3,4,5,6,7,8],[0,1,2,3,4,5,6,7,8,9]] 8 [Nn 0,Nn 1,Yy 2,Nn 3,Nn 4,Nn 5,Nn 6,Yy 7] ?_
    refine Da ?_
    refine Yv hg1 ?_
    refine Da ?_
    refine a_call (sceneOf_f (M := M) _ _ s.grid (gridB_mk s1) e) (by rfl) (by rfl) (.inr ⟨_, _, _, _, rfl, by rfl, by rfl, rfl⟩) ?_
    rintro _ A1 ⟨cs, rfl, q⟩
    have q0 := q
    obtain ⟨c2, l2, f2, X1, X2, X3, rfl, rfl, ⟨g1, _⟩, ⟨g2, _⟩, g3⟩ := sceneO q
    have o4 := g1.one
    have o5 := g2.one
    have o6 := g3.one
    refine Da ?_
    refine Ae ?_
    refine fp (y_lendV (X1 ++ (X2 ++ X3)) (fun h' l i => sceneSame_v (M := M) h' _ _ s (sceneOf s.grid) ((sceneR τ).up l b0) ((sceneR τ).lent q0 i)) (by rfl) ?_)
    repeat first | refine R1 ?_ | refine R2 fun _ => ?_
    refine sf_ret (rV ?_)
    rw [sceneOk, e]; rfl
  · have e' : gridOk s.grid = false := by simpa using e
    have hg1 := gridOk_v (M := M) h _ s.grid (gridB_mk (τ := τ) s1)
    rw [e'] at hg1
    refine Sd [[],[0],[0,1],[0,1,2],[0,1,2,3],[0,1,2,3],[0,1,2,3,5],[0,1,2,3,5,6],[0,1,2,3,4,5,6,7],[0,1,2,3,4,5,6,7,8],[0,1,2,3,4,5,6,7,8,9]] 8 [Nn 0,Nn 1,Yy 2,Nn 3,Nn 4,Nn 5,Nn 6,Nn 7] ?_
    refine Da ?_
    refine Yv hg1 ?_
    refine Da ?_
    refine Ae ?_
    repeat first | refine R1 ?_ | refine R2 fun _ => ?_
    refine sf_ret (rV ?_)
    rw [sceneOk, e']; rfl
theorem noSceneB (h : PHeap) : (sceneR τ).B h [.int .i64 0, .slice none 0 0, .slice none 0 0, .slice none 0 0] noScene := sceneB_mk (s := noScene) (Sl.nil _ _) (Sl.nil _ _) SlR.nil
theorem paintOk_v [al : Alone Tryz.prog M] (h : PHeap) (ca : List Value) (p : Painter) (b : (painterR τ).B h ca p) : CallV Tryz.prog M 75 [.agg ca.toArray] h (.bool (paintOk p)) := by
  obtain ⟨c, l, f, rfl, s1, s2, s3⟩ := painterB b
  have o1 := s1.one
  have o2 := s2.one
  have o3 := s3.one
  have bs : (sceneR τ).B h [.int .i64 p.scene.grid.wide, c, l, f] p.scene := sceneB_mk s1 s2 s3
  refine Cs Tryz.func75 Tryz.ntmps75 ?_
  repeat first | refine R1 ?_ | refine R2 fun _ => ?_
  refine sf_cond (by rfl) (fun e1 => ?_) fun e1 => ?_
  · have ep : paintOk p = (p.up && (decide (0 ≤ p.ver) && decide (p.ver ≤ 60)) && sceneOk p.scene) := by rw [paintOk, if_pos e1]
    rw [ep]
    repeat first | refine R1 ?_ | refine R2 fun _ => ?_
    refine f_splitB (fun e2 => ?_) fun e2 => ?_
    · repeat first | refine R1 ?_ | refine R2 fun _ => ?_
      refine f_split (fun e3 => ?_) fun e3 => ?_
      · repeat first | refine R1 ?_ | refine R2 fun _ => ?_
        refine f_split (fun e4 => ?_) fun e4 => ?_
        · repeat first | refine R1 ?_ | refine R2 fun _ => ?_
          refine Xv (sceneOk_v (M := M) _ _ p.scene bs) ?_
          repeat first | refine R1 ?_ | refine R2 fun _ => ?_
          refine sf_ret (rV ?_)
          simp [e2]; omega
        · repeat first | refine R1 ?_ | refine R2 fun _ => ?_
          refine sf_ret (rV ?_)
          simp [e4]
      · repeat first | refine R1 ?_ | refine R2 fun _ => ?_
        refine sf_ret (rV ?_)
        simp; omega
    · repeat first | refine R1 ?_ | refine R2 fun _ => ?_
      refine sf_ret (rV ?_)
      simp [e2]
  · have ep : paintOk p = (decide (p.ver = 0) && decide (p.scene = noScene)) := by rw [paintOk, if_neg (by rw [e1]; decide)]
    rw [ep]
    repeat first | refine R1 ?_ | refine R2 fun _ => ?_
    refine f_split (fun e2 => ?_) fun e2 => ?_
    · repeat first | refine R1 ?_ | refine R2 fun _ => ?_
      refine Xv (sceneSame_v (M := M) _ _ _ p.scene noScene bs (noSceneB _)) ?_
      repeat first | refine R1 ?_ | refine R2 fun _ => ?_
      refine sf_ret (rV ?_)
      simp [e2]
    · repeat first | refine R1 ?_ | refine R2 fun _ => ?_
      refine sf_ret (rV ?_)
      simp [e2]
instance : EqFl Tryz.prog 48 editF := eqFl_edit inferInstance (inferInstance : Ty Tryz.prog 3 _ 1 _ _) (inferInstance : Ty Tryz.prog 46 _ 2 _ _) (by kernel_rfl) (by kernel_rfl)
theorem word_ext {x y : Word} (h1 : x.kind = y.kind) (h2 : x.to = y.to) (h3 : x.frm = y.frm) (h4 : x.ver = y.ver) (h5 : x.grid = y.grid) (h6 : x.edit = y.edit) (h7 : x.lights = y.lights) : x = y := by
  cases x; cases y; simp_all
theorem wordSame_v (h : PHeap) (ca cb : List Value) (x y : Word) (bx : (wordR τ).B h ca x) (by' : (wordR τ).B h cb y) : CallV Tryz.prog M 122 [.agg ca.toArray, .agg cb.toArray] h (.bool (decide (x = y))) := by
  obtain ⟨c1, l1, e1, s1, s2⟩ := wordB bx
  obtain ⟨c2, l2, e2, s3, s4⟩ := wordB by'
  have e1' : ca = [.int .i64 x.kind, .int .i64 x.to, .int .i64 x.frm, .int .i64 x.ver, .int .i64 x.grid.wide, c1, .int .i64 x.edit.at', .int .i64 x.edit.cell.kind, .int .i64 x.edit.cell.light, l1] := e1
  have e2' : cb = [.int .i64 y.kind, .int .i64 y.to, .int .i64 y.frm, .int .i64 y.ver, .int .i64 y.grid.wide, c2, .int .i64 y.edit.at', .int .i64 y.edit.cell.kind, .int .i64 y.edit.cell.light, l2] := e2
  subst e1' e2'
  clear e1 e2
  have o1 := s1.one
  have o2 := s2.one
  have o3 := s3.one
  have o4 := s4.one
  have no : ∀ {b : Bool}, b = false → ¬ x = y → Value.bool b = .bool (decide (x = y)) := fun hb hn => by rw [hb, decide_eq_false hn]
  refine Cs Tryz.func122 Tryz.ntmps122 ?_
  repeat first | refine R1 ?_ | refine R2 fun _ => ?_
  refine f_split (fun h1 => ?_) fun h1 => ?_
  rotate_left
  · repeat first | refine R1 ?_ | refine R2 fun _ => ?_
    refine sf_ret (rV ?_)
    exact no (by simp [h1]) fun e => h1 (by rw [e])
  repeat first | refine R1 ?_ | refine R2 fun _ => ?_
  refine f_split (fun h2 => ?_) fun h2 => ?_
  rotate_left
  · repeat first | refine R1 ?_ | refine R2 fun _ => ?_
    refine sf_ret (rV ?_)
    exact no (by simp [h1, h2]) fun e => h2 (by rw [e])
  repeat first | refine R1 ?_ | refine R2 fun _ => ?_
  refine f_split (fun h3 => ?_) fun h3 => ?_
  rotate_left
  · repeat first | refine R1 ?_ | refine R2 fun _ => ?_
    refine sf_ret (rV ?_)
    exact no (by simp [h1, h2, h3]) fun e => h3 (by rw [e])
  repeat first | refine R1 ?_ | refine R2 fun _ => ?_
  refine f_split (fun h4 => ?_) fun h4 => ?_
  rotate_left
  · repeat first | refine R1 ?_ | refine R2 fun _ => ?_
    refine sf_ret (rV ?_)
    exact no (by simp [h1, h2, h3, h4]) fun e => h4 (by rw [e])
  repeat first | refine R1 ?_ | refine R2 fun _ => ?_
  refine Xv (gridSame_v (M := M) _ _ _ x.grid y.grid (gridB_mk s1) (gridB_mk s3)) ?_
  repeat first | refine R1 ?_ | refine R2 fun _ => ?_
  refine f_split (fun h5 => ?_) fun h5 => ?_
  rotate_left
  · repeat first | refine R1 ?_ | refine R2 fun _ => ?_
    refine sf_ret (rV ?_)
    exact no (by simp [h1, h2, h3, h4, h5]) fun e => h5 (by rw [e])
  repeat first | refine R1 ?_ | refine R2 fun _ => ?_
  refine fp (Rq ?_ (q_eqS (E := editF) (a := x.edit) (b := y.edit) inferInstance (by rfl) (by rfl)))
  repeat first | refine R1 ?_ | refine R2 fun _ => ?_
  refine f_split (fun h6 => ?_) fun h6 => ?_
  rotate_left
  · repeat first | refine R1 ?_ | refine R2 fun _ => ?_
    refine sf_ret (rV ?_)
    exact no (by simp [h1, h2, h3, h4, h5, h6]) fun e => h6 (by rw [e])
  repeat first | refine R1 ?_ | refine R2 fun _ => ?_
  refine Xv (intsEqual_v (M := M) _ _ _ _ _ s2 s4) ?_
  repeat first | refine R1 ?_ | refine R2 fun _ => ?_
  refine sf_ret (rV ?_)
  by_cases h7 : x.lights = y.lights
  · have e := word_ext h1 h2 h3 h4 h5 h6 h7
    simp [e]
  · have e : ¬ x = y := fun e => h7 (by rw [e])
    simp [e, h7]
theorem painterCorrect_v [al : Alone Tryz.prog M] (h : PHeap) [BAt h 0 errObj] (ca cb : List Value) (k : Keeper) (p : Painter) (b : (keeperR τ).B h ca k) (bp : (painterR τ).B h cb p) (hk : HeadOk k) : CallV Tryz.prog M 82 [.agg ca.toArray, .agg cb.toArray] h (.bool (painterTrue k p)) := by
  have b0 := b
  have bp0 := bp
  obtain ⟨c, ed, pt, s, rfl, s1, s2, s3, s4⟩ := keeperB b
  obtain ⟨pc, pl, pf, rfl, t1, t2, t3⟩ := painterB bp
  have o1 := s1.one
  have o2 := s2.one
  have o3 := s3.one
  have o4 := s4.one
  have o5 := t1.one
  have o6 := t2.one
  have o7 := t3.one
  refine Cs Tryz.func82 Tryz.ntmps82 ?_
  repeat first | refine R1 ?_ | refine R2 fun _ => ?_
  refine fp (y_call (keepVersion_f (M := M) _ _ k b0 p.ver) (by rfl) ?_)
  rintro u _ ⟨eu, rfl⟩
  have ou := eu.one
  repeat first | refine R1 ?_ | refine R2 fun _ => ?_
  refine Xv (refused_v (M := M) _ _ _ eu) ?_
  repeat first | refine R1 ?_ | refine R2 fun _ => ?_
  refine f_splitB (fun e1 => ?_) fun e1 => ?_
  · have e1' : verOk k p.ver = false := by simpa using e1
    repeat first | refine R1 ?_ | refine R2 fun _ => ?_
    refine sf_cond (by rfl) (fun e9 => ?_) fun e9 => ?_
    · repeat first | refine R1 ?_ | refine R2 fun _ => ?_
      refine sf_ret (rV ?_)
      simp [painterTrue, e1']
    · simp [e1'] at e9
  have e1' : verOk k p.ver = true := by simpa using e1
  repeat first | refine R1 ?_ | refine R2 fun _ => ?_
  refine Xv (paintOk_v (M := M) _ _ p bp0) ?_
  repeat first | refine R1 ?_ | refine R2 fun _ => ?_
  refine sf_cond (by rfl) (fun e2 => ?_) fun e2 => ?_
  · have e2' : paintOk p = false := by simpa [e1'] using e2
    repeat first | refine R1 ?_ | refine R2 fun _ => ?_
    refine sf_ret (rV ?_)
    simp [painterTrue, e2']
  have e2' : paintOk p = true := by simpa [e1'] using e2
  have key : painterTrue k p = (!p.has || decide (p.scene.grid = gridAt k p.ver)) := by simp [painterTrue, e1', e2']
  rw [key]
  clear key e1 e2
  repeat first | refine R1 ?_ | refine R2 fun _ => ?_
  by_cases hp : p.has = true
  · have e3 : (!p.has) = false := by simp [hp]
    refine Sd [[],[0],[0,1],[0,1,2],[0,1,2,3],[0,1,2,3,4],[0,1,2,3,4,5],[0,1,2,3],[0,1,2,3],[0,1,2,3,8],[0,1,2,3,7,8,9],[0,1,2,3,4,5,6,7,8,9,10],[0,1,2,3,4,5,6,7,8,9,10,11],[0,1,2,3,4,5,6,7,8,9,10,11,12]] 11 [Nn 0,Nn 1,Nn 2,Nn 3,Nn 4,Nn 5,Nn 6,Nn 7,Nn 8,Nn 9,Yy 10] ?_
    refine Da ?_
    refine a_call (keepGridOf_f (M := M) _ _ k b0 hk p.ver e1') (by rfl) (by rfl) (.inr ⟨_, _, _, _, rfl, by rfl, by rfl, e3⟩) ?_
    rintro _ A1 ⟨cs, rfl, q⟩
    have q0 := q
    obtain ⟨c2, rfl, g1, l1⟩ := gridO q
    have o8 := g1.one
    refine Da ?_
    refine Ae ?_
    refine fp (y_lendV A1 (fun h' l i => gridSame_v (M := M) h' _ _ p.scene.grid (gridAt k p.ver) (gridB_mk (t1.le l.le)) ((gridR τ).lent q0 i)) (by rfl) ?_)
    repeat first | refine R1 ?_ | refine R2 fun _ => ?_
    refine sf_ret (rV ?_)
    simp [hp]
  · have hp' : p.has = false := by simpa using hp
    have e3 : (!p.has) = true := by simp [hp']
    refine Sd [[],[0],[0,1],[0,1,2],[0,1,2,3],[0,1,2,3,4],[0,1,2,3,4,5],[0,1,2,3],[0,1,2,3],[0,1,2,3,8],[0,1,2,3,7,8,9],[0,1,2,3,4,5,6,7,8,9,10],[0,1,2,3,4,5,6,7,8,9,10,11],[0,1,2,3,4,5,6,7,8,9,10,11,12]] 11 [Nn 0,Nn 1,Nn 2,Nn 3,Nn 4,Nn 5,Nn 6,Nn 7,Nn 8,Nn 9,Nn 10] ?_
    refine Da ?_
    refine Ae ?_
    repeat first | refine R1 ?_ | refine R2 fun _ => ?_
    refine sf_ret (rV ?_)
    simp [hp']
theorem paintOwn0_f (h : PHeap) (ca : List Value) (g : Grid) (b : (gridR τ).B h ca g) (id many : Int) (hi : idOk id many = false) : CallF Tryz.prog M 34 [.agg ca.toArray, .int .i64 id, .int .i64 many] [] h fun u A => u = .slice none 0 0 := by
  obtain ⟨c, rfl, s⟩ := gridB b
  have o1 := s.one
  refine Cs Tryz.func34 Tryz.ntmps34 ?_
  repeat first | refine R1 ?_ | refine R2 fun _ => ?_
  refine Xv (paintIdOk_v _ _ _) ?_
  rw [show (decide (1 ≤ many) && decide (many ≤ 3) && decide (1 ≤ id) && decide (id ≤ many)) = false from hi]
  repeat first | refine R1 ?_ | refine R2 fun _ => ?_
  refine sf_T (by rfl) ?_
  repeat first | refine R1 ?_ | refine R2 fun _ => ?_
  exact sf_ret (rO [] rfl)
theorem partOf0_f (h : PHeap) (ca : List Value) (g : Grid) (b : (gridR τ).B h ca g) (pv : Value) [o : Sl.One pv] (id many : Int) (hi : idOk id many = false) : CallF Tryz.prog M 123 [.agg ca.toArray, pv, .int .i64 id, .int .i64 many] [] h fun u A => Gr A u 3 intF [] := by
  have b0 := b
  obtain ⟨c, rfl, s⟩ := gridB b
  have o1 := s.one
  refine Cs Tryz.func123 Tryz.ntmps123 ?_
  repeat first | refine R1 ?_ | refine R2 fun _ => ?_
  refine fp (y_call (paintOwn0_f (M := M) _ _ g b0 id many hi) (by rfl) ?_)
  rintro v A1 rfl
  repeat first | refine R1 ?_ | refine R2 fun _ => ?_
  refine sf_lp (ι := Unit) [9, 15, 16] (fun _ => [(17, .int .i64 0)]) (fun _ O => O = []) (fun _ => 0) () [] rfl ?_
  rintro _ O rfl
  repeat first | refine R1 ?_ | refine R2 fun _ => ?_
  refine sf_if (fun h4 => ?_) fun h4 => ?_
  · simp at h4
  refine sf_exit ?_
  repeat first | refine R1 ?_ | refine R2 fun _ => ?_
  exact sf_ret (rO [] (Gr.nil _ _))
theorem partAny_f (h : PHeap) (ca : List Value) (g : Grid) (b : (gridR τ).B h ca g) (e : gridOk g = true) (pv : Value) (pic : List Int) (sp : Sl h pv intF pic) (hp : pic.length = (manyOf g).toNat) (id many : Int) : CallF Tryz.prog M 123 [.agg ca.toArray, pv, .int .i64 id, .int .i64 many] [] h fun u A => Gr A u 3 intF (if idOk id many = true then ownLights pic (manyOf g).toNat many.toNat id.toNat else []) := by
  have o := sp.one
  by_cases hi : idOk id many = true
  · rw [if_pos hi]
    have hi' := hi
    simp only [idOk, Bool.and_eq_true, decide_eq_true_eq] at hi'
    have := partOf_f (M := M) h ca g b e pv pic sp hp id.toNat many.toNat (by omega) (by omega) (by omega)
    rw [show ((id.toNat : Nat) : Int) = id by omega, show ((many.toNat : Nat) : Int) = many by omega] at this
    exact this
  · rw [if_neg hi]
    exact partOf0_f h ca g b pv id many (by simpa using hi)
theorem wordCorrect_v [al : Alone Tryz.prog M] (h : PHeap) [BAt h 0 errObj] (ca cb : List Value) (k : Keeper) (x : Word) (b : (keeperR τ).B h ca k) (bx : (wordR τ).B h cb x) (hk : HeadOk k) : CallV Tryz.prog M 83 [.agg ca.toArray, .agg cb.toArray] h (.bool (wordTrue k x)) := by
  have b0 := b
  have bx0 := bx
  obtain ⟨c, ed, pt, s, rfl, s1, s2, s3, s4⟩ := keeperB b
  obtain ⟨wc, wl, ecb, t1, t2⟩ := wordB bx
  have ecb' : cb = [.int .i64 x.kind, .int .i64 x.to, .int .i64 x.frm, .int .i64 x.ver, .int .i64 x.grid.wide, wc, .int .i64 x.edit.at', .int .i64 x.edit.cell.kind, .int .i64 x.edit.cell.light, wl] := ecb
  subst ecb'
  clear ecb bx
  have o1 := s1.one
  have o2 := s2.one
  have o3 := s3.one
  have o4 := s4.one
  have o5 := t1.one
  have o6 := t2.one
  have hgk := gridAt_ok hk.grid hk.edits x.ver
  refine Cs Tryz.func83 Tryz.ntmps83 ?_
  repeat first | refine R1 ?_ | refine R2 fun _ => ?_
  refine fp (y_call (keepVersion_f (M := M) _ _ k b0 x.ver) (by rfl) ?_)
  rintro u _ ⟨eu, rfl⟩
  have ou := eu.one
  repeat first | refine R1 ?_ | refine R2 fun _ => ?_
  refine Xv (refused_v (M := M) _ _ _ eu) ?_
  repeat first | refine R1 ?_ | refine R2 fun _ => ?_
  refine sf_cond (by rfl) (fun e0 => ?_) fun e0 => ?_
  · have e0' : verOk k x.ver = false := by simpa using e0
    repeat first | refine R1 ?_ | refine R2 fun _ => ?_
    refine sf_ret (rV ?_)
    simp [wordTrue, e0']
  have hv : verOk k x.ver = true := by simpa using e0
  have hv' : 0 ≤ x.ver ∧ x.ver ≤ k.edits.length := by simpa [verOk] using hv
  obtain ⟨rp, sp, bp⟩ := s3
  have lp := bp.len
  have n1 := hk.n1
  have n3 := hk.n3
  have e60 := hk.e60
  repeat first | refine R1 ?_ | refine R2 fun _ => ?_
  rw [lp]
  refine sf_if (fun e1 => ?_) fun e1 => ?_
  · rw [wordTrue1 e1, hv]
    repeat first | refine R1 ?_ | refine R2 fun _ => ?_
    refine fp (y_call (keepGridOf_f (M := M) _ _ k b0 hk x.ver hv) (by rfl) ?_)
    rintro _ AG ⟨cs, rfl, q⟩
    obtain ⟨c2, rfl, g1, l1⟩ := gridO q
    have o7 := g1.one
    repeat first | refine R1 ?_ | refine R2 fun _ => ?_
    refine Xv (paintIdOk_v _ _ _) ?_
    repeat first | refine R1 ?_ | refine R2 fun _ => ?_
    have qr : (wordR τ).O (AG ++ []) _ ⟨x.kind, x.to, 0, x.ver, gridAt k x.ver, noEdit, []⟩ := wordO_mk (w := ⟨x.kind, x.to, 0, x.ver, gridAt k x.ver, noEdit, []⟩) g1 l1 (Gr.nil _ _) (by simp)
    refine f_splitB (fun e2 => ?_) fun e2 => ?_
    · have e2' : idOk x.to k.parts.length = true := e2
      repeat first | refine R1 ?_ | refine R2 fun _ => ?_
      refine fp (y_lendV (AG ++ []) (fun h' l i => wordSame_v (M := M) h' _ _ x _ ((wordR τ).up l bx0) ((wordR τ).lent qr i)) (by rfl) ?_)
      repeat first | refine R1 ?_ | refine R2 fun _ => ?_
      refine sf_ret (rV ?_)
      rw [e2', e1]; simp
    · have e2' : idOk x.to k.parts.length = false := e2
      repeat first | refine R1 ?_ | refine R2 fun _ => ?_
      refine sf_ret (rV ?_)
      simp [e2', e2]
  repeat first | refine R1 ?_ | refine R2 fun _ => ?_
  refine sf_if (fun e2 => ?_) fun e2 => ?_
  · rw [wordTrue2 e2, hv]
    repeat first | refine R1 ?_ | refine R2 fun _ => ?_
    refine sf_if (fun e5 => ?_) fun e5 => ?_
    · repeat first | refine R1 ?_ | refine R2 fun _ => ?_
      refine sf_ret (rV ?_)
      simp [e5]
    obtain ⟨n, hn⟩ : ∃ n : Nat, x.ver - 1 = n := ⟨(x.ver - 1).toNat, by omega⟩
    have hn4 : n < k.edits.length := by omega
    rw [hn]
    repeat first | refine R1 ?_ | refine R2 fun _ => ?_
    rw [hn]
    repeat first | refine R1 ?_ | refine R2 fun _ => ?_
    refine Xv (paintIdOk_v _ _ _) ?_
    repeat first | refine R1 ?_ | refine R2 fun _ => ?_
    have qr : (wordR τ).O ([] ++ []) _ ⟨x.kind, x.to, 0, x.ver, noGrid, gt k.edits n, []⟩ := wordO_mk (w := ⟨x.kind, x.to, 0, x.ver, noGrid, gt k.edits n, []⟩) (Gr.nil _ _) (by simp [noGrid]) (Gr.nil _ _) (by simp)
    refine f_splitB (fun e6 => ?_) fun e6 => ?_
    · have e6' : idOk x.to k.parts.length = true := e6
      repeat first | refine R1 ?_ | refine R2 fun _ => ?_
      refine fp (y_lendV ([] ++ []) (fun h' l i => wordSame_v (M := M) h' _ _ x _ ((wordR τ).up l bx0) ((wordR τ).lent qr i)) (by rfl) ?_)
      repeat first | refine R1 ?_ | refine R2 fun _ => ?_
      refine sf_ret (rV ?_)
      rw [e6', e2]; simp [e5]
    · have e6' : idOk x.to k.parts.length = false := e6
      repeat first | refine R1 ?_ | refine R2 fun _ => ?_
      refine sf_ret (rV ?_)
      simp [e6', e6]
  repeat first | refine R1 ?_ | refine R2 fun _ => ?_
  refine sf_if (fun e3 => ?_) fun e3 => ?_
  · rw [wordTrue3 e3, hv]
    repeat first | refine R1 ?_ | refine R2 fun _ => ?_
    refine fp (y_call (keepGridOf_f (M := M) _ _ k b0 hk x.ver hv) (by rfl) ?_)
    rintro _ AG ⟨cs, rfl, q⟩
    have q0 := q
    obtain ⟨c2, rfl, g1, l1⟩ := gridO q
    have o7 := g1.one
    repeat first | refine R1 ?_ | refine R2 fun _ => ?_
    have hpl := picOf_len (gridAt k x.ver)
    refine sf_draw (by kernel_rfl) (regX_own (AG) (Sw [[],[0],[],[2],[],[],[5],[],[7],[],[4,5,6,7,8,9],[0,1,2,3,4,5,6,7,8,9,10],[0,1,2,3,4,5,6,7,8,9,10,11]] 11 [Nn 0,Nn 1,Nn 2,Nn 3,Nn 4,Nn 5,Nn 7,Nn 8,Nn 9,Yy 6,Yy 10] ?_))
    refine Da ?_
    refine Yc (lendF AG fun h' l' i' => picOf_f (M := M) h' _ (gridAt k x.ver) ((gridR τ).lent q0 i') hgk) ?_
    rintro p2 _ ⟨AP, rfl, gp⟩
    have o8 := gp.one
    refine Da ?_
    refine Yc (lendF (AG ++ AP) fun h' l' i' => partAny_f (M := M) h' _ (gridAt k x.ver) ((gridR τ).lent q0 (inb_l i')) hgk p2 (picOf (gridAt k x.ver)) (gp.lent (by have := (gok hgk).many; omega) (inb_r i')) hpl x.frm k.parts.length) ?_
    rintro u2 _ ⟨AL, rfl, gl⟩
    have o9 := gl.one
    refine Da ?_
    refine Ae ?_
    repeat first | refine R1 ?_ | refine R2 fun _ => ?_
    refine Xv (paintIdOk_v _ _ _) ?_
    repeat first | refine R1 ?_ | refine R2 fun _ => ?_
    refine f_splitB (fun e6 => ?_) fun e6 => ?_
    · have e6' : idOk x.frm k.parts.length = true := e6
      rw [if_pos e6', gridAt_many, Int.toNat_natCast] at gl
      have hL := partLights_le hk x.frm.toNat x.ver
      have qr : (wordR τ).O ([] ++ AL) _ ⟨3, 0, x.frm, x.ver, noGrid, noEdit, partLights k x.frm.toNat x.ver⟩ := wordO_mk (w := ⟨3, 0, x.frm, x.ver, noGrid, noEdit, partLights k x.frm.toNat x.ver⟩) (Gr.nil _ _) (by simp [noGrid]) gl (by simp only; omega)
      repeat first | refine R1 ?_ | refine R2 fun _ => ?_
      refine fp (y_lendV ([] ++ AL) (fun h' l i => wordSame_v (M := M) h' _ _ x _ ((wordR τ).up l bx0) ((wordR τ).lent qr i)) (by rfl) ?_)
      repeat first | refine R1 ?_ | refine R2 fun _ => ?_
      refine sf_ret (rV ?_)
      rw [e6']; simp
    · have e6' : idOk x.frm k.parts.length = false := e6
      repeat first | refine R1 ?_ | refine R2 fun _ => ?_
      refine sf_ret (rV ?_)
      simp [e6', e6]
  repeat first | refine R1 ?_ | refine R2 fun _ => ?_
  refine sf_if (fun e4 => ?_) fun e4 => ?_
  · rw [wordTrue4 e4, hv]
    repeat first | refine R1 ?_ | refine R2 fun _ => ?_
    refine Xv (paintIdOk_v _ _ _) ?_
    repeat first | refine R1 ?_ | refine R2 fun _ => ?_
    have qr : (wordR τ).O ([] ++ []) _ ⟨4, 0, x.frm, 0, noGrid, noEdit, []⟩ := wordO_mk (w := ⟨4, 0, x.frm, 0, noGrid, noEdit, []⟩) (Gr.nil _ _) (by simp [noGrid]) (Gr.nil _ _) (by simp)
    refine f_splitB (fun e6 => ?_) fun e6 => ?_
    · have e6' : idOk x.frm k.parts.length = true := e6
      repeat first | refine R1 ?_ | refine R2 fun _ => ?_
      refine fp (y_lendV ([] ++ []) (fun h' l i => wordSame_v (M := M) h' _ _ x _ ((wordR τ).up l bx0) ((wordR τ).lent qr i)) (by rfl) ?_)
      repeat first | refine R1 ?_ | refine R2 fun _ => ?_
      refine sf_ret (rV ?_)
      rw [e6']; simp
    · have e6' : idOk x.frm k.parts.length = false := e6
      repeat first | refine R1 ?_ | refine R2 fun _ => ?_
      refine sf_ret (rV ?_)
      simp [e6', e6]
  repeat first | refine R1 ?_ | refine R2 fun _ => ?_
  refine sf_ret (rV ?_)
  rw [wordTrue0 e1 e2 e3 e4]
theorem all_gt {α : Type} [Inhabited α] {f : α → Bool} {xs : List α} : xs.all f = true ↔ ∀ i, i < xs.length → f (gt xs i) = true := by
  rw [List.all_eq_true]
  constructor
  · intro h i hi
    rw [gt_eq hi]; exact h _ (List.getElem_mem _)
  · intro h x hx
    obtain ⟨i, hi, rfl⟩ := List.getElem_of_mem hx
    rw [← gt_eq hi]; exact h i hi
theorem worldOk_v [al : Alone Tryz.prog M] (h : PHeap) [BAt h 0 errObj] (ca : List Value) (w : World') (b : (worldR τ).B h ca w) : CallV Tryz.prog M 43 [.agg ca.toArray] h (.bool (worldOk w)) := by
  obtain ⟨c, ed, pt, s, ps, ns, rfl, s1, s2, s3, s4, s5, s6⟩ := worldB b
  have b0 : (keeperR τ).B h [.int .i64 w.keeper.first.wide, c, ed, pt, s] w.keeper := keeperB_mk s1 s2 s3 s4
  have o1 := s1.one
  have o2 := s2.one
  have o3 := s3.one
  have o4 := s4.one
  have o5 := s5.one
  have o6 := s6.one
  obtain ⟨rk, s3, bk⟩ := s3
  obtain ⟨rp, s5, bp⟩ := s5
  obtain ⟨rn, s6, bn⟩ := s6
  have lk := bk.len
  have lp := bp.len
  have ln := bn.len
  have hsp := s5.small
  have hsn := s6.small
  refine Cs Tryz.func43 Tryz.ntmps43 ?_
  repeat first | refine R1 ?_ | refine R2 fun _ => ?_
  refine Xv (keepOk_v (M := M) _ _ w.keeper b0) ?_
  repeat first | refine R1 ?_ | refine R2 fun _ => ?_
  refine f_splitB (fun e1 => ?_) fun e1 => ?_
  · have e1' : keepOk w.keeper = false := by simpa using e1
    repeat first | refine R1 ?_ | refine R2 fun _ => ?_
    refine sf_cond (by rfl) (fun e9 => ?_) fun e9 => ?_
    · repeat first | refine R1 ?_ | refine R2 fun _ => ?_
      refine sf_ret (rV ?_)
      simp [worldOk, e1']
    · simp [e1'] at e9
  have ok : keepOk w.keeper = true := by simpa using e1
  have hk := keepOk_head ok
  repeat first | refine R1 ?_ | refine R2 fun _ => ?_
  refine f_split (fun e2 => ?_) fun e2 => ?_
  · have e2' : ¬ w.painters.length = w.keeper.parts.length := by omega
    repeat first | refine R1 ?_ | refine R2 fun _ => ?_
    refine sf_cond (by rfl) (fun e9 => ?_) fun e9 => ?_
    · repeat first | refine R1 ?_ | refine R2 fun _ => ?_
      refine sf_ret (rV ?_)
      simp [worldOk, e2']
    · simp [e1, e2] at e9
  have e2' : w.painters.length = w.keeper.parts.length := by omega
  repeat first | refine R1 ?_ | refine R2 fun _ => ?_
  refine sf_cond (by rfl) (fun e3 => ?_) fun e3 => ?_
  · have e3' : ¬ w.nets.length ≤ 10 := by simp [e1, e2] at e3; omega
    repeat first | refine R1 ?_ | refine R2 fun _ => ?_
    refine sf_ret (rV ?_)
    simp [worldOk, e3']
  have e3' : w.nets.length ≤ 10 := by simp [e1, e2] at e3; omega
  have key : worldOk w = (w.painters.all (painterTrue w.keeper) && w.nets.all (wordTrue w.keeper)) := by simp [worldOk, ok, e2', e3']
  rw [key]
  clear key e3
  repeat first | refine R1 ?_ | refine R2 fun _ => ?_
  rename_i b1
  refine sf_lp (ι := Nat) [1, 28, 29] (fun i => [(30, .int .i64 (i : Int))]) (fun i O => O = [(b1, .cells #[.int .i64 w.keeper.first.wide, c, ed, pt, s, ps, ns] 80)] ∧ i ≤ w.painters.length ∧ ∀ j, j < i → painterTrue w.keeper (gt w.painters j) = true) (fun i => w.painters.length - i) 0 [(b1, .cells #[.int .i64 w.keeper.first.wide, c, ed, pt, s, ps, ns] 80)] ⟨rfl, by omega, fun j hj => by omega⟩ ?_
  rintro i O ⟨rfl, hi, ht⟩
  repeat first | refine R1 ?_ | refine R2 fun _ => ?_
  refine sf_if (fun h4 => ?_) fun h4 => ?_
  · have hi4 : i < w.painters.length := by omega
    have hi5 : i < rp.length := by omega
    have b4 := bp.at hi4
    have b5 := b4
    obtain ⟨c2, l2, f2, ex, t1, t2, t3⟩ := painterB b4
    haveI : FlatV (rawF (painterR τ).sz) (gt rp i) [.bool (gt w.painters i).up, .bool (gt w.painters i).has, .int .i64 (gt w.painters i).ver, .int .i64 (gt w.painters i).scene.grid.wide, c2, l2, f2] := ⟨ex⟩
    rw [ex] at b5
    have p1 := t1.one
    have p2 := t2.one
    have p3 := t3.one
    repeat first | refine R1 ?_ | refine R2 fun _ => ?_
    refine Xv (painterCorrect_v (M := M) _ _ _ w.keeper (gt w.painters i) b0 b5 hk) ?_
    repeat first | refine R1 ?_ | refine R2 fun _ => ?_
    refine sf_cond (by rfl) (fun e4 => ?_) fun e4 => ?_
    · have e4' : painterTrue w.keeper (gt w.painters i) = false := by simpa using e4
      repeat first | refine R1 ?_ | refine R2 fun _ => ?_
      refine sf_ret (rV ?_)
      rw [show w.painters.all (painterTrue w.keeper) = false from by
        rw [Bool.eq_false_iff]; intro z; rw [all_gt.1 z i hi4] at e4'; exact Bool.noConfusion e4', Bool.false_and]
    · have e4' : painterTrue w.keeper (gt w.painters i) = true := by simpa using e4
      repeat first | refine R1 ?_ | refine R2 fun _ => ?_
      refine ⟨i + 1, by omega, ⟨rfl, trivial⟩, rfl, [(b1, .cells #[.int .i64 w.keeper.first.wide, c, ed, pt, s, ps, ns] 80)], _, inferInstance, rfl, by omega, fun j hj => ?_⟩
      by_cases ej : j = i
      · subst ej; exact e4'
      · exact ht j (by omega)
  refine sf_exit ?_
  have hpt : w.painters.all (painterTrue w.keeper) = true := all_gt.2 fun j hj => ht j (by omega)
  rw [hpt, Bool.true_and]
  clear ht
  repeat first | refine R1 ?_ | refine R2 fun _ => ?_
  refine sf_lp (ι := Nat) [1, 41, 42] (fun i => [(43, .int .i64 (i : Int))]) (fun i O => O = [(b1, .cells #[.int .i64 w.keeper.first.wide, c, ed, pt, s, ps, ns] 80)] ∧ i ≤ w.nets.length ∧ ∀ j, j < i → wordTrue w.keeper (gt w.nets j) = true) (fun i => w.nets.length - i) 0 [(b1, .cells #[.int .i64 w.keeper.first.wide, c, ed, pt, s, ps, ns] 80)] ⟨rfl, by omega, fun j hj => by omega⟩ ?_
  clear h4 hi i
  rintro i O ⟨rfl, hi, ht⟩
  repeat first | refine R1 ?_ | refine R2 fun _ => ?_
  refine sf_if (fun h4 => ?_) fun h4 => ?_
  · have hi4 : i < w.nets.length := by omega
    have hi5 : i < rn.length := by omega
    have b4 := bn.at hi4
    have b5 := b4
    obtain ⟨c2, l2, ex, t1, t2⟩ := wordB b4
    have ex' : (gt rn i).cs = [.int .i64 (gt w.nets i).kind, .int .i64 (gt w.nets i).to, .int .i64 (gt w.nets i).frm, .int .i64 (gt w.nets i).ver, .int .i64 (gt w.nets i).grid.wide, c2, .int .i64 (gt w.nets i).edit.at', .int .i64 (gt w.nets i).edit.cell.kind, .int .i64 (gt w.nets i).edit.cell.light, l2] := ex
    haveI : FlatV (rawF (wordR τ).sz) (gt rn i) [.int .i64 (gt w.nets i).kind, .int .i64 (gt w.nets i).to, .int .i64 (gt w.nets i).frm, .int .i64 (gt w.nets i).ver, .int .i64 (gt w.nets i).grid.wide, c2, .int .i64 (gt w.nets i).edit.at', .int .i64 (gt w.nets i).edit.cell.kind, .int .i64 (gt w.nets i).edit.cell.light, l2] := ⟨ex'⟩
    rw [ex'] at b5
    have p1 := t1.one
    have p2 := t2.one
    repeat first | refine R1 ?_ | refine R2 fun _ => ?_
    refine Xv (wordCorrect_v (M := M) _ _ _ w.keeper (gt w.nets i) b0 b5 hk) ?_
    repeat first | refine R1 ?_ | refine R2 fun _ => ?_
    refine sf_cond (by rfl) (fun e4 => ?_) fun e4 => ?_
    · have e4' : wordTrue w.keeper (gt w.nets i) = false := by simpa using e4
      repeat first | refine R1 ?_ | refine R2 fun _ => ?_
      refine sf_ret (rV ?_)
      rw [show w.nets.all (wordTrue w.keeper) = false from by
        rw [Bool.eq_false_iff]; intro z; rw [all_gt.1 z i hi4] at e4'; exact Bool.noConfusion e4']
    · have e4' : wordTrue w.keeper (gt w.nets i) = true := by simpa using e4
      repeat first | refine R1 ?_ | refine R2 fun _ => ?_
      refine ⟨i + 1, by omega, ⟨rfl, trivial⟩, rfl, [(b1, .cells #[.int .i64 w.keeper.first.wide, c, ed, pt, s, ps, ns] 80)], _, inferInstance, rfl, by omega, fun j hj => ?_⟩
      by_cases ej : j = i
      · subst ej; exact e4'
      · exact ht j (by omega)
  refine sf_exit ?_
  have hnt : w.nets.all (wordTrue w.keeper) = true := all_gt.2 fun j hj => ht j (by omega)
  rw [hnt]
  repeat first | refine R1 ?_ | refine R2 fun _ => ?_
  exact sf_ret (rV rfl)
theorem llWorld_s (h : PHeap) (ca cb : List Value) (w : World') (bx : (worldR τ).B h ca w) (by' : (worldR τ).B h cb w) : CallV Tryz.prog M 42 [.agg ca.toArray, .agg cb.toArray] h (.bool true) := by
  obtain ⟨c, ed, pt, s, ps, ns, rfl, s1, s2, s3, s4, s5, s6⟩ := worldB bx
  have b0 : (keeperR τ).B h [.int .i64 w.keeper.first.wide, c, ed, pt, s] w.keeper := keeperB_mk s1 s2 s3 s4
  obtain ⟨c', ed', pt', s', ps', ns', rfl, t1, t2, t3, t4, t5, t6⟩ := worldB by'
  have b1 : (keeperR τ).B h [.int .i64 w.keeper.first.wide, c', ed', pt', s'] w.keeper := keeperB_mk t1 t2 t3 t4
  have o1 := s1.one
  have o2 := s2.one
  have o3 := s3.one
  have o4 := s4.one
  have o5 := s5.one
  have o6 := s6.one
  have p1 := t1.one
  have p2 := t2.one
  have p3 := t3.one
  have p4 := t4.one
  have p5 := t5.one
  have p6 := t6.one
  obtain ⟨rp, s5, bp⟩ := s5
  obtain ⟨rn, s6, bn⟩ := s6
  obtain ⟨rq, t5, bq⟩ := t5
  obtain ⟨rm, t6, bm⟩ := t6
  have lp := bp.len
  have ln := bn.len
  have lq := bq.len
  have lm := bm.len
  have hsp := s5.small
  have hsn := s6.small
  have htp := t5.small
  have htn := t6.small
  have g1 : ¬ ((rp.length : Int) ≠ (rq.length : Int)) := by omega
  have g2 : ¬ ((rn.length : Int) ≠ (rm.length : Int)) := by omega
  refine Cs Tryz.func42 Tryz.ntmps42 ?_
  repeat first | refine R1 ?_ | refine R2 fun _ => ?_
  refine Xv (llKeeper_s _ _ _ _ b0 b1) ?_
  repeat first | refine R1 ?_ | refine R2 fun _ => ?_
  refine sf_if (fun e => absurd e g2) fun _ => ?_
  repeat first | refine R1 ?_ | refine R2 fun _ => ?_
  refine sf_rd [2, 3] 5 w.painters.length 0 (fun _ => True) (by omega) trivial (fun k hk _ => ?_)
  repeat first | refine R1 ?_ | refine R2 fun _ => ?_
  refine sf_if (fun h4 => ?_) fun h4 => ?_
  · have hk4 : k < w.painters.length := by omega
    have hk5 : k < rp.length := by omega
    have hk6 : k < rq.length := by omega
    have x4 := bp.at hk4
    have x5 := x4
    obtain ⟨c2, l2, f2, ex, u1, u2, u3⟩ := painterB x4
    haveI : FlatV (rawF (painterR τ).sz) (gt rp k) [.bool (gt w.painters k).up, .bool (gt w.painters k).has, .int .i64 (gt w.painters k).ver, .int .i64 (gt w.painters k).scene.grid.wide, c2, l2, f2] := ⟨ex⟩
    rw [ex] at x5
    have y4 := bq.at hk4
    have y5 := y4
    obtain ⟨c3, l3, f3, ey, v1, v2, v3⟩ := painterB y4
    haveI : FlatV (rawF (painterR τ).sz) (gt rq k) [.bool (gt w.painters k).up, .bool (gt w.painters k).has, .int .i64 (gt w.painters k).ver, .int .i64 (gt w.painters k).scene.grid.wide, c3, l3, f3] := ⟨ey⟩
    rw [ey] at y5
    have q1 := u1.one
    have q2 := u2.one
    have q3 := u3.one
    have q4 := v1.one
    have q5 := v2.one
    have q6 := v3.one
    repeat first | refine R1 ?_ | refine R2 fun _ => ?_
    refine Sd [[],[0],[],[0,1,2],[0,1,2,3],[],[5],[],[5,6,7],[5,6,7,8],[0,1,2,3,4,5,6,7,8,9],[0,1,2,3,4,5,6,7,8,9,10]] 10 [Nn 0,Nn 1,Nn 2,Nn 3,Nn 4,Nn 5,Nn 6,Nn 7,Nn 8,Nn 9] ?_
    refine Da ?_
    refine Ae ?_
    refine Xv (llPainter_v _ _ _ _ _ x5 y5) ?_
    rw [decide_eq_true (rfl : gt w.painters k = gt w.painters k)]
    repeat first | refine R1 ?_ | refine R2 fun _ => ?_
    refine sf_cond (by rfl) (fun z => by cases z) fun _ => ?_
    repeat first | refine R1 ?_ | refine R2 fun _ => ?_
    exact ⟨⟨hk4, trivial⟩, rfl, rfl, _, inferInstance⟩
  refine sf_exit ?_
  repeat first | refine R1 ?_ | refine R2 fun _ => ?_
  refine sf_rd [2, 3] 6 w.nets.length 0 (fun _ => True) (by omega) trivial (fun k hk _ => ?_)
  repeat first | refine R1 ?_ | refine R2 fun _ => ?_
  refine sf_if (fun h4 => ?_) fun h4 => ?_
  · have hk4 : k < w.nets.length := by omega
    have hk5 : k < rn.length := by omega
    have hk6 : k < rm.length := by omega
    have x4 := bn.at hk4
    have x5 := x4
    obtain ⟨c2, l2, ex, u1, u2⟩ := wordB x4
    haveI : FlatV (rawF (wordR τ).sz) (gt rn k) (wordCs (gt w.nets k) c2 l2) := ⟨ex⟩
    rw [ex] at x5
    have y4 := bm.at hk4
    have y5 := y4
    obtain ⟨c3, l3, ey, v1, v2⟩ := wordB y4
    haveI : FlatV (rawF (wordR τ).sz) (gt rm k) (wordCs (gt w.nets k) c3 l3) := ⟨ey⟩
    rw [ey] at y5
    have q1 := u1.one
    have q2 := u2.one
    have q4 := v1.one
    have q5 := v2.one
    simp only [wordCs] at *
    repeat first | refine R1 ?_ | refine R2 fun _ => ?_
    refine Sd [[],[0],[],[0,1,2],[0,1,2,3],[],[5],[],[5,6,7],[5,6,7,8],[0,1,2,3,4,5,6,7,8,9],[0,1,2,3,4,5,6,7,8,9,10]] 10 [Nn 0,Nn 1,Nn 2,Nn 3,Nn 4,Nn 5,Nn 6,Nn 7,Nn 8,Nn 9] ?_
    refine Da ?_
    refine Ae ?_
    refine Xv (llWordP_s _ _ _ _ x5 y5) ?_
    repeat first | refine R1 ?_ | refine R2 fun _ => ?_
    refine sf_cond (by rfl) (fun z => by cases z) fun _ => ?_
    repeat first | refine R1 ?_ | refine R2 fun _ => ?_
    exact ⟨⟨hk4, trivial⟩, rfl, rfl, _, inferInstance⟩
  refine sf_exit ?_
  repeat first | refine R1 ?_ | refine R2 fun _ => ?_
  exact sf_ret (rV rfl)
theorem drawWorldNew_f (h : PHeap) (v : Value) (xs : List (Fin 256)) (s : Sl h v u8F xs) : CallF Tryz.prog M 39 [v] [] h fun u A => ∃ (c : Value) (g : Grid) (m : Int), u = .tuple #[.agg #[.int .i64 g.wide, c], .int .i64 m] ∧ Sl.One c ∧ (∀ h', InB h' A → Sl h' c cellF g.cells) ∧ g.cells.length ≤ 100 := by
  have o1 := s.one
  refine Cs Tryz.func39 Tryz.ntmps39 ?_
  repeat first | refine R1 ?_ | refine R2 fun _ => ?_
  refine fp (y_call (drawKeepNew_f _ v xs s) (by rfl) ?_)
  rintro _ A ⟨gv, g, m, rfl, ⟨c, rfl, oc, hd⟩, hl⟩
  repeat first | refine R1 ?_ | refine R2 fun _ => ?_
  exact sf_ret (rt A (resV_two rfl (yr_cell rfl) (res_tmp rfl)) ⟨c, g, m, rfl, oc, hd, hl⟩)
theorem worldNew_law [al : Alone Tryz.prog M] (h : PHeap) [BAt h 0 errObj] (v : Value) (xs : List (Fin 256)) (s : Sl h v u8F xs) : ∃ c, Tryz.f11.body = some c ∧ c.sf Tryz.prog M Tryz.f11.ntmps (retF Tryz.prog Tryz.f11 Tryz.f11.ntmps (fun v _ => v = .bool true) fun _ _ => False) (argsL 0 [v]) [] h := by
  have o1 := s.one
  have hsm := s.small
  refine ⟨_, rfl, ?_⟩
  rw [Tryz.ntmps11]
  simp only [argsL, Nat.reduceAdd]
  repeat first | refine R1 ?_ | refine R2 fun _ => ?_
  refine sf_if (fun e => ?_) fun e => ?_
  · repeat first | refine R1 ?_ | refine R2 fun _ => ?_
    exact sf_ret (rO [] rfl)
  repeat first | refine R1 ?_ | refine R2 fun _ => ?_
  refine fp (y_call (drawWorldNew_f _ v xs s) (by rfl) ?_)
  rintro _ A ⟨c, g, m, rfl, oc, sc, hl⟩
  repeat first | refine R1o ?_ | refine R2 fun _ => ?_
  refine sf_nil ?_
  show Code.sf _ _ _ _ _ _ _ _
  refine sf_fz A fun h1 le1 i1 => ?_
  have s1 := sc h1 i1
  clear sc
  repeat first | refine R1 ?_ | refine R2 fun _ => ?_
  refine fp (y_call (sWorldNew_f _ _ g m (gridB_mk s1) (by omega)) (by rfl) ?_)
  rintro _ A1 ⟨cs1, rfl, q1⟩
  have q10 := q1
  obtain ⟨c1, e1, p1, t1, ps1, ns1, rfl, w1, w2, w3, w4, w5, w6⟩ := worldC q1
  repeat first | refine R1o ?_ | refine R2 fun _ => ?_
  refine sf_nil ?_
  show Code.sf _ _ _ _ _ _ _ _
  refine sf_fz A1 fun h2 le2 i2 => ?_
  have g10 := (worldR τ).lent q10 i2
  repeat first | refine R1 ?_ | refine R2 fun _ => ?_
  refine fp (y_call (worldNew_f _ _ g m (gridB_mk (s1.le le2.le)) (by omega)) (by rfl) ?_)
  rintro _ A2 ⟨cs2, rfl, q2⟩
  have q20 := q2
  obtain ⟨c2, e2, p2, t2, ps2, ns2, rfl, x1, x2, x3, x4, x5, x6⟩ := worldC q2
  repeat first | refine R1o ?_ | refine R2 fun _ => ?_
  refine sf_nil ?_
  show Code.sf _ _ _ _ _ _ _ _
  refine sf_fz A2 fun h3 le3 i3 => ?_
  have g20 := (worldR τ).lent q20 i3
  have g13 := (worldR τ).up le3 g10
  clear q1 q10 q2 q20 g10
  by_cases hw : (worldNew g m).2 = true
  · obtain ⟨okw, hm, hn, hm1, hm3⟩ := worldNew_ok hw
    have hk : (keepNew g m).2 = true := by
      by_cases hk : (keepNew g m).2 = true
      · exact hk
      · rw [worldNew_F hk] at hw; cases hw
    have hp : ∀ i, i < (worldNew g m).1.painters.length → (gt (worldNew g m).1.painters i).up = true ∧ (gt (worldNew g m).1.painters i).has = false := by
      rw [worldNew_T hk]
      intro i hi
      simp only [List.length_replicate] at hi
      simp only
      rw [gt_eq (by simpa using hi)]
      simp [freshPainter]
    rw [hw]
    generalize (worldNew g m).1 = w at *
    obtain ⟨d1, d2, d3, d4, d5, d6, ec, u1, u2, u3, u4, u5, u6⟩ := worldB g20
    simp only [List.cons.injEq, and_true, true_and] at ec
    obtain ⟨rfl, rfl, rfl, rfl, rfl, rfl⟩ := ec
    obtain ⟨rp, u5, bp⟩ := u5
    obtain ⟨rn, u6, bn⟩ := u6
    have lp := bp.len
    have ln := bn.len
    have hsp := u5.small
    have hsn := u6.small
    rw [hn] at ln
    repeat first | refine R1 ?_ | refine R2 fun _ => ?_
    refine Xv (llWorld_s _ _ _ _ g20 g13) ?_
    repeat first | refine R1 ?_ | refine R2 fun _ => ?_
    refine sf_cond (by rfl) (fun z => by cases z) fun _ => ?_
    repeat first | refine R1 ?_ | refine R2 fun _ => ?_
    refine sf_rd [4, 7] 9 w.painters.length 0 (fun _ => True) (by omega) trivial (fun k hk _ => ?_)
    repeat first | refine R1 ?_ | refine R2 fun _ => ?_
    refine sf_if (fun h4 => ?_) fun h4 => ?_
    · have hk4 : k < w.painters.length := by omega
      have hk5 : k < rp.length := by omega
      obtain ⟨c2, l2, f2, ex, -⟩ := painterB (bp.at hk4)
      rw [(hp k hk4).1, (hp k hk4).2] at ex
      haveI : FlatV (rawF (painterR τ).sz) (gt rp k) [.bool true, .bool false, .int .i64 (gt w.painters k).ver, .int .i64 (gt w.painters k).scene.grid.wide, c2, l2, f2] := ⟨ex⟩
      repeat first | refine R1 ?_ | refine R2 fun _ => ?_
      refine sf_cond (by rfl) (fun z => by cases z) fun _ => ?_
      repeat first | refine R1 ?_ | refine R2 fun _ => ?_
      exact ⟨⟨hk4, trivial⟩, rfl, rfl, _, inferInstance⟩
    · refine sf_exit ?_
      repeat first | refine R1 ?_ | refine R2 fun _ => ?_
      refine Xv (worldOk_v _ _ _ g20) ?_
      rw [(worldOk_iff w).2 okw]
      repeat first | refine R1 ?_ | refine R2 fun _ => ?_
      rw [decide_eq_true (show (rn.length : Int) = 0 by rw [ln]; rfl)]
      repeat first | refine R1 ?_ | refine R2 fun _ => ?_
      rw [decide_eq_true (show (rp.length : Int) = m by omega)]
      repeat first | refine R1 ?_ | refine R2 fun _ => ?_
      exact sf_ret (rO [] rfl)
  · have hf : (worldNew g m).2 = false := by simpa using hw
    rw [hf]
    repeat first | refine R1 ?_ | refine R2 fun _ => ?_
    refine Xv (llWorld_s _ _ _ _ g20 g13) ?_
    repeat first | refine R1 ?_ | refine R2 fun _ => ?_
    refine sf_cond (by rfl) (fun _ => ?_) fun z => by cases z
    repeat first | refine R1 ?_ | refine R2 fun _ => ?_
    refine Xv (llWorld_s _ _ _ _ g20 g13) ?_
    repeat first | refine R1 ?_ | refine R2 fun _ => ?_
    exact sf_ret (rO [] rfl)
end Go.Proofs.YtcpkcmgjfcbnpaaGreatDoor

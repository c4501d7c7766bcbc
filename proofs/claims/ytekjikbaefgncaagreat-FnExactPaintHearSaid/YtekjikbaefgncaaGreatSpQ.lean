/- Sights touched, edits of one: small facts of plain data. No program. -/
import Derived.Test.YtekjikbaefgncaaGreatLibE
set_option linter.unusedVariables false
set_option linter.unusedSimpArgs false
set_option linter.unusedSectionVars false

namespace Go.Sl
theorem natsI_snoc (ks : List Nat) (k : Nat) : natsI (ks ++ [k]) = natsI ks ++ [(k : Int)] := by simp [natsI]
theorem natsI_len (ks : List Nat) : (natsI ks).length = ks.length := by simp [natsI]
theorem natsI_at {ks : List Nat} {j : Nat} (h : j < ks.length) : gt (natsI ks) j = ((gt ks j : Nat) : Int) := by
  rw [gt_eq (by rw [natsI_len]; exact h), gt_eq h]; simp [natsI]
theorem manyOf_put (g : Grid) (e : Edit) : manyOf (putCell g e) = manyOf g := by simp [manyOf, rowsOf, putCell]
theorem mem_touched {feet : List (List Int)} {a : Int} {k : Nat} (h : k < feet.length) : k ∈ touched feet a ↔ a ∈ gt feet k := by simp [touched, touchTo, h]
theorem editsOk_one (g : Grid) (e : Edit) : editsOk g [e] = editOk g e := by simp [editsOk]
theorem feetOf_asc {g : Grid} {k : Nat} (h : k < (feetOf g).length) : Asc (gt (feetOf g) k) := by
  rw [gt_eq h]
  simp only [feetOf, List.getElem_map]
  unfold footOf
  exact footIs_asc _ _
theorem feetOf_nodup {g : Grid} {k : Nat} (h : k < (feetOf g).length) : (gt (feetOf g) k).Nodup := (feetOf_asc h).imp fun h => by omega
end Go.Sl

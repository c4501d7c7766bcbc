/-
  No cell of these rows narrows 'for every input' (looked for: loops, veiled, ifaces, maps, wideKeys, modest, calm, conditions, laid).
  DERIVED. THE GIVEN ROWS OF THIS SEAT. 6 by the template 'for every input the law returns true; each argument reads behind the call as it read before'; 0 by the template 'total and deterministic' (their statements: YtcpkcmgjfcbnpaaGreatTotals.lean).
  GIVEN WITH THE SEED: the statements are not yours to turn. If you find one false, say at which input.
  Laid BY PROGRAM, IN A SANDBOX (cutbox-rows.mjs): the forced cells as the released guide's own fill.sh prints them over the translation dfe48060f04c1be8… (all of the seat's roots in one cut). By AI agents, Wed Nov 11 2026. No macro, syntax, notation, axiom, sorry.
-/
import Derived.Test.YtcpkcmgjfcbnpaaGreatChecked
import GoSem.Claim
import GoSem.ClaimJoined
import GoSem.ClaimMapViews
import Derived.JoinedTies
import Derived.KernelRfl
namespace Go.Proofs.YtcpkcmgjfcbnpaaGreat
/- THE CELL 'sum', in the pinned program and in every row, IS THE sha256 OF THE DUMP (.gsa) THAT YtcpkcmgjfcbnpaaGreatProg.lean LOADS. Nothing in Lean hashes anything: it is a label: what it is worth is what the hold of that sum in a sandbox is worth. -/
noncomputable def Tryz.pinned : Pinned := { name := "ytcpkcmgjfcbnpaagreat", sum := "dfe48060f04c1be8dc7fc8d1f9fac1bc43b073a784642abf491da6ec16103130", checked := Tryz.checked }
namespace Rows
def none {H : Type} : Left H := { results := [], args := [] }

/-- 'laws.FnPaintParts': WHATEVER THE INPUT: true; the input reads as it did. -/
def fnPaintPartsSpec : ChangeSpec := { name := "fnPaintParts", fn := fun _ => fun
  | [d] => { results := [.lit (.bool true)], args := [d] }
  | _ => none }
def fnPaintPartsRow : OpenClaim := { program := "ytcpkcmgjfcbnpaagreat", sum := "dfe48060f04c1be8dc7fc8d1f9fac1bc43b073a784642abf491da6ec16103130", func := "loop.example/lucarne/laws.FnPaintParts", spec := "fnPaintParts", inPlace := ["(*sync.WaitGroup).Add", "internal/race.ReleaseMerge", "internal/race.Disable", "internal/race.Enable", "internal/synctest.IsInBubble", "internal/synctest.Associate[sync.WaitGroup]", "sync.fatal", "sync/atomic.OrUint64", "sync/atomic.AddUint64", "internal/race.Read", "sync/atomic.LoadUint64", "sync/atomic.StoreUint64", "internal/synctest.Disassociate[sync.WaitGroup]", "sync.runtime_Semrelease", "(*sync.WaitGroup).Done", "(*sync.WaitGroup).Wait", "internal/race.Acquire", "internal/synctest.IsAssociated[sync.WaitGroup]", "sync/atomic.CompareAndSwapUint64", "internal/race.Write", "sync.runtime_SemacquireWaitGroup"], unfollowed := true, recurses := true, leaving := true, apart := false }
def FnPaintPartsSaid : Prop := fnPaintPartsRow.holds Tryz.pinned (OpenSpec.ofChange fnPaintPartsSpec)

/-- ITS FALSE NEIGHBOUR: 'it returns false'. Refute it at one input. -/
def fnPaintPartsWrong : ChangeSpec := { name := "fnPaintParts", fn := fun _ => fun
  | [d] => { results := [.lit (.bool false)], args := [d] }
  | _ => none }
def FnPaintPartsWrongFalsely : Prop := fnPaintPartsRow.holds Tryz.pinned (OpenSpec.ofChange fnPaintPartsWrong)

/-- 'laws.FnPaintTell': WHATEVER THE INPUT: true; the input reads as it did. -/
def fnPaintTellSpec : ChangeSpec := { name := "fnPaintTell", fn := fun _ => fun
  | [d] => { results := [.lit (.bool true)], args := [d] }
  | _ => none }
def fnPaintTellRow : OpenClaim := { program := "ytcpkcmgjfcbnpaagreat", sum := "dfe48060f04c1be8dc7fc8d1f9fac1bc43b073a784642abf491da6ec16103130", func := "loop.example/lucarne/laws.FnPaintTell", spec := "fnPaintTell", inPlace := ["(*sync.WaitGroup).Add", "internal/race.ReleaseMerge", "internal/race.Disable", "internal/race.Enable", "internal/synctest.IsInBubble", "internal/synctest.Associate[sync.WaitGroup]", "sync.fatal", "sync/atomic.OrUint64", "sync/atomic.AddUint64", "internal/race.Read", "sync/atomic.LoadUint64", "sync/atomic.StoreUint64", "internal/synctest.Disassociate[sync.WaitGroup]", "sync.runtime_Semrelease", "(*sync.WaitGroup).Done", "(*sync.WaitGroup).Wait", "internal/race.Acquire", "internal/synctest.IsAssociated[sync.WaitGroup]", "sync/atomic.CompareAndSwapUint64", "internal/race.Write", "sync.runtime_SemacquireWaitGroup"], unfollowed := true, recurses := true, leaving := true, apart := false }
def FnPaintTellSaid : Prop := fnPaintTellRow.holds Tryz.pinned (OpenSpec.ofChange fnPaintTellSpec)

/-- ITS FALSE NEIGHBOUR: 'it returns false'. Refute it at one input. -/
def fnPaintTellWrong : ChangeSpec := { name := "fnPaintTell", fn := fun _ => fun
  | [d] => { results := [.lit (.bool false)], args := [d] }
  | _ => none }
def FnPaintTellWrongFalsely : Prop := fnPaintTellRow.holds Tryz.pinned (OpenSpec.ofChange fnPaintTellWrong)

/-- 'laws.FnPaintHear': WHATEVER THE INPUT: true; the input reads as it did. -/
def fnPaintHearSpec : ChangeSpec := { name := "fnPaintHear", fn := fun _ => fun
  | [d] => { results := [.lit (.bool true)], args := [d] }
  | _ => none }
def fnPaintHearRow : OpenClaim := { program := "ytcpkcmgjfcbnpaagreat", sum := "dfe48060f04c1be8dc7fc8d1f9fac1bc43b073a784642abf491da6ec16103130", func := "loop.example/lucarne/laws.FnPaintHear", spec := "fnPaintHear", inPlace := ["(*sync.WaitGroup).Add", "internal/race.ReleaseMerge", "internal/race.Disable", "internal/race.Enable", "internal/synctest.IsInBubble", "internal/synctest.Associate[sync.WaitGroup]", "sync.fatal", "sync/atomic.OrUint64", "sync/atomic.AddUint64", "internal/race.Read", "sync/atomic.LoadUint64", "sync/atomic.StoreUint64", "internal/synctest.Disassociate[sync.WaitGroup]", "sync.runtime_Semrelease", "(*sync.WaitGroup).Done", "(*sync.WaitGroup).Wait", "internal/race.Acquire", "internal/synctest.IsAssociated[sync.WaitGroup]", "sync/atomic.CompareAndSwapUint64", "internal/race.Write", "sync.runtime_SemacquireWaitGroup"], unfollowed := true, recurses := true, leaving := true, apart := false }
def FnPaintHearSaid : Prop := fnPaintHearRow.holds Tryz.pinned (OpenSpec.ofChange fnPaintHearSpec)

/-- ITS FALSE NEIGHBOUR: 'it returns false'. Refute it at one input. -/
def fnPaintHearWrong : ChangeSpec := { name := "fnPaintHear", fn := fun _ => fun
  | [d] => { results := [.lit (.bool false)], args := [d] }
  | _ => none }
def FnPaintHearWrongFalsely : Prop := fnPaintHearRow.holds Tryz.pinned (OpenSpec.ofChange fnPaintHearWrong)

/-- 'laws.FnPaintOld': WHATEVER THE INPUT: true; the input reads as it did. -/
def fnPaintOldSpec : ChangeSpec := { name := "fnPaintOld", fn := fun _ => fun
  | [d] => { results := [.lit (.bool true)], args := [d] }
  | _ => none }
def fnPaintOldRow : OpenClaim := { program := "ytcpkcmgjfcbnpaagreat", sum := "dfe48060f04c1be8dc7fc8d1f9fac1bc43b073a784642abf491da6ec16103130", func := "loop.example/lucarne/laws.FnPaintOld", spec := "fnPaintOld", inPlace := ["(*sync.WaitGroup).Add", "internal/race.ReleaseMerge", "internal/race.Disable", "internal/race.Enable", "internal/synctest.IsInBubble", "internal/synctest.Associate[sync.WaitGroup]", "sync.fatal", "sync/atomic.OrUint64", "sync/atomic.AddUint64", "internal/race.Read", "sync/atomic.LoadUint64", "sync/atomic.StoreUint64", "internal/synctest.Disassociate[sync.WaitGroup]", "sync.runtime_Semrelease", "(*sync.WaitGroup).Done", "(*sync.WaitGroup).Wait", "internal/race.Acquire", "internal/synctest.IsAssociated[sync.WaitGroup]", "sync/atomic.CompareAndSwapUint64", "internal/race.Write", "sync.runtime_SemacquireWaitGroup"], unfollowed := true, recurses := true, leaving := true, apart := false }
def FnPaintOldSaid : Prop := fnPaintOldRow.holds Tryz.pinned (OpenSpec.ofChange fnPaintOldSpec)

/-- ITS FALSE NEIGHBOUR: 'it returns false'. Refute it at one input. -/
def fnPaintOldWrong : ChangeSpec := { name := "fnPaintOld", fn := fun _ => fun
  | [d] => { results := [.lit (.bool false)], args := [d] }
  | _ => none }
def FnPaintOldWrongFalsely : Prop := fnPaintOldRow.holds Tryz.pinned (OpenSpec.ofChange fnPaintOldWrong)

/-- 'laws.FnPaintPath': WHATEVER THE INPUT: true; the input reads as it did. -/
def fnPaintPathSpec : ChangeSpec := { name := "fnPaintPath", fn := fun _ => fun
  | [d] => { results := [.lit (.bool true)], args := [d] }
  | _ => none }
def fnPaintPathRow : OpenClaim := { program := "ytcpkcmgjfcbnpaagreat", sum := "dfe48060f04c1be8dc7fc8d1f9fac1bc43b073a784642abf491da6ec16103130", func := "loop.example/lucarne/laws.FnPaintPath", spec := "fnPaintPath", inPlace := ["(*sync.WaitGroup).Add", "internal/race.ReleaseMerge", "internal/race.Disable", "internal/race.Enable", "internal/synctest.IsInBubble", "internal/synctest.Associate[sync.WaitGroup]", "sync.fatal", "sync/atomic.OrUint64", "sync/atomic.AddUint64", "internal/race.Read", "sync/atomic.LoadUint64", "sync/atomic.StoreUint64", "internal/synctest.Disassociate[sync.WaitGroup]", "sync.runtime_Semrelease", "(*sync.WaitGroup).Done", "(*sync.WaitGroup).Wait", "internal/race.Acquire", "internal/synctest.IsAssociated[sync.WaitGroup]", "sync/atomic.CompareAndSwapUint64", "internal/race.Write", "sync.runtime_SemacquireWaitGroup"], unfollowed := true, recurses := true, leaving := true, apart := false }
def FnPaintPathSaid : Prop := fnPaintPathRow.holds Tryz.pinned (OpenSpec.ofChange fnPaintPathSpec)

/-- ITS FALSE NEIGHBOUR: 'it returns false'. Refute it at one input. -/
def fnPaintPathWrong : ChangeSpec := { name := "fnPaintPath", fn := fun _ => fun
  | [d] => { results := [.lit (.bool false)], args := [d] }
  | _ => none }
def FnPaintPathWrongFalsely : Prop := fnPaintPathRow.holds Tryz.pinned (OpenSpec.ofChange fnPaintPathWrong)

/-- 'laws.FnPaintTwice': WHATEVER THE INPUT: true; the input reads as it did. -/
def fnPaintTwiceSpec : ChangeSpec := { name := "fnPaintTwice", fn := fun _ => fun
  | [d] => { results := [.lit (.bool true)], args := [d] }
  | _ => none }
def fnPaintTwiceRow : OpenClaim := { program := "ytcpkcmgjfcbnpaagreat", sum := "dfe48060f04c1be8dc7fc8d1f9fac1bc43b073a784642abf491da6ec16103130", func := "loop.example/lucarne/laws.FnPaintTwice", spec := "fnPaintTwice", inPlace := ["(*sync.WaitGroup).Add", "internal/race.ReleaseMerge", "internal/race.Disable", "internal/race.Enable", "internal/synctest.IsInBubble", "internal/synctest.Associate[sync.WaitGroup]", "sync.fatal", "sync/atomic.OrUint64", "sync/atomic.AddUint64", "internal/race.Read", "sync/atomic.LoadUint64", "sync/atomic.StoreUint64", "internal/synctest.Disassociate[sync.WaitGroup]", "sync.runtime_Semrelease", "(*sync.WaitGroup).Done", "(*sync.WaitGroup).Wait", "internal/race.Acquire", "internal/synctest.IsAssociated[sync.WaitGroup]", "sync/atomic.CompareAndSwapUint64", "internal/race.Write", "sync.runtime_SemacquireWaitGroup"], unfollowed := true, recurses := true, leaving := true, apart := false }
def FnPaintTwiceSaid : Prop := fnPaintTwiceRow.holds Tryz.pinned (OpenSpec.ofChange fnPaintTwiceSpec)

/-- ITS FALSE NEIGHBOUR: 'it returns false'. Refute it at one input. -/
def fnPaintTwiceWrong : ChangeSpec := { name := "fnPaintTwice", fn := fun _ => fun
  | [d] => { results := [.lit (.bool false)], args := [d] }
  | _ => none }
def FnPaintTwiceWrongFalsely : Prop := fnPaintTwiceRow.holds Tryz.pinned (OpenSpec.ofChange fnPaintTwiceWrong)

/- THE SECOND FORM. 'bulk': how many values and letters a reading holds, each counted each time it is reached (what is shared counts as often as it is met; a slice's spare places count too). A statement '..UptoSaid' is the law's where the arguments, and the package variables that the reading takes, are together of bulk at most 1048576: NARROWER than '..Said'. Prove '..Said' where nothing that the law and all that it calls make is longer than what came in: it says more and counts as full. Else prove '..UptoSaid'. A law counts once. -/
mutual
def uptoBulk {H : Type} : DataW H → Nat
  | .lit (.string bytes) => bytes.length + 1
  | .lit _ => 1
  | .nil => 1
  | .ptr d => uptoBulk d + 1
  | .slice elems spare => uptoBulkAll elems + uptoBulkAll spare + 1
  | .agg parts => uptoBulkAll parts + 1
  | .iface _ d => uptoBulk d + 1
  | .map entries => uptoBulkEntries entries + 1
  | .held _ => 1
def uptoBulkAll {H : Type} : List (DataW H) → Nat
  | [] => 0
  | d :: r => uptoBulk d + uptoBulkAll r
def uptoBulkEntries {H : Type} : List (Lit × DataW H) → Nat
  | [] => 0
  | x :: r => uptoBulkEntry x + uptoBulkEntries r
def uptoBulkEntry {H : Type} : Lit × DataW H → Nat
  | (.string bytes, d) => bytes.length + uptoBulk d + 1
  | (_, d) => uptoBulk d + 1
 end
def uptoSmall : (H : Type) → List (DataW H) → Bool := fun _ ds => decide (uptoBulkAll ds ≤ 1048576)
def OpenSpec.upto (s : _root_.Go.ChangeSpec) : _root_.Go.OpenSpec := { _root_.Go.OpenSpec.ofChange s with cond := some uptoSmall }

/-- 'laws.FnPaintParts', WHERE WHAT IT READS IS OF BULK AT MOST 1048576: true; the input reads as it did. -/
def fnPaintPartsUptoRow : OpenClaim := { program := "ytcpkcmgjfcbnpaagreat", sum := "dfe48060f04c1be8dc7fc8d1f9fac1bc43b073a784642abf491da6ec16103130", func := "loop.example/lucarne/laws.FnPaintParts", spec := "fnPaintParts", inPlace := ["(*sync.WaitGroup).Add", "internal/race.ReleaseMerge", "internal/race.Disable", "internal/race.Enable", "internal/synctest.IsInBubble", "internal/synctest.Associate[sync.WaitGroup]", "sync.fatal", "sync/atomic.OrUint64", "sync/atomic.AddUint64", "internal/race.Read", "sync/atomic.LoadUint64", "sync/atomic.StoreUint64", "internal/synctest.Disassociate[sync.WaitGroup]", "sync.runtime_Semrelease", "(*sync.WaitGroup).Done", "(*sync.WaitGroup).Wait", "internal/race.Acquire", "internal/synctest.IsAssociated[sync.WaitGroup]", "sync/atomic.CompareAndSwapUint64", "internal/race.Write", "sync.runtime_SemacquireWaitGroup"], unfollowed := true, recurses := true, leaving := true, apart := false, narrowed := true }
def FnPaintPartsUptoSaid : Prop := fnPaintPartsUptoRow.holds Tryz.pinned (OpenSpec.upto fnPaintPartsSpec)

/-- 'laws.FnPaintTell', WHERE WHAT IT READS IS OF BULK AT MOST 1048576: true; the input reads as it did. -/
def fnPaintTellUptoRow : OpenClaim := { program := "ytcpkcmgjfcbnpaagreat", sum := "dfe48060f04c1be8dc7fc8d1f9fac1bc43b073a784642abf491da6ec16103130", func := "loop.example/lucarne/laws.FnPaintTell", spec := "fnPaintTell", inPlace := ["(*sync.WaitGroup).Add", "internal/race.ReleaseMerge", "internal/race.Disable", "internal/race.Enable", "internal/synctest.IsInBubble", "internal/synctest.Associate[sync.WaitGroup]", "sync.fatal", "sync/atomic.OrUint64", "sync/atomic.AddUint64", "internal/race.Read", "sync/atomic.LoadUint64", "sync/atomic.StoreUint64", "internal/synctest.Disassociate[sync.WaitGroup]", "sync.runtime_Semrelease", "(*sync.WaitGroup).Done", "(*sync.WaitGroup).Wait", "internal/race.Acquire", "internal/synctest.IsAssociated[sync.WaitGroup]", "sync/atomic.CompareAndSwapUint64", "internal/race.Write", "sync.runtime_SemacquireWaitGroup"], unfollowed := true, recurses := true, leaving := true, apart := false, narrowed := true }
def FnPaintTellUptoSaid : Prop := fnPaintTellUptoRow.holds Tryz.pinned (OpenSpec.upto fnPaintTellSpec)

/-- 'laws.FnPaintHear', WHERE WHAT IT READS IS OF BULK AT MOST 1048576: true; the input reads as it did. -/
def fnPaintHearUptoRow : OpenClaim := { program := "ytcpkcmgjfcbnpaagreat", sum := "dfe48060f04c1be8dc7fc8d1f9fac1bc43b073a784642abf491da6ec16103130", func := "loop.example/lucarne/laws.FnPaintHear", spec := "fnPaintHear", inPlace := ["(*sync.WaitGroup).Add", "internal/race.ReleaseMerge", "internal/race.Disable", "internal/race.Enable", "internal/synctest.IsInBubble", "internal/synctest.Associate[sync.WaitGroup]", "sync.fatal", "sync/atomic.OrUint64", "sync/atomic.AddUint64", "internal/race.Read", "sync/atomic.LoadUint64", "sync/atomic.StoreUint64", "internal/synctest.Disassociate[sync.WaitGroup]", "sync.runtime_Semrelease", "(*sync.WaitGroup).Done", "(*sync.WaitGroup).Wait", "internal/race.Acquire", "internal/synctest.IsAssociated[sync.WaitGroup]", "sync/atomic.CompareAndSwapUint64", "internal/race.Write", "sync.runtime_SemacquireWaitGroup"], unfollowed := true, recurses := true, leaving := true, apart := false, narrowed := true }
def FnPaintHearUptoSaid : Prop := fnPaintHearUptoRow.holds Tryz.pinned (OpenSpec.upto fnPaintHearSpec)

/-- 'laws.FnPaintOld', WHERE WHAT IT READS IS OF BULK AT MOST 1048576: true; the input reads as it did. -/
def fnPaintOldUptoRow : OpenClaim := { program := "ytcpkcmgjfcbnpaagreat", sum := "dfe48060f04c1be8dc7fc8d1f9fac1bc43b073a784642abf491da6ec16103130", func := "loop.example/lucarne/laws.FnPaintOld", spec := "fnPaintOld", inPlace := ["(*sync.WaitGroup).Add", "internal/race.ReleaseMerge", "internal/race.Disable", "internal/race.Enable", "internal/synctest.IsInBubble", "internal/synctest.Associate[sync.WaitGroup]", "sync.fatal", "sync/atomic.OrUint64", "sync/atomic.AddUint64", "internal/race.Read", "sync/atomic.LoadUint64", "sync/atomic.StoreUint64", "internal/synctest.Disassociate[sync.WaitGroup]", "sync.runtime_Semrelease", "(*sync.WaitGroup).Done", "(*sync.WaitGroup).Wait", "internal/race.Acquire", "internal/synctest.IsAssociated[sync.WaitGroup]", "sync/atomic.CompareAndSwapUint64", "internal/race.Write", "sync.runtime_SemacquireWaitGroup"], unfollowed := true, recurses := true, leaving := true, apart := false, narrowed := true }
def FnPaintOldUptoSaid : Prop := fnPaintOldUptoRow.holds Tryz.pinned (OpenSpec.upto fnPaintOldSpec)

/-- 'laws.FnPaintPath', WHERE WHAT IT READS IS OF BULK AT MOST 1048576: true; the input reads as it did. -/
def fnPaintPathUptoRow : OpenClaim := { program := "ytcpkcmgjfcbnpaagreat", sum := "dfe48060f04c1be8dc7fc8d1f9fac1bc43b073a784642abf491da6ec16103130", func := "loop.example/lucarne/laws.FnPaintPath", spec := "fnPaintPath", inPlace := ["(*sync.WaitGroup).Add", "internal/race.ReleaseMerge", "internal/race.Disable", "internal/race.Enable", "internal/synctest.IsInBubble", "internal/synctest.Associate[sync.WaitGroup]", "sync.fatal", "sync/atomic.OrUint64", "sync/atomic.AddUint64", "internal/race.Read", "sync/atomic.LoadUint64", "sync/atomic.StoreUint64", "internal/synctest.Disassociate[sync.WaitGroup]", "sync.runtime_Semrelease", "(*sync.WaitGroup).Done", "(*sync.WaitGroup).Wait", "internal/race.Acquire", "internal/synctest.IsAssociated[sync.WaitGroup]", "sync/atomic.CompareAndSwapUint64", "internal/race.Write", "sync.runtime_SemacquireWaitGroup"], unfollowed := true, recurses := true, leaving := true, apart := false, narrowed := true }
def FnPaintPathUptoSaid : Prop := fnPaintPathUptoRow.holds Tryz.pinned (OpenSpec.upto fnPaintPathSpec)

/-- 'laws.FnPaintTwice', WHERE WHAT IT READS IS OF BULK AT MOST 1048576: true; the input reads as it did. -/
def fnPaintTwiceUptoRow : OpenClaim := { program := "ytcpkcmgjfcbnpaagreat", sum := "dfe48060f04c1be8dc7fc8d1f9fac1bc43b073a784642abf491da6ec16103130", func := "loop.example/lucarne/laws.FnPaintTwice", spec := "fnPaintTwice", inPlace := ["(*sync.WaitGroup).Add", "internal/race.ReleaseMerge", "internal/race.Disable", "internal/race.Enable", "internal/synctest.IsInBubble", "internal/synctest.Associate[sync.WaitGroup]", "sync.fatal", "sync/atomic.OrUint64", "sync/atomic.AddUint64", "internal/race.Read", "sync/atomic.LoadUint64", "sync/atomic.StoreUint64", "internal/synctest.Disassociate[sync.WaitGroup]", "sync.runtime_Semrelease", "(*sync.WaitGroup).Done", "(*sync.WaitGroup).Wait", "internal/race.Acquire", "internal/synctest.IsAssociated[sync.WaitGroup]", "sync/atomic.CompareAndSwapUint64", "internal/race.Write", "sync.runtime_SemacquireWaitGroup"], unfollowed := true, recurses := true, leaving := true, apart := false, narrowed := true }
def FnPaintTwiceUptoSaid : Prop := fnPaintTwiceUptoRow.holds Tryz.pinned (OpenSpec.upto fnPaintTwiceSpec)

end Rows
end Go.Proofs.YtcpkcmgjfcbnpaaGreat

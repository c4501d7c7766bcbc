/- Walks of the seat: T GA QA QB QC QD QE QF QG K1 K2 LA. -/
import Derived.Test.YtekjikbaefgncaaGreatSmE
import Derived.Test.YtekjikbaefgncaaGreatProg
import Derived.KernelRfl
import Derived.Test.YtekjikbaefgncaaGreatSmH
import Derived.Test.YtekjikbaefgncaaGreatLibF
import Derived.Test.YtekjikbaefgncaaGreatLibE
import Derived.Test.YtekjikbaefgncaaGreatSmZ
set_option linter.unusedVariables false
set_option linter.unusedSimpArgs false
set_option linter.unusedSectionVars false
/- The types of this translation, as the rules on operations ask for them. Printed by program. -/
namespace Go.Proofs.YtekjikbaefgncaaGreat
open Go Go.Sl
noncomputable def fs7 : Array Field := match Tryz.prog.underlying 7 with | some (.struct fs) => fs | _ => #[]
noncomputable def fs13 : Array Field := match Tryz.prog.underlying 13 with | some (.struct fs) => fs | _ => #[]
noncomputable def fs18 : Array Field := match Tryz.prog.underlying 18 with | some (.struct fs) => fs | _ => #[]
noncomputable def im20 : Array (String × TypeId) := match Tryz.prog.underlying 20 with | some (.interface ms) => ms | _ => #[]
noncomputable def fs23 : Array Field := match Tryz.prog.underlying 23 with | some (.struct fs) => fs | _ => #[]
noncomputable def fs27 : Array Field := match Tryz.prog.underlying 27 with | some (.struct fs) => fs | _ => #[]
noncomputable def fs29 : Array Field := match Tryz.prog.underlying 29 with | some (.struct fs) => fs | _ => #[]
noncomputable def fs34 : Array Field := match Tryz.prog.underlying 34 with | some (.struct fs) => fs | _ => #[]
noncomputable def fs36 : Array Field := match Tryz.prog.underlying 36 with | some (.struct fs) => fs | _ => #[]
noncomputable def fs38 : Array Field := match Tryz.prog.underlying 38 with | some (.struct fs) => fs | _ => #[]
noncomputable def fs43 : Array Field := match Tryz.prog.underlying 43 with | some (.struct fs) => fs | _ => #[]
noncomputable def fs45 : Array Field := match Tryz.prog.underlying 45 with | some (.struct fs) => fs | _ => #[]
noncomputable def fs47 : Array Field := match Tryz.prog.underlying 47 with | some (.struct fs) => fs | _ => #[]
noncomputable def fs56 : Array Field := match Tryz.prog.underlying 56 with | some (.struct fs) => fs | _ => #[]
noncomputable def fs58 : Array Field := match Tryz.prog.underlying 58 with | some (.struct fs) => fs | _ => #[]
noncomputable def fs101 : Array Field := match Tryz.prog.underlying 101 with | some (.struct fs) => fs | _ => #[]
noncomputable def fs121 : Array Field := match Tryz.prog.underlying 121 with | some (.struct fs) => fs | _ => #[]
noncomputable def im124 : Array (String × TypeId) := match Tryz.prog.underlying 124 with | some (.interface ms) => ms | _ => #[]
noncomputable def fs131 : Array Field := match Tryz.prog.underlying 131 with | some (.struct fs) => fs | _ => #[]
noncomputable def fs134 : Array Field := match Tryz.prog.underlying 134 with | some (.struct fs) => fs | _ => #[]
noncomputable def fs139 : Array Field := match Tryz.prog.underlying 139 with | some (.struct fs) => fs | _ => #[]
noncomputable def fs143 : Array Field := match Tryz.prog.underlying 143 with | some (.struct fs) => fs | _ => #[]
noncomputable def fs145 : Array Field := match Tryz.prog.underlying 145 with | some (.struct fs) => fs | _ => #[]
noncomputable def fs147 : Array Field := match Tryz.prog.underlying 147 with | some (.struct fs) => fs | _ => #[]
noncomputable def fs163 : Array Field := match Tryz.prog.underlying 163 with | some (.struct fs) => fs | _ => #[]
noncomputable def fs166 : Array Field := match Tryz.prog.underlying 166 with | some (.struct fs) => fs | _ => #[]
noncomputable def fs169 : Array Field := match Tryz.prog.underlying 169 with | some (.struct fs) => fs | _ => #[]
noncomputable def fs174 : Array Field := match Tryz.prog.underlying 174 with | some (.struct fs) => fs | _ => #[]
noncomputable def fs177 : Array Field := match Tryz.prog.underlying 177 with | some (.struct fs) => fs | _ => #[]
noncomputable def fs232 : Array Field := match Tryz.prog.underlying 232 with | some (.struct fs) => fs | _ => #[]
noncomputable def fs246 : Array Field := match Tryz.prog.underlying 246 with | some (.struct fs) => fs | _ => #[]
noncomputable def fs249 : Array Field := match Tryz.prog.underlying 249 with | some (.struct fs) => fs | _ => #[]
noncomputable def fs258 : Array Field := match Tryz.prog.underlying 258 with | some (.struct fs) => fs | _ => #[]
instance : Ty Tryz.prog 1 (.func #[] #[] false) 1 8 (.nilFunc) := ⟨by kernel_rfl, by kernel_rfl⟩
instance : Ty Tryz.prog 2 (.int .i64) 1 8 (.int .i64 0) := ⟨by kernel_rfl, by kernel_rfl⟩
instance : Ty Tryz.prog 3 (.int .i64) 1 8 (.int .i64 0) := ⟨by kernel_rfl, by kernel_rfl⟩
instance : Ty Tryz.prog 4 .bool 1 1 (.bool false) := ⟨by kernel_rfl, by kernel_rfl⟩
instance : Ty Tryz.prog 5 (.int .u8) 1 1 (.int .u8 0) := ⟨by kernel_rfl, by kernel_rfl⟩
instance : Ty Tryz.prog 6 (.int .u8) 1 1 (.int .u8 0) := ⟨by kernel_rfl, by kernel_rfl⟩
instance : Ty Tryz.prog 7 (.struct fs7) 4 24 (.agg #[(.int .i64 0), (.int .i64 0), (.bool false), (.int .u8 0)]) := ⟨by kernel_rfl, by kernel_rfl⟩
instance : Flds Tryz.prog 7 [⟨2, false, 0, 1⟩, ⟨3, false, 1, 1⟩, ⟨4, false, 2, 1⟩, ⟨6, false, 3, 1⟩] := ⟨by kernel_rfl⟩
instance : Ty Tryz.prog 8 (.struct fs7) 4 24 (.agg #[(.int .i64 0), (.int .i64 0), (.bool false), (.int .u8 0)]) := ⟨by kernel_rfl, by kernel_rfl⟩
instance : Flds Tryz.prog 8 [⟨2, false, 0, 1⟩, ⟨3, false, 1, 1⟩, ⟨4, false, 2, 1⟩, ⟨6, false, 3, 1⟩] := ⟨by kernel_rfl⟩
instance : Ty Tryz.prog 9 .string 1 16 (.string ⟨#[]⟩) := ⟨by kernel_rfl, by kernel_rfl⟩
instance : Ty Tryz.prog 10 .string 1 16 (.string ⟨#[]⟩) := ⟨by kernel_rfl, by kernel_rfl⟩
instance : Ty Tryz.prog 11 .string 1 16 (.string ⟨#[]⟩) := ⟨by kernel_rfl, by kernel_rfl⟩
instance : Ty Tryz.prog 12 (.int .u64) 1 8 (.int .u64 0) := ⟨by kernel_rfl, by kernel_rfl⟩
instance : Ty Tryz.prog 13 (.struct fs13) 2 24 (.agg #[(.string ⟨#[]⟩), (.int .u64 0)]) := ⟨by kernel_rfl, by kernel_rfl⟩
instance : Flds Tryz.prog 13 [⟨9, false, 0, 1⟩, ⟨12, false, 1, 1⟩] := ⟨by kernel_rfl⟩
instance : Ty Tryz.prog 14 (.struct fs13) 2 24 (.agg #[(.string ⟨#[]⟩), (.int .u64 0)]) := ⟨by kernel_rfl, by kernel_rfl⟩
instance : Flds Tryz.prog 14 [⟨9, false, 0, 1⟩, ⟨12, false, 1, 1⟩] := ⟨by kernel_rfl⟩
instance : Ty Tryz.prog 15 (.pointer 247) 1 8 (.pointer none) := ⟨by kernel_rfl, by kernel_rfl⟩
instance : Ty Tryz.prog 16 (.pointer 250) 1 8 (.pointer none) := ⟨by kernel_rfl, by kernel_rfl⟩
instance : Ty Tryz.prog 17 (.pointer 259) 1 8 (.pointer none) := ⟨by kernel_rfl, by kernel_rfl⟩
instance : Ty Tryz.prog 18 (.struct fs18) 1 8 (.agg #[(.pointer none)]) := ⟨by kernel_rfl, by kernel_rfl⟩
instance : Flds Tryz.prog 18 [⟨17, false, 0, 1⟩] := ⟨by kernel_rfl⟩
instance : Ty Tryz.prog 19 (.struct fs18) 1 8 (.agg #[(.pointer none)]) := ⟨by kernel_rfl, by kernel_rfl⟩
instance : Flds Tryz.prog 19 [⟨17, false, 0, 1⟩] := ⟨by kernel_rfl⟩
instance : Ty Tryz.prog 20 (.interface im20) 1 16 (.nilIface) := ⟨by kernel_rfl, by kernel_rfl⟩
instance : Ty Tryz.prog 21 (.int .i32) 1 4 (.int .i32 0) := ⟨by kernel_rfl, by kernel_rfl⟩
instance : Ty Tryz.prog 22 (.slice 55) 1 24 (.slice none 0 0) := ⟨by kernel_rfl, by kernel_rfl⟩
instance : Ty Tryz.prog 23 (.struct fs23) 2 32 (.agg #[(.int .i64 0), (.slice none 0 0)]) := ⟨by kernel_rfl, by kernel_rfl⟩
instance : Flds Tryz.prog 23 [⟨3, false, 0, 1⟩, ⟨22, false, 1, 1⟩] := ⟨by kernel_rfl⟩
instance : Ty Tryz.prog 24 (.struct fs23) 2 32 (.agg #[(.int .i64 0), (.slice none 0 0)]) := ⟨by kernel_rfl, by kernel_rfl⟩
instance : Flds Tryz.prog 24 [⟨3, false, 0, 1⟩, ⟨22, false, 1, 1⟩] := ⟨by kernel_rfl⟩
instance : Ty Tryz.prog 25 (.slice 3) 1 24 (.slice none 0 0) := ⟨by kernel_rfl, by kernel_rfl⟩
instance : Ty Tryz.prog 26 (.slice 25) 1 24 (.slice none 0 0) := ⟨by kernel_rfl, by kernel_rfl⟩
instance : Ty Tryz.prog 27 (.struct fs27) 4 80 (.agg #[(.int .i64 0), (.slice none 0 0), (.slice none 0 0), (.slice none 0 0)]) := ⟨by kernel_rfl, by kernel_rfl⟩
instance : Flds Tryz.prog 27 [⟨24, true, 0, 2⟩, ⟨25, false, 2, 1⟩, ⟨26, false, 3, 1⟩] := ⟨by kernel_rfl⟩
instance : Ty Tryz.prog 28 (.struct fs27) 4 80 (.agg #[(.int .i64 0), (.slice none 0 0), (.slice none 0 0), (.slice none 0 0)]) := ⟨by kernel_rfl, by kernel_rfl⟩
instance : Flds Tryz.prog 28 [⟨24, true, 0, 2⟩, ⟨25, false, 2, 1⟩, ⟨26, false, 3, 1⟩] := ⟨by kernel_rfl⟩
instance : Ty Tryz.prog 29 (.struct fs29) 7 96 (.agg #[(.bool false), (.bool false), (.int .i64 0), (.int .i64 0), (.slice none 0 0), (.slice none 0 0), (.slice none 0 0)]) := ⟨by kernel_rfl, by kernel_rfl⟩
instance : Flds Tryz.prog 29 [⟨4, false, 0, 1⟩, ⟨4, false, 1, 1⟩, ⟨3, false, 2, 1⟩, ⟨28, true, 3, 4⟩] := ⟨by kernel_rfl⟩
instance : Ty Tryz.prog 30 (.struct fs29) 7 96 (.agg #[(.bool false), (.bool false), (.int .i64 0), (.int .i64 0), (.slice none 0 0), (.slice none 0 0), (.slice none 0 0)]) := ⟨by kernel_rfl, by kernel_rfl⟩
instance : Flds Tryz.prog 30 [⟨4, false, 0, 1⟩, ⟨4, false, 1, 1⟩, ⟨3, false, 2, 1⟩, ⟨28, true, 3, 4⟩] := ⟨by kernel_rfl⟩
instance : Ty Tryz.prog 31 (.func #[30, 3] #[3] false) 1 8 (.nilFunc) := ⟨by kernel_rfl, by kernel_rfl⟩
instance : Ty Tryz.prog 32 (.func #[39] #[4] false) 1 8 (.nilFunc) := ⟨by kernel_rfl, by kernel_rfl⟩
instance : Ty Tryz.prog 33 (.slice 44) 1 24 (.slice none 0 0) := ⟨by kernel_rfl, by kernel_rfl⟩
instance : Ty Tryz.prog 34 (.struct fs34) 2 32 (.agg #[(.int .i64 0), (.slice none 0 0)]) := ⟨by kernel_rfl, by kernel_rfl⟩
instance : Flds Tryz.prog 34 [⟨3, false, 0, 1⟩, ⟨33, false, 1, 1⟩] := ⟨by kernel_rfl⟩
instance : Ty Tryz.prog 35 (.struct fs34) 2 32 (.agg #[(.int .i64 0), (.slice none 0 0)]) := ⟨by kernel_rfl, by kernel_rfl⟩
instance : Flds Tryz.prog 35 [⟨3, false, 0, 1⟩, ⟨33, false, 1, 1⟩] := ⟨by kernel_rfl⟩
instance : Ty Tryz.prog 36 (.struct fs36) 4 80 (.agg #[(.int .i64 0), (.slice none 0 0), (.slice none 0 0), (.slice none 0 0)]) := ⟨by kernel_rfl, by kernel_rfl⟩
instance : Flds Tryz.prog 36 [⟨35, true, 0, 2⟩, ⟨25, false, 2, 1⟩, ⟨26, false, 3, 1⟩] := ⟨by kernel_rfl⟩
instance : Ty Tryz.prog 37 (.struct fs36) 4 80 (.agg #[(.int .i64 0), (.slice none 0 0), (.slice none 0 0), (.slice none 0 0)]) := ⟨by kernel_rfl, by kernel_rfl⟩
instance : Flds Tryz.prog 37 [⟨35, true, 0, 2⟩, ⟨25, false, 2, 1⟩, ⟨26, false, 3, 1⟩] := ⟨by kernel_rfl⟩
instance : Ty Tryz.prog 38 (.struct fs38) 7 96 (.agg #[(.bool false), (.bool false), (.int .i64 0), (.int .i64 0), (.slice none 0 0), (.slice none 0 0), (.slice none 0 0)]) := ⟨by kernel_rfl, by kernel_rfl⟩
instance : Flds Tryz.prog 38 [⟨4, false, 0, 1⟩, ⟨4, false, 1, 1⟩, ⟨3, false, 2, 1⟩, ⟨37, true, 3, 4⟩] := ⟨by kernel_rfl⟩
instance : Ty Tryz.prog 39 (.struct fs38) 7 96 (.agg #[(.bool false), (.bool false), (.int .i64 0), (.int .i64 0), (.slice none 0 0), (.slice none 0 0), (.slice none 0 0)]) := ⟨by kernel_rfl, by kernel_rfl⟩
instance : Flds Tryz.prog 39 [⟨4, false, 0, 1⟩, ⟨4, false, 1, 1⟩, ⟨3, false, 2, 1⟩, ⟨37, true, 3, 4⟩] := ⟨by kernel_rfl⟩
instance : Ty Tryz.prog 40 (.func #[30] #[39] false) 1 8 (.nilFunc) := ⟨by kernel_rfl, by kernel_rfl⟩
instance : Ty Tryz.prog 41 (.func #[39, 39] #[4] false) 1 8 (.nilFunc) := ⟨by kernel_rfl, by kernel_rfl⟩
instance : Ty Tryz.prog 42 (.func #[30] #[4] false) 1 8 (.nilFunc) := ⟨by kernel_rfl, by kernel_rfl⟩
instance : Ty Tryz.prog 43 (.struct fs43) 2 16 (.agg #[(.int .i64 0), (.int .i64 0)]) := ⟨by kernel_rfl, by kernel_rfl⟩
instance : Flds Tryz.prog 43 [⟨3, false, 0, 1⟩, ⟨3, false, 1, 1⟩] := ⟨by kernel_rfl⟩
instance : Ty Tryz.prog 44 (.struct fs43) 2 16 (.agg #[(.int .i64 0), (.int .i64 0)]) := ⟨by kernel_rfl, by kernel_rfl⟩
instance : Flds Tryz.prog 44 [⟨3, false, 0, 1⟩, ⟨3, false, 1, 1⟩] := ⟨by kernel_rfl⟩
instance : Ty Tryz.prog 45 (.struct fs45) 3 24 (.agg #[(.int .i64 0), (.int .i64 0), (.int .i64 0)]) := ⟨by kernel_rfl, by kernel_rfl⟩
instance : Flds Tryz.prog 45 [⟨3, false, 0, 1⟩, ⟨44, true, 1, 2⟩] := ⟨by kernel_rfl⟩
instance : Ty Tryz.prog 46 (.struct fs45) 3 24 (.agg #[(.int .i64 0), (.int .i64 0), (.int .i64 0)]) := ⟨by kernel_rfl, by kernel_rfl⟩
instance : Flds Tryz.prog 46 [⟨3, false, 0, 1⟩, ⟨44, true, 1, 2⟩] := ⟨by kernel_rfl⟩
instance : Ty Tryz.prog 47 (.struct fs47) 10 112 (.agg #[(.int .i64 0), (.int .i64 0), (.int .i64 0), (.int .i64 0), (.int .i64 0), (.slice none 0 0), (.int .i64 0), (.int .i64 0), (.int .i64 0), (.slice none 0 0)]) := ⟨by kernel_rfl, by kernel_rfl⟩
instance : Flds Tryz.prog 47 [⟨3, false, 0, 1⟩, ⟨3, false, 1, 1⟩, ⟨3, false, 2, 1⟩, ⟨3, false, 3, 1⟩, ⟨35, true, 4, 2⟩, ⟨46, true, 6, 3⟩, ⟨25, false, 9, 1⟩] := ⟨by kernel_rfl⟩
instance : Ty Tryz.prog 48 (.struct fs47) 10 112 (.agg #[(.int .i64 0), (.int .i64 0), (.int .i64 0), (.int .i64 0), (.int .i64 0), (.slice none 0 0), (.int .i64 0), (.int .i64 0), (.int .i64 0), (.slice none 0 0)]) := ⟨by kernel_rfl, by kernel_rfl⟩
instance : Flds Tryz.prog 48 [⟨3, false, 0, 1⟩, ⟨3, false, 1, 1⟩, ⟨3, false, 2, 1⟩, ⟨3, false, 3, 1⟩, ⟨35, true, 4, 2⟩, ⟨46, true, 6, 3⟩, ⟨25, false, 9, 1⟩] := ⟨by kernel_rfl⟩
instance : Ty Tryz.prog 50 (.func #[39, 3, 3] #[48, 4] false) 1 8 (.nilFunc) := ⟨by kernel_rfl, by kernel_rfl⟩
instance : Ty Tryz.prog 51 (.func #[48, 48] #[4] false) 1 8 (.nilFunc) := ⟨by kernel_rfl, by kernel_rfl⟩
instance : Ty Tryz.prog 52 (.func #[39, 3] #[3] false) 1 8 (.nilFunc) := ⟨by kernel_rfl, by kernel_rfl⟩
instance : Ty Tryz.prog 53 (.func #[48, 3] #[3] false) 1 8 (.nilFunc) := ⟨by kernel_rfl, by kernel_rfl⟩
instance : Ty Tryz.prog 54 (.func #[30, 3, 3] #[4] false) 1 8 (.nilFunc) := ⟨by kernel_rfl, by kernel_rfl⟩
instance : Ty Tryz.prog 55 (.struct fs43) 2 16 (.agg #[(.int .i64 0), (.int .i64 0)]) := ⟨by kernel_rfl, by kernel_rfl⟩
instance : Flds Tryz.prog 55 [⟨3, false, 0, 1⟩, ⟨3, false, 1, 1⟩] := ⟨by kernel_rfl⟩
instance : Ty Tryz.prog 56 (.struct fs56) 3 24 (.agg #[(.int .i64 0), (.int .i64 0), (.int .i64 0)]) := ⟨by kernel_rfl, by kernel_rfl⟩
instance : Flds Tryz.prog 56 [⟨3, false, 0, 1⟩, ⟨55, true, 1, 2⟩] := ⟨by kernel_rfl⟩
instance : Ty Tryz.prog 57 (.struct fs56) 3 24 (.agg #[(.int .i64 0), (.int .i64 0), (.int .i64 0)]) := ⟨by kernel_rfl, by kernel_rfl⟩
instance : Flds Tryz.prog 57 [⟨3, false, 0, 1⟩, ⟨55, true, 1, 2⟩] := ⟨by kernel_rfl⟩
instance : Ty Tryz.prog 58 (.struct fs58) 10 112 (.agg #[(.int .i64 0), (.int .i64 0), (.int .i64 0), (.int .i64 0), (.int .i64 0), (.slice none 0 0), (.int .i64 0), (.int .i64 0), (.int .i64 0), (.slice none 0 0)]) := ⟨by kernel_rfl, by kernel_rfl⟩
instance : Flds Tryz.prog 58 [⟨3, false, 0, 1⟩, ⟨3, false, 1, 1⟩, ⟨3, false, 2, 1⟩, ⟨3, false, 3, 1⟩, ⟨24, true, 4, 2⟩, ⟨57, true, 6, 3⟩, ⟨25, false, 9, 1⟩] := ⟨by kernel_rfl⟩
instance : Ty Tryz.prog 59 (.struct fs58) 10 112 (.agg #[(.int .i64 0), (.int .i64 0), (.int .i64 0), (.int .i64 0), (.int .i64 0), (.slice none 0 0), (.int .i64 0), (.int .i64 0), (.int .i64 0), (.slice none 0 0)]) := ⟨by kernel_rfl, by kernel_rfl⟩
instance : Flds Tryz.prog 59 [⟨3, false, 0, 1⟩, ⟨3, false, 1, 1⟩, ⟨3, false, 2, 1⟩, ⟨3, false, 3, 1⟩, ⟨24, true, 4, 2⟩, ⟨57, true, 6, 3⟩, ⟨25, false, 9, 1⟩] := ⟨by kernel_rfl⟩
instance : Ty Tryz.prog 60 (.func #[59, 3] #[3] false) 1 8 (.nilFunc) := ⟨by kernel_rfl, by kernel_rfl⟩
instance : Ty Tryz.prog 61 (.func #[39, 48] #[39] false) 1 8 (.nilFunc) := ⟨by kernel_rfl, by kernel_rfl⟩
instance : Ty Tryz.prog 62 (.func #[59] #[48] false) 1 8 (.nilFunc) := ⟨by kernel_rfl, by kernel_rfl⟩
instance : Ty Tryz.prog 63 (.func #[30, 59] #[4] false) 1 8 (.nilFunc) := ⟨by kernel_rfl, by kernel_rfl⟩
instance : Ty Tryz.prog 64 (.func #[28, 3] #[3] false) 1 8 (.nilFunc) := ⟨by kernel_rfl, by kernel_rfl⟩
instance : Ty Tryz.prog 65 (.func #[37] #[4] false) 1 8 (.nilFunc) := ⟨by kernel_rfl, by kernel_rfl⟩
instance : Ty Tryz.prog 66 (.func #[3, 3, 3] #[4] false) 1 8 (.nilFunc) := ⟨by kernel_rfl, by kernel_rfl⟩
instance : Ty Tryz.prog 67 (.func #[28] #[37] false) 1 8 (.nilFunc) := ⟨by kernel_rfl, by kernel_rfl⟩
instance : Ty Tryz.prog 68 (.func #[37, 37] #[4] false) 1 8 (.nilFunc) := ⟨by kernel_rfl, by kernel_rfl⟩
instance : Ty Tryz.prog 69 (.func #[3, 3] #[4] false) 1 8 (.nilFunc) := ⟨by kernel_rfl, by kernel_rfl⟩
instance : Ty Tryz.prog 70 (.func #[35, 35] #[4] false) 1 8 (.nilFunc) := ⟨by kernel_rfl, by kernel_rfl⟩
instance : Ty Tryz.prog 71 (.func #[46, 46] #[4] false) 1 8 (.nilFunc) := ⟨by kernel_rfl, by kernel_rfl⟩
instance : Ty Tryz.prog 72 (.func #[25, 25] #[4] false) 1 8 (.nilFunc) := ⟨by kernel_rfl, by kernel_rfl⟩
instance : Ty Tryz.prog 73 (.func #[37, 3] #[3] false) 1 8 (.nilFunc) := ⟨by kernel_rfl, by kernel_rfl⟩
instance : Ty Tryz.prog 74 (.func #[35, 3] #[3] false) 1 8 (.nilFunc) := ⟨by kernel_rfl, by kernel_rfl⟩
instance : Ty Tryz.prog 75 (.func #[25, 3] #[3] false) 1 8 (.nilFunc) := ⟨by kernel_rfl, by kernel_rfl⟩
instance : Ty Tryz.prog 76 (.func #[24, 3] #[3] false) 1 8 (.nilFunc) := ⟨by kernel_rfl, by kernel_rfl⟩
instance : Ty Tryz.prog 77 (.func #[39] #[39] false) 1 8 (.nilFunc) := ⟨by kernel_rfl, by kernel_rfl⟩
instance : Ty Tryz.prog 78 (.func #[24] #[35] false) 1 8 (.nilFunc) := ⟨by kernel_rfl, by kernel_rfl⟩
instance : Ty Tryz.prog 79 (.func #[57] #[46] false) 1 8 (.nilFunc) := ⟨by kernel_rfl, by kernel_rfl⟩
instance : Ty Tryz.prog 80 (.func #[25] #[25] false) 1 8 (.nilFunc) := ⟨by kernel_rfl, by kernel_rfl⟩
instance : Ty Tryz.prog 81 (.func #[26, 3] #[3] false) 1 8 (.nilFunc) := ⟨by kernel_rfl, by kernel_rfl⟩
instance : Ty Tryz.prog 83 (.func #[35] #[37, 4] false) 1 8 (.nilFunc) := ⟨by kernel_rfl, by kernel_rfl⟩
instance : Ty Tryz.prog 84 (.func #[26] #[26] false) 1 8 (.nilFunc) := ⟨by kernel_rfl, by kernel_rfl⟩
instance : Ty Tryz.prog 85 (.func #[35] #[4] false) 1 8 (.nilFunc) := ⟨by kernel_rfl, by kernel_rfl⟩
instance : Ty Tryz.prog 86 (.func #[35] #[37] false) 1 8 (.nilFunc) := ⟨by kernel_rfl, by kernel_rfl⟩
instance : Ty Tryz.prog 87 (.func #[26, 26, 72] #[4] false) 1 8 (.nilFunc) := ⟨by kernel_rfl, by kernel_rfl⟩
instance : Ty Tryz.prog 88 (.func #[26, 26] #[4] false) 1 8 (.nilFunc) := ⟨by kernel_rfl, by kernel_rfl⟩
instance : Ty Tryz.prog 89 (.func #[35, 3, 3] #[25] false) 1 8 (.nilFunc) := ⟨by kernel_rfl, by kernel_rfl⟩
instance : Ty Tryz.prog 90 (.func #[33, 33] #[4] false) 1 8 (.nilFunc) := ⟨by kernel_rfl, by kernel_rfl⟩
instance : Ty Tryz.prog 91 (.func #[44, 44] #[4] false) 1 8 (.nilFunc) := ⟨by kernel_rfl, by kernel_rfl⟩
instance : Ty Tryz.prog 92 (.func #[33, 3] #[3] false) 1 8 (.nilFunc) := ⟨by kernel_rfl, by kernel_rfl⟩
instance : Ty Tryz.prog 93 (.func #[22, 3] #[3] false) 1 8 (.nilFunc) := ⟨by kernel_rfl, by kernel_rfl⟩
instance : Ty Tryz.prog 94 (.func #[35, 95] #[4] false) 1 8 (.nilFunc) := ⟨by kernel_rfl, by kernel_rfl⟩
instance : Ty Tryz.prog 95 (.slice 46) 1 24 (.slice none 0 0) := ⟨by kernel_rfl, by kernel_rfl⟩
instance : Ty Tryz.prog 97 (.func #[37, 95] #[37, 25] false) 1 8 (.nilFunc) := ⟨by kernel_rfl, by kernel_rfl⟩
instance : Ty Tryz.prog 98 (.func #[37] #[37] false) 1 8 (.nilFunc) := ⟨by kernel_rfl, by kernel_rfl⟩
instance : Ty Tryz.prog 99 (.func #[22] #[33] false) 1 8 (.nilFunc) := ⟨by kernel_rfl, by kernel_rfl⟩
instance : Ty Tryz.prog 100 (.func #[55] #[44] false) 1 8 (.nilFunc) := ⟨by kernel_rfl, by kernel_rfl⟩
instance : Ty Tryz.prog 101 (.struct fs101) 7 96 (.agg #[(.bool false), (.bool false), (.int .i64 0), (.int .i64 0), (.slice none 0 0), (.slice none 0 0), (.slice none 0 0)]) := ⟨by kernel_rfl, by kernel_rfl⟩
instance : Flds Tryz.prog 101 [⟨39, true, 0, 7⟩] := ⟨by kernel_rfl⟩
instance : Ty Tryz.prog 102 (.struct fs101) 7 96 (.agg #[(.bool false), (.bool false), (.int .i64 0), (.int .i64 0), (.slice none 0 0), (.slice none 0 0), (.slice none 0 0)]) := ⟨by kernel_rfl, by kernel_rfl⟩
instance : Flds Tryz.prog 102 [⟨39, true, 0, 7⟩] := ⟨by kernel_rfl⟩
instance : Ty Tryz.prog 103 (.func #[48] #[39] false) 1 8 (.nilFunc) := ⟨by kernel_rfl, by kernel_rfl⟩
instance : Ty Tryz.prog 104 (.map 3 103) 1 8 (.map none) := ⟨by kernel_rfl, by kernel_rfl⟩
instance : Ty Tryz.prog 106 (.func #[35] #[3] false) 1 8 (.nilFunc) := ⟨by kernel_rfl, by kernel_rfl⟩
instance : Ty Tryz.prog 107 (.func #[35] #[35] false) 1 8 (.nilFunc) := ⟨by kernel_rfl, by kernel_rfl⟩
instance : Ty Tryz.prog 108 (.func #[37, 3] #[37] false) 1 8 (.nilFunc) := ⟨by kernel_rfl, by kernel_rfl⟩
instance : Ty Tryz.prog 109 (.func #[44] #[4] false) 1 8 (.nilFunc) := ⟨by kernel_rfl, by kernel_rfl⟩
instance : Ty Tryz.prog 110 (.func #[35] #[25] false) 1 8 (.nilFunc) := ⟨by kernel_rfl, by kernel_rfl⟩
instance : Ty Tryz.prog 111 (.func #[35, 3] #[25] false) 1 8 (.nilFunc) := ⟨by kernel_rfl, by kernel_rfl⟩
instance : Ty Tryz.prog 112 (.slice 4) 1 24 (.slice none 0 0) := ⟨by kernel_rfl, by kernel_rfl⟩
instance : Ty Tryz.prog 113 (.func #[37, 3] #[25] false) 1 8 (.nilFunc) := ⟨by kernel_rfl, by kernel_rfl⟩
instance : Ty Tryz.prog 115 (.func #[37, 46] #[37, 25, 4] false) 1 8 (.nilFunc) := ⟨by kernel_rfl, by kernel_rfl⟩
instance : Ty Tryz.prog 116 (.pointer 122) 1 8 (.pointer none) := ⟨by kernel_rfl, by kernel_rfl⟩
instance : Ty Tryz.prog 117 (.func #[35, 3] #[116] false) 1 8 (.nilFunc) := ⟨by kernel_rfl, by kernel_rfl⟩
instance : Ty Tryz.prog 118 (.func #[35, 120] #[3] false) 1 8 (.nilFunc) := ⟨by kernel_rfl, by kernel_rfl⟩
instance : Ty Tryz.prog 119 (.slice 135) 1 24 (.slice none 0 0) := ⟨by kernel_rfl, by kernel_rfl⟩
instance : Ty Tryz.prog 120 (.slice 144) 1 24 (.slice none 0 0) := ⟨by kernel_rfl, by kernel_rfl⟩
instance : Ty Tryz.prog 121 (.struct fs121) 4 80 (.agg #[(.int .i64 0), (.slice none 0 0), (.slice none 0 0), (.slice none 0 0)]) := ⟨by kernel_rfl, by kernel_rfl⟩
instance : Flds Tryz.prog 121 [⟨35, true, 0, 2⟩, ⟨119, false, 2, 1⟩, ⟨120, false, 3, 1⟩] := ⟨by kernel_rfl⟩
instance : Ty Tryz.prog 122 (.struct fs121) 4 80 (.agg #[(.int .i64 0), (.slice none 0 0), (.slice none 0 0), (.slice none 0 0)]) := ⟨by kernel_rfl, by kernel_rfl⟩
instance : Flds Tryz.prog 122 [⟨35, true, 0, 2⟩, ⟨119, false, 2, 1⟩, ⟨120, false, 3, 1⟩] := ⟨by kernel_rfl⟩
instance : Ty Tryz.prog 123 (.func #[35, 119] #[25] false) 1 8 (.nilFunc) := ⟨by kernel_rfl, by kernel_rfl⟩
instance : Ty Tryz.prog 124 (.interface im124) 1 16 (.nilIface) := ⟨by kernel_rfl, by kernel_rfl⟩
instance : Ty Tryz.prog 125 (.interface im124) 1 16 (.nilIface) := ⟨by kernel_rfl, by kernel_rfl⟩
instance : Ty Tryz.prog 127 (.func #[44] #[125, 4] false) 1 8 (.nilFunc) := ⟨by kernel_rfl, by kernel_rfl⟩
instance : Ty Tryz.prog 128 (.func #[33] #[33] false) 1 8 (.nilFunc) := ⟨by kernel_rfl, by kernel_rfl⟩
instance : Ty Tryz.prog 129 (.func #[35, 130] #[25] false) 1 8 (.nilFunc) := ⟨by kernel_rfl, by kernel_rfl⟩
instance : Ty Tryz.prog 130 (.func #[3] #[3] false) 1 8 (.nilFunc) := ⟨by kernel_rfl, by kernel_rfl⟩
instance : Ty Tryz.prog 131 (.struct fs131) 2 48 (.agg #[(.slice none 0 0), (.slice none 0 0)]) := ⟨by kernel_rfl, by kernel_rfl⟩
instance : Flds Tryz.prog 131 [⟨119, false, 0, 1⟩, ⟨120, false, 1, 1⟩] := ⟨by kernel_rfl⟩
instance : Ty Tryz.prog 132 (.struct fs131) 2 48 (.agg #[(.slice none 0 0), (.slice none 0 0)]) := ⟨by kernel_rfl, by kernel_rfl⟩
instance : Flds Tryz.prog 132 [⟨119, false, 0, 1⟩, ⟨120, false, 1, 1⟩] := ⟨by kernel_rfl⟩
instance : Ty Tryz.prog 133 (.func #[35, 3] #[132] false) 1 8 (.nilFunc) := ⟨by kernel_rfl, by kernel_rfl⟩
instance : Ty Tryz.prog 134 (.struct fs134) 3 24 (.agg #[(.int .i64 0), (.int .i64 0), (.int .i64 0)]) := ⟨by kernel_rfl, by kernel_rfl⟩
instance : Flds Tryz.prog 134 [⟨3, false, 0, 1⟩, ⟨3, false, 1, 1⟩, ⟨3, false, 2, 1⟩] := ⟨by kernel_rfl⟩
instance : Ty Tryz.prog 135 (.struct fs134) 3 24 (.agg #[(.int .i64 0), (.int .i64 0), (.int .i64 0)]) := ⟨by kernel_rfl, by kernel_rfl⟩
instance : Flds Tryz.prog 135 [⟨3, false, 0, 1⟩, ⟨3, false, 1, 1⟩, ⟨3, false, 2, 1⟩] := ⟨by kernel_rfl⟩
instance : Ty Tryz.prog 136 (.func #[25] #[] false) 1 8 (.nilFunc) := ⟨by kernel_rfl, by kernel_rfl⟩
instance : Ty Tryz.prog 137 (.func #[25, 3] #[4] false) 1 8 (.nilFunc) := ⟨by kernel_rfl, by kernel_rfl⟩
instance : Ty Tryz.prog 138 (.func #[37, 95] #[37, 25, 4] false) 1 8 (.nilFunc) := ⟨by kernel_rfl, by kernel_rfl⟩
instance : Ty Tryz.prog 139 (.struct fs139) 2 16 (.agg #[(.int .i64 0), (.int .i64 0)]) := ⟨by kernel_rfl, by kernel_rfl⟩
instance : Flds Tryz.prog 139 [⟨3, false, 0, 1⟩, ⟨3, false, 1, 1⟩] := ⟨by kernel_rfl⟩
instance : Ty Tryz.prog 140 (.struct fs139) 2 16 (.agg #[(.int .i64 0), (.int .i64 0)]) := ⟨by kernel_rfl, by kernel_rfl⟩
instance : Flds Tryz.prog 140 [⟨3, false, 0, 1⟩, ⟨3, false, 1, 1⟩] := ⟨by kernel_rfl⟩
instance : Ty Tryz.prog 141 (.func #[35, 3] #[140] false) 1 8 (.nilFunc) := ⟨by kernel_rfl, by kernel_rfl⟩
instance : Ty Tryz.prog 142 (.func #[3, 3, 3] #[] false) 1 8 (.nilFunc) := ⟨by kernel_rfl, by kernel_rfl⟩
instance : Ty Tryz.prog 143 (.struct fs143) 3 24 (.agg #[(.int .i64 0), (.int .i64 0), (.int .i64 0)]) := ⟨by kernel_rfl, by kernel_rfl⟩
instance : Flds Tryz.prog 143 [⟨3, false, 0, 1⟩, ⟨3, false, 1, 1⟩, ⟨3, false, 2, 1⟩] := ⟨by kernel_rfl⟩
instance : Ty Tryz.prog 144 (.struct fs143) 3 24 (.agg #[(.int .i64 0), (.int .i64 0), (.int .i64 0)]) := ⟨by kernel_rfl, by kernel_rfl⟩
instance : Flds Tryz.prog 144 [⟨3, false, 0, 1⟩, ⟨3, false, 1, 1⟩, ⟨3, false, 2, 1⟩] := ⟨by kernel_rfl⟩
instance : Ty Tryz.prog 145 (.struct fs145) 1 8 (.agg #[(.int .i64 0)]) := ⟨by kernel_rfl, by kernel_rfl⟩
instance : Flds Tryz.prog 145 [⟨3, false, 0, 1⟩] := ⟨by kernel_rfl⟩
instance : Ty Tryz.prog 146 (.struct fs145) 1 8 (.agg #[(.int .i64 0)]) := ⟨by kernel_rfl, by kernel_rfl⟩
instance : Flds Tryz.prog 146 [⟨3, false, 0, 1⟩] := ⟨by kernel_rfl⟩
instance : Ty Tryz.prog 147 (.struct fs147) 0 0 (.agg #[]) := ⟨by kernel_rfl, by kernel_rfl⟩
instance : Flds Tryz.prog 147 [] := ⟨by kernel_rfl⟩
instance : Ty Tryz.prog 148 (.struct fs147) 0 0 (.agg #[]) := ⟨by kernel_rfl, by kernel_rfl⟩
instance : Flds Tryz.prog 148 [] := ⟨by kernel_rfl⟩
instance : Ty Tryz.prog 149 (.struct fs147) 0 0 (.agg #[]) := ⟨by kernel_rfl, by kernel_rfl⟩
instance : Flds Tryz.prog 149 [] := ⟨by kernel_rfl⟩
instance : Ty Tryz.prog 150 (.struct fs147) 0 0 (.agg #[]) := ⟨by kernel_rfl, by kernel_rfl⟩
instance : Flds Tryz.prog 150 [] := ⟨by kernel_rfl⟩
instance : Ty Tryz.prog 151 (.struct fs147) 0 0 (.agg #[]) := ⟨by kernel_rfl, by kernel_rfl⟩
instance : Flds Tryz.prog 151 [] := ⟨by kernel_rfl⟩
instance : Ty Tryz.prog 152 (.struct fs147) 0 0 (.agg #[]) := ⟨by kernel_rfl, by kernel_rfl⟩
instance : Flds Tryz.prog 152 [] := ⟨by kernel_rfl⟩
instance : Ty Tryz.prog 153 (.struct fs147) 0 0 (.agg #[]) := ⟨by kernel_rfl, by kernel_rfl⟩
instance : Flds Tryz.prog 153 [] := ⟨by kernel_rfl⟩
instance : Ty Tryz.prog 154 (.struct fs147) 0 0 (.agg #[]) := ⟨by kernel_rfl, by kernel_rfl⟩
instance : Flds Tryz.prog 154 [] := ⟨by kernel_rfl⟩
instance : Ty Tryz.prog 155 (.array 7 125) 7 112 (.agg #[.nilIface, .nilIface, .nilIface, .nilIface, .nilIface, .nilIface, .nilIface]) := ⟨by kernel_rfl, by kernel_rfl⟩
instance : Ty Tryz.prog 156 (.array 5 3) 5 40 (.agg #[(.int .i64 0), (.int .i64 0), (.int .i64 0), (.int .i64 0), (.int .i64 0)]) := ⟨by kernel_rfl, by kernel_rfl⟩
instance : Ty Tryz.prog 157 (.func #[35] #[156] false) 1 8 (.nilFunc) := ⟨by kernel_rfl, by kernel_rfl⟩
instance : Ty Tryz.prog 158 (.chan .both 170) 1 8 (.chan none) := ⟨by kernel_rfl, by kernel_rfl⟩
instance : Ty Tryz.prog 159 (.struct fs147) 0 0 (.agg #[]) := ⟨by kernel_rfl, by kernel_rfl⟩
instance : Flds Tryz.prog 159 [] := ⟨by kernel_rfl⟩
instance : Ty Tryz.prog 160 (.struct fs147) 0 0 (.agg #[]) := ⟨by kernel_rfl, by kernel_rfl⟩
instance : Flds Tryz.prog 160 [] := ⟨by kernel_rfl⟩
instance : Ty Tryz.prog 161 (.struct fs147) 0 0 (.agg #[]) := ⟨by kernel_rfl, by kernel_rfl⟩
instance : Flds Tryz.prog 161 [] := ⟨by kernel_rfl⟩
instance : Ty Tryz.prog 162 (.int .u64) 1 8 (.int .u64 0) := ⟨by kernel_rfl, by kernel_rfl⟩
instance : Ty Tryz.prog 163 (.struct fs163) 1 8 (.agg #[(.int .u64 0)]) := ⟨by kernel_rfl, by kernel_rfl⟩
instance : Flds Tryz.prog 163 [⟨160, true, 0, 0⟩, ⟨161, true, 0, 0⟩, ⟨162, false, 0, 1⟩] := ⟨by kernel_rfl⟩
instance : Ty Tryz.prog 164 (.struct fs163) 1 8 (.agg #[(.int .u64 0)]) := ⟨by kernel_rfl, by kernel_rfl⟩
instance : Flds Tryz.prog 164 [⟨160, true, 0, 0⟩, ⟨161, true, 0, 0⟩, ⟨162, false, 0, 1⟩] := ⟨by kernel_rfl⟩
instance : Ty Tryz.prog 165 (.int .u32) 1 4 (.int .u32 0) := ⟨by kernel_rfl, by kernel_rfl⟩
instance : Ty Tryz.prog 166 (.struct fs166) 2 16 (.agg #[(.int .u64 0), (.int .u32 0)]) := ⟨by kernel_rfl, by kernel_rfl⟩
instance : Flds Tryz.prog 166 [⟨159, true, 0, 0⟩, ⟨164, true, 0, 1⟩, ⟨165, false, 1, 1⟩] := ⟨by kernel_rfl⟩
instance : Ty Tryz.prog 167 (.struct fs166) 2 16 (.agg #[(.int .u64 0), (.int .u32 0)]) := ⟨by kernel_rfl, by kernel_rfl⟩
instance : Flds Tryz.prog 167 [⟨159, true, 0, 0⟩, ⟨164, true, 0, 1⟩, ⟨165, false, 1, 1⟩] := ⟨by kernel_rfl⟩
instance : Ty Tryz.prog 168 (.func #[3] #[] false) 1 8 (.nilFunc) := ⟨by kernel_rfl, by kernel_rfl⟩
instance : Ty Tryz.prog 169 (.struct fs169) 2 32 (.agg #[(.int .i64 0), (.slice none 0 0)]) := ⟨by kernel_rfl, by kernel_rfl⟩
instance : Flds Tryz.prog 169 [⟨3, false, 0, 1⟩, ⟨25, false, 1, 1⟩] := ⟨by kernel_rfl⟩
instance : Ty Tryz.prog 170 (.struct fs169) 2 32 (.agg #[(.int .i64 0), (.slice none 0 0)]) := ⟨by kernel_rfl, by kernel_rfl⟩
instance : Flds Tryz.prog 170 [⟨3, false, 0, 1⟩, ⟨25, false, 1, 1⟩] := ⟨by kernel_rfl⟩
instance : Ty Tryz.prog 171 (.array 4 25) 4 96 (.agg #[(.slice none 0 0), (.slice none 0 0), (.slice none 0 0), (.slice none 0 0)]) := ⟨by kernel_rfl, by kernel_rfl⟩
instance : Ty Tryz.prog 173 (.func #[35, 3] #[140, 4] false) 1 8 (.nilFunc) := ⟨by kernel_rfl, by kernel_rfl⟩
instance : Ty Tryz.prog 174 (.struct fs174) 4 32 (.agg #[(.int .i64 0), (.int .i64 0), (.int .i64 0), (.int .i64 0)]) := ⟨by kernel_rfl, by kernel_rfl⟩
instance : Flds Tryz.prog 174 [⟨135, true, 0, 3⟩, ⟨3, false, 3, 1⟩] := ⟨by kernel_rfl⟩
instance : Ty Tryz.prog 175 (.struct fs174) 4 32 (.agg #[(.int .i64 0), (.int .i64 0), (.int .i64 0), (.int .i64 0)]) := ⟨by kernel_rfl, by kernel_rfl⟩
instance : Flds Tryz.prog 175 [⟨135, true, 0, 3⟩, ⟨3, false, 3, 1⟩] := ⟨by kernel_rfl⟩
instance : Ty Tryz.prog 176 (.slice 175) 1 24 (.slice none 0 0) := ⟨by kernel_rfl, by kernel_rfl⟩
instance : Ty Tryz.prog 177 (.struct fs177) 4 32 (.agg #[(.int .i64 0), (.int .i64 0), (.int .i64 0), (.int .i64 0)]) := ⟨by kernel_rfl, by kernel_rfl⟩
instance : Flds Tryz.prog 177 [⟨3, false, 0, 1⟩, ⟨3, false, 1, 1⟩, ⟨3, false, 2, 1⟩, ⟨3, false, 3, 1⟩] := ⟨by kernel_rfl⟩
instance : Ty Tryz.prog 178 (.struct fs177) 4 32 (.agg #[(.int .i64 0), (.int .i64 0), (.int .i64 0), (.int .i64 0)]) := ⟨by kernel_rfl, by kernel_rfl⟩
instance : Flds Tryz.prog 178 [⟨3, false, 0, 1⟩, ⟨3, false, 1, 1⟩, ⟨3, false, 2, 1⟩, ⟨3, false, 3, 1⟩] := ⟨by kernel_rfl⟩
instance : Ty Tryz.prog 179 (.func #[3, 3] #[178] false) 1 8 (.nilFunc) := ⟨by kernel_rfl, by kernel_rfl⟩
instance : Ty Tryz.prog 180 (.func #[35, 3, 3, 3] #[175] false) 1 8 (.nilFunc) := ⟨by kernel_rfl, by kernel_rfl⟩
instance : Ty Tryz.prog 181 (.func #[3, 3] #[3] false) 1 8 (.nilFunc) := ⟨by kernel_rfl, by kernel_rfl⟩
instance : Ty Tryz.prog 182 (.func #[25, 3, 3, 3] #[] false) 1 8 (.nilFunc) := ⟨by kernel_rfl, by kernel_rfl⟩
instance : Ty Tryz.prog 183 (.func #[184] #[3] false) 1 8 (.nilFunc) := ⟨by kernel_rfl, by kernel_rfl⟩
instance : Ty Tryz.prog 184 (.int .u64) 1 8 (.int .u64 0) := ⟨by kernel_rfl, by kernel_rfl⟩
instance : Ty Tryz.prog 185 (.map 3 25) 1 8 (.map none) := ⟨by kernel_rfl, by kernel_rfl⟩
instance : Ty Tryz.prog 186 (.func #[37] #[185] false) 1 8 (.nilFunc) := ⟨by kernel_rfl, by kernel_rfl⟩
instance : Ty Tryz.prog 187 (.pointer 167) 1 8 (.pointer none) := ⟨by kernel_rfl, by kernel_rfl⟩
instance : Ty Tryz.prog 188 (.func #[189] #[] false) 1 8 (.nilFunc) := ⟨by kernel_rfl, by kernel_rfl⟩
instance : Ty Tryz.prog 190 (.func #[] #[4] false) 1 8 (.nilFunc) := ⟨by kernel_rfl, by kernel_rfl⟩
instance : Ty Tryz.prog 191 (.int .i64) 1 8 (.int .i64 0) := ⟨by kernel_rfl, by kernel_rfl⟩
instance : Ty Tryz.prog 192 (.func #[187] #[191] false) 1 8 (.nilFunc) := ⟨by kernel_rfl, by kernel_rfl⟩
instance : Ty Tryz.prog 193 (.func #[9] #[] false) 1 8 (.nilFunc) := ⟨by kernel_rfl, by kernel_rfl⟩
instance : Ty Tryz.prog 194 (.func #[162] #[162] false) 1 8 (.nilFunc) := ⟨by kernel_rfl, by kernel_rfl⟩
instance : Ty Tryz.prog 195 (.pointer 165) 1 8 (.pointer none) := ⟨by kernel_rfl, by kernel_rfl⟩
instance : Ty Tryz.prog 196 (.func #[] #[162] false) 1 8 (.nilFunc) := ⟨by kernel_rfl, by kernel_rfl⟩
instance : Ty Tryz.prog 197 (.func #[162] #[] false) 1 8 (.nilFunc) := ⟨by kernel_rfl, by kernel_rfl⟩
instance : Ty Tryz.prog 198 (.func #[187] #[] false) 1 8 (.nilFunc) := ⟨by kernel_rfl, by kernel_rfl⟩
instance : Ty Tryz.prog 199 (.func #[195, 4, 3] #[] false) 1 8 (.nilFunc) := ⟨by kernel_rfl, by kernel_rfl⟩
instance : Ty Tryz.prog 200 (.func #[187] #[4] false) 1 8 (.nilFunc) := ⟨by kernel_rfl, by kernel_rfl⟩
instance : Ty Tryz.prog 201 (.func #[162, 162] #[4] false) 1 8 (.nilFunc) := ⟨by kernel_rfl, by kernel_rfl⟩
instance : Ty Tryz.prog 202 (.func #[195, 4] #[] false) 1 8 (.nilFunc) := ⟨by kernel_rfl, by kernel_rfl⟩
instance : Ty Tryz.prog 203 (.slice 140) 1 24 (.slice none 0 0) := ⟨by kernel_rfl, by kernel_rfl⟩
instance : Ty Tryz.prog 204 (.func #[35, 205] #[203] false) 1 8 (.nilFunc) := ⟨by kernel_rfl, by kernel_rfl⟩
instance : Ty Tryz.prog 205 (.func #[3, 140] #[140] false) 1 8 (.nilFunc) := ⟨by kernel_rfl, by kernel_rfl⟩
instance : Ty Tryz.prog 206 (.pointer 132) 1 8 (.pointer none) := ⟨by kernel_rfl, by kernel_rfl⟩
instance : Ty Tryz.prog 207 (.func #[3] #[178] false) 1 8 (.nilFunc) := ⟨by kernel_rfl, by kernel_rfl⟩
instance : Ty Tryz.prog 208 (.array 8 207) 8 64 (.agg #[.nilFunc, .nilFunc, .nilFunc, .nilFunc, .nilFunc, .nilFunc, .nilFunc, .nilFunc]) := ⟨by kernel_rfl, by kernel_rfl⟩
instance : Ty Tryz.prog 209 (.func #[35, 3, 3] #[140, 4] false) 1 8 (.nilFunc) := ⟨by kernel_rfl, by kernel_rfl⟩
instance : Ty Tryz.prog 210 (.func #[35, 3, 3] #[3] false) 1 8 (.nilFunc) := ⟨by kernel_rfl, by kernel_rfl⟩
instance : Ty Tryz.prog 211 (.func #[3] #[4] false) 1 8 (.nilFunc) := ⟨by kernel_rfl, by kernel_rfl⟩
instance : Ty Tryz.prog 212 (.array 4 3) 4 32 (.agg #[(.int .i64 0), (.int .i64 0), (.int .i64 0), (.int .i64 0)]) := ⟨by kernel_rfl, by kernel_rfl⟩
instance : Ty Tryz.prog 213 (.func #[25, 3, 3] #[] false) 1 8 (.nilFunc) := ⟨by kernel_rfl, by kernel_rfl⟩
instance : Ty Tryz.prog 214 (.int .i64) 1 8 (.int .i64 0) := ⟨by kernel_rfl, by kernel_rfl⟩
instance : Ty Tryz.prog 216 (.func #[25, 3, 3] #[3, 214] false) 1 8 (.nilFunc) := ⟨by kernel_rfl, by kernel_rfl⟩
instance : Ty Tryz.prog 217 (.func #[25, 3, 3] #[4] false) 1 8 (.nilFunc) := ⟨by kernel_rfl, by kernel_rfl⟩
instance : Ty Tryz.prog 218 (.func #[25, 3, 3, 3] #[3] false) 1 8 (.nilFunc) := ⟨by kernel_rfl, by kernel_rfl⟩
instance : Ty Tryz.prog 220 (.func #[25, 3, 3, 3] #[3, 4] false) 1 8 (.nilFunc) := ⟨by kernel_rfl, by kernel_rfl⟩
instance : Ty Tryz.prog 221 (.func #[165] #[3] false) 1 8 (.nilFunc) := ⟨by kernel_rfl, by kernel_rfl⟩
instance : Ty Tryz.prog 222 (.func #[162] #[3] false) 1 8 (.nilFunc) := ⟨by kernel_rfl, by kernel_rfl⟩
instance : Ty Tryz.prog 223 (.func #[35, 46] #[4] false) 1 8 (.nilFunc) := ⟨by kernel_rfl, by kernel_rfl⟩
instance : Ty Tryz.prog 224 (.pointer 164) 1 8 (.pointer none) := ⟨by kernel_rfl, by kernel_rfl⟩
instance : Ty Tryz.prog 225 (.func #[226, 162] #[162] false) 1 8 (.nilFunc) := ⟨by kernel_rfl, by kernel_rfl⟩
instance : Ty Tryz.prog 226 (.pointer 162) 1 8 (.pointer none) := ⟨by kernel_rfl, by kernel_rfl⟩
instance : Ty Tryz.prog 227 (.func #[226] #[162] false) 1 8 (.nilFunc) := ⟨by kernel_rfl, by kernel_rfl⟩
instance : Ty Tryz.prog 228 (.func #[226, 162] #[] false) 1 8 (.nilFunc) := ⟨by kernel_rfl, by kernel_rfl⟩
instance : Ty Tryz.prog 229 (.func #[226, 162, 162] #[4] false) 1 8 (.nilFunc) := ⟨by kernel_rfl, by kernel_rfl⟩
instance : Ty Tryz.prog 230 (.func #[233] #[3, 4] false) 1 8 (.nilFunc) := ⟨by kernel_rfl, by kernel_rfl⟩
instance : Ty Tryz.prog 231 (.func #[] #[3, 4] false) 1 8 (.nilFunc) := ⟨by kernel_rfl, by kernel_rfl⟩
instance : Ty Tryz.prog 232 (.struct fs232) 3 40 (.agg #[(.int .i64 0), (.slice none 0 0), (.int .i64 0)]) := ⟨by kernel_rfl, by kernel_rfl⟩
instance : Flds Tryz.prog 232 [⟨35, true, 0, 2⟩, ⟨3, false, 2, 1⟩] := ⟨by kernel_rfl⟩
instance : Ty Tryz.prog 233 (.struct fs232) 3 40 (.agg #[(.int .i64 0), (.slice none 0 0), (.int .i64 0)]) := ⟨by kernel_rfl, by kernel_rfl⟩
instance : Flds Tryz.prog 233 [⟨35, true, 0, 2⟩, ⟨3, false, 2, 1⟩] := ⟨by kernel_rfl⟩
instance : Ty Tryz.prog 234 (.array 4 230) 4 32 (.agg #[.nilFunc, .nilFunc, .nilFunc, .nilFunc]) := ⟨by kernel_rfl, by kernel_rfl⟩
instance : Ty Tryz.prog 235 (.func #[35, 236] #[112] false) 1 8 (.nilFunc) := ⟨by kernel_rfl, by kernel_rfl⟩
instance : Ty Tryz.prog 236 (.func #[3, 140] #[4] false) 1 8 (.nilFunc) := ⟨by kernel_rfl, by kernel_rfl⟩
instance : Ty Tryz.prog 237 (.int .u64) 1 8 (.int .u64 0) := ⟨by kernel_rfl, by kernel_rfl⟩
instance : Ty Tryz.prog 238 (.func #[3] #[184] false) 1 8 (.nilFunc) := ⟨by kernel_rfl, by kernel_rfl⟩
instance : Ty Tryz.prog 239 (.func #[25, 3, 240] #[3] false) 1 8 (.nilFunc) := ⟨by kernel_rfl, by kernel_rfl⟩
instance : Ty Tryz.prog 240 (.pointer 3) 1 8 (.pointer none) := ⟨by kernel_rfl, by kernel_rfl⟩
instance : Ty Tryz.prog 241 (.func #[25, 3, 3, 3, 240] #[3] false) 1 8 (.nilFunc) := ⟨by kernel_rfl, by kernel_rfl⟩
instance : Ty Tryz.prog 242 (.pointer 237) 1 8 (.pointer none) := ⟨by kernel_rfl, by kernel_rfl⟩
instance : Ty Tryz.prog 244 (.func #[25, 3, 3, 240] #[3, 3] false) 1 8 (.nilFunc) := ⟨by kernel_rfl, by kernel_rfl⟩
instance : Ty Tryz.prog 245 (.func #[] #[9] false) 1 8 (.nilFunc) := ⟨by kernel_rfl, by kernel_rfl⟩
instance : Ty Tryz.prog 246 (.struct fs246) 4 40 (.agg #[(.pointer none), (.pointer none), (.pointer none), (.string ⟨#[]⟩)]) := ⟨by kernel_rfl, by kernel_rfl⟩
instance : Flds Tryz.prog 246 [⟨17, false, 0, 1⟩, ⟨17, false, 1, 1⟩, ⟨17, false, 2, 1⟩, ⟨9, false, 3, 1⟩] := ⟨by kernel_rfl⟩
instance : Ty Tryz.prog 247 (.struct fs246) 4 40 (.agg #[(.pointer none), (.pointer none), (.pointer none), (.string ⟨#[]⟩)]) := ⟨by kernel_rfl, by kernel_rfl⟩
instance : Flds Tryz.prog 247 [⟨17, false, 0, 1⟩, ⟨17, false, 1, 1⟩, ⟨17, false, 2, 1⟩, ⟨9, false, 3, 1⟩] := ⟨by kernel_rfl⟩
instance : Ty Tryz.prog 248 (.array 0 16) 0 0 (.agg #[]) := ⟨by kernel_rfl, by kernel_rfl⟩
instance : Ty Tryz.prog 249 (.struct fs249) 0 0 (.agg #[]) := ⟨by kernel_rfl, by kernel_rfl⟩
instance : Flds Tryz.prog 249 [⟨248, true, 0, 0⟩] := ⟨by kernel_rfl⟩
instance : Ty Tryz.prog 250 (.struct fs249) 0 0 (.agg #[]) := ⟨by kernel_rfl, by kernel_rfl⟩
instance : Flds Tryz.prog 250 [⟨248, true, 0, 0⟩] := ⟨by kernel_rfl⟩
instance : Ty Tryz.prog 251 (.func #[] #[3] false) 1 8 (.nilFunc) := ⟨by kernel_rfl, by kernel_rfl⟩
instance : Ty Tryz.prog 252 (.int .u8) 1 1 (.int .u8 0) := ⟨by kernel_rfl, by kernel_rfl⟩
instance : Ty Tryz.prog 253 (.int .u8) 1 1 (.int .u8 0) := ⟨by kernel_rfl, by kernel_rfl⟩
instance : Ty Tryz.prog 254 (.func #[189, 189] #[4] false) 1 8 (.nilFunc) := ⟨by kernel_rfl, by kernel_rfl⟩
instance : Ty Tryz.prog 255 (.pointer 5) 1 8 (.pointer none) := ⟨by kernel_rfl, by kernel_rfl⟩
instance : Ty Tryz.prog 256 (.int .i32) 1 4 (.int .i32 0) := ⟨by kernel_rfl, by kernel_rfl⟩
instance : Ty Tryz.prog 257 (.int .i32) 1 4 (.int .i32 0) := ⟨by kernel_rfl, by kernel_rfl⟩
instance : Ty Tryz.prog 258 (.struct fs258) 11 48 (.agg #[(.int .u64 0), (.int .u64 0), (.int .u32 0), (.int .u8 0), (.int .u8 0), (.int .u8 0), (.int .u8 0), .nilFunc, (.pointer none), (.int .i32 0), (.int .i32 0)]) := ⟨by kernel_rfl, by kernel_rfl⟩
instance : Flds Tryz.prog 258 [⟨12, false, 0, 1⟩, ⟨12, false, 1, 1⟩, ⟨165, false, 2, 1⟩, ⟨252, false, 3, 1⟩, ⟨5, false, 4, 1⟩, ⟨5, false, 5, 1⟩, ⟨253, false, 6, 1⟩, ⟨254, false, 7, 1⟩, ⟨255, false, 8, 1⟩, ⟨256, false, 9, 1⟩, ⟨257, false, 10, 1⟩] := ⟨by kernel_rfl⟩
instance : Ty Tryz.prog 259 (.struct fs258) 11 48 (.agg #[(.int .u64 0), (.int .u64 0), (.int .u32 0), (.int .u8 0), (.int .u8 0), (.int .u8 0), (.int .u8 0), .nilFunc, (.pointer none), (.int .i32 0), (.int .i32 0)]) := ⟨by kernel_rfl, by kernel_rfl⟩
instance : Flds Tryz.prog 259 [⟨12, false, 0, 1⟩, ⟨12, false, 1, 1⟩, ⟨165, false, 2, 1⟩, ⟨252, false, 3, 1⟩, ⟨5, false, 4, 1⟩, ⟨5, false, 5, 1⟩, ⟨253, false, 6, 1⟩, ⟨254, false, 7, 1⟩, ⟨255, false, 8, 1⟩, ⟨256, false, 9, 1⟩, ⟨257, false, 10, 1⟩] := ⟨by kernel_rfl⟩
instance : Fun Tryz.prog 3 := ⟨by kernel_rfl⟩ -- loop.example/lucarne/laws.FnExactPaintOk
instance : Fun Tryz.prog 4 := ⟨by kernel_rfl⟩ -- loop.example/lucarne/laws.FnExactPaintTell
instance : Fun Tryz.prog 5 := ⟨by kernel_rfl⟩ -- loop.example/lucarne/laws.FnExactPaintHear
instance : Fun Tryz.prog 6 := ⟨by kernel_rfl⟩ -- loop.example/lucarne/laws.szPainter
instance : Fun Tryz.prog 7 := ⟨by kernel_rfl⟩ -- loop.example/lucarne/spec.PaintOk
instance : Fun Tryz.prog 8 := ⟨by kernel_rfl⟩ -- loop.example/lucarne/laws.toPainter
instance : Fun Tryz.prog 9 := ⟨by kernel_rfl⟩ -- loop.example/lucarne/impl.PaintOk
instance : Fun Tryz.prog 10 := ⟨by kernel_rfl⟩ -- loop.example/lucarne/laws.eqPainter
instance : Fun Tryz.prog 11 := ⟨by kernel_rfl⟩ -- loop.example/lucarne/spec.PaintTell
instance : Fun Tryz.prog 12 := ⟨by kernel_rfl⟩ -- loop.example/lucarne/impl.PaintTell
instance : Fun Tryz.prog 13 := ⟨by kernel_rfl⟩ -- loop.example/lucarne/laws.eqWord
instance : Fun Tryz.prog 14 := ⟨by kernel_rfl⟩ -- loop.example/lucarne/laws.markPainter
instance : Fun Tryz.prog 15 := ⟨by kernel_rfl⟩ -- loop.example/lucarne/laws.markWord
instance : Fun Tryz.prog 16 := ⟨by kernel_rfl⟩ -- loop.example/lucarne/laws.heldWord
instance : Fun Tryz.prog 17 := ⟨by kernel_rfl⟩ -- loop.example/lucarne/laws.szWord
instance : Fun Tryz.prog 18 := ⟨by kernel_rfl⟩ -- loop.example/lucarne/spec.PaintHear
instance : Fun Tryz.prog 19 := ⟨by kernel_rfl⟩ -- loop.example/lucarne/laws.toWord
instance : Fun Tryz.prog 20 := ⟨by kernel_rfl⟩ -- loop.example/lucarne/impl.PaintHear
instance : Fun Tryz.prog 21 := ⟨by kernel_rfl⟩ -- loop.example/lucarne/laws.heldPainter
instance : Fun Tryz.prog 22 := ⟨by kernel_rfl⟩ -- loop.example/lucarne/laws.szScene
instance : Fun Tryz.prog 23 := ⟨by kernel_rfl⟩ -- loop.example/lucarne/spec.l21None
instance : Fun Tryz.prog 24 := ⟨by kernel_rfl⟩ -- loop.example/lucarne/spec.l6In
instance : Fun Tryz.prog 25 := ⟨by kernel_rfl⟩ -- loop.example/lucarne/spec.SceneOk
instance : Fun Tryz.prog 26 := ⟨by kernel_rfl⟩ -- loop.example/lucarne/laws.toScene
instance : Fun Tryz.prog 27 := ⟨by kernel_rfl⟩ -- loop.example/lucarne/impl.SceneOk
instance : Fun Tryz.prog 28 := ⟨by kernel_rfl⟩ -- loop.example/lucarne/impl.sceneSame
instance : Fun Tryz.prog 29 := ⟨by kernel_rfl⟩ -- loop.example/lucarne/laws.eqScene
instance : Fun Tryz.prog 30 := ⟨by kernel_rfl⟩ -- loop.example/lucarne/spec.l21Id
instance : Fun Tryz.prog 31 := ⟨by kernel_rfl⟩ -- loop.example/lucarne/spec.l21Tell
instance : Fun Tryz.prog 32 := ⟨by kernel_rfl⟩ -- loop.example/lucarne/impl.paintIdOk
instance : Fun Tryz.prog 33 := ⟨by kernel_rfl⟩ -- loop.example/lucarne/impl.paintTold
instance : Fun Tryz.prog 34 := ⟨by kernel_rfl⟩ -- loop.example/lucarne/laws.eqGrid
instance : Fun Tryz.prog 35 := ⟨by kernel_rfl⟩ -- loop.example/lucarne/laws.eqEdit
instance : Fun Tryz.prog 36 := ⟨by kernel_rfl⟩ -- loop.example/lucarne/laws.eqIntS
instance : Fun Tryz.prog 37 := ⟨by kernel_rfl⟩ -- loop.example/lucarne/laws.markScene
instance : Fun Tryz.prog 38 := ⟨by kernel_rfl⟩ -- loop.example/lucarne/laws.markGrid
instance : Fun Tryz.prog 39 := ⟨by kernel_rfl⟩ -- loop.example/lucarne/laws.markIntS
instance : Fun Tryz.prog 40 := ⟨by kernel_rfl⟩ -- loop.example/lucarne/laws.heldGrid
instance : Fun Tryz.prog 41 := ⟨by kernel_rfl⟩ -- loop.example/lucarne/laws.heldIntS
instance : Fun Tryz.prog 42 := ⟨by kernel_rfl⟩ -- loop.example/lucarne/laws.szGrid
instance : Fun Tryz.prog 43 := ⟨by kernel_rfl⟩ -- loop.example/lucarne/laws.szIntS
instance : Fun Tryz.prog 44 := ⟨by kernel_rfl⟩ -- loop.example/lucarne/spec.l21Hear
instance : Fun Tryz.prog 45 := ⟨by kernel_rfl⟩ -- loop.example/lucarne/spec.l21Copy
instance : Fun Tryz.prog 46 := ⟨by kernel_rfl⟩ -- loop.example/lucarne/laws.toGrid
instance : Fun Tryz.prog 47 := ⟨by kernel_rfl⟩ -- loop.example/lucarne/laws.toEdit
instance : Fun Tryz.prog 48 := ⟨by kernel_rfl⟩ -- loop.example/lucarne/laws.toIntS
instance : Fun Tryz.prog 49 := ⟨by kernel_rfl⟩ -- loop.example/lucarne/impl.paintHeard
instance : Fun Tryz.prog 50 := ⟨by kernel_rfl⟩ -- loop.example/lucarne/laws.heldScene
instance : Fun Tryz.prog 51 := ⟨by kernel_rfl⟩ -- loop.example/lucarne/laws.szIntSS
instance : Fun Tryz.prog 52 := ⟨by kernel_rfl⟩ -- loop.example/lucarne/spec.SceneNew
instance : Fun Tryz.prog 53 := ⟨by kernel_rfl⟩ -- loop.example/lucarne/spec.l13Same
instance : Fun Tryz.prog 54 := ⟨by kernel_rfl⟩ -- loop.example/lucarne/laws.toIntSS
instance : Fun Tryz.prog 55 := ⟨by kernel_rfl⟩ -- loop.example/lucarne/impl.GridOk
instance : Fun Tryz.prog 56 := ⟨by kernel_rfl⟩ -- loop.example/lucarne/impl.sceneOf
instance : Fun Tryz.prog 57 := ⟨by kernel_rfl⟩ -- loop.example/lucarne/impl.gridSame
instance : Fun Tryz.prog 58 := ⟨by kernel_rfl⟩ -- slices.Equal[[]int,int]
instance : Fun Tryz.prog 59 := ⟨by kernel_rfl⟩ -- slices.EqualFunc[[][]int,[][]int,[]int,[]int]
instance : Fun Tryz.prog 60 := ⟨by kernel_rfl⟩ -- loop.example/lucarne/laws.eqIntSS
instance : Fun Tryz.prog 61 := ⟨by kernel_rfl⟩ -- loop.example/lucarne/spec.l21Own
instance : Fun Tryz.prog 62 := ⟨by kernel_rfl⟩ -- loop.example/lucarne/impl.PaintOwn
instance : Fun Tryz.prog 63 := ⟨by kernel_rfl⟩ -- loop.example/lucarne/laws.eqCellS
instance : Fun Tryz.prog 64 := ⟨by kernel_rfl⟩ -- loop.example/lucarne/laws.eqCell
instance : Fun Tryz.prog 65 := ⟨by kernel_rfl⟩ -- loop.example/lucarne/laws.markIntSS
instance : Fun Tryz.prog 66 := ⟨by kernel_rfl⟩ -- loop.example/lucarne/laws.markCellS
instance : Fun Tryz.prog 67 := ⟨by kernel_rfl⟩ -- loop.example/lucarne/laws.heldCellS
instance : Fun Tryz.prog 68 := ⟨by kernel_rfl⟩ -- loop.example/lucarne/laws.szCellS
instance : Fun Tryz.prog 69 := ⟨by kernel_rfl⟩ -- loop.example/lucarne/spec.l13Edits
instance : Fun Tryz.prog 70 := ⟨by kernel_rfl⟩ -- loop.example/lucarne/spec.l13Do
instance : Fun Tryz.prog 71 := ⟨by kernel_rfl⟩ -- loop.example/lucarne/spec.l13Copy
instance : Fun Tryz.prog 72 := ⟨by kernel_rfl⟩ -- loop.example/lucarne/laws.toCellS
instance : Fun Tryz.prog 73 := ⟨by kernel_rfl⟩ -- loop.example/lucarne/laws.toCell
instance : Fun Tryz.prog 74 := ⟨by kernel_rfl⟩ -- loop.example/lucarne/impl.painterCopy
instance : Fun Tryz.prog 75 := ⟨by kernel_rfl⟩ -- (loop.example/lucarne/impl.ear).hearWhole
instance : Fun Tryz.prog 76 := ⟨by kernel_rfl⟩ -- (loop.example/lucarne/impl.ear).hearEdit
instance : Fun Tryz.prog 77 := ⟨by kernel_rfl⟩ -- loop.example/lucarne/laws.heldIntSS
instance : Fun Tryz.prog 78 := ⟨by kernel_rfl⟩ -- loop.example/lucarne/spec.GridOk
instance : Fun Tryz.prog 79 := ⟨by kernel_rfl⟩ -- loop.example/lucarne/spec.l3Many
instance : Fun Tryz.prog 80 := ⟨by kernel_rfl⟩ -- loop.example/lucarne/spec.l1Copy
instance : Fun Tryz.prog 81 := ⟨by kernel_rfl⟩ -- loop.example/lucarne/spec.l13Look
instance : Fun Tryz.prog 82 := ⟨by kernel_rfl⟩ -- loop.example/lucarne/impl.CellOk
instance : Fun Tryz.prog 83 := ⟨by kernel_rfl⟩ -- loop.example/lucarne/impl.gridCopy
instance : Fun Tryz.prog 84 := ⟨by kernel_rfl⟩ -- loop.example/lucarne/impl.PicOf
instance : Fun Tryz.prog 85 := ⟨by kernel_rfl⟩ -- loop.example/lucarne/impl.SightMany
instance : Fun Tryz.prog 86 := ⟨by kernel_rfl⟩ -- loop.example/lucarne/impl.TrailFoot
instance : Fun Tryz.prog 87 := ⟨by kernel_rfl⟩ -- slices.Equal[[]loop.example/lucarne/impl.Cell,loop.example/lucarne/impl.Cell]
instance : Fun Tryz.prog 88 := ⟨by kernel_rfl⟩ -- loop.example/lucarne/spec.CellOk
instance : Fun Tryz.prog 89 := ⟨by kernel_rfl⟩ -- loop.example/lucarne/spec.l13Touch
instance : Fun Tryz.prog 90 := ⟨by kernel_rfl⟩ -- loop.example/lucarne/impl.sceneCopy
instance : Fun Tryz.prog 91 := ⟨by kernel_rfl⟩ -- loop.example/lucarne/impl.SceneNew
instance : Fun Tryz.prog 92 := ⟨by kernel_rfl⟩ -- loop.example/lucarne/impl.SceneEdit
instance : Fun Tryz.prog 93 := ⟨by kernel_rfl⟩ -- loop.example/lucarne/spec.l1High
instance : Fun Tryz.prog 94 := ⟨by kernel_rfl⟩ -- loop.example/lucarne/spec.l11Go
instance : Fun Tryz.prog 95 := ⟨by kernel_rfl⟩ -- loop.example/lucarne/spec.l11Light
instance : Fun Tryz.prog 96 := ⟨by kernel_rfl⟩ -- loop.example/lucarne/spec.l11Foot
instance : Fun Tryz.prog 97 := ⟨by kernel_rfl⟩ -- loop.example/lucarne/impl.cellTyped
instance : Fun Tryz.prog 98 := ⟨by kernel_rfl⟩ -- slices.Clone[[]loop.example/lucarne/impl.Cell,loop.example/lucarne/impl.Cell]
instance : Fun Tryz.prog 99 := ⟨by kernel_rfl⟩ -- loop.example/lucarne/impl.sidesComputed[int]
instance : Fun Tryz.prog 100 := ⟨by kernel_rfl⟩ -- loop.example/lucarne/impl.PicOf$1
instance : Fun Tryz.prog 101 := ⟨by kernel_rfl⟩ -- loop.example/lucarne/impl.TrailLight
instance : Fun Tryz.prog 102 := ⟨by kernel_rfl⟩ -- loop.example/lucarne/impl.gridRows
instance : Fun Tryz.prog 103 := ⟨by kernel_rfl⟩ -- loop.example/lucarne/impl.trailOf
instance : Fun Tryz.prog 104 := ⟨by kernel_rfl⟩ -- slices.Sort[[]int,int]
instance : Fun Tryz.prog 105 := ⟨by kernel_rfl⟩ -- slices.Compact[[]int,int]
instance : Fun Tryz.prog 106 := ⟨by kernel_rfl⟩ -- loop.example/lucarne/spec.l13Has
instance : Fun Tryz.prog 107 := ⟨by kernel_rfl⟩ -- slices.Clone[[]int,int]
instance : Fun Tryz.prog 108 := ⟨by kernel_rfl⟩ -- loop.example/lucarne/impl.SceneMany
instance : Fun Tryz.prog 109 := ⟨by kernel_rfl⟩ -- loop.example/lucarne/spec.l3Ray
instance : Fun Tryz.prog 110 := ⟨by kernel_rfl⟩ -- (*loop.example/lucarne/spec.l11Walk).come
instance : Fun Tryz.prog 111 := ⟨by kernel_rfl⟩ -- loop.example/lucarne/impl.sideStarts
instance : Fun Tryz.prog 113 := ⟨by kernel_rfl⟩ -- loop.example/lucarne/impl.sidesComputed[int]$1
instance : Fun Tryz.prog 116 := ⟨by kernel_rfl⟩ -- loop.example/lucarne/impl.SightRay
instance : Fun Tryz.prog 117 := ⟨by kernel_rfl⟩ -- (*loop.example/lucarne/impl.trail).end
instance : Fun Tryz.prog 118 := ⟨by kernel_rfl⟩ -- loop.example/lucarne/impl.spreadOf
instance : Fun Tryz.prog 119 := ⟨by kernel_rfl⟩ -- loop.example/lucarne/impl.beamFrom
instance : Fun Tryz.prog 120 := ⟨by kernel_rfl⟩ -- loop.example/lucarne/impl.DirTurn
instance : Fun Tryz.prog 121 := ⟨by kernel_rfl⟩ -- slices.pdqsortOrdered[int]
instance : Fun Tryz.prog 122 := ⟨by kernel_rfl⟩ -- math/bits.Len
instance : Fun Tryz.prog 123 := ⟨by kernel_rfl⟩ -- loop.example/lucarne/impl.editsOk
instance : Fun Tryz.prog 124 := ⟨by kernel_rfl⟩ -- loop.example/lucarne/impl.sightsOf
instance : Fun Tryz.prog 125 := ⟨by kernel_rfl⟩ -- (*loop.example/lucarne/spec.l11Walk).end
instance : Fun Tryz.prog 126 := ⟨by kernel_rfl⟩ -- (*loop.example/lucarne/spec.l11Walk).half
instance : Fun Tryz.prog 127 := ⟨by kernel_rfl⟩ -- loop.example/lucarne/spec.DirTurn
instance : Fun Tryz.prog 128 := ⟨by kernel_rfl⟩ -- (*loop.example/lucarne/spec.l11Walk).leave
instance : Fun Tryz.prog 147 := ⟨by kernel_rfl⟩ -- loop.example/lucarne/impl.sidesTold[loop.example/lucarne/impl.Ray]
instance : Fun Tryz.prog 148 := ⟨by kernel_rfl⟩ -- loop.example/lucarne/impl.SightRay$1
instance : Fun Tryz.prog 149 := ⟨by kernel_rfl⟩ -- loop.example/lucarne/impl.spreadOf$1
instance : Fun Tryz.prog 150 := ⟨by kernel_rfl⟩ -- loop.example/lucarne/impl.spreadOf$2
instance : Fun Tryz.prog 151 := ⟨by kernel_rfl⟩ -- loop.example/lucarne/impl.spreadOf$3
instance : Fun Tryz.prog 152 := ⟨by kernel_rfl⟩ -- loop.example/lucarne/impl.spreadOf$4
instance : Fun Tryz.prog 153 := ⟨by kernel_rfl⟩ -- loop.example/lucarne/impl.spreadOf$5
instance : Fun Tryz.prog 154 := ⟨by kernel_rfl⟩ -- loop.example/lucarne/impl.rayStep
instance : Fun Tryz.prog 155 := ⟨by kernel_rfl⟩ -- loop.example/lucarne/impl.SightOf
instance : Fun Tryz.prog 156 := ⟨by kernel_rfl⟩ -- loop.example/lucarne/impl.dirOk
instance : Fun Tryz.prog 157 := ⟨by kernel_rfl⟩ -- slices.insertionSortOrdered[int]
instance : Fun Tryz.prog 158 := ⟨by kernel_rfl⟩ -- slices.heapSortOrdered[int]
instance : Fun Tryz.prog 159 := ⟨by kernel_rfl⟩ -- slices.breakPatternsOrdered[int]
instance : Fun Tryz.prog 160 := ⟨by kernel_rfl⟩ -- slices.choosePivotOrdered[int]
instance : Fun Tryz.prog 161 := ⟨by kernel_rfl⟩ -- slices.reverseRangeOrdered[int]
instance : Fun Tryz.prog 162 := ⟨by kernel_rfl⟩ -- slices.partialInsertionSortOrdered[int]
instance : Fun Tryz.prog 163 := ⟨by kernel_rfl⟩ -- cmp.Less[int]
instance : Fun Tryz.prog 164 := ⟨by kernel_rfl⟩ -- slices.partitionEqualOrdered[int]
instance : Fun Tryz.prog 165 := ⟨by kernel_rfl⟩ -- slices.partitionOrdered[int]
instance : Fun Tryz.prog 166 := ⟨by kernel_rfl⟩ -- math/bits.Len32
instance : Fun Tryz.prog 167 := ⟨by kernel_rfl⟩ -- math/bits.Len64
instance : Fun Tryz.prog 168 := ⟨by kernel_rfl⟩ -- loop.example/lucarne/impl.editOk
instance : Fun Tryz.prog 169 := ⟨by kernel_rfl⟩ -- loop.example/lucarne/spec.l2Next
instance : Fun Tryz.prog 170 := ⟨by kernel_rfl⟩ -- loop.example/lucarne/spec.l3Of
instance : Fun Tryz.prog 176 := ⟨by kernel_rfl⟩ -- (loop.example/lucarne/impl.spot).up
instance : Fun Tryz.prog 177 := ⟨by kernel_rfl⟩ -- (loop.example/lucarne/impl.spot).right
instance : Fun Tryz.prog 178 := ⟨by kernel_rfl⟩ -- (loop.example/lucarne/impl.spot).down
instance : Fun Tryz.prog 179 := ⟨by kernel_rfl⟩ -- (loop.example/lucarne/impl.spot).left
instance : Fun Tryz.prog 180 := ⟨by kernel_rfl⟩ -- loop.example/lucarne/impl.dirOpposite
instance : Fun Tryz.prog 181 := ⟨by kernel_rfl⟩ -- loop.example/lucarne/impl.sidesTold[bool]
instance : Fun Tryz.prog 182 := ⟨by kernel_rfl⟩ -- loop.example/lucarne/impl.SightOf$1
instance : Fun Tryz.prog 183 := ⟨by kernel_rfl⟩ -- slices.siftDownOrdered[int]
instance : Fun Tryz.prog 184 := ⟨by kernel_rfl⟩ -- slices.nextPowerOfTwo
instance : Fun Tryz.prog 186 := ⟨by kernel_rfl⟩ -- slices.medianAdjacentOrdered[int]
instance : Fun Tryz.prog 187 := ⟨by kernel_rfl⟩ -- slices.medianOrdered[int]
instance : Fun Tryz.prog 188 := ⟨by kernel_rfl⟩ -- cmp.isNaN[int]
instance : Fun Tryz.prog 189 := ⟨by kernel_rfl⟩ -- loop.example/lucarne/spec.l2Back
instance : Fun Tryz.prog 190 := ⟨by kernel_rfl⟩ -- slices.order2Ordered[int]
instance : Mixed Tryz.prog := ⟨by kernel_rfl⟩
end Go.Proofs.YtekjikbaefgncaaGreat

/- Walks: cells and grids, the reference's look at them. -/
namespace Go.Proofs.YtekjikbaefgncaaGreat
open Go Go.Sl
set_option maxRecDepth 100000
set_option maxHeartbeats 4000000
attribute [local irreducible] Go.Code.sf sfOps Opq opo retF Do1 anyO
variable {M : Jdg → Prop} [IsCl Tryz.prog M]
instance : ElemF Tryz.prog 44 cellF := ⟨trivial⟩
instance : ElemF Tryz.prog 3 intF := ⟨trivial⟩
instance : ElemF Tryz.prog 46 editF := ⟨trivial⟩
abbrev τ : Tys := ⟨3, 44, 46, 25, 0, 0, 39, 48, 0⟩
instance : ElemF Tryz.prog 39 (rawF (painterR τ).sz) := ⟨trivial⟩
instance : ElemF Tryz.prog 48 (rawF (wordR τ).sz) := ⟨trivial⟩
theorem l6In_v (h : PHeap) (a b c : Int) : CallV Tryz.prog M 24 [.int .i64 a, .int .i64 b, .int .i64 c] h (.bool (decide (b ≤ a) && decide (a ≤ c))) := by
  refine calls_of_sf Tryz.func24 rfl Tryz.ntmps24 ?_
  simp only [argsL, Nat.reduceAdd]
  repeat (first | refine R1 ?_ | (refine R2 ?_; intro _))
  refine f_split (fun h1 => ?_) fun h1 => ?_ <;>
  · repeat (first | refine R1 ?_ | (refine R2 ?_; intro _))
    refine sf_ret (rV ?_)
    simp [h1]
theorem sCellOk_v (h : PHeap) (c : Cell) : CallV Tryz.prog M 88 [.agg #[.int .i64 c.kind, .int .i64 c.light]] h (.bool (cellOk c)) := by
  refine calls_of_sf Tryz.func88 rfl Tryz.ntmps88 ?_
  simp only [argsL, Nat.reduceAdd]
  repeat (first | refine R1 ?_ | (refine R2 ?_; intro _))
  refine sf_if (fun h1 => ?_) fun h1 => ?_
  · repeat (first | refine R1 ?_ | (refine R2 ?_; intro _))
    refine fp (y_callV (l6In_v _ _ _ _) (by rfl) ?_)
    repeat (first | refine R1 ?_ | (refine R2 ?_; intro _))
    refine sf_ret (rV ?_)
    simp [cellOk, h1]
  · repeat (first | refine R1 ?_ | (refine R2 ?_; intro _))
    refine fp (y_callV (l6In_v _ _ _ _) (by rfl) ?_)
    repeat (first | refine R1 ?_ | (refine R2 ?_; intro _))
    refine f_splitB (fun h2 => ?_) fun h2 => ?_ <;>
    · repeat (first | refine R1 ?_ | (refine R2 ?_; intro _))
      refine sf_ret (rV ?_)
      simp [cellOk, h1, h2]
theorem sGridOk_v (h : PHeap) (v : Value) (g : Grid) (gb : GridB h v g) : CallV Tryz.prog M 78 [v] h (.bool (gridOk g)) := by
  obtain ⟨c, rfl, s⟩ := gb
  have o1 := s.one
  have hs := s.small
  refine calls_of_sf Tryz.func78 rfl Tryz.ntmps78 ?_
  simp only [argsL, Nat.reduceAdd]
  repeat (first | refine R1 ?_ | (refine R2 ?_; intro _))
  refine fp (y_callV (l6In_v _ _ _ _) (by rfl) ?_)
  repeat (first | refine R1 ?_ | (refine R2 ?_; intro _))
  refine f_splitB (fun h1 => ?_) fun h1 => ?_
  · repeat (first | refine R1 ?_ | (refine R2 ?_; intro _))
    refine sf_T rfl ?_
    repeat (first | refine R1 ?_ | (refine R2 ?_; intro _))
    refine sf_ret (rV ?_)
    simp [gridOk]; simp at h1; omega
  · have g1 : 1 ≤ g.wide ∧ g.wide ≤ 5 := by simpa using h1
    repeat (first | refine R1 ?_ | (refine R2 ?_; intro _))
    refine f_split (fun h2 => ?_) fun h2 => ?_
    · repeat (first | refine R1 ?_ | (refine R2 ?_; intro _))
      refine sf_T rfl ?_
      repeat (first | refine R1 ?_ | (refine R2 ?_; intro _))
      refine sf_ret (rV ?_)
      simp [gridOk, h2]
    · repeat (first | refine R1 ?_ | (refine R2 ?_; intro _))
      refine fp (y_callV (l6In_v _ _ _ _) (by rfl) ?_)
      repeat (first | refine R1 ?_ | (refine R2 ?_; intro _))
      refine sf_cond (by rfl) (fun h3 => ?_) fun h3 => ?_
      · repeat (first | refine R1 ?_ | (refine R2 ?_; intro _))
        refine sf_ret (rV ?_)
        simp [gridOk]; simp at h3; omega
      · have g3 : 1 ≤ (g.cells.length : Int) / g.wide ∧ (g.cells.length : Int) / g.wide ≤ 5 := by simpa using h3
        repeat (first | refine R1 ?_ | (refine R2 ?_; intro _))
        refine sf_rd [1, 2] 3 g.cells.length 0 (fun k => (g.cells.take k).all cellOk = true) (by omega) rfl (fun k hk hi => ?_)
        repeat (first | refine R1 ?_ | (refine R2 ?_; intro _))
        refine sf_if (fun h4 => ?_) fun h4 => ?_
        · have hk4 : k < g.cells.length := by omega
          repeat (first | refine R1 ?_ | (refine R2 ?_; intro _))
          refine fp (y_callV (sCellOk_v _ (gt g.cells k)) (by rfl) ?_)
          repeat (first | refine R1 ?_ | (refine R2 ?_; intro _))
          refine sf_cond (by rfl) (fun h5 => ?_) fun h5 => ?_
          · repeat (first | refine R1 ?_ | (refine R2 ?_; intro _))
            refine sf_ret (rV ?_)
            simp only [Bool.not_eq_true'] at h5
            simp [gridOk, all_false hk4 h5]
          · repeat (first | refine R1 ?_ | (refine R2 ?_; intro _))
            refine ⟨⟨hk4, ?_⟩, rfl, rfl, _, inferInstance⟩
            rw [all_take hk4, hi]; simpa using h5
        · refine sf_exit ?_
          repeat (first | refine R1 ?_ | (refine R2 ?_; intro _))
          refine sf_ret (rV ?_)
          rw [take_ge hk (by omega)] at hi
          simp [gridOk, hi, g1, g3]; omega
end Go.Proofs.YtekjikbaefgncaaGreat

/- Walks: the library's sort: insertion, heaps, turning round. -/
namespace Go.Proofs.YtekjikbaefgncaaGreat
open Go Go.Sl Go.Sort
set_option maxRecDepth 100000
set_option maxHeartbeats 4000000
attribute [local irreducible] Go.Code.sf sfOps Opq opo retF Do1 anyO
variable {M : Jdg → Prop} [IsCl Tryz.prog M]
theorem isNaN_v (h : PHeap) (x : Int) : CallV Tryz.prog M 188 [.int .i64 x] h (.bool false) := by
  refine calls_of_sf Tryz.func188 rfl Tryz.ntmps188 ?_
  simp only [argsL, Nat.reduceAdd]
  repeat (first | refine R1 ?_ | (refine R2 ?_; intro _))
  refine sf_ret (rV ?_)
  simp
theorem less_v (h : PHeap) (x y : Int) : CallV Tryz.prog M 163 [.int .i64 x, .int .i64 y] h (.bool (decide (x < y))) := by
  refine calls_of_sf Tryz.func163 rfl Tryz.ntmps163 ?_
  simp only [argsL, Nat.reduceAdd]
  repeat (first | refine R1 ?_ | (refine R2 ?_; intro _))
  refine fp (y_callV (isNaN_v _ _) (by rfl) ?_)
  repeat (first | refine R1 ?_ | (refine R2 ?_; intro _))
  exact sf_ret (rV rfl)
theorem insertionSort_f (h : PHeap) (v : Value) (A : Own) (d : Array Int) (g : Gr A v 3 intF d.toList) (a b : Nat) (hb : b ≤ d.size) (hs : d.size ≤ 1000000) (ha : a ≤ b) :
    CallF Tryz.prog M 157 [v, .int .i64 (a : Int), .int .i64 (b : Int)] A h fun u A' => u = .tuple #[] ∧ Gr A' v 3 intF (insertionSort ltInt d a b).toList := by
  have o := g.one
  refine calls_of_sf Tryz.func157 rfl Tryz.ntmps157 ?_
  simp only [argsL, Nat.reduceAdd]
  repeat (first | refine R1 ?_ | (refine R2 ?_; intro _))
  refine sf_lp (ι := Nat × Array Int) [0, 1, 2] (fun x => [(6, .int .i64 (x.1 : Int))]) (fun x O => Gr O v 3 intF x.2.toList ∧ x.2.size = d.size ∧ a + 1 ≤ x.1 ∧ insOuter ltInt a b x.1 x.2 = insertionSort ltInt d a b) (fun x => b - x.1) (a + 1, d) A ⟨g, rfl, by simp only; omega, rfl⟩ ?_
  rintro ⟨i, e⟩ O ⟨ge, hsz, hi, hinv⟩
  simp only at ge hsz hi hinv ⊢
  repeat (first | refine R1 ?_ | (refine R2 ?_; intro _))
  refine sf_if (fun h1 => ?_) fun h1 => ?_
  · repeat (first | refine R1 ?_ | (refine R2 ?_; intro _))
    refine sf_lp (ι := Nat × Array Int) [0, 1, 2, 6] (fun x => [(7, .int .i64 (x.1 : Int))]) (fun x O => Gr O v 3 intF x.2.toList ∧ x.2.size = d.size ∧ x.1 < b ∧ insInner ltInt a x.1 x.2 = insInner ltInt a i e) (fun x => x.1) (i, e) O ⟨ge, hsz, by simp only; omega, rfl⟩ ?_
    rintro ⟨j, f⟩ O ⟨gf, fsz, hj, finv⟩
    simp only at gf fsz hj finv ⊢
    clear ge
    by_cases h2 : a < j
    · obtain ⟨j, rfl⟩ : ∃ j', j = j' + 1 := ⟨j - 1, by omega⟩
      have h3 : (a : Int) < ((j + 1 : Nat) : Int) := by omega
      have lf : f.toList.length = f.size := by simp
      have q1 : gt f.toList ((j + 1 : Nat) : Int).toNat = f[j + 1]! := gt_arr' (by omega) (by omega)
      have q2 : gt f.toList (((j + 1 : Nat) : Int) - 1).toNat = f[j]! := gt_arr' (by omega) (by omega)
      repeat (first | refine R1 ?_ | (refine R2 ?_; intro _))
      refine sf_draw (by kernel_rfl) (regX_run [[], [], [0, 1], [0, 1, 2], [0, 1, 2, 3], [0, 1, 2, 3], [0, 1, 2, 3, 4, 5], [0, 1, 2, 3, 4, 5, 6], [0, 1, 2, 3], [0, 1, 2, 3], [0, 1, 2, 3, 9], [0, 1, 2, 3, 8, 9, 10], [0, 1, 2, 3, 8, 9, 10, 11], [0, 1, 2, 3, 4, 5, 6, 7, 8, 9, 10, 11, 12], [0, 1, 2, 3, 4, 5, 6, 7, 8, 9, 10, 11, 12, 13]] 13 [(0, false), (1, false), (2, false), (3, false), (4, false), (5, false), (6, false), (7, false), (8, false), (9, false), (10, false), (11, false), (12, false)] (by kernel_rfl) (by kernel_rfl) (by kernel_rfl) ?_)
      repeat (first | refine Da1 ?_ | refine Da3 ?_)
      (refine a_end (by rfl) (by rfl) ?_; simp only [finA, setL, List.drop_succ_cons, List.drop_zero])
      refine fp (y_callV (less_v _ _ _) (by rfl) ?_)
      repeat (first | refine R1 ?_ | (refine R2 ?_; intro _))
      refine sf_if (fun h4 => ?_) fun h4 => ?_
      · repeat (first | refine R1 ?_ | (refine R2 ?_; intro _))
        refine sf_draw (by kernel_rfl) (regX_own (O) (regX_split 9 13 (by rfl) ?_ ?_))
        case' refine_1 =>
          refine (regX_runW _ [[], [], [], [], [3], [], [], [6], [5, 6, 7], [5, 6, 7, 8], [], [], [10, 11], [5, 6, 7, 8, 9, 10, 11, 12], [0, 1, 5, 6, 7, 8, 9, 10, 11, 12, 13], [0, 1, 5, 6, 7, 8, 9, 10, 11, 12, 13, 14], [0, 1, 2, 3, 4, 5, 6, 7, 8, 9, 10, 11, 12, 13, 14, 15], [0, 1, 2, 3, 4, 5, 6, 7, 8, 9, 10, 11, 12, 13, 14, 15, 16]] 16 [(0, false), (1, false), (2, false), (3, false), (4, false), (5, false), (6, false), (7, false), (8, false), (10, false), (11, false), (12, false), (9, true), (13, true), (14, false), (15, true)] (by kernel_rfl) (by kernel_rfl) (by kernel_rfl) ?_)
          repeat (first | refine Da1 ?_ | refine Da3 ?_)
          refine a_qw (by rfl) (.inl rfl) (z_loadG (by rfl) gf (by omega) (by rfl)) ?_
          repeat (first | refine Da1 ?_ | refine Da3 ?_)
          refine a_qw (by rfl) (.inl rfl) (z_loadG (by rfl) gf (by omega) (by rfl)) ?_
          repeat (first | refine Da1 ?_ | refine Da3 ?_)
          refine a_storeG0 (by rfl) (by rfl) (by rfl) (.inl rfl) gf (by omega) (by rfl) fun As ys hy hl fs gg => ?_
          repeat (first | refine Da1 ?_ | refine Da3 ?_)
          (refine a_end (by rfl) (by rfl) ?_; simp only [finA, setL, List.drop_succ_cons, List.drop_zero])
        case' refine_2 =>
          refine (regX_runW _ [[], [], [], [], [3], [], [], [6], [5, 6, 7], [5, 6, 7, 8, 10, 11, 12, 13], [], [], [10, 11], [10, 11, 12], [0, 1, 5, 6, 7, 8, 9, 10, 11, 12, 13], [0, 1, 5, 6, 7, 8, 9, 10, 11, 12, 13, 14], [0, 1, 2, 3, 4, 5, 6, 7, 8, 9, 10, 11, 12, 13, 14, 15], [0, 1, 2, 3, 4, 5, 6, 7, 8, 9, 10, 11, 12, 13, 14, 15, 16]] 16 [(0, false), (1, false), (2, false), (3, false), (4, false), (5, false), (6, false), (7, false), (8, false), (10, false), (11, false), (12, false), (13, true), (9, true), (14, false), (15, true)] (by kernel_rfl) (by kernel_rfl) (by kernel_rfl) ?_)
          repeat (first | refine Da1 ?_ | refine Da3 ?_)
          refine a_qw (by rfl) (.inl rfl) (z_loadG (by rfl) gf (by omega) (by rfl)) ?_
          repeat (first | refine Da1 ?_ | refine Da3 ?_)
          refine a_qw (by rfl) (.inl rfl) (z_loadG (by rfl) gf (by omega) (by rfl)) ?_
          repeat (first | refine Da1 ?_ | refine Da3 ?_)
          refine a_storeG0 (by rfl) (by rfl) (by rfl) (.inl rfl) gf (by omega) (by rfl) fun As ys hy hl fs gg => ?_
          repeat (first | refine Da1 ?_ | refine Da3 ?_)
          (refine a_end (by rfl) (by rfl) ?_; simp only [finA, setL, List.drop_succ_cons, List.drop_zero])
        all_goals
          repeat (first | refine R1 ?_ | (refine R2 ?_; intro _) | refine fp (Rq ?_ (z_indexGI (by rfl) (by rfl) (by assumption) (by omega) (by omega))))
          refine fp (y_storeG0 (by rfl) (by rfl) gg (by omega) (by rfl) fun At zs hz hlz fz gz => ?_)
          repeat (first | refine R1 ?_ | (refine R2 ?_; intro _) | refine fp (Rq ?_ (z_indexGI (by rfl) (by rfl) (by assumption) (by omega) (by omega))))
          have hf : zs = (swp f (j + 1) j).toList := swp_is hy hz (by omega) (by omega) (by omega) (by omega) (by omega) (by omega)
          rw [hf] at gz
          exact ⟨(j, swp f (j + 1) j), by simp only; omega, ⟨vI (by omega), trivial⟩, rfl, _, _, inferInstance, gz, by simp only [swp_size]; exact fsz, by simp only; omega, by simp only; rw [← finv, insInner_go h2 (by rw [← q1, ← q2]; exact h4)]⟩
      · refine sf_exit ?_
        repeat (first | refine R1 ?_ | (refine R2 ?_; intro _))
        exact ⟨(i + 1, f), by simp only; omega, ⟨rfl, trivial⟩, rfl, _, _, inferInstance, gf, fsz, by simp only; omega, by simp only; rw [← hinv, insOuter_go (i := i) (d := e) (by omega), ← finv, insInner_stop (by rw [← q1, ← q2]; exact h4)]⟩
    · have h3 : ¬ (a : Int) < (j : Int) := by omega
      repeat (first | refine R1 ?_ | (refine R2 ?_; intro _))
      refine sf_draw (by kernel_rfl) (regX_run [[], [], [0, 1], [0, 1, 2], [0, 1, 2, 3], [0, 1, 2, 3], [0, 1, 2, 3, 4, 5], [0, 1, 2, 3, 4, 5, 6], [0, 1, 2, 3], [0, 1, 2, 3], [0, 1, 2, 3, 9], [0, 1, 2, 3, 8, 9, 10], [0, 1, 2, 3, 8, 9, 10, 11], [0, 1, 2, 3, 4, 5, 6, 7, 8, 9, 10, 11, 12], [0, 1, 2, 3, 4, 5, 6, 7, 8, 9, 10, 11, 12, 13]] 13 [(0, false), (1, false), (2, false), (3, false), (4, false), (5, false), (6, false), (7, false), (8, false), (9, false), (10, false), (11, false), (12, false)] (by kernel_rfl) (by kernel_rfl) (by kernel_rfl) ?_)
      repeat (first | refine Da1 ?_ | refine Da3 ?_)
      (refine a_end (by rfl) (by rfl) ?_; simp only [finA, setL, List.drop_succ_cons, List.drop_zero])
      repeat (first | refine R1 ?_ | (refine R2 ?_; intro _))
      refine sf_cond (by rfl) (fun e => by cases e) fun z1 => ?_
      clear z1
      refine sf_exit ?_
      repeat (first | refine R1 ?_ | (refine R2 ?_; intro _))
      exact ⟨(i + 1, f), by simp only; omega, ⟨rfl, trivial⟩, rfl, _, _, inferInstance, gf, fsz, by simp only; omega, by simp only; rw [← hinv, insOuter_go (i := i) (d := e) (by omega), ← finv, insInner_no h2]⟩
  · refine sf_exit ?_
    repeat (first | refine R1 ?_ | (refine R2 ?_; intro _))
    refine nO O ⟨rfl, ?_⟩
    rw [← hinv, insOuter_end (by omega)]
    exact ge
theorem siftDown_f (h : PHeap) (v : Value) (A : Own) (d : Array Int) (g : Gr A v 3 intF d.toList) (lo hi first : Nat) (hb : first + hi ≤ d.size) (hs : d.size ≤ 1000000) (hl : lo ≤ 1000000) :
    CallF Tryz.prog M 183 [v, .int .i64 (lo : Int), .int .i64 (hi : Int), .int .i64 (first : Int)] A h fun u A' => u = .tuple #[] ∧ Gr A' v 3 intF (siftDown ltInt hi first lo d).toList := by
  have o := g.one
  refine calls_of_sf Tryz.func183 rfl Tryz.ntmps183 ?_
  simp only [argsL, Nat.reduceAdd]
  repeat (first | refine R1 ?_ | (refine R2 ?_; intro _))
  refine sf_lp (ι := Nat × Array Int) [0, 2, 3] (fun x => [(8, .int .i64 (x.1 : Int))]) (fun x O => Gr O v 3 intF x.2.toList ∧ x.2.size = d.size ∧ x.1 ≤ 1000000 ∧ siftDown ltInt hi first x.1 x.2 = siftDown ltInt hi first lo d) (fun x => hi - x.1) (lo, d) A ⟨g, rfl, hl, rfl⟩ ?_
  rintro ⟨r, f⟩ O ⟨gf, fsz, hr, finv⟩
  simp only at gf fsz hr finv ⊢
  have lf : f.toList.length = f.size := by simp
  repeat (first | refine R1 ?_ | (refine R2 ?_; intro _))
  refine sf_if (fun h1 => ?_) fun h1 => ?_
  · refine sf_exit ?_
    repeat (first | refine R1 ?_ | (refine R2 ?_; intro _))
    refine nO O ⟨rfl, ?_⟩
    rw [← finv, siftDown, dif_pos (by omega)]
    exact gf
  repeat (first | refine R1 ?_ | (refine R2 ?_; intro _))
  have q1 : 2 * r + 1 < hi := by omega
  have w1 : gt f.toList ((first : Int) + (2 * (r : Int) + 1)).toNat = f[first + (2 * r + 1)]! := gt_arr' (by omega) (by omega)
  obtain ⟨c, hc⟩ := child_is hi first r f
  have cb : c < hi := by rcases hc with ⟨⟨_, _⟩, rfl⟩ | ⟨_, rfl⟩ <;> omega
  have cr : r < c := by rcases hc with ⟨⟨_, _⟩, rfl⟩ | ⟨_, rfl⟩ <;> omega
  have hstep := siftDown_step q1 hc
  apply viaT
  · intro tail
    by_cases hA : 2 * (r : Int) + 1 + 1 < (hi : Int)
    · have w2 : gt f.toList ((first : Int) + (2 * (r : Int) + 1) + 1).toNat = f[first + (2 * r + 2)]! := gt_arr' (by omega) (by omega)
      refine sf_draw (by kernel_rfl) (regX_run [[], [0], [], [0, 1, 2], [0, 1, 2, 3], [0, 1, 2, 3, 4], [0, 1, 2, 3, 4], [0, 1, 2, 3, 4], [0, 1, 2, 3, 4, 6, 7], [0, 1, 2, 3, 4, 5, 6, 7, 8], [0, 1, 2, 3, 4, 5, 6, 7, 8, 9], [0, 1, 2, 3, 4], [0, 1, 2, 3, 4], [0, 1, 2, 3, 4], [0, 1, 2, 3, 4, 12, 13], [0, 1, 2, 3, 4, 12, 13, 14], [0, 1, 2, 3, 4, 11, 12, 13, 14, 15], [0, 1, 2, 3, 4, 11, 12, 13, 14, 15, 16], [0, 1, 2, 3, 4, 5, 6, 7, 8, 9, 10, 11, 12, 13, 14, 15, 16, 17], [0, 1, 2, 3, 4, 5, 6, 7, 8, 9, 10, 11, 12, 13, 14, 15, 16, 17, 18]] 18 [(0, false), (1, false), (2, false), (3, false), (4, false), (5, false), (6, false), (7, false), (8, false), (9, false), (10, false), (11, false), (12, false), (13, false), (14, false), (15, false), (16, false), (17, false)] (by kernel_rfl) (by kernel_rfl) (by kernel_rfl) ?_)
      repeat (first | refine Da1 ?_ | refine Da3 ?_)
      (refine a_end (by rfl) (by rfl) ?_; simp only [finA, setL, List.drop_succ_cons, List.drop_zero])
      refine fp (y_callV (less_v _ _ _) (by rfl) ?_)
      repeat (first | refine R1 ?_ | (refine R2 ?_; intro _))
      rw [w1, w2]
      rcases hc with ⟨⟨_, hB⟩, hc⟩ | ⟨hB, hc⟩
      · refine sf_T (decide_eq_true hB) ?_
        repeat (first | refine R1 ?_ | (refine R2 ?_; intro _))
        rw [show 2 * (r : Int) + 1 + 1 = (c : Int) by omega]
        refine sf_keep [0, 2, 3, 8, 9] ?_
        exact tail.out
      · refine sf_N (decide_eq_false fun h => hB ⟨by omega, h⟩) ?_
        repeat (first | refine R1 ?_ | (refine R2 ?_; intro _))
        rw [show 2 * (r : Int) + 1 = (c : Int) by omega]
        refine sf_keep [0, 2, 3, 8, 9] ?_
        exact tail.out
    · refine sf_draw (by kernel_rfl) (regX_run [[], [0], [], [0, 1, 2], [0, 1, 2, 3], [0, 1, 2, 3, 4], [0, 1, 2, 3, 4], [0, 1, 2, 3, 4], [0, 1, 2, 3, 4, 6, 7], [0, 1, 2, 3, 4, 5, 6, 7, 8], [0, 1, 2, 3, 4, 5, 6, 7, 8, 9], [0, 1, 2, 3, 4], [0, 1, 2, 3, 4], [0, 1, 2, 3, 4], [0, 1, 2, 3, 4, 12, 13], [0, 1, 2, 3, 4, 12, 13, 14], [0, 1, 2, 3, 4, 11, 12, 13, 14, 15], [0, 1, 2, 3, 4, 11, 12, 13, 14, 15, 16], [0, 1, 2, 3, 4, 5, 6, 7, 8, 9, 10, 11, 12, 13, 14, 15, 16, 17], [0, 1, 2, 3, 4, 5, 6, 7, 8, 9, 10, 11, 12, 13, 14, 15, 16, 17, 18]] 18 [(0, false), (1, false), (2, false), (3, false), (4, false), (5, false), (6, false), (7, false), (8, false), (9, false), (10, false), (11, false), (12, false), (13, false), (14, false), (15, false), (16, false), (17, false)] (by kernel_rfl) (by kernel_rfl) (by kernel_rfl) ?_)
      repeat (first | refine Da1 ?_ | refine Da3 ?_)
      (refine a_end (by rfl) (by rfl) ?_; simp only [finA, setL, List.drop_succ_cons, List.drop_zero])
      repeat (first | refine R1 ?_ | (refine R2 ?_; intro _))
      refine sf_cond (by rfl) (fun e => by cases e) fun z1 => ?_
      clear z1
      repeat (first | refine R1 ?_ | (refine R2 ?_; intro _))
      rw [show 2 * (r : Int) + 1 = (c : Int) by rcases hc with ⟨⟨_, _⟩, rfl⟩ | ⟨_, rfl⟩ <;> omega]
      refine sf_keep [0, 2, 3, 8, 9] ?_
      exact tail.out
  repeat (first | refine R1 ?_ | (refine R2 ?_; intro _))
  have v1 : gt f.toList (first + r) = f[first + r]! := gt_arr (by omega)
  have v2 : gt f.toList (first + c) = f[first + c]! := gt_arr (by omega)
  refine sf_draw (by kernel_rfl) (regX_run [[], [], [], [1, 2], [0, 1, 2, 3], [0, 1, 2, 3, 4], [], [], [], [7, 8], [6, 7, 8, 9], [6, 7, 8, 9, 10], [0, 1, 2, 3, 4, 5, 6, 7, 8, 9, 10, 11], [0, 1, 2, 3, 4, 5, 6, 7, 8, 9, 10, 11, 12]] 12 [(0, false), (1, false), (2, false), (3, false), (4, false), (5, false), (6, false), (7, false), (8, false), (9, false), (10, false), (11, false)] (by kernel_rfl) (by kernel_rfl) (by kernel_rfl) ?_)
  repeat (first | refine Da1 ?_ | refine Da3 ?_)
  (refine a_end (by rfl) (by rfl) ?_; simp only [finA, setL, List.drop_succ_cons, List.drop_zero])
  refine fp (y_callV (less_v _ _ _) (by rfl) ?_)
  repeat (first | refine R1 ?_ | (refine R2 ?_; intro _))
  rw [v1, v2]
  refine sf_ifn (fun h4 => ?_) fun h4 => ?_
  · repeat (first | refine R1 ?_ | (refine R2 ?_; intro _))
    refine sf_ret (rO O ⟨rfl, ?_⟩)
    rw [← finv, hstep, if_neg h4]
    exact gf
  rw [if_pos h4] at hstep
  repeat (first | refine R1 ?_ | (refine R2 ?_; intro _))
  refine sf_draw (by kernel_rfl) (regX_own (O) (regX_split 13 19 (by rfl) ?_ ?_))
  case' refine_1 =>
    refine (regX_runW _ [[], [], [], [1, 2], [], [], [], [5, 6], [], [], [], [9, 10], [8, 9, 10, 11], [8, 9, 10, 11, 12], [], [], [], [15, 16], [14, 15, 16, 17], [8, 9, 10, 11, 12, 13, 14, 15, 16, 17, 18], [0, 1, 2, 3, 8, 9, 10, 11, 12, 13, 14, 15, 16, 17, 18, 19], [0, 1, 2, 3, 8, 9, 10, 11, 12, 13, 14, 15, 16, 17, 18, 19, 20], [0, 1, 2, 3, 4, 5, 6, 7, 8, 9, 10, 11, 12, 13, 14, 15, 16, 17, 18, 19, 20, 21], [0, 1, 2, 3, 4, 5, 6, 7, 8, 9, 10, 11, 12, 13, 14, 15, 16, 17, 18, 19, 20, 21, 22]] 22 [(0, false), (1, false), (2, false), (3, false), (4, false), (5, false), (6, false), (7, false), (8, false), (9, false), (10, false), (11, false), (12, false), (14, false), (15, false), (16, false), (17, false), (18, false), (13, true), (19, true), (20, false), (21, true)] (by kernel_rfl) (by kernel_rfl) (by kernel_rfl) ?_)
    repeat (first | refine Da1 ?_ | refine Da3 ?_)
    refine a_qw (by rfl) (.inl rfl) (z_loadG (by rfl) gf (by omega) (by rfl)) ?_
    repeat (first | refine Da1 ?_ | refine Da3 ?_)
    refine a_qw (by rfl) (.inl rfl) (z_loadG (by rfl) gf (by omega) (by rfl)) ?_
    repeat (first | refine Da1 ?_ | refine Da3 ?_)
    refine a_storeG0 (by rfl) (by rfl) (by rfl) (.inl rfl) gf (by omega) (by rfl) fun As ys hy hl fs gg => ?_
    repeat (first | refine Da1 ?_ | refine Da3 ?_)
    (refine a_end (by rfl) (by rfl) ?_; simp only [finA, setL, List.drop_succ_cons, List.drop_zero])
  case' refine_2 =>
    refine (regX_runW _ [[], [], [], [1, 2], [], [], [], [5, 6], [], [], [], [9, 10], [8, 9, 10, 11], [8, 9, 10, 11, 12, 14, 15, 16, 17, 18, 19], [], [], [], [15, 16], [14, 15, 16, 17], [14, 15, 16, 17, 18], [0, 1, 2, 3, 8, 9, 10, 11, 12, 13, 14, 15, 16, 17, 18, 19], [0, 1, 2, 3, 8, 9, 10, 11, 12, 13, 14, 15, 16, 17, 18, 19, 20], [0, 1, 2, 3, 4, 5, 6, 7, 8, 9, 10, 11, 12, 13, 14, 15, 16, 17, 18, 19, 20, 21], [0, 1, 2, 3, 4, 5, 6, 7, 8, 9, 10, 11, 12, 13, 14, 15, 16, 17, 18, 19, 20, 21, 22]] 22 [(0, false), (1, false), (2, false), (3, false), (4, false), (5, false), (6, false), (7, false), (8, false), (9, false), (10, false), (11, false), (12, false), (14, false), (15, false), (16, false), (17, false), (18, false), (19, true), (13, true), (20, false), (21, true)] (by kernel_rfl) (by kernel_rfl) (by kernel_rfl) ?_)
    repeat (first | refine Da1 ?_ | refine Da3 ?_)
    refine a_qw (by rfl) (.inl rfl) (z_loadG (by rfl) gf (by omega) (by rfl)) ?_
    repeat (first | refine Da1 ?_ | refine Da3 ?_)
    refine a_qw (by rfl) (.inl rfl) (z_loadG (by rfl) gf (by omega) (by rfl)) ?_
    repeat (first | refine Da1 ?_ | refine Da3 ?_)
    refine a_storeG0 (by rfl) (by rfl) (by rfl) (.inl rfl) gf (by omega) (by rfl) fun As ys hy hl fs gg => ?_
    repeat (first | refine Da1 ?_ | refine Da3 ?_)
    (refine a_end (by rfl) (by rfl) ?_; simp only [finA, setL, List.drop_succ_cons, List.drop_zero])
  all_goals
    repeat (first | refine R1 ?_ | (refine R2 ?_; intro _) | refine fp (Rq ?_ (z_indexGI (by rfl) (by rfl) (by assumption) (by omega) (by omega))))
    refine fp (y_storeG0 (by rfl) (by rfl) gg (by omega) (by rfl) fun At zs hz hlz fz gz => ?_)
    repeat (first | refine R1 ?_ | (refine R2 ?_; intro _) | refine fp (Rq ?_ (z_indexGI (by rfl) (by rfl) (by assumption) (by omega) (by omega))))
    have hf : zs = (swp f (first + r) (first + c)).toList := swp_is hy hz (by omega) (by omega) (by omega) (by omega) (by omega) (by omega)
    rw [hf] at gz
    exact ⟨(c, swp f (first + r) (first + c)), by simp only; omega, ⟨rfl, trivial⟩, rfl, _, _, inferInstance, gz, by simp only [swp_size]; exact fsz, by simp only; omega, by simp only; rw [← finv, hstep]⟩
theorem heapSort_f (h : PHeap) (v : Value) (A : Own) (d : Array Int) (g : Gr A v 3 intF d.toList) (a b : Nat) (hb : b ≤ d.size) (hs : d.size ≤ 1000000) (hab : a < b) :
    CallF Tryz.prog M 158 [v, .int .i64 (a : Int), .int .i64 (b : Int)] A h fun u A' => u = .tuple #[] ∧ Gr A' v 3 intF (heapSort ltInt d a b).toList := by
  have o := g.one
  obtain ⟨n, rfl⟩ : ∃ n : Nat, b = a + n := ⟨b - a, by omega⟩
  refine calls_of_sf Tryz.func158 rfl Tryz.ntmps158 ?_
  simp only [argsL, Nat.reduceAdd]
  repeat (first | refine R1 ?_ | (refine R2 ?_; intro _))
  have e0 : ((a + n : Nat) : Int) - (a : Int) = (n : Int) := by omega
  rw [e0]
  rw [show ((n : Int) - 1) / 2 = (((n - 1) / 2 + 1 : Nat) : Int) - 1 by omega]
  have hsort : heapSort ltInt d a (a + n) = heapPop ltInt a n (heapBuild ltInt n a ((n - 1) / 2 + 1) d) := by
    unfold heapSort; rw [show a + n - a = n by omega]
  refine sf_lp (ι := Nat × Array Int) [0, 6, 7, 8] (fun x => [(9, .int .i64 ((x.1 : Int) - 1))]) (fun x O => Gr O v 3 intF x.2.toList ∧ x.2.size = d.size ∧ x.1 ≤ n + 1 ∧ heapBuild ltInt n a x.1 x.2 = heapBuild ltInt n a ((n - 1) / 2 + 1) d) (fun x => x.1) ((n - 1) / 2 + 1, d) A ⟨g, rfl, by simp only; omega, rfl⟩ ?_
  rintro ⟨k, f⟩ O ⟨gf, fsz, hk, finv⟩
  simp only at gf fsz hk finv ⊢
  repeat (first | refine R1 ?_ | (refine R2 ?_; intro _))
  refine sf_if (fun h1 => ?_) fun h1 => ?_
  · obtain ⟨k, rfl⟩ : ∃ k', k = k' + 1 := ⟨k - 1, by omega⟩
    rw [show (((k + 1 : Nat) : Int) - 1) = (k : Int) by omega]
    repeat (first | refine R1 ?_ | (refine R2 ?_; intro _))
    refine fp (y_call (siftDown_f (M := M) _ v O f gf k n a (by omega) (by omega) (by omega)) (by rfl) ?_)
    rintro _ A1 ⟨rfl, g1⟩
    repeat (first | refine R1 ?_ | (refine R2 ?_; intro _))
    exact ⟨(k, _), by simp only; omega, ⟨rfl, trivial⟩, rfl, A1, _, inferInstance, g1, by simp only [siftDown_size]; exact fsz, by simp only; omega, by simp only; rw [← finv]; rfl⟩
  · refine sf_exit ?_
    obtain rfl : k = 0 := by omega
    rw [← finv] at hsort
    clear finv
    repeat (first | refine R1 ?_ | (refine R2 ?_; intro _))
    refine sf_lp (ι := Nat × Array Int) [0, 6, 7] (fun x => [(10, .int .i64 ((x.1 : Int) - 1))]) (fun x O => Gr O v 3 intF x.2.toList ∧ x.2.size = d.size ∧ x.1 ≤ n ∧ heapPop ltInt a x.1 x.2 = heapSort ltInt d a (a + n)) (fun x => x.1) (n, f) O ⟨gf, fsz, by simp only; omega, hsort.symm⟩ ?_
    rintro ⟨k, f⟩ O ⟨gf, fsz, hk, finv⟩
    simp only at gf fsz hk finv ⊢
    have lf : f.toList.length = f.size := by simp
    repeat (first | refine R1 ?_ | (refine R2 ?_; intro _))
    refine sf_if (fun h1 => ?_) fun h1 => ?_
    · obtain ⟨k, rfl⟩ : ∃ k', k = k' + 1 := ⟨k - 1, by omega⟩
      rw [show (((k + 1 : Nat) : Int) - 1) = (k : Int) by omega]
      repeat (first | refine R1 ?_ | (refine R2 ?_; intro _))
      refine sf_draw (by kernel_rfl) (regX_own (O) (regX_split 11 15 (by rfl) ?_ ?_))
      case' refine_1 =>
        refine (regX_runW _ [[], [], [], [], [], [3, 4], [], [], [], [7, 8], [6, 7, 8, 9], [6, 7, 8, 9, 10], [], [], [12, 13], [6, 7, 8, 9, 10, 11, 12, 13, 14], [0, 1, 6, 7, 8, 9, 10, 11, 12, 13, 14, 15], [0, 1, 6, 7, 8, 9, 10, 11, 12, 13, 14, 15, 16], [0, 1, 2, 3, 4, 5, 6, 7, 8, 9, 10, 11, 12, 13, 14, 15, 16, 17], [0, 1, 2, 3, 4, 5, 6, 7, 8, 9, 10, 11, 12, 13, 14, 15, 16, 17, 18]] 18 [(0, false), (1, false), (2, false), (3, false), (4, false), (5, false), (6, false), (7, false), (8, false), (9, false), (10, false), (12, false), (13, false), (14, false), (11, true), (15, true), (16, false), (17, true)] (by kernel_rfl) (by kernel_rfl) (by kernel_rfl) ?_)
        repeat (first | refine Da1 ?_ | refine Da3 ?_)
        refine a_qw (by rfl) (.inl rfl) (z_loadG (by rfl) gf (by omega) (by rfl)) ?_
        repeat (first | refine Da1 ?_ | refine Da3 ?_)
        refine a_qw (by rfl) (.inl rfl) (z_loadG (by rfl) gf (by omega) (by rfl)) ?_
        repeat (first | refine Da1 ?_ | refine Da3 ?_)
        refine a_storeG0 (by rfl) (by rfl) (by rfl) (.inl rfl) gf (by omega) (by rfl) fun As ys hy hl fs gg => ?_
        repeat (first | refine Da1 ?_ | refine Da3 ?_)
        (refine a_end (by rfl) (by rfl) ?_; simp only [finA, setL, List.drop_succ_cons, List.drop_zero])
      case' refine_2 =>
        refine (regX_runW _ [[], [], [], [], [], [3, 4], [], [], [], [7, 8], [6, 7, 8, 9], [6, 7, 8, 9, 10, 12, 13, 14, 15], [], [], [12, 13], [12, 13, 14], [0, 1, 6, 7, 8, 9, 10, 11, 12, 13, 14, 15], [0, 1, 6, 7, 8, 9, 10, 11, 12, 13, 14, 15, 16], [0, 1, 2, 3, 4, 5, 6, 7, 8, 9, 10, 11, 12, 13, 14, 15, 16, 17], [0, 1, 2, 3, 4, 5, 6, 7, 8, 9, 10, 11, 12, 13, 14, 15, 16, 17, 18]] 18 [(0, false), (1, false), (2, false), (3, false), (4, false), (5, false), (6, false), (7, false), (8, false), (9, false), (10, false), (12, false), (13, false), (14, false), (15, true), (11, true), (16, false), (17, true)] (by kernel_rfl) (by kernel_rfl) (by kernel_rfl) ?_)
        repeat (first | refine Da1 ?_ | refine Da3 ?_)
        refine a_qw (by rfl) (.inl rfl) (z_loadG (by rfl) gf (by omega) (by rfl)) ?_
        repeat (first | refine Da1 ?_ | refine Da3 ?_)
        refine a_qw (by rfl) (.inl rfl) (z_loadG (by rfl) gf (by omega) (by rfl)) ?_
        repeat (first | refine Da1 ?_ | refine Da3 ?_)
        refine a_storeG0 (by rfl) (by rfl) (by rfl) (.inl rfl) gf (by omega) (by rfl) fun As ys hy hl fs gg => ?_
        repeat (first | refine Da1 ?_ | refine Da3 ?_)
        (refine a_end (by rfl) (by rfl) ?_; simp only [finA, setL, List.drop_succ_cons, List.drop_zero])
      all_goals
        repeat (first | refine R1 ?_ | (refine R2 ?_; intro _) | refine fp (Rq ?_ (z_indexGI (by rfl) (by rfl) (by assumption) (by omega) (by omega))))
        refine fp (y_storeG0 (by rfl) (by rfl) gg (by omega) (by rfl) fun At zs hz hlz fz gz => ?_)
        repeat (first | refine R1 ?_ | (refine R2 ?_; intro _) | refine fp (Rq ?_ (z_indexGI (by rfl) (by rfl) (by assumption) (by omega) (by omega))))
        have hf : zs = (swp f a (a + k)).toList := swp_is hy hz (by omega) (by omega) (by omega) (by omega) (by omega) (by omega)
        rw [hf] at gz
        refine fp (y_call (siftDown_f (M := M) _ v At (swp f a (a + k)) gz 0 k a (by rw [swp_size]; omega) (by rw [swp_size]; omega) (by omega)) (by rfl) ?_)
        rintro _ A1 ⟨rfl, g1⟩
        repeat (first | refine R1 ?_ | (refine R2 ?_; intro _))
        exact ⟨(k, _), by simp only; omega, ⟨rfl, trivial⟩, rfl, A1, _, inferInstance, g1, by simp only [siftDown_size, swp_size]; exact fsz, by simp only; omega, by simp only; rw [← finv]; rfl⟩
    · refine sf_exit ?_
      obtain rfl : k = 0 := by omega
      repeat (first | refine R1 ?_ | (refine R2 ?_; intro _))
      refine nO O ⟨rfl, ?_⟩
      rw [← finv]
      exact gf
theorem reverseRange_f (h : PHeap) (v : Value) (A : Own) (d : Array Int) (g : Gr A v 3 intF d.toList) (a b : Nat) (hb : b ≤ d.size) (hs : d.size ≤ 1000000) (hab : a < b) :
    CallF Tryz.prog M 161 [v, .int .i64 (a : Int), .int .i64 (b : Int)] A h fun u A' => u = .tuple #[] ∧ Gr A' v 3 intF (reverseRange d a b).toList := by
  have o := g.one
  obtain ⟨n, rfl⟩ : ∃ n : Nat, b = n + 1 := ⟨b - 1, by omega⟩
  refine calls_of_sf Tryz.func161 rfl Tryz.ntmps161 ?_
  simp only [argsL, Nat.reduceAdd]
  repeat (first | refine R1 ?_ | (refine R2 ?_; intro _))
  rw [show (((n + 1 : Nat) : Int) - 1) = (n : Int) by omega]
  refine sf_lp (ι := Nat × Nat × Array Int) [0] (fun x => [(6, .int .i64 (x.1 : Int)), (7, .int .i64 (x.2.1 : Int))]) (fun x O => Gr O v 3 intF x.2.2.toList ∧ x.2.2.size = d.size ∧ x.2.1 ≤ n ∧ reverseLoop x.1 x.2.1 x.2.2 = reverseRange d a (n + 1)) (fun x => x.2.1) (a, n, d) A ⟨g, rfl, by simp only; omega, rfl⟩ ?_
  rintro ⟨i, j, f⟩ O ⟨gf, fsz, hk, finv⟩
  simp only at gf fsz hk finv ⊢
  have lf : f.toList.length = f.size := by simp
  repeat (first | refine R1 ?_ | (refine R2 ?_; intro _))
  refine sf_if (fun h1 => ?_) fun h1 => ?_
  · have hst : reverseLoop i j f = reverseLoop (i + 1) (j - 1) (swp f i j) := by rw [reverseLoop, if_pos (by omega)]
    obtain ⟨j, rfl⟩ : ∃ k', j = k' + 1 := ⟨j - 1, by omega⟩
    repeat (first | refine R1 ?_ | (refine R2 ?_; intro _))
    refine sf_draw (by kernel_rfl) (regX_own (O) (regX_split 7 11 (by rfl) ?_ ?_))
    case' refine_1 =>
      refine (regX_runW _ [[], [], [], [], [], [], [4, 5], [4, 5, 6], [], [], [8, 9], [4, 5, 6, 7, 8, 9, 10], [0, 1, 4, 5, 6, 7, 8, 9, 10, 11], [0, 1, 4, 5, 6, 7, 8, 9, 10, 11, 12], [0, 1, 2, 3, 4, 5, 6, 7, 8, 9, 10, 11, 12, 13], [0, 1, 2, 3, 4, 5, 6, 7, 8, 9, 10, 11, 12, 13, 14]] 14 [(0, false), (1, false), (2, false), (3, false), (4, false), (5, false), (6, false), (8, false), (9, false), (10, false), (7, true), (11, true), (12, false), (13, true)] (by kernel_rfl) (by kernel_rfl) (by kernel_rfl) ?_)
      repeat (first | refine Da1 ?_ | refine Da3 ?_)
      refine a_qw (by rfl) (.inl rfl) (z_loadG (by rfl) gf (by omega) (by rfl)) ?_
      repeat (first | refine Da1 ?_ | refine Da3 ?_)
      refine a_qw (by rfl) (.inl rfl) (z_loadG (by rfl) gf (by omega) (by rfl)) ?_
      repeat (first | refine Da1 ?_ | refine Da3 ?_)
      refine a_storeG0 (by rfl) (by rfl) (by rfl) (.inl rfl) gf (by omega) (by rfl) fun As ys hy hl fs gg => ?_
      repeat (first | refine Da1 ?_ | refine Da3 ?_)
      (refine a_end (by rfl) (by rfl) ?_; simp only [finA, setL, List.drop_succ_cons, List.drop_zero])
    case' refine_2 =>
      refine (regX_runW _ [[], [], [], [], [], [], [4, 5], [4, 5, 6, 8, 9, 10, 11], [], [], [8, 9], [8, 9, 10], [0, 1, 4, 5, 6, 7, 8, 9, 10, 11], [0, 1, 4, 5, 6, 7, 8, 9, 10, 11, 12], [0, 1, 2, 3, 4, 5, 6, 7, 8, 9, 10, 11, 12, 13], [0, 1, 2, 3, 4, 5, 6, 7, 8, 9, 10, 11, 12, 13, 14]] 14 [(0, false), (1, false), (2, false), (3, false), (4, false), (5, false), (6, false), (8, false), (9, false), (10, false), (11, true), (7, true), (12, false), (13, true)] (by kernel_rfl) (by kernel_rfl) (by kernel_rfl) ?_)
      repeat (first | refine Da1 ?_ | refine Da3 ?_)
      refine a_qw (by rfl) (.inl rfl) (z_loadG (by rfl) gf (by omega) (by rfl)) ?_
      repeat (first | refine Da1 ?_ | refine Da3 ?_)
      refine a_qw (by rfl) (.inl rfl) (z_loadG (by rfl) gf (by omega) (by rfl)) ?_
      repeat (first | refine Da1 ?_ | refine Da3 ?_)
      refine a_storeG0 (by rfl) (by rfl) (by rfl) (.inl rfl) gf (by omega) (by rfl) fun As ys hy hl fs gg => ?_
      repeat (first | refine Da1 ?_ | refine Da3 ?_)
      (refine a_end (by rfl) (by rfl) ?_; simp only [finA, setL, List.drop_succ_cons, List.drop_zero])
    all_goals
      repeat (first | refine R1 ?_ | (refine R2 ?_; intro _) | refine fp (Rq ?_ (z_indexGI (by rfl) (by rfl) (by assumption) (by omega) (by omega))))
      refine fp (y_storeG0 (by rfl) (by rfl) gg (by omega) (by rfl) fun At zs hz hlz fz gz => ?_)
      repeat (first | refine R1 ?_ | (refine R2 ?_; intro _) | refine fp (Rq ?_ (z_indexGI (by rfl) (by rfl) (by assumption) (by omega) (by omega))))
      have hf : zs = (swp f i (j + 1)).toList := swp_is hy hz (by omega) (by omega) (by omega) (by omega) (by omega) (by omega)
      rw [hf] at gz
      exact ⟨(i + 1, j, swp f i (j + 1)), by simp only; omega, ⟨rfl, vI (show ((j + 1 : Nat) : Int) - 1 = (j : Int) by omega), trivial⟩, rfl, _, _, inferInstance, gz, by simp only [swp_size]; exact fsz, by simp only; omega, by simp only; rw [← finv, hst]; rfl⟩
  · refine sf_exit ?_
    repeat (first | refine R1 ?_ | (refine R2 ?_; intro _))
    refine nO O ⟨rfl, ?_⟩
    rw [← finv, reverseLoop, if_neg (by omega)]
    exact gf
end Go.Proofs.YtekjikbaefgncaaGreat

/- Walks: the library's sort: the pivot. -/
namespace Go.Proofs.YtekjikbaefgncaaGreat
open Go Go.Sl Go.Sort
set_option maxRecDepth 100000
set_option maxHeartbeats 4000000
attribute [local irreducible] Go.Code.sf sfOps Opq opo retF Do1 anyO
variable {M : Jdg → Prop} [IsCl Tryz.prog M]
abbrev swA (bs : Nat) (z : Int) : Own := [(bs, .cells #[.int .i64 z] 3)]
theorem order2_f (h : PHeap) (v : Value) (xs : List Int) (s : Sl h v intF xs) (a b : Nat) (ha : a < xs.length) (hb : b < xs.length) (bs : Nat) (z : Int) (hz : 0 ≤ z ∧ z ≤ 1000) :
    CallF Tryz.prog M 190 [v, .int .i64 (a : Int), .int .i64 (b : Int), .pointer (some ⟨bs, 0, none⟩)] (swA bs z) h fun u A => ∃ (x y : Nat) (z' : Int), u = .tuple #[.int .i64 (x : Int), .int .i64 (y : Int)] ∧ ((x = a ∧ y = b) ∨ (x = b ∧ y = a)) ∧ (0 ≤ z' ∧ z' ≤ z + 1) ∧ A = swA bs z' := by
  have o := s.one
  refine calls_of_sf Tryz.func190 rfl Tryz.ntmps190 ?_
  simp only [argsL, Nat.reduceAdd]
  repeat (first | refine R1 ?_ | (refine R2 ?_; intro _))
  refine sf_draw (by kernel_rfl) (regX_run [[], [], [0, 1], [0, 1, 2], [], [], [4, 5], [4, 5, 6], [0, 1, 2, 3, 4, 5, 6, 7]] 8 [(0, false), (1, false), (2, false), (3, false), (4, false), (5, false), (6, false), (7, false)] (by kernel_rfl) (by kernel_rfl) (by kernel_rfl) ?_)
  repeat (refine Da1 ?_)
  (refine a_end (by rfl) (by rfl) ?_; simp only [finA, setL, List.drop_succ_cons, List.drop_zero])
  refine fp (y_callV (less_v _ _ _) (by rfl) ?_)
  repeat (first | refine R1 ?_ | (refine R2 ?_; intro _))
  refine sf_if (fun h1 => ?_) fun h1 => ?_
  · repeat (first | refine R1 ?_ | (refine R2 ?_; intro _))
    exact sf_ret (rO _ ⟨b, a, z + 1, rfl, .inr ⟨rfl, rfl⟩, by omega, rfl⟩)
  · repeat (first | refine R1 ?_ | (refine R2 ?_; intro _))
    exact sf_ret (rO _ ⟨a, b, z, rfl, .inl ⟨rfl, rfl⟩, by omega, rfl⟩)
theorem median_f (h : PHeap) (v : Value) (xs : List Int) (s : Sl h v intF xs) (a b c : Nat) (ha : a < xs.length) (hb : b < xs.length) (hc : c < xs.length) (bs : Nat) (z : Int) (hz : 0 ≤ z ∧ z ≤ 900) :
    CallF Tryz.prog M 187 [v, .int .i64 (a : Int), .int .i64 (b : Int), .int .i64 (c : Int), .pointer (some ⟨bs, 0, none⟩)] (swA bs z) h fun u A => ∃ (x : Nat) (z' : Int), u = .int .i64 (x : Int) ∧ (x = a ∨ x = b ∨ x = c) ∧ (0 ≤ z' ∧ z' ≤ z + 3) ∧ A = swA bs z' := by
  have o := s.one
  refine calls_of_sf Tryz.func187 rfl Tryz.ntmps187 ?_
  simp only [argsL, Nat.reduceAdd]
  repeat (first | refine R1 ?_ | (refine R2 ?_; intro _))
  refine fp (y_call (order2_f (M := M) _ v xs s a b ha hb bs z (by omega)) (by rfl) ?_)
  rintro _ _ ⟨x1, y1, z1, rfl, h1, hz1, rfl⟩
  repeat (first | refine R1 ?_ | (refine R2 ?_; intro _))
  refine fp (y_call (order2_f (M := M) _ v xs s y1 c (by omega) hc bs z1 (by omega)) (by rfl) ?_)
  rintro _ _ ⟨x2, y2, z2, rfl, h2, hz2, rfl⟩
  repeat (first | refine R1 ?_ | (refine R2 ?_; intro _))
  refine fp (y_call (order2_f (M := M) _ v xs s x1 x2 (by omega) (by omega) bs z2 (by omega)) (by rfl) ?_)
  rintro _ _ ⟨x3, y3, z3, rfl, h3, hz3, rfl⟩
  repeat (first | refine R1 ?_ | (refine R2 ?_; intro _))
  exact sf_ret (rO _ ⟨y3, z3, rfl, by omega, by omega, rfl⟩)
theorem medianAdjacent_f (h : PHeap) (v : Value) (xs : List Int) (s : Sl h v intF xs) (a : Nat) (ha : 1 ≤ a) (hb : a + 1 < xs.length) (hs : xs.length ≤ 1000000) (bs : Nat) (z : Int) (hz : 0 ≤ z ∧ z ≤ 900) :
    CallF Tryz.prog M 186 [v, .int .i64 (a : Int), .pointer (some ⟨bs, 0, none⟩)] (swA bs z) h fun u A => ∃ (x : Nat) (z' : Int), u = .int .i64 (x : Int) ∧ (a ≤ x + 1 ∧ x ≤ a + 1) ∧ (0 ≤ z' ∧ z' ≤ z + 3) ∧ A = swA bs z' := by
  have o := s.one
  obtain ⟨k, rfl⟩ : ∃ k, a = k + 1 := ⟨a - 1, by omega⟩
  refine calls_of_sf Tryz.func186 rfl Tryz.ntmps186 ?_
  simp only [argsL, Nat.reduceAdd]
  repeat (first | refine R1 ?_ | (refine R2 ?_; intro _))
  rw [show ((k + 1 : Nat) : Int) - 1 = (k : Int) by omega]
  refine fp (y_call (median_f (M := M) _ v xs s k (k + 1) (k + 1 + 1) (by omega) (by omega) (by omega) bs z (by omega)) (by rfl) ?_)
  rintro _ _ ⟨x1, z1, rfl, h1, hz1, rfl⟩
  repeat (first | refine R1 ?_ | (refine R2 ?_; intro _))
  exact sf_ret (rO _ ⟨x1, z1, rfl, by omega, by omega, rfl⟩)
theorem choosePivot_f (h : PHeap) (v : Value) (xs : List Int) (s : Sl h v intF xs) (a b : Nat) (hab : a < b) (hb : b ≤ xs.length) (hs : xs.length ≤ 1000000) :
    CallF Tryz.prog M 160 [v, .int .i64 (a : Int), .int .i64 (b : Int)] [] h fun u A => ∃ (p : Nat) (z : Int), u = .tuple #[.int .i64 (p : Int), .int .i64 z] ∧ (a ≤ p ∧ p < b) ∧ A = [] := by
  have o := s.one
  obtain ⟨n, rfl⟩ : ∃ n : Nat, b = a + n := ⟨b - a, by omega⟩
  refine calls_of_sf Tryz.func160 rfl Tryz.ntmps160 ?_
  simp only [argsL, Nat.reduceAdd]
  repeat (first | refine R1 ?_ | (refine R2 ?_; intro _))
  have e0 : ((a + n : Nat) : Int) - (a : Int) = (n : Int) := by omega
  rename_i bs
  rw [e0]
  rw [show (a : Int) + (n : Int) / 4 * 1 = ((a + n / 4 : Nat) : Int) by omega, show (a : Int) + (n : Int) / 4 * 2 = ((a + n / 4 * 2 : Nat) : Int) by omega, show (a : Int) + (n : Int) / 4 * 3 = ((a + n / 4 * 3 : Nat) : Int) by omega]
  apply viaT (G := ∀ (p : Nat) (z : Int), a ≤ p → p < a + n → _)
  · intro tail
    refine sf_if (fun h1 => ?_) fun h1 => ?_
    · repeat (first | refine R1 ?_ | (refine R2 ?_; intro _))
      apply viaT (G := ∀ (p1 p2 p3 : Nat) (z : Int), (a ≤ p1 ∧ p1 < a + n) → (a ≤ p2 ∧ p2 < a + n) → (a ≤ p3 ∧ p3 < a + n) → (0 ≤ z ∧ z ≤ 9) → _)
      · intro tail2
        refine sf_if (fun h2 => ?_) fun h2 => ?_
        · repeat (first | refine R1 ?_ | (refine R2 ?_; intro _))
          refine fp (y_call (medianAdjacent_f (M := M) _ v xs s (a + n / 4) (by omega) (by omega) hs bs 0 (by omega)) (by rfl) ?_)
          rintro _ _ ⟨p1, z1, rfl, k1, hz1, rfl⟩
          repeat (first | refine R1 ?_ | (refine R2 ?_; intro _))
          refine fp (y_call (medianAdjacent_f (M := M) _ v xs s (a + n / 4 * 2) (by omega) (by omega) hs bs z1 (by omega)) (by rfl) ?_)
          rintro _ _ ⟨p2, z2, rfl, k2, hz2, rfl⟩
          repeat (first | refine R1 ?_ | (refine R2 ?_; intro _))
          refine fp (y_call (medianAdjacent_f (M := M) _ v xs s (a + n / 4 * 3) (by omega) (by omega) hs bs z2 (by omega)) (by rfl) ?_)
          rintro _ _ ⟨p3, z3, rfl, k3, hz3, rfl⟩
          repeat (first | refine R1 ?_ | (refine R2 ?_; intro _))
          refine fops_keep [9, 44, 45, 46, 47] ?_
          refine fops_own (swA bs z3) ?_
          exact tail2.out p1 p2 p3 z3 (by omega) (by omega) (by omega) (by omega)
        · repeat (first | refine R1 ?_ | (refine R2 ?_; intro _))
          refine fops_keep [9, 44, 45, 46, 47] ?_
          refine fops_own (swA bs 0) ?_
          exact tail2.out (a + n / 4) (a + n / 4 * 2) (a + n / 4 * 3) 0 (by omega) (by omega) (by omega) (by omega)
      · intro p1 p2 p3 z k1 k2 k3 hz
        refine fp (y_call (median_f (M := M) _ v xs s p1 p2 p3 (by omega) (by omega) (by omega) bs z (by omega)) (by rfl) ?_)
        rintro _ _ ⟨p, z4, rfl, k4, hz4, rfl⟩
        repeat (first | refine R1 ?_ | (refine R2 ?_; intro _))
        show Code.sf _ _ _ _ _ _ _ _
        refine sf_keep [11, 49, 51] ?_
        refine sf_own (swA bs z4) ?_
        exact tail.out p z4 (by omega) (by omega)
    · repeat (first | refine R1 ?_ | (refine R2 ?_; intro _))
      show Code.sf _ _ _ _ _ _ _ _
      refine sf_keep [11, 49, 51] ?_
      refine sf_own (swA bs 0) ?_
      exact tail.out (a + n / 4 * 2) 0 (by omega) (by omega)
  · intro p z k1 k2
    refine sf_if (fun h1 => ?_) fun h1 => ?_
    · repeat (first | refine R1 ?_ | (refine R2 ?_; intro _))
      exact sf_ret (rO [] ⟨p, 1, rfl, by omega, rfl⟩)
    · repeat (first | refine R1 ?_ | (refine R2 ?_; intro _))
      refine sf_if (fun h1 => ?_) fun h1 => ?_
      · repeat (first | refine R1 ?_ | (refine R2 ?_; intro _))
        exact sf_ret (rO [] ⟨p, 2, rfl, by omega, rfl⟩)
      · repeat (first | refine R1 ?_ | (refine R2 ?_; intro _))
        exact sf_ret (rO [] ⟨p, 0, rfl, by omega, rfl⟩)
end Go.Proofs.YtekjikbaefgncaaGreat

/- Walks: the library's sort: partitions. Printed by gen_qc.py. -/
namespace Go.Proofs.YtekjikbaefgncaaGreat
open Go Go.Sl Go.Sort
set_option maxRecDepth 100000
set_option maxHeartbeats 4000000
attribute [local irreducible] Go.Code.sf sfOps Opq opo retF Do1 anyO
variable {M : Jdg → Prop} [IsCl Tryz.prog M]
theorem partition_f (h : PHeap) (v : Value) (A : Own) (d : Array Int) (g : Gr A v 3 intF d.toList) (a b p : Nat) (hb : b ≤ d.size) (hs : d.size ≤ 1000000) (hab : a < b) (hp : a ≤ p ∧ p < b) :
    CallF Tryz.prog M 165 [v, .int .i64 (a : Int), .int .i64 (b : Int), .int .i64 (p : Int)] A h fun u A' => u = .tuple #[.int .i64 ((Sort.partition ltInt d a b p).1 : Int), .bool (Sort.partition ltInt d a b p).2.1] ∧ Gr A' v 3 intF (Sort.partition ltInt d a b p).2.2.toList := by
  have o := g.one
  have ld : d.toList.length = d.size := by simp
  obtain ⟨n, rfl⟩ : ∃ n : Nat, b = n + 1 := ⟨b - 1, by omega⟩
  refine calls_of_sf Tryz.func165 rfl Tryz.ntmps165 ?_
  simp only [argsL, Nat.reduceAdd]
  repeat (first | refine R1 ?_ | (refine R2 ?_; intro _))
  apply viaT (G := ∀ (B : Own), Gr B v 3 intF (swp d a p).toList → _)
  · intro tail
    refine sf_draw (by kernel_rfl) (regX_own (A) (regX_split 7 11 (by rfl) ?_ ?_))
    case' refine_1 =>
      refine (regX_runW _ [[], [], [], [], [], [], [4, 5], [4, 5, 6], [], [], [8, 9], [4, 5, 6, 7, 8, 9, 10], [0, 1, 4, 5, 6, 7, 8, 9, 10, 11], [0, 1, 4, 5, 6, 7, 8, 9, 10, 11, 12], [0, 1, 2, 3, 4, 5, 6, 7, 8, 9, 10, 11, 12, 13], [0, 1, 2, 3, 4, 5, 6, 7, 8, 9, 10, 11, 12, 13, 14]] 14 [(0, false), (1, false), (2, false), (3, false), (4, false), (5, false), (6, false), (8, false), (9, false), (10, false), (7, true), (11, true), (12, false), (13, true)] (by kernel_rfl) (by kernel_rfl) (by kernel_rfl) ?_)
      repeat (first | refine Da1 ?_ | refine Da3 ?_)
      refine a_qw (by rfl) (.inl rfl) (z_loadG (by rfl) g (by omega) (by rfl)) ?_
      repeat (first | refine Da1 ?_ | refine Da3 ?_)
      refine a_qw (by rfl) (.inl rfl) (z_loadG (by rfl) g (by omega) (by rfl)) ?_
      repeat (first | refine Da1 ?_ | refine Da3 ?_)
      refine a_storeG0 (by rfl) (by rfl) (by rfl) (.inl rfl) g (by omega) (by rfl) fun As ys hy hl fs gg => ?_
      repeat (first | refine Da1 ?_ | refine Da3 ?_)
      (refine a_end (by rfl) (by rfl) ?_; simp only [finA, setL, List.drop_succ_cons, List.drop_zero])
    case' refine_2 =>
      refine (regX_runW _ [[], [], [], [], [], [], [4, 5], [4, 5, 6, 8, 9, 10, 11], [], [], [8, 9], [8, 9, 10], [0, 1, 4, 5, 6, 7, 8, 9, 10, 11], [0, 1, 4, 5, 6, 7, 8, 9, 10, 11, 12], [0, 1, 2, 3, 4, 5, 6, 7, 8, 9, 10, 11, 12, 13], [0, 1, 2, 3, 4, 5, 6, 7, 8, 9, 10, 11, 12, 13, 14]] 14 [(0, false), (1, false), (2, false), (3, false), (4, false), (5, false), (6, false), (8, false), (9, false), (10, false), (11, true), (7, true), (12, false), (13, true)] (by kernel_rfl) (by kernel_rfl) (by kernel_rfl) ?_)
      repeat (first | refine Da1 ?_ | refine Da3 ?_)
      refine a_qw (by rfl) (.inl rfl) (z_loadG (by rfl) g (by omega) (by rfl)) ?_
      repeat (first | refine Da1 ?_ | refine Da3 ?_)
      refine a_qw (by rfl) (.inl rfl) (z_loadG (by rfl) g (by omega) (by rfl)) ?_
      repeat (first | refine Da1 ?_ | refine Da3 ?_)
      refine a_storeG0 (by rfl) (by rfl) (by rfl) (.inl rfl) g (by omega) (by rfl) fun As ys hy hl fs gg => ?_
      repeat (first | refine Da1 ?_ | refine Da3 ?_)
      (refine a_end (by rfl) (by rfl) ?_; simp only [finA, setL, List.drop_succ_cons, List.drop_zero])
    all_goals
      repeat (first | refine R1 ?_ | (refine R2 ?_; intro _) | refine fp (Rq ?_ (z_indexGI (by rfl) (by rfl) (by assumption) (by omega) (by omega))))
      refine fp (y_storeG0 (by rfl) (by rfl) gg (by omega) (by rfl) fun At zs hz hlz fz gz => ?_)
      repeat (first | refine R1 ?_ | (refine R2 ?_; intro _) | refine fp (Rq ?_ (z_indexGI (by rfl) (by rfl) (by assumption) (by omega) (by omega))))
      rw [show (((n + 1 : Nat) : Int) - 1) = (n : Int) by omega]
      have hf : zs = (swp d a p).toList := swp_is hy hz (by omega) (by omega) (by omega) (by omega) (by omega) (by omega)
      rw [hf] at gz
      show Code.sf _ _ _ _ _ _ _ _
      refine sf_keep [0, 1, 10, 11] ?_
      refine sf_own At ?_
      exact tail.out At gz
  intro B ge
  obtain ⟨e, he⟩ : ∃ e, e = swp d a p := ⟨_, rfl⟩
  rw [← he] at ge
  have es : e.size = d.size := by rw [he, swp_size]
  have le : e.toList.length = e.size := by simp
  have ua : gt e.toList a = e[a]! := gt_arr (by omega)
  apply viaT (G := ∀ i : Nat, a + 1 ≤ i → i ≤ n + 2 → scanUp (fun x => ltInt x e[a]!) e n (a + 1) = i → _)
  · intro tail
    refine sf_lp (ι := Nat) [0, 1, 11] (fun x => [(10, .int .i64 (x : Int))]) (fun x O' => O' = B ∧ a + 1 ≤ x ∧ x ≤ n + 2 ∧ scanUp (fun x => ltInt x e[a]!) e n x = scanUp (fun x => ltInt x e[a]!) e n (a + 1)) (fun x => n + 2 - x) (a + 1) B ⟨rfl, by omega, by omega, rfl⟩ ?_
    rintro x _ ⟨rfl, hx0, hx1, hinv⟩
    by_cases h2 : x ≤ n
    · have h3 : (x : Int) ≤ ((n : Nat) : Int) := by omega
      have u1 : gt e.toList x = e[x]! := gt_arr (by omega)
      repeat (first | refine R1 ?_ | (refine R2 ?_; intro _))
      refine sf_draw (by kernel_rfl) (regX_run [[], [], [0, 1], [0, 1, 2], [0, 1, 2, 3], [0, 1, 2, 3], [0, 1, 2, 3, 4, 5], [0, 1, 2, 3, 4, 5, 6], [0, 1, 2, 3], [0, 1, 2, 3], [0, 1, 2, 3, 8, 9], [0, 1, 2, 3, 8, 9, 10], [0, 1, 2, 3, 4, 5, 6, 7, 8, 9, 10, 11], [0, 1, 2, 3, 4, 5, 6, 7, 8, 9, 10, 11, 12]] 12 [(0, false), (1, false), (2, false), (3, false), (4, false), (5, false), (6, false), (7, false), (8, false), (9, false), (10, false), (11, false)] (by kernel_rfl) (by kernel_rfl) (by kernel_rfl) ?_)
      repeat (first | refine Da1 ?_ | refine Da3 ?_)
      (refine a_end (by rfl) (by rfl) ?_; simp only [finA, setL, List.drop_succ_cons, List.drop_zero])
      refine fp (y_callV (less_v _ _ _) (by rfl) ?_)
      repeat (first | refine R1 ?_ | (refine R2 ?_; intro _))
      rw [u1, ua]
      refine sf_if (fun h4 => ?_) fun h4 => ?_
      · repeat (first | refine R1 ?_ | (refine R2 ?_; intro _))
        exact ⟨x + 1, by omega, ⟨rfl, trivial⟩, rfl, _, _, inferInstance, rfl, by omega, by omega, by rw [← hinv]; exact (scanUp_go h2 (by simp only [ltInt_is]; simp [h4])).symm⟩
      · refine sf_exit ?_
        repeat (first | refine R1 ?_ | (refine R2 ?_; intro _))
        refine sf_keep [0, 1, 10, 11] ?_
        exact tail.out x (by omega) (by omega) (by rw [← hinv]; exact scanUp_stop (fun h => h4 (by simpa [ltInt_is] using h.2)))
    · have h3 : ¬ (x : Int) ≤ ((n : Nat) : Int) := by omega
      repeat (first | refine R1 ?_ | (refine R2 ?_; intro _))
      refine sf_draw (by kernel_rfl) (regX_run [[], [], [0, 1], [0, 1, 2], [0, 1, 2, 3], [0, 1, 2, 3], [0, 1, 2, 3, 4, 5], [0, 1, 2, 3, 4, 5, 6], [0, 1, 2, 3], [0, 1, 2, 3], [0, 1, 2, 3, 8, 9], [0, 1, 2, 3, 8, 9, 10], [0, 1, 2, 3, 4, 5, 6, 7, 8, 9, 10, 11], [0, 1, 2, 3, 4, 5, 6, 7, 8, 9, 10, 11, 12]] 12 [(0, false), (1, false), (2, false), (3, false), (4, false), (5, false), (6, false), (7, false), (8, false), (9, false), (10, false), (11, false)] (by kernel_rfl) (by kernel_rfl) (by kernel_rfl) ?_)
      repeat (first | refine Da1 ?_ | refine Da3 ?_)
      (refine a_end (by rfl) (by rfl) ?_; simp only [finA, setL, List.drop_succ_cons, List.drop_zero])
      repeat (first | refine R1 ?_ | (refine R2 ?_; intro _))
      refine sf_cond (by rfl) (fun e => by cases e) fun z1 => ?_
      clear z1
      refine sf_exit ?_
      repeat (first | refine R1 ?_ | (refine R2 ?_; intro _))
      refine sf_keep [0, 1, 10, 11] ?_
      exact tail.out x (by omega) (by omega) (by rw [← hinv]; exact scanUp_stop (fun h => h2 h.1))
  intro i hi0 hi1 hsu
  apply viaT (G := ∀ j : Nat, i ≤ j + 2 → a ≤ j → j ≤ n → scanDown (fun x => !ltInt x e[a]!) e i n = j → _)
  · intro tail
    refine sf_lp (ι := Nat) [0, 1, 10] (fun x => [(11, .int .i64 (x : Int))]) (fun x O' => O' = B ∧ i ≤ x + 2 ∧ a ≤ x ∧ x ≤ n ∧ scanDown (fun x => !ltInt x e[a]!) e i x = scanDown (fun x => !ltInt x e[a]!) e i (n)) (fun x => x) (n) B ⟨rfl, by omega, by omega, by omega, rfl⟩ ?_
    rintro x _ ⟨rfl, hx0, hx2, hx1, hinv⟩
    by_cases h2 : i ≤ x
    · obtain ⟨y, hy0⟩ : ∃ k, x = k + 1 := ⟨x - 1, by omega⟩
      have h3 : ((i : Nat) : Int) ≤ (x : Int) := by omega
      have u1 : gt e.toList x = e[x]! := gt_arr (by omega)
      repeat (first | refine R1 ?_ | (refine R2 ?_; intro _))
      refine sf_draw (by kernel_rfl) (regX_run [[], [], [0, 1], [0, 1, 2], [0, 1, 2, 3], [0, 1, 2, 3], [0, 1, 2, 3, 4, 5], [0, 1, 2, 3, 4, 5, 6], [0, 1, 2, 3], [0, 1, 2, 3], [0, 1, 2, 3, 8, 9], [0, 1, 2, 3, 8, 9, 10], [0, 1, 2, 3, 4, 5, 6, 7, 8, 9, 10, 11], [0, 1, 2, 3, 4, 5, 6, 7, 8, 9, 10, 11, 12], [0, 1, 2, 3, 4, 5, 6, 7, 8, 9, 10, 11, 12, 13]] 12 [(0, false), (1, false), (2, false), (3, false), (4, false), (5, false), (6, false), (7, false), (8, false), (9, false), (10, false), (11, false)] (by kernel_rfl) (by kernel_rfl) (by kernel_rfl) ?_)
      repeat (first | refine Da1 ?_ | refine Da3 ?_)
      (refine a_end (by rfl) (by rfl) ?_; simp only [finA, setL, List.drop_succ_cons, List.drop_zero])
      refine fp (y_callV (less_v _ _ _) (by rfl) ?_)
      repeat (first | refine R1 ?_ | (refine R2 ?_; intro _))
      rw [u1, ua]
      refine sf_ifn (fun h4 => ?_) fun h4 => ?_
      · repeat (first | refine R1 ?_ | (refine R2 ?_; intro _))
        subst hy0
        exact ⟨y, by omega, ⟨vI (show ((y + 1 : Nat) : Int) - 1 = (y : Int) by omega), trivial⟩, rfl, _, _, inferInstance, rfl, by omega, by omega, by omega, by rw [← hinv]; exact (scanDown_go h2 (by simp only [ltInt_is]; simp [h4])).symm⟩
      · refine sf_exit ?_
        repeat (first | refine R1 ?_ | (refine R2 ?_; intro _))
        (show Code.sf _ _ _ _ _ _ _ _; refine sf_keep [0, 1, 10, 11, 65] ?_)
        exact tail.out x (by omega) (by omega) (by omega) (by rw [← hinv]; exact scanDown_stop (fun h => absurd h4 (by simpa [ltInt_is] using h.2)))
    · have h3 : ¬ ((i : Nat) : Int) ≤ (x : Int) := by omega
      repeat (first | refine R1 ?_ | (refine R2 ?_; intro _))
      refine sf_draw (by kernel_rfl) (regX_run [[], [], [0, 1], [0, 1, 2], [0, 1, 2, 3], [0, 1, 2, 3], [0, 1, 2, 3, 4, 5], [0, 1, 2, 3, 4, 5, 6], [0, 1, 2, 3], [0, 1, 2, 3], [0, 1, 2, 3, 8, 9], [0, 1, 2, 3, 8, 9, 10], [0, 1, 2, 3, 4, 5, 6, 7, 8, 9, 10, 11], [0, 1, 2, 3, 4, 5, 6, 7, 8, 9, 10, 11, 12], [0, 1, 2, 3, 4, 5, 6, 7, 8, 9, 10, 11, 12, 13]] 12 [(0, false), (1, false), (2, false), (3, false), (4, false), (5, false), (6, false), (7, false), (8, false), (9, false), (10, false), (11, false)] (by kernel_rfl) (by kernel_rfl) (by kernel_rfl) ?_)
      repeat (first | refine Da1 ?_ | refine Da3 ?_)
      (refine a_end (by rfl) (by rfl) ?_; simp only [finA, setL, List.drop_succ_cons, List.drop_zero])
      repeat (first | refine R1 ?_ | (refine R2 ?_; intro _))
      refine sf_cond (by rfl) (fun e => by cases e) fun z1 => ?_
      clear z1
      refine sf_exit ?_
      repeat (first | refine R1 ?_ | (refine R2 ?_; intro _))
      (show Code.sf _ _ _ _ _ _ _ _; refine sf_keep [0, 1, 10, 11, 65] ?_)
      exact tail.out x (by omega) (by omega) (by omega) (by rw [← hinv]; exact scanDown_stop (fun h => h2 h.1))
  intro j hj0 hj1 hj2 hsd
  refine sf_if (fun h1 => ?_) fun h1 => ?_
  · have hP := partition_A (b := n + 1) he hsu hsd (by omega)
    rw [hP]
    repeat (first | refine R1 ?_ | (refine R2 ?_; intro _))
    refine sf_draw (by kernel_rfl) (regX_own (B) (regX_split 7 11 (by rfl) ?_ ?_))
    case' refine_1 =>
      refine (regX_runW _ [[], [], [], [], [], [], [4, 5], [4, 5, 6], [], [], [8, 9], [4, 5, 6, 7, 8, 9, 10], [0, 1, 4, 5, 6, 7, 8, 9, 10, 11], [0, 1, 4, 5, 6, 7, 8, 9, 10, 11, 12], [0, 1, 2, 3, 4, 5, 6, 7, 8, 9, 10, 11, 12, 13], [0, 1, 2, 3, 4, 5, 6, 7, 8, 9, 10, 11, 12, 13, 14]] 14 [(0, false), (1, false), (2, false), (3, false), (4, false), (5, false), (6, false), (8, false), (9, false), (10, false), (7, true), (11, true), (12, false), (13, true)] (by kernel_rfl) (by kernel_rfl) (by kernel_rfl) ?_)
      repeat (first | refine Da1 ?_ | refine Da3 ?_)
      refine a_qw (by rfl) (.inl rfl) (z_loadG (by rfl) ge (by omega) (by rfl)) ?_
      repeat (first | refine Da1 ?_ | refine Da3 ?_)
      refine a_qw (by rfl) (.inl rfl) (z_loadG (by rfl) ge (by omega) (by rfl)) ?_
      repeat (first | refine Da1 ?_ | refine Da3 ?_)
      refine a_storeG0 (by rfl) (by rfl) (by rfl) (.inl rfl) ge (by omega) (by rfl) fun As ys hy hl fs gg => ?_
      repeat (first | refine Da1 ?_ | refine Da3 ?_)
      (refine a_end (by rfl) (by rfl) ?_; simp only [finA, setL, List.drop_succ_cons, List.drop_zero])
    case' refine_2 =>
      refine (regX_runW _ [[], [], [], [], [], [], [4, 5], [4, 5, 6, 8, 9, 10, 11], [], [], [8, 9], [8, 9, 10], [0, 1, 4, 5, 6, 7, 8, 9, 10, 11], [0, 1, 4, 5, 6, 7, 8, 9, 10, 11, 12], [0, 1, 2, 3, 4, 5, 6, 7, 8, 9, 10, 11, 12, 13], [0, 1, 2, 3, 4, 5, 6, 7, 8, 9, 10, 11, 12, 13, 14]] 14 [(0, false), (1, false), (2, false), (3, false), (4, false), (5, false), (6, false), (8, false), (9, false), (10, false), (11, true), (7, true), (12, false), (13, true)] (by kernel_rfl) (by kernel_rfl) (by kernel_rfl) ?_)
      repeat (first | refine Da1 ?_ | refine Da3 ?_)
      refine a_qw (by rfl) (.inl rfl) (z_loadG (by rfl) ge (by omega) (by rfl)) ?_
      repeat (first | refine Da1 ?_ | refine Da3 ?_)
      refine a_qw (by rfl) (.inl rfl) (z_loadG (by rfl) ge (by omega) (by rfl)) ?_
      repeat (first | refine Da1 ?_ | refine Da3 ?_)
      refine a_storeG0 (by rfl) (by rfl) (by rfl) (.inl rfl) ge (by omega) (by rfl) fun As ys hy hl fs gg => ?_
      repeat (first | refine Da1 ?_ | refine Da3 ?_)
      (refine a_end (by rfl) (by rfl) ?_; simp only [finA, setL, List.drop_succ_cons, List.drop_zero])
    all_goals
      repeat (first | refine R1 ?_ | (refine R2 ?_; intro _) | refine fp (Rq ?_ (z_indexGI (by rfl) (by rfl) (by assumption) (by omega) (by omega))))
      refine fp (y_storeG0 (by rfl) (by rfl) gg (by omega) (by rfl) fun At zs hz hlz fz gz => ?_)
      repeat (first | refine R1 ?_ | (refine R2 ?_; intro _) | refine fp (Rq ?_ (z_indexGI (by rfl) (by rfl) (by assumption) (by omega) (by omega))))
      have hf : zs = (swp e j a).toList := swp_is hy hz (by omega) (by omega) (by omega) (by omega) (by omega) (by omega)
      rw [hf] at gz
      exact sf_ret (rO At ⟨rfl, gz⟩)
  have hB := fun r hr => partition_B (b := n + 1) he hsu hsd (by omega) (r := r) hr
  obtain ⟨j, rfl⟩ : ∃ k, j = k + 1 := ⟨j - 1, by omega⟩
  simp only [Nat.add_sub_cancel] at hB
  repeat (first | refine R1 ?_ | (refine R2 ?_; intro _))
  apply viaT (G := ∀ (B2 : Own), Gr B2 v 3 intF (swp e i (j + 1)).toList → _)
  · intro tail
    refine sf_draw (by kernel_rfl) (regX_own (B) (regX_split 7 11 (by rfl) ?_ ?_))
    case' refine_1 =>
      refine (regX_runW _ [[], [], [], [], [], [], [4, 5], [4, 5, 6], [], [], [8, 9], [4, 5, 6, 7, 8, 9, 10], [0, 1, 4, 5, 6, 7, 8, 9, 10, 11], [0, 1, 4, 5, 6, 7, 8, 9, 10, 11, 12], [0, 1, 2, 3, 4, 5, 6, 7, 8, 9, 10, 11, 12, 13], [0, 1, 2, 3, 4, 5, 6, 7, 8, 9, 10, 11, 12, 13, 14]] 14 [(0, false), (1, false), (2, false), (3, false), (4, false), (5, false), (6, false), (8, false), (9, false), (10, false), (7, true), (11, true), (12, false), (13, true)] (by kernel_rfl) (by kernel_rfl) (by kernel_rfl) ?_)
      repeat (first | refine Da1 ?_ | refine Da3 ?_)
      refine a_qw (by rfl) (.inl rfl) (z_loadG (by rfl) ge (by omega) (by rfl)) ?_
      repeat (first | refine Da1 ?_ | refine Da3 ?_)
      refine a_qw (by rfl) (.inl rfl) (z_loadG (by rfl) ge (by omega) (by rfl)) ?_
      repeat (first | refine Da1 ?_ | refine Da3 ?_)
      refine a_storeG0 (by rfl) (by rfl) (by rfl) (.inl rfl) ge (by omega) (by rfl) fun As ys hy hl fs gg => ?_
      repeat (first | refine Da1 ?_ | refine Da3 ?_)
      (refine a_end (by rfl) (by rfl) ?_; simp only [finA, setL, List.drop_succ_cons, List.drop_zero])
    case' refine_2 =>
      refine (regX_runW _ [[], [], [], [], [], [], [4, 5], [4, 5, 6, 8, 9, 10, 11], [], [], [8, 9], [8, 9, 10], [0, 1, 4, 5, 6, 7, 8, 9, 10, 11], [0, 1, 4, 5, 6, 7, 8, 9, 10, 11, 12], [0, 1, 2, 3, 4, 5, 6, 7, 8, 9, 10, 11, 12, 13], [0, 1, 2, 3, 4, 5, 6, 7, 8, 9, 10, 11, 12, 13, 14]] 14 [(0, false), (1, false), (2, false), (3, false), (4, false), (5, false), (6, false), (8, false), (9, false), (10, false), (11, true), (7, true), (12, false), (13, true)] (by kernel_rfl) (by kernel_rfl) (by kernel_rfl) ?_)
      repeat (first | refine Da1 ?_ | refine Da3 ?_)
      refine a_qw (by rfl) (.inl rfl) (z_loadG (by rfl) ge (by omega) (by rfl)) ?_
      repeat (first | refine Da1 ?_ | refine Da3 ?_)
      refine a_qw (by rfl) (.inl rfl) (z_loadG (by rfl) ge (by omega) (by rfl)) ?_
      repeat (first | refine Da1 ?_ | refine Da3 ?_)
      refine a_storeG0 (by rfl) (by rfl) (by rfl) (.inl rfl) ge (by omega) (by rfl) fun As ys hy hl fs gg => ?_
      repeat (first | refine Da1 ?_ | refine Da3 ?_)
      (refine a_end (by rfl) (by rfl) ?_; simp only [finA, setL, List.drop_succ_cons, List.drop_zero])
    all_goals
      repeat (first | refine R1 ?_ | (refine R2 ?_; intro _) | refine fp (Rq ?_ (z_indexGI (by rfl) (by rfl) (by assumption) (by omega) (by omega))))
      refine fp (y_storeG0 (by rfl) (by rfl) gg (by omega) (by rfl) fun At zs hz hlz fz gz => ?_)
      repeat (first | refine R1 ?_ | (refine R2 ?_; intro _) | refine fp (Rq ?_ (z_indexGI (by rfl) (by rfl) (by assumption) (by omega) (by omega))))
      rw [show (((j + 1 : Nat) : Int) - 1) = (j : Int) by omega]
      have hf : zs = (swp e i (j + 1)).toList := swp_is hy hz (by omega) (by omega) (by omega) (by omega) (by omega) (by omega)
      rw [hf] at gz
      show Code.sf _ _ _ _ _ _ _ _
      refine sf_keep [0, 1, 10, 11] ?_
      refine sf_own At ?_
      exact tail.out At gz
  intro B2 ge2
  obtain ⟨e2, he2⟩ : ∃ e2, e2 = swp e i (j + 1) := ⟨_, rfl⟩
  rw [← he2] at ge2
  have e2s : e2.size = e.size := by rw [he2, swp_size]
  rw [← he2] at hB
  refine sf_lp (ι := Nat × Nat × Array Int) [0, 1] (fun x => [(10, .int .i64 (x.1 : Int)), (11, .int .i64 (x.2.1 : Int))]) (fun x O => Gr O v 3 intF x.2.2.toList ∧ x.2.2.size = d.size ∧ a + 1 ≤ x.1 ∧ x.1 ≤ x.2.1 + 2 ∧ a ≤ x.2.1 ∧ x.2.1 ≤ n ∧ partLoop ltInt a x.1 x.2.1 x.2.2 = partLoop ltInt a (i + 1) j e2) (fun x => x.2.1 + 2 - x.1) (i + 1, j, e2) B2 ⟨ge2, by simp only; omega, by simp only; omega, by simp only; omega, by simp only; omega, by simp only; omega, rfl⟩ ?_
  rintro ⟨i3, j3, f⟩ O3 ⟨gf, fsz, k1, k2, k3, k4, finv⟩
  simp only at gf fsz k1 k2 k3 k4 finv ⊢
  have lf : f.toList.length = f.size := by simp
  have uf : gt f.toList a = f[a]! := gt_arr (by omega)
  repeat (first | refine R1 ?_ | (refine R2 ?_; intro _))
  apply viaT (G := ∀ i : Nat, i3 ≤ i → i ≤ j3 + 2 → scanUp (fun x => ltInt x f[a]!) f j3 i3 = i → _)
  · intro tail
    refine sf_lp (ι := Nat) [0, 1, 11] (fun x => [(10, .int .i64 (x : Int))]) (fun x O' => O' = O3 ∧ i3 ≤ x ∧ x ≤ j3 + 2 ∧ scanUp (fun x => ltInt x f[a]!) f j3 x = scanUp (fun x => ltInt x f[a]!) f j3 (i3)) (fun x => j3 + 2 - x) (i3) O3 ⟨rfl, by omega, by omega, rfl⟩ ?_
    rintro x _ ⟨rfl, hx0, hx1, hinv⟩
    by_cases h2 : x ≤ j3
    · have h3 : (x : Int) ≤ ((j3 : Nat) : Int) := by omega
      have u1 : gt f.toList x = f[x]! := gt_arr (by omega)
      repeat (first | refine R1 ?_ | (refine R2 ?_; intro _))
      refine sf_draw (by kernel_rfl) (regX_run [[], [], [0, 1], [0, 1, 2], [0, 1, 2, 3], [0, 1, 2, 3], [0, 1, 2, 3, 4, 5], [0, 1, 2, 3, 4, 5, 6], [0, 1, 2, 3], [0, 1, 2, 3], [0, 1, 2, 3, 8, 9], [0, 1, 2, 3, 8, 9, 10], [0, 1, 2, 3, 4, 5, 6, 7, 8, 9, 10, 11], [0, 1, 2, 3, 4, 5, 6, 7, 8, 9, 10, 11, 12]] 12 [(0, false), (1, false), (2, false), (3, false), (4, false), (5, false), (6, false), (7, false), (8, false), (9, false), (10, false), (11, false)] (by kernel_rfl) (by kernel_rfl) (by kernel_rfl) ?_)
      repeat (first | refine Da1 ?_ | refine Da3 ?_)
      (refine a_end (by rfl) (by rfl) ?_; simp only [finA, setL, List.drop_succ_cons, List.drop_zero])
      refine fp (y_callV (less_v _ _ _) (by rfl) ?_)
      repeat (first | refine R1 ?_ | (refine R2 ?_; intro _))
      rw [u1, uf]
      refine sf_if (fun h4 => ?_) fun h4 => ?_
      · repeat (first | refine R1 ?_ | (refine R2 ?_; intro _))
        exact ⟨x + 1, by omega, ⟨rfl, trivial⟩, rfl, _, _, inferInstance, rfl, by omega, by omega, by rw [← hinv]; exact (scanUp_go h2 (by simp only [ltInt_is]; simp [h4])).symm⟩
      · refine sf_exit ?_
        repeat (first | refine R1 ?_ | (refine R2 ?_; intro _))
        refine sf_keep [0, 1, 10, 11] ?_
        exact tail.out x (by omega) (by omega) (by rw [← hinv]; exact scanUp_stop (fun h => h4 (by simpa [ltInt_is] using h.2)))
    · have h3 : ¬ (x : Int) ≤ ((j3 : Nat) : Int) := by omega
      repeat (first | refine R1 ?_ | (refine R2 ?_; intro _))
      refine sf_draw (by kernel_rfl) (regX_run [[], [], [0, 1], [0, 1, 2], [0, 1, 2, 3], [0, 1, 2, 3], [0, 1, 2, 3, 4, 5], [0, 1, 2, 3, 4, 5, 6], [0, 1, 2, 3], [0, 1, 2, 3], [0, 1, 2, 3, 8, 9], [0, 1, 2, 3, 8, 9, 10], [0, 1, 2, 3, 4, 5, 6, 7, 8, 9, 10, 11], [0, 1, 2, 3, 4, 5, 6, 7, 8, 9, 10, 11, 12]] 12 [(0, false), (1, false), (2, false), (3, false), (4, false), (5, false), (6, false), (7, false), (8, false), (9, false), (10, false), (11, false)] (by kernel_rfl) (by kernel_rfl) (by kernel_rfl) ?_)
      repeat (first | refine Da1 ?_ | refine Da3 ?_)
      (refine a_end (by rfl) (by rfl) ?_; simp only [finA, setL, List.drop_succ_cons, List.drop_zero])
      repeat (first | refine R1 ?_ | (refine R2 ?_; intro _))
      refine sf_cond (by rfl) (fun e => by cases e) fun z1 => ?_
      clear z1
      refine sf_exit ?_
      repeat (first | refine R1 ?_ | (refine R2 ?_; intro _))
      refine sf_keep [0, 1, 10, 11] ?_
      exact tail.out x (by omega) (by omega) (by rw [← hinv]; exact scanUp_stop (fun h => h2 h.1))
  intro i4 hi4 hi5 hsu4
  apply viaT (G := ∀ j : Nat, i4 ≤ j + 2 → a ≤ j → j ≤ j3 → scanDown (fun x => !ltInt x f[a]!) f i4 j3 = j → _)
  · intro tail
    refine sf_lp (ι := Nat) [0, 1, 10] (fun x => [(11, .int .i64 (x : Int))]) (fun x O' => O' = O3 ∧ i4 ≤ x + 2 ∧ a ≤ x ∧ x ≤ j3 ∧ scanDown (fun x => !ltInt x f[a]!) f i4 x = scanDown (fun x => !ltInt x f[a]!) f i4 (j3)) (fun x => x) (j3) O3 ⟨rfl, by omega, by omega, by omega, rfl⟩ ?_
    rintro x _ ⟨rfl, hx0, hx2, hx1, hinv⟩
    by_cases h2 : i4 ≤ x
    · obtain ⟨y, hy0⟩ : ∃ k, x = k + 1 := ⟨x - 1, by omega⟩
      have h3 : ((i4 : Nat) : Int) ≤ (x : Int) := by omega
      have u1 : gt f.toList x = f[x]! := gt_arr (by omega)
      repeat (first | refine R1 ?_ | (refine R2 ?_; intro _))
      refine sf_draw (by kernel_rfl) (regX_run [[], [], [0, 1], [0, 1, 2], [0, 1, 2, 3], [0, 1, 2, 3], [0, 1, 2, 3, 4, 5], [0, 1, 2, 3, 4, 5, 6], [0, 1, 2, 3], [0, 1, 2, 3], [0, 1, 2, 3, 8, 9], [0, 1, 2, 3, 8, 9, 10], [0, 1, 2, 3, 4, 5, 6, 7, 8, 9, 10, 11], [0, 1, 2, 3, 4, 5, 6, 7, 8, 9, 10, 11, 12], [0, 1, 2, 3, 4, 5, 6, 7, 8, 9, 10, 11, 12, 13]] 12 [(0, false), (1, false), (2, false), (3, false), (4, false), (5, false), (6, false), (7, false), (8, false), (9, false), (10, false), (11, false)] (by kernel_rfl) (by kernel_rfl) (by kernel_rfl) ?_)
      repeat (first | refine Da1 ?_ | refine Da3 ?_)
      (refine a_end (by rfl) (by rfl) ?_; simp only [finA, setL, List.drop_succ_cons, List.drop_zero])
      refine fp (y_callV (less_v _ _ _) (by rfl) ?_)
      repeat (first | refine R1 ?_ | (refine R2 ?_; intro _))
      rw [u1, uf]
      refine sf_ifn (fun h4 => ?_) fun h4 => ?_
      · repeat (first | refine R1 ?_ | (refine R2 ?_; intro _))
        subst hy0
        exact ⟨y, by omega, ⟨vI (show ((y + 1 : Nat) : Int) - 1 = (y : Int) by omega), trivial⟩, rfl, _, _, inferInstance, rfl, by omega, by omega, by omega, by rw [← hinv]; exact (scanDown_go h2 (by simp only [ltInt_is]; simp [h4])).symm⟩
      · refine sf_exit ?_
        repeat (first | refine R1 ?_ | (refine R2 ?_; intro _))
        (show Code.sf _ _ _ _ _ _ _ _; refine sf_keep [0, 1, 10, 11, 134] ?_)
        exact tail.out x (by omega) (by omega) (by omega) (by rw [← hinv]; exact scanDown_stop (fun h => absurd h4 (by simpa [ltInt_is] using h.2)))
    · have h3 : ¬ ((i4 : Nat) : Int) ≤ (x : Int) := by omega
      repeat (first | refine R1 ?_ | (refine R2 ?_; intro _))
      refine sf_draw (by kernel_rfl) (regX_run [[], [], [0, 1], [0, 1, 2], [0, 1, 2, 3], [0, 1, 2, 3], [0, 1, 2, 3, 4, 5], [0, 1, 2, 3, 4, 5, 6], [0, 1, 2, 3], [0, 1, 2, 3], [0, 1, 2, 3, 8, 9], [0, 1, 2, 3, 8, 9, 10], [0, 1, 2, 3, 4, 5, 6, 7, 8, 9, 10, 11], [0, 1, 2, 3, 4, 5, 6, 7, 8, 9, 10, 11, 12], [0, 1, 2, 3, 4, 5, 6, 7, 8, 9, 10, 11, 12, 13]] 12 [(0, false), (1, false), (2, false), (3, false), (4, false), (5, false), (6, false), (7, false), (8, false), (9, false), (10, false), (11, false)] (by kernel_rfl) (by kernel_rfl) (by kernel_rfl) ?_)
      repeat (first | refine Da1 ?_ | refine Da3 ?_)
      (refine a_end (by rfl) (by rfl) ?_; simp only [finA, setL, List.drop_succ_cons, List.drop_zero])
      repeat (first | refine R1 ?_ | (refine R2 ?_; intro _))
      refine sf_cond (by rfl) (fun e => by cases e) fun z1 => ?_
      clear z1
      refine sf_exit ?_
      repeat (first | refine R1 ?_ | (refine R2 ?_; intro _))
      (show Code.sf _ _ _ _ _ _ _ _; refine sf_keep [0, 1, 10, 11, 134] ?_)
      exact tail.out x (by omega) (by omega) (by omega) (by rw [← hinv]; exact scanDown_stop (fun h => h2 h.1))
  intro j4 hj4 hj5 hj6 hsd4
  obtain ⟨s1, s2⟩ := partLoop_step hsu4 hsd4 hi4 hj6
  refine sf_if (fun h5 => ?_) fun h5 => ?_
  · refine sf_exit ?_
    have hP := hB _ (finv.symm.trans (s1 (by omega)))
    rw [hP]
    repeat (first | refine R1 ?_ | (refine R2 ?_; intro _))
    refine sf_draw (by kernel_rfl) (regX_own (O3) (regX_split 7 11 (by rfl) ?_ ?_))
    case' refine_1 =>
      refine (regX_runW _ [[], [], [], [], [], [], [4, 5], [4, 5, 6], [], [], [8, 9], [4, 5, 6, 7, 8, 9, 10], [0, 1, 4, 5, 6, 7, 8, 9, 10, 11], [0, 1, 4, 5, 6, 7, 8, 9, 10, 11, 12], [0, 1, 2, 3, 4, 5, 6, 7, 8, 9, 10, 11, 12, 13], [0, 1, 2, 3, 4, 5, 6, 7, 8, 9, 10, 11, 12, 13, 14]] 14 [(0, false), (1, false), (2, false), (3, false), (4, false), (5, false), (6, false), (8, false), (9, false), (10, false), (7, true), (11, true), (12, false), (13, true)] (by kernel_rfl) (by kernel_rfl) (by kernel_rfl) ?_)
      repeat (first | refine Da1 ?_ | refine Da3 ?_)
      refine a_qw (by rfl) (.inl rfl) (z_loadG (by rfl) gf (by omega) (by rfl)) ?_
      repeat (first | refine Da1 ?_ | refine Da3 ?_)
      refine a_qw (by rfl) (.inl rfl) (z_loadG (by rfl) gf (by omega) (by rfl)) ?_
      repeat (first | refine Da1 ?_ | refine Da3 ?_)
      refine a_storeG0 (by rfl) (by rfl) (by rfl) (.inl rfl) gf (by omega) (by rfl) fun As ys hy hl fs gg => ?_
      repeat (first | refine Da1 ?_ | refine Da3 ?_)
      (refine a_end (by rfl) (by rfl) ?_; simp only [finA, setL, List.drop_succ_cons, List.drop_zero])
    case' refine_2 =>
      refine (regX_runW _ [[], [], [], [], [], [], [4, 5], [4, 5, 6, 8, 9, 10, 11], [], [], [8, 9], [8, 9, 10], [0, 1, 4, 5, 6, 7, 8, 9, 10, 11], [0, 1, 4, 5, 6, 7, 8, 9, 10, 11, 12], [0, 1, 2, 3, 4, 5, 6, 7, 8, 9, 10, 11, 12, 13], [0, 1, 2, 3, 4, 5, 6, 7, 8, 9, 10, 11, 12, 13, 14]] 14 [(0, false), (1, false), (2, false), (3, false), (4, false), (5, false), (6, false), (8, false), (9, false), (10, false), (11, true), (7, true), (12, false), (13, true)] (by kernel_rfl) (by kernel_rfl) (by kernel_rfl) ?_)
      repeat (first | refine Da1 ?_ | refine Da3 ?_)
      refine a_qw (by rfl) (.inl rfl) (z_loadG (by rfl) gf (by omega) (by rfl)) ?_
      repeat (first | refine Da1 ?_ | refine Da3 ?_)
      refine a_qw (by rfl) (.inl rfl) (z_loadG (by rfl) gf (by omega) (by rfl)) ?_
      repeat (first | refine Da1 ?_ | refine Da3 ?_)
      refine a_storeG0 (by rfl) (by rfl) (by rfl) (.inl rfl) gf (by omega) (by rfl) fun As ys hy hl fs gg => ?_
      repeat (first | refine Da1 ?_ | refine Da3 ?_)
      (refine a_end (by rfl) (by rfl) ?_; simp only [finA, setL, List.drop_succ_cons, List.drop_zero])
    all_goals
      repeat (first | refine R1 ?_ | (refine R2 ?_; intro _) | refine fp (Rq ?_ (z_indexGI (by rfl) (by rfl) (by assumption) (by omega) (by omega))))
      refine fp (y_storeG0 (by rfl) (by rfl) gg (by omega) (by rfl) fun At zs hz hlz fz gz => ?_)
      repeat (first | refine R1 ?_ | (refine R2 ?_; intro _) | refine fp (Rq ?_ (z_indexGI (by rfl) (by rfl) (by assumption) (by omega) (by omega))))
      have hf : zs = (swp f j4 a).toList := swp_is hy hz (by omega) (by omega) (by omega) (by omega) (by omega) (by omega)
      rw [hf] at gz
      exact sf_ret (rO At ⟨rfl, gz⟩)
  obtain ⟨j4, rfl⟩ : ∃ k, j4 = k + 1 := ⟨j4 - 1, by omega⟩
  have s3 := s2 (by omega) (by omega)
  repeat (first | refine R1 ?_ | (refine R2 ?_; intro _))
  refine sf_draw (by kernel_rfl) (regX_own (O3) (regX_split 7 11 (by rfl) ?_ ?_))
  case' refine_1 =>
    refine (regX_runW _ [[], [], [], [], [], [], [4, 5], [4, 5, 6], [], [], [8, 9], [4, 5, 6, 7, 8, 9, 10], [0, 1, 4, 5, 6, 7, 8, 9, 10, 11], [0, 1, 4, 5, 6, 7, 8, 9, 10, 11, 12], [0, 1, 2, 3, 4, 5, 6, 7, 8, 9, 10, 11, 12, 13], [0, 1, 2, 3, 4, 5, 6, 7, 8, 9, 10, 11, 12, 13, 14]] 14 [(0, false), (1, false), (2, false), (3, false), (4, false), (5, false), (6, false), (8, false), (9, false), (10, false), (7, true), (11, true), (12, false), (13, true)] (by kernel_rfl) (by kernel_rfl) (by kernel_rfl) ?_)
    repeat (first | refine Da1 ?_ | refine Da3 ?_)
    refine a_qw (by rfl) (.inl rfl) (z_loadG (by rfl) gf (by omega) (by rfl)) ?_
    repeat (first | refine Da1 ?_ | refine Da3 ?_)
    refine a_qw (by rfl) (.inl rfl) (z_loadG (by rfl) gf (by omega) (by rfl)) ?_
    repeat (first | refine Da1 ?_ | refine Da3 ?_)
    refine a_storeG0 (by rfl) (by rfl) (by rfl) (.inl rfl) gf (by omega) (by rfl) fun As ys hy hl fs gg => ?_
    repeat (first | refine Da1 ?_ | refine Da3 ?_)
    (refine a_end (by rfl) (by rfl) ?_; simp only [finA, setL, List.drop_succ_cons, List.drop_zero])
  case' refine_2 =>
    refine (regX_runW _ [[], [], [], [], [], [], [4, 5], [4, 5, 6, 8, 9, 10, 11], [], [], [8, 9], [8, 9, 10], [0, 1, 4, 5, 6, 7, 8, 9, 10, 11], [0, 1, 4, 5, 6, 7, 8, 9, 10, 11, 12], [0, 1, 2, 3, 4, 5, 6, 7, 8, 9, 10, 11, 12, 13], [0, 1, 2, 3, 4, 5, 6, 7, 8, 9, 10, 11, 12, 13, 14]] 14 [(0, false), (1, false), (2, false), (3, false), (4, false), (5, false), (6, false), (8, false), (9, false), (10, false), (11, true), (7, true), (12, false), (13, true)] (by kernel_rfl) (by kernel_rfl) (by kernel_rfl) ?_)
    repeat (first | refine Da1 ?_ | refine Da3 ?_)
    refine a_qw (by rfl) (.inl rfl) (z_loadG (by rfl) gf (by omega) (by rfl)) ?_
    repeat (first | refine Da1 ?_ | refine Da3 ?_)
    refine a_qw (by rfl) (.inl rfl) (z_loadG (by rfl) gf (by omega) (by rfl)) ?_
    repeat (first | refine Da1 ?_ | refine Da3 ?_)
    refine a_storeG0 (by rfl) (by rfl) (by rfl) (.inl rfl) gf (by omega) (by rfl) fun As ys hy hl fs gg => ?_
    repeat (first | refine Da1 ?_ | refine Da3 ?_)
    (refine a_end (by rfl) (by rfl) ?_; simp only [finA, setL, List.drop_succ_cons, List.drop_zero])
  all_goals
    repeat (first | refine R1 ?_ | (refine R2 ?_; intro _) | refine fp (Rq ?_ (z_indexGI (by rfl) (by rfl) (by assumption) (by omega) (by omega))))
    refine fp (y_storeG0 (by rfl) (by rfl) gg (by omega) (by rfl) fun At zs hz hlz fz gz => ?_)
    repeat (first | refine R1 ?_ | (refine R2 ?_; intro _) | refine fp (Rq ?_ (z_indexGI (by rfl) (by rfl) (by assumption) (by omega) (by omega))))
    rw [show (((j4 + 1 : Nat) : Int) - 1) = (j4 : Int) by omega]
    have hf : zs = (swp f i4 (j4 + 1)).toList := swp_is hy hz (by omega) (by omega) (by omega) (by omega) (by omega) (by omega)
    rw [hf] at gz
    exact ⟨(i4 + 1, j4, swp f i4 (j4 + 1)), by simp only; omega, ⟨rfl, rfl, trivial⟩, rfl, _, _, inferInstance, gz, by simp only [swp_size]; exact fsz, by simp only; omega, by simp only; omega, by simp only; omega, by simp only; omega, by simp only; rw [← finv, s3]; rfl⟩
end Go.Proofs.YtekjikbaefgncaaGreat

/- Walks: the library's sort: equal ones, little mending. Printed by gen_qd.py. -/
namespace Go.Proofs.YtekjikbaefgncaaGreat
open Go Go.Sl Go.Sort
set_option maxRecDepth 100000
set_option maxHeartbeats 4000000
attribute [local irreducible] Go.Code.sf sfOps Opq opo retF Do1 anyO
variable {M : Jdg → Prop} [IsCl Tryz.prog M]
theorem partitionEqual_f (h : PHeap) (v : Value) (A : Own) (d : Array Int) (g : Gr A v 3 intF d.toList) (a b p : Nat) (hb : b ≤ d.size) (hs : d.size ≤ 1000000) (hab : a < b) (hp : a ≤ p ∧ p < b) :
    CallF Tryz.prog M 164 [v, .int .i64 (a : Int), .int .i64 (b : Int), .int .i64 (p : Int)] A h fun u A' => u = .int .i64 ((partitionEqual ltInt d a b p).1 : Int) ∧ Gr A' v 3 intF (partitionEqual ltInt d a b p).2.toList := by
  have o := g.one
  have ld : d.toList.length = d.size := by simp
  obtain ⟨n, rfl⟩ : ∃ n : Nat, b = n + 1 := ⟨b - 1, by omega⟩
  refine calls_of_sf Tryz.func164 rfl Tryz.ntmps164 ?_
  simp only [argsL, Nat.reduceAdd]
  repeat (first | refine R1 ?_ | (refine R2 ?_; intro _))
  apply viaT (G := ∀ (B : Own), Gr B v 3 intF (swp d a p).toList → _)
  · intro tail
    refine sf_draw (by kernel_rfl) (regX_own (A) (regX_split 7 11 (by rfl) ?_ ?_))
    case' refine_1 =>
      refine (regX_runW _ [[], [], [], [], [], [], [4, 5], [4, 5, 6], [], [], [8, 9], [4, 5, 6, 7, 8, 9, 10], [0, 1, 4, 5, 6, 7, 8, 9, 10, 11], [0, 1, 4, 5, 6, 7, 8, 9, 10, 11, 12], [0, 1, 2, 3, 4, 5, 6, 7, 8, 9, 10, 11, 12, 13], [0, 1, 2, 3, 4, 5, 6, 7, 8, 9, 10, 11, 12, 13, 14]] 14 [(0, false), (1, false), (2, false), (3, false), (4, false), (5, false), (6, false), (8, false), (9, false), (10, false), (7, true), (11, true), (12, false), (13, true)] (by kernel_rfl) (by kernel_rfl) (by kernel_rfl) ?_)
      repeat (first | refine Da1 ?_ | refine Da3 ?_)
      refine a_qw (by rfl) (.inl rfl) (z_loadG (by rfl) g (by omega) (by rfl)) ?_
      repeat (first | refine Da1 ?_ | refine Da3 ?_)
      refine a_qw (by rfl) (.inl rfl) (z_loadG (by rfl) g (by omega) (by rfl)) ?_
      repeat (first | refine Da1 ?_ | refine Da3 ?_)
      refine a_storeG0 (by rfl) (by rfl) (by rfl) (.inl rfl) g (by omega) (by rfl) fun As ys hy hl fs gg => ?_
      repeat (first | refine Da1 ?_ | refine Da3 ?_)
      (refine a_end (by rfl) (by rfl) ?_; simp only [finA, setL, List.drop_succ_cons, List.drop_zero])
    case' refine_2 =>
      refine (regX_runW _ [[], [], [], [], [], [], [4, 5], [4, 5, 6, 8, 9, 10, 11], [], [], [8, 9], [8, 9, 10], [0, 1, 4, 5, 6, 7, 8, 9, 10, 11], [0, 1, 4, 5, 6, 7, 8, 9, 10, 11, 12], [0, 1, 2, 3, 4, 5, 6, 7, 8, 9, 10, 11, 12, 13], [0, 1, 2, 3, 4, 5, 6, 7, 8, 9, 10, 11, 12, 13, 14]] 14 [(0, false), (1, false), (2, false), (3, false), (4, false), (5, false), (6, false), (8, false), (9, false), (10, false), (11, true), (7, true), (12, false), (13, true)] (by kernel_rfl) (by kernel_rfl) (by kernel_rfl) ?_)
      repeat (first | refine Da1 ?_ | refine Da3 ?_)
      refine a_qw (by rfl) (.inl rfl) (z_loadG (by rfl) g (by omega) (by rfl)) ?_
      repeat (first | refine Da1 ?_ | refine Da3 ?_)
      refine a_qw (by rfl) (.inl rfl) (z_loadG (by rfl) g (by omega) (by rfl)) ?_
      repeat (first | refine Da1 ?_ | refine Da3 ?_)
      refine a_storeG0 (by rfl) (by rfl) (by rfl) (.inl rfl) g (by omega) (by rfl) fun As ys hy hl fs gg => ?_
      repeat (first | refine Da1 ?_ | refine Da3 ?_)
      (refine a_end (by rfl) (by rfl) ?_; simp only [finA, setL, List.drop_succ_cons, List.drop_zero])
    all_goals
      repeat (first | refine R1 ?_ | (refine R2 ?_; intro _) | refine fp (Rq ?_ (z_indexGI (by rfl) (by rfl) (by assumption) (by omega) (by omega))))
      refine fp (y_storeG0 (by rfl) (by rfl) gg (by omega) (by rfl) fun At zs hz hlz fz gz => ?_)
      repeat (first | refine R1 ?_ | (refine R2 ?_; intro _) | refine fp (Rq ?_ (z_indexGI (by rfl) (by rfl) (by assumption) (by omega) (by omega))))
      rw [show (((n + 1 : Nat) : Int) - 1) = (n : Int) by omega]
      have hf : zs = (swp d a p).toList := swp_is hy hz (by omega) (by omega) (by omega) (by omega) (by omega) (by omega)
      rw [hf] at gz
      show Code.sf _ _ _ _ _ _ _ _
      refine sf_keep [0, 1, 9, 10] ?_
      refine sf_own At ?_
      exact tail.out At gz
  intro B ge
  obtain ⟨e, he⟩ : ∃ e, e = swp d a p := ⟨_, rfl⟩
  rw [← he] at ge
  have es : e.size = d.size := by rw [he, swp_size]
  have hpe : partitionEqual ltInt d a (n + 1) p = partEqLoop ltInt a (a + 1) n e := by rw [he]; rfl
  rw [hpe]
  refine sf_lp (ι := Nat × Nat × Array Int) [0, 1] (fun x => [(9, .int .i64 (x.1 : Int)), (10, .int .i64 (x.2.1 : Int))]) (fun x O => Gr O v 3 intF x.2.2.toList ∧ x.2.2.size = d.size ∧ a + 1 ≤ x.1 ∧ x.1 ≤ x.2.1 + 2 ∧ a ≤ x.2.1 ∧ x.2.1 ≤ n ∧ partEqLoop ltInt a x.1 x.2.1 x.2.2 = partEqLoop ltInt a (a + 1) n e) (fun x => x.2.1 + 2 - x.1) (a + 1, n, e) B ⟨ge, by simp only; omega, by simp only; omega, by simp only; omega, by simp only; omega, by simp only; omega, rfl⟩ ?_
  rintro ⟨i3, j3, f⟩ O3 ⟨gf, fsz, k1, k2, k3, k4, finv⟩
  simp only at gf fsz k1 k2 k3 k4 finv ⊢
  have lf : f.toList.length = f.size := by simp
  have uf : gt f.toList a = f[a]! := gt_arr (by omega)
  repeat (first | refine R1 ?_ | (refine R2 ?_; intro _))
  apply viaT (G := ∀ i : Nat, i3 ≤ i → i ≤ j3 + 2 → scanUp (fun x => !ltInt f[a]! x) f j3 i3 = i → _)
  · intro tail
    refine sf_lp (ι := Nat) [0, 1, 10] (fun x => [(9, .int .i64 (x : Int))]) (fun x O' => O' = O3 ∧ i3 ≤ x ∧ x ≤ j3 + 2 ∧ scanUp (fun x => !ltInt f[a]! x) f j3 x = scanUp (fun x => !ltInt f[a]! x) f j3 (i3)) (fun x => j3 + 2 - x) (i3) O3 ⟨rfl, by omega, by omega, rfl⟩ ?_
    rintro x _ ⟨rfl, hx0, hx1, hinv⟩
    by_cases h2 : x ≤ j3
    · have h3 : (x : Int) ≤ ((j3 : Nat) : Int) := by omega
      have u1 : gt f.toList x = f[x]! := gt_arr (by omega)
      repeat (first | refine R1 ?_ | (refine R2 ?_; intro _))
      refine sf_draw (by kernel_rfl) (regX_run [[], [], [0, 1], [0, 1, 2], [0, 1, 2, 3], [0, 1, 2, 3], [0, 1, 2, 3, 4, 5], [0, 1, 2, 3, 4, 5, 6], [0, 1, 2, 3], [0, 1, 2, 3], [0, 1, 2, 3, 8, 9], [0, 1, 2, 3, 8, 9, 10], [0, 1, 2, 3, 4, 5, 6, 7, 8, 9, 10, 11], [0, 1, 2, 3, 4, 5, 6, 7, 8, 9, 10, 11, 12], [0, 1, 2, 3, 4, 5, 6, 7, 8, 9, 10, 11, 12, 13]] 12 [(0, false), (1, false), (2, false), (3, false), (4, false), (5, false), (6, false), (7, false), (8, false), (9, false), (10, false), (11, false)] (by kernel_rfl) (by kernel_rfl) (by kernel_rfl) ?_)
      repeat (first | refine Da1 ?_ | refine Da3 ?_)
      (refine a_end (by rfl) (by rfl) ?_; simp only [finA, setL, List.drop_succ_cons, List.drop_zero])
      refine fp (y_callV (less_v _ _ _) (by rfl) ?_)
      repeat (first | refine R1 ?_ | (refine R2 ?_; intro _))
      rw [u1, uf]
      refine sf_ifn (fun h4 => ?_) fun h4 => ?_
      · repeat (first | refine R1 ?_ | (refine R2 ?_; intro _))
        exact ⟨x + 1, by omega, ⟨rfl, trivial⟩, rfl, _, _, inferInstance, rfl, by omega, by omega, by rw [← hinv]; exact (scanUp_go h2 (by simp only [ltInt_is]; simp [h4])).symm⟩
      · refine sf_exit ?_
        repeat (first | refine R1 ?_ | (refine R2 ?_; intro _))
        refine sf_keep [0, 1, 9, 10] ?_
        exact tail.out x (by omega) (by omega) (by rw [← hinv]; exact scanUp_stop (fun h => absurd h4 (by simpa [ltInt_is] using h.2)))
    · have h3 : ¬ (x : Int) ≤ ((j3 : Nat) : Int) := by omega
      repeat (first | refine R1 ?_ | (refine R2 ?_; intro _))
      refine sf_draw (by kernel_rfl) (regX_run [[], [], [0, 1], [0, 1, 2], [0, 1, 2, 3], [0, 1, 2, 3], [0, 1, 2, 3, 4, 5], [0, 1, 2, 3, 4, 5, 6], [0, 1, 2, 3], [0, 1, 2, 3], [0, 1, 2, 3, 8, 9], [0, 1, 2, 3, 8, 9, 10], [0, 1, 2, 3, 4, 5, 6, 7, 8, 9, 10, 11], [0, 1, 2, 3, 4, 5, 6, 7, 8, 9, 10, 11, 12], [0, 1, 2, 3, 4, 5, 6, 7, 8, 9, 10, 11, 12, 13]] 12 [(0, false), (1, false), (2, false), (3, false), (4, false), (5, false), (6, false), (7, false), (8, false), (9, false), (10, false), (11, false)] (by kernel_rfl) (by kernel_rfl) (by kernel_rfl) ?_)
      repeat (first | refine Da1 ?_ | refine Da3 ?_)
      (refine a_end (by rfl) (by rfl) ?_; simp only [finA, setL, List.drop_succ_cons, List.drop_zero])
      repeat (first | refine R1 ?_ | (refine R2 ?_; intro _))
      refine sf_cond (by rfl) (fun e => by cases e) fun z1 => ?_
      clear z1
      refine sf_exit ?_
      repeat (first | refine R1 ?_ | (refine R2 ?_; intro _))
      refine sf_keep [0, 1, 9, 10] ?_
      exact tail.out x (by omega) (by omega) (by rw [← hinv]; exact scanUp_stop (fun h => h2 h.1))
  intro i4 hi4 hi5 hsu4
  apply viaT (G := ∀ j : Nat, i4 ≤ j + 2 → a ≤ j → j ≤ j3 → scanDown (fun x => ltInt f[a]! x) f i4 j3 = j → _)
  · intro tail
    refine sf_lp (ι := Nat) [0, 1, 9] (fun x => [(10, .int .i64 (x : Int))]) (fun x O' => O' = O3 ∧ i4 ≤ x + 2 ∧ a ≤ x ∧ x ≤ j3 ∧ scanDown (fun x => ltInt f[a]! x) f i4 x = scanDown (fun x => ltInt f[a]! x) f i4 (j3)) (fun x => x) (j3) O3 ⟨rfl, by omega, by omega, by omega, rfl⟩ ?_
    rintro x _ ⟨rfl, hx0, hx2, hx1, hinv⟩
    by_cases h2 : i4 ≤ x
    · obtain ⟨y, hy0⟩ : ∃ k, x = k + 1 := ⟨x - 1, by omega⟩
      have h3 : ((i4 : Nat) : Int) ≤ (x : Int) := by omega
      have u1 : gt f.toList x = f[x]! := gt_arr (by omega)
      repeat (first | refine R1 ?_ | (refine R2 ?_; intro _))
      refine sf_draw (by kernel_rfl) (regX_run [[], [], [0, 1], [0, 1, 2], [0, 1, 2, 3], [0, 1, 2, 3], [0, 1, 2, 3, 4, 5], [0, 1, 2, 3, 4, 5, 6], [0, 1, 2, 3], [0, 1, 2, 3], [0, 1, 2, 3, 8, 9], [0, 1, 2, 3, 8, 9, 10], [0, 1, 2, 3, 4, 5, 6, 7, 8, 9, 10, 11], [0, 1, 2, 3, 4, 5, 6, 7, 8, 9, 10, 11, 12]] 12 [(0, false), (1, false), (2, false), (3, false), (4, false), (5, false), (6, false), (7, false), (8, false), (9, false), (10, false), (11, false)] (by kernel_rfl) (by kernel_rfl) (by kernel_rfl) ?_)
      repeat (first | refine Da1 ?_ | refine Da3 ?_)
      (refine a_end (by rfl) (by rfl) ?_; simp only [finA, setL, List.drop_succ_cons, List.drop_zero])
      refine fp (y_callV (less_v _ _ _) (by rfl) ?_)
      repeat (first | refine R1 ?_ | (refine R2 ?_; intro _))
      rw [u1, uf]
      refine sf_if (fun h4 => ?_) fun h4 => ?_
      · repeat (first | refine R1 ?_ | (refine R2 ?_; intro _))
        subst hy0
        exact ⟨y, by omega, ⟨vI (show ((y + 1 : Nat) : Int) - 1 = (y : Int) by omega), trivial⟩, rfl, _, _, inferInstance, rfl, by omega, by omega, by omega, by rw [← hinv]; exact (scanDown_go h2 (by simp only [ltInt_is]; simp [h4])).symm⟩
      · refine sf_exit ?_
        repeat (first | refine R1 ?_ | (refine R2 ?_; intro _))
        (show Code.sf _ _ _ _ _ _ _ _; refine sf_keep [0, 1, 9, 10, 64] ?_)
        exact tail.out x (by omega) (by omega) (by omega) (by rw [← hinv]; exact scanDown_stop (fun h => h4 (by simpa [ltInt_is] using h.2)))
    · have h3 : ¬ ((i4 : Nat) : Int) ≤ (x : Int) := by omega
      repeat (first | refine R1 ?_ | (refine R2 ?_; intro _))
      refine sf_draw (by kernel_rfl) (regX_run [[], [], [0, 1], [0, 1, 2], [0, 1, 2, 3], [0, 1, 2, 3], [0, 1, 2, 3, 4, 5], [0, 1, 2, 3, 4, 5, 6], [0, 1, 2, 3], [0, 1, 2, 3], [0, 1, 2, 3, 8, 9], [0, 1, 2, 3, 8, 9, 10], [0, 1, 2, 3, 4, 5, 6, 7, 8, 9, 10, 11], [0, 1, 2, 3, 4, 5, 6, 7, 8, 9, 10, 11, 12]] 12 [(0, false), (1, false), (2, false), (3, false), (4, false), (5, false), (6, false), (7, false), (8, false), (9, false), (10, false), (11, false)] (by kernel_rfl) (by kernel_rfl) (by kernel_rfl) ?_)
      repeat (first | refine Da1 ?_ | refine Da3 ?_)
      (refine a_end (by rfl) (by rfl) ?_; simp only [finA, setL, List.drop_succ_cons, List.drop_zero])
      repeat (first | refine R1 ?_ | (refine R2 ?_; intro _))
      refine sf_cond (by rfl) (fun e => by cases e) fun z1 => ?_
      clear z1
      refine sf_exit ?_
      repeat (first | refine R1 ?_ | (refine R2 ?_; intro _))
      (show Code.sf _ _ _ _ _ _ _ _; refine sf_keep [0, 1, 9, 10, 64] ?_)
      exact tail.out x (by omega) (by omega) (by omega) (by rw [← hinv]; exact scanDown_stop (fun h => h2 h.1))
  intro j4 hj4 hj5 hj6 hsd4
  obtain ⟨s1, s2⟩ := partEqLoop_step hsu4 hsd4 hi4 hj6
  refine sf_if (fun h5 => ?_) fun h5 => ?_
  · refine sf_exit ?_
    rw [← finv, s1 (by omega)]
    repeat (first | refine R1 ?_ | (refine R2 ?_; intro _))
    exact sf_ret (rO O3 ⟨rfl, gf⟩)
  obtain ⟨j4, rfl⟩ : ∃ k, j4 = k + 1 := ⟨j4 - 1, by omega⟩
  have s3 := s2 (by omega) (by omega)
  repeat (first | refine R1 ?_ | (refine R2 ?_; intro _))
  refine sf_draw (by kernel_rfl) (regX_own (O3) (regX_split 7 11 (by rfl) ?_ ?_))
  case' refine_1 =>
    refine (regX_runW _ [[], [], [], [], [], [], [4, 5], [4, 5, 6], [], [], [8, 9], [4, 5, 6, 7, 8, 9, 10], [0, 1, 4, 5, 6, 7, 8, 9, 10, 11], [0, 1, 4, 5, 6, 7, 8, 9, 10, 11, 12], [0, 1, 2, 3, 4, 5, 6, 7, 8, 9, 10, 11, 12, 13], [0, 1, 2, 3, 4, 5, 6, 7, 8, 9, 10, 11, 12, 13, 14]] 14 [(0, false), (1, false), (2, false), (3, false), (4, false), (5, false), (6, false), (8, false), (9, false), (10, false), (7, true), (11, true), (12, false), (13, true)] (by kernel_rfl) (by kernel_rfl) (by kernel_rfl) ?_)
    repeat (first | refine Da1 ?_ | refine Da3 ?_)
    refine a_qw (by rfl) (.inl rfl) (z_loadG (by rfl) gf (by omega) (by rfl)) ?_
    repeat (first | refine Da1 ?_ | refine Da3 ?_)
    refine a_qw (by rfl) (.inl rfl) (z_loadG (by rfl) gf (by omega) (by rfl)) ?_
    repeat (first | refine Da1 ?_ | refine Da3 ?_)
    refine a_storeG0 (by rfl) (by rfl) (by rfl) (.inl rfl) gf (by omega) (by rfl) fun As ys hy hl fs gg => ?_
    repeat (first | refine Da1 ?_ | refine Da3 ?_)
    (refine a_end (by rfl) (by rfl) ?_; simp only [finA, setL, List.drop_succ_cons, List.drop_zero])
  case' refine_2 =>
    refine (regX_runW _ [[], [], [], [], [], [], [4, 5], [4, 5, 6, 8, 9, 10, 11], [], [], [8, 9], [8, 9, 10], [0, 1, 4, 5, 6, 7, 8, 9, 10, 11], [0, 1, 4, 5, 6, 7, 8, 9, 10, 11, 12], [0, 1, 2, 3, 4, 5, 6, 7, 8, 9, 10, 11, 12, 13], [0, 1, 2, 3, 4, 5, 6, 7, 8, 9, 10, 11, 12, 13, 14]] 14 [(0, false), (1, false), (2, false), (3, false), (4, false), (5, false), (6, false), (8, false), (9, false), (10, false), (11, true), (7, true), (12, false), (13, true)] (by kernel_rfl) (by kernel_rfl) (by kernel_rfl) ?_)
    repeat (first | refine Da1 ?_ | refine Da3 ?_)
    refine a_qw (by rfl) (.inl rfl) (z_loadG (by rfl) gf (by omega) (by rfl)) ?_
    repeat (first | refine Da1 ?_ | refine Da3 ?_)
    refine a_qw (by rfl) (.inl rfl) (z_loadG (by rfl) gf (by omega) (by rfl)) ?_
    repeat (first | refine Da1 ?_ | refine Da3 ?_)
    refine a_storeG0 (by rfl) (by rfl) (by rfl) (.inl rfl) gf (by omega) (by rfl) fun As ys hy hl fs gg => ?_
    repeat (first | refine Da1 ?_ | refine Da3 ?_)
    (refine a_end (by rfl) (by rfl) ?_; simp only [finA, setL, List.drop_succ_cons, List.drop_zero])
  all_goals
    repeat (first | refine R1 ?_ | (refine R2 ?_; intro _) | refine fp (Rq ?_ (z_indexGI (by rfl) (by rfl) (by assumption) (by omega) (by omega))))
    refine fp (y_storeG0 (by rfl) (by rfl) gg (by omega) (by rfl) fun At zs hz hlz fz gz => ?_)
    repeat (first | refine R1 ?_ | (refine R2 ?_; intro _) | refine fp (Rq ?_ (z_indexGI (by rfl) (by rfl) (by assumption) (by omega) (by omega))))
    rw [show (((j4 + 1 : Nat) : Int) - 1) = (j4 : Int) by omega]
    have hf : zs = (swp f i4 (j4 + 1)).toList := swp_is hy hz (by omega) (by omega) (by omega) (by omega) (by omega) (by omega)
    rw [hf] at gz
    exact ⟨(i4 + 1, j4, swp f i4 (j4 + 1)), by simp only; omega, ⟨rfl, rfl, trivial⟩, rfl, _, _, inferInstance, gz, by simp only [swp_size]; exact fsz, by simp only; omega, by simp only; omega, by simp only; omega, by simp only; omega, by simp only; rw [← finv, s3]; rfl⟩
theorem partialInsertionSort_f (h : PHeap) (v : Value) (A : Own) (d : Array Int) (g : Gr A v 3 intF d.toList) (a b : Nat) (hb : b ≤ d.size) (hs : d.size ≤ 1000000) (hab : a < b) :
    CallF Tryz.prog M 162 [v, .int .i64 (a : Int), .int .i64 (b : Int)] A h fun u A' => u = .bool (partialInsertionSort ltInt d a b).2 ∧ Gr A' v 3 intF (partialInsertionSort ltInt d a b).1.toList := by
  have o := g.one
  refine calls_of_sf Tryz.func162 rfl Tryz.ntmps162 ?_
  simp only [argsL, Nat.reduceAdd]
  repeat (first | refine R1 ?_ | (refine R2 ?_; intro _))
  refine sf_lp (ι := Nat × Nat × Array Int) [0, 1, 2] (fun x => [(8, .int .i64 (5 - (x.1 : Int))), (7, .int .i64 (x.2.1 : Int))]) (fun x O => Gr O v 3 intF x.2.2.toList ∧ x.2.2.size = d.size ∧ x.1 ≤ 5 ∧ a + 1 ≤ x.2.1 ∧ x.2.1 ≤ b ∧ partialIns ltInt a b x.1 x.2.1 x.2.2 = partialInsertionSort ltInt d a b) (fun x => x.1) (5, a + 1, d) A ⟨g, rfl, by simp only; omega, by simp only; omega, by simp only; omega, rfl⟩ ?_
  rintro ⟨s, i, f⟩ O ⟨gf, fsz, hs5, hi, hib, finv⟩
  simp only at gf fsz hs5 hi hib finv ⊢
  have lf : f.toList.length = f.size := by simp
  repeat (first | refine R1 ?_ | (refine R2 ?_; intro _))
  refine sf_if (fun h1 => ?_) fun h1 => ?_
  · obtain ⟨s, rfl⟩ : ∃ k, s = k + 1 := ⟨s - 1, by omega⟩
    repeat (first | refine R1 ?_ | (refine R2 ?_; intro _))
    apply viaT (G := ∀ i2 : Nat, i ≤ i2 → i2 ≤ b → scanSorted ltInt f b i = i2 → _)
    · intro tail
      refine sf_lp (ι := Nat) [0, 1, 2, 8] (fun x => [(7, .int .i64 (x : Int))]) (fun x O' => O' = O ∧ i ≤ x ∧ x ≤ b ∧ scanSorted ltInt f b x = scanSorted ltInt f b i) (fun x => b - x) i O ⟨rfl, by omega, hib, rfl⟩ ?_
      rintro x _ ⟨rfl, hx0, hx1, hinv⟩
      by_cases h2 : x < b
      · have h3 : (x : Int) < ((b : Nat) : Int) := by omega
        have u1 : gt f.toList x = f[x]! := gt_arr (by omega)
        have u2 : gt f.toList ((x : Int) - 1).toNat = f[x - 1]! := gt_arr' (by omega) (by omega)
        repeat (first | refine R1 ?_ | (refine R2 ?_; intro _))
        refine sf_draw (by kernel_rfl) (regX_run [[], [], [0, 1], [0, 1, 2], [0, 1, 2, 3], [0, 1, 2, 3], [0, 1, 2, 3, 4, 5], [0, 1, 2, 3, 4, 5, 6], [0, 1, 2, 3], [0, 1, 2, 3], [0, 1, 2, 3, 9], [0, 1, 2, 3, 8, 9, 10], [0, 1, 2, 3, 8, 9, 10, 11], [0, 1, 2, 3, 4, 5, 6, 7, 8, 9, 10, 11, 12], [0, 1, 2, 3, 4, 5, 6, 7, 8, 9, 10, 11, 12, 13], [0, 1, 2, 3, 4, 5, 6, 7, 8, 9, 10, 11, 12, 13, 14]] 13 [(0, false), (1, false), (2, false), (3, false), (4, false), (5, false), (6, false), (7, false), (8, false), (9, false), (10, false), (11, false), (12, false)] (by kernel_rfl) (by kernel_rfl) (by kernel_rfl) ?_)
        repeat (first | refine Da1 ?_ | refine Da3 ?_)
        (refine a_end (by rfl) (by rfl) ?_; simp only [finA, setL, List.drop_succ_cons, List.drop_zero])
        refine fp (y_callV (less_v _ _ _) (by rfl) ?_)
        repeat (first | refine R1 ?_ | (refine R2 ?_; intro _))
        rw [u1, u2]
        refine sf_ifn (fun h4 => ?_) fun h4 => ?_
        · repeat (first | refine R1 ?_ | (refine R2 ?_; intro _))
          exact ⟨x + 1, by omega, ⟨rfl, trivial⟩, rfl, _, _, inferInstance, rfl, by omega, by omega, by rw [← hinv]; exact (scanSorted_go h2 h4).symm⟩
        · refine sf_exit ?_
          repeat (first | refine R1 ?_ | (refine R2 ?_; intro _))
          show Code.sf _ _ _ _ _ _ _ _
          refine sf_keep [0, 1, 2, 7, 8, 37] ?_
          exact tail.out x hx0 hx1 (by rw [← hinv]; exact scanSorted_stop fun h => h.2 h4)
      · have h3 : ¬ (x : Int) < ((b : Nat) : Int) := by omega
        repeat (first | refine R1 ?_ | (refine R2 ?_; intro _))
        refine sf_draw (by kernel_rfl) (regX_run [[], [], [0, 1], [0, 1, 2], [0, 1, 2, 3], [0, 1, 2, 3], [0, 1, 2, 3, 4, 5], [0, 1, 2, 3, 4, 5, 6], [0, 1, 2, 3], [0, 1, 2, 3], [0, 1, 2, 3, 9], [0, 1, 2, 3, 8, 9, 10], [0, 1, 2, 3, 8, 9, 10, 11], [0, 1, 2, 3, 4, 5, 6, 7, 8, 9, 10, 11, 12], [0, 1, 2, 3, 4, 5, 6, 7, 8, 9, 10, 11, 12, 13], [0, 1, 2, 3, 4, 5, 6, 7, 8, 9, 10, 11, 12, 13, 14]] 13 [(0, false), (1, false), (2, false), (3, false), (4, false), (5, false), (6, false), (7, false), (8, false), (9, false), (10, false), (11, false), (12, false)] (by kernel_rfl) (by kernel_rfl) (by kernel_rfl) ?_)
        repeat (first | refine Da1 ?_ | refine Da3 ?_)
        (refine a_end (by rfl) (by rfl) ?_; simp only [finA, setL, List.drop_succ_cons, List.drop_zero])
        repeat (first | refine R1 ?_ | (refine R2 ?_; intro _))
        refine sf_cond (by rfl) (fun e => by cases e) fun z1 => ?_
        clear z1
        refine sf_exit ?_
        repeat (first | refine R1 ?_ | (refine R2 ?_; intro _))
        show Code.sf _ _ _ _ _ _ _ _
        refine sf_keep [0, 1, 2, 7, 8, 37] ?_
        exact tail.out x hx0 hx1 (by rw [← hinv]; exact scanSorted_stop fun h => h2 h.1)
    intro i2 hi2 hi3 hsc
    obtain ⟨p1, p2, p3⟩ := partialIns_step (a := a) (s := s) hsc
    refine sf_if (fun h5 => ?_) fun h5 => ?_
    · repeat (first | refine R1 ?_ | (refine R2 ?_; intro _))
      refine sf_ret (rO O ?_)
      rw [← finv, p1 (by omega)]
      exact ⟨rfl, gf⟩
    repeat (first | refine R1 ?_ | (refine R2 ?_; intro _))
    refine sf_if (fun h6 => ?_) fun h6 => ?_
    · repeat (first | refine R1 ?_ | (refine R2 ?_; intro _))
      refine sf_ret (rO O ?_)
      rw [← finv, p2 (by omega) (by omega)]
      exact ⟨rfl, gf⟩
    have p4 := p3 (by omega) (by omega) _ _ rfl rfl
    clear p1 p2 p3
    rw [finv] at p4
    clear finv
    repeat (first | refine R1 ?_ | (refine R2 ?_; intro _))
    apply viaT (G := ∀ (B : Own), Gr B v 3 intF (swp f i2 (i2 - 1)).toList → _)
    · intro tail
      refine sf_draw (by kernel_rfl) (regX_own (O) (regX_split 9 13 (by rfl) ?_ ?_))
      case' refine_1 =>
        refine (regX_runW _ [[], [], [], [], [3], [], [], [6], [5, 6, 7], [5, 6, 7, 8], [], [], [10, 11], [5, 6, 7, 8, 9, 10, 11, 12], [0, 1, 5, 6, 7, 8, 9, 10, 11, 12, 13], [0, 1, 5, 6, 7, 8, 9, 10, 11, 12, 13, 14], [0, 1, 2, 3, 4, 5, 6, 7, 8, 9, 10, 11, 12, 13, 14, 15], [0, 1, 2, 3, 4, 5, 6, 7, 8, 9, 10, 11, 12, 13, 14, 15, 16]] 16 [(0, false), (1, false), (2, false), (3, false), (4, false), (5, false), (6, false), (7, false), (8, false), (10, false), (11, false), (12, false), (9, true), (13, true), (14, false), (15, true)] (by kernel_rfl) (by kernel_rfl) (by kernel_rfl) ?_)
        repeat (first | refine Da1 ?_ | refine Da3 ?_)
        refine a_qw (by rfl) (.inl rfl) (z_loadG (by rfl) gf (by omega) (by rfl)) ?_
        repeat (first | refine Da1 ?_ | refine Da3 ?_)
        refine a_qw (by rfl) (.inl rfl) (z_loadG (by rfl) gf (by omega) (by rfl)) ?_
        repeat (first | refine Da1 ?_ | refine Da3 ?_)
        refine a_storeG0 (by rfl) (by rfl) (by rfl) (.inl rfl) gf (by omega) (by rfl) fun As ys hy hl fs gg => ?_
        repeat (first | refine Da1 ?_ | refine Da3 ?_)
        (refine a_end (by rfl) (by rfl) ?_; simp only [finA, setL, List.drop_succ_cons, List.drop_zero])
      case' refine_2 =>
        refine (regX_runW _ [[], [], [], [], [3], [], [], [6], [5, 6, 7], [5, 6, 7, 8, 10, 11, 12, 13], [], [], [10, 11], [10, 11, 12], [0, 1, 5, 6, 7, 8, 9, 10, 11, 12, 13], [0, 1, 5, 6, 7, 8, 9, 10, 11, 12, 13, 14], [0, 1, 2, 3, 4, 5, 6, 7, 8, 9, 10, 11, 12, 13, 14, 15], [0, 1, 2, 3, 4, 5, 6, 7, 8, 9, 10, 11, 12, 13, 14, 15, 16]] 16 [(0, false), (1, false), (2, false), (3, false), (4, false), (5, false), (6, false), (7, false), (8, false), (10, false), (11, false), (12, false), (13, true), (9, true), (14, false), (15, true)] (by kernel_rfl) (by kernel_rfl) (by kernel_rfl) ?_)
        repeat (first | refine Da1 ?_ | refine Da3 ?_)
        refine a_qw (by rfl) (.inl rfl) (z_loadG (by rfl) gf (by omega) (by rfl)) ?_
        repeat (first | refine Da1 ?_ | refine Da3 ?_)
        refine a_qw (by rfl) (.inl rfl) (z_loadG (by rfl) gf (by omega) (by rfl)) ?_
        repeat (first | refine Da1 ?_ | refine Da3 ?_)
        refine a_storeG0 (by rfl) (by rfl) (by rfl) (.inl rfl) gf (by omega) (by rfl) fun As ys hy hl fs gg => ?_
        repeat (first | refine Da1 ?_ | refine Da3 ?_)
        (refine a_end (by rfl) (by rfl) ?_; simp only [finA, setL, List.drop_succ_cons, List.drop_zero])
      all_goals
        repeat (first | refine R1 ?_ | (refine R2 ?_; intro _) | refine fp (Rq ?_ (z_indexGI (by rfl) (by rfl) (by assumption) (by omega) (by omega))))
        refine fp (y_storeG0 (by rfl) (by rfl) gg (by omega) (by rfl) fun At zs hz hlz fz gz => ?_)
        repeat (first | refine R1 ?_ | (refine R2 ?_; intro _) | refine fp (Rq ?_ (z_indexGI (by rfl) (by rfl) (by assumption) (by omega) (by omega))))
        have hf : zs = (swp f i2 (i2 - 1)).toList := swp_is hy hz (by omega) (by omega) (by omega) (by omega) (by omega) (by omega)
        rw [hf] at gz
        show Code.sf _ _ _ _ _ _ _ _
        refine sf_keep [0, 1, 2, 7, 8, 61] ?_
        refine sf_own At ?_
        exact tail.out At gz
    intro B ge
    obtain ⟨e, he⟩ : ∃ e, e = swp f i2 (i2 - 1) := ⟨_, rfl⟩
    rw [← he] at ge p4
    have es : e.size = d.size := by rw [he, swp_size]; exact fsz
    apply viaT (G := ∀ (B : Own), Gr B v 3 intF (if 2 ≤ i2 - a then shiftDown ltInt (i2 - 1) e else e).toList → (if 2 ≤ i2 - a then shiftDown ltInt (i2 - 1) e else e).size = d.size → _)
    · intro tail
      refine sf_if (fun h7 => ?_) fun h7 => ?_
      · rw [if_pos (by omega)] at tail
        repeat (first | refine R1 ?_ | (refine R2 ?_; intro _))
        rw [show ((i2 : Int) - 1) = ((i2 - 1 : Nat) : Int) by omega]
        refine sf_lp (ι := Nat × Array Int) [0, 1, 2, 7, 8] (fun x => [(9, .int .i64 (x.1 : Int))]) (fun x O => Gr O v 3 intF x.2.toList ∧ x.2.size = d.size ∧ x.1 < b ∧ shiftDown ltInt x.1 x.2 = shiftDown ltInt (i2 - 1) e) (fun x => x.1) (i2 - 1, e) B ⟨ge, es, by simp only; omega, rfl⟩ ?_
        rintro ⟨j, f2⟩ O2 ⟨gf2, f2sz, hj, f2inv⟩
        simp only at gf2 f2sz hj f2inv ⊢
        have lf2 : f2.toList.length = f2.size := by simp
        repeat (first | refine R1 ?_ | (refine R2 ?_; intro _))
        refine sf_if (fun h8 => ?_) fun h8 => ?_
        · obtain ⟨j, rfl⟩ : ∃ k, j = k + 1 := ⟨j - 1, by omega⟩
          have u1 : gt f2.toList (j + 1) = f2[j + 1]! := gt_arr (by omega)
          have u2 : gt f2.toList (((j + 1 : Nat) : Int) - 1).toNat = f2[j]! := gt_arr' (by omega) (by omega)
          repeat (first | refine R1 ?_ | (refine R2 ?_; intro _))
          refine sf_draw (by kernel_rfl) (regX_run [[], [], [0, 1], [0, 1, 2], [], [], [5], [4, 5, 6], [4, 5, 6, 7], [0, 1, 2, 3, 4, 5, 6, 7, 8], [0, 1, 2, 3, 4, 5, 6, 7, 8, 9]] 9 [(0, false), (1, false), (2, false), (3, false), (4, false), (5, false), (6, false), (7, false), (8, false)] (by kernel_rfl) (by kernel_rfl) (by kernel_rfl) ?_)
          repeat (first | refine Da1 ?_ | refine Da3 ?_)
          (refine a_end (by rfl) (by rfl) ?_; simp only [finA, setL, List.drop_succ_cons, List.drop_zero])
          refine fp (y_callV (less_v _ _ _) (by rfl) ?_)
          repeat (first | refine R1 ?_ | (refine R2 ?_; intro _))
          rw [u1, u2]
          refine sf_ifn (fun h9 => ?_) fun h9 => ?_
          · refine sf_exit ?_
            have fin := f2inv.symm.trans (shiftDown_stop h9)
            rw [fin] at tail
            repeat (first | refine R1 ?_ | (refine R2 ?_; intro _))
            show Code.sf _ _ _ _ _ _ _ _
            refine sf_keep [0, 1, 2, 7, 8, 98] ?_
            refine sf_own O2 ?_
            exact tail.out O2 gf2 f2sz
          · repeat (first | refine R1 ?_ | (refine R2 ?_; intro _))
            refine sf_draw (by kernel_rfl) (regX_own (O2) (regX_split 9 13 (by rfl) ?_ ?_))
            case' refine_1 =>
              refine (regX_runW _ [[], [], [], [], [3], [], [], [6], [5, 6, 7], [5, 6, 7, 8], [], [], [10, 11], [5, 6, 7, 8, 9, 10, 11, 12], [0, 1, 5, 6, 7, 8, 9, 10, 11, 12, 13], [0, 1, 5, 6, 7, 8, 9, 10, 11, 12, 13, 14], [0, 1, 2, 3, 4, 5, 6, 7, 8, 9, 10, 11, 12, 13, 14, 15], [0, 1, 2, 3, 4, 5, 6, 7, 8, 9, 10, 11, 12, 13, 14, 15, 16]] 16 [(0, false), (1, false), (2, false), (3, false), (4, false), (5, false), (6, false), (7, false), (8, false), (10, false), (11, false), (12, false), (9, true), (13, true), (14, false), (15, true)] (by kernel_rfl) (by kernel_rfl) (by kernel_rfl) ?_)
              repeat (first | refine Da1 ?_ | refine Da3 ?_)
              refine a_qw (by rfl) (.inl rfl) (z_loadG (by rfl) gf2 (by omega) (by rfl)) ?_
              repeat (first | refine Da1 ?_ | refine Da3 ?_)
              refine a_qw (by rfl) (.inl rfl) (z_loadG (by rfl) gf2 (by omega) (by rfl)) ?_
              repeat (first | refine Da1 ?_ | refine Da3 ?_)
              refine a_storeG0 (by rfl) (by rfl) (by rfl) (.inl rfl) gf2 (by omega) (by rfl) fun As ys hy hl fs gg => ?_
              repeat (first | refine Da1 ?_ | refine Da3 ?_)
              (refine a_end (by rfl) (by rfl) ?_; simp only [finA, setL, List.drop_succ_cons, List.drop_zero])
            case' refine_2 =>
              refine (regX_runW _ [[], [], [], [], [3], [], [], [6], [5, 6, 7], [5, 6, 7, 8, 10, 11, 12, 13], [], [], [10, 11], [10, 11, 12], [0, 1, 5, 6, 7, 8, 9, 10, 11, 12, 13], [0, 1, 5, 6, 7, 8, 9, 10, 11, 12, 13, 14], [0, 1, 2, 3, 4, 5, 6, 7, 8, 9, 10, 11, 12, 13, 14, 15], [0, 1, 2, 3, 4, 5, 6, 7, 8, 9, 10, 11, 12, 13, 14, 15, 16]] 16 [(0, false), (1, false), (2, false), (3, false), (4, false), (5, false), (6, false), (7, false), (8, false), (10, false), (11, false), (12, false), (13, true), (9, true), (14, false), (15, true)] (by kernel_rfl) (by kernel_rfl) (by kernel_rfl) ?_)
              repeat (first | refine Da1 ?_ | refine Da3 ?_)
              refine a_qw (by rfl) (.inl rfl) (z_loadG (by rfl) gf2 (by omega) (by rfl)) ?_
              repeat (first | refine Da1 ?_ | refine Da3 ?_)
              refine a_qw (by rfl) (.inl rfl) (z_loadG (by rfl) gf2 (by omega) (by rfl)) ?_
              repeat (first | refine Da1 ?_ | refine Da3 ?_)
              refine a_storeG0 (by rfl) (by rfl) (by rfl) (.inl rfl) gf2 (by omega) (by rfl) fun As ys hy hl fs gg => ?_
              repeat (first | refine Da1 ?_ | refine Da3 ?_)
              (refine a_end (by rfl) (by rfl) ?_; simp only [finA, setL, List.drop_succ_cons, List.drop_zero])
            all_goals
              repeat (first | refine R1 ?_ | (refine R2 ?_; intro _) | refine fp (Rq ?_ (z_indexGI (by rfl) (by rfl) (by assumption) (by omega) (by omega))))
              refine fp (y_storeG0 (by rfl) (by rfl) gg (by omega) (by rfl) fun At zs hz hlz fz gz => ?_)
              repeat (first | refine R1 ?_ | (refine R2 ?_; intro _) | refine fp (Rq ?_ (z_indexGI (by rfl) (by rfl) (by assumption) (by omega) (by omega))))
              rw [show (((j + 1 : Nat) : Int) - 1) = (j : Int) by omega]
              have hf : zs = (swp f2 (j + 1) j).toList := swp_is hy hz (by omega) (by omega) (by omega) (by omega) (by omega) (by omega)
              rw [hf] at gz
              exact ⟨(j, swp f2 (j + 1) j), by simp only; omega, ⟨rfl, trivial⟩, rfl, _, _, inferInstance, gz, by simp only [swp_size]; exact f2sz, by simp only; omega, by simp only; rw [← f2inv, shiftDown_go h9]⟩
        · obtain rfl : j = 0 := by omega
          refine sf_exit ?_
          have fin : shiftDown ltInt (i2 - 1) e = f2 := f2inv.symm
          rw [fin] at tail
          repeat (first | refine R1 ?_ | (refine R2 ?_; intro _))
          show Code.sf _ _ _ _ _ _ _ _
          refine sf_keep [0, 1, 2, 7, 8, 98] ?_
          refine sf_own O2 ?_
          exact tail.out O2 gf2 f2sz
      · rw [if_neg (by omega)] at tail
        repeat (first | refine R1 ?_ | (refine R2 ?_; intro _))
        show Code.sf _ _ _ _ _ _ _ _
        refine sf_keep [0, 1, 2, 7, 8, 98] ?_
        exact tail.out B ge es
    intro B2 ge2 es2
    obtain ⟨e2, he2⟩ : ∃ e2, e2 = (if 2 ≤ i2 - a then shiftDown ltInt (i2 - 1) e else e) := ⟨_, rfl⟩
    rw [← he2] at ge2 p4 es2
    refine sf_if (fun h7 => ?_) fun h7 => ?_
    · rw [if_pos (by omega)] at p4
      repeat (first | refine R1 ?_ | (refine R2 ?_; intro _))
      refine sf_lp (ι := Nat × Array Int) [0, 1, 2, 7, 8] (fun x => [(10, .int .i64 (x.1 : Int))]) (fun x O => Gr O v 3 intF x.2.toList ∧ x.2.size = d.size ∧ 1 ≤ x.1 ∧ x.1 ≤ b ∧ shiftUp ltInt b x.1 x.2 = shiftUp ltInt b (i2 + 1) e2) (fun x => b - x.1) (i2 + 1, e2) B2 ⟨ge2, es2, by simp only; omega, by simp only; omega, rfl⟩ ?_
      rintro ⟨j, f2⟩ O2 ⟨gf2, f2sz, hj0, hj, f2inv⟩
      simp only at gf2 f2sz hj0 hj f2inv ⊢
      have lf2 : f2.toList.length = f2.size := by simp
      repeat (first | refine R1 ?_ | (refine R2 ?_; intro _))
      refine sf_if (fun h8 => ?_) fun h8 => ?_
      · have u1 : gt f2.toList j = f2[j]! := gt_arr (by omega)
        have u2 : gt f2.toList ((j : Int) - 1).toNat = f2[j - 1]! := gt_arr' (by omega) (by omega)
        repeat (first | refine R1 ?_ | (refine R2 ?_; intro _))
        refine sf_draw (by kernel_rfl) (regX_run [[], [], [0, 1], [0, 1, 2], [], [], [5], [4, 5, 6], [4, 5, 6, 7], [0, 1, 2, 3, 4, 5, 6, 7, 8], [0, 1, 2, 3, 4, 5, 6, 7, 8, 9]] 9 [(0, false), (1, false), (2, false), (3, false), (4, false), (5, false), (6, false), (7, false), (8, false)] (by kernel_rfl) (by kernel_rfl) (by kernel_rfl) ?_)
        repeat (first | refine Da1 ?_ | refine Da3 ?_)
        (refine a_end (by rfl) (by rfl) ?_; simp only [finA, setL, List.drop_succ_cons, List.drop_zero])
        refine fp (y_callV (less_v _ _ _) (by rfl) ?_)
        repeat (first | refine R1 ?_ | (refine R2 ?_; intro _))
        rw [u1, u2]
        refine sf_ifn (fun h9 => ?_) fun h9 => ?_
        · refine sf_exit ?_
          have fin := f2inv.symm.trans (shiftUp_stop fun h => h9 h.2)
          rw [fin] at p4
          repeat (first | refine R1 ?_ | (refine R2 ?_; intro _))
          exact ⟨(s, i2, f2), by simp only; omega, ⟨vI (show (5 : Int) - ((s + 1 : Nat) : Int) + 1 = 5 - (s : Int) by omega), rfl, trivial⟩, rfl, _, _, inferInstance, gf2, f2sz, by simp only; omega, by simp only; omega, hi3, p4.symm⟩
        · repeat (first | refine R1 ?_ | (refine R2 ?_; intro _))
          refine sf_draw (by kernel_rfl) (regX_own (O2) (regX_split 9 13 (by rfl) ?_ ?_))
          case' refine_1 =>
            refine (regX_runW _ [[], [], [], [], [3], [], [], [6], [5, 6, 7], [5, 6, 7, 8], [], [], [10, 11], [5, 6, 7, 8, 9, 10, 11, 12], [0, 1, 5, 6, 7, 8, 9, 10, 11, 12, 13], [0, 1, 5, 6, 7, 8, 9, 10, 11, 12, 13, 14], [0, 1, 2, 3, 4, 5, 6, 7, 8, 9, 10, 11, 12, 13, 14, 15], [0, 1, 2, 3, 4, 5, 6, 7, 8, 9, 10, 11, 12, 13, 14, 15, 16]] 16 [(0, false), (1, false), (2, false), (3, false), (4, false), (5, false), (6, false), (7, false), (8, false), (10, false), (11, false), (12, false), (9, true), (13, true), (14, false), (15, true)] (by kernel_rfl) (by kernel_rfl) (by kernel_rfl) ?_)
            repeat (first | refine Da1 ?_ | refine Da3 ?_)
            refine a_qw (by rfl) (.inl rfl) (z_loadG (by rfl) gf2 (by omega) (by rfl)) ?_
            repeat (first | refine Da1 ?_ | refine Da3 ?_)
            refine a_qw (by rfl) (.inl rfl) (z_loadG (by rfl) gf2 (by omega) (by rfl)) ?_
            repeat (first | refine Da1 ?_ | refine Da3 ?_)
            refine a_storeG0 (by rfl) (by rfl) (by rfl) (.inl rfl) gf2 (by omega) (by rfl) fun As ys hy hl fs gg => ?_
            repeat (first | refine Da1 ?_ | refine Da3 ?_)
            (refine a_end (by rfl) (by rfl) ?_; simp only [finA, setL, List.drop_succ_cons, List.drop_zero])
          case' refine_2 =>
            refine (regX_runW _ [[], [], [], [], [3], [], [], [6], [5, 6, 7], [5, 6, 7, 8, 10, 11, 12, 13], [], [], [10, 11], [10, 11, 12], [0, 1, 5, 6, 7, 8, 9, 10, 11, 12, 13], [0, 1, 5, 6, 7, 8, 9, 10, 11, 12, 13, 14], [0, 1, 2, 3, 4, 5, 6, 7, 8, 9, 10, 11, 12, 13, 14, 15], [0, 1, 2, 3, 4, 5, 6, 7, 8, 9, 10, 11, 12, 13, 14, 15, 16]] 16 [(0, false), (1, false), (2, false), (3, false), (4, false), (5, false), (6, false), (7, false), (8, false), (10, false), (11, false), (12, false), (13, true), (9, true), (14, false), (15, true)] (by kernel_rfl) (by kernel_rfl) (by kernel_rfl) ?_)
            repeat (first | refine Da1 ?_ | refine Da3 ?_)
            refine a_qw (by rfl) (.inl rfl) (z_loadG (by rfl) gf2 (by omega) (by rfl)) ?_
            repeat (first | refine Da1 ?_ | refine Da3 ?_)
            refine a_qw (by rfl) (.inl rfl) (z_loadG (by rfl) gf2 (by omega) (by rfl)) ?_
            repeat (first | refine Da1 ?_ | refine Da3 ?_)
            refine a_storeG0 (by rfl) (by rfl) (by rfl) (.inl rfl) gf2 (by omega) (by rfl) fun As ys hy hl fs gg => ?_
            repeat (first | refine Da1 ?_ | refine Da3 ?_)
            (refine a_end (by rfl) (by rfl) ?_; simp only [finA, setL, List.drop_succ_cons, List.drop_zero])
          all_goals
            repeat (first | refine R1 ?_ | (refine R2 ?_; intro _) | refine fp (Rq ?_ (z_indexGI (by rfl) (by rfl) (by assumption) (by omega) (by omega))))
            refine fp (y_storeG0 (by rfl) (by rfl) gg (by omega) (by rfl) fun At zs hz hlz fz gz => ?_)
            repeat (first | refine R1 ?_ | (refine R2 ?_; intro _) | refine fp (Rq ?_ (z_indexGI (by rfl) (by rfl) (by assumption) (by omega) (by omega))))
            have hf : zs = (swp f2 j (j - 1)).toList := swp_is hy hz (by omega) (by omega) (by omega) (by omega) (by omega) (by omega)
            rw [hf] at gz
            exact ⟨(j + 1, swp f2 j (j - 1)), by simp only; omega, ⟨rfl, trivial⟩, rfl, _, _, inferInstance, gz, by simp only [swp_size]; exact f2sz, by simp only; omega, by simp only; omega, by simp only; rw [← f2inv, shiftUp_go (by omega) h9]⟩
      · refine sf_exit ?_
        have fin := f2inv.symm.trans (shiftUp_stop fun h => h8 (by omega))
        rw [fin] at p4
        repeat (first | refine R1 ?_ | (refine R2 ?_; intro _))
        exact ⟨(s, i2, f2), by simp only; omega, ⟨vI (show (5 : Int) - ((s + 1 : Nat) : Int) + 1 = 5 - (s : Int) by omega), rfl, trivial⟩, rfl, _, _, inferInstance, gf2, f2sz, by simp only; omega, by simp only; omega, hi3, p4.symm⟩
    · rw [if_neg (by omega)] at p4
      repeat (first | refine R1 ?_ | (refine R2 ?_; intro _))
      exact ⟨(s, i2, e2), by simp only; omega, ⟨vI (show (5 : Int) - ((s + 1 : Nat) : Int) + 1 = 5 - (s : Int) by omega), rfl, trivial⟩, rfl, _, _, inferInstance, ge2, es2, by simp only; omega, by simp only; omega, hi3, p4.symm⟩
  · refine sf_exit ?_
    repeat (first | refine R1 ?_ | (refine R2 ?_; intro _))
    refine sf_ret (rO O ?_)
    obtain rfl : s = 0 := by omega
    rw [← finv]
    exact ⟨rfl, gf⟩
end Go.Proofs.YtekjikbaefgncaaGreat

/- Walks: the library's sort: breaking patterns. -/
namespace Go.Proofs.YtekjikbaefgncaaGreat
open Go Go.Sl Go.Sort
set_option maxRecDepth 100000
set_option maxHeartbeats 4000000
attribute [local irreducible] Go.Code.sf sfOps Opq opo retF Do1 anyO
variable {M : Jdg → Prop} [IsCl Tryz.prog M]
theorem len64_f (h : PHeap) (n : Nat) (hn : n ≤ 1000000) : CallF Tryz.prog M 167 [.int .u64 (n : Int)] [] h fun u A => A = [] ∧ ∃ L : Nat, u = .int .i64 (L : Int) ∧ L ≤ 40 ∧ (1 ≤ n → 2 ^ L ≤ 2 * n) := by
  refine calls_of_sf Tryz.func167 rfl Tryz.ntmps167 ?_
  simp only [argsL, Nat.reduceAdd]
  repeat (first | refine R1 ?_ | (refine R2 ?_; intro _))
  refine sf_if (fun h1 => ?_) fun h1 => ?_
  · omega
  repeat (first | refine R1 ?_ | (refine R2 ?_; intro _))
  refine sf_if (fun h2 => ?_) fun h2 => ?_
  · repeat (first | refine R1 ?_ | (refine R2 ?_; intro _))
    refine fp (Rq ?_ (q_shrU (s := 16) (by rfl) (by rfl) (by decide)))
    repeat (first | refine R1 ?_ | (refine R2 ?_; intro _))
    refine sf_if (fun h3 => ?_) fun h3 => ?_
    · omega
    repeat (first | refine R1 ?_ | (refine R2 ?_; intro _))
    rw [IntKind.wrap_u8, show (((n / 2 ^ 16 : Nat) : Int)) % 256 = ((n / 2 ^ 16 : Nat) : Int) by omega]
    repeat (first | refine R1 ?_ | (refine R2 ?_; intro _))
    refine fp (y_len8 (by infer_instance) (by rfl) (by rfl) (by omega) (by kernel_rfl) fun b hb1 hb2 => ?_)
    repeat (first | refine R1 ?_ | (refine R2 ?_; intro _))
    rw [show IntKind.i64.wrap (b : Int) = (b : Int) from wrap_in (by omega) (by omega), wrap_in (by omega) (by omega)]
    repeat (first | refine R1 ?_ | (refine R2 ?_; intro _))
    refine sf_ret (rO [] ⟨rfl, 16 + b, rfl, by omega, fun _ => ?_⟩)
    have := hb2 (by omega)
    rw [Nat.pow_add]
    omega
  repeat (first | refine R1 ?_ | (refine R2 ?_; intro _))
  refine sf_if (fun h3 => ?_) fun h3 => ?_
  · repeat (first | refine R1 ?_ | (refine R2 ?_; intro _))
    refine fp (Rq ?_ (q_shrU (s := 8) (by rfl) (by rfl) (by decide)))
    repeat (first | refine R1 ?_ | (refine R2 ?_; intro _))
    rw [IntKind.wrap_u8, show (((n / 2 ^ 8 : Nat) : Int)) % 256 = ((n / 2 ^ 8 : Nat) : Int) by omega]
    repeat (first | refine R1 ?_ | (refine R2 ?_; intro _))
    refine fp (y_len8 (by infer_instance) (by rfl) (by rfl) (by omega) (by kernel_rfl) fun b hb1 hb2 => ?_)
    repeat (first | refine R1 ?_ | (refine R2 ?_; intro _))
    rw [show IntKind.i64.wrap (b : Int) = (b : Int) from wrap_in (by omega) (by omega), wrap_in (by omega) (by omega)]
    repeat (first | refine R1 ?_ | (refine R2 ?_; intro _))
    refine sf_ret (rO [] ⟨rfl, 8 + b, rfl, by omega, fun _ => ?_⟩)
    have := hb2 (by omega)
    rw [Nat.pow_add]
    omega
  · repeat (first | refine R1 ?_ | (refine R2 ?_; intro _))
    rw [IntKind.wrap_u8, show (((n : Nat) : Int)) % 256 = ((n : Nat) : Int) by omega]
    repeat (first | refine R1 ?_ | (refine R2 ?_; intro _))
    refine fp (y_len8 (by infer_instance) (by rfl) (by rfl) (by omega) (by kernel_rfl) fun b hb1 hb2 => ?_)
    repeat (first | refine R1 ?_ | (refine R2 ?_; intro _))
    rw [show IntKind.i64.wrap (b : Int) = (b : Int) from wrap_in (by omega) (by omega), wrap_in (by omega) (by omega)]
    repeat (first | refine R1 ?_ | (refine R2 ?_; intro _))
    refine sf_ret (rO [] ⟨rfl, b, ?_, by omega, hb2⟩)
    simp
theorem len_f (h : PHeap) (n : Nat) (hn : n ≤ 1000000) : CallF Tryz.prog M 122 [.int .u64 (n : Int)] [] h fun u A => A = [] ∧ ∃ L : Nat, u = .int .i64 (L : Int) ∧ L ≤ 40 ∧ (1 ≤ n → 2 ^ L ≤ 2 * n) := by
  refine calls_of_sf Tryz.func122 rfl Tryz.ntmps122 ?_
  simp only [argsL, Nat.reduceAdd]
  repeat (first | refine R1 ?_ | (refine R2 ?_; intro _))
  refine sf_cond (by rfl) (fun e => by cases e) fun z1 => ?_
  clear z1
  repeat (first | refine R1 ?_ | (refine R2 ?_; intro _))
  refine fp (y_call (len64_f (M := M) _ n hn) (by rfl) ?_)
  rintro _ _ ⟨rfl, L, rfl, h1, h2⟩
  repeat (first | refine R1 ?_ | (refine R2 ?_; intro _))
  exact sf_ret (rO [] ⟨rfl, L, rfl, h1, h2⟩)
theorem nextPow_f (h : PHeap) (n : Nat) (hn : n ≤ 1000000) (h1 : 1 ≤ n) : CallF Tryz.prog M 184 [.int .i64 (n : Int)] [] h fun u A => A = [] ∧ ∃ m : Nat, u = .int .u64 (m : Int) ∧ 1 ≤ m ∧ m ≤ 2 * n := by
  refine calls_of_sf Tryz.func184 rfl Tryz.ntmps184 ?_
  simp only [argsL, Nat.reduceAdd]
  repeat (first | refine R1 ?_ | (refine R2 ?_; intro _))
  rw [IntKind.wrap_u64, show (n : Int) % 18446744073709551616 = (n : Int) by omega]
  refine fp (y_call (len_f (M := M) _ n hn) (by rfl) ?_)
  rintro _ _ ⟨rfl, L, rfl, k1, k2⟩
  repeat (first | refine R1 ?_ | (refine R2 ?_; intro _))
  refine fp (Rq ?_ (q_shlU (a := 1) (s := L) (by rfl) (by rfl) (by omega)))
  repeat (first | refine R1 ?_ | (refine R2 ?_; intro _))
  have k3 := k2 h1
  have k4 : 1 ≤ 2 ^ L := Nat.one_le_two_pow
  refine sf_ret (rO [] ⟨rfl, _, rfl, ?_, ?_⟩)
  · rw [Nat.one_mul, Nat.mod_eq_of_lt (by omega)]; exact k4
  · rw [Nat.one_mul, Nat.mod_eq_of_lt (by omega)]; exact k3
instance : Fun Tryz.prog 185 := ⟨by kernel_rfl⟩
abbrev rndA (br : Nat) (r : Nat) : Own := [(br, .cells #[.int .u64 (r : Int)] 237)]
theorem next_f (h : PHeap) (br r : Nat) (hr : r < 18446744073709551616) : CallF Tryz.prog M 185 [.pointer (some ⟨br, 0, none⟩)] (rndA br r) h fun u A => ∃ r' : Nat, u = .int .u64 (r' : Int) ∧ r' < 18446744073709551616 ∧ A = rndA br r' := by
  refine calls_of_sf Tryz.func185 rfl Tryz.ntmps185 ?_
  simp only [argsL, Nat.reduceAdd]
  repeat (first | refine R1 ?_ | (refine R2 ?_; intro _))
  have step : ∀ (z : Nat), z < 18446744073709551616 → z * 2 ^ 13 % 18446744073709551616 < 18446744073709551616 ∧ z / 2 ^ 7 < 18446744073709551616 ∧ z * 2 ^ 17 % 18446744073709551616 < 18446744073709551616 := fun z hz => ⟨Nat.mod_lt _ (by decide), by omega, Nat.mod_lt _ (by decide)⟩
  have xl : ∀ a b : Nat, a < 18446744073709551616 → b < 18446744073709551616 → a ^^^ b < 18446744073709551616 := fun a b ha hb => Nat.xor_lt_two_pow (n := 64) ha hb
  refine sf_draw (by kernel_rfl) (regX_run [[], [0], [0, 1], [], [3], [3, 4], [3, 4, 5], [0, 1, 2, 3, 4, 5, 6], [0, 1, 2, 3, 4, 5, 6, 7], [0, 1, 2, 3, 4, 5, 6, 7, 8]] 7 [(0, false), (1, false), (2, false), (3, false), (4, false), (5, false), (6, false)] (by kernel_rfl) (by kernel_rfl) (by kernel_rfl) ?_)
  repeat (refine Da1 ?_)
  refine aq (by rfl) (.inl rfl) (fun X h' [_] => q_shlU (s := 13) (by rfl) (by rfl) (by decide)) ?_
  repeat (refine Da1 ?_)
  (refine a_end (by rfl) (by rfl) ?_; simp only [finA, setL, List.drop_succ_cons, List.drop_zero])
  refine fp (Rq ?_ (q_xorU (by rfl) (by rfl) hr (step r hr).1))
  repeat (first | refine R1 ?_ | (refine R2 ?_; intro _))
  obtain ⟨r1, hr1⟩ : ∃ z, z = r ^^^ (r * 2 ^ 13 % 18446744073709551616) := ⟨_, rfl⟩
  have h1 : r1 < 18446744073709551616 := by rw [hr1]; exact xl _ _ hr (step r hr).1
  rw [← hr1]
  refine sf_draw (by kernel_rfl) (regX_run [[], [0], [0, 1], [], [3], [3, 4], [3, 4, 5], [0, 1, 2, 3, 4, 5, 6], [0, 1, 2, 3, 4, 5, 6, 7], [0, 1, 2, 3, 4, 5, 6, 7, 8]] 7 [(0, false), (1, false), (2, false), (3, false), (4, false), (5, false), (6, false)] (by kernel_rfl) (by kernel_rfl) (by kernel_rfl) ?_)
  repeat (refine Da1 ?_)
  refine aq (by rfl) (.inl rfl) (fun X h' [_] => q_shrU (s := 7) (by rfl) (by rfl) (by decide)) ?_
  repeat (refine Da1 ?_)
  (refine a_end (by rfl) (by rfl) ?_; simp only [finA, setL, List.drop_succ_cons, List.drop_zero])
  refine fp (Rq ?_ (q_xorU (by rfl) (by rfl) h1 (step r1 h1).2.1))
  repeat (first | refine R1 ?_ | (refine R2 ?_; intro _))
  obtain ⟨r2, hr2⟩ : ∃ z, z = r1 ^^^ (r1 / 2 ^ 7) := ⟨_, rfl⟩
  have h2 : r2 < 18446744073709551616 := by rw [hr2]; exact xl _ _ h1 (step r1 h1).2.1
  rw [← hr2]
  refine sf_draw (by kernel_rfl) (regX_run [[], [0], [0, 1], [], [3], [3, 4], [3, 4, 5], [0, 1, 2, 3, 4, 5, 6], [0, 1, 2, 3, 4, 5, 6, 7], [0, 1, 2, 3, 4, 5, 6, 7, 8]] 7 [(0, false), (1, false), (2, false), (3, false), (4, false), (5, false), (6, false)] (by kernel_rfl) (by kernel_rfl) (by kernel_rfl) ?_)
  repeat (refine Da1 ?_)
  refine aq (by rfl) (.inl rfl) (fun X h' [_] => q_shlU (s := 17) (by rfl) (by rfl) (by decide)) ?_
  repeat (refine Da1 ?_)
  (refine a_end (by rfl) (by rfl) ?_; simp only [finA, setL, List.drop_succ_cons, List.drop_zero])
  refine fp (Rq ?_ (q_xorU (by rfl) (by rfl) h2 (step r2 h2).2.2))
  repeat (first | refine R1 ?_ | (refine R2 ?_; intro _))
  exact sf_ret (rO _ ⟨_, rfl, xl _ _ h2 (step r2 h2).2.2, rfl⟩)
theorem breakPatterns_f (h : PHeap) (v : Value) (A : Own) (d : Array Int) (g : Gr A v 3 intF d.toList) (a b : Nat) (hb : b ≤ d.size) (hs : d.size ≤ 1000000) (hab : a < b) :
    CallF Tryz.prog M 159 [v, .int .i64 (a : Int), .int .i64 (b : Int)] A h fun u A' => u = .tuple #[] ∧ ∃ d' : Array Int, Gr A' v 3 intF d'.toList ∧ PermIn a b d d' := by
  have o := g.one
  obtain ⟨n, rfl⟩ : ∃ n : Nat, b = a + n := ⟨b - a, by omega⟩
  refine calls_of_sf Tryz.func159 rfl Tryz.ntmps159 ?_
  simp only [argsL, Nat.reduceAdd]
  repeat (first | refine R1 ?_ | (refine R2 ?_; intro _))
  have e0 : ((a + n : Nat) : Int) - (a : Int) = (n : Int) := by omega
  rw [e0]
  refine sf_if (fun h1 => ?_) fun h1 => ?_
  · repeat (first | refine R1 ?_ | (refine R2 ?_; intro _))
    rw [IntKind.wrap_u64, show (n : Int) % 18446744073709551616 = (n : Int) by omega]
    repeat (first | refine R1 ?_ | (refine R2 ?_; intro _))
    rename_i br
    refine fp (y_call (nextPow_f (M := M) _ n (by omega) (by omega)) (by rfl) ?_)
    rintro _ _ ⟨rfl, m, rfl, hm1, hm2⟩
    repeat (first | refine R1 ?_ | (refine R2 ?_; intro _))
    rw [show (a : Int) + (n : Int) / 4 * 2 - 1 = ((a + n / 4 * 2 - 1 : Nat) : Int) by omega]
    refine sf_lp (ι := Nat × Array Int) [0, 1, 6, 7, 8] (fun x => [(9, .int .i64 (x.1 : Int))]) (fun x O => ∃ (B : Own) (r : Nat), O = rndA br r ++ B ∧ r < 18446744073709551616 ∧ Gr B v 3 intF x.2.toList ∧ x.2.size = d.size ∧ a ≤ x.1 ∧ PermIn a (a + n) d x.2) (fun x => a + n / 4 * 2 + 2 - x.1) (a + n / 4 * 2 - 1, d) (rndA br n ++ A) ⟨A, n, rfl, by omega, g, rfl, by simp only; omega, Sort.permIn_refl _ _ _⟩ ?_
    rintro ⟨k, f⟩ O ⟨B, r, rfl, hr, gf, fsz, hk, fp0⟩
    simp only at gf fsz hk fp0 ⊢
    have lf : f.toList.length = f.size := by simp
    repeat (first | refine R1 ?_ | (refine R2 ?_; intro _))
    refine sf_if (fun h2 => ?_) fun h2 => ?_
    · repeat (first | refine R1 ?_ | (refine R2 ?_; intro _))
      refine fp (y_call (next_f (M := M) _ br r hr) (by rfl) ?_)
      rintro _ _ ⟨r2, rfl, hr2, rfl⟩
      repeat (first | refine R1 ?_ | (refine R2 ?_; intro _))
      rw [IntKind.wrap_u64, show ((m : Int) - 1) % 18446744073709551616 = ((m - 1 : Nat) : Int) by omega]
      refine fp (Rq ?_ (q_andU (by rfl) (by rfl) hr2 (by omega)))
      have ho : r2 &&& (m - 1) ≤ m - 1 := Nat.and_le_right
      generalize r2 &&& (m - 1) = w at ho
      repeat (first | refine R1 ?_ | (refine R2 ?_; intro _))
      rw [wrap_in (by omega) (by omega)]
      apply viaT (G := ∀ w : Nat, w < n → _)
      · intro tail
        refine sf_if (fun h3 => ?_) fun h3 => ?_
        · repeat (first | refine R1 ?_ | (refine R2 ?_; intro _))
          rw [show (w : Int) - (n : Int) = ((w - n : Nat) : Int) by omega]
          generalize hw : w - n = w2
          refine sf_keep [0, 1, 6, 7, 8, 9, 10] ?_
          exact tail.out w2 (by omega)
        · repeat (first | refine R1 ?_ | (refine R2 ?_; intro _))
          refine sf_keep [0, 1, 6, 7, 8, 9, 10] ?_
          exact tail.out w (by omega)
      intro w hw
      refine sf_draw (by kernel_rfl) (regX_own (B) (regX_split 11 15 (by rfl) ?_ ?_))
      case' refine_1 =>
        refine (regX_runW _ [[], [], [], [], [], [3, 4], [], [], [], [7, 8], [6, 7, 8, 9], [6, 7, 8, 9, 10], [], [], [12, 13], [6, 7, 8, 9, 10, 11, 12, 13, 14], [0, 1, 6, 7, 8, 9, 10, 11, 12, 13, 14, 15], [0, 1, 6, 7, 8, 9, 10, 11, 12, 13, 14, 15, 16], [0, 1, 2, 3, 4, 5, 6, 7, 8, 9, 10, 11, 12, 13, 14, 15, 16, 17], [0, 1, 2, 3, 4, 5, 6, 7, 8, 9, 10, 11, 12, 13, 14, 15, 16, 17, 18]] 18 [(0, false), (1, false), (2, false), (3, false), (4, false), (5, false), (6, false), (7, false), (8, false), (9, false), (10, false), (12, false), (13, false), (14, false), (11, true), (15, true), (16, false), (17, true)] (by kernel_rfl) (by kernel_rfl) (by kernel_rfl) ?_)
        repeat (first | refine Da1 ?_ | refine Da3 ?_)
        refine a_qw (by rfl) (.inl rfl) (z_loadG (by rfl) gf (by omega) (by rfl)) ?_
        repeat (first | refine Da1 ?_ | refine Da3 ?_)
        refine a_qw (by rfl) (.inl rfl) (z_loadG (by rfl) gf (by omega) (by rfl)) ?_
        repeat (first | refine Da1 ?_ | refine Da3 ?_)
        refine a_storeG0 (by rfl) (by rfl) (by rfl) (.inl rfl) gf (by omega) (by rfl) fun As ys hy hl fs gg => ?_
        repeat (first | refine Da1 ?_ | refine Da3 ?_)
        (refine a_end (by rfl) (by rfl) ?_; simp only [finA, setL, List.drop_succ_cons, List.drop_zero])
      case' refine_2 =>
        refine (regX_runW _ [[], [], [], [], [], [3, 4], [], [], [], [7, 8], [6, 7, 8, 9], [6, 7, 8, 9, 10, 12, 13, 14, 15], [], [], [12, 13], [12, 13, 14], [0, 1, 6, 7, 8, 9, 10, 11, 12, 13, 14, 15], [0, 1, 6, 7, 8, 9, 10, 11, 12, 13, 14, 15, 16], [0, 1, 2, 3, 4, 5, 6, 7, 8, 9, 10, 11, 12, 13, 14, 15, 16, 17], [0, 1, 2, 3, 4, 5, 6, 7, 8, 9, 10, 11, 12, 13, 14, 15, 16, 17, 18]] 18 [(0, false), (1, false), (2, false), (3, false), (4, false), (5, false), (6, false), (7, false), (8, false), (9, false), (10, false), (12, false), (13, false), (14, false), (15, true), (11, true), (16, false), (17, true)] (by kernel_rfl) (by kernel_rfl) (by kernel_rfl) ?_)
        repeat (first | refine Da1 ?_ | refine Da3 ?_)
        refine a_qw (by rfl) (.inl rfl) (z_loadG (by rfl) gf (by omega) (by rfl)) ?_
        repeat (first | refine Da1 ?_ | refine Da3 ?_)
        refine a_qw (by rfl) (.inl rfl) (z_loadG (by rfl) gf (by omega) (by rfl)) ?_
        repeat (first | refine Da1 ?_ | refine Da3 ?_)
        refine a_storeG0 (by rfl) (by rfl) (by rfl) (.inl rfl) gf (by omega) (by rfl) fun As ys hy hl fs gg => ?_
        repeat (first | refine Da1 ?_ | refine Da3 ?_)
        (refine a_end (by rfl) (by rfl) ?_; simp only [finA, setL, List.drop_succ_cons, List.drop_zero])
      all_goals
        repeat (first | refine R1 ?_ | (refine R2 ?_; intro _) | refine fp (Rq ?_ (z_indexGI (by rfl) (by rfl) (by assumption) (by omega) (by omega))))
        refine fp (y_storeG0 (by rfl) (by rfl) gg (by omega) (by rfl) fun At zs hz hlz fz gz => ?_)
        repeat (first | refine R1 ?_ | (refine R2 ?_; intro _) | refine fp (Rq ?_ (z_indexGI (by rfl) (by rfl) (by assumption) (by omega) (by omega))))
        have hf : zs = (swp f k (a + w)).toList := swp_is hy hz (by omega) (by omega) (by omega) (by omega) (by omega) (by omega)
        rw [hf] at gz
        refine ⟨(k + 1, swp f k (a + w)), by simp only; omega, ⟨rfl, trivial⟩, rfl, rndA br r2 ++ At, _, inferInstance, At, r2, rfl, hr2, gz, by simp only [swp_size]; exact fsz, by simp only; omega, ?_⟩
        exact Sort.permIn_trans _ _ _ _ _ fp0 (Sort.swp_permIn _ _ _ _ _ (by omega) (by omega) (by omega) (by omega) (by omega))
    · refine sf_exit ?_
      repeat (first | refine R1 ?_ | (refine R2 ?_; intro _))
      exact nO B ⟨rfl, f, gf, fp0⟩
  · repeat (first | refine R1 ?_ | (refine R2 ?_; intro _))
    exact nO A ⟨rfl, d, g, Sort.permIn_refl _ _ _⟩
end Go.Proofs.YtekjikbaefgncaaGreat

/- Walks: the library's sort: the whole. -/
namespace Go.Proofs.YtekjikbaefgncaaGreat
open Go Go.Sl Go.Sort
set_option maxRecDepth 100000
set_option maxHeartbeats 4000000
attribute [local irreducible] Go.Code.sf sfOps Opq opo retF Do1 anyO
variable {M : Jdg → Prop} [IsCl Tryz.prog M]
theorem pdqsort_f (m : Nat) : ∀ (h : PHeap) (v : Value) (A : Own) (d : Array Int) (_ : Gr A v 3 intF d.toList) (a b : Nat) (l : Int) (_ : b ≤ d.size) (_ : d.size ≤ 1000000) (_ : a ≤ b) (_ : 0 ≤ l ∧ l ≤ 1000) (_ : Below ltInt a b d) (_ : b - a = m),
    CallF Tryz.prog M 121 [v, .int .i64 (a : Int), .int .i64 (b : Int), .int .i64 l] A h fun u A' => u = .tuple #[] ∧ ∃ d' : Array Int, Gr A' v 3 intF d'.toList ∧ PermIn a b d d' ∧ SortedIn ltInt a b d' := by
  induction m using Nat.strongRecOn with
  | _ m ih =>
  intro h v A d g a b l hb hs hab hl hB hm
  have o := g.one
  refine calls_of_sf Tryz.func121 rfl Tryz.ntmps121 ?_
  simp only [argsL, Nat.reduceAdd]
  repeat (first | refine R1 ?_ | (refine R2 ?_; intro _))
  refine sf_lp (ι := Nat × Nat × Int × Bool × Bool × Array Int) [0] (fun x => [(1, .int .i64 (x.1 : Int)), (2, .int .i64 (x.2.1 : Int)), (3, .int .i64 x.2.2.1), (8, .bool x.2.2.2.1), (9, .bool x.2.2.2.2.1)])
    (fun x O => Gr O v 3 intF x.2.2.2.2.2.toList ∧ x.2.2.2.2.2.size = d.size ∧ x.1 ≤ x.2.1 ∧ x.2.1 ≤ d.size ∧ (0 ≤ x.2.2.1 ∧ x.2.2.1 ≤ 1000) ∧ Below ltInt x.1 x.2.1 x.2.2.2.2.2 ∧ x.2.1 - x.1 ≤ m ∧ ∀ R, PermIn x.1 x.2.1 x.2.2.2.2.2 R → SortedIn ltInt x.1 x.2.1 R → PermIn a b d R ∧ SortedIn ltInt a b R)
    (fun x => x.2.1 - x.1) (a, b, l, true, true, d) A ⟨g, rfl, hab, hb, hl, hB, by simp only; omega, fun R r1 r2 => ⟨r1, r2⟩⟩ ?_
  rintro ⟨a1, b1, l1, wb, wp, f⟩ O ⟨gf, fsz, hab1, hb1, hl1, hB1, hm1, hT⟩
  simp only at gf fsz hab1 hb1 hl1 hB1 hm1 hT ⊢
  clear hB hl g
  repeat (first | refine R1 ?_ | (refine R2 ?_; intro _))
  refine sf_if (fun h1 => ?_) fun h1 => ?_
  · repeat (first | refine R1 ?_ | (refine R2 ?_; intro _))
    refine fp (y_call (insertionSort_f (M := M) _ v O f gf a1 b1 (by omega) (by omega) hab1) (by rfl) ?_)
    rintro _ A1 ⟨rfl, g1⟩
    repeat (first | refine R1 ?_ | (refine R2 ?_; intro _))
    obtain ⟨p1, p2⟩ := insertionSort_holds (lt := ltInt) swo_ltInt f a1 b1 hab1 (by omega)
    obtain ⟨q1, q2⟩ := hT _ p1 p2
    exact sf_ret (rO A1 ⟨rfl, _, g1, q1, q2⟩)
  repeat (first | refine R1 ?_ | (refine R2 ?_; intro _))
  refine sf_if (fun h2 => ?_) fun h2 => ?_
  · repeat (first | refine R1 ?_ | (refine R2 ?_; intro _))
    refine fp (y_call (heapSort_f (M := M) _ v O f gf a1 b1 (by omega) (by omega) (by omega)) (by rfl) ?_)
    rintro _ A1 ⟨rfl, g1⟩
    repeat (first | refine R1 ?_ | (refine R2 ?_; intro _))
    obtain ⟨p1, p2⟩ := heapSort_holds (lt := ltInt) swo_ltInt f a1 b1 hab1 (by omega)
    obtain ⟨q1, q2⟩ := hT _ p1 p2
    exact sf_ret (rO A1 ⟨rfl, _, g1, q1, q2⟩)
  repeat (first | refine R1 ?_ | (refine R2 ?_; intro _))
  apply viaT (G := ∀ (B : Own) (f1 : Array Int) (l2 : Int), (0 ≤ l2 ∧ l2 ≤ 1000) → Gr B v 3 intF f1.toList → PermIn a1 b1 f f1 → _)
  · intro tail
    refine sf_cond (by rfl) (fun e => ?_) fun e => ?_
    · repeat (first | refine R1 ?_ | (refine R2 ?_; intro _))
      refine fp (y_call (breakPatterns_f (M := M) _ v O f gf a1 b1 (by omega) (by omega) (by omega)) (by rfl) ?_)
      rintro _ A1 ⟨rfl, f1, g1, p1⟩
      repeat (first | refine R1 ?_ | (refine R2 ?_; intro _))
      obtain ⟨l2, hl2⟩ : ∃ l2, l2 = l1 - 1 := ⟨_, rfl⟩
      rw [← hl2]
      refine fops_keep [0, 1, 2, 3, 8, 9, 10, 43, 44, 45] ?_
      refine fops_own A1 ?_
      exact tail.out A1 f1 l2 (by omega) g1 p1
    · repeat (first | refine R1 ?_ | (refine R2 ?_; intro _))
      refine fops_keep [0, 1, 2, 3, 8, 9, 10, 43, 44, 45] ?_
      exact tail.out O f l1 hl1 gf (Sort.permIn_refl _ _ _)
  intro B1 f1 l2 hl2 g1 p1
  have hs1 : f1.size = d.size := p1.1.trans fsz
  have hl1 : f1.toList.length = f1.size := by simp
  have B1' : Below ltInt a1 b1 f1 := hB1.perm (by omega) p1
  have hT1 : ∀ R, PermIn a1 b1 f1 R → SortedIn ltInt a1 b1 R → PermIn a b d R ∧ SortedIn ltInt a b R := fun R r1 r2 => hT R (Sort.permIn_trans _ _ _ _ _ p1 r1) r2
  clear hB1 hT gf fsz p1
  -- the pivot
  refine fp (y_lend B1 (fun h' _ i => choosePivot_f (M := M) h' v f1.toList (g1.lent (by omega) i) a1 b1 (by omega) (by omega) (by omega)) (by rfl) ?_)
  rintro _ _ ⟨p, z, rfl, hp, rfl⟩
  repeat (first | refine R1 ?_ | (refine R2 ?_; intro _))
  apply viaT (G := ∀ (B : Own) (f2 : Array Int) (p : Nat) (z : Int), (a1 ≤ p ∧ p < b1) → Gr B v 3 intF f2.toList → PermIn a1 b1 f1 f2 → _)
  · intro tail
    refine sf_if (fun h3 => ?_) fun h3 => ?_
    rotate_left
    · repeat (first | refine R1 ?_ | (refine R2 ?_; intro _))
      refine fops_keep [0, 1, 2, 3, 8, 9, 10, 11, 12, 61, 62] ?_
      refine fops_own B1 ?_
      obtain ⟨Bc, hBc⟩ : ∃ x, x = B1 := ⟨_, rfl⟩
      obtain ⟨fc, hfc⟩ : ∃ x, x = f1 := ⟨_, rfl⟩
      obtain ⟨pc, hpc⟩ : ∃ x, x = p := ⟨_, rfl⟩
      obtain ⟨zc, hzc⟩ : ∃ x, x = z := ⟨_, rfl⟩
      rw [← hBc, ← hpc, ← hzc]
      exact tail.out Bc fc pc zc (by omega) (by rw [hBc, hfc]; exact g1) (by rw [hfc]; exact Sort.permIn_refl _ _ _)
    · repeat (first | refine R1 ?_ | (refine R2 ?_; intro _))
      refine fp (y_call (reverseRange_f (M := M) _ v B1 f1 g1 a1 b1 (by omega) (by omega) (by omega)) (by rfl) ?_)
      rintro _ A1 ⟨rfl, g2⟩
      repeat (first | refine R1 ?_ | (refine R2 ?_; intro _))
      rw [show (b1 : Int) - 1 - ((p : Int) - (a1 : Int)) = ((b1 - 1 - (p - a1) : Nat) : Int) by omega]
      refine fops_keep [0, 1, 2, 3, 8, 9, 10, 11, 12, 61, 62] ?_
      refine fops_own A1 ?_
      exact tail.out A1 _ (b1 - 1 - (p - a1)) 1 (by omega) g2 (reverseRange_holds _ _ _ (by omega) (by omega))
  intro B2 f2 p z hp g2 p2
  have hs2 : f2.size = d.size := p2.1.trans hs1
  have B2' : Below ltInt a1 b1 f2 := B1'.perm (by omega) p2
  have hT2 : ∀ R, PermIn a1 b1 f2 R → SortedIn ltInt a1 b1 R → PermIn a b d R ∧ SortedIn ltInt a b R := fun R r1 r2 => hT1 R (Sort.permIn_trans _ _ _ _ _ p2 r1) r2
  clear B1' hT1 g1 p2
  clear hs1 hl1
  apply viaT (G := ∀ (B : Own) (f3 : Array Int), Gr B v 3 intF f3.toList → PermIn a1 b1 f2 f3 → _)
  · intro tail
    refine f_splitB (fun w1 => ?_) fun w1 => ?_
    rotate_left
    · repeat (first | refine R1 ?_ | (refine R2 ?_; intro _))
      refine sf_cond (by rfl) (fun e => by cases e) fun z1 => ?_
      clear z1
      repeat (first | refine R1 ?_ | (refine R2 ?_; intro _))
      refine sf_keep [0, 1, 2, 3, 8, 9, 10, 11] ?_
      obtain ⟨Bc, hBc⟩ : ∃ x, x = B2 := ⟨_, rfl⟩
      obtain ⟨fc, hfc⟩ : ∃ x, x = f2 := ⟨_, rfl⟩
      rw [← hBc]
      exact tail.out Bc fc (by rw [hBc, hfc]; exact g2) (by rw [hfc]; exact Sort.permIn_refl _ _ _)
    · repeat (first | refine R1 ?_ | (refine R2 ?_; intro _))
      refine f_splitB (fun w2 => ?_) fun w2 => ?_
      rotate_left
      · repeat (first | refine R1 ?_ | (refine R2 ?_; intro _))
        refine sf_cond (by rfl) (fun e => by cases e) fun z1 => ?_
        clear z1
        repeat (first | refine R1 ?_ | (refine R2 ?_; intro _))
        refine sf_keep [0, 1, 2, 3, 8, 9, 10, 11] ?_
        exact tail.out B2 f2 g2 (Sort.permIn_refl _ _ _)
      · repeat (first | refine R1 ?_ | (refine R2 ?_; intro _))
        refine sf_if (fun h4 => ?_) fun h4 => ?_
        rotate_left
        · repeat (first | refine R1 ?_ | (refine R2 ?_; intro _))
          refine sf_keep [0, 1, 2, 3, 8, 9, 10, 11] ?_
          exact tail.out B2 f2 g2 (Sort.permIn_refl _ _ _)
        · repeat (first | refine R1 ?_ | (refine R2 ?_; intro _))
          refine fp (y_call (partialInsertionSort_f (M := M) _ v B2 f2 g2 a1 b1 (by omega) (by omega) (by omega)) (by rfl) ?_)
          rintro _ A1 ⟨rfl, g3⟩
          repeat (first | refine R1 ?_ | (refine R2 ?_; intro _))
          obtain ⟨p3, s3⟩ := partialInsertionSort_holds (lt := ltInt) swo_ltInt f2 a1 b1 (by omega) (by omega) B2'
          refine sf_cond (by rfl) (fun e => ?_) fun e => ?_
          · repeat (first | refine R1 ?_ | (refine R2 ?_; intro _))
            obtain ⟨q1, q2⟩ := hT2 _ p3 (s3 e)
            exact sf_ret (rO A1 ⟨rfl, _, g3, q1, q2⟩)
          · repeat (first | refine R1 ?_ | (refine R2 ?_; intro _))
            refine sf_keep [0, 1, 2, 3, 8, 9, 10, 11] ?_
            refine sf_own A1 ?_
            exact tail.out A1 _ g3 p3
  intro B3 f3 g3 p3
  have hs3 : f3.size = d.size := p3.1.trans hs2
  have B3' : Below ltInt a1 b1 f3 := B2'.perm (by omega) p3
  have hT3 : ∀ R, PermIn a1 b1 f3 R → SortedIn ltInt a1 b1 R → PermIn a b d R ∧ SortedIn ltInt a b R := fun R r1 r2 => hT2 R (Sort.permIn_trans _ _ _ _ _ p3 r1) r2
  have hl3 : f3.toList.length = f3.size := by simp
  clear B2' hT2 g2 p3 hs2
  apply viaT
  · intro tail
    by_cases h5 : 0 < a1
    · have h6 : (a1 : Int) > 0 := by omega
      have u1 : gt f3.toList ((a1 : Int) - 1).toNat = f3[a1 - 1]! := gt_arr' (by omega) (by omega)
      have u2 : gt f3.toList p = f3[p]! := gt_arr (by omega)
      refine sf_draw (by kernel_rfl) (regX_run [[], [0], [0, 1], [0, 1, 2], [0, 1, 2], [0, 1, 2, 4], [0, 1, 2, 3, 4, 5], [0, 1, 2, 3, 4, 5, 6], [0, 1, 2], [0, 1, 2], [0, 1, 2, 8, 9], [0, 1, 2, 8, 9, 10], [0, 1, 2, 3, 4, 5, 6, 7, 8, 9, 10, 11], [0, 1, 2, 3, 4, 5, 6, 7, 8, 9, 10, 11, 12], [0, 1, 2, 3, 4, 5, 6, 7, 8, 9, 10, 11, 12, 13]] 12 [(0, false), (1, false), (2, false), (3, false), (4, false), (5, false), (6, false), (7, false), (8, false), (9, false), (10, false), (11, false)] (by kernel_rfl) (by kernel_rfl) (by kernel_rfl) ?_)
      repeat (first | refine Da1 ?_ | refine Da3 ?_)
      (refine a_end (by rfl) (by rfl) ?_; simp only [finA, setL, List.drop_succ_cons, List.drop_zero])
      refine fp (y_callV (less_v _ _ _) (by rfl) ?_)
      repeat (first | refine R1 ?_ | (refine R2 ?_; intro _))
      rw [u1, u2]
      refine sf_ifn (fun h7 => ?_) fun h7 => ?_
      · repeat (first | refine R1 ?_ | (refine R2 ?_; intro _))
        refine fp (y_call (partitionEqual_f (M := M) _ v B3 f3 g3 a1 b1 p (by omega) (by omega) (by omega) hp) (by rfl) ?_)
        rintro _ A1 ⟨rfl, g4⟩
        repeat (first | refine R1 ?_ | (refine R2 ?_; intro _))
        refine sf_exit ?_
        obtain ⟨k1, k2, k3, k4, k5⟩ := round_eq swo_ltInt (partitionEqual_holds ltInt) h5 hp.1 hp.2 (by omega) B3' (by rw [ltInt_is]; exact decide_eq_false h7) (show partitionEqual ltInt f3 a1 b1 p = ((partitionEqual ltInt f3 a1 b1 p).1, (partitionEqual ltInt f3 a1 b1 p).2) from rfl)
        exact ⟨((partitionEqual ltInt f3 a1 b1 p).1, b1, l2, wb, wp, (partitionEqual ltInt f3 a1 b1 p).2), by simp only; omega, ⟨rfl, rfl, rfl, rfl, rfl, trivial⟩, rfl, A1, _, inferInstance, g4, k3.trans hs3, k2, hb1, hl2, k4, by simp only; omega, fun R r1 r2 => by obtain ⟨q1, q2⟩ := k5 R r1 r2; exact hT3 R q1 q2⟩
      · repeat (first | refine R1 ?_ | (refine R2 ?_; intro _))
        refine fops_keep [0, 1, 2, 3, 8, 9, 10, 11, 95, 96, 97, 98] ?_
        exact tail.out
    · have h6 : ¬ (a1 : Int) > 0 := by omega
      refine sf_draw (by kernel_rfl) (regX_run [[], [0], [0, 1], [0, 1, 2], [0, 1, 2], [0, 1, 2, 4], [0, 1, 2, 3, 4, 5], [0, 1, 2, 3, 4, 5, 6], [0, 1, 2], [0, 1, 2], [0, 1, 2, 8, 9], [0, 1, 2, 8, 9, 10], [0, 1, 2, 3, 4, 5, 6, 7, 8, 9, 10, 11], [0, 1, 2, 3, 4, 5, 6, 7, 8, 9, 10, 11, 12], [0, 1, 2, 3, 4, 5, 6, 7, 8, 9, 10, 11, 12, 13]] 12 [(0, false), (1, false), (2, false), (3, false), (4, false), (5, false), (6, false), (7, false), (8, false), (9, false), (10, false), (11, false)] (by kernel_rfl) (by kernel_rfl) (by kernel_rfl) ?_)
      repeat (first | refine Da1 ?_ | refine Da3 ?_)
      (refine a_end (by rfl) (by rfl) ?_; simp only [finA, setL, List.drop_succ_cons, List.drop_zero])
      repeat (first | refine R1 ?_ | (refine R2 ?_; intro _))
      refine sf_cond (by rfl) (fun e => by cases e) fun z1 => ?_
      clear z1
      repeat (first | refine R1 ?_ | (refine R2 ?_; intro _))
      refine fops_keep [0, 1, 2, 3, 8, 9, 10, 11, 95, 96, 97, 98] ?_
      exact tail.out
  refine fp (y_call (partition_f (M := M) _ v B3 f3 g3 a1 b1 p (by omega) (by omega) (by omega) hp) (by rfl) ?_)
  obtain ⟨mid, ap, d4, hx⟩ : ∃ mid ap d4, Sort.partition ltInt f3 a1 b1 p = (mid, ap, d4) := ⟨_, _, _, rfl⟩
  rw [hx]
  rintro _ A1 ⟨rfl, g4⟩
  simp only at g4
  obtain ⟨k1, k2, k3, k4, k5, k6, k7⟩ := round_part swo_ltInt (partition_holds ltInt) hp.1 hp.2 (by omega) B3' hx
  repeat (first | refine R1 ?_ | (refine R2 ?_; intro _))
  refine sf_if (fun h7 => ?_) fun h7 => ?_
  · repeat (first | refine R1 ?_ | (refine R2 ?_; intro _))
    refine fp (y_call (ih (mid - a1) (by omega) _ v A1 d4 g4 a1 mid l2 (by omega) (by omega) k1 hl2 k4 rfl) (by rfl) ?_)
    rintro _ A2 ⟨rfl, d5, g5, p5, s5⟩
    obtain ⟨j1, j2⟩ := k6 d5 p5 s5
    repeat (first | refine R1 ?_ | (refine R2 ?_; intro _))
    exact ⟨(mid + 1, b1, l2, _, ap, d5), by simp only; omega, ⟨rfl, rfl, rfl, rfl, rfl, trivial⟩, rfl, A2, _, inferInstance, g5, (p5.1.trans k3).trans hs3, by simp only; omega, hb1, hl2, j1, by simp only; omega, fun R r1 r2 => by obtain ⟨q1, q2⟩ := j2 R r1 r2; exact hT3 R q1 q2⟩
  · repeat (first | refine R1 ?_ | (refine R2 ?_; intro _))
    refine fp (y_call (ih (b1 - (mid + 1)) (by omega) _ v A1 d4 g4 (mid + 1) b1 l2 (by omega) (by omega) (by omega) hl2 k5 rfl) (by rfl) ?_)
    rintro _ A2 ⟨rfl, d5, g5, p5, s5⟩
    obtain ⟨j1, j2⟩ := k7 d5 p5 s5
    repeat (first | refine R1 ?_ | (refine R2 ?_; intro _))
    exact ⟨(a1, mid, l2, _, ap, d5), by simp only; omega, ⟨rfl, rfl, rfl, rfl, rfl, trivial⟩, rfl, A2, _, inferInstance, g5, (p5.1.trans k3).trans hs3, by simp only; omega, by simp only; omega, hl2, j1, by simp only; omega, fun R r1 r2 => by obtain ⟨q1, q2⟩ := j2 R r1 r2; exact hT3 R q1 q2⟩
theorem sort_f (h : PHeap) (v : Value) (A : Own) (xs : List Int) (g : Gr A v 3 intF xs) (hs : xs.length ≤ 1000000) : CallF Tryz.prog M 104 [v] A h fun u A' => u = .tuple #[] ∧ Gr A' v 3 intF (sortF xs) := by
  have o := g.one
  refine calls_of_sf Tryz.func104 rfl Tryz.ntmps104 ?_
  simp only [argsL, Nat.reduceAdd]
  repeat (first | refine R1 ?_ | (refine R2 ?_; intro _))
  rw [IntKind.wrap_u64, show ((xs.length : Nat) : Int) % 18446744073709551616 = ((xs.length : Nat) : Int) by omega]
  refine fp (y_call (len_f (M := M) _ xs.length hs) (by rfl) ?_)
  rintro _ _ ⟨rfl, L, rfl, k1, k2⟩
  repeat (first | refine R1 ?_ | (refine R2 ?_; intro _))
  refine fp (y_call (pdqsort_f (M := M) xs.length _ v A xs.toArray g 0 xs.length (L : Int) (by simp) (by simpa using hs) (by omega) (by omega) (.inl rfl) (by omega)) (by rfl) ?_)
  rintro _ A2 ⟨rfl, d', g', p', s'⟩
  repeat (first | refine R1 ?_ | (refine R2 ?_; intro _))
  refine nO A2 ⟨rfl, ?_⟩
  have e := sorted_unique_holds (lt := ltInt) swo_ltInt (fun x y h1 h2 => by simp only [ltInt_is, decide_eq_false_iff_not] at h1 h2; omega) xs.toArray d' (by simpa using p') (by simpa using s')
  have e2 : d'.toList = sortF xs := by
    rw [e]; unfold sortF
    congr 1
    funext x y
    simp only [ltInt_is]
    by_cases h : y < x
    · simp [h] <;> omega
    · simp [h] <;> omega
  rw [← e2]; exact g'
end Go.Proofs.YtekjikbaefgncaaGreat

/- Walks: the library's Compact. -/
namespace Go.Proofs.YtekjikbaefgncaaGreat
open Go Go.Sl
set_option maxRecDepth 100000
set_option maxHeartbeats 4000000
attribute [local irreducible] Go.Code.sf sfOps Opq opo retF Do1 anyO
variable {M : Jdg → Prop} [IsCl Tryz.prog M]
theorem compact_f (h : PHeap) (v : Value) (A : Own) (xs : List Int) (g : Gr A v 3 intF xs) (hs : xs.length ≤ 1000000) : CallF Tryz.prog M 105 [v] A h fun u A' => Gr A' u 3 intF (compactF xs) := by
  have o := g.one
  refine calls_of_sf Tryz.func105 rfl Tryz.ntmps105 ?_
  simp only [argsL, Nat.reduceAdd]
  repeat (first | refine R1 ?_ | (refine R2 ?_; intro _))
  refine sf_if (fun h1 => ?_) fun h1 => ?_
  · repeat (first | refine R1 ?_ | (refine R2 ?_; intro _))
    refine sf_ret (rO A ?_)
    match xs, h1 with
    | [], _ => exact g
    | [x], _ => exact g
    | x :: y :: l, h1 => simp at h1; omega
  repeat (first | refine R1 ?_ | (refine R2 ?_; intro _))
  refine sf_lp (ι := Nat) [0] (fun x => [(3, .int .i64 (x : Int))]) (fun x O => O = A ∧ 1 ≤ x ∧ x ≤ xs.length ∧ compactF (xs.take x) = xs.take x) (fun x => xs.length - x) 1 A ⟨rfl, by omega, by omega, by rw [take_succ_gt (by omega : 0 < xs.length)]; rfl⟩ ?_
  rintro k O0 ⟨rfl, hk1, hk2, hinv⟩
  repeat (first | refine R1 ?_ | (refine R2 ?_; intro _))
  refine sf_if (fun h2 => ?_) fun h2 => ?_
  · have q1 : gt xs ((k : Int) - 1).toNat = gt xs (k - 1) := by congr 1; omega
    have hst := compactF_step (xs := xs) (j := k - 1) (by omega)
    rw [show k - 1 + 2 = k + 1 by omega, show k - 1 + 1 = k by omega] at hst
    repeat (first | refine R1 ?_ | (refine R2 ?_; intro _))
    refine sf_draw (by kernel_rfl) (regX_run [[], [], [0, 1], [0, 1, 2], [], [], [5], [4, 5, 6], [4, 5, 6, 7], [0, 1, 2, 3, 4, 5, 6, 7, 8]] 9 [(0, false), (1, false), (2, false), (3, false), (4, false), (5, false), (6, false), (7, false), (8, false)] (by kernel_rfl) (by kernel_rfl) (by kernel_rfl) ?_)
    repeat (first | refine Da1 ?_ | refine Da3 ?_)
    (refine a_end (by rfl) (by rfl) ?_; simp only [finA, setL, List.drop_succ_cons, List.drop_zero])
    repeat (first | refine R1 ?_ | (refine R2 ?_; intro _))
    rw [q1]
    refine sf_if (fun h3 => ?_) fun h3 => ?_
    · rw [if_pos h3, hinv] at hst
      obtain ⟨b, cap, rfl, hcap⟩ := g.shape (by omega)
      repeat (first | refine R1 ?_ | (refine R2 ?_; intro _))
      refine fp (Rq ?_ (q_sliceLo (l := k) (by infer_instance) (by infer_instance) (by rfl) (by rfl) (by omega)))
      rw [if_neg (by omega : ¬ cap = k)]
      repeat (first | refine R1 ?_ | (refine R2 ?_; intro _))
      refine sf_lp (ι := Nat × Nat × List Int) [0, 4] (fun x => [(3, .int .i64 (x.1 : Int)), (5, .int .i64 (x.2.1 : Int))]) (fun x O => Gr O (.slice (some ⟨b, 0, none⟩) xs.length cap) 3 intF x.2.2 ∧ x.2.2.length = xs.length ∧ 1 ≤ x.2.1 ∧ x.2.1 ≤ xs.length - k ∧ 1 ≤ x.1 ∧ x.1 + 1 ≤ k + x.2.1 ∧ x.2.2.take x.1 = compactF (xs.take (k + x.2.1)) ∧ ∀ i, k + x.2.1 ≤ i + 1 → gt x.2.2 i = gt xs i) (fun x => xs.length - x.2.1) (k, 1, xs) _ ⟨g, rfl, by simp only; omega, by simp only; omega, hk1, by simp only; omega, hst.symm, fun _ _ => rfl⟩ ?_
      rintro ⟨j, m, ys⟩ O ⟨gy, hly, hm1, hm2, hj1, hj2, hy1, hy2⟩
      simp only at gy hly hm1 hm2 hj1 hj2 hy1 hy2 ⊢
      clear hinv q1
      repeat (first | refine R1 ?_ | (refine R2 ?_; intro _))
      refine sf_if (fun h4 => ?_) fun h4 => ?_
      · have u1 : gt ys (k + ((m : Int)).toNat) = gt xs (k + m) := by rw [Int.toNat_natCast]; exact hy2 _ (by omega)
        have u2 : gt ys (k + ((m : Int) - 1).toNat) = gt xs (k + m - 1) := by rw [show k + ((m : Int) - 1).toNat = k + m - 1 by omega]; exact hy2 _ (by omega)
        have hs2 := compactF_step (xs := xs) (j := k + m - 1) (by omega)
        rw [show k + m - 1 + 2 = k + (m + 1) by omega, show k + m - 1 + 1 = k + m by omega, ← hy1] at hs2
        repeat (first | refine R1 ?_ | (refine R2 ?_; intro _))
        refine sf_draw (by kernel_rfl) (regX_run [[], [], [0, 1], [0, 1, 2], [], [], [5], [4, 5, 6], [4, 5, 6, 7], [0, 1, 2, 3, 4, 5, 6, 7, 8]] 9 [(0, false), (1, false), (2, false), (3, false), (4, false), (5, false), (6, false), (7, false), (8, false)] (by kernel_rfl) (by kernel_rfl) (by kernel_rfl) ?_)
        repeat (refine Da1 ?_)
        refine aq (by rfl) (.inl rfl) (fun X h' [_] => z_indexT (k := k) (size := 1) (by rfl) (by rfl) (.slice (some ⟨b, 0, none⟩) xs.length cap) ⟨rfl, rfl⟩ (by omega) (by omega) (by omega) (by infer_instance) (by infer_instance)) ?_
        repeat (refine Da1 ?_)
        refine aq (by rfl) (.inl rfl) (fun X h' [_] => z_indexT (k := k) (size := 1) (by rfl) (by rfl) (.slice (some ⟨b, 0, none⟩) xs.length cap) ⟨rfl, rfl⟩ (by omega) (by omega) (by omega) (by infer_instance) (by infer_instance)) ?_
        repeat (refine Da1 ?_)
        (refine a_end (by rfl) (by rfl) ?_; simp only [finA, setL, List.drop_succ_cons, List.drop_zero])
        repeat (first | refine R1 ?_ | (refine R2 ?_; intro _))
        rw [u1, u2]
        refine sf_if (fun h5 => ?_) fun h5 => ?_
        · repeat (first | refine R1 ?_ | (refine R2 ?_; intro _))
          rw [if_neg h5] at hs2
          refine fp (Rq ?_ (z_indexT (k := k) (size := 1) (by rfl) (by rfl) (.slice (some ⟨b, 0, none⟩) xs.length cap) ⟨rfl, rfl⟩ (by omega) (by omega) (by omega) (by infer_instance) (by infer_instance)))
          repeat (first | refine R1 ?_ | (refine R2 ?_; intro _))
          refine fp (y_storeG0 (by rfl) (by rfl) gy (by omega) (by rfl) fun A2 zs hz hlz fz gz => ?_)
          repeat (first | refine R1 ?_ | (refine R2 ?_; intro _))
          rw [u1] at hz
          refine ⟨(j + 1, m + 1, zs), by simp only; omega, ⟨rfl, rfl, trivial⟩, rfl, A2, _, inferInstance, gz, by simp only; omega, by simp only; omega, by simp only; omega, by simp only; omega, by simp only; omega, ?_, ?_⟩
          · simp only
            rw [hs2, hz, take_succ_gt (by simp; omega), gt_set (by omega), List.take_set_of_le (by omega)]
          · intro i hi
            simp only at hi ⊢
            rw [hz, gt_set_ne (by omega)]
            exact hy2 i (by omega)
        · rw [if_pos (by omega)] at hs2
          repeat (first | refine R1 ?_ | (refine R2 ?_; intro _))
          refine ⟨(j, m + 1, ys), by simp only; omega, ⟨rfl, rfl, trivial⟩, rfl, O, _, inferInstance, gy, hly, by simp only; omega, by simp only; omega, hj1, by simp only; omega, hs2.symm, fun i hi => hy2 i (by simp only at hi; omega)⟩
      · refine sf_exit ?_
        have hm : k + m = xs.length := by omega
        rw [hm, List.take_of_length_le (Nat.le_refl _)] at hy1
        repeat (first | refine R1 ?_ | (refine R2 ?_; intro _))
        refine fp (Rq ?_ (q_sliceLo (l := j) (by infer_instance) (by infer_instance) (by rfl) (by rfl) (by omega)))
        rw [if_neg (by omega : ¬ cap = j)]
        refine fp (y_clearT (k := j) (size := 1) (by rfl) (by rfl) gy ⟨rfl, rfl⟩ (by omega) (by omega) (by omega) (by infer_instance) (by infer_instance) (by infer_instance) (by infer_instance) (by infer_instance) (by rfl) (by decide) fun A2 gz => ?_)
        repeat (first | refine R1 ?_ | (refine R2 ?_; intro _))
        refine fp (Rq ?_ (q_sliceHi (l := j) (by infer_instance) (by infer_instance) (by rfl) (by rfl) (by omega)))
        repeat (first | refine R1 ?_ | (refine R2 ?_; intro _))
        obtain ⟨b2, cap2, e2, hc2, cut⟩ := gz.cut (by simp; omega)
        have hcut := cut j (by simp; omega)
        rw [Value.slice.injEq] at e2
        obtain ⟨e3, _, rfl⟩ := e2
        simp only [Option.some.injEq, Addr.mk.injEq] at e3
        obtain rfl := e3.1
        refine sf_ret (rO A2 ?_)
        rw [← hy1]
        rw [List.take_left' (by rw [List.length_take]; omega)] at hcut
        exact hcut
    · repeat (first | refine R1 ?_ | (refine R2 ?_; intro _))
      rw [if_neg h3, hinv] at hst
      exact ⟨k + 1, by omega, ⟨rfl, trivial⟩, rfl, _, _, inferInstance, rfl, by omega, by omega, by rw [hst, take_succ_gt (by omega : k < xs.length)]⟩
  · refine sf_exit ?_
    repeat (first | refine R1 ?_ | (refine R2 ?_; intro _))
    refine sf_ret (rO O0 ?_)
    rw [List.take_of_length_le (by omega)] at hinv
    rw [hinv]; exact g
end Go.Proofs.YtekjikbaefgncaaGreat

/- Walks: a keeper's beginning, the reference's. -/
namespace Go.Proofs.YtekjikbaefgncaaGreat
open Go Go.Sl
set_option maxRecDepth 100000
set_option maxHeartbeats 4000000
attribute [local irreducible] Go.Code.sf sfOps Opq opo retF Do1 anyO
variable {M : Jdg → Prop} [IsCl Tryz.prog M]
theorem l1Copy_f (h : PHeap) (ca : List Value) (g : Grid) (b : (gridR τ).B h ca g) (hs : g.cells.length ≤ 1048576) : CallF Tryz.prog M 80 [.agg ca.toArray] [] h fun v A => ∃ cs, v = .agg cs.toArray ∧ (gridR τ).O A cs g := by
  obtain ⟨c, rfl, s⟩ := gridB b
  have o1 := s.one
  refine calls_of_sf Tryz.func80 rfl Tryz.ntmps80 ?_
  simp only [argsL, Nat.reduceAdd]
  repeat (first | refine R1 ?_ | (refine R2 ?_; intro _))
  refine sf_draw (by kernel_rfl) (regX_run [[], [0], [], [], [3], [2, 3, 4], [0, 1, 2, 3, 4, 5], [0, 1, 2, 3, 4, 5, 6]] 6 [(0, false), (1, false), (3, false), (4, false), (2, true), (5, true)] (by kernel_rfl) (by kernel_rfl) (by kernel_rfl) ?_)
  repeat (refine Da1 ?_)
  refine a_bs (by rfl) (by rfl) (by infer_instance) (by infer_instance) (by infer_instance) (by infer_instance) (by rfl) (by rfl) (by rfl) (by decide) (.inl rfl) fun w A gw => ?_
  refine a_appendS (by rfl) (by rfl) (by rfl) gw s (by infer_instance) (by infer_instance) (fun y _ => FlatOne.one y) (by rfl) (by rfl) (by simp; omega) (by simp; omega) (.inl rfl) fun w2 A2 g2 => ?_
  have o2 := g2.one
  (refine a_end (by rfl) (by rfl) ?_; simp only [finA, setL, List.drop_succ_cons, List.drop_zero])
  repeat (first | refine R1 ?_ | (refine R2 ?_; intro _))
  exact sf_ret (rO A2 ⟨_, rfl, gridO_mk g2 (by omega)⟩)
end Go.Proofs.YtekjikbaefgncaaGreat

/- Walks: cells, grids and a keeper's beginning, the program's own. -/
namespace Go.Proofs.YtekjikbaefgncaaGreat
open Go Go.Sl
set_option maxRecDepth 100000
set_option maxHeartbeats 4000000
attribute [local irreducible] Go.Code.sf sfOps Opq opo retF Do1 anyO
variable {M : Jdg → Prop} [IsCl Tryz.prog M]
def typedV (c : Cell) : Value :=
  if c.kind = 7 then .iface 146 (.agg #[.int .i64 c.light])
  else if cellOk c then
    if c.kind = 0 then .iface 148 (.agg #[]) else if c.kind = 1 then .iface 149 (.agg #[]) else if c.kind = 2 then .iface 150 (.agg #[]) else if c.kind = 3 then .iface 151 (.agg #[])
    else if c.kind = 4 then .iface 152 (.agg #[]) else if c.kind = 5 then .iface 153 (.agg #[]) else .iface 154 (.agg #[])
  else .nilIface
theorem cellTyped_v (h : PHeap) (c : Cell) : CallV Tryz.prog M 97 [.agg #[.int .i64 c.kind, .int .i64 c.light]] h (.tuple #[typedV c, .bool (cellOk c)]) := by
  obtain ⟨k, l⟩ := c
  refine calls_of_sf Tryz.func97 rfl Tryz.ntmps97 ?_
  simp only [argsL, Nat.reduceAdd]
  repeat (first | refine R1 ?_ | (refine R2 ?_; intro _))
  refine sf_if (fun h1 => ?_) fun h1 => ?_
  · by_cases h2 : l ≥ 1 <;>
    · repeat (first | refine R1 ?_ | (refine R2 ?_; intro _))
      refine sf_draw (by kernel_rfl) (regX_run [[], [0], [0, 1], [0, 1, 2], [], [4], [4, 5], [4, 5, 6], [4, 5, 6, 7], [4, 5, 6, 7, 8], [4, 5, 6, 7, 8, 9], [4, 5, 6, 7, 8, 9, 10], [0, 1, 2, 3, 4, 5, 6, 7], [0, 1, 2, 3, 4, 5, 6, 7, 8, 9, 10, 11, 12]] 13 [(0, false), (1, false), (2, false), (3, false), (4, false), (5, false), (6, false), (7, false), (8, false), (9, false), (10, false), (11, false), (12, false)] (by kernel_rfl) (by kernel_rfl) (by kernel_rfl) ?_)
      repeat (refine Da1 ?_)
      (refine a_end (by rfl) (by rfl) ?_; simp only [finA, setL, List.drop_succ_cons, List.drop_zero])
      repeat (first | refine R1 ?_ | (refine R2 ?_; intro _))
      refine sf_ret (rV ?_)
      simp [typedV, cellOk, h1, h2]
  · repeat (first | refine R1 ?_ | (refine R2 ?_; intro _))
    refine f_split (fun h2 => ?_) fun h2 => ?_
    · repeat (first | refine R1 ?_ | (refine R2 ?_; intro _))
      refine sf_T rfl ?_
      repeat (first | refine R1 ?_ | (refine R2 ?_; intro _))
      refine sf_ret (rV ?_)
      simp [typedV, cellOk, h1, show ¬ 0 ≤ k by omega]
    · repeat (first | refine R1 ?_ | (refine R2 ?_; intro _))
      refine f_split (fun h3 => ?_) fun h3 => ?_
      · repeat (first | refine R1 ?_ | (refine R2 ?_; intro _))
        refine sf_T rfl ?_
        repeat (first | refine R1 ?_ | (refine R2 ?_; intro _))
        refine sf_ret (rV ?_)
        simp [typedV, cellOk, h1, show ¬ k ≤ 6 by omega]
      · repeat (first | refine R1 ?_ | (refine R2 ?_; intro _))
        refine sf_if (fun h4 => ?_) fun h4 => ?_
        · repeat (first | refine R1 ?_ | (refine R2 ?_; intro _))
          refine sf_ret (rV ?_)
          simp [typedV, cellOk, h1, h4]
        · obtain ⟨n, rfl⟩ : ∃ n : Nat, k = n := ⟨k.toNat, by omega⟩
          have hn : n = 0 ∨ n = 1 ∨ n = 2 ∨ n = 3 ∨ n = 4 ∨ n = 5 ∨ n = 6 := by omega
          repeat (first | refine R1 ?_ | (refine R2 ?_; intro _))
          rcases hn with rfl | rfl | rfl | rfl | rfl | rfl | rfl <;>
          · repeat (first | refine R1 ?_ | (refine R2 ?_; intro _))
            refine sf_ret (rV ?_)
            simp at h4
            simp [typedV, cellOk, h4]
theorem cellOk_v (h : PHeap) (c : Cell) : CallV Tryz.prog M 82 [.agg #[.int .i64 c.kind, .int .i64 c.light]] h (.bool (cellOk c)) := by
  refine calls_of_sf Tryz.func82 rfl Tryz.ntmps82 ?_
  simp only [argsL, Nat.reduceAdd]
  repeat (first | refine R1 ?_ | (refine R2 ?_; intro _))
  refine fp (y_callV (cellTyped_v _ c) (by rfl) ?_)
  repeat (first | refine R1 ?_ | (refine R2 ?_; intro _))
  exact sf_ret (rV rfl)
theorem gridOk_v (h : PHeap) (ca : List Value) (g : Grid) (b : (gridR τ).B h ca g) : CallV Tryz.prog M 55 [.agg ca.toArray] h (.bool (gridOk g)) := by
  obtain ⟨c, rfl, s⟩ := gridB b
  have o1 := s.one
  have hs := s.small
  refine calls_of_sf Tryz.func55 rfl Tryz.ntmps55 ?_
  simp only [argsL, Nat.reduceAdd]
  repeat (first | refine R1 ?_ | (refine R2 ?_; intro _))
  refine f_split (fun h1 => ?_) fun h1 => ?_
  · repeat (first | refine R1 ?_ | (refine R2 ?_; intro _))
    refine sf_T rfl ?_
    repeat (first | refine R1 ?_ | (refine R2 ?_; intro _))
    exact sf_ret (rV (by rw [gridOk_F (by omega)]))
  · repeat (first | refine R1 ?_ | (refine R2 ?_; intro _))
    refine sf_if (fun h2 => ?_) fun h2 => ?_
    · repeat (first | refine R1 ?_ | (refine R2 ?_; intro _))
      exact sf_ret (rV (by rw [gridOk_F (by omega)]))
    · repeat (first | refine R1 ?_ | (refine R2 ?_; intro _))
      refine f_split (fun h3 => ?_) fun h3 => ?_
      · repeat (first | refine R1 ?_ | (refine R2 ?_; intro _))
        refine sf_T rfl ?_
        repeat (first | refine R1 ?_ | (refine R2 ?_; intro _))
        exact sf_ret (rV (by rw [gridOk_F (by omega)]))
      · repeat (first | refine R1 ?_ | (refine R2 ?_; intro _))
        refine f_split (fun h4 => ?_) fun h4 => ?_
        · repeat (first | refine R1 ?_ | (refine R2 ?_; intro _))
          refine sf_T rfl ?_
          repeat (first | refine R1 ?_ | (refine R2 ?_; intro _))
          exact sf_ret (rV (by rw [gridOk_F (by omega)]))
        · repeat (first | refine R1 ?_ | (refine R2 ?_; intro _))
          refine sf_if (fun h5 => ?_) fun h5 => ?_
          · repeat (first | refine R1 ?_ | (refine R2 ?_; intro _))
            exact sf_ret (rV (by rw [gridOk_F (by omega)]))
          · repeat (first | refine R1 ?_ | (refine R2 ?_; intro _))
            refine sf_rd [36, 37] 38 g.cells.length 0 (fun k => (g.cells.take k).all cellOk = true) (by omega) rfl (fun k hk hi => ?_)
            repeat (first | refine R1 ?_ | (refine R2 ?_; intro _))
            refine sf_if (fun h6 => ?_) fun h6 => ?_
            · have hk4 : k < g.cells.length := by omega
              repeat (first | refine R1 ?_ | (refine R2 ?_; intro _))
              refine fp (y_callV (cellOk_v _ (gt g.cells k)) (by rfl) ?_)
              repeat (first | refine R1 ?_ | (refine R2 ?_; intro _))
              refine sf_cond (by rfl) (fun h7 => ?_) fun h7 => ?_
              · repeat (first | refine R1 ?_ | (refine R2 ?_; intro _))
                simp only [Bool.not_eq_true'] at h7
                refine sf_ret (rV ?_)
                simp [gridOk, all_false hk4 h7]
              · repeat (first | refine R1 ?_ | (refine R2 ?_; intro _))
                refine ⟨⟨hk4, ?_⟩, rfl, rfl, _, inferInstance⟩
                rw [all_take hk4, hi]; simpa using h7
            · refine sf_exit ?_
              repeat (first | refine R1 ?_ | (refine R2 ?_; intro _))
              rw [take_ge hk (by omega)] at hi
              exact sf_ret (rV (by rw [(gridOk_iff g).2 ⟨⟨by omega, by omega⟩, by omega, by omega, by omega, hi⟩]))
theorem cloneCells_f (h : PHeap) (v : Value) (xs : List Cell) (s : Sl h v cellF xs) (hs : xs.length ≤ 1048576) : CallF Tryz.prog M 98 [v] [] h fun v' A => Gr A v' 44 cellF xs := by
  have o1 := s.one
  refine calls_of_sf Tryz.func98 rfl Tryz.ntmps98 ?_
  simp only [argsL, Nat.reduceAdd]
  repeat (first | refine R1 ?_ | (refine R2 ?_; intro _))
  refine fp (Rq ?_ (q_eqNil (by infer_instance) (by rfl) (by rfl) s))
  repeat (first | refine R1 ?_ | (refine R2 ?_; intro _))
  refine sf_cond (by rfl) (fun h1 => ?_) fun h1 => ?_
  · obtain ⟨rfl, rfl⟩ := isNilS_nil s h1
    repeat (first | refine R1 ?_ | (refine R2 ?_; intro _))
    exact sf_ret (rO [] (Gr.nil _ _))
  · repeat (first | refine R1 ?_ | (refine R2 ?_; intro _))
    refine fp (y_bs (by rfl) (by rfl) (by rfl) (by rfl) (by decide) fun w A gw => ?_)
    repeat (first | refine R1 ?_ | (refine R2 ?_; intro _))
    refine fp (y_appendS (by rfl) (by rfl) gw s (fun y _ => FlatOne.one y) (by rfl) (by rfl) (by simp; omega) (by simp; omega) fun w2 A2 g2 => ?_)
    repeat (first | refine R1 ?_ | (refine R2 ?_; intro _))
    exact sf_ret (rO A2 g2)
theorem gridCopy_f (h : PHeap) (ca : List Value) (g : Grid) (b : (gridR τ).B h ca g) (hs : g.cells.length ≤ 1048576) : CallF Tryz.prog M 83 [.agg ca.toArray] [] h fun v A => ∃ cs, v = .agg cs.toArray ∧ (gridR τ).O A cs g := by
  obtain ⟨c, rfl, s⟩ := gridB b
  have o1 := s.one
  refine calls_of_sf Tryz.func83 rfl Tryz.ntmps83 ?_
  simp only [argsL, Nat.reduceAdd]
  repeat (first | refine R1 ?_ | (refine R2 ?_; intro _))
  refine sf_draw (by kernel_rfl) (regX_run [[], [0], [], [2], [2, 3], [0, 1, 2, 3, 4], [0, 1, 2, 3, 4, 5]] 5 [(0, false), (1, false), (2, false), (3, false), (4, true)] (by kernel_rfl) (by kernel_rfl) (by kernel_rfl) ?_)
  repeat (refine Da1 ?_)
  refine a_call (cloneCells_f _ _ _ s hs) (by rfl) (by rfl) (.inl rfl) fun w A g2 => ?_
  have o2 := g2.one
  (refine a_end (by rfl) (by rfl) ?_; simp only [finA, setL, List.drop_succ_cons, List.drop_zero])
  repeat (first | refine R1 ?_ | (refine R2 ?_; intro _))
  exact sf_ret (rO A ⟨_, rfl, gridO_mk g2 (by omega)⟩)
end Go.Proofs.YtekjikbaefgncaaGreat

/- Walks: directions, steps, rows: the program's own. -/
namespace Go.Proofs.YtekjikbaefgncaaGreat
open Go Go.Sl
set_option maxRecDepth 100000
set_option maxHeartbeats 4000000
attribute [local irreducible] Go.Code.sf sfOps Opq opo retF Do1 anyO
variable {M : Jdg → Prop} [IsCl Tryz.prog M]
instance : ElemF Tryz.prog 135 visitF := ⟨trivial⟩
instance : ElemF Tryz.prog 144 endF := ⟨trivial⟩
instance : ElemF Tryz.prog 140 rayF := ⟨trivial⟩
instance : ElemF Tryz.prog 175 beamF := ⟨trivial⟩
instance : ElemF Tryz.prog 4 boolF := ⟨trivial⟩
instance : EqFl Tryz.prog 140 rayF := eqFl_ray inferInstance (inferInstance : Ty Tryz.prog 3 _ 1 _ _) (by kernel_rfl)
theorem rowsOf_v (h : PHeap) (c : Value) (g : Grid) (s : Sl h c cellF g.cells) (hw : 1 ≤ g.wide) : CallV Tryz.prog M 102 [.agg #[.int .i64 g.wide, c]] h (.int .i64 (rowsOf g)) := by
  have o1 := s.one
  have hs := s.small
  refine calls_of_sf Tryz.func102 rfl Tryz.ntmps102 ?_
  simp only [argsL, Nat.reduceAdd]
  repeat (first | refine R1 ?_ | (refine R2 ?_; intro _))
  exact sf_ret (rV rfl)
theorem dirOk_v (h : PHeap) (d : Int) : CallV Tryz.prog M 156 [.int .i64 d] h (.bool (decide (0 ≤ d) && decide (d ≤ 3))) := by
  refine calls_of_sf Tryz.func156 rfl Tryz.ntmps156 ?_
  simp only [argsL, Nat.reduceAdd]
  repeat (first | refine R1 ?_ | (refine R2 ?_; intro _))
  refine f_split (fun h1 => ?_) fun h1 => ?_ <;>
  · repeat (first | refine R1 ?_ | (refine R2 ?_; intro _))
    refine sf_ret (rV ?_)
    simp [h1]
theorem dirOpposite_v (h : PHeap) (d : Int) (h0 : 0 ≤ d) (h1 : d ≤ 3) : CallV Tryz.prog M 180 [.int .i64 d] h (.int .i64 ((d + 2) % 4)) := by
  refine calls_of_sf Tryz.func180 rfl Tryz.ntmps180 ?_
  simp only [argsL, Nat.reduceAdd]
  repeat (first | refine R1 ?_ | (refine R2 ?_; intro _))
  exact sf_ret (rV rfl)
section
variable (h : PHeap) (c : Value) (g : Grid) (a : Int) (s : Sl h c cellF g.cells) (hw : 1 ≤ g.wide ∧ g.wide ≤ 5) (ha : 0 ≤ a ∧ a < 1000)
include s hw ha
theorem up_v : CallV Tryz.prog M 176 [.agg #[.int .i64 g.wide, c, .int .i64 a]] h (.tuple #[.int .i64 (a - g.wide), .bool (decide (g.wide ≤ a))]) := by
  have o1 := s.one
  refine calls_of_sf Tryz.func176 rfl Tryz.ntmps176 ?_
  simp only [argsL, Nat.reduceAdd]
  repeat (first | refine R1 ?_ | (refine R2 ?_; intro _))
  refine sf_draw (by kernel_rfl) (regX_run [[], [0], [], [2], [2, 3], [0, 1, 2, 3, 4], [], [6], [], [8], [8, 9], [6, 7, 8, 9, 10], [0, 1, 2, 3, 4, 5], [0, 1, 2, 3, 4, 5, 6, 7, 8, 9, 10, 11, 12]] 13 [(0, false), (1, false), (2, false), (3, false), (4, false), (5, false), (6, false), (7, false), (8, false), (9, false), (10, false), (11, false), (12, false)] (by kernel_rfl) (by kernel_rfl) (by kernel_rfl) ?_)
  repeat (refine Da1 ?_)
  (refine a_end (by rfl) (by rfl) ?_; simp only [finA, setL, List.drop_succ_cons, List.drop_zero])
  repeat (first | refine R1 ?_ | (refine R2 ?_; intro _))
  exact sf_ret (rV rfl)
theorem right_v : CallV Tryz.prog M 177 [.agg #[.int .i64 g.wide, c, .int .i64 a]] h (.tuple #[.int .i64 (a + 1), .bool (decide (a % g.wide ≠ g.wide - 1))]) := by
  have o1 := s.one
  refine calls_of_sf Tryz.func177 rfl Tryz.ntmps177 ?_
  simp only [argsL, Nat.reduceAdd]
  repeat (first | refine R1 ?_ | (refine R2 ?_; intro _))
  refine sf_draw (by kernel_rfl) (regX_run [[], [0], [0, 1], [], [3], [], [5], [5, 6], [3, 4, 5, 6, 7], [], [9], [9, 10], [9, 10, 11], [3, 4, 5, 6, 7, 8, 9, 10, 11, 12], [0, 1, 2], [0, 1, 2, 3, 4, 5, 6, 7, 8, 9, 10, 11, 12, 13, 14]] 15 [(0, false), (1, false), (2, false), (3, false), (4, false), (5, false), (6, false), (7, false), (8, false), (9, false), (10, false), (11, false), (12, false), (13, false), (14, false)] (by kernel_rfl) (by kernel_rfl) (by kernel_rfl) ?_)
  repeat (refine Da1 ?_)
  (refine a_end (by rfl) (by rfl) ?_; simp only [finA, setL, List.drop_succ_cons, List.drop_zero])
  repeat (first | refine R1 ?_ | (refine R2 ?_; intro _))
  exact sf_ret (rV rfl)
theorem down_v : CallV Tryz.prog M 178 [.agg #[.int .i64 g.wide, c, .int .i64 a]] h (.tuple #[.int .i64 (a + g.wide), .bool (decide (a + g.wide < g.cells.length))]) := by
  have o1 := s.one
  refine calls_of_sf Tryz.func178 rfl Tryz.ntmps178 ?_
  simp only [argsL, Nat.reduceAdd]
  repeat (first | refine R1 ?_ | (refine R2 ?_; intro _))
  refine sf_draw (by kernel_rfl) (regX_run [[], [0], [], [2], [2, 3], [0, 1, 2, 3, 4], [], [6], [], [8], [8, 9], [6, 7, 8, 9, 10], [], [12], [12, 13], [12, 13, 14], [6, 7, 8, 9, 10, 11, 12, 13, 14, 15], [0, 1, 2, 3, 4, 5], [0, 1, 2, 3, 4, 5, 6, 7, 8, 9, 10, 11, 12, 13, 14, 15, 16, 17]] 18 [(0, false), (1, false), (2, false), (3, false), (4, false), (5, false), (6, false), (7, false), (8, false), (9, false), (10, false), (11, false), (12, false), (13, false), (14, false), (15, false), (16, false), (17, false)] (by kernel_rfl) (by kernel_rfl) (by kernel_rfl) ?_)
  repeat (refine Da1 ?_)
  (refine a_end (by rfl) (by rfl) ?_; simp only [finA, setL, List.drop_succ_cons, List.drop_zero])
  repeat (first | refine R1 ?_ | (refine R2 ?_; intro _))
  exact sf_ret (rV rfl)
theorem left_v : CallV Tryz.prog M 179 [.agg #[.int .i64 g.wide, c, .int .i64 a]] h (.tuple #[.int .i64 (a - 1), .bool (decide (a % g.wide ≠ 0))]) := by
  have o1 := s.one
  refine calls_of_sf Tryz.func179 rfl Tryz.ntmps179 ?_
  simp only [argsL, Nat.reduceAdd]
  repeat (first | refine R1 ?_ | (refine R2 ?_; intro _))
  refine sf_draw (by kernel_rfl) (regX_run [[], [0], [0, 1], [], [3], [], [5], [5, 6], [3, 4, 5, 6, 7], [3, 4, 5, 6, 7, 8], [0, 1, 2], [0, 1, 2, 3, 4, 5, 6, 7, 8, 9, 10]] 11 [(0, false), (1, false), (2, false), (3, false), (4, false), (5, false), (6, false), (7, false), (8, false), (9, false), (10, false)] (by kernel_rfl) (by kernel_rfl) (by kernel_rfl) ?_)
  repeat (refine Da1 ?_)
  (refine a_end (by rfl) (by rfl) ?_; simp only [finA, setL, List.drop_succ_cons, List.drop_zero])
  repeat (first | refine R1 ?_ | (refine R2 ?_; intro _))
  exact sf_ret (rV rfl)
end
def stepV (g : Grid) (a d : Int) : Value := match nextAt g a d with
  | some b => .tuple #[.agg #[.int .i64 b, .int .i64 d], .bool true]
  | none => .tuple #[.agg #[.int .i64 0, .int .i64 0], .bool false]
theorem rayStep_v (h : PHeap) (c : Value) (g : Grid) (a d : Int) (s : Sl h c cellF g.cells) (hw : 1 ≤ g.wide ∧ g.wide ≤ 5) (ha : 0 ≤ a ∧ a < 1000) (hd : 0 ≤ d ∧ d ≤ 3) : CallV Tryz.prog M 154 [.agg #[.int .i64 g.wide, c], .int .i64 a, .int .i64 d] h (stepV g a d) := by
  have o1 := s.one
  obtain ⟨n, rfl⟩ : ∃ n : Nat, d = n := ⟨d.toNat, by omega⟩
  have hn : n = 0 ∨ n = 1 ∨ n = 2 ∨ n = 3 := by omega
  refine calls_of_sf Tryz.func154 rfl Tryz.ntmps154 ?_
  simp only [argsL, Nat.reduceAdd]
  repeat (first | refine R1 ?_ | (refine R2 ?_; intro _))
  rcases hn with rfl | rfl | rfl | rfl
  · refine sf_draw (by kernel_rfl) (regX_run [[], [0], [0, 1], [], [], [3, 4], [0, 1, 2, 3, 4, 5], [0, 1, 2, 3, 4, 5, 6], [0, 1, 2, 3, 4, 5, 6, 7], [0, 1, 2, 3, 4, 5, 6, 7], [0, 1, 2, 3, 4, 5, 6, 7, 8], [0, 1, 2, 3, 4, 5, 6, 7, 8, 9, 10]] 11 [(0, false), (1, false), (2, false), (3, false), (4, false), (5, false), (6, true), (7, false), (8, false), (9, false), (10, false)] (by kernel_rfl) (by kernel_rfl) (by kernel_rfl) ?_)
    repeat (refine Da1 ?_)
    refine a_callC (by rfl) (by rfl) (by rfl) (by exact up_v h c g a s hw ha) (.inl rfl) ?_
    rintro _ _ ⟨rfl, rfl⟩
    repeat (refine Da1 ?_)
    (refine a_end (by rfl) (by rfl) ?_; simp only [finA, setL, List.drop_succ_cons, List.drop_zero])
    repeat (first | refine R1 ?_ | (refine R2 ?_; intro _))
    refine sf_ifn (fun e => ?_) fun e => ?_
    · repeat (first | refine R1 ?_ | (refine R2 ?_; intro _))
      refine sf_ret (rV ?_)
      simp [stepV, nextAt, e]
    · repeat (first | refine R1 ?_ | (refine R2 ?_; intro _))
      refine sf_ret (rV ?_)
      simp [stepV, nextAt, e]
  · refine sf_draw (by kernel_rfl) (regX_run [[], [0], [0, 1], [], [], [3, 4], [0, 1, 2, 3, 4, 5], [0, 1, 2, 3, 4, 5, 6], [0, 1, 2, 3, 4, 5, 6, 7], [0, 1, 2, 3, 4, 5, 6, 7], [0, 1, 2, 3, 4, 5, 6, 7, 8], [0, 1, 2, 3, 4, 5, 6, 7, 8, 9, 10]] 11 [(0, false), (1, false), (2, false), (3, false), (4, false), (5, false), (6, true), (7, false), (8, false), (9, false), (10, false)] (by kernel_rfl) (by kernel_rfl) (by kernel_rfl) ?_)
    repeat (refine Da1 ?_)
    refine a_callC (by rfl) (by rfl) (by rfl) (by exact right_v h c g a s hw ha) (.inl rfl) ?_
    rintro _ _ ⟨rfl, rfl⟩
    repeat (refine Da1 ?_)
    (refine a_end (by rfl) (by rfl) ?_; simp only [finA, setL, List.drop_succ_cons, List.drop_zero])
    repeat (first | refine R1 ?_ | (refine R2 ?_; intro _))
    refine sf_ifn (fun e => ?_) fun e => ?_
    · repeat (first | refine R1 ?_ | (refine R2 ?_; intro _))
      refine sf_ret (rV ?_)
      simp [stepV, nextAt, e]
    · repeat (first | refine R1 ?_ | (refine R2 ?_; intro _))
      refine sf_ret (rV ?_)
      simp [stepV, nextAt, e]
  · refine sf_draw (by kernel_rfl) (regX_run [[], [0], [0, 1], [], [], [3, 4], [0, 1, 2, 3, 4, 5], [0, 1, 2, 3, 4, 5, 6], [0, 1, 2, 3, 4, 5, 6, 7], [0, 1, 2, 3, 4, 5, 6, 7], [0, 1, 2, 3, 4, 5, 6, 7, 8], [0, 1, 2, 3, 4, 5, 6, 7, 8, 9, 10]] 11 [(0, false), (1, false), (2, false), (3, false), (4, false), (5, false), (6, true), (7, false), (8, false), (9, false), (10, false)] (by kernel_rfl) (by kernel_rfl) (by kernel_rfl) ?_)
    repeat (refine Da1 ?_)
    refine a_callC (by rfl) (by rfl) (by rfl) (by exact down_v h c g a s hw ha) (.inl rfl) ?_
    rintro _ _ ⟨rfl, rfl⟩
    repeat (refine Da1 ?_)
    (refine a_end (by rfl) (by rfl) ?_; simp only [finA, setL, List.drop_succ_cons, List.drop_zero])
    repeat (first | refine R1 ?_ | (refine R2 ?_; intro _))
    refine sf_ifn (fun e => ?_) fun e => ?_
    · repeat (first | refine R1 ?_ | (refine R2 ?_; intro _))
      refine sf_ret (rV ?_)
      simp [stepV, nextAt, e]
    · repeat (first | refine R1 ?_ | (refine R2 ?_; intro _))
      refine sf_ret (rV ?_)
      simp [stepV, nextAt, e]
  · refine sf_draw (by kernel_rfl) (regX_run [[], [0], [0, 1], [], [], [3, 4], [0, 1, 2, 3, 4, 5], [0, 1, 2, 3, 4, 5, 6], [0, 1, 2, 3, 4, 5, 6, 7], [0, 1, 2, 3, 4, 5, 6, 7], [0, 1, 2, 3, 4, 5, 6, 7, 8], [0, 1, 2, 3, 4, 5, 6, 7, 8, 9, 10]] 11 [(0, false), (1, false), (2, false), (3, false), (4, false), (5, false), (6, true), (7, false), (8, false), (9, false), (10, false)] (by kernel_rfl) (by kernel_rfl) (by kernel_rfl) ?_)
    repeat (refine Da1 ?_)
    refine a_callC (by rfl) (by rfl) (by rfl) (by exact left_v h c g a s hw ha) (.inl rfl) ?_
    rintro _ _ ⟨rfl, rfl⟩
    repeat (refine Da1 ?_)
    (refine a_end (by rfl) (by rfl) ?_; simp only [finA, setL, List.drop_succ_cons, List.drop_zero])
    repeat (first | refine R1 ?_ | (refine R2 ?_; intro _))
    refine sf_ifn (fun e => ?_) fun e => ?_
    · repeat (first | refine R1 ?_ | (refine R2 ?_; intro _))
      refine sf_ret (rV ?_)
      simp [stepV, nextAt, e]
    · repeat (first | refine R1 ?_ | (refine R2 ?_; intro _))
      refine sf_ret (rV ?_)
      simp [stepV, nextAt, e]
theorem dirTurn_v (h : PHeap) (k d : Int) (hd : 0 ≤ d ∧ d ≤ 3) : CallV Tryz.prog M 120 [.int .i64 k, .int .i64 d] h (.int .i64 (dirTurn k d)) := by
  obtain ⟨n, rfl⟩ : ∃ n : Nat, d = n := ⟨d.toNat, by omega⟩
  have hn : n = 0 ∨ n = 1 ∨ n = 2 ∨ n = 3 := by omega
  refine calls_of_sf Tryz.func120 rfl Tryz.ntmps120 ?_
  simp only [argsL, Nat.reduceAdd]
  repeat (first | refine R1 ?_ | (refine R2 ?_; intro _))
  refine fp (y_callV (dirOk_v _ _) (by rfl) ?_)
  repeat (first | refine R1 ?_ | (refine R2 ?_; intro _))
  refine sf_cond (by rfl) (fun e => by simp at e; omega) fun _ => ?_
  repeat (first | refine R1 ?_ | (refine R2 ?_; intro _))
  rcases hn with rfl | rfl | rfl | rfl <;>
  · refine sf_if (fun e1 => ?_) fun e1 => ?_
    · repeat (first | refine R1 ?_ | (refine R2 ?_; intro _))
      refine sf_if (fun _ => ?_) fun e => absurd e1 e
      repeat (first | refine R1 ?_ | (refine R2 ?_; intro _))
      refine fp (Rq ?_ (q_index (by infer_instance) (by infer_instance) (by rfl) (by rfl) (by decide) (by decide) (by rfl)))
      repeat (first | refine R1 ?_ | (refine R2 ?_; intro _))
      refine sf_ret (rV ?_)
      simp [dirTurn, e1]
    · repeat (first | refine R1 ?_ | (refine R2 ?_; intro _))
      refine sf_if (fun e2 => ?_) fun e2 => ?_
      · repeat (first | refine R1 ?_ | (refine R2 ?_; intro _))
        refine fp (Rq ?_ (q_index (by infer_instance) (by infer_instance) (by rfl) (by rfl) (by decide) (by decide) (by rfl)))
        repeat (first | refine R1 ?_ | (refine R2 ?_; intro _))
        refine sf_ret (rV ?_)
        simp [dirTurn, e2]
      · repeat (first | refine R1 ?_ | (refine R2 ?_; intro _))
        refine sf_if (fun e3 => ?_) fun e3 => ?_
        · repeat (first | refine R1 ?_ | (refine R2 ?_; intro _))
          refine sf_if (fun _ => ?_) fun e => absurd e3 e
          repeat (first | refine R1 ?_ | (refine R2 ?_; intro _))
          refine fp (Rq ?_ (q_index (by infer_instance) (by infer_instance) (by rfl) (by rfl) (by decide) (by decide) (by rfl)))
          repeat (first | refine R1 ?_ | (refine R2 ?_; intro _))
          refine sf_ret (rV ?_)
          simp [dirTurn, e3]
        · repeat (first | refine R1 ?_ | (refine R2 ?_; intro _))
          refine sf_if (fun e4 => ?_) fun e4 => ?_
          · repeat (first | refine R1 ?_ | (refine R2 ?_; intro _))
            refine fp (Rq ?_ (q_index (by infer_instance) (by infer_instance) (by rfl) (by rfl) (by decide) (by decide) (by rfl)))
            repeat (first | refine R1 ?_ | (refine R2 ?_; intro _))
            refine sf_ret (rV ?_)
            simp [dirTurn, e4]
          · repeat (first | refine R1 ?_ | (refine R2 ?_; intro _))
            refine sf_ret (rV ?_)
            simp [dirTurn, e1, e2, e3, e4]
end Go.Proofs.YtekjikbaefgncaaGreat

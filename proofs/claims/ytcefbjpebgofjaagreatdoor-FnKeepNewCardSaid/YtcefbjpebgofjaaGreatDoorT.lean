/- The types of this translation, as the rules on operations ask for them. Printed by program. -/
import Derived.Test.YtcefbjpebgofjaaGreatDoorSmE
import Derived.Test.YtcefbjpebgofjaaGreatDoorProg
import Derived.KernelRfl
set_option linter.unusedVariables false
set_option linter.unusedSimpArgs false
set_option linter.unusedSectionVars false

namespace Go.Proofs.YtcefbjpebgofjaaGreatDoor
open Go Go.Sl

noncomputable def fs7 : Array Field := match Tryz.prog.underlying 7 with | some (.struct fs) => fs | _ => #[]
noncomputable def fs13 : Array Field := match Tryz.prog.underlying 13 with | some (.struct fs) => fs | _ => #[]
noncomputable def fs18 : Array Field := match Tryz.prog.underlying 18 with | some (.struct fs) => fs | _ => #[]
noncomputable def im20 : Array (String × TypeId) := match Tryz.prog.underlying 20 with | some (.interface ms) => ms | _ => #[]
noncomputable def fs24 : Array Field := match Tryz.prog.underlying 24 with | some (.struct fs) => fs | _ => #[]
noncomputable def fs31 : Array Field := match Tryz.prog.underlying 31 with | some (.struct fs) => fs | _ => #[]
noncomputable def fs49 : Array Field := match Tryz.prog.underlying 49 with | some (.struct fs) => fs | _ => #[]
noncomputable def fs53 : Array Field := match Tryz.prog.underlying 53 with | some (.struct fs) => fs | _ => #[]
noncomputable def im56 : Array (String × TypeId) := match Tryz.prog.underlying 56 with | some (.interface ms) => ms | _ => #[]
noncomputable def fs60 : Array Field := match Tryz.prog.underlying 60 with | some (.struct fs) => fs | _ => #[]
noncomputable def fs63 : Array Field := match Tryz.prog.underlying 63 with | some (.struct fs) => fs | _ => #[]
noncomputable def fs68 : Array Field := match Tryz.prog.underlying 68 with | some (.struct fs) => fs | _ => #[]
noncomputable def fs70 : Array Field := match Tryz.prog.underlying 70 with | some (.struct fs) => fs | _ => #[]
noncomputable def im76 : Array (String × TypeId) := match Tryz.prog.underlying 76 with | some (.interface ms) => ms | _ => #[]
noncomputable def fs82 : Array Field := match Tryz.prog.underlying 82 with | some (.struct fs) => fs | _ => #[]
noncomputable def im85 : Array (String × TypeId) := match Tryz.prog.underlying 85 with | some (.interface ms) => ms | _ => #[]
noncomputable def fs97 : Array Field := match Tryz.prog.underlying 97 with | some (.struct fs) => fs | _ => #[]
noncomputable def fs99 : Array Field := match Tryz.prog.underlying 99 with | some (.struct fs) => fs | _ => #[]
noncomputable def fs108 : Array Field := match Tryz.prog.underlying 108 with | some (.struct fs) => fs | _ => #[]
noncomputable def im114 : Array (String × TypeId) := match Tryz.prog.underlying 114 with | some (.interface ms) => ms | _ => #[]
noncomputable def im117 : Array (String × TypeId) := match Tryz.prog.underlying 117 with | some (.interface ms) => ms | _ => #[]
noncomputable def im119 : Array (String × TypeId) := match Tryz.prog.underlying 119 with | some (.interface ms) => ms | _ => #[]
noncomputable def fs130 : Array Field := match Tryz.prog.underlying 130 with | some (.struct fs) => fs | _ => #[]
noncomputable def fs133 : Array Field := match Tryz.prog.underlying 133 with | some (.struct fs) => fs | _ => #[]
noncomputable def fs136 : Array Field := match Tryz.prog.underlying 136 with | some (.struct fs) => fs | _ => #[]
noncomputable def fs141 : Array Field := match Tryz.prog.underlying 141 with | some (.struct fs) => fs | _ => #[]
noncomputable def fs144 : Array Field := match Tryz.prog.underlying 144 with | some (.struct fs) => fs | _ => #[]
noncomputable def fs163 : Array Field := match Tryz.prog.underlying 163 with | some (.struct fs) => fs | _ => #[]
noncomputable def fs167 : Array Field := match Tryz.prog.underlying 167 with | some (.struct fs) => fs | _ => #[]
noncomputable def fs169 : Array Field := match Tryz.prog.underlying 169 with | some (.struct fs) => fs | _ => #[]
noncomputable def fs173 : Array Field := match Tryz.prog.underlying 173 with | some (.struct fs) => fs | _ => #[]
noncomputable def fs196 : Array Field := match Tryz.prog.underlying 196 with | some (.struct fs) => fs | _ => #[]
noncomputable def fs204 : Array Field := match Tryz.prog.underlying 204 with | some (.struct fs) => fs | _ => #[]
noncomputable def fs207 : Array Field := match Tryz.prog.underlying 207 with | some (.struct fs) => fs | _ => #[]
noncomputable def fs216 : Array Field := match Tryz.prog.underlying 216 with | some (.struct fs) => fs | _ => #[]
noncomputable def fs220 : Array Field := match Tryz.prog.underlying 220 with | some (.struct fs) => fs | _ => #[]
noncomputable def fs225 : Array Field := match Tryz.prog.underlying 225 with | some (.struct fs) => fs | _ => #[]
noncomputable def fs229 : Array Field := match Tryz.prog.underlying 229 with | some (.struct fs) => fs | _ => #[]
instance : Ty Tryz.prog 1 (.func #[] #[] false) 1 8 (.nilFunc) := ⟨by kernel_rfl, by kernel_rfl⟩
instance : Ty Tryz.prog 2 (.int .i64) 1 8 (.int .i64 0) := ⟨by kernel_rfl, by kernel_rfl⟩
instance : Ty Tryz.prog 3 (.int .i64) 1 8 (.int .i64 0) := ⟨by kernel_rfl, by kernel_rfl⟩
instance : Ty Tryz.prog 4 .bool 1 1 (.bool false) := ⟨by kernel_rfl, by kernel_rfl⟩
instance : Ty Tryz.prog 5 (.int .u8) 1 1 (.int .u8 0) := ⟨by kernel_rfl, by kernel_rfl⟩
instance : Ty Tryz.prog 6 (.int .u8) 1 1 (.int .u8 0) := ⟨by kernel_rfl, by kernel_rfl⟩
instance : Ty Tryz.prog 7 (.struct fs7) 4 24 (.agg #[(.int .i64 0), (.int .i64 0), (.bool false), (.int .u8 0)]) := ⟨by kernel_rfl, by kernel_rfl⟩
instance : Flds Tryz.prog 7 [⟨2, false, 0, 1⟩, ⟨3, false, 1, 1⟩, ⟨4, false, 2, 1⟩, ⟨6, false, 3, 1⟩] := ⟨by kernel_rfl⟩
instance : Ty Tryz.prog 8 (.struct fs7) 4 24 (.agg #[(.int .i64 0), (.int .i64 0), (.bool false), (.int .u8 0)]) := ⟨by kernel_rfl, by kernel_rfl⟩
instance : Flds Tryz.prog 8 [⟨2, false, 0, 1⟩, ⟨3, false, 1, 1⟩, ⟨4, false, 2, 1⟩, ⟨6, false, 3, 1⟩] := ⟨by kernel_rfl⟩
instance : Ty Tryz.prog 9 .string 1 16 (.string ⟨#[]⟩) := ⟨by kernel_rfl, by kernel_rfl⟩
instance : Ty Tryz.prog 10 .string 1 16 (.string ⟨#[]⟩) := ⟨by kernel_rfl, by kernel_rfl⟩
instance : Ty Tryz.prog 11 .string 1 16 (.string ⟨#[]⟩) := ⟨by kernel_rfl, by kernel_rfl⟩
instance : Ty Tryz.prog 12 (.int .u64) 1 8 (.int .u64 0) := ⟨by kernel_rfl, by kernel_rfl⟩
instance : Ty Tryz.prog 13 (.struct fs13) 2 24 (.agg #[(.string ⟨#[]⟩), (.int .u64 0)]) := ⟨by kernel_rfl, by kernel_rfl⟩
instance : Flds Tryz.prog 13 [⟨9, false, 0, 1⟩, ⟨12, false, 1, 1⟩] := ⟨by kernel_rfl⟩
instance : Ty Tryz.prog 14 (.struct fs13) 2 24 (.agg #[(.string ⟨#[]⟩), (.int .u64 0)]) := ⟨by kernel_rfl, by kernel_rfl⟩
instance : Flds Tryz.prog 14 [⟨9, false, 0, 1⟩, ⟨12, false, 1, 1⟩] := ⟨by kernel_rfl⟩
instance : Ty Tryz.prog 15 (.pointer 205) 1 8 (.pointer none) := ⟨by kernel_rfl, by kernel_rfl⟩
instance : Ty Tryz.prog 16 (.pointer 208) 1 8 (.pointer none) := ⟨by kernel_rfl, by kernel_rfl⟩
instance : Ty Tryz.prog 17 (.pointer 217) 1 8 (.pointer none) := ⟨by kernel_rfl, by kernel_rfl⟩
instance : Ty Tryz.prog 18 (.struct fs18) 1 8 (.agg #[(.pointer none)]) := ⟨by kernel_rfl, by kernel_rfl⟩
instance : Flds Tryz.prog 18 [⟨17, false, 0, 1⟩] := ⟨by kernel_rfl⟩
instance : Ty Tryz.prog 19 (.struct fs18) 1 8 (.agg #[(.pointer none)]) := ⟨by kernel_rfl, by kernel_rfl⟩
instance : Flds Tryz.prog 19 [⟨17, false, 0, 1⟩] := ⟨by kernel_rfl⟩
instance : Ty Tryz.prog 20 (.interface im20) 1 16 (.nilIface) := ⟨by kernel_rfl, by kernel_rfl⟩
instance : Ty Tryz.prog 21 (.int .i32) 1 4 (.int .i32 0) := ⟨by kernel_rfl, by kernel_rfl⟩
instance : Ty Tryz.prog 22 (.slice 5) 1 24 (.slice none 0 0) := ⟨by kernel_rfl, by kernel_rfl⟩
instance : Ty Tryz.prog 23 (.slice 61) 1 24 (.slice none 0 0) := ⟨by kernel_rfl, by kernel_rfl⟩
instance : Ty Tryz.prog 24 (.struct fs24) 2 32 (.agg #[(.int .i64 0), (.slice none 0 0)]) := ⟨by kernel_rfl, by kernel_rfl⟩
instance : Flds Tryz.prog 24 [⟨3, false, 0, 1⟩, ⟨23, false, 1, 1⟩] := ⟨by kernel_rfl⟩
instance : Ty Tryz.prog 25 (.struct fs24) 2 32 (.agg #[(.int .i64 0), (.slice none 0 0)]) := ⟨by kernel_rfl, by kernel_rfl⟩
instance : Flds Tryz.prog 25 [⟨3, false, 0, 1⟩, ⟨23, false, 1, 1⟩] := ⟨by kernel_rfl⟩
instance : Ty Tryz.prog 27 (.func #[22] #[25, 3] false) 1 8 (.nilFunc) := ⟨by kernel_rfl, by kernel_rfl⟩
instance : Ty Tryz.prog 28 (.slice 69) 1 24 (.slice none 0 0) := ⟨by kernel_rfl, by kernel_rfl⟩
instance : Ty Tryz.prog 29 (.slice 50) 1 24 (.slice none 0 0) := ⟨by kernel_rfl, by kernel_rfl⟩
instance : Ty Tryz.prog 30 (.slice 54) 1 24 (.slice none 0 0) := ⟨by kernel_rfl, by kernel_rfl⟩
instance : Ty Tryz.prog 31 (.struct fs31) 5 104 (.agg #[(.int .i64 0), (.slice none 0 0), (.slice none 0 0), (.slice none 0 0), (.slice none 0 0)]) := ⟨by kernel_rfl, by kernel_rfl⟩
instance : Flds Tryz.prog 31 [⟨25, true, 0, 2⟩, ⟨28, false, 2, 1⟩, ⟨29, false, 3, 1⟩, ⟨30, false, 4, 1⟩] := ⟨by kernel_rfl⟩
instance : Ty Tryz.prog 32 (.struct fs31) 5 104 (.agg #[(.int .i64 0), (.slice none 0 0), (.slice none 0 0), (.slice none 0 0), (.slice none 0 0)]) := ⟨by kernel_rfl, by kernel_rfl⟩
instance : Flds Tryz.prog 32 [⟨25, true, 0, 2⟩, ⟨28, false, 2, 1⟩, ⟨29, false, 3, 1⟩, ⟨30, false, 4, 1⟩] := ⟨by kernel_rfl⟩
instance : Ty Tryz.prog 34 (.func #[25, 3] #[32, 4] false) 1 8 (.nilFunc) := ⟨by kernel_rfl, by kernel_rfl⟩
instance : Ty Tryz.prog 35 (.func #[32, 32] #[4] false) 1 8 (.nilFunc) := ⟨by kernel_rfl, by kernel_rfl⟩
instance : Ty Tryz.prog 37 (.func #[32, 3] #[25, 4] false) 1 8 (.nilFunc) := ⟨by kernel_rfl, by kernel_rfl⟩
instance : Ty Tryz.prog 38 (.func #[25, 25] #[4] false) 1 8 (.nilFunc) := ⟨by kernel_rfl, by kernel_rfl⟩
instance : Ty Tryz.prog 39 (.func #[32] #[4] false) 1 8 (.nilFunc) := ⟨by kernel_rfl, by kernel_rfl⟩
instance : Ty Tryz.prog 40 (.func #[22] #[4] false) 1 8 (.nilFunc) := ⟨by kernel_rfl, by kernel_rfl⟩
instance : Ty Tryz.prog 41 (.pointer 64) 1 8 (.pointer none) := ⟨by kernel_rfl, by kernel_rfl⟩
instance : Ty Tryz.prog 42 (.func #[22] #[41] false) 1 8 (.nilFunc) := ⟨by kernel_rfl, by kernel_rfl⟩
instance : Ty Tryz.prog 43 (.func #[41] #[25] false) 1 8 (.nilFunc) := ⟨by kernel_rfl, by kernel_rfl⟩
instance : Ty Tryz.prog 44 (.func #[3] #[3] false) 1 8 (.nilFunc) := ⟨by kernel_rfl, by kernel_rfl⟩
instance : Ty Tryz.prog 45 (.func #[25] #[4] false) 1 8 (.nilFunc) := ⟨by kernel_rfl, by kernel_rfl⟩
instance : Ty Tryz.prog 46 (.func #[3, 3, 3] #[4] false) 1 8 (.nilFunc) := ⟨by kernel_rfl, by kernel_rfl⟩
instance : Ty Tryz.prog 47 (.func #[25] #[25] false) 1 8 (.nilFunc) := ⟨by kernel_rfl, by kernel_rfl⟩
instance : Ty Tryz.prog 48 (.slice 3) 1 24 (.slice none 0 0) := ⟨by kernel_rfl, by kernel_rfl⟩
instance : Ty Tryz.prog 49 (.struct fs49) 3 40 (.agg #[(.bool false), (.int .i64 0), (.slice none 0 0)]) := ⟨by kernel_rfl, by kernel_rfl⟩
instance : Flds Tryz.prog 49 [⟨4, false, 0, 1⟩, ⟨3, false, 1, 1⟩, ⟨48, false, 2, 1⟩] := ⟨by kernel_rfl⟩
instance : Ty Tryz.prog 50 (.struct fs49) 3 40 (.agg #[(.bool false), (.int .i64 0), (.slice none 0 0)]) := ⟨by kernel_rfl, by kernel_rfl⟩
instance : Flds Tryz.prog 50 [⟨4, false, 0, 1⟩, ⟨3, false, 1, 1⟩, ⟨48, false, 2, 1⟩] := ⟨by kernel_rfl⟩
instance : Ty Tryz.prog 51 (.func #[28, 28] #[4] false) 1 8 (.nilFunc) := ⟨by kernel_rfl, by kernel_rfl⟩
instance : Ty Tryz.prog 52 (.func #[48, 48] #[4] false) 1 8 (.nilFunc) := ⟨by kernel_rfl, by kernel_rfl⟩
instance : Ty Tryz.prog 53 (.struct fs53) 2 32 (.agg #[(.int .i64 0), (.slice none 0 0)]) := ⟨by kernel_rfl, by kernel_rfl⟩
instance : Flds Tryz.prog 53 [⟨3, false, 0, 1⟩, ⟨48, false, 1, 1⟩] := ⟨by kernel_rfl⟩
instance : Ty Tryz.prog 54 (.struct fs53) 2 32 (.agg #[(.int .i64 0), (.slice none 0 0)]) := ⟨by kernel_rfl, by kernel_rfl⟩
instance : Flds Tryz.prog 54 [⟨3, false, 0, 1⟩, ⟨48, false, 1, 1⟩] := ⟨by kernel_rfl⟩
instance : Ty Tryz.prog 55 (.func #[57] #[4] false) 1 8 (.nilFunc) := ⟨by kernel_rfl, by kernel_rfl⟩
instance : Ty Tryz.prog 56 (.interface im56) 1 16 (.nilIface) := ⟨by kernel_rfl, by kernel_rfl⟩
instance : Ty Tryz.prog 57 (.interface im56) 1 16 (.nilIface) := ⟨by kernel_rfl, by kernel_rfl⟩
instance : Ty Tryz.prog 58 (.func #[32, 3] #[57] false) 1 8 (.nilFunc) := ⟨by kernel_rfl, by kernel_rfl⟩
instance : Ty Tryz.prog 59 (.func #[32, 3] #[25] false) 1 8 (.nilFunc) := ⟨by kernel_rfl, by kernel_rfl⟩
instance : Ty Tryz.prog 60 (.struct fs60) 2 16 (.agg #[(.int .i64 0), (.int .i64 0)]) := ⟨by kernel_rfl, by kernel_rfl⟩
instance : Flds Tryz.prog 60 [⟨3, false, 0, 1⟩, ⟨3, false, 1, 1⟩] := ⟨by kernel_rfl⟩
instance : Ty Tryz.prog 61 (.struct fs60) 2 16 (.agg #[(.int .i64 0), (.int .i64 0)]) := ⟨by kernel_rfl, by kernel_rfl⟩
instance : Flds Tryz.prog 61 [⟨3, false, 0, 1⟩, ⟨3, false, 1, 1⟩] := ⟨by kernel_rfl⟩
instance : Ty Tryz.prog 62 (.func #[32] #[57] false) 1 8 (.nilFunc) := ⟨by kernel_rfl, by kernel_rfl⟩
instance : Ty Tryz.prog 63 (.struct fs63) 2 32 (.agg #[(.slice none 0 0), (.int .i64 0)]) := ⟨by kernel_rfl, by kernel_rfl⟩
instance : Flds Tryz.prog 63 [⟨22, false, 0, 1⟩, ⟨3, false, 1, 1⟩] := ⟨by kernel_rfl⟩
instance : Ty Tryz.prog 64 (.struct fs63) 2 32 (.agg #[(.slice none 0 0), (.int .i64 0)]) := ⟨by kernel_rfl, by kernel_rfl⟩
instance : Flds Tryz.prog 64 [⟨22, false, 0, 1⟩, ⟨3, false, 1, 1⟩] := ⟨by kernel_rfl⟩
instance : Ty Tryz.prog 65 (.func #[41] #[61] false) 1 8 (.nilFunc) := ⟨by kernel_rfl, by kernel_rfl⟩
instance : Ty Tryz.prog 66 (.func #[61] #[4] false) 1 8 (.nilFunc) := ⟨by kernel_rfl, by kernel_rfl⟩
instance : Ty Tryz.prog 67 (.func #[23] #[23] false) 1 8 (.nilFunc) := ⟨by kernel_rfl, by kernel_rfl⟩
instance : Ty Tryz.prog 68 (.struct fs68) 3 24 (.agg #[(.int .i64 0), (.int .i64 0), (.int .i64 0)]) := ⟨by kernel_rfl, by kernel_rfl⟩
instance : Flds Tryz.prog 68 [⟨3, false, 0, 1⟩, ⟨61, true, 1, 2⟩] := ⟨by kernel_rfl⟩
instance : Ty Tryz.prog 69 (.struct fs68) 3 24 (.agg #[(.int .i64 0), (.int .i64 0), (.int .i64 0)]) := ⟨by kernel_rfl, by kernel_rfl⟩
instance : Flds Tryz.prog 69 [⟨3, false, 0, 1⟩, ⟨61, true, 1, 2⟩] := ⟨by kernel_rfl⟩
instance : Ty Tryz.prog 70 (.struct fs70) 1 16 (.agg #[(.string ⟨#[]⟩)]) := ⟨by kernel_rfl, by kernel_rfl⟩
instance : Flds Tryz.prog 70 [⟨9, false, 0, 1⟩] := ⟨by kernel_rfl⟩
instance : Ty Tryz.prog 71 (.struct fs70) 1 16 (.agg #[(.string ⟨#[]⟩)]) := ⟨by kernel_rfl, by kernel_rfl⟩
instance : Flds Tryz.prog 71 [⟨9, false, 0, 1⟩] := ⟨by kernel_rfl⟩
instance : Ty Tryz.prog 72 (.func #[57, 20] #[4] false) 1 8 (.nilFunc) := ⟨by kernel_rfl, by kernel_rfl⟩
instance : Ty Tryz.prog 73 (.pointer 71) 1 8 (.pointer none) := ⟨by kernel_rfl, by kernel_rfl⟩
instance : Ty Tryz.prog 74 (.func #[25, 28] #[4] false) 1 8 (.nilFunc) := ⟨by kernel_rfl, by kernel_rfl⟩
instance : Ty Tryz.prog 75 (.func #[25] #[48] false) 1 8 (.nilFunc) := ⟨by kernel_rfl, by kernel_rfl⟩
instance : Ty Tryz.prog 76 (.interface im76) 1 16 (.nilIface) := ⟨by kernel_rfl, by kernel_rfl⟩
instance : Ty Tryz.prog 77 (.interface im76) 1 16 (.nilIface) := ⟨by kernel_rfl, by kernel_rfl⟩
instance : Ty Tryz.prog 79 (.func #[61] #[77, 4] false) 1 8 (.nilFunc) := ⟨by kernel_rfl, by kernel_rfl⟩
instance : Ty Tryz.prog 81 (.int .u64) 1 8 (.int .u64 0) := ⟨by kernel_rfl, by kernel_rfl⟩
instance : Ty Tryz.prog 82 (.struct fs82) 3 24 (.agg #[(.pointer none), (.pointer none), (.int .u64 0)]) := ⟨by kernel_rfl, by kernel_rfl⟩
instance : Flds Tryz.prog 82 [⟨17, false, 0, 1⟩, ⟨80, false, 1, 1⟩, ⟨81, false, 2, 1⟩] := ⟨by kernel_rfl⟩
instance : Ty Tryz.prog 83 (.struct fs82) 3 24 (.agg #[(.pointer none), (.pointer none), (.int .u64 0)]) := ⟨by kernel_rfl, by kernel_rfl⟩
instance : Flds Tryz.prog 83 [⟨17, false, 0, 1⟩, ⟨80, false, 1, 1⟩, ⟨81, false, 2, 1⟩] := ⟨by kernel_rfl⟩
instance : Ty Tryz.prog 84 (.func #[20] #[83] false) 1 8 (.nilFunc) := ⟨by kernel_rfl, by kernel_rfl⟩
instance : Ty Tryz.prog 85 (.interface im85) 1 16 (.nilIface) := ⟨by kernel_rfl, by kernel_rfl⟩
instance : Ty Tryz.prog 86 (.interface im85) 1 16 (.nilIface) := ⟨by kernel_rfl, by kernel_rfl⟩
instance : Ty Tryz.prog 87 (.func #[] #[86] false) 1 8 (.nilFunc) := ⟨by kernel_rfl, by kernel_rfl⟩
instance : Ty Tryz.prog 88 (.int .u8) 1 1 (.int .u8 0) := ⟨by kernel_rfl, by kernel_rfl⟩
instance : Ty Tryz.prog 89 (.func #[] #[88] false) 1 8 (.nilFunc) := ⟨by kernel_rfl, by kernel_rfl⟩
instance : Ty Tryz.prog 90 (.func #[] #[4] false) 1 8 (.nilFunc) := ⟨by kernel_rfl, by kernel_rfl⟩
instance : Ty Tryz.prog 91 (.func #[86] #[4] false) 1 8 (.nilFunc) := ⟨by kernel_rfl, by kernel_rfl⟩
instance : Ty Tryz.prog 92 (.func #[57, 20, 83, 86] #[4] false) 1 8 (.nilFunc) := ⟨by kernel_rfl, by kernel_rfl⟩
instance : Ty Tryz.prog 93 (.func #[25, 69] #[4] false) 1 8 (.nilFunc) := ⟨by kernel_rfl, by kernel_rfl⟩
instance : Ty Tryz.prog 94 (.func #[25, 48, 3, 3] #[48] false) 1 8 (.nilFunc) := ⟨by kernel_rfl, by kernel_rfl⟩
instance : Ty Tryz.prog 95 (.func #[25, 44] #[48] false) 1 8 (.nilFunc) := ⟨by kernel_rfl, by kernel_rfl⟩
instance : Ty Tryz.prog 96 (.func #[25, 3] #[3] false) 1 8 (.nilFunc) := ⟨by kernel_rfl, by kernel_rfl⟩
instance : Ty Tryz.prog 97 (.struct fs97) 1 8 (.agg #[(.int .i64 0)]) := ⟨by kernel_rfl, by kernel_rfl⟩
instance : Flds Tryz.prog 97 [⟨3, false, 0, 1⟩] := ⟨by kernel_rfl⟩
instance : Ty Tryz.prog 98 (.struct fs97) 1 8 (.agg #[(.int .i64 0)]) := ⟨by kernel_rfl, by kernel_rfl⟩
instance : Flds Tryz.prog 98 [⟨3, false, 0, 1⟩] := ⟨by kernel_rfl⟩
instance : Ty Tryz.prog 99 (.struct fs99) 0 0 (.agg #[]) := ⟨by kernel_rfl, by kernel_rfl⟩
instance : Flds Tryz.prog 99 [] := ⟨by kernel_rfl⟩
instance : Ty Tryz.prog 100 (.struct fs99) 0 0 (.agg #[]) := ⟨by kernel_rfl, by kernel_rfl⟩
instance : Flds Tryz.prog 100 [] := ⟨by kernel_rfl⟩
instance : Ty Tryz.prog 101 (.struct fs99) 0 0 (.agg #[]) := ⟨by kernel_rfl, by kernel_rfl⟩
instance : Flds Tryz.prog 101 [] := ⟨by kernel_rfl⟩
instance : Ty Tryz.prog 102 (.struct fs99) 0 0 (.agg #[]) := ⟨by kernel_rfl, by kernel_rfl⟩
instance : Flds Tryz.prog 102 [] := ⟨by kernel_rfl⟩
instance : Ty Tryz.prog 103 (.struct fs99) 0 0 (.agg #[]) := ⟨by kernel_rfl, by kernel_rfl⟩
instance : Flds Tryz.prog 103 [] := ⟨by kernel_rfl⟩
instance : Ty Tryz.prog 104 (.struct fs99) 0 0 (.agg #[]) := ⟨by kernel_rfl, by kernel_rfl⟩
instance : Flds Tryz.prog 104 [] := ⟨by kernel_rfl⟩
instance : Ty Tryz.prog 105 (.struct fs99) 0 0 (.agg #[]) := ⟨by kernel_rfl, by kernel_rfl⟩
instance : Flds Tryz.prog 105 [] := ⟨by kernel_rfl⟩
instance : Ty Tryz.prog 106 (.struct fs99) 0 0 (.agg #[]) := ⟨by kernel_rfl, by kernel_rfl⟩
instance : Flds Tryz.prog 106 [] := ⟨by kernel_rfl⟩
instance : Ty Tryz.prog 107 (.array 7 77) 7 112 (.agg #[.nilIface, .nilIface, .nilIface, .nilIface, .nilIface, .nilIface, .nilIface]) := ⟨by kernel_rfl, by kernel_rfl⟩
instance : Ty Tryz.prog 108 (.struct fs108) 1 8 (.agg #[(.pointer none)]) := ⟨by kernel_rfl, by kernel_rfl⟩
instance : Flds Tryz.prog 108 [⟨17, false, 0, 1⟩] := ⟨by kernel_rfl⟩
instance : Ty Tryz.prog 109 (.struct fs108) 1 8 (.agg #[(.pointer none)]) := ⟨by kernel_rfl, by kernel_rfl⟩
instance : Flds Tryz.prog 109 [⟨17, false, 0, 1⟩] := ⟨by kernel_rfl⟩
instance : Ty Tryz.prog 110 (.pointer 221) 1 8 (.pointer none) := ⟨by kernel_rfl, by kernel_rfl⟩
instance : Ty Tryz.prog 111 (.func #[20] #[86] false) 1 8 (.nilFunc) := ⟨by kernel_rfl, by kernel_rfl⟩
instance : Ty Tryz.prog 112 (.func #[] #[83] false) 1 8 (.nilFunc) := ⟨by kernel_rfl, by kernel_rfl⟩
instance : Ty Tryz.prog 113 (.func #[83] #[] false) 1 8 (.nilFunc) := ⟨by kernel_rfl, by kernel_rfl⟩
instance : Ty Tryz.prog 114 (.interface im114) 1 16 (.nilIface) := ⟨by kernel_rfl, by kernel_rfl⟩
instance : Ty Tryz.prog 116 (.func #[20] #[4] false) 1 8 (.nilFunc) := ⟨by kernel_rfl, by kernel_rfl⟩
instance : Ty Tryz.prog 117 (.interface im117) 1 16 (.nilIface) := ⟨by kernel_rfl, by kernel_rfl⟩
instance : Ty Tryz.prog 118 (.func #[] #[57] false) 1 8 (.nilFunc) := ⟨by kernel_rfl, by kernel_rfl⟩
instance : Ty Tryz.prog 119 (.interface im119) 1 16 (.nilIface) := ⟨by kernel_rfl, by kernel_rfl⟩
instance : Ty Tryz.prog 120 (.slice 57) 1 24 (.slice none 0 0) := ⟨by kernel_rfl, by kernel_rfl⟩
instance : Ty Tryz.prog 121 (.func #[] #[120] false) 1 8 (.nilFunc) := ⟨by kernel_rfl, by kernel_rfl⟩
instance : Ty Tryz.prog 122 (.func #[25, 3, 3] #[48] false) 1 8 (.nilFunc) := ⟨by kernel_rfl, by kernel_rfl⟩
instance : Ty Tryz.prog 123 (.array 5 3) 5 40 (.agg #[(.int .i64 0), (.int .i64 0), (.int .i64 0), (.int .i64 0), (.int .i64 0)]) := ⟨by kernel_rfl, by kernel_rfl⟩
instance : Ty Tryz.prog 124 (.func #[25] #[123] false) 1 8 (.nilFunc) := ⟨by kernel_rfl, by kernel_rfl⟩
instance : Ty Tryz.prog 125 (.chan .both 137) 1 8 (.chan none) := ⟨by kernel_rfl, by kernel_rfl⟩
instance : Ty Tryz.prog 126 (.struct fs99) 0 0 (.agg #[]) := ⟨by kernel_rfl, by kernel_rfl⟩
instance : Flds Tryz.prog 126 [] := ⟨by kernel_rfl⟩
instance : Ty Tryz.prog 127 (.struct fs99) 0 0 (.agg #[]) := ⟨by kernel_rfl, by kernel_rfl⟩
instance : Flds Tryz.prog 127 [] := ⟨by kernel_rfl⟩
instance : Ty Tryz.prog 128 (.struct fs99) 0 0 (.agg #[]) := ⟨by kernel_rfl, by kernel_rfl⟩
instance : Flds Tryz.prog 128 [] := ⟨by kernel_rfl⟩
instance : Ty Tryz.prog 129 (.int .u64) 1 8 (.int .u64 0) := ⟨by kernel_rfl, by kernel_rfl⟩
instance : Ty Tryz.prog 130 (.struct fs130) 1 8 (.agg #[(.int .u64 0)]) := ⟨by kernel_rfl, by kernel_rfl⟩
instance : Flds Tryz.prog 130 [⟨127, true, 0, 0⟩, ⟨128, true, 0, 0⟩, ⟨129, false, 0, 1⟩] := ⟨by kernel_rfl⟩
instance : Ty Tryz.prog 131 (.struct fs130) 1 8 (.agg #[(.int .u64 0)]) := ⟨by kernel_rfl, by kernel_rfl⟩
instance : Flds Tryz.prog 131 [⟨127, true, 0, 0⟩, ⟨128, true, 0, 0⟩, ⟨129, false, 0, 1⟩] := ⟨by kernel_rfl⟩
instance : Ty Tryz.prog 132 (.int .u32) 1 4 (.int .u32 0) := ⟨by kernel_rfl, by kernel_rfl⟩
instance : Ty Tryz.prog 133 (.struct fs133) 2 16 (.agg #[(.int .u64 0), (.int .u32 0)]) := ⟨by kernel_rfl, by kernel_rfl⟩
instance : Flds Tryz.prog 133 [⟨126, true, 0, 0⟩, ⟨131, true, 0, 1⟩, ⟨132, false, 1, 1⟩] := ⟨by kernel_rfl⟩
instance : Ty Tryz.prog 134 (.struct fs133) 2 16 (.agg #[(.int .u64 0), (.int .u32 0)]) := ⟨by kernel_rfl, by kernel_rfl⟩
instance : Flds Tryz.prog 134 [⟨126, true, 0, 0⟩, ⟨131, true, 0, 1⟩, ⟨132, false, 1, 1⟩] := ⟨by kernel_rfl⟩
instance : Ty Tryz.prog 135 (.func #[3] #[] false) 1 8 (.nilFunc) := ⟨by kernel_rfl, by kernel_rfl⟩
instance : Ty Tryz.prog 136 (.struct fs136) 2 32 (.agg #[(.int .i64 0), (.slice none 0 0)]) := ⟨by kernel_rfl, by kernel_rfl⟩
instance : Flds Tryz.prog 136 [⟨3, false, 0, 1⟩, ⟨48, false, 1, 1⟩] := ⟨by kernel_rfl⟩
instance : Ty Tryz.prog 137 (.struct fs136) 2 32 (.agg #[(.int .i64 0), (.slice none 0 0)]) := ⟨by kernel_rfl, by kernel_rfl⟩
instance : Flds Tryz.prog 137 [⟨3, false, 0, 1⟩, ⟨48, false, 1, 1⟩] := ⟨by kernel_rfl⟩
instance : Ty Tryz.prog 138 (.array 4 48) 4 96 (.agg #[(.slice none 0 0), (.slice none 0 0), (.slice none 0 0), (.slice none 0 0)]) := ⟨by kernel_rfl, by kernel_rfl⟩
instance : Ty Tryz.prog 139 (.slice 168) 1 24 (.slice none 0 0) := ⟨by kernel_rfl, by kernel_rfl⟩
instance : Ty Tryz.prog 140 (.slice 145) 1 24 (.slice none 0 0) := ⟨by kernel_rfl, by kernel_rfl⟩
instance : Ty Tryz.prog 141 (.struct fs141) 2 48 (.agg #[(.slice none 0 0), (.slice none 0 0)]) := ⟨by kernel_rfl, by kernel_rfl⟩
instance : Flds Tryz.prog 141 [⟨139, false, 0, 1⟩, ⟨140, false, 1, 1⟩] := ⟨by kernel_rfl⟩
instance : Ty Tryz.prog 142 (.struct fs141) 2 48 (.agg #[(.slice none 0 0), (.slice none 0 0)]) := ⟨by kernel_rfl, by kernel_rfl⟩
instance : Flds Tryz.prog 142 [⟨139, false, 0, 1⟩, ⟨140, false, 1, 1⟩] := ⟨by kernel_rfl⟩
instance : Ty Tryz.prog 143 (.func #[25, 3] #[142] false) 1 8 (.nilFunc) := ⟨by kernel_rfl, by kernel_rfl⟩
instance : Ty Tryz.prog 144 (.struct fs144) 3 24 (.agg #[(.int .i64 0), (.int .i64 0), (.int .i64 0)]) := ⟨by kernel_rfl, by kernel_rfl⟩
instance : Flds Tryz.prog 144 [⟨3, false, 0, 1⟩, ⟨3, false, 1, 1⟩, ⟨3, false, 2, 1⟩] := ⟨by kernel_rfl⟩
instance : Ty Tryz.prog 145 (.struct fs144) 3 24 (.agg #[(.int .i64 0), (.int .i64 0), (.int .i64 0)]) := ⟨by kernel_rfl, by kernel_rfl⟩
instance : Flds Tryz.prog 145 [⟨3, false, 0, 1⟩, ⟨3, false, 1, 1⟩, ⟨3, false, 2, 1⟩] := ⟨by kernel_rfl⟩
instance : Ty Tryz.prog 146 (.func #[3, 3] #[4] false) 1 8 (.nilFunc) := ⟨by kernel_rfl, by kernel_rfl⟩
instance : Ty Tryz.prog 147 (.func #[25] #[3] false) 1 8 (.nilFunc) := ⟨by kernel_rfl, by kernel_rfl⟩
instance : Ty Tryz.prog 148 (.pointer 134) 1 8 (.pointer none) := ⟨by kernel_rfl, by kernel_rfl⟩
instance : Ty Tryz.prog 149 (.func #[80] #[] false) 1 8 (.nilFunc) := ⟨by kernel_rfl, by kernel_rfl⟩
instance : Ty Tryz.prog 150 (.int .i64) 1 8 (.int .i64 0) := ⟨by kernel_rfl, by kernel_rfl⟩
instance : Ty Tryz.prog 151 (.func #[148] #[150] false) 1 8 (.nilFunc) := ⟨by kernel_rfl, by kernel_rfl⟩
instance : Ty Tryz.prog 152 (.func #[9] #[] false) 1 8 (.nilFunc) := ⟨by kernel_rfl, by kernel_rfl⟩
instance : Ty Tryz.prog 153 (.func #[129] #[129] false) 1 8 (.nilFunc) := ⟨by kernel_rfl, by kernel_rfl⟩
instance : Ty Tryz.prog 154 (.int .u64) 1 8 (.int .u64 0) := ⟨by kernel_rfl, by kernel_rfl⟩
instance : Ty Tryz.prog 155 (.pointer 132) 1 8 (.pointer none) := ⟨by kernel_rfl, by kernel_rfl⟩
instance : Ty Tryz.prog 156 (.func #[] #[129] false) 1 8 (.nilFunc) := ⟨by kernel_rfl, by kernel_rfl⟩
instance : Ty Tryz.prog 157 (.func #[129] #[] false) 1 8 (.nilFunc) := ⟨by kernel_rfl, by kernel_rfl⟩
instance : Ty Tryz.prog 158 (.func #[148] #[] false) 1 8 (.nilFunc) := ⟨by kernel_rfl, by kernel_rfl⟩
instance : Ty Tryz.prog 159 (.func #[155, 4, 3] #[] false) 1 8 (.nilFunc) := ⟨by kernel_rfl, by kernel_rfl⟩
instance : Ty Tryz.prog 160 (.func #[148] #[4] false) 1 8 (.nilFunc) := ⟨by kernel_rfl, by kernel_rfl⟩
instance : Ty Tryz.prog 161 (.func #[129, 129] #[4] false) 1 8 (.nilFunc) := ⟨by kernel_rfl, by kernel_rfl⟩
instance : Ty Tryz.prog 162 (.func #[155, 4] #[] false) 1 8 (.nilFunc) := ⟨by kernel_rfl, by kernel_rfl⟩
instance : Ty Tryz.prog 163 (.struct fs163) 2 16 (.agg #[(.int .i64 0), (.int .i64 0)]) := ⟨by kernel_rfl, by kernel_rfl⟩
instance : Flds Tryz.prog 163 [⟨3, false, 0, 1⟩, ⟨3, false, 1, 1⟩] := ⟨by kernel_rfl⟩
instance : Ty Tryz.prog 164 (.struct fs163) 2 16 (.agg #[(.int .i64 0), (.int .i64 0)]) := ⟨by kernel_rfl, by kernel_rfl⟩
instance : Flds Tryz.prog 164 [⟨3, false, 0, 1⟩, ⟨3, false, 1, 1⟩] := ⟨by kernel_rfl⟩
instance : Ty Tryz.prog 166 (.func #[25, 3] #[164, 4] false) 1 8 (.nilFunc) := ⟨by kernel_rfl, by kernel_rfl⟩
instance : Ty Tryz.prog 167 (.struct fs167) 3 24 (.agg #[(.int .i64 0), (.int .i64 0), (.int .i64 0)]) := ⟨by kernel_rfl, by kernel_rfl⟩
instance : Flds Tryz.prog 167 [⟨3, false, 0, 1⟩, ⟨3, false, 1, 1⟩, ⟨3, false, 2, 1⟩] := ⟨by kernel_rfl⟩
instance : Ty Tryz.prog 168 (.struct fs167) 3 24 (.agg #[(.int .i64 0), (.int .i64 0), (.int .i64 0)]) := ⟨by kernel_rfl, by kernel_rfl⟩
instance : Flds Tryz.prog 168 [⟨3, false, 0, 1⟩, ⟨3, false, 1, 1⟩, ⟨3, false, 2, 1⟩] := ⟨by kernel_rfl⟩
instance : Ty Tryz.prog 169 (.struct fs169) 4 32 (.agg #[(.int .i64 0), (.int .i64 0), (.int .i64 0), (.int .i64 0)]) := ⟨by kernel_rfl, by kernel_rfl⟩
instance : Flds Tryz.prog 169 [⟨168, true, 0, 3⟩, ⟨3, false, 3, 1⟩] := ⟨by kernel_rfl⟩
instance : Ty Tryz.prog 170 (.struct fs169) 4 32 (.agg #[(.int .i64 0), (.int .i64 0), (.int .i64 0), (.int .i64 0)]) := ⟨by kernel_rfl, by kernel_rfl⟩
instance : Flds Tryz.prog 170 [⟨168, true, 0, 3⟩, ⟨3, false, 3, 1⟩] := ⟨by kernel_rfl⟩
instance : Ty Tryz.prog 171 (.slice 170) 1 24 (.slice none 0 0) := ⟨by kernel_rfl, by kernel_rfl⟩
instance : Ty Tryz.prog 172 (.func #[3, 3, 3] #[] false) 1 8 (.nilFunc) := ⟨by kernel_rfl, by kernel_rfl⟩
instance : Ty Tryz.prog 173 (.struct fs173) 4 32 (.agg #[(.int .i64 0), (.int .i64 0), (.int .i64 0), (.int .i64 0)]) := ⟨by kernel_rfl, by kernel_rfl⟩
instance : Flds Tryz.prog 173 [⟨3, false, 0, 1⟩, ⟨3, false, 1, 1⟩, ⟨3, false, 2, 1⟩, ⟨3, false, 3, 1⟩] := ⟨by kernel_rfl⟩
instance : Ty Tryz.prog 174 (.struct fs173) 4 32 (.agg #[(.int .i64 0), (.int .i64 0), (.int .i64 0), (.int .i64 0)]) := ⟨by kernel_rfl, by kernel_rfl⟩
instance : Flds Tryz.prog 174 [⟨3, false, 0, 1⟩, ⟨3, false, 1, 1⟩, ⟨3, false, 2, 1⟩, ⟨3, false, 3, 1⟩] := ⟨by kernel_rfl⟩
instance : Ty Tryz.prog 175 (.func #[3, 3] #[174] false) 1 8 (.nilFunc) := ⟨by kernel_rfl, by kernel_rfl⟩
instance : Ty Tryz.prog 176 (.func #[25, 3, 3, 3] #[170] false) 1 8 (.nilFunc) := ⟨by kernel_rfl, by kernel_rfl⟩
instance : Ty Tryz.prog 177 (.func #[3, 3] #[3] false) 1 8 (.nilFunc) := ⟨by kernel_rfl, by kernel_rfl⟩
instance : Ty Tryz.prog 178 (.pointer 131) 1 8 (.pointer none) := ⟨by kernel_rfl, by kernel_rfl⟩
instance : Ty Tryz.prog 179 (.func #[180, 129] #[129] false) 1 8 (.nilFunc) := ⟨by kernel_rfl, by kernel_rfl⟩
instance : Ty Tryz.prog 180 (.pointer 129) 1 8 (.pointer none) := ⟨by kernel_rfl, by kernel_rfl⟩
instance : Ty Tryz.prog 181 (.func #[180] #[129] false) 1 8 (.nilFunc) := ⟨by kernel_rfl, by kernel_rfl⟩
instance : Ty Tryz.prog 182 (.func #[180, 129] #[] false) 1 8 (.nilFunc) := ⟨by kernel_rfl, by kernel_rfl⟩
instance : Ty Tryz.prog 183 (.func #[180, 129, 129] #[4] false) 1 8 (.nilFunc) := ⟨by kernel_rfl, by kernel_rfl⟩
instance : Ty Tryz.prog 184 (.slice 164) 1 24 (.slice none 0 0) := ⟨by kernel_rfl, by kernel_rfl⟩
instance : Ty Tryz.prog 185 (.func #[25, 186] #[184] false) 1 8 (.nilFunc) := ⟨by kernel_rfl, by kernel_rfl⟩
instance : Ty Tryz.prog 186 (.func #[3, 164] #[164] false) 1 8 (.nilFunc) := ⟨by kernel_rfl, by kernel_rfl⟩
instance : Ty Tryz.prog 187 (.pointer 142) 1 8 (.pointer none) := ⟨by kernel_rfl, by kernel_rfl⟩
instance : Ty Tryz.prog 188 (.func #[3] #[174] false) 1 8 (.nilFunc) := ⟨by kernel_rfl, by kernel_rfl⟩
instance : Ty Tryz.prog 189 (.array 8 188) 8 64 (.agg #[.nilFunc, .nilFunc, .nilFunc, .nilFunc, .nilFunc, .nilFunc, .nilFunc, .nilFunc]) := ⟨by kernel_rfl, by kernel_rfl⟩
instance : Ty Tryz.prog 190 (.func #[25, 3, 3] #[164, 4] false) 1 8 (.nilFunc) := ⟨by kernel_rfl, by kernel_rfl⟩
instance : Ty Tryz.prog 191 (.func #[25, 3, 3] #[3] false) 1 8 (.nilFunc) := ⟨by kernel_rfl, by kernel_rfl⟩
instance : Ty Tryz.prog 192 (.func #[3] #[4] false) 1 8 (.nilFunc) := ⟨by kernel_rfl, by kernel_rfl⟩
instance : Ty Tryz.prog 193 (.array 4 3) 4 32 (.agg #[(.int .i64 0), (.int .i64 0), (.int .i64 0), (.int .i64 0)]) := ⟨by kernel_rfl, by kernel_rfl⟩
instance : Ty Tryz.prog 194 (.func #[197] #[3, 4] false) 1 8 (.nilFunc) := ⟨by kernel_rfl, by kernel_rfl⟩
instance : Ty Tryz.prog 195 (.func #[] #[3, 4] false) 1 8 (.nilFunc) := ⟨by kernel_rfl, by kernel_rfl⟩
instance : Ty Tryz.prog 196 (.struct fs196) 3 40 (.agg #[(.int .i64 0), (.slice none 0 0), (.int .i64 0)]) := ⟨by kernel_rfl, by kernel_rfl⟩
instance : Flds Tryz.prog 196 [⟨25, true, 0, 2⟩, ⟨3, false, 2, 1⟩] := ⟨by kernel_rfl⟩
instance : Ty Tryz.prog 197 (.struct fs196) 3 40 (.agg #[(.int .i64 0), (.slice none 0 0), (.int .i64 0)]) := ⟨by kernel_rfl, by kernel_rfl⟩
instance : Flds Tryz.prog 197 [⟨25, true, 0, 2⟩, ⟨3, false, 2, 1⟩] := ⟨by kernel_rfl⟩
instance : Ty Tryz.prog 198 (.array 4 194) 4 32 (.agg #[.nilFunc, .nilFunc, .nilFunc, .nilFunc]) := ⟨by kernel_rfl, by kernel_rfl⟩
instance : Ty Tryz.prog 200 (.slice 4) 1 24 (.slice none 0 0) := ⟨by kernel_rfl, by kernel_rfl⟩
instance : Ty Tryz.prog 201 (.func #[25, 202] #[200] false) 1 8 (.nilFunc) := ⟨by kernel_rfl, by kernel_rfl⟩
instance : Ty Tryz.prog 202 (.func #[3, 164] #[4] false) 1 8 (.nilFunc) := ⟨by kernel_rfl, by kernel_rfl⟩
instance : Ty Tryz.prog 203 (.func #[] #[9] false) 1 8 (.nilFunc) := ⟨by kernel_rfl, by kernel_rfl⟩
instance : Ty Tryz.prog 204 (.struct fs204) 4 40 (.agg #[(.pointer none), (.pointer none), (.pointer none), (.string ⟨#[]⟩)]) := ⟨by kernel_rfl, by kernel_rfl⟩
instance : Flds Tryz.prog 204 [⟨17, false, 0, 1⟩, ⟨17, false, 1, 1⟩, ⟨17, false, 2, 1⟩, ⟨9, false, 3, 1⟩] := ⟨by kernel_rfl⟩
instance : Ty Tryz.prog 205 (.struct fs204) 4 40 (.agg #[(.pointer none), (.pointer none), (.pointer none), (.string ⟨#[]⟩)]) := ⟨by kernel_rfl, by kernel_rfl⟩
instance : Flds Tryz.prog 205 [⟨17, false, 0, 1⟩, ⟨17, false, 1, 1⟩, ⟨17, false, 2, 1⟩, ⟨9, false, 3, 1⟩] := ⟨by kernel_rfl⟩
instance : Ty Tryz.prog 206 (.array 0 16) 0 0 (.agg #[]) := ⟨by kernel_rfl, by kernel_rfl⟩
instance : Ty Tryz.prog 207 (.struct fs207) 0 0 (.agg #[]) := ⟨by kernel_rfl, by kernel_rfl⟩
instance : Flds Tryz.prog 207 [⟨206, true, 0, 0⟩] := ⟨by kernel_rfl⟩
instance : Ty Tryz.prog 208 (.struct fs207) 0 0 (.agg #[]) := ⟨by kernel_rfl, by kernel_rfl⟩
instance : Flds Tryz.prog 208 [⟨206, true, 0, 0⟩] := ⟨by kernel_rfl⟩
instance : Ty Tryz.prog 209 (.func #[] #[3] false) 1 8 (.nilFunc) := ⟨by kernel_rfl, by kernel_rfl⟩
instance : Ty Tryz.prog 210 (.func #[] #[17] false) 1 8 (.nilFunc) := ⟨by kernel_rfl, by kernel_rfl⟩
instance : Ty Tryz.prog 211 (.int .u8) 1 1 (.int .u8 0) := ⟨by kernel_rfl, by kernel_rfl⟩
instance : Ty Tryz.prog 212 (.func #[80, 80] #[4] false) 1 8 (.nilFunc) := ⟨by kernel_rfl, by kernel_rfl⟩
instance : Ty Tryz.prog 213 (.pointer 5) 1 8 (.pointer none) := ⟨by kernel_rfl, by kernel_rfl⟩
instance : Ty Tryz.prog 214 (.int .i32) 1 4 (.int .i32 0) := ⟨by kernel_rfl, by kernel_rfl⟩
instance : Ty Tryz.prog 215 (.int .i32) 1 4 (.int .i32 0) := ⟨by kernel_rfl, by kernel_rfl⟩
instance : Ty Tryz.prog 216 (.struct fs216) 11 48 (.agg #[(.int .u64 0), (.int .u64 0), (.int .u32 0), (.int .u8 0), (.int .u8 0), (.int .u8 0), (.int .u8 0), .nilFunc, (.pointer none), (.int .i32 0), (.int .i32 0)]) := ⟨by kernel_rfl, by kernel_rfl⟩
instance : Flds Tryz.prog 216 [⟨12, false, 0, 1⟩, ⟨12, false, 1, 1⟩, ⟨132, false, 2, 1⟩, ⟨211, false, 3, 1⟩, ⟨5, false, 4, 1⟩, ⟨5, false, 5, 1⟩, ⟨88, false, 6, 1⟩, ⟨212, false, 7, 1⟩, ⟨213, false, 8, 1⟩, ⟨214, false, 9, 1⟩, ⟨215, false, 10, 1⟩] := ⟨by kernel_rfl⟩
instance : Ty Tryz.prog 217 (.struct fs216) 11 48 (.agg #[(.int .u64 0), (.int .u64 0), (.int .u32 0), (.int .u8 0), (.int .u8 0), (.int .u8 0), (.int .u8 0), .nilFunc, (.pointer none), (.int .i32 0), (.int .i32 0)]) := ⟨by kernel_rfl, by kernel_rfl⟩
instance : Flds Tryz.prog 217 [⟨12, false, 0, 1⟩, ⟨12, false, 1, 1⟩, ⟨132, false, 2, 1⟩, ⟨211, false, 3, 1⟩, ⟨5, false, 4, 1⟩, ⟨5, false, 5, 1⟩, ⟨88, false, 6, 1⟩, ⟨212, false, 7, 1⟩, ⟨213, false, 8, 1⟩, ⟨214, false, 9, 1⟩, ⟨215, false, 10, 1⟩] := ⟨by kernel_rfl⟩
instance : Ty Tryz.prog 218 (.func #[] #[12] false) 1 8 (.nilFunc) := ⟨by kernel_rfl, by kernel_rfl⟩
instance : Ty Tryz.prog 219 (.func #[] #[222] false) 1 8 (.nilFunc) := ⟨by kernel_rfl, by kernel_rfl⟩
instance : Ty Tryz.prog 220 (.struct fs220) 2 24 (.agg #[(.string ⟨#[]⟩), (.int .u8 0)]) := ⟨by kernel_rfl, by kernel_rfl⟩
instance : Flds Tryz.prog 220 [⟨9, false, 0, 1⟩, ⟨88, false, 1, 1⟩] := ⟨by kernel_rfl⟩
instance : Ty Tryz.prog 221 (.struct fs220) 2 24 (.agg #[(.string ⟨#[]⟩), (.int .u8 0)]) := ⟨by kernel_rfl, by kernel_rfl⟩
instance : Flds Tryz.prog 221 [⟨9, false, 0, 1⟩, ⟨88, false, 1, 1⟩] := ⟨by kernel_rfl⟩
instance : Ty Tryz.prog 222 (.pointer 226) 1 8 (.pointer none) := ⟨by kernel_rfl, by kernel_rfl⟩
instance : Ty Tryz.prog 223 (.func #[] #[227] false) 1 8 (.nilFunc) := ⟨by kernel_rfl, by kernel_rfl⟩
instance : Ty Tryz.prog 224 (.int .u16) 1 2 (.int .u16 0) := ⟨by kernel_rfl, by kernel_rfl⟩
instance : Ty Tryz.prog 225 (.struct fs225) 5 16 (.agg #[(.int .i32 0), (.int .u16 0), (.int .u16 0), (.int .u32 0), (.int .u32 0)]) := ⟨by kernel_rfl, by kernel_rfl⟩
instance : Flds Tryz.prog 225 [⟨214, false, 0, 1⟩, ⟨224, false, 1, 1⟩, ⟨224, false, 2, 1⟩, ⟨132, false, 3, 1⟩, ⟨132, false, 4, 1⟩] := ⟨by kernel_rfl⟩
instance : Ty Tryz.prog 226 (.struct fs225) 5 16 (.agg #[(.int .i32 0), (.int .u16 0), (.int .u16 0), (.int .u32 0), (.int .u32 0)]) := ⟨by kernel_rfl, by kernel_rfl⟩
instance : Flds Tryz.prog 226 [⟨214, false, 0, 1⟩, ⟨224, false, 1, 1⟩, ⟨224, false, 2, 1⟩, ⟨132, false, 3, 1⟩, ⟨132, false, 4, 1⟩] := ⟨by kernel_rfl⟩
instance : Ty Tryz.prog 227 (.slice 230) 1 24 (.slice none 0 0) := ⟨by kernel_rfl, by kernel_rfl⟩
instance : Ty Tryz.prog 228 (.int .i32) 1 4 (.int .i32 0) := ⟨by kernel_rfl, by kernel_rfl⟩
instance : Ty Tryz.prog 229 (.struct fs229) 4 16 (.agg #[(.int .i32 0), (.int .i32 0), (.int .i32 0), (.int .i32 0)]) := ⟨by kernel_rfl, by kernel_rfl⟩
instance : Flds Tryz.prog 229 [⟨214, false, 0, 1⟩, ⟨215, false, 1, 1⟩, ⟨228, false, 2, 1⟩, ⟨228, false, 3, 1⟩] := ⟨by kernel_rfl⟩
instance : Ty Tryz.prog 230 (.struct fs229) 4 16 (.agg #[(.int .i32 0), (.int .i32 0), (.int .i32 0), (.int .i32 0)]) := ⟨by kernel_rfl, by kernel_rfl⟩
instance : Flds Tryz.prog 230 [⟨214, false, 0, 1⟩, ⟨215, false, 1, 1⟩, ⟨228, false, 2, 1⟩, ⟨228, false, 3, 1⟩] := ⟨by kernel_rfl⟩
instance : Ty Tryz.prog 231 (.pointer 57) 1 8 (.pointer none) := ⟨by kernel_rfl, by kernel_rfl⟩
instance : Fun Tryz.prog 3 := ⟨by kernel_rfl⟩ -- loop.example/lucarne/laws.FnKeepNew
instance : Fun Tryz.prog 4 := ⟨by kernel_rfl⟩ -- loop.example/lucarne/spec.DrawKeepNew
instance : Fun Tryz.prog 5 := ⟨by kernel_rfl⟩ -- loop.example/lucarne/spec.KeepNew
instance : Fun Tryz.prog 6 := ⟨by kernel_rfl⟩ -- loop.example/lucarne/impl.KeepNew
instance : Fun Tryz.prog 7 := ⟨by kernel_rfl⟩ -- loop.example/lucarne/laws.llKeeper
instance : Fun Tryz.prog 8 := ⟨by kernel_rfl⟩ -- loop.example/lucarne/impl.KeepGrid
instance : Fun Tryz.prog 9 := ⟨by kernel_rfl⟩ -- loop.example/lucarne/laws.llGrid
instance : Fun Tryz.prog 10 := ⟨by kernel_rfl⟩ -- loop.example/lucarne/impl.KeepOk
instance : Fun Tryz.prog 11 := ⟨by kernel_rfl⟩ -- loop.example/lucarne/spec.l6Open
instance : Fun Tryz.prog 12 := ⟨by kernel_rfl⟩ -- loop.example/lucarne/spec.l71Some
instance : Fun Tryz.prog 13 := ⟨by kernel_rfl⟩ -- (*loop.example/lucarne/spec.l6Rd).pick
instance : Fun Tryz.prog 14 := ⟨by kernel_rfl⟩ -- loop.example/lucarne/spec.GridOk
instance : Fun Tryz.prog 15 := ⟨by kernel_rfl⟩ -- loop.example/lucarne/spec.l6In
instance : Fun Tryz.prog 16 := ⟨by kernel_rfl⟩ -- loop.example/lucarne/spec.l1Copy
instance : Fun Tryz.prog 17 := ⟨by kernel_rfl⟩ -- loop.example/lucarne/impl.GridOk
instance : Fun Tryz.prog 18 := ⟨by kernel_rfl⟩ -- loop.example/lucarne/impl.gridCopy
instance : Fun Tryz.prog 19 := ⟨by kernel_rfl⟩ -- loop.example/lucarne/laws.llEdits
instance : Fun Tryz.prog 20 := ⟨by kernel_rfl⟩ -- loop.example/lucarne/laws.llInts
instance : Fun Tryz.prog 21 := ⟨by kernel_rfl⟩ -- loop.example/lucarne/impl.refused
instance : Fun Tryz.prog 22 := ⟨by kernel_rfl⟩ -- loop.example/lucarne/impl.keepVersion
instance : Fun Tryz.prog 23 := ⟨by kernel_rfl⟩ -- loop.example/lucarne/impl.keepGridOf
instance : Fun Tryz.prog 24 := ⟨by kernel_rfl⟩ -- loop.example/lucarne/impl.keepCheck
instance : Fun Tryz.prog 25 := ⟨by kernel_rfl⟩ -- loop.example/lucarne/spec.l71Grid
instance : Fun Tryz.prog 26 := ⟨by kernel_rfl⟩ -- loop.example/lucarne/spec.l71Off
instance : Fun Tryz.prog 27 := ⟨by kernel_rfl⟩ -- loop.example/lucarne/spec.CellOk
instance : Fun Tryz.prog 28 := ⟨by kernel_rfl⟩ -- loop.example/lucarne/impl.CellOk
instance : Fun Tryz.prog 29 := ⟨by kernel_rfl⟩ -- slices.Clone[[]loop.example/lucarne/impl.Cell,loop.example/lucarne/impl.Cell]
instance : Fun Tryz.prog 30 := ⟨by kernel_rfl⟩ -- errors.As
instance : Fun Tryz.prog 31 := ⟨by kernel_rfl⟩ -- loop.example/lucarne/impl.editsOk
instance : Fun Tryz.prog 32 := ⟨by kernel_rfl⟩ -- loop.example/lucarne/impl.partCheck
instance : Fun Tryz.prog 33 := ⟨by kernel_rfl⟩ -- slices.Equal[[]int,int]
instance : Fun Tryz.prog 34 := ⟨by kernel_rfl⟩ -- loop.example/lucarne/impl.PicOf
instance : Fun Tryz.prog 35 := ⟨by kernel_rfl⟩ -- loop.example/lucarne/spec.l71Cell
instance : Fun Tryz.prog 36 := ⟨by kernel_rfl⟩ -- loop.example/lucarne/impl.cellTyped
instance : Fun Tryz.prog 40 := ⟨by kernel_rfl⟩ -- errors.as
instance : Fun Tryz.prog 41 := ⟨by kernel_rfl⟩ -- loop.example/lucarne/impl.editOk
instance : Fun Tryz.prog 42 := ⟨by kernel_rfl⟩ -- loop.example/lucarne/impl.partOf
instance : Fun Tryz.prog 43 := ⟨by kernel_rfl⟩ -- loop.example/lucarne/impl.sidesComputed[int]
instance : Fun Tryz.prog 44 := ⟨by kernel_rfl⟩ -- loop.example/lucarne/impl.PicOf$1
instance : Fun Tryz.prog 45 := ⟨by kernel_rfl⟩ -- loop.example/lucarne/impl.TrailLight
instance : Fun Tryz.prog 49 := ⟨by kernel_rfl⟩ -- loop.example/lucarne/impl.PaintOwn
instance : Fun Tryz.prog 50 := ⟨by kernel_rfl⟩ -- loop.example/lucarne/impl.sideStarts
instance : Fun Tryz.prog 52 := ⟨by kernel_rfl⟩ -- loop.example/lucarne/impl.sidesComputed[int]$1
instance : Fun Tryz.prog 55 := ⟨by kernel_rfl⟩ -- loop.example/lucarne/impl.trailOf
instance : Fun Tryz.prog 56 := ⟨by kernel_rfl⟩ -- loop.example/lucarne/impl.paintIdOk
instance : Fun Tryz.prog 57 := ⟨by kernel_rfl⟩ -- loop.example/lucarne/impl.SightMany
instance : Fun Tryz.prog 58 := ⟨by kernel_rfl⟩ -- loop.example/lucarne/impl.gridRows
instance : Fun Tryz.prog 77 := ⟨by kernel_rfl⟩ -- loop.example/lucarne/impl.SightRay
instance : Fun Tryz.prog 78 := ⟨by kernel_rfl⟩ -- (*loop.example/lucarne/impl.trail).end
instance : Fun Tryz.prog 79 := ⟨by kernel_rfl⟩ -- loop.example/lucarne/impl.spreadOf
instance : Fun Tryz.prog 80 := ⟨by kernel_rfl⟩ -- loop.example/lucarne/impl.beamFrom
instance : Fun Tryz.prog 81 := ⟨by kernel_rfl⟩ -- loop.example/lucarne/impl.DirTurn
instance : Fun Tryz.prog 87 := ⟨by kernel_rfl⟩ -- loop.example/lucarne/impl.sidesTold[loop.example/lucarne/impl.Ray]
instance : Fun Tryz.prog 88 := ⟨by kernel_rfl⟩ -- loop.example/lucarne/impl.SightRay$1
instance : Fun Tryz.prog 89 := ⟨by kernel_rfl⟩ -- loop.example/lucarne/impl.spreadOf$1
instance : Fun Tryz.prog 90 := ⟨by kernel_rfl⟩ -- loop.example/lucarne/impl.spreadOf$2
instance : Fun Tryz.prog 91 := ⟨by kernel_rfl⟩ -- loop.example/lucarne/impl.spreadOf$3
instance : Fun Tryz.prog 92 := ⟨by kernel_rfl⟩ -- loop.example/lucarne/impl.spreadOf$4
instance : Fun Tryz.prog 93 := ⟨by kernel_rfl⟩ -- loop.example/lucarne/impl.spreadOf$5
instance : Fun Tryz.prog 94 := ⟨by kernel_rfl⟩ -- loop.example/lucarne/impl.rayStep
instance : Fun Tryz.prog 95 := ⟨by kernel_rfl⟩ -- loop.example/lucarne/impl.SightOf
instance : Fun Tryz.prog 96 := ⟨by kernel_rfl⟩ -- loop.example/lucarne/impl.dirOk
instance : Fun Tryz.prog 97 := ⟨by kernel_rfl⟩ -- (loop.example/lucarne/impl.spot).up
instance : Fun Tryz.prog 98 := ⟨by kernel_rfl⟩ -- (loop.example/lucarne/impl.spot).right
instance : Fun Tryz.prog 99 := ⟨by kernel_rfl⟩ -- (loop.example/lucarne/impl.spot).down
instance : Fun Tryz.prog 100 := ⟨by kernel_rfl⟩ -- (loop.example/lucarne/impl.spot).left
instance : Fun Tryz.prog 101 := ⟨by kernel_rfl⟩ -- loop.example/lucarne/impl.dirOpposite
instance : Fun Tryz.prog 102 := ⟨by kernel_rfl⟩ -- loop.example/lucarne/impl.sidesTold[bool]
instance : Fun Tryz.prog 103 := ⟨by kernel_rfl⟩ -- loop.example/lucarne/impl.SightOf$1
instance : Mixed Tryz.prog := ⟨by kernel_rfl⟩
end Go.Proofs.YtcefbjpebgofjaaGreatDoor

/- Walks of the seat: T GA K1 K2 LA LB LC LD ER ES KE Wg. -/
import Derived.Test.YtekjikbaefgncaaGreatDoorSmE
import Derived.Test.YtekjikbaefgncaaGreatDoorProg
import Derived.KernelRfl
import Derived.Test.YtekjikbaefgncaaGreatDoorSmH
import Derived.Test.YtekjikbaefgncaaGreatDoorSmZ
import Derived.Test.YtekjikbaefgncaaGreatDoorLibC
import Derived.Test.YtekjikbaefgncaaGreatDoorSmX
import Derived.Test.YtekjikbaefgncaaGreatDoorSmR
import Derived.Test.YtekjikbaefgncaaGreatDoorLibD
import Derived.Conc.WgLib
set_option linter.unusedVariables false
set_option linter.unusedSimpArgs false
set_option linter.unusedSectionVars false
/- The types of this translation, as the rules on operations ask for them. Printed by program. -/
namespace Go.Proofs.YtekjikbaefgncaaGreatDoor
open Go Go.Sl

noncomputable def fs7 : Array Field := match Tryz.prog.underlying 7 with | some (.struct fs) => fs | _ => #[]
noncomputable def fs13 : Array Field := match Tryz.prog.underlying 13 with | some (.struct fs) => fs | _ => #[]
noncomputable def fs18 : Array Field := match Tryz.prog.underlying 18 with | some (.struct fs) => fs | _ => #[]
noncomputable def im20 : Array (String × TypeId) := match Tryz.prog.underlying 20 with | some (.interface ms) => ms | _ => #[]
noncomputable def fs23 : Array Field := match Tryz.prog.underlying 23 with | some (.struct fs) => fs | _ => #[]
noncomputable def fs28 : Array Field := match Tryz.prog.underlying 28 with | some (.struct fs) => fs | _ => #[]
noncomputable def fs33 : Array Field := match Tryz.prog.underlying 33 with | some (.struct fs) => fs | _ => #[]
noncomputable def fs38 : Array Field := match Tryz.prog.underlying 38 with | some (.struct fs) => fs | _ => #[]
noncomputable def fs54 : Array Field := match Tryz.prog.underlying 54 with | some (.struct fs) => fs | _ => #[]
noncomputable def fs66 : Array Field := match Tryz.prog.underlying 66 with | some (.struct fs) => fs | _ => #[]
noncomputable def fs68 : Array Field := match Tryz.prog.underlying 68 with | some (.struct fs) => fs | _ => #[]
noncomputable def fs71 : Array Field := match Tryz.prog.underlying 71 with | some (.struct fs) => fs | _ => #[]
noncomputable def fs79 : Array Field := match Tryz.prog.underlying 79 with | some (.struct fs) => fs | _ => #[]
noncomputable def fs82 : Array Field := match Tryz.prog.underlying 82 with | some (.struct fs) => fs | _ => #[]
noncomputable def fs84 : Array Field := match Tryz.prog.underlying 84 with | some (.struct fs) => fs | _ => #[]
noncomputable def fs89 : Array Field := match Tryz.prog.underlying 89 with | some (.struct fs) => fs | _ => #[]
noncomputable def fs99 : Array Field := match Tryz.prog.underlying 99 with | some (.struct fs) => fs | _ => #[]
noncomputable def fs112 : Array Field := match Tryz.prog.underlying 112 with | some (.struct fs) => fs | _ => #[]
noncomputable def fs116 : Array Field := match Tryz.prog.underlying 116 with | some (.struct fs) => fs | _ => #[]
noncomputable def im124 : Array (String × TypeId) := match Tryz.prog.underlying 124 with | some (.interface ms) => ms | _ => #[]
noncomputable def fs166 : Array Field := match Tryz.prog.underlying 166 with | some (.struct fs) => fs | _ => #[]
noncomputable def fs168 : Array Field := match Tryz.prog.underlying 168 with | some (.struct fs) => fs | _ => #[]
noncomputable def fs184 : Array Field := match Tryz.prog.underlying 184 with | some (.struct fs) => fs | _ => #[]
noncomputable def fs191 : Array Field := match Tryz.prog.underlying 191 with | some (.struct fs) => fs | _ => #[]
noncomputable def fs199 : Array Field := match Tryz.prog.underlying 199 with | some (.struct fs) => fs | _ => #[]
noncomputable def fs201 : Array Field := match Tryz.prog.underlying 201 with | some (.struct fs) => fs | _ => #[]
noncomputable def fs212 : Array Field := match Tryz.prog.underlying 212 with | some (.struct fs) => fs | _ => #[]
noncomputable def fs214 : Array Field := match Tryz.prog.underlying 214 with | some (.struct fs) => fs | _ => #[]
noncomputable def fs223 : Array Field := match Tryz.prog.underlying 223 with | some (.struct fs) => fs | _ => #[]
noncomputable def fs225 : Array Field := match Tryz.prog.underlying 225 with | some (.struct fs) => fs | _ => #[]
noncomputable def fs231 : Array Field := match Tryz.prog.underlying 231 with | some (.struct fs) => fs | _ => #[]
noncomputable def im234 : Array (String × TypeId) := match Tryz.prog.underlying 234 with | some (.interface ms) => ms | _ => #[]
noncomputable def fs256 : Array Field := match Tryz.prog.underlying 256 with | some (.struct fs) => fs | _ => #[]
noncomputable def fs259 : Array Field := match Tryz.prog.underlying 259 with | some (.struct fs) => fs | _ => #[]
noncomputable def im265 : Array (String × TypeId) := match Tryz.prog.underlying 265 with | some (.interface ms) => ms | _ => #[]
noncomputable def im268 : Array (String × TypeId) := match Tryz.prog.underlying 268 with | some (.interface ms) => ms | _ => #[]
noncomputable def im270 : Array (String × TypeId) := match Tryz.prog.underlying 270 with | some (.interface ms) => ms | _ => #[]
noncomputable def im273 : Array (String × TypeId) := match Tryz.prog.underlying 273 with | some (.interface ms) => ms | _ => #[]
noncomputable def fs280 : Array Field := match Tryz.prog.underlying 280 with | some (.struct fs) => fs | _ => #[]
noncomputable def fs285 : Array Field := match Tryz.prog.underlying 285 with | some (.struct fs) => fs | _ => #[]
noncomputable def fs288 : Array Field := match Tryz.prog.underlying 288 with | some (.struct fs) => fs | _ => #[]
noncomputable def fs290 : Array Field := match Tryz.prog.underlying 290 with | some (.struct fs) => fs | _ => #[]
noncomputable def fs293 : Array Field := match Tryz.prog.underlying 293 with | some (.struct fs) => fs | _ => #[]
noncomputable def fs306 : Array Field := match Tryz.prog.underlying 306 with | some (.struct fs) => fs | _ => #[]
noncomputable def fs332 : Array Field := match Tryz.prog.underlying 332 with | some (.struct fs) => fs | _ => #[]
noncomputable def fs335 : Array Field := match Tryz.prog.underlying 335 with | some (.struct fs) => fs | _ => #[]
noncomputable def fs341 : Array Field := match Tryz.prog.underlying 341 with | some (.struct fs) => fs | _ => #[]
noncomputable def fs368 : Array Field := match Tryz.prog.underlying 368 with | some (.struct fs) => fs | _ => #[]
noncomputable def fs398 : Array Field := match Tryz.prog.underlying 398 with | some (.struct fs) => fs | _ => #[]
noncomputable def fs401 : Array Field := match Tryz.prog.underlying 401 with | some (.struct fs) => fs | _ => #[]
noncomputable def fs410 : Array Field := match Tryz.prog.underlying 410 with | some (.struct fs) => fs | _ => #[]
noncomputable def fs414 : Array Field := match Tryz.prog.underlying 414 with | some (.struct fs) => fs | _ => #[]
noncomputable def fs419 : Array Field := match Tryz.prog.underlying 419 with | some (.struct fs) => fs | _ => #[]
noncomputable def fs423 : Array Field := match Tryz.prog.underlying 423 with | some (.struct fs) => fs | _ => #[]
instance : Ty Tryz.prog 1 (.func #[] #[] false) 1 8 (.nilFunc) := ⟨by kernel_rfl, by kernel_rfl⟩
instance : Ty Tryz.prog 2 (.int .i64) 1 8 (.int .i64 0) := ⟨by kernel_rfl, by kernel_rfl⟩
instance : Ty Tryz.prog 3 (.int .i64) 1 8 (.int .i64 0) := ⟨by kernel_rfl, by kernel_rfl⟩
instance : Ty Tryz.prog 4 .bool 1 1 (.bool false) := ⟨by kernel_rfl, by kernel_rfl⟩
instance : Ty Tryz.prog 5 (.int .u8) 1 1 (.int .u8 0) := ⟨by kernel_rfl, by kernel_rfl⟩
instance : Ty Tryz.prog 6 (.int .u8) 1 1 (.int .u8 0) := ⟨by kernel_rfl, by kernel_rfl⟩
instance : Ty Tryz.prog 7 (.struct fs7) 4 24 (.agg #[(.int .i64 0), (.int .i64 0), (.bool false), (.int .u8 0)]) := ⟨by kernel_rfl, by kernel_rfl⟩
instance : Flds Tryz.prog 7 [⟨2, false, 0, 1⟩, ⟨3, false, 1, 1⟩, ⟨4, false, 2, 1⟩, ⟨6, false, 3, 1⟩] := ⟨by kernel_rfl⟩
instance : Ty Tryz.prog 8 (.struct fs7) 4 24 (.agg #[(.int .i64 0), (.int .i64 0), (.bool false), (.int .u8 0)]) := ⟨by kernel_rfl, by kernel_rfl⟩
instance : Flds Tryz.prog 8 [⟨2, false, 0, 1⟩, ⟨3, false, 1, 1⟩, ⟨4, false, 2, 1⟩, ⟨6, false, 3, 1⟩] := ⟨by kernel_rfl⟩
instance : Ty Tryz.prog 9 .string 1 16 (.string ⟨#[]⟩) := ⟨by kernel_rfl, by kernel_rfl⟩
instance : Ty Tryz.prog 10 .string 1 16 (.string ⟨#[]⟩) := ⟨by kernel_rfl, by kernel_rfl⟩
instance : Ty Tryz.prog 11 .string 1 16 (.string ⟨#[]⟩) := ⟨by kernel_rfl, by kernel_rfl⟩
instance : Ty Tryz.prog 12 (.int .u64) 1 8 (.int .u64 0) := ⟨by kernel_rfl, by kernel_rfl⟩
instance : Ty Tryz.prog 13 (.struct fs13) 2 24 (.agg #[(.string ⟨#[]⟩), (.int .u64 0)]) := ⟨by kernel_rfl, by kernel_rfl⟩
instance : Flds Tryz.prog 13 [⟨9, false, 0, 1⟩, ⟨12, false, 1, 1⟩] := ⟨by kernel_rfl⟩
instance : Ty Tryz.prog 14 (.struct fs13) 2 24 (.agg #[(.string ⟨#[]⟩), (.int .u64 0)]) := ⟨by kernel_rfl, by kernel_rfl⟩
instance : Flds Tryz.prog 14 [⟨9, false, 0, 1⟩, ⟨12, false, 1, 1⟩] := ⟨by kernel_rfl⟩
instance : Ty Tryz.prog 15 (.pointer 399) 1 8 (.pointer none) := ⟨by kernel_rfl, by kernel_rfl⟩
instance : Ty Tryz.prog 16 (.pointer 402) 1 8 (.pointer none) := ⟨by kernel_rfl, by kernel_rfl⟩
instance : Ty Tryz.prog 17 (.pointer 411) 1 8 (.pointer none) := ⟨by kernel_rfl, by kernel_rfl⟩
instance : Ty Tryz.prog 18 (.struct fs18) 1 8 (.agg #[(.pointer none)]) := ⟨by kernel_rfl, by kernel_rfl⟩
instance : Flds Tryz.prog 18 [⟨17, false, 0, 1⟩] := ⟨by kernel_rfl⟩
instance : Ty Tryz.prog 19 (.struct fs18) 1 8 (.agg #[(.pointer none)]) := ⟨by kernel_rfl, by kernel_rfl⟩
instance : Flds Tryz.prog 19 [⟨17, false, 0, 1⟩] := ⟨by kernel_rfl⟩
instance : Ty Tryz.prog 20 (.interface im20) 1 16 (.nilIface) := ⟨by kernel_rfl, by kernel_rfl⟩
instance : Ty Tryz.prog 21 (.int .i32) 1 4 (.int .i32 0) := ⟨by kernel_rfl, by kernel_rfl⟩
instance : Ty Tryz.prog 22 (.slice 81) 1 24 (.slice none 0 0) := ⟨by kernel_rfl, by kernel_rfl⟩
instance : Ty Tryz.prog 23 (.struct fs23) 2 32 (.agg #[(.int .i64 0), (.slice none 0 0)]) := ⟨by kernel_rfl, by kernel_rfl⟩
instance : Flds Tryz.prog 23 [⟨3, false, 0, 1⟩, ⟨22, false, 1, 1⟩] := ⟨by kernel_rfl⟩
instance : Ty Tryz.prog 24 (.struct fs23) 2 32 (.agg #[(.int .i64 0), (.slice none 0 0)]) := ⟨by kernel_rfl, by kernel_rfl⟩
instance : Flds Tryz.prog 24 [⟨3, false, 0, 1⟩, ⟨22, false, 1, 1⟩] := ⟨by kernel_rfl⟩
instance : Ty Tryz.prog 25 (.slice 83) 1 24 (.slice none 0 0) := ⟨by kernel_rfl, by kernel_rfl⟩
instance : Ty Tryz.prog 26 (.slice 175) 1 24 (.slice none 0 0) := ⟨by kernel_rfl, by kernel_rfl⟩
instance : Ty Tryz.prog 27 (.slice 177) 1 24 (.slice none 0 0) := ⟨by kernel_rfl, by kernel_rfl⟩
instance : Ty Tryz.prog 28 (.struct fs28) 5 104 (.agg #[(.int .i64 0), (.slice none 0 0), (.slice none 0 0), (.slice none 0 0), (.slice none 0 0)]) := ⟨by kernel_rfl, by kernel_rfl⟩
instance : Flds Tryz.prog 28 [⟨24, true, 0, 2⟩, ⟨25, false, 2, 1⟩, ⟨26, false, 3, 1⟩, ⟨27, false, 4, 1⟩] := ⟨by kernel_rfl⟩
instance : Ty Tryz.prog 29 (.struct fs28) 5 104 (.agg #[(.int .i64 0), (.slice none 0 0), (.slice none 0 0), (.slice none 0 0), (.slice none 0 0)]) := ⟨by kernel_rfl, by kernel_rfl⟩
instance : Flds Tryz.prog 29 [⟨24, true, 0, 2⟩, ⟨25, false, 2, 1⟩, ⟨26, false, 3, 1⟩, ⟨27, false, 4, 1⟩] := ⟨by kernel_rfl⟩
instance : Ty Tryz.prog 30 (.func #[29, 3] #[3] false) 1 8 (.nilFunc) := ⟨by kernel_rfl, by kernel_rfl⟩
instance : Ty Tryz.prog 31 (.func #[39] #[4] false) 1 8 (.nilFunc) := ⟨by kernel_rfl, by kernel_rfl⟩
instance : Ty Tryz.prog 32 (.slice 67) 1 24 (.slice none 0 0) := ⟨by kernel_rfl, by kernel_rfl⟩
instance : Ty Tryz.prog 33 (.struct fs33) 2 32 (.agg #[(.int .i64 0), (.slice none 0 0)]) := ⟨by kernel_rfl, by kernel_rfl⟩
instance : Flds Tryz.prog 33 [⟨3, false, 0, 1⟩, ⟨32, false, 1, 1⟩] := ⟨by kernel_rfl⟩
instance : Ty Tryz.prog 34 (.struct fs33) 2 32 (.agg #[(.int .i64 0), (.slice none 0 0)]) := ⟨by kernel_rfl, by kernel_rfl⟩
instance : Flds Tryz.prog 34 [⟨3, false, 0, 1⟩, ⟨32, false, 1, 1⟩] := ⟨by kernel_rfl⟩
instance : Ty Tryz.prog 35 (.slice 69) 1 24 (.slice none 0 0) := ⟨by kernel_rfl, by kernel_rfl⟩
instance : Ty Tryz.prog 36 (.slice 113) 1 24 (.slice none 0 0) := ⟨by kernel_rfl, by kernel_rfl⟩
instance : Ty Tryz.prog 37 (.slice 117) 1 24 (.slice none 0 0) := ⟨by kernel_rfl, by kernel_rfl⟩
instance : Ty Tryz.prog 38 (.struct fs38) 5 104 (.agg #[(.int .i64 0), (.slice none 0 0), (.slice none 0 0), (.slice none 0 0), (.slice none 0 0)]) := ⟨by kernel_rfl, by kernel_rfl⟩
instance : Flds Tryz.prog 38 [⟨34, true, 0, 2⟩, ⟨35, false, 2, 1⟩, ⟨36, false, 3, 1⟩, ⟨37, false, 4, 1⟩] := ⟨by kernel_rfl⟩
instance : Ty Tryz.prog 39 (.struct fs38) 5 104 (.agg #[(.int .i64 0), (.slice none 0 0), (.slice none 0 0), (.slice none 0 0), (.slice none 0 0)]) := ⟨by kernel_rfl, by kernel_rfl⟩
instance : Flds Tryz.prog 39 [⟨34, true, 0, 2⟩, ⟨35, false, 2, 1⟩, ⟨36, false, 3, 1⟩, ⟨37, false, 4, 1⟩] := ⟨by kernel_rfl⟩
instance : Ty Tryz.prog 40 (.func #[29] #[39] false) 1 8 (.nilFunc) := ⟨by kernel_rfl, by kernel_rfl⟩
instance : Ty Tryz.prog 41 (.func #[39, 39] #[4] false) 1 8 (.nilFunc) := ⟨by kernel_rfl, by kernel_rfl⟩
instance : Ty Tryz.prog 42 (.func #[29] #[4] false) 1 8 (.nilFunc) := ⟨by kernel_rfl, by kernel_rfl⟩
instance : Ty Tryz.prog 44 (.func #[39, 3] #[34, 4] false) 1 8 (.nilFunc) := ⟨by kernel_rfl, by kernel_rfl⟩
instance : Ty Tryz.prog 45 (.func #[34, 34] #[4] false) 1 8 (.nilFunc) := ⟨by kernel_rfl, by kernel_rfl⟩
instance : Ty Tryz.prog 46 (.func #[39, 3] #[3] false) 1 8 (.nilFunc) := ⟨by kernel_rfl, by kernel_rfl⟩
instance : Ty Tryz.prog 47 (.func #[34, 3] #[3] false) 1 8 (.nilFunc) := ⟨by kernel_rfl, by kernel_rfl⟩
instance : Ty Tryz.prog 48 (.func #[29, 3] #[4] false) 1 8 (.nilFunc) := ⟨by kernel_rfl, by kernel_rfl⟩
instance : Ty Tryz.prog 49 (.slice 85) 1 24 (.slice none 0 0) := ⟨by kernel_rfl, by kernel_rfl⟩
instance : Ty Tryz.prog 50 (.func #[24, 3] #[3] false) 1 8 (.nilFunc) := ⟨by kernel_rfl, by kernel_rfl⟩
instance : Ty Tryz.prog 51 (.func #[49, 3] #[3] false) 1 8 (.nilFunc) := ⟨by kernel_rfl, by kernel_rfl⟩
instance : Ty Tryz.prog 52 (.slice 169) 1 24 (.slice none 0 0) := ⟨by kernel_rfl, by kernel_rfl⟩
instance : Ty Tryz.prog 53 (.slice 72) 1 24 (.slice none 0 0) := ⟨by kernel_rfl, by kernel_rfl⟩
instance : Ty Tryz.prog 54 (.struct fs54) 7 152 (.agg #[(.int .i64 0), (.slice none 0 0), (.slice none 0 0), (.slice none 0 0), (.slice none 0 0), (.slice none 0 0), (.slice none 0 0)]) := ⟨by kernel_rfl, by kernel_rfl⟩
instance : Flds Tryz.prog 54 [⟨39, true, 0, 5⟩, ⟨52, false, 5, 1⟩, ⟨53, false, 6, 1⟩] := ⟨by kernel_rfl⟩
instance : Ty Tryz.prog 55 (.struct fs54) 7 152 (.agg #[(.int .i64 0), (.slice none 0 0), (.slice none 0 0), (.slice none 0 0), (.slice none 0 0), (.slice none 0 0), (.slice none 0 0)]) := ⟨by kernel_rfl, by kernel_rfl⟩
instance : Flds Tryz.prog 55 [⟨39, true, 0, 5⟩, ⟨52, false, 5, 1⟩, ⟨53, false, 6, 1⟩] := ⟨by kernel_rfl⟩
instance : Ty Tryz.prog 57 (.func #[34, 3, 59] #[55, 4] false) 1 8 (.nilFunc) := ⟨by kernel_rfl, by kernel_rfl⟩
instance : Ty Tryz.prog 58 (.func #[24] #[34] false) 1 8 (.nilFunc) := ⟨by kernel_rfl, by kernel_rfl⟩
instance : Ty Tryz.prog 59 (.slice 90) 1 24 (.slice none 0 0) := ⟨by kernel_rfl, by kernel_rfl⟩
instance : Ty Tryz.prog 60 (.func #[49] #[59] false) 1 8 (.nilFunc) := ⟨by kernel_rfl, by kernel_rfl⟩
instance : Ty Tryz.prog 61 (.func #[55, 55] #[4] false) 1 8 (.nilFunc) := ⟨by kernel_rfl, by kernel_rfl⟩
instance : Ty Tryz.prog 62 (.func #[59, 59] #[4] false) 1 8 (.nilFunc) := ⟨by kernel_rfl, by kernel_rfl⟩
instance : Ty Tryz.prog 63 (.func #[59, 3] #[3] false) 1 8 (.nilFunc) := ⟨by kernel_rfl, by kernel_rfl⟩
instance : Ty Tryz.prog 64 (.func #[55, 3] #[3] false) 1 8 (.nilFunc) := ⟨by kernel_rfl, by kernel_rfl⟩
instance : Ty Tryz.prog 65 (.func #[24, 3, 49] #[4] false) 1 8 (.nilFunc) := ⟨by kernel_rfl, by kernel_rfl⟩
instance : Ty Tryz.prog 66 (.struct fs66) 2 16 (.agg #[(.int .i64 0), (.int .i64 0)]) := ⟨by kernel_rfl, by kernel_rfl⟩
instance : Flds Tryz.prog 66 [⟨3, false, 0, 1⟩, ⟨3, false, 1, 1⟩] := ⟨by kernel_rfl⟩
instance : Ty Tryz.prog 67 (.struct fs66) 2 16 (.agg #[(.int .i64 0), (.int .i64 0)]) := ⟨by kernel_rfl, by kernel_rfl⟩
instance : Flds Tryz.prog 67 [⟨3, false, 0, 1⟩, ⟨3, false, 1, 1⟩] := ⟨by kernel_rfl⟩
instance : Ty Tryz.prog 68 (.struct fs68) 3 24 (.agg #[(.int .i64 0), (.int .i64 0), (.int .i64 0)]) := ⟨by kernel_rfl, by kernel_rfl⟩
instance : Flds Tryz.prog 68 [⟨3, false, 0, 1⟩, ⟨67, true, 1, 2⟩] := ⟨by kernel_rfl⟩
instance : Ty Tryz.prog 69 (.struct fs68) 3 24 (.agg #[(.int .i64 0), (.int .i64 0), (.int .i64 0)]) := ⟨by kernel_rfl, by kernel_rfl⟩
instance : Flds Tryz.prog 69 [⟨3, false, 0, 1⟩, ⟨67, true, 1, 2⟩] := ⟨by kernel_rfl⟩
instance : Ty Tryz.prog 70 (.slice 3) 1 24 (.slice none 0 0) := ⟨by kernel_rfl, by kernel_rfl⟩
instance : Ty Tryz.prog 71 (.struct fs71) 10 112 (.agg #[(.int .i64 0), (.int .i64 0), (.int .i64 0), (.int .i64 0), (.int .i64 0), (.slice none 0 0), (.int .i64 0), (.int .i64 0), (.int .i64 0), (.slice none 0 0)]) := ⟨by kernel_rfl, by kernel_rfl⟩
instance : Flds Tryz.prog 71 [⟨3, false, 0, 1⟩, ⟨3, false, 1, 1⟩, ⟨3, false, 2, 1⟩, ⟨3, false, 3, 1⟩, ⟨34, true, 4, 2⟩, ⟨69, true, 6, 3⟩, ⟨70, false, 9, 1⟩] := ⟨by kernel_rfl⟩
instance : Ty Tryz.prog 72 (.struct fs71) 10 112 (.agg #[(.int .i64 0), (.int .i64 0), (.int .i64 0), (.int .i64 0), (.int .i64 0), (.slice none 0 0), (.int .i64 0), (.int .i64 0), (.int .i64 0), (.slice none 0 0)]) := ⟨by kernel_rfl, by kernel_rfl⟩
instance : Flds Tryz.prog 72 [⟨3, false, 0, 1⟩, ⟨3, false, 1, 1⟩, ⟨3, false, 2, 1⟩, ⟨3, false, 3, 1⟩, ⟨34, true, 4, 2⟩, ⟨69, true, 6, 3⟩, ⟨70, false, 9, 1⟩] := ⟨by kernel_rfl⟩
instance : Ty Tryz.prog 74 (.func #[39, 3] #[72, 4] false) 1 8 (.nilFunc) := ⟨by kernel_rfl, by kernel_rfl⟩
instance : Ty Tryz.prog 75 (.func #[72, 72] #[4] false) 1 8 (.nilFunc) := ⟨by kernel_rfl, by kernel_rfl⟩
instance : Ty Tryz.prog 76 (.func #[72, 3] #[3] false) 1 8 (.nilFunc) := ⟨by kernel_rfl, by kernel_rfl⟩
instance : Ty Tryz.prog 77 (.slice 215) 1 24 (.slice none 0 0) := ⟨by kernel_rfl, by kernel_rfl⟩
instance : Ty Tryz.prog 78 (.slice 100) 1 24 (.slice none 0 0) := ⟨by kernel_rfl, by kernel_rfl⟩
instance : Ty Tryz.prog 79 (.struct fs79) 7 152 (.agg #[(.int .i64 0), (.slice none 0 0), (.slice none 0 0), (.slice none 0 0), (.slice none 0 0), (.slice none 0 0), (.slice none 0 0)]) := ⟨by kernel_rfl, by kernel_rfl⟩
instance : Flds Tryz.prog 79 [⟨29, true, 0, 5⟩, ⟨77, false, 5, 1⟩, ⟨78, false, 6, 1⟩] := ⟨by kernel_rfl⟩
instance : Ty Tryz.prog 80 (.struct fs79) 7 152 (.agg #[(.int .i64 0), (.slice none 0 0), (.slice none 0 0), (.slice none 0 0), (.slice none 0 0), (.slice none 0 0), (.slice none 0 0)]) := ⟨by kernel_rfl, by kernel_rfl⟩
instance : Flds Tryz.prog 80 [⟨29, true, 0, 5⟩, ⟨77, false, 5, 1⟩, ⟨78, false, 6, 1⟩] := ⟨by kernel_rfl⟩
instance : Ty Tryz.prog 81 (.struct fs66) 2 16 (.agg #[(.int .i64 0), (.int .i64 0)]) := ⟨by kernel_rfl, by kernel_rfl⟩
instance : Flds Tryz.prog 81 [⟨3, false, 0, 1⟩, ⟨3, false, 1, 1⟩] := ⟨by kernel_rfl⟩
instance : Ty Tryz.prog 82 (.struct fs82) 3 24 (.agg #[(.int .i64 0), (.int .i64 0), (.int .i64 0)]) := ⟨by kernel_rfl, by kernel_rfl⟩
instance : Flds Tryz.prog 82 [⟨3, false, 0, 1⟩, ⟨81, true, 1, 2⟩] := ⟨by kernel_rfl⟩
instance : Ty Tryz.prog 83 (.struct fs82) 3 24 (.agg #[(.int .i64 0), (.int .i64 0), (.int .i64 0)]) := ⟨by kernel_rfl, by kernel_rfl⟩
instance : Flds Tryz.prog 83 [⟨3, false, 0, 1⟩, ⟨81, true, 1, 2⟩] := ⟨by kernel_rfl⟩
instance : Ty Tryz.prog 84 (.struct fs84) 5 40 (.agg #[(.int .i64 0), (.int .i64 0), (.int .i64 0), (.int .i64 0), (.int .i64 0)]) := ⟨by kernel_rfl, by kernel_rfl⟩
instance : Flds Tryz.prog 84 [⟨3, false, 0, 1⟩, ⟨3, false, 1, 1⟩, ⟨83, true, 2, 3⟩] := ⟨by kernel_rfl⟩
instance : Ty Tryz.prog 85 (.struct fs84) 5 40 (.agg #[(.int .i64 0), (.int .i64 0), (.int .i64 0), (.int .i64 0), (.int .i64 0)]) := ⟨by kernel_rfl, by kernel_rfl⟩
instance : Flds Tryz.prog 85 [⟨3, false, 0, 1⟩, ⟨3, false, 1, 1⟩, ⟨83, true, 2, 3⟩] := ⟨by kernel_rfl⟩
instance : Ty Tryz.prog 86 (.func #[80, 3] #[3] false) 1 8 (.nilFunc) := ⟨by kernel_rfl, by kernel_rfl⟩
instance : Ty Tryz.prog 87 (.func #[55, 90] #[55] false) 1 8 (.nilFunc) := ⟨by kernel_rfl, by kernel_rfl⟩
instance : Ty Tryz.prog 88 (.func #[80] #[55] false) 1 8 (.nilFunc) := ⟨by kernel_rfl, by kernel_rfl⟩
instance : Ty Tryz.prog 89 (.struct fs89) 5 40 (.agg #[(.int .i64 0), (.int .i64 0), (.int .i64 0), (.int .i64 0), (.int .i64 0)]) := ⟨by kernel_rfl, by kernel_rfl⟩
instance : Flds Tryz.prog 89 [⟨3, false, 0, 1⟩, ⟨3, false, 1, 1⟩, ⟨69, true, 2, 3⟩] := ⟨by kernel_rfl⟩
instance : Ty Tryz.prog 90 (.struct fs89) 5 40 (.agg #[(.int .i64 0), (.int .i64 0), (.int .i64 0), (.int .i64 0), (.int .i64 0)]) := ⟨by kernel_rfl, by kernel_rfl⟩
instance : Flds Tryz.prog 90 [⟨3, false, 0, 1⟩, ⟨3, false, 1, 1⟩, ⟨69, true, 2, 3⟩] := ⟨by kernel_rfl⟩
instance : Ty Tryz.prog 91 (.func #[85] #[90] false) 1 8 (.nilFunc) := ⟨by kernel_rfl, by kernel_rfl⟩
instance : Ty Tryz.prog 92 (.func #[80, 85] #[4] false) 1 8 (.nilFunc) := ⟨by kernel_rfl, by kernel_rfl⟩
instance : Ty Tryz.prog 94 (.func #[39, 69] #[39, 4] false) 1 8 (.nilFunc) := ⟨by kernel_rfl, by kernel_rfl⟩
instance : Ty Tryz.prog 95 (.func #[83] #[69] false) 1 8 (.nilFunc) := ⟨by kernel_rfl, by kernel_rfl⟩
instance : Ty Tryz.prog 96 (.func #[29, 83] #[4] false) 1 8 (.nilFunc) := ⟨by kernel_rfl, by kernel_rfl⟩
instance : Ty Tryz.prog 97 (.func #[55, 3] #[55] false) 1 8 (.nilFunc) := ⟨by kernel_rfl, by kernel_rfl⟩
instance : Ty Tryz.prog 98 (.func #[80, 3] #[4] false) 1 8 (.nilFunc) := ⟨by kernel_rfl, by kernel_rfl⟩
instance : Ty Tryz.prog 99 (.struct fs99) 10 112 (.agg #[(.int .i64 0), (.int .i64 0), (.int .i64 0), (.int .i64 0), (.int .i64 0), (.slice none 0 0), (.int .i64 0), (.int .i64 0), (.int .i64 0), (.slice none 0 0)]) := ⟨by kernel_rfl, by kernel_rfl⟩
instance : Flds Tryz.prog 99 [⟨3, false, 0, 1⟩, ⟨3, false, 1, 1⟩, ⟨3, false, 2, 1⟩, ⟨3, false, 3, 1⟩, ⟨24, true, 4, 2⟩, ⟨83, true, 6, 3⟩, ⟨70, false, 9, 1⟩] := ⟨by kernel_rfl⟩
instance : Ty Tryz.prog 100 (.struct fs99) 10 112 (.agg #[(.int .i64 0), (.int .i64 0), (.int .i64 0), (.int .i64 0), (.int .i64 0), (.slice none 0 0), (.int .i64 0), (.int .i64 0), (.int .i64 0), (.slice none 0 0)]) := ⟨by kernel_rfl, by kernel_rfl⟩
instance : Flds Tryz.prog 100 [⟨3, false, 0, 1⟩, ⟨3, false, 1, 1⟩, ⟨3, false, 2, 1⟩, ⟨3, false, 3, 1⟩, ⟨24, true, 4, 2⟩, ⟨83, true, 6, 3⟩, ⟨70, false, 9, 1⟩] := ⟨by kernel_rfl⟩
instance : Ty Tryz.prog 101 (.func #[100, 3] #[3] false) 1 8 (.nilFunc) := ⟨by kernel_rfl, by kernel_rfl⟩
instance : Ty Tryz.prog 102 (.func #[39, 72] #[39] false) 1 8 (.nilFunc) := ⟨by kernel_rfl, by kernel_rfl⟩
instance : Ty Tryz.prog 103 (.func #[100] #[72] false) 1 8 (.nilFunc) := ⟨by kernel_rfl, by kernel_rfl⟩
instance : Ty Tryz.prog 104 (.func #[29, 100] #[4] false) 1 8 (.nilFunc) := ⟨by kernel_rfl, by kernel_rfl⟩
instance : Ty Tryz.prog 105 (.func #[55] #[4] false) 1 8 (.nilFunc) := ⟨by kernel_rfl, by kernel_rfl⟩
instance : Ty Tryz.prog 106 (.func #[80] #[4] false) 1 8 (.nilFunc) := ⟨by kernel_rfl, by kernel_rfl⟩
instance : Ty Tryz.prog 107 (.func #[25, 3] #[3] false) 1 8 (.nilFunc) := ⟨by kernel_rfl, by kernel_rfl⟩
instance : Ty Tryz.prog 108 (.func #[26, 3] #[3] false) 1 8 (.nilFunc) := ⟨by kernel_rfl, by kernel_rfl⟩
instance : Ty Tryz.prog 109 (.func #[27, 3] #[3] false) 1 8 (.nilFunc) := ⟨by kernel_rfl, by kernel_rfl⟩
instance : Ty Tryz.prog 110 (.func #[34] #[4] false) 1 8 (.nilFunc) := ⟨by kernel_rfl, by kernel_rfl⟩
instance : Ty Tryz.prog 111 (.func #[3, 3, 3] #[4] false) 1 8 (.nilFunc) := ⟨by kernel_rfl, by kernel_rfl⟩
instance : Ty Tryz.prog 112 (.struct fs112) 3 40 (.agg #[(.bool false), (.int .i64 0), (.slice none 0 0)]) := ⟨by kernel_rfl, by kernel_rfl⟩
instance : Flds Tryz.prog 112 [⟨4, false, 0, 1⟩, ⟨3, false, 1, 1⟩, ⟨70, false, 2, 1⟩] := ⟨by kernel_rfl⟩
instance : Ty Tryz.prog 113 (.struct fs112) 3 40 (.agg #[(.bool false), (.int .i64 0), (.slice none 0 0)]) := ⟨by kernel_rfl, by kernel_rfl⟩
instance : Flds Tryz.prog 113 [⟨4, false, 0, 1⟩, ⟨3, false, 1, 1⟩, ⟨70, false, 2, 1⟩] := ⟨by kernel_rfl⟩
instance : Ty Tryz.prog 114 (.func #[70, 70] #[4] false) 1 8 (.nilFunc) := ⟨by kernel_rfl, by kernel_rfl⟩
instance : Ty Tryz.prog 115 (.func #[39, 3, 3] #[70] false) 1 8 (.nilFunc) := ⟨by kernel_rfl, by kernel_rfl⟩
instance : Ty Tryz.prog 116 (.struct fs116) 2 32 (.agg #[(.int .i64 0), (.slice none 0 0)]) := ⟨by kernel_rfl, by kernel_rfl⟩
instance : Flds Tryz.prog 116 [⟨3, false, 0, 1⟩, ⟨70, false, 1, 1⟩] := ⟨by kernel_rfl⟩
instance : Ty Tryz.prog 117 (.struct fs116) 2 32 (.agg #[(.int .i64 0), (.slice none 0 0)]) := ⟨by kernel_rfl, by kernel_rfl⟩
instance : Flds Tryz.prog 117 [⟨3, false, 0, 1⟩, ⟨70, false, 1, 1⟩] := ⟨by kernel_rfl⟩
instance : Ty Tryz.prog 118 (.func #[34] #[70] false) 1 8 (.nilFunc) := ⟨by kernel_rfl, by kernel_rfl⟩
instance : Ty Tryz.prog 119 (.func #[39, 3] #[34] false) 1 8 (.nilFunc) := ⟨by kernel_rfl, by kernel_rfl⟩
instance : Ty Tryz.prog 120 (.func #[25] #[35] false) 1 8 (.nilFunc) := ⟨by kernel_rfl, by kernel_rfl⟩
instance : Ty Tryz.prog 121 (.func #[26] #[36] false) 1 8 (.nilFunc) := ⟨by kernel_rfl, by kernel_rfl⟩
instance : Ty Tryz.prog 122 (.func #[27] #[37] false) 1 8 (.nilFunc) := ⟨by kernel_rfl, by kernel_rfl⟩
instance : Ty Tryz.prog 123 (.func #[125] #[4] false) 1 8 (.nilFunc) := ⟨by kernel_rfl, by kernel_rfl⟩
instance : Ty Tryz.prog 124 (.interface im124) 1 16 (.nilIface) := ⟨by kernel_rfl, by kernel_rfl⟩
instance : Ty Tryz.prog 125 (.interface im124) 1 16 (.nilIface) := ⟨by kernel_rfl, by kernel_rfl⟩
instance : Ty Tryz.prog 126 (.func #[39] #[125] false) 1 8 (.nilFunc) := ⟨by kernel_rfl, by kernel_rfl⟩
instance : Ty Tryz.prog 127 (.func #[35, 35] #[4] false) 1 8 (.nilFunc) := ⟨by kernel_rfl, by kernel_rfl⟩
instance : Ty Tryz.prog 128 (.func #[36, 36] #[4] false) 1 8 (.nilFunc) := ⟨by kernel_rfl, by kernel_rfl⟩
instance : Ty Tryz.prog 129 (.func #[37, 37] #[4] false) 1 8 (.nilFunc) := ⟨by kernel_rfl, by kernel_rfl⟩
instance : Ty Tryz.prog 130 (.func #[39, 3] #[125] false) 1 8 (.nilFunc) := ⟨by kernel_rfl, by kernel_rfl⟩
instance : Ty Tryz.prog 131 (.func #[32, 32] #[4] false) 1 8 (.nilFunc) := ⟨by kernel_rfl, by kernel_rfl⟩
instance : Ty Tryz.prog 132 (.func #[35, 3] #[3] false) 1 8 (.nilFunc) := ⟨by kernel_rfl, by kernel_rfl⟩
instance : Ty Tryz.prog 133 (.func #[36, 3] #[3] false) 1 8 (.nilFunc) := ⟨by kernel_rfl, by kernel_rfl⟩
instance : Ty Tryz.prog 134 (.func #[37, 3] #[3] false) 1 8 (.nilFunc) := ⟨by kernel_rfl, by kernel_rfl⟩
instance : Ty Tryz.prog 135 (.func #[32, 3] #[3] false) 1 8 (.nilFunc) := ⟨by kernel_rfl, by kernel_rfl⟩
instance : Ty Tryz.prog 136 (.func #[22, 3] #[3] false) 1 8 (.nilFunc) := ⟨by kernel_rfl, by kernel_rfl⟩
instance : Ty Tryz.prog 137 (.func #[34, 3] #[55, 4] false) 1 8 (.nilFunc) := ⟨by kernel_rfl, by kernel_rfl⟩
instance : Ty Tryz.prog 138 (.func #[22] #[32] false) 1 8 (.nilFunc) := ⟨by kernel_rfl, by kernel_rfl⟩
instance : Ty Tryz.prog 139 (.pointer 202) 1 8 (.pointer none) := ⟨by kernel_rfl, by kernel_rfl⟩
instance : Ty Tryz.prog 140 (.func #[55] #[139] false) 1 8 (.nilFunc) := ⟨by kernel_rfl, by kernel_rfl⟩
instance : Ty Tryz.prog 141 (.func #[90] #[] false) 1 8 (.nilFunc) := ⟨by kernel_rfl, by kernel_rfl⟩
instance : Ty Tryz.prog 142 (.func #[] #[141] false) 1 8 (.nilFunc) := ⟨by kernel_rfl, by kernel_rfl⟩
instance : Ty Tryz.prog 143 (.func #[] #[55] false) 1 8 (.nilFunc) := ⟨by kernel_rfl, by kernel_rfl⟩
instance : Ty Tryz.prog 144 (.func #[52, 52] #[4] false) 1 8 (.nilFunc) := ⟨by kernel_rfl, by kernel_rfl⟩
instance : Ty Tryz.prog 145 (.func #[53, 53] #[4] false) 1 8 (.nilFunc) := ⟨by kernel_rfl, by kernel_rfl⟩
instance : Ty Tryz.prog 146 (.func #[90, 90] #[4] false) 1 8 (.nilFunc) := ⟨by kernel_rfl, by kernel_rfl⟩
instance : Ty Tryz.prog 147 (.func #[52, 3] #[3] false) 1 8 (.nilFunc) := ⟨by kernel_rfl, by kernel_rfl⟩
instance : Ty Tryz.prog 148 (.func #[53, 3] #[3] false) 1 8 (.nilFunc) := ⟨by kernel_rfl, by kernel_rfl⟩
instance : Ty Tryz.prog 149 (.func #[39, 3] #[72] false) 1 8 (.nilFunc) := ⟨by kernel_rfl, by kernel_rfl⟩
instance : Ty Tryz.prog 151 (.func #[39, 3] #[72, 125] false) 1 8 (.nilFunc) := ⟨by kernel_rfl, by kernel_rfl⟩
instance : Ty Tryz.prog 152 (.func #[69, 69] #[4] false) 1 8 (.nilFunc) := ⟨by kernel_rfl, by kernel_rfl⟩
instance : Ty Tryz.prog 153 (.func #[70, 3] #[3] false) 1 8 (.nilFunc) := ⟨by kernel_rfl, by kernel_rfl⟩
instance : Ty Tryz.prog 154 (.func #[77, 3] #[3] false) 1 8 (.nilFunc) := ⟨by kernel_rfl, by kernel_rfl⟩
instance : Ty Tryz.prog 155 (.func #[78, 3] #[3] false) 1 8 (.nilFunc) := ⟨by kernel_rfl, by kernel_rfl⟩
instance : Ty Tryz.prog 156 (.func #[55] #[55] false) 1 8 (.nilFunc) := ⟨by kernel_rfl, by kernel_rfl⟩
instance : Ty Tryz.prog 157 (.func #[77] #[52] false) 1 8 (.nilFunc) := ⟨by kernel_rfl, by kernel_rfl⟩
instance : Ty Tryz.prog 158 (.func #[78] #[53] false) 1 8 (.nilFunc) := ⟨by kernel_rfl, by kernel_rfl⟩
instance : Ty Tryz.prog 159 (.func #[34, 35] #[4] false) 1 8 (.nilFunc) := ⟨by kernel_rfl, by kernel_rfl⟩
instance : Ty Tryz.prog 160 (.func #[39] #[39] false) 1 8 (.nilFunc) := ⟨by kernel_rfl, by kernel_rfl⟩
instance : Ty Tryz.prog 161 (.func #[81] #[67] false) 1 8 (.nilFunc) := ⟨by kernel_rfl, by kernel_rfl⟩
instance : Ty Tryz.prog 163 (.func #[39, 69] #[39, 125] false) 1 8 (.nilFunc) := ⟨by kernel_rfl, by kernel_rfl⟩
instance : Ty Tryz.prog 164 (.func #[70] #[70] false) 1 8 (.nilFunc) := ⟨by kernel_rfl, by kernel_rfl⟩
instance : Ty Tryz.prog 165 (.slice 70) 1 24 (.slice none 0 0) := ⟨by kernel_rfl, by kernel_rfl⟩
instance : Ty Tryz.prog 166 (.struct fs166) 4 80 (.agg #[(.int .i64 0), (.slice none 0 0), (.slice none 0 0), (.slice none 0 0)]) := ⟨by kernel_rfl, by kernel_rfl⟩
instance : Flds Tryz.prog 166 [⟨34, true, 0, 2⟩, ⟨70, false, 2, 1⟩, ⟨165, false, 3, 1⟩] := ⟨by kernel_rfl⟩
instance : Ty Tryz.prog 167 (.struct fs166) 4 80 (.agg #[(.int .i64 0), (.slice none 0 0), (.slice none 0 0), (.slice none 0 0)]) := ⟨by kernel_rfl, by kernel_rfl⟩
instance : Flds Tryz.prog 167 [⟨34, true, 0, 2⟩, ⟨70, false, 2, 1⟩, ⟨165, false, 3, 1⟩] := ⟨by kernel_rfl⟩
instance : Ty Tryz.prog 168 (.struct fs168) 7 96 (.agg #[(.bool false), (.bool false), (.int .i64 0), (.int .i64 0), (.slice none 0 0), (.slice none 0 0), (.slice none 0 0)]) := ⟨by kernel_rfl, by kernel_rfl⟩
instance : Flds Tryz.prog 168 [⟨4, false, 0, 1⟩, ⟨4, false, 1, 1⟩, ⟨3, false, 2, 1⟩, ⟨167, true, 3, 4⟩] := ⟨by kernel_rfl⟩
instance : Ty Tryz.prog 169 (.struct fs168) 7 96 (.agg #[(.bool false), (.bool false), (.int .i64 0), (.int .i64 0), (.slice none 0 0), (.slice none 0 0), (.slice none 0 0)]) := ⟨by kernel_rfl, by kernel_rfl⟩
instance : Flds Tryz.prog 169 [⟨4, false, 0, 1⟩, ⟨4, false, 1, 1⟩, ⟨3, false, 2, 1⟩, ⟨167, true, 3, 4⟩] := ⟨by kernel_rfl⟩
instance : Ty Tryz.prog 170 (.func #[169] #[4] false) 1 8 (.nilFunc) := ⟨by kernel_rfl, by kernel_rfl⟩
instance : Ty Tryz.prog 171 (.func #[55, 72] #[4] false) 1 8 (.nilFunc) := ⟨by kernel_rfl, by kernel_rfl⟩
instance : Ty Tryz.prog 172 (.func #[39, 169] #[4] false) 1 8 (.nilFunc) := ⟨by kernel_rfl, by kernel_rfl⟩
instance : Ty Tryz.prog 173 (.func #[39, 72] #[4] false) 1 8 (.nilFunc) := ⟨by kernel_rfl, by kernel_rfl⟩
instance : Ty Tryz.prog 174 (.func #[175, 3] #[3] false) 1 8 (.nilFunc) := ⟨by kernel_rfl, by kernel_rfl⟩
instance : Ty Tryz.prog 175 (.struct fs112) 3 40 (.agg #[(.bool false), (.int .i64 0), (.slice none 0 0)]) := ⟨by kernel_rfl, by kernel_rfl⟩
instance : Flds Tryz.prog 175 [⟨4, false, 0, 1⟩, ⟨3, false, 1, 1⟩, ⟨70, false, 2, 1⟩] := ⟨by kernel_rfl⟩
instance : Ty Tryz.prog 176 (.func #[177, 3] #[3] false) 1 8 (.nilFunc) := ⟨by kernel_rfl, by kernel_rfl⟩
instance : Ty Tryz.prog 177 (.struct fs116) 2 32 (.agg #[(.int .i64 0), (.slice none 0 0)]) := ⟨by kernel_rfl, by kernel_rfl⟩
instance : Flds Tryz.prog 177 [⟨3, false, 0, 1⟩, ⟨70, false, 1, 1⟩] := ⟨by kernel_rfl⟩
instance : Ty Tryz.prog 178 (.func #[67] #[4] false) 1 8 (.nilFunc) := ⟨by kernel_rfl, by kernel_rfl⟩
instance : Ty Tryz.prog 179 (.func #[34, 3, 3] #[70] false) 1 8 (.nilFunc) := ⟨by kernel_rfl, by kernel_rfl⟩
instance : Ty Tryz.prog 180 (.func #[34] #[3] false) 1 8 (.nilFunc) := ⟨by kernel_rfl, by kernel_rfl⟩
instance : Ty Tryz.prog 181 (.func #[34, 183] #[3] false) 1 8 (.nilFunc) := ⟨by kernel_rfl, by kernel_rfl⟩
instance : Ty Tryz.prog 182 (.slice 257) 1 24 (.slice none 0 0) := ⟨by kernel_rfl, by kernel_rfl⟩
instance : Ty Tryz.prog 183 (.slice 224) 1 24 (.slice none 0 0) := ⟨by kernel_rfl, by kernel_rfl⟩
instance : Ty Tryz.prog 184 (.struct fs184) 4 80 (.agg #[(.int .i64 0), (.slice none 0 0), (.slice none 0 0), (.slice none 0 0)]) := ⟨by kernel_rfl, by kernel_rfl⟩
instance : Flds Tryz.prog 184 [⟨34, true, 0, 2⟩, ⟨182, false, 2, 1⟩, ⟨183, false, 3, 1⟩] := ⟨by kernel_rfl⟩
instance : Ty Tryz.prog 185 (.struct fs184) 4 80 (.agg #[(.int .i64 0), (.slice none 0 0), (.slice none 0 0), (.slice none 0 0)]) := ⟨by kernel_rfl, by kernel_rfl⟩
instance : Flds Tryz.prog 185 [⟨34, true, 0, 2⟩, ⟨182, false, 2, 1⟩, ⟨183, false, 3, 1⟩] := ⟨by kernel_rfl⟩
instance : Ty Tryz.prog 186 (.pointer 185) 1 8 (.pointer none) := ⟨by kernel_rfl, by kernel_rfl⟩
instance : Ty Tryz.prog 187 (.func #[34, 3] #[186] false) 1 8 (.nilFunc) := ⟨by kernel_rfl, by kernel_rfl⟩
instance : Ty Tryz.prog 188 (.func #[34] #[34] false) 1 8 (.nilFunc) := ⟨by kernel_rfl, by kernel_rfl⟩
instance : Ty Tryz.prog 189 (.func #[175] #[113] false) 1 8 (.nilFunc) := ⟨by kernel_rfl, by kernel_rfl⟩
instance : Ty Tryz.prog 190 (.func #[177] #[117] false) 1 8 (.nilFunc) := ⟨by kernel_rfl, by kernel_rfl⟩
instance : Ty Tryz.prog 191 (.struct fs191) 1 16 (.agg #[(.string ⟨#[]⟩)]) := ⟨by kernel_rfl, by kernel_rfl⟩
instance : Flds Tryz.prog 191 [⟨9, false, 0, 1⟩] := ⟨by kernel_rfl⟩
instance : Ty Tryz.prog 192 (.struct fs191) 1 16 (.agg #[(.string ⟨#[]⟩)]) := ⟨by kernel_rfl, by kernel_rfl⟩
instance : Flds Tryz.prog 192 [⟨9, false, 0, 1⟩] := ⟨by kernel_rfl⟩
instance : Ty Tryz.prog 193 (.func #[125, 20] #[4] false) 1 8 (.nilFunc) := ⟨by kernel_rfl, by kernel_rfl⟩
instance : Ty Tryz.prog 194 (.pointer 192) 1 8 (.pointer none) := ⟨by kernel_rfl, by kernel_rfl⟩
instance : Ty Tryz.prog 195 (.func #[113, 113] #[4] false) 1 8 (.nilFunc) := ⟨by kernel_rfl, by kernel_rfl⟩
instance : Ty Tryz.prog 196 (.func #[117, 117] #[4] false) 1 8 (.nilFunc) := ⟨by kernel_rfl, by kernel_rfl⟩
instance : Ty Tryz.prog 197 (.func #[67, 67] #[4] false) 1 8 (.nilFunc) := ⟨by kernel_rfl, by kernel_rfl⟩
instance : Ty Tryz.prog 198 (.func #[34, 3] #[39, 4] false) 1 8 (.nilFunc) := ⟨by kernel_rfl, by kernel_rfl⟩
instance : Ty Tryz.prog 199 (.struct fs199) 1 24 (.agg #[(.slice none 0 0)]) := ⟨by kernel_rfl, by kernel_rfl⟩
instance : Flds Tryz.prog 199 [⟨53, false, 0, 1⟩] := ⟨by kernel_rfl⟩
instance : Ty Tryz.prog 200 (.struct fs199) 1 24 (.agg #[(.slice none 0 0)]) := ⟨by kernel_rfl, by kernel_rfl⟩
instance : Flds Tryz.prog 200 [⟨53, false, 0, 1⟩] := ⟨by kernel_rfl⟩
instance : Ty Tryz.prog 201 (.struct fs201) 7 152 (.agg #[(.int .i64 0), (.slice none 0 0), (.slice none 0 0), (.slice none 0 0), (.slice none 0 0), (.slice none 0 0), (.slice none 0 0)]) := ⟨by kernel_rfl, by kernel_rfl⟩
instance : Flds Tryz.prog 201 [⟨39, true, 0, 5⟩, ⟨52, false, 5, 1⟩, ⟨200, true, 6, 1⟩] := ⟨by kernel_rfl⟩
instance : Ty Tryz.prog 202 (.struct fs201) 7 152 (.agg #[(.int .i64 0), (.slice none 0 0), (.slice none 0 0), (.slice none 0 0), (.slice none 0 0), (.slice none 0 0), (.slice none 0 0)]) := ⟨by kernel_rfl, by kernel_rfl⟩
instance : Flds Tryz.prog 202 [⟨39, true, 0, 5⟩, ⟨52, false, 5, 1⟩, ⟨200, true, 6, 1⟩] := ⟨by kernel_rfl⟩
instance : Ty Tryz.prog 203 (.func #[169] #[169] false) 1 8 (.nilFunc) := ⟨by kernel_rfl, by kernel_rfl⟩
instance : Ty Tryz.prog 204 (.func #[72] #[] false) 1 8 (.nilFunc) := ⟨by kernel_rfl, by kernel_rfl⟩
instance : Ty Tryz.prog 205 (.func #[3] #[] false) 1 8 (.nilFunc) := ⟨by kernel_rfl, by kernel_rfl⟩
instance : Ty Tryz.prog 206 (.func #[3, 3] #[4] false) 1 8 (.nilFunc) := ⟨by kernel_rfl, by kernel_rfl⟩
instance : Ty Tryz.prog 207 (.func #[3, 3] #[] false) 1 8 (.nilFunc) := ⟨by kernel_rfl, by kernel_rfl⟩
instance : Ty Tryz.prog 208 (.func #[3] #[4] false) 1 8 (.nilFunc) := ⟨by kernel_rfl, by kernel_rfl⟩
instance : Ty Tryz.prog 209 (.func #[169, 169] #[4] false) 1 8 (.nilFunc) := ⟨by kernel_rfl, by kernel_rfl⟩
instance : Ty Tryz.prog 210 (.func #[165, 3] #[3] false) 1 8 (.nilFunc) := ⟨by kernel_rfl, by kernel_rfl⟩
instance : Ty Tryz.prog 211 (.func #[215, 3] #[3] false) 1 8 (.nilFunc) := ⟨by kernel_rfl, by kernel_rfl⟩
instance : Ty Tryz.prog 212 (.struct fs212) 4 80 (.agg #[(.int .i64 0), (.slice none 0 0), (.slice none 0 0), (.slice none 0 0)]) := ⟨by kernel_rfl, by kernel_rfl⟩
instance : Flds Tryz.prog 212 [⟨24, true, 0, 2⟩, ⟨70, false, 2, 1⟩, ⟨165, false, 3, 1⟩] := ⟨by kernel_rfl⟩
instance : Ty Tryz.prog 213 (.struct fs212) 4 80 (.agg #[(.int .i64 0), (.slice none 0 0), (.slice none 0 0), (.slice none 0 0)]) := ⟨by kernel_rfl, by kernel_rfl⟩
instance : Flds Tryz.prog 213 [⟨24, true, 0, 2⟩, ⟨70, false, 2, 1⟩, ⟨165, false, 3, 1⟩] := ⟨by kernel_rfl⟩
instance : Ty Tryz.prog 214 (.struct fs214) 7 96 (.agg #[(.bool false), (.bool false), (.int .i64 0), (.int .i64 0), (.slice none 0 0), (.slice none 0 0), (.slice none 0 0)]) := ⟨by kernel_rfl, by kernel_rfl⟩
instance : Flds Tryz.prog 214 [⟨4, false, 0, 1⟩, ⟨4, false, 1, 1⟩, ⟨3, false, 2, 1⟩, ⟨213, true, 3, 4⟩] := ⟨by kernel_rfl⟩
instance : Ty Tryz.prog 215 (.struct fs214) 7 96 (.agg #[(.bool false), (.bool false), (.int .i64 0), (.int .i64 0), (.slice none 0 0), (.slice none 0 0), (.slice none 0 0)]) := ⟨by kernel_rfl, by kernel_rfl⟩
instance : Flds Tryz.prog 215 [⟨4, false, 0, 1⟩, ⟨4, false, 1, 1⟩, ⟨3, false, 2, 1⟩, ⟨213, true, 3, 4⟩] := ⟨by kernel_rfl⟩
instance : Ty Tryz.prog 216 (.func #[72] #[72] false) 1 8 (.nilFunc) := ⟨by kernel_rfl, by kernel_rfl⟩
instance : Ty Tryz.prog 217 (.func #[215] #[169] false) 1 8 (.nilFunc) := ⟨by kernel_rfl, by kernel_rfl⟩
instance : Ty Tryz.prog 218 (.func #[35] #[35] false) 1 8 (.nilFunc) := ⟨by kernel_rfl, by kernel_rfl⟩
instance : Ty Tryz.prog 219 (.func #[34, 69] #[4] false) 1 8 (.nilFunc) := ⟨by kernel_rfl, by kernel_rfl⟩
instance : Ty Tryz.prog 220 (.func #[167] #[4] false) 1 8 (.nilFunc) := ⟨by kernel_rfl, by kernel_rfl⟩
instance : Ty Tryz.prog 221 (.func #[72] #[4] false) 1 8 (.nilFunc) := ⟨by kernel_rfl, by kernel_rfl⟩
instance : Ty Tryz.prog 222 (.func #[34, 70, 3, 3] #[70] false) 1 8 (.nilFunc) := ⟨by kernel_rfl, by kernel_rfl⟩
instance : Ty Tryz.prog 223 (.struct fs223) 3 24 (.agg #[(.int .i64 0), (.int .i64 0), (.int .i64 0)]) := ⟨by kernel_rfl, by kernel_rfl⟩
instance : Flds Tryz.prog 223 [⟨3, false, 0, 1⟩, ⟨3, false, 1, 1⟩, ⟨3, false, 2, 1⟩] := ⟨by kernel_rfl⟩
instance : Ty Tryz.prog 224 (.struct fs223) 3 24 (.agg #[(.int .i64 0), (.int .i64 0), (.int .i64 0)]) := ⟨by kernel_rfl, by kernel_rfl⟩
instance : Flds Tryz.prog 224 [⟨3, false, 0, 1⟩, ⟨3, false, 1, 1⟩, ⟨3, false, 2, 1⟩] := ⟨by kernel_rfl⟩
instance : Ty Tryz.prog 225 (.struct fs225) 2 16 (.agg #[(.int .i64 0), (.int .i64 0)]) := ⟨by kernel_rfl, by kernel_rfl⟩
instance : Flds Tryz.prog 225 [⟨3, false, 0, 1⟩, ⟨3, false, 1, 1⟩] := ⟨by kernel_rfl⟩
instance : Ty Tryz.prog 226 (.struct fs225) 2 16 (.agg #[(.int .i64 0), (.int .i64 0)]) := ⟨by kernel_rfl, by kernel_rfl⟩
instance : Flds Tryz.prog 226 [⟨3, false, 0, 1⟩, ⟨3, false, 1, 1⟩] := ⟨by kernel_rfl⟩
instance : Ty Tryz.prog 227 (.func #[34, 3] #[226] false) 1 8 (.nilFunc) := ⟨by kernel_rfl, by kernel_rfl⟩
instance : Ty Tryz.prog 228 (.func #[3, 3, 3] #[] false) 1 8 (.nilFunc) := ⟨by kernel_rfl, by kernel_rfl⟩
instance : Ty Tryz.prog 230 (.int .u64) 1 8 (.int .u64 0) := ⟨by kernel_rfl, by kernel_rfl⟩
instance : Ty Tryz.prog 231 (.struct fs231) 3 24 (.agg #[(.pointer none), (.pointer none), (.int .u64 0)]) := ⟨by kernel_rfl, by kernel_rfl⟩
instance : Flds Tryz.prog 231 [⟨17, false, 0, 1⟩, ⟨229, false, 1, 1⟩, ⟨230, false, 2, 1⟩] := ⟨by kernel_rfl⟩
instance : Ty Tryz.prog 232 (.struct fs231) 3 24 (.agg #[(.pointer none), (.pointer none), (.int .u64 0)]) := ⟨by kernel_rfl, by kernel_rfl⟩
instance : Flds Tryz.prog 232 [⟨17, false, 0, 1⟩, ⟨229, false, 1, 1⟩, ⟨230, false, 2, 1⟩] := ⟨by kernel_rfl⟩
instance : Ty Tryz.prog 233 (.func #[20] #[232] false) 1 8 (.nilFunc) := ⟨by kernel_rfl, by kernel_rfl⟩
instance : Ty Tryz.prog 234 (.interface im234) 1 16 (.nilIface) := ⟨by kernel_rfl, by kernel_rfl⟩
instance : Ty Tryz.prog 235 (.interface im234) 1 16 (.nilIface) := ⟨by kernel_rfl, by kernel_rfl⟩
instance : Ty Tryz.prog 236 (.func #[] #[235] false) 1 8 (.nilFunc) := ⟨by kernel_rfl, by kernel_rfl⟩
instance : Ty Tryz.prog 237 (.int .u8) 1 1 (.int .u8 0) := ⟨by kernel_rfl, by kernel_rfl⟩
instance : Ty Tryz.prog 238 (.func #[] #[237] false) 1 8 (.nilFunc) := ⟨by kernel_rfl, by kernel_rfl⟩
instance : Ty Tryz.prog 239 (.func #[] #[4] false) 1 8 (.nilFunc) := ⟨by kernel_rfl, by kernel_rfl⟩
instance : Ty Tryz.prog 240 (.func #[235] #[4] false) 1 8 (.nilFunc) := ⟨by kernel_rfl, by kernel_rfl⟩
instance : Ty Tryz.prog 241 (.func #[125, 20, 232, 235] #[4] false) 1 8 (.nilFunc) := ⟨by kernel_rfl, by kernel_rfl⟩
instance : Ty Tryz.prog 242 (.func #[34, 243] #[70] false) 1 8 (.nilFunc) := ⟨by kernel_rfl, by kernel_rfl⟩
instance : Ty Tryz.prog 243 (.func #[3] #[3] false) 1 8 (.nilFunc) := ⟨by kernel_rfl, by kernel_rfl⟩
instance : Ty Tryz.prog 244 (.func #[32] #[32] false) 1 8 (.nilFunc) := ⟨by kernel_rfl, by kernel_rfl⟩
instance : Ty Tryz.prog 245 (.func #[55, 72] #[55] false) 1 8 (.nilFunc) := ⟨by kernel_rfl, by kernel_rfl⟩
instance : Ty Tryz.prog 246 (.func #[169, 3, 3] #[72, 4] false) 1 8 (.nilFunc) := ⟨by kernel_rfl, by kernel_rfl⟩
instance : Ty Tryz.prog 247 (.func #[167] #[167] false) 1 8 (.nilFunc) := ⟨by kernel_rfl, by kernel_rfl⟩
instance : Ty Tryz.prog 248 (.pointer 200) 1 8 (.pointer none) := ⟨by kernel_rfl, by kernel_rfl⟩
instance : Ty Tryz.prog 249 (.pointer 169) 1 8 (.pointer none) := ⟨by kernel_rfl, by kernel_rfl⟩
instance : Ty Tryz.prog 250 (.func #[3] #[72] false) 1 8 (.nilFunc) := ⟨by kernel_rfl, by kernel_rfl⟩
instance : Ty Tryz.prog 251 (.func #[167, 167] #[4] false) 1 8 (.nilFunc) := ⟨by kernel_rfl, by kernel_rfl⟩
instance : Ty Tryz.prog 252 (.func #[213, 3] #[3] false) 1 8 (.nilFunc) := ⟨by kernel_rfl, by kernel_rfl⟩
instance : Ty Tryz.prog 253 (.func #[213] #[167] false) 1 8 (.nilFunc) := ⟨by kernel_rfl, by kernel_rfl⟩
instance : Ty Tryz.prog 255 (.func #[34] #[167, 4] false) 1 8 (.nilFunc) := ⟨by kernel_rfl, by kernel_rfl⟩
instance : Ty Tryz.prog 256 (.struct fs256) 3 24 (.agg #[(.int .i64 0), (.int .i64 0), (.int .i64 0)]) := ⟨by kernel_rfl, by kernel_rfl⟩
instance : Flds Tryz.prog 256 [⟨3, false, 0, 1⟩, ⟨3, false, 1, 1⟩, ⟨3, false, 2, 1⟩] := ⟨by kernel_rfl⟩
instance : Ty Tryz.prog 257 (.struct fs256) 3 24 (.agg #[(.int .i64 0), (.int .i64 0), (.int .i64 0)]) := ⟨by kernel_rfl, by kernel_rfl⟩
instance : Flds Tryz.prog 257 [⟨3, false, 0, 1⟩, ⟨3, false, 1, 1⟩, ⟨3, false, 2, 1⟩] := ⟨by kernel_rfl⟩
instance : Ty Tryz.prog 258 (.func #[3, 3] #[3] false) 1 8 (.nilFunc) := ⟨by kernel_rfl, by kernel_rfl⟩
instance : Ty Tryz.prog 259 (.struct fs259) 1 8 (.agg #[(.pointer none)]) := ⟨by kernel_rfl, by kernel_rfl⟩
instance : Flds Tryz.prog 259 [⟨17, false, 0, 1⟩] := ⟨by kernel_rfl⟩
instance : Ty Tryz.prog 260 (.struct fs259) 1 8 (.agg #[(.pointer none)]) := ⟨by kernel_rfl, by kernel_rfl⟩
instance : Flds Tryz.prog 260 [⟨17, false, 0, 1⟩] := ⟨by kernel_rfl⟩
instance : Ty Tryz.prog 261 (.pointer 415) 1 8 (.pointer none) := ⟨by kernel_rfl, by kernel_rfl⟩
instance : Ty Tryz.prog 262 (.func #[20] #[235] false) 1 8 (.nilFunc) := ⟨by kernel_rfl, by kernel_rfl⟩
instance : Ty Tryz.prog 263 (.func #[] #[232] false) 1 8 (.nilFunc) := ⟨by kernel_rfl, by kernel_rfl⟩
instance : Ty Tryz.prog 264 (.func #[232] #[] false) 1 8 (.nilFunc) := ⟨by kernel_rfl, by kernel_rfl⟩
instance : Ty Tryz.prog 265 (.interface im265) 1 16 (.nilIface) := ⟨by kernel_rfl, by kernel_rfl⟩
instance : Ty Tryz.prog 267 (.func #[20] #[4] false) 1 8 (.nilFunc) := ⟨by kernel_rfl, by kernel_rfl⟩
instance : Ty Tryz.prog 268 (.interface im268) 1 16 (.nilIface) := ⟨by kernel_rfl, by kernel_rfl⟩
instance : Ty Tryz.prog 269 (.func #[] #[125] false) 1 8 (.nilFunc) := ⟨by kernel_rfl, by kernel_rfl⟩
instance : Ty Tryz.prog 270 (.interface im270) 1 16 (.nilIface) := ⟨by kernel_rfl, by kernel_rfl⟩
instance : Ty Tryz.prog 271 (.slice 125) 1 24 (.slice none 0 0) := ⟨by kernel_rfl, by kernel_rfl⟩
instance : Ty Tryz.prog 272 (.func #[] #[271] false) 1 8 (.nilFunc) := ⟨by kernel_rfl, by kernel_rfl⟩
instance : Ty Tryz.prog 273 (.interface im273) 1 16 (.nilIface) := ⟨by kernel_rfl, by kernel_rfl⟩
instance : Ty Tryz.prog 274 (.interface im273) 1 16 (.nilIface) := ⟨by kernel_rfl, by kernel_rfl⟩
instance : Ty Tryz.prog 276 (.func #[67] #[274, 4] false) 1 8 (.nilFunc) := ⟨by kernel_rfl, by kernel_rfl⟩
instance : Ty Tryz.prog 277 (.array 5 3) 5 40 (.agg #[(.int .i64 0), (.int .i64 0), (.int .i64 0), (.int .i64 0), (.int .i64 0)]) := ⟨by kernel_rfl, by kernel_rfl⟩
instance : Ty Tryz.prog 278 (.func #[34] #[277] false) 1 8 (.nilFunc) := ⟨by kernel_rfl, by kernel_rfl⟩
instance : Ty Tryz.prog 279 (.chan .both 291) 1 8 (.chan none) := ⟨by kernel_rfl, by kernel_rfl⟩
instance : Ty Tryz.prog 280 (.struct fs280) 0 0 (.agg #[]) := ⟨by kernel_rfl, by kernel_rfl⟩
instance : Flds Tryz.prog 280 [] := ⟨by kernel_rfl⟩
instance : Ty Tryz.prog 281 (.struct fs280) 0 0 (.agg #[]) := ⟨by kernel_rfl, by kernel_rfl⟩
instance : Flds Tryz.prog 281 [] := ⟨by kernel_rfl⟩
instance : Ty Tryz.prog 282 (.struct fs280) 0 0 (.agg #[]) := ⟨by kernel_rfl, by kernel_rfl⟩
instance : Flds Tryz.prog 282 [] := ⟨by kernel_rfl⟩
instance : Ty Tryz.prog 283 (.struct fs280) 0 0 (.agg #[]) := ⟨by kernel_rfl, by kernel_rfl⟩
instance : Flds Tryz.prog 283 [] := ⟨by kernel_rfl⟩
instance : Ty Tryz.prog 284 (.int .u64) 1 8 (.int .u64 0) := ⟨by kernel_rfl, by kernel_rfl⟩
instance : Ty Tryz.prog 285 (.struct fs285) 1 8 (.agg #[(.int .u64 0)]) := ⟨by kernel_rfl, by kernel_rfl⟩
instance : Flds Tryz.prog 285 [⟨282, true, 0, 0⟩, ⟨283, true, 0, 0⟩, ⟨284, false, 0, 1⟩] := ⟨by kernel_rfl⟩
instance : Ty Tryz.prog 286 (.struct fs285) 1 8 (.agg #[(.int .u64 0)]) := ⟨by kernel_rfl, by kernel_rfl⟩
instance : Flds Tryz.prog 286 [⟨282, true, 0, 0⟩, ⟨283, true, 0, 0⟩, ⟨284, false, 0, 1⟩] := ⟨by kernel_rfl⟩
instance : Ty Tryz.prog 287 (.int .u32) 1 4 (.int .u32 0) := ⟨by kernel_rfl, by kernel_rfl⟩
instance : Ty Tryz.prog 288 (.struct fs288) 2 16 (.agg #[(.int .u64 0), (.int .u32 0)]) := ⟨by kernel_rfl, by kernel_rfl⟩
instance : Flds Tryz.prog 288 [⟨281, true, 0, 0⟩, ⟨286, true, 0, 1⟩, ⟨287, false, 1, 1⟩] := ⟨by kernel_rfl⟩
instance : Ty Tryz.prog 289 (.struct fs288) 2 16 (.agg #[(.int .u64 0), (.int .u32 0)]) := ⟨by kernel_rfl, by kernel_rfl⟩
instance : Flds Tryz.prog 289 [⟨281, true, 0, 0⟩, ⟨286, true, 0, 1⟩, ⟨287, false, 1, 1⟩] := ⟨by kernel_rfl⟩
instance : Ty Tryz.prog 290 (.struct fs290) 2 32 (.agg #[(.int .i64 0), (.slice none 0 0)]) := ⟨by kernel_rfl, by kernel_rfl⟩
instance : Flds Tryz.prog 290 [⟨3, false, 0, 1⟩, ⟨70, false, 1, 1⟩] := ⟨by kernel_rfl⟩
instance : Ty Tryz.prog 291 (.struct fs290) 2 32 (.agg #[(.int .i64 0), (.slice none 0 0)]) := ⟨by kernel_rfl, by kernel_rfl⟩
instance : Flds Tryz.prog 291 [⟨3, false, 0, 1⟩, ⟨70, false, 1, 1⟩] := ⟨by kernel_rfl⟩
instance : Ty Tryz.prog 292 (.array 4 70) 4 96 (.agg #[(.slice none 0 0), (.slice none 0 0), (.slice none 0 0), (.slice none 0 0)]) := ⟨by kernel_rfl, by kernel_rfl⟩
instance : Ty Tryz.prog 293 (.struct fs293) 2 48 (.agg #[(.slice none 0 0), (.slice none 0 0)]) := ⟨by kernel_rfl, by kernel_rfl⟩
instance : Flds Tryz.prog 293 [⟨182, false, 0, 1⟩, ⟨183, false, 1, 1⟩] := ⟨by kernel_rfl⟩
instance : Ty Tryz.prog 294 (.struct fs293) 2 48 (.agg #[(.slice none 0 0), (.slice none 0 0)]) := ⟨by kernel_rfl, by kernel_rfl⟩
instance : Flds Tryz.prog 294 [⟨182, false, 0, 1⟩, ⟨183, false, 1, 1⟩] := ⟨by kernel_rfl⟩
instance : Ty Tryz.prog 295 (.func #[34, 3] #[294] false) 1 8 (.nilFunc) := ⟨by kernel_rfl, by kernel_rfl⟩
instance : Ty Tryz.prog 296 (.func #[169, 72] #[169] false) 1 8 (.nilFunc) := ⟨by kernel_rfl, by kernel_rfl⟩
instance : Ty Tryz.prog 297 (.func #[53, 3, 3] #[53] false) 1 8 (.nilFunc) := ⟨by kernel_rfl, by kernel_rfl⟩
instance : Ty Tryz.prog 298 (.func #[165, 165] #[4] false) 1 8 (.nilFunc) := ⟨by kernel_rfl, by kernel_rfl⟩
instance : Ty Tryz.prog 299 (.func #[165] #[165] false) 1 8 (.nilFunc) := ⟨by kernel_rfl, by kernel_rfl⟩
instance : Ty Tryz.prog 300 (.func #[167, 3] #[167] false) 1 8 (.nilFunc) := ⟨by kernel_rfl, by kernel_rfl⟩
instance : Ty Tryz.prog 301 (.func #[34] #[167] false) 1 8 (.nilFunc) := ⟨by kernel_rfl, by kernel_rfl⟩
instance : Ty Tryz.prog 302 (.func #[165, 165, 114] #[4] false) 1 8 (.nilFunc) := ⟨by kernel_rfl, by kernel_rfl⟩
instance : Ty Tryz.prog 304 (.func #[34, 3, 3] #[226, 4] false) 1 8 (.nilFunc) := ⟨by kernel_rfl, by kernel_rfl⟩
instance : Ty Tryz.prog 305 (.func #[34, 3, 3] #[3] false) 1 8 (.nilFunc) := ⟨by kernel_rfl, by kernel_rfl⟩
instance : Ty Tryz.prog 306 (.struct fs306) 1 8 (.agg #[(.int .i64 0)]) := ⟨by kernel_rfl, by kernel_rfl⟩
instance : Flds Tryz.prog 306 [⟨3, false, 0, 1⟩] := ⟨by kernel_rfl⟩
instance : Ty Tryz.prog 307 (.struct fs306) 1 8 (.agg #[(.int .i64 0)]) := ⟨by kernel_rfl, by kernel_rfl⟩
instance : Flds Tryz.prog 307 [⟨3, false, 0, 1⟩] := ⟨by kernel_rfl⟩
instance : Ty Tryz.prog 308 (.struct fs280) 0 0 (.agg #[]) := ⟨by kernel_rfl, by kernel_rfl⟩
instance : Flds Tryz.prog 308 [] := ⟨by kernel_rfl⟩
instance : Ty Tryz.prog 309 (.struct fs280) 0 0 (.agg #[]) := ⟨by kernel_rfl, by kernel_rfl⟩
instance : Flds Tryz.prog 309 [] := ⟨by kernel_rfl⟩
instance : Ty Tryz.prog 310 (.struct fs280) 0 0 (.agg #[]) := ⟨by kernel_rfl, by kernel_rfl⟩
instance : Flds Tryz.prog 310 [] := ⟨by kernel_rfl⟩
instance : Ty Tryz.prog 311 (.struct fs280) 0 0 (.agg #[]) := ⟨by kernel_rfl, by kernel_rfl⟩
instance : Flds Tryz.prog 311 [] := ⟨by kernel_rfl⟩
instance : Ty Tryz.prog 312 (.struct fs280) 0 0 (.agg #[]) := ⟨by kernel_rfl, by kernel_rfl⟩
instance : Flds Tryz.prog 312 [] := ⟨by kernel_rfl⟩
instance : Ty Tryz.prog 313 (.struct fs280) 0 0 (.agg #[]) := ⟨by kernel_rfl, by kernel_rfl⟩
instance : Flds Tryz.prog 313 [] := ⟨by kernel_rfl⟩
instance : Ty Tryz.prog 314 (.struct fs280) 0 0 (.agg #[]) := ⟨by kernel_rfl, by kernel_rfl⟩
instance : Flds Tryz.prog 314 [] := ⟨by kernel_rfl⟩
instance : Ty Tryz.prog 315 (.array 7 274) 7 112 (.agg #[.nilIface, .nilIface, .nilIface, .nilIface, .nilIface, .nilIface, .nilIface]) := ⟨by kernel_rfl, by kernel_rfl⟩
instance : Ty Tryz.prog 316 (.pointer 289) 1 8 (.pointer none) := ⟨by kernel_rfl, by kernel_rfl⟩
instance : Ty Tryz.prog 317 (.func #[229] #[] false) 1 8 (.nilFunc) := ⟨by kernel_rfl, by kernel_rfl⟩
instance : Ty Tryz.prog 318 (.int .i64) 1 8 (.int .i64 0) := ⟨by kernel_rfl, by kernel_rfl⟩
instance : Ty Tryz.prog 319 (.func #[316] #[318] false) 1 8 (.nilFunc) := ⟨by kernel_rfl, by kernel_rfl⟩
instance : Ty Tryz.prog 320 (.func #[9] #[] false) 1 8 (.nilFunc) := ⟨by kernel_rfl, by kernel_rfl⟩
instance : Ty Tryz.prog 321 (.func #[284] #[284] false) 1 8 (.nilFunc) := ⟨by kernel_rfl, by kernel_rfl⟩
instance : Ty Tryz.prog 322 (.int .u64) 1 8 (.int .u64 0) := ⟨by kernel_rfl, by kernel_rfl⟩
instance : Ty Tryz.prog 323 (.pointer 287) 1 8 (.pointer none) := ⟨by kernel_rfl, by kernel_rfl⟩
instance : Ty Tryz.prog 324 (.func #[] #[284] false) 1 8 (.nilFunc) := ⟨by kernel_rfl, by kernel_rfl⟩
instance : Ty Tryz.prog 325 (.func #[284] #[] false) 1 8 (.nilFunc) := ⟨by kernel_rfl, by kernel_rfl⟩
instance : Ty Tryz.prog 326 (.func #[316] #[] false) 1 8 (.nilFunc) := ⟨by kernel_rfl, by kernel_rfl⟩
instance : Ty Tryz.prog 327 (.func #[323, 4, 3] #[] false) 1 8 (.nilFunc) := ⟨by kernel_rfl, by kernel_rfl⟩
instance : Ty Tryz.prog 328 (.func #[316] #[4] false) 1 8 (.nilFunc) := ⟨by kernel_rfl, by kernel_rfl⟩
instance : Ty Tryz.prog 329 (.func #[284, 284] #[4] false) 1 8 (.nilFunc) := ⟨by kernel_rfl, by kernel_rfl⟩
instance : Ty Tryz.prog 330 (.func #[323, 4] #[] false) 1 8 (.nilFunc) := ⟨by kernel_rfl, by kernel_rfl⟩
instance : Ty Tryz.prog 331 (.func #[34, 3] #[226, 4] false) 1 8 (.nilFunc) := ⟨by kernel_rfl, by kernel_rfl⟩
instance : Ty Tryz.prog 332 (.struct fs332) 4 32 (.agg #[(.int .i64 0), (.int .i64 0), (.int .i64 0), (.int .i64 0)]) := ⟨by kernel_rfl, by kernel_rfl⟩
instance : Flds Tryz.prog 332 [⟨257, true, 0, 3⟩, ⟨3, false, 3, 1⟩] := ⟨by kernel_rfl⟩
instance : Ty Tryz.prog 333 (.struct fs332) 4 32 (.agg #[(.int .i64 0), (.int .i64 0), (.int .i64 0), (.int .i64 0)]) := ⟨by kernel_rfl, by kernel_rfl⟩
instance : Flds Tryz.prog 333 [⟨257, true, 0, 3⟩, ⟨3, false, 3, 1⟩] := ⟨by kernel_rfl⟩
instance : Ty Tryz.prog 334 (.slice 333) 1 24 (.slice none 0 0) := ⟨by kernel_rfl, by kernel_rfl⟩
instance : Ty Tryz.prog 335 (.struct fs335) 4 32 (.agg #[(.int .i64 0), (.int .i64 0), (.int .i64 0), (.int .i64 0)]) := ⟨by kernel_rfl, by kernel_rfl⟩
instance : Flds Tryz.prog 335 [⟨3, false, 0, 1⟩, ⟨3, false, 1, 1⟩, ⟨3, false, 2, 1⟩, ⟨3, false, 3, 1⟩] := ⟨by kernel_rfl⟩
instance : Ty Tryz.prog 336 (.struct fs335) 4 32 (.agg #[(.int .i64 0), (.int .i64 0), (.int .i64 0), (.int .i64 0)]) := ⟨by kernel_rfl, by kernel_rfl⟩
instance : Flds Tryz.prog 336 [⟨3, false, 0, 1⟩, ⟨3, false, 1, 1⟩, ⟨3, false, 2, 1⟩, ⟨3, false, 3, 1⟩] := ⟨by kernel_rfl⟩
instance : Ty Tryz.prog 337 (.func #[3, 3] #[336] false) 1 8 (.nilFunc) := ⟨by kernel_rfl, by kernel_rfl⟩
instance : Ty Tryz.prog 338 (.func #[34, 3, 3, 3] #[333] false) 1 8 (.nilFunc) := ⟨by kernel_rfl, by kernel_rfl⟩
instance : Ty Tryz.prog 340 (.func #[167, 35] #[167, 70] false) 1 8 (.nilFunc) := ⟨by kernel_rfl, by kernel_rfl⟩
instance : Ty Tryz.prog 341 (.struct fs341) 7 96 (.agg #[(.bool false), (.bool false), (.int .i64 0), (.int .i64 0), (.slice none 0 0), (.slice none 0 0), (.slice none 0 0)]) := ⟨by kernel_rfl, by kernel_rfl⟩
instance : Flds Tryz.prog 341 [⟨169, true, 0, 7⟩] := ⟨by kernel_rfl⟩
instance : Ty Tryz.prog 342 (.struct fs341) 7 96 (.agg #[(.bool false), (.bool false), (.int .i64 0), (.int .i64 0), (.slice none 0 0), (.slice none 0 0), (.slice none 0 0)]) := ⟨by kernel_rfl, by kernel_rfl⟩
instance : Flds Tryz.prog 342 [⟨169, true, 0, 7⟩] := ⟨by kernel_rfl⟩
instance : Ty Tryz.prog 343 (.func #[72] #[169] false) 1 8 (.nilFunc) := ⟨by kernel_rfl, by kernel_rfl⟩
instance : Ty Tryz.prog 344 (.map 3 343) 1 8 (.map none) := ⟨by kernel_rfl, by kernel_rfl⟩
instance : Ty Tryz.prog 346 (.func #[34, 182] #[70] false) 1 8 (.nilFunc) := ⟨by kernel_rfl, by kernel_rfl⟩
instance : Ty Tryz.prog 347 (.func #[34, 3] #[70] false) 1 8 (.nilFunc) := ⟨by kernel_rfl, by kernel_rfl⟩
instance : Ty Tryz.prog 348 (.pointer 286) 1 8 (.pointer none) := ⟨by kernel_rfl, by kernel_rfl⟩
instance : Ty Tryz.prog 349 (.func #[350, 284] #[284] false) 1 8 (.nilFunc) := ⟨by kernel_rfl, by kernel_rfl⟩
instance : Ty Tryz.prog 350 (.pointer 284) 1 8 (.pointer none) := ⟨by kernel_rfl, by kernel_rfl⟩
instance : Ty Tryz.prog 351 (.func #[350] #[284] false) 1 8 (.nilFunc) := ⟨by kernel_rfl, by kernel_rfl⟩
instance : Ty Tryz.prog 352 (.func #[350, 284] #[] false) 1 8 (.nilFunc) := ⟨by kernel_rfl, by kernel_rfl⟩
instance : Ty Tryz.prog 353 (.func #[350, 284, 284] #[4] false) 1 8 (.nilFunc) := ⟨by kernel_rfl, by kernel_rfl⟩
instance : Ty Tryz.prog 354 (.slice 226) 1 24 (.slice none 0 0) := ⟨by kernel_rfl, by kernel_rfl⟩
instance : Ty Tryz.prog 355 (.func #[34, 356] #[354] false) 1 8 (.nilFunc) := ⟨by kernel_rfl, by kernel_rfl⟩
instance : Ty Tryz.prog 356 (.func #[3, 226] #[226] false) 1 8 (.nilFunc) := ⟨by kernel_rfl, by kernel_rfl⟩
instance : Ty Tryz.prog 357 (.pointer 294) 1 8 (.pointer none) := ⟨by kernel_rfl, by kernel_rfl⟩
instance : Ty Tryz.prog 358 (.func #[3] #[336] false) 1 8 (.nilFunc) := ⟨by kernel_rfl, by kernel_rfl⟩
instance : Ty Tryz.prog 359 (.array 8 358) 8 64 (.agg #[.nilFunc, .nilFunc, .nilFunc, .nilFunc, .nilFunc, .nilFunc, .nilFunc, .nilFunc]) := ⟨by kernel_rfl, by kernel_rfl⟩
instance : Ty Tryz.prog 360 (.array 4 3) 4 32 (.agg #[(.int .i64 0), (.int .i64 0), (.int .i64 0), (.int .i64 0)]) := ⟨by kernel_rfl, by kernel_rfl⟩
instance : Ty Tryz.prog 361 (.slice 4) 1 24 (.slice none 0 0) := ⟨by kernel_rfl, by kernel_rfl⟩
instance : Ty Tryz.prog 362 (.func #[167, 3] #[70] false) 1 8 (.nilFunc) := ⟨by kernel_rfl, by kernel_rfl⟩
instance : Ty Tryz.prog 364 (.func #[167, 69] #[167, 70, 4] false) 1 8 (.nilFunc) := ⟨by kernel_rfl, by kernel_rfl⟩
instance : Ty Tryz.prog 365 (.func #[70] #[] false) 1 8 (.nilFunc) := ⟨by kernel_rfl, by kernel_rfl⟩
instance : Ty Tryz.prog 366 (.func #[369] #[3, 4] false) 1 8 (.nilFunc) := ⟨by kernel_rfl, by kernel_rfl⟩
instance : Ty Tryz.prog 367 (.func #[] #[3, 4] false) 1 8 (.nilFunc) := ⟨by kernel_rfl, by kernel_rfl⟩
instance : Ty Tryz.prog 368 (.struct fs368) 3 40 (.agg #[(.int .i64 0), (.slice none 0 0), (.int .i64 0)]) := ⟨by kernel_rfl, by kernel_rfl⟩
instance : Flds Tryz.prog 368 [⟨34, true, 0, 2⟩, ⟨3, false, 2, 1⟩] := ⟨by kernel_rfl⟩
instance : Ty Tryz.prog 369 (.struct fs368) 3 40 (.agg #[(.int .i64 0), (.slice none 0 0), (.int .i64 0)]) := ⟨by kernel_rfl, by kernel_rfl⟩
instance : Flds Tryz.prog 369 [⟨34, true, 0, 2⟩, ⟨3, false, 2, 1⟩] := ⟨by kernel_rfl⟩
instance : Ty Tryz.prog 370 (.array 4 366) 4 32 (.agg #[.nilFunc, .nilFunc, .nilFunc, .nilFunc]) := ⟨by kernel_rfl, by kernel_rfl⟩
instance : Ty Tryz.prog 372 (.func #[34, 373] #[361] false) 1 8 (.nilFunc) := ⟨by kernel_rfl, by kernel_rfl⟩
instance : Ty Tryz.prog 373 (.func #[3, 226] #[4] false) 1 8 (.nilFunc) := ⟨by kernel_rfl, by kernel_rfl⟩
instance : Ty Tryz.prog 374 (.func #[70, 3] #[4] false) 1 8 (.nilFunc) := ⟨by kernel_rfl, by kernel_rfl⟩
instance : Ty Tryz.prog 375 (.func #[167, 35] #[167, 70, 4] false) 1 8 (.nilFunc) := ⟨by kernel_rfl, by kernel_rfl⟩
instance : Ty Tryz.prog 376 (.func #[70, 3, 3, 3] #[] false) 1 8 (.nilFunc) := ⟨by kernel_rfl, by kernel_rfl⟩
instance : Ty Tryz.prog 377 (.func #[322] #[3] false) 1 8 (.nilFunc) := ⟨by kernel_rfl, by kernel_rfl⟩
instance : Ty Tryz.prog 378 (.map 3 70) 1 8 (.map none) := ⟨by kernel_rfl, by kernel_rfl⟩
instance : Ty Tryz.prog 379 (.func #[167] #[378] false) 1 8 (.nilFunc) := ⟨by kernel_rfl, by kernel_rfl⟩
instance : Ty Tryz.prog 380 (.func #[70, 3, 3] #[] false) 1 8 (.nilFunc) := ⟨by kernel_rfl, by kernel_rfl⟩
instance : Ty Tryz.prog 381 (.int .i64) 1 8 (.int .i64 0) := ⟨by kernel_rfl, by kernel_rfl⟩
instance : Ty Tryz.prog 383 (.func #[70, 3, 3] #[3, 381] false) 1 8 (.nilFunc) := ⟨by kernel_rfl, by kernel_rfl⟩
instance : Ty Tryz.prog 384 (.func #[70, 3, 3] #[4] false) 1 8 (.nilFunc) := ⟨by kernel_rfl, by kernel_rfl⟩
instance : Ty Tryz.prog 385 (.func #[70, 3, 3, 3] #[3] false) 1 8 (.nilFunc) := ⟨by kernel_rfl, by kernel_rfl⟩
instance : Ty Tryz.prog 386 (.func #[70, 3, 3, 3] #[3, 4] false) 1 8 (.nilFunc) := ⟨by kernel_rfl, by kernel_rfl⟩
instance : Ty Tryz.prog 387 (.func #[287] #[3] false) 1 8 (.nilFunc) := ⟨by kernel_rfl, by kernel_rfl⟩
instance : Ty Tryz.prog 388 (.func #[284] #[3] false) 1 8 (.nilFunc) := ⟨by kernel_rfl, by kernel_rfl⟩
instance : Ty Tryz.prog 389 (.int .u64) 1 8 (.int .u64 0) := ⟨by kernel_rfl, by kernel_rfl⟩
instance : Ty Tryz.prog 390 (.func #[3] #[322] false) 1 8 (.nilFunc) := ⟨by kernel_rfl, by kernel_rfl⟩
instance : Ty Tryz.prog 391 (.func #[70, 3, 392] #[3] false) 1 8 (.nilFunc) := ⟨by kernel_rfl, by kernel_rfl⟩
instance : Ty Tryz.prog 392 (.pointer 3) 1 8 (.pointer none) := ⟨by kernel_rfl, by kernel_rfl⟩
instance : Ty Tryz.prog 393 (.func #[70, 3, 3, 3, 392] #[3] false) 1 8 (.nilFunc) := ⟨by kernel_rfl, by kernel_rfl⟩
instance : Ty Tryz.prog 394 (.pointer 389) 1 8 (.pointer none) := ⟨by kernel_rfl, by kernel_rfl⟩
instance : Ty Tryz.prog 396 (.func #[70, 3, 3, 392] #[3, 3] false) 1 8 (.nilFunc) := ⟨by kernel_rfl, by kernel_rfl⟩
instance : Ty Tryz.prog 397 (.func #[] #[9] false) 1 8 (.nilFunc) := ⟨by kernel_rfl, by kernel_rfl⟩
instance : Ty Tryz.prog 398 (.struct fs398) 4 40 (.agg #[(.pointer none), (.pointer none), (.pointer none), (.string ⟨#[]⟩)]) := ⟨by kernel_rfl, by kernel_rfl⟩
instance : Flds Tryz.prog 398 [⟨17, false, 0, 1⟩, ⟨17, false, 1, 1⟩, ⟨17, false, 2, 1⟩, ⟨9, false, 3, 1⟩] := ⟨by kernel_rfl⟩
instance : Ty Tryz.prog 399 (.struct fs398) 4 40 (.agg #[(.pointer none), (.pointer none), (.pointer none), (.string ⟨#[]⟩)]) := ⟨by kernel_rfl, by kernel_rfl⟩
instance : Flds Tryz.prog 399 [⟨17, false, 0, 1⟩, ⟨17, false, 1, 1⟩, ⟨17, false, 2, 1⟩, ⟨9, false, 3, 1⟩] := ⟨by kernel_rfl⟩
instance : Ty Tryz.prog 400 (.array 0 16) 0 0 (.agg #[]) := ⟨by kernel_rfl, by kernel_rfl⟩
instance : Ty Tryz.prog 401 (.struct fs401) 0 0 (.agg #[]) := ⟨by kernel_rfl, by kernel_rfl⟩
instance : Flds Tryz.prog 401 [⟨400, true, 0, 0⟩] := ⟨by kernel_rfl⟩
instance : Ty Tryz.prog 402 (.struct fs401) 0 0 (.agg #[]) := ⟨by kernel_rfl, by kernel_rfl⟩
instance : Flds Tryz.prog 402 [⟨400, true, 0, 0⟩] := ⟨by kernel_rfl⟩
instance : Ty Tryz.prog 403 (.func #[] #[3] false) 1 8 (.nilFunc) := ⟨by kernel_rfl, by kernel_rfl⟩
instance : Ty Tryz.prog 404 (.func #[] #[17] false) 1 8 (.nilFunc) := ⟨by kernel_rfl, by kernel_rfl⟩
instance : Ty Tryz.prog 405 (.int .u8) 1 1 (.int .u8 0) := ⟨by kernel_rfl, by kernel_rfl⟩
instance : Ty Tryz.prog 406 (.func #[229, 229] #[4] false) 1 8 (.nilFunc) := ⟨by kernel_rfl, by kernel_rfl⟩
instance : Ty Tryz.prog 407 (.pointer 5) 1 8 (.pointer none) := ⟨by kernel_rfl, by kernel_rfl⟩
instance : Ty Tryz.prog 408 (.int .i32) 1 4 (.int .i32 0) := ⟨by kernel_rfl, by kernel_rfl⟩
instance : Ty Tryz.prog 409 (.int .i32) 1 4 (.int .i32 0) := ⟨by kernel_rfl, by kernel_rfl⟩
instance : Ty Tryz.prog 410 (.struct fs410) 11 48 (.agg #[(.int .u64 0), (.int .u64 0), (.int .u32 0), (.int .u8 0), (.int .u8 0), (.int .u8 0), (.int .u8 0), .nilFunc, (.pointer none), (.int .i32 0), (.int .i32 0)]) := ⟨by kernel_rfl, by kernel_rfl⟩
instance : Flds Tryz.prog 410 [⟨12, false, 0, 1⟩, ⟨12, false, 1, 1⟩, ⟨287, false, 2, 1⟩, ⟨405, false, 3, 1⟩, ⟨5, false, 4, 1⟩, ⟨5, false, 5, 1⟩, ⟨237, false, 6, 1⟩, ⟨406, false, 7, 1⟩, ⟨407, false, 8, 1⟩, ⟨408, false, 9, 1⟩, ⟨409, false, 10, 1⟩] := ⟨by kernel_rfl⟩
instance : Ty Tryz.prog 411 (.struct fs410) 11 48 (.agg #[(.int .u64 0), (.int .u64 0), (.int .u32 0), (.int .u8 0), (.int .u8 0), (.int .u8 0), (.int .u8 0), .nilFunc, (.pointer none), (.int .i32 0), (.int .i32 0)]) := ⟨by kernel_rfl, by kernel_rfl⟩
instance : Flds Tryz.prog 411 [⟨12, false, 0, 1⟩, ⟨12, false, 1, 1⟩, ⟨287, false, 2, 1⟩, ⟨405, false, 3, 1⟩, ⟨5, false, 4, 1⟩, ⟨5, false, 5, 1⟩, ⟨237, false, 6, 1⟩, ⟨406, false, 7, 1⟩, ⟨407, false, 8, 1⟩, ⟨408, false, 9, 1⟩, ⟨409, false, 10, 1⟩] := ⟨by kernel_rfl⟩
instance : Ty Tryz.prog 412 (.func #[] #[12] false) 1 8 (.nilFunc) := ⟨by kernel_rfl, by kernel_rfl⟩
instance : Ty Tryz.prog 413 (.func #[] #[416] false) 1 8 (.nilFunc) := ⟨by kernel_rfl, by kernel_rfl⟩
instance : Ty Tryz.prog 414 (.struct fs414) 2 24 (.agg #[(.string ⟨#[]⟩), (.int .u8 0)]) := ⟨by kernel_rfl, by kernel_rfl⟩
instance : Flds Tryz.prog 414 [⟨9, false, 0, 1⟩, ⟨237, false, 1, 1⟩] := ⟨by kernel_rfl⟩
instance : Ty Tryz.prog 415 (.struct fs414) 2 24 (.agg #[(.string ⟨#[]⟩), (.int .u8 0)]) := ⟨by kernel_rfl, by kernel_rfl⟩
instance : Flds Tryz.prog 415 [⟨9, false, 0, 1⟩, ⟨237, false, 1, 1⟩] := ⟨by kernel_rfl⟩
instance : Ty Tryz.prog 416 (.pointer 420) 1 8 (.pointer none) := ⟨by kernel_rfl, by kernel_rfl⟩
instance : Ty Tryz.prog 417 (.func #[] #[421] false) 1 8 (.nilFunc) := ⟨by kernel_rfl, by kernel_rfl⟩
instance : Ty Tryz.prog 418 (.int .u16) 1 2 (.int .u16 0) := ⟨by kernel_rfl, by kernel_rfl⟩
instance : Ty Tryz.prog 419 (.struct fs419) 5 16 (.agg #[(.int .i32 0), (.int .u16 0), (.int .u16 0), (.int .u32 0), (.int .u32 0)]) := ⟨by kernel_rfl, by kernel_rfl⟩
instance : Flds Tryz.prog 419 [⟨408, false, 0, 1⟩, ⟨418, false, 1, 1⟩, ⟨418, false, 2, 1⟩, ⟨287, false, 3, 1⟩, ⟨287, false, 4, 1⟩] := ⟨by kernel_rfl⟩
instance : Ty Tryz.prog 420 (.struct fs419) 5 16 (.agg #[(.int .i32 0), (.int .u16 0), (.int .u16 0), (.int .u32 0), (.int .u32 0)]) := ⟨by kernel_rfl, by kernel_rfl⟩
instance : Flds Tryz.prog 420 [⟨408, false, 0, 1⟩, ⟨418, false, 1, 1⟩, ⟨418, false, 2, 1⟩, ⟨287, false, 3, 1⟩, ⟨287, false, 4, 1⟩] := ⟨by kernel_rfl⟩
instance : Ty Tryz.prog 421 (.slice 424) 1 24 (.slice none 0 0) := ⟨by kernel_rfl, by kernel_rfl⟩
instance : Ty Tryz.prog 422 (.int .i32) 1 4 (.int .i32 0) := ⟨by kernel_rfl, by kernel_rfl⟩
instance : Ty Tryz.prog 423 (.struct fs423) 4 16 (.agg #[(.int .i32 0), (.int .i32 0), (.int .i32 0), (.int .i32 0)]) := ⟨by kernel_rfl, by kernel_rfl⟩
instance : Flds Tryz.prog 423 [⟨408, false, 0, 1⟩, ⟨409, false, 1, 1⟩, ⟨422, false, 2, 1⟩, ⟨422, false, 3, 1⟩] := ⟨by kernel_rfl⟩
instance : Ty Tryz.prog 424 (.struct fs423) 4 16 (.agg #[(.int .i32 0), (.int .i32 0), (.int .i32 0), (.int .i32 0)]) := ⟨by kernel_rfl, by kernel_rfl⟩
instance : Flds Tryz.prog 424 [⟨408, false, 0, 1⟩, ⟨409, false, 1, 1⟩, ⟨422, false, 2, 1⟩, ⟨422, false, 3, 1⟩] := ⟨by kernel_rfl⟩
instance : Ty Tryz.prog 425 (.pointer 125) 1 8 (.pointer none) := ⟨by kernel_rfl, by kernel_rfl⟩
instance : Fun Tryz.prog 3 := ⟨by kernel_rfl⟩ -- loop.example/lucarne/laws.FnExactKeepOk
instance : Fun Tryz.prog 4 := ⟨by kernel_rfl⟩ -- loop.example/lucarne/laws.FnExactKeepGrid
instance : Fun Tryz.prog 5 := ⟨by kernel_rfl⟩ -- loop.example/lucarne/laws.FnExactWorldPlay
instance : Fun Tryz.prog 6 := ⟨by kernel_rfl⟩ -- loop.example/lucarne/laws.FnExactKeepTell
instance : Fun Tryz.prog 7 := ⟨by kernel_rfl⟩ -- loop.example/lucarne/laws.FnExactWorldDo
instance : Fun Tryz.prog 8 := ⟨by kernel_rfl⟩ -- loop.example/lucarne/laws.FnExactKeepEdit
instance : Fun Tryz.prog 9 := ⟨by kernel_rfl⟩ -- loop.example/lucarne/laws.FnExactWorldCalm
instance : Fun Tryz.prog 10 := ⟨by kernel_rfl⟩ -- loop.example/lucarne/laws.FnExactKeepHear
instance : Fun Tryz.prog 11 := ⟨by kernel_rfl⟩ -- loop.example/lucarne/laws.FnExactWorldOk
instance : Fun Tryz.prog 12 := ⟨by kernel_rfl⟩ -- loop.example/lucarne/laws.szKeeper
instance : Fun Tryz.prog 13 := ⟨by kernel_rfl⟩ -- loop.example/lucarne/spec.KeepOk
instance : Fun Tryz.prog 14 := ⟨by kernel_rfl⟩ -- loop.example/lucarne/laws.toKeeper
instance : Fun Tryz.prog 15 := ⟨by kernel_rfl⟩ -- loop.example/lucarne/impl.KeepOk
instance : Fun Tryz.prog 16 := ⟨by kernel_rfl⟩ -- loop.example/lucarne/laws.eqKeeper
instance : Fun Tryz.prog 17 := ⟨by kernel_rfl⟩ -- loop.example/lucarne/spec.KeepGrid
instance : Fun Tryz.prog 18 := ⟨by kernel_rfl⟩ -- loop.example/lucarne/impl.KeepGrid
instance : Fun Tryz.prog 19 := ⟨by kernel_rfl⟩ -- loop.example/lucarne/laws.eqGrid
instance : Fun Tryz.prog 20 := ⟨by kernel_rfl⟩ -- loop.example/lucarne/laws.markKeeper
instance : Fun Tryz.prog 21 := ⟨by kernel_rfl⟩ -- loop.example/lucarne/laws.markGrid
instance : Fun Tryz.prog 22 := ⟨by kernel_rfl⟩ -- loop.example/lucarne/laws.heldGrid
instance : Fun Tryz.prog 23 := ⟨by kernel_rfl⟩ -- loop.example/lucarne/laws.szGrid
instance : Fun Tryz.prog 24 := ⟨by kernel_rfl⟩ -- loop.example/lucarne/laws.szEventS
instance : Fun Tryz.prog 25 := ⟨by kernel_rfl⟩ -- loop.example/lucarne/spec.WorldPlay
instance : Fun Tryz.prog 26 := ⟨by kernel_rfl⟩ -- loop.example/lucarne/laws.toGrid
instance : Fun Tryz.prog 27 := ⟨by kernel_rfl⟩ -- loop.example/lucarne/laws.toEventS
instance : Fun Tryz.prog 28 := ⟨by kernel_rfl⟩ -- loop.example/lucarne/impl.WorldPlay
instance : Fun Tryz.prog 29 := ⟨by kernel_rfl⟩ -- loop.example/lucarne/laws.eqWorld
instance : Fun Tryz.prog 30 := ⟨by kernel_rfl⟩ -- loop.example/lucarne/laws.eqEventS
instance : Fun Tryz.prog 31 := ⟨by kernel_rfl⟩ -- loop.example/lucarne/laws.markEventS
instance : Fun Tryz.prog 32 := ⟨by kernel_rfl⟩ -- loop.example/lucarne/laws.markWorld
instance : Fun Tryz.prog 33 := ⟨by kernel_rfl⟩ -- loop.example/lucarne/laws.heldWorld
instance : Fun Tryz.prog 34 := ⟨by kernel_rfl⟩ -- loop.example/lucarne/spec.KeepTell
instance : Fun Tryz.prog 35 := ⟨by kernel_rfl⟩ -- loop.example/lucarne/impl.KeepTell
instance : Fun Tryz.prog 36 := ⟨by kernel_rfl⟩ -- loop.example/lucarne/laws.eqWord
instance : Fun Tryz.prog 37 := ⟨by kernel_rfl⟩ -- loop.example/lucarne/laws.markWord
instance : Fun Tryz.prog 38 := ⟨by kernel_rfl⟩ -- loop.example/lucarne/laws.heldWord
instance : Fun Tryz.prog 39 := ⟨by kernel_rfl⟩ -- loop.example/lucarne/laws.szWorld
instance : Fun Tryz.prog 40 := ⟨by kernel_rfl⟩ -- loop.example/lucarne/spec.WorldDo
instance : Fun Tryz.prog 41 := ⟨by kernel_rfl⟩ -- loop.example/lucarne/laws.toWorld
instance : Fun Tryz.prog 42 := ⟨by kernel_rfl⟩ -- loop.example/lucarne/laws.toEvent
instance : Fun Tryz.prog 43 := ⟨by kernel_rfl⟩ -- loop.example/lucarne/impl.WorldDo
instance : Fun Tryz.prog 44 := ⟨by kernel_rfl⟩ -- loop.example/lucarne/spec.KeepEdit
instance : Fun Tryz.prog 45 := ⟨by kernel_rfl⟩ -- loop.example/lucarne/laws.toEdit
instance : Fun Tryz.prog 46 := ⟨by kernel_rfl⟩ -- loop.example/lucarne/impl.KeepEdit
instance : Fun Tryz.prog 47 := ⟨by kernel_rfl⟩ -- loop.example/lucarne/laws.heldKeeper
instance : Fun Tryz.prog 48 := ⟨by kernel_rfl⟩ -- loop.example/lucarne/spec.WorldCalm
instance : Fun Tryz.prog 49 := ⟨by kernel_rfl⟩ -- loop.example/lucarne/impl.WorldCalm
instance : Fun Tryz.prog 50 := ⟨by kernel_rfl⟩ -- loop.example/lucarne/laws.szWord
instance : Fun Tryz.prog 51 := ⟨by kernel_rfl⟩ -- loop.example/lucarne/spec.KeepHear
instance : Fun Tryz.prog 52 := ⟨by kernel_rfl⟩ -- loop.example/lucarne/laws.toWord
instance : Fun Tryz.prog 53 := ⟨by kernel_rfl⟩ -- loop.example/lucarne/impl.KeepHear
instance : Fun Tryz.prog 54 := ⟨by kernel_rfl⟩ -- loop.example/lucarne/spec.WorldOk
instance : Fun Tryz.prog 55 := ⟨by kernel_rfl⟩ -- loop.example/lucarne/impl.WorldOk
instance : Fun Tryz.prog 56 := ⟨by kernel_rfl⟩ -- loop.example/lucarne/laws.szEditS
instance : Fun Tryz.prog 57 := ⟨by kernel_rfl⟩ -- loop.example/lucarne/laws.szPartS
instance : Fun Tryz.prog 58 := ⟨by kernel_rfl⟩ -- loop.example/lucarne/laws.szShownS
instance : Fun Tryz.prog 59 := ⟨by kernel_rfl⟩ -- loop.example/lucarne/spec.GridOk
instance : Fun Tryz.prog 60 := ⟨by kernel_rfl⟩ -- loop.example/lucarne/spec.l6In
instance : Fun Tryz.prog 61 := ⟨by kernel_rfl⟩ -- loop.example/lucarne/spec.l22Edits
instance : Fun Tryz.prog 62 := ⟨by kernel_rfl⟩ -- loop.example/lucarne/spec.l13Same
instance : Fun Tryz.prog 63 := ⟨by kernel_rfl⟩ -- loop.example/lucarne/spec.l22Own
instance : Fun Tryz.prog 64 := ⟨by kernel_rfl⟩ -- loop.example/lucarne/spec.l12Pic
instance : Fun Tryz.prog 65 := ⟨by kernel_rfl⟩ -- loop.example/lucarne/spec.l22Grid
instance : Fun Tryz.prog 66 := ⟨by kernel_rfl⟩ -- loop.example/lucarne/laws.toEditS
instance : Fun Tryz.prog 67 := ⟨by kernel_rfl⟩ -- loop.example/lucarne/laws.toPartS
instance : Fun Tryz.prog 68 := ⟨by kernel_rfl⟩ -- loop.example/lucarne/laws.toShownS
instance : Fun Tryz.prog 69 := ⟨by kernel_rfl⟩ -- loop.example/lucarne/impl.refused
instance : Fun Tryz.prog 70 := ⟨by kernel_rfl⟩ -- loop.example/lucarne/impl.keepCheck
instance : Fun Tryz.prog 71 := ⟨by kernel_rfl⟩ -- loop.example/lucarne/laws.eqEditS
instance : Fun Tryz.prog 72 := ⟨by kernel_rfl⟩ -- loop.example/lucarne/laws.eqPartS
instance : Fun Tryz.prog 73 := ⟨by kernel_rfl⟩ -- loop.example/lucarne/laws.eqShownS
instance : Fun Tryz.prog 74 := ⟨by kernel_rfl⟩ -- loop.example/lucarne/impl.keepVersion
instance : Fun Tryz.prog 75 := ⟨by kernel_rfl⟩ -- loop.example/lucarne/impl.keepGridOf
instance : Fun Tryz.prog 76 := ⟨by kernel_rfl⟩ -- loop.example/lucarne/laws.eqCellS
instance : Fun Tryz.prog 77 := ⟨by kernel_rfl⟩ -- loop.example/lucarne/laws.markEditS
instance : Fun Tryz.prog 78 := ⟨by kernel_rfl⟩ -- loop.example/lucarne/laws.markPartS
instance : Fun Tryz.prog 79 := ⟨by kernel_rfl⟩ -- loop.example/lucarne/laws.markShownS
instance : Fun Tryz.prog 80 := ⟨by kernel_rfl⟩ -- loop.example/lucarne/laws.markCellS
instance : Fun Tryz.prog 81 := ⟨by kernel_rfl⟩ -- loop.example/lucarne/laws.heldCellS
instance : Fun Tryz.prog 82 := ⟨by kernel_rfl⟩ -- loop.example/lucarne/laws.szCellS
instance : Fun Tryz.prog 83 := ⟨by kernel_rfl⟩ -- loop.example/lucarne/spec.WorldNew
instance : Fun Tryz.prog 84 := ⟨by kernel_rfl⟩ -- loop.example/lucarne/spec.l31Do
instance : Fun Tryz.prog 85 := ⟨by kernel_rfl⟩ -- loop.example/lucarne/laws.toCellS
instance : Fun Tryz.prog 86 := ⟨by kernel_rfl⟩ -- loop.example/lucarne/impl.WorldNew
instance : Fun Tryz.prog 87 := ⟨by kernel_rfl⟩ -- loop.example/lucarne/impl.runnerOf
instance : Fun Tryz.prog 88 := ⟨by kernel_rfl⟩ -- (*loop.example/lucarne/impl.runner).events
instance : Fun Tryz.prog 89 := ⟨by kernel_rfl⟩ -- (*loop.example/lucarne/impl.runner).world
instance : Fun Tryz.prog 90 := ⟨by kernel_rfl⟩ -- loop.example/lucarne/laws.eqPainterS
instance : Fun Tryz.prog 91 := ⟨by kernel_rfl⟩ -- loop.example/lucarne/laws.eqWordS
instance : Fun Tryz.prog 92 := ⟨by kernel_rfl⟩ -- loop.example/lucarne/laws.eqEvent
instance : Fun Tryz.prog 93 := ⟨by kernel_rfl⟩ -- loop.example/lucarne/laws.markPainterS
instance : Fun Tryz.prog 94 := ⟨by kernel_rfl⟩ -- loop.example/lucarne/laws.markWordS
instance : Fun Tryz.prog 95 := ⟨by kernel_rfl⟩ -- loop.example/lucarne/laws.heldPainterS
instance : Fun Tryz.prog 96 := ⟨by kernel_rfl⟩ -- loop.example/lucarne/laws.heldWordS
instance : Fun Tryz.prog 97 := ⟨by kernel_rfl⟩ -- loop.example/lucarne/spec.l22Tell
instance : Fun Tryz.prog 98 := ⟨by kernel_rfl⟩ -- loop.example/lucarne/impl.keepTold
instance : Fun Tryz.prog 99 := ⟨by kernel_rfl⟩ -- loop.example/lucarne/laws.eqEdit
instance : Fun Tryz.prog 100 := ⟨by kernel_rfl⟩ -- loop.example/lucarne/laws.eqIntS
instance : Fun Tryz.prog 101 := ⟨by kernel_rfl⟩ -- loop.example/lucarne/laws.markIntS
instance : Fun Tryz.prog 102 := ⟨by kernel_rfl⟩ -- loop.example/lucarne/laws.heldIntS
instance : Fun Tryz.prog 103 := ⟨by kernel_rfl⟩ -- loop.example/lucarne/laws.szPainterS
instance : Fun Tryz.prog 104 := ⟨by kernel_rfl⟩ -- loop.example/lucarne/laws.szWordS
instance : Fun Tryz.prog 105 := ⟨by kernel_rfl⟩ -- loop.example/lucarne/spec.l31Copy
instance : Fun Tryz.prog 106 := ⟨by kernel_rfl⟩ -- loop.example/lucarne/laws.toPainterS
instance : Fun Tryz.prog 107 := ⟨by kernel_rfl⟩ -- loop.example/lucarne/laws.toWordS
instance : Fun Tryz.prog 108 := ⟨by kernel_rfl⟩ -- loop.example/lucarne/spec.l13Edits
instance : Fun Tryz.prog 109 := ⟨by kernel_rfl⟩ -- loop.example/lucarne/spec.l22Copy
instance : Fun Tryz.prog 110 := ⟨by kernel_rfl⟩ -- loop.example/lucarne/laws.toCell
instance : Fun Tryz.prog 111 := ⟨by kernel_rfl⟩ -- loop.example/lucarne/impl.keepEdited
instance : Fun Tryz.prog 112 := ⟨by kernel_rfl⟩ -- loop.example/lucarne/impl.keepCopy
instance : Fun Tryz.prog 113 := ⟨by kernel_rfl⟩ -- loop.example/lucarne/laws.heldEditS
instance : Fun Tryz.prog 114 := ⟨by kernel_rfl⟩ -- loop.example/lucarne/laws.heldPartS
instance : Fun Tryz.prog 115 := ⟨by kernel_rfl⟩ -- loop.example/lucarne/laws.heldShownS
instance : Fun Tryz.prog 116 := ⟨by kernel_rfl⟩ -- loop.example/lucarne/spec.l31Calm
instance : Fun Tryz.prog 117 := ⟨by kernel_rfl⟩ -- (*loop.example/lucarne/impl.runner).quiet
instance : Fun Tryz.prog 118 := ⟨by kernel_rfl⟩ -- loop.example/lucarne/laws.szIntS
instance : Fun Tryz.prog 119 := ⟨by kernel_rfl⟩ -- loop.example/lucarne/spec.l22Hear
instance : Fun Tryz.prog 120 := ⟨by kernel_rfl⟩ -- loop.example/lucarne/laws.toIntS
instance : Fun Tryz.prog 121 := ⟨by kernel_rfl⟩ -- loop.example/lucarne/impl.keepHeard
instance : Fun Tryz.prog 122 := ⟨by kernel_rfl⟩ -- loop.example/lucarne/spec.PaintOk
instance : Fun Tryz.prog 123 := ⟨by kernel_rfl⟩ -- loop.example/lucarne/spec.l31SameGrid
instance : Fun Tryz.prog 124 := ⟨by kernel_rfl⟩ -- loop.example/lucarne/spec.l31Word
instance : Fun Tryz.prog 125 := ⟨by kernel_rfl⟩ -- loop.example/lucarne/impl.painterCorrect
instance : Fun Tryz.prog 126 := ⟨by kernel_rfl⟩ -- loop.example/lucarne/impl.wordCorrect
instance : Fun Tryz.prog 127 := ⟨by kernel_rfl⟩ -- loop.example/lucarne/laws.szPart
instance : Fun Tryz.prog 128 := ⟨by kernel_rfl⟩ -- loop.example/lucarne/laws.szShown
instance : Fun Tryz.prog 129 := ⟨by kernel_rfl⟩ -- loop.example/lucarne/spec.CellOk
instance : Fun Tryz.prog 130 := ⟨by kernel_rfl⟩ -- loop.example/lucarne/spec.l21Own
instance : Fun Tryz.prog 131 := ⟨by kernel_rfl⟩ -- loop.example/lucarne/spec.l3Many
instance : Fun Tryz.prog 132 := ⟨by kernel_rfl⟩ -- loop.example/lucarne/spec.l11Light
instance : Fun Tryz.prog 133 := ⟨by kernel_rfl⟩ -- loop.example/lucarne/spec.l11Go
instance : Fun Tryz.prog 134 := ⟨by kernel_rfl⟩ -- loop.example/lucarne/spec.l1Copy
instance : Fun Tryz.prog 135 := ⟨by kernel_rfl⟩ -- loop.example/lucarne/laws.toPart
instance : Fun Tryz.prog 136 := ⟨by kernel_rfl⟩ -- loop.example/lucarne/laws.toShown
instance : Fun Tryz.prog 137 := ⟨by kernel_rfl⟩ -- errors.As
instance : Fun Tryz.prog 138 := ⟨by kernel_rfl⟩ -- loop.example/lucarne/impl.GridOk
instance : Fun Tryz.prog 139 := ⟨by kernel_rfl⟩ -- loop.example/lucarne/impl.editsOk
instance : Fun Tryz.prog 140 := ⟨by kernel_rfl⟩ -- loop.example/lucarne/impl.partCheck
instance : Fun Tryz.prog 141 := ⟨by kernel_rfl⟩ -- slices.Equal[[]int,int]
instance : Fun Tryz.prog 142 := ⟨by kernel_rfl⟩ -- loop.example/lucarne/impl.PicOf
instance : Fun Tryz.prog 143 := ⟨by kernel_rfl⟩ -- loop.example/lucarne/laws.eqPart
instance : Fun Tryz.prog 144 := ⟨by kernel_rfl⟩ -- loop.example/lucarne/laws.eqShown
instance : Fun Tryz.prog 145 := ⟨by kernel_rfl⟩ -- loop.example/lucarne/impl.gridCopy
instance : Fun Tryz.prog 146 := ⟨by kernel_rfl⟩ -- loop.example/lucarne/laws.eqCell
instance : Fun Tryz.prog 147 := ⟨by kernel_rfl⟩ -- loop.example/lucarne/spec.KeepNew
instance : Fun Tryz.prog 148 := ⟨by kernel_rfl⟩ -- loop.example/lucarne/spec.l31Net
instance : Fun Tryz.prog 149 := ⟨by kernel_rfl⟩ -- loop.example/lucarne/spec.l31Painter
instance : Fun Tryz.prog 150 := ⟨by kernel_rfl⟩ -- loop.example/lucarne/impl.KeepNew
instance : Fun Tryz.prog 151 := ⟨by kernel_rfl⟩ -- loop.example/lucarne/impl.painterCopy
instance : Fun Tryz.prog 152 := ⟨by kernel_rfl⟩ -- (*loop.example/lucarne/impl.queue).send
instance : Fun Tryz.prog 153 := ⟨by kernel_rfl⟩ -- (*loop.example/lucarne/impl.runner).events$1
instance : Fun Tryz.prog 154 := ⟨by kernel_rfl⟩ -- (*loop.example/lucarne/impl.runner).tell
instance : Fun Tryz.prog 155 := ⟨by kernel_rfl⟩ -- loop.example/lucarne/impl.paintIdOk
instance : Fun Tryz.prog 156 := ⟨by kernel_rfl⟩ -- (*loop.example/lucarne/impl.runner).doPainter
instance : Fun Tryz.prog 157 := ⟨by kernel_rfl⟩ -- (*loop.example/lucarne/impl.queue).has
instance : Fun Tryz.prog 158 := ⟨by kernel_rfl⟩ -- (*loop.example/lucarne/impl.runner).doNet
instance : Fun Tryz.prog 159 := ⟨by kernel_rfl⟩ -- loop.example/lucarne/laws.eqPainter
instance : Fun Tryz.prog 160 := ⟨by kernel_rfl⟩ -- loop.example/lucarne/laws.markIntSS
instance : Fun Tryz.prog 161 := ⟨by kernel_rfl⟩ -- loop.example/lucarne/laws.heldIntSS
instance : Fun Tryz.prog 162 := ⟨by kernel_rfl⟩ -- loop.example/lucarne/laws.szPainter
instance : Fun Tryz.prog 163 := ⟨by kernel_rfl⟩ -- loop.example/lucarne/spec.l21Copy
instance : Fun Tryz.prog 164 := ⟨by kernel_rfl⟩ -- loop.example/lucarne/spec.l31WordCopy
instance : Fun Tryz.prog 165 := ⟨by kernel_rfl⟩ -- loop.example/lucarne/laws.toPainter
instance : Fun Tryz.prog 166 := ⟨by kernel_rfl⟩ -- loop.example/lucarne/spec.l14Edits
instance : Fun Tryz.prog 167 := ⟨by kernel_rfl⟩ -- loop.example/lucarne/impl.editOk
instance : Fun Tryz.prog 168 := ⟨by kernel_rfl⟩ -- slices.Clone[[]loop.example/lucarne/impl.Edit,loop.example/lucarne/impl.Edit]
instance : Fun Tryz.prog 169 := ⟨by kernel_rfl⟩ -- slices.Clone[[]int,int]
instance : Fun Tryz.prog 170 := ⟨by kernel_rfl⟩ -- loop.example/lucarne/spec.l31All
instance : Fun Tryz.prog 171 := ⟨by kernel_rfl⟩ -- (*loop.example/lucarne/impl.runner).deliverAll
instance : Fun Tryz.prog 172 := ⟨by kernel_rfl⟩ -- loop.example/lucarne/spec.l22Show
instance : Fun Tryz.prog 173 := ⟨by kernel_rfl⟩ -- loop.example/lucarne/impl.PaintOwn
instance : Fun Tryz.prog 174 := ⟨by kernel_rfl⟩ -- loop.example/lucarne/impl.keepPublished
instance : Fun Tryz.prog 175 := ⟨by kernel_rfl⟩ -- loop.example/lucarne/spec.l21None
instance : Fun Tryz.prog 176 := ⟨by kernel_rfl⟩ -- loop.example/lucarne/spec.SceneOk
instance : Fun Tryz.prog 177 := ⟨by kernel_rfl⟩ -- loop.example/lucarne/spec.l31NoGrid
instance : Fun Tryz.prog 178 := ⟨by kernel_rfl⟩ -- loop.example/lucarne/impl.PaintOk
instance : Fun Tryz.prog 179 := ⟨by kernel_rfl⟩ -- loop.example/lucarne/impl.gridSame
instance : Fun Tryz.prog 180 := ⟨by kernel_rfl⟩ -- loop.example/lucarne/impl.wordSame
instance : Fun Tryz.prog 181 := ⟨by kernel_rfl⟩ -- loop.example/lucarne/impl.partOf
instance : Fun Tryz.prog 182 := ⟨by kernel_rfl⟩ -- loop.example/lucarne/spec.l1High
instance : Fun Tryz.prog 183 := ⟨by kernel_rfl⟩ -- loop.example/lucarne/spec.l3Ray
instance : Fun Tryz.prog 184 := ⟨by kernel_rfl⟩ -- (*loop.example/lucarne/spec.l11Walk).come
instance : Fun Tryz.prog 188 := ⟨by kernel_rfl⟩ -- errors.as
instance : Fun Tryz.prog 189 := ⟨by kernel_rfl⟩ -- loop.example/lucarne/impl.CellOk
instance : Fun Tryz.prog 190 := ⟨by kernel_rfl⟩ -- loop.example/lucarne/impl.sidesComputed[int]
instance : Fun Tryz.prog 191 := ⟨by kernel_rfl⟩ -- loop.example/lucarne/impl.PicOf$1
instance : Fun Tryz.prog 192 := ⟨by kernel_rfl⟩ -- loop.example/lucarne/impl.TrailLight
instance : Fun Tryz.prog 193 := ⟨by kernel_rfl⟩ -- slices.Clone[[]loop.example/lucarne/impl.Cell,loop.example/lucarne/impl.Cell]
instance : Fun Tryz.prog 194 := ⟨by kernel_rfl⟩ -- loop.example/lucarne/spec.l31Bring
instance : Fun Tryz.prog 195 := ⟨by kernel_rfl⟩ -- loop.example/lucarne/spec.l31Take
instance : Fun Tryz.prog 196 := ⟨by kernel_rfl⟩ -- loop.example/lucarne/spec.l31Put
instance : Fun Tryz.prog 197 := ⟨by kernel_rfl⟩ -- loop.example/lucarne/spec.l21Tell
instance : Fun Tryz.prog 198 := ⟨by kernel_rfl⟩ -- loop.example/lucarne/impl.sceneCopy
instance : Fun Tryz.prog 199 := ⟨by kernel_rfl⟩ -- loop.example/lucarne/impl.wordCopy
instance : Fun Tryz.prog 200 := ⟨by kernel_rfl⟩ -- loop.example/lucarne/impl.paintTold
instance : Fun Tryz.prog 201 := ⟨by kernel_rfl⟩ -- (*loop.example/lucarne/impl.runner).deliver
instance : Fun Tryz.prog 202 := ⟨by kernel_rfl⟩ -- (*loop.example/lucarne/impl.queue).take
instance : Fun Tryz.prog 203 := ⟨by kernel_rfl⟩ -- loop.example/lucarne/laws.eqScene
instance : Fun Tryz.prog 204 := ⟨by kernel_rfl⟩ -- loop.example/lucarne/laws.szScene
instance : Fun Tryz.prog 205 := ⟨by kernel_rfl⟩ -- loop.example/lucarne/spec.l13Copy
instance : Fun Tryz.prog 206 := ⟨by kernel_rfl⟩ -- loop.example/lucarne/laws.toScene
instance : Fun Tryz.prog 207 := ⟨by kernel_rfl⟩ -- loop.example/lucarne/impl.SightMany
instance : Fun Tryz.prog 208 := ⟨by kernel_rfl⟩ -- loop.example/lucarne/spec.SceneNew
instance : Fun Tryz.prog 209 := ⟨by kernel_rfl⟩ -- loop.example/lucarne/impl.SceneOk
instance : Fun Tryz.prog 210 := ⟨by kernel_rfl⟩ -- loop.example/lucarne/impl.sceneSame
instance : Fun Tryz.prog 211 := ⟨by kernel_rfl⟩ -- slices.Equal[[]loop.example/lucarne/impl.Cell,loop.example/lucarne/impl.Cell]
instance : Fun Tryz.prog 212 := ⟨by kernel_rfl⟩ -- (*loop.example/lucarne/spec.l11Walk).end
instance : Fun Tryz.prog 213 := ⟨by kernel_rfl⟩ -- (*loop.example/lucarne/spec.l11Walk).half
instance : Fun Tryz.prog 214 := ⟨by kernel_rfl⟩ -- loop.example/lucarne/spec.DirTurn
instance : Fun Tryz.prog 215 := ⟨by kernel_rfl⟩ -- (*loop.example/lucarne/spec.l11Walk).leave
instance : Fun Tryz.prog 219 := ⟨by kernel_rfl⟩ -- loop.example/lucarne/impl.cellTyped
instance : Fun Tryz.prog 220 := ⟨by kernel_rfl⟩ -- loop.example/lucarne/impl.sideStarts
instance : Fun Tryz.prog 222 := ⟨by kernel_rfl⟩ -- loop.example/lucarne/impl.sidesComputed[int]$1
instance : Fun Tryz.prog 225 := ⟨by kernel_rfl⟩ -- loop.example/lucarne/impl.trailOf
instance : Fun Tryz.prog 226 := ⟨by kernel_rfl⟩ -- loop.example/lucarne/spec.l21Hear
instance : Fun Tryz.prog 227 := ⟨by kernel_rfl⟩ -- loop.example/lucarne/impl.paintHeard
instance : Fun Tryz.prog 228 := ⟨by kernel_rfl⟩ -- slices.Delete[[]loop.example/lucarne/impl.Word,loop.example/lucarne/impl.Word]
instance : Fun Tryz.prog 229 := ⟨by kernel_rfl⟩ -- loop.example/lucarne/laws.eqIntSS
instance : Fun Tryz.prog 230 := ⟨by kernel_rfl⟩ -- loop.example/lucarne/laws.szIntSS
instance : Fun Tryz.prog 231 := ⟨by kernel_rfl⟩ -- loop.example/lucarne/laws.toIntSS
instance : Fun Tryz.prog 232 := ⟨by kernel_rfl⟩ -- loop.example/lucarne/impl.gridRows
instance : Fun Tryz.prog 233 := ⟨by kernel_rfl⟩ -- loop.example/lucarne/spec.l13Look
instance : Fun Tryz.prog 234 := ⟨by kernel_rfl⟩ -- loop.example/lucarne/impl.sceneOf
instance : Fun Tryz.prog 235 := ⟨by kernel_rfl⟩ -- slices.EqualFunc[[][]int,[][]int,[]int,[]int]
instance : Fun Tryz.prog 236 := ⟨by kernel_rfl⟩ -- loop.example/lucarne/spec.l2Next
instance : Fun Tryz.prog 237 := ⟨by kernel_rfl⟩ -- loop.example/lucarne/spec.l3Of
instance : Fun Tryz.prog 256 := ⟨by kernel_rfl⟩ -- loop.example/lucarne/impl.SightRay
instance : Fun Tryz.prog 257 := ⟨by kernel_rfl⟩ -- (*loop.example/lucarne/impl.trail).end
instance : Fun Tryz.prog 258 := ⟨by kernel_rfl⟩ -- loop.example/lucarne/impl.spreadOf
instance : Fun Tryz.prog 259 := ⟨by kernel_rfl⟩ -- loop.example/lucarne/impl.beamFrom
instance : Fun Tryz.prog 260 := ⟨by kernel_rfl⟩ -- loop.example/lucarne/impl.DirTurn
instance : Fun Tryz.prog 261 := ⟨by kernel_rfl⟩ -- loop.example/lucarne/spec.l13Do
instance : Fun Tryz.prog 262 := ⟨by kernel_rfl⟩ -- (loop.example/lucarne/impl.ear).hearWhole
instance : Fun Tryz.prog 263 := ⟨by kernel_rfl⟩ -- (loop.example/lucarne/impl.ear).hearEdit
instance : Fun Tryz.prog 264 := ⟨by kernel_rfl⟩ -- loop.example/lucarne/spec.l11Foot
instance : Fun Tryz.prog 265 := ⟨by kernel_rfl⟩ -- loop.example/lucarne/impl.TrailFoot
instance : Fun Tryz.prog 266 := ⟨by kernel_rfl⟩ -- loop.example/lucarne/spec.l2Back
instance : Fun Tryz.prog 272 := ⟨by kernel_rfl⟩ -- loop.example/lucarne/impl.sidesTold[loop.example/lucarne/impl.Ray]
instance : Fun Tryz.prog 273 := ⟨by kernel_rfl⟩ -- loop.example/lucarne/impl.SightRay$1
instance : Fun Tryz.prog 274 := ⟨by kernel_rfl⟩ -- loop.example/lucarne/impl.spreadOf$1
instance : Fun Tryz.prog 275 := ⟨by kernel_rfl⟩ -- loop.example/lucarne/impl.spreadOf$2
instance : Fun Tryz.prog 276 := ⟨by kernel_rfl⟩ -- loop.example/lucarne/impl.spreadOf$3
instance : Fun Tryz.prog 277 := ⟨by kernel_rfl⟩ -- loop.example/lucarne/impl.spreadOf$4
instance : Fun Tryz.prog 278 := ⟨by kernel_rfl⟩ -- loop.example/lucarne/impl.spreadOf$5
instance : Fun Tryz.prog 279 := ⟨by kernel_rfl⟩ -- loop.example/lucarne/impl.rayStep
instance : Fun Tryz.prog 280 := ⟨by kernel_rfl⟩ -- loop.example/lucarne/impl.SightOf
instance : Fun Tryz.prog 281 := ⟨by kernel_rfl⟩ -- loop.example/lucarne/impl.dirOk
instance : Fun Tryz.prog 282 := ⟨by kernel_rfl⟩ -- loop.example/lucarne/spec.l13Touch
instance : Fun Tryz.prog 283 := ⟨by kernel_rfl⟩ -- loop.example/lucarne/impl.SceneNew
instance : Fun Tryz.prog 284 := ⟨by kernel_rfl⟩ -- loop.example/lucarne/impl.SceneEdit
instance : Fun Tryz.prog 285 := ⟨by kernel_rfl⟩ -- slices.Sort[[]int,int]
instance : Fun Tryz.prog 286 := ⟨by kernel_rfl⟩ -- slices.Compact[[]int,int]
instance : Fun Tryz.prog 287 := ⟨by kernel_rfl⟩ -- (loop.example/lucarne/impl.spot).up
instance : Fun Tryz.prog 288 := ⟨by kernel_rfl⟩ -- (loop.example/lucarne/impl.spot).right
instance : Fun Tryz.prog 289 := ⟨by kernel_rfl⟩ -- (loop.example/lucarne/impl.spot).down
instance : Fun Tryz.prog 290 := ⟨by kernel_rfl⟩ -- (loop.example/lucarne/impl.spot).left
instance : Fun Tryz.prog 291 := ⟨by kernel_rfl⟩ -- loop.example/lucarne/impl.dirOpposite
instance : Fun Tryz.prog 292 := ⟨by kernel_rfl⟩ -- loop.example/lucarne/impl.sidesTold[bool]
instance : Fun Tryz.prog 293 := ⟨by kernel_rfl⟩ -- loop.example/lucarne/impl.SightOf$1
instance : Fun Tryz.prog 294 := ⟨by kernel_rfl⟩ -- loop.example/lucarne/spec.l13Has
instance : Fun Tryz.prog 295 := ⟨by kernel_rfl⟩ -- loop.example/lucarne/impl.SceneMany
instance : Fun Tryz.prog 296 := ⟨by kernel_rfl⟩ -- slices.pdqsortOrdered[int]
instance : Fun Tryz.prog 297 := ⟨by kernel_rfl⟩ -- math/bits.Len
instance : Fun Tryz.prog 298 := ⟨by kernel_rfl⟩ -- loop.example/lucarne/impl.sightsOf
instance : Fun Tryz.prog 299 := ⟨by kernel_rfl⟩ -- slices.insertionSortOrdered[int]
instance : Fun Tryz.prog 300 := ⟨by kernel_rfl⟩ -- slices.heapSortOrdered[int]
instance : Fun Tryz.prog 301 := ⟨by kernel_rfl⟩ -- slices.breakPatternsOrdered[int]
instance : Fun Tryz.prog 302 := ⟨by kernel_rfl⟩ -- slices.choosePivotOrdered[int]
instance : Fun Tryz.prog 303 := ⟨by kernel_rfl⟩ -- slices.reverseRangeOrdered[int]
instance : Fun Tryz.prog 304 := ⟨by kernel_rfl⟩ -- slices.partialInsertionSortOrdered[int]
instance : Fun Tryz.prog 305 := ⟨by kernel_rfl⟩ -- cmp.Less[int]
instance : Fun Tryz.prog 306 := ⟨by kernel_rfl⟩ -- slices.partitionEqualOrdered[int]
instance : Fun Tryz.prog 307 := ⟨by kernel_rfl⟩ -- slices.partitionOrdered[int]
instance : Fun Tryz.prog 308 := ⟨by kernel_rfl⟩ -- math/bits.Len32
instance : Fun Tryz.prog 309 := ⟨by kernel_rfl⟩ -- math/bits.Len64
instance : Fun Tryz.prog 310 := ⟨by kernel_rfl⟩ -- slices.siftDownOrdered[int]
instance : Fun Tryz.prog 311 := ⟨by kernel_rfl⟩ -- slices.nextPowerOfTwo
instance : Fun Tryz.prog 313 := ⟨by kernel_rfl⟩ -- slices.medianAdjacentOrdered[int]
instance : Fun Tryz.prog 314 := ⟨by kernel_rfl⟩ -- slices.medianOrdered[int]
instance : Fun Tryz.prog 315 := ⟨by kernel_rfl⟩ -- cmp.isNaN[int]
instance : Fun Tryz.prog 316 := ⟨by kernel_rfl⟩ -- slices.order2Ordered[int]
instance : Mixed Tryz.prog := ⟨by kernel_rfl⟩
end Go.Proofs.YtekjikbaefgncaaGreatDoor

/- Walks: cells and grids, the reference's look at them. -/
namespace Go.Proofs.YtekjikbaefgncaaGreatDoor
open Go Go.Sl
set_option maxRecDepth 100000
set_option maxHeartbeats 4000000
attribute [local irreducible] Go.Code.sf sfOps Opq opo retF Do1 anyO
variable {M : Jdg → Prop} [IsCl Tryz.prog M]
instance : ElemF Tryz.prog 67 cellF := ⟨trivial⟩
instance : ElemF Tryz.prog 3 intF := ⟨trivial⟩
instance : ElemF Tryz.prog 69 editF := ⟨trivial⟩
/-- The numbers of the element types. -/
abbrev τ : Tys := ⟨3, 67, 69, 70, 113, 117, 169, 72, 90⟩
instance : ElemF Tryz.prog 113 (rawF (partR τ).sz) := ⟨trivial⟩
instance : ElemF Tryz.prog 117 (rawF (shownR τ).sz) := ⟨trivial⟩
instance : ElemF Tryz.prog 169 (rawF (painterR τ).sz) := ⟨trivial⟩
instance : ElemF Tryz.prog 72 (rawF (wordR τ).sz) := ⟨trivial⟩


theorem l6In_v (h : PHeap) (a b c : Int) : CallV Tryz.prog M 60 [.int .i64 a, .int .i64 b, .int .i64 c] h (.bool (decide (b ≤ a) && decide (a ≤ c))) := by
  refine calls_of_sf Tryz.func60 rfl Tryz.ntmps60 ?_
  simp only [argsL, Nat.reduceAdd]
  repeat (first | refine R1 ?_ | (refine R2 ?_; intro _))
  refine f_split (fun h1 => ?_) fun h1 => ?_ <;>
  · repeat (first | refine R1 ?_ | (refine R2 ?_; intro _))
    refine sf_ret (rV ?_)
    simp [h1]
theorem sCellOk_v (h : PHeap) (c : Cell) : CallV Tryz.prog M 129 [.agg #[.int .i64 c.kind, .int .i64 c.light]] h (.bool (cellOk c)) := by
  refine calls_of_sf Tryz.func129 rfl Tryz.ntmps129 ?_
  simp only [argsL, Nat.reduceAdd]
  repeat (first | refine R1 ?_ | (refine R2 ?_; intro _))
  refine sf_if (fun h1 => ?_) fun h1 => ?_
  · repeat (first | refine R1 ?_ | (refine R2 ?_; intro _))
    refine fp (y_callV (l6In_v _ _ _ _) (by rfl) ?_)
    repeat (first | refine R1 ?_ | (refine R2 ?_; intro _))
    refine sf_ret (rV ?_)
    simp [cellOk, h1]
  · repeat (first | refine R1 ?_ | (refine R2 ?_; intro _))
    refine fp (y_callV (l6In_v _ _ _ _) (by rfl) ?_)
    repeat (first | refine R1 ?_ | (refine R2 ?_; intro _))
    refine f_splitB (fun h2 => ?_) fun h2 => ?_ <;>
    · repeat (first | refine R1 ?_ | (refine R2 ?_; intro _))
      refine sf_ret (rV ?_)
      simp [cellOk, h1, h2]
theorem sGridOk_v (h : PHeap) (v : Value) (g : Grid) (gb : GridB h v g) : CallV Tryz.prog M 59 [v] h (.bool (gridOk g)) := by
  obtain ⟨c, rfl, s⟩ := gb
  have o1 := s.one
  have hs := s.small
  refine calls_of_sf Tryz.func59 rfl Tryz.ntmps59 ?_
  simp only [argsL, Nat.reduceAdd]
  repeat (first | refine R1 ?_ | (refine R2 ?_; intro _))
  refine fp (y_callV (l6In_v _ _ _ _) (by rfl) ?_)
  repeat (first | refine R1 ?_ | (refine R2 ?_; intro _))
  refine f_splitB (fun h1 => ?_) fun h1 => ?_
  · repeat (first | refine R1 ?_ | (refine R2 ?_; intro _))
    refine sf_T rfl ?_
    repeat (first | refine R1 ?_ | (refine R2 ?_; intro _))
    refine sf_ret (rV ?_)
    simp [gridOk]; simp at h1; omega
  · have g1 : 1 ≤ g.wide ∧ g.wide ≤ 5 := by simpa using h1
    repeat (first | refine R1 ?_ | (refine R2 ?_; intro _))
    refine f_split (fun h2 => ?_) fun h2 => ?_
    · repeat (first | refine R1 ?_ | (refine R2 ?_; intro _))
      refine sf_T rfl ?_
      repeat (first | refine R1 ?_ | (refine R2 ?_; intro _))
      refine sf_ret (rV ?_)
      simp [gridOk, h2]
    · repeat (first | refine R1 ?_ | (refine R2 ?_; intro _))
      refine fp (y_callV (l6In_v _ _ _ _) (by rfl) ?_)
      repeat (first | refine R1 ?_ | (refine R2 ?_; intro _))
      refine sf_cond (by rfl) (fun h3 => ?_) fun h3 => ?_
      · repeat (first | refine R1 ?_ | (refine R2 ?_; intro _))
        refine sf_ret (rV ?_)
        simp [gridOk]; simp at h3; omega
      · have g3 : 1 ≤ (g.cells.length : Int) / g.wide ∧ (g.cells.length : Int) / g.wide ≤ 5 := by simpa using h3
        repeat (first | refine R1 ?_ | (refine R2 ?_; intro _))
        refine sf_rd [1, 2] 3 g.cells.length 0 (fun k => (g.cells.take k).all cellOk = true) (by omega) rfl (fun k hk hi => ?_)
        repeat (first | refine R1 ?_ | (refine R2 ?_; intro _))
        refine sf_if (fun h4 => ?_) fun h4 => ?_
        · have hk4 : k < g.cells.length := by omega
          repeat (first | refine R1 ?_ | (refine R2 ?_; intro _))

          refine fp (y_callV (sCellOk_v _ (gt g.cells k)) (by rfl) ?_)
          repeat (first | refine R1 ?_ | (refine R2 ?_; intro _))
          refine sf_cond (by rfl) (fun h5 => ?_) fun h5 => ?_
          · repeat (first | refine R1 ?_ | (refine R2 ?_; intro _))
            refine sf_ret (rV ?_)
            simp only [Bool.not_eq_true'] at h5
            simp [gridOk, all_false hk4 h5]
          · repeat (first | refine R1 ?_ | (refine R2 ?_; intro _))
            refine ⟨⟨hk4, ?_⟩, rfl, rfl, _, inferInstance⟩
            rw [all_take hk4, hi]; simpa using h5
        · refine sf_exit ?_
          repeat (first | refine R1 ?_ | (refine R2 ?_; intro _))
          refine sf_ret (rV ?_)
          rw [take_ge hk (by omega)] at hi
          simp [gridOk, hi, g1, g3]; omega
end Go.Proofs.YtekjikbaefgncaaGreatDoor

/- Walks: a keeper's beginning, the reference's. -/
namespace Go.Proofs.YtekjikbaefgncaaGreatDoor
open Go Go.Sl
set_option maxRecDepth 100000
set_option maxHeartbeats 4000000
attribute [local irreducible] Go.Code.sf sfOps Opq opo retF Do1 anyO
variable {M : Jdg → Prop} [IsCl Tryz.prog M]

theorem l1Copy_f (h : PHeap) (ca : List Value) (g : Grid) (b : (gridR τ).B h ca g) (hs : g.cells.length ≤ 1048576) : CallF Tryz.prog M 134 [.agg ca.toArray] [] h fun v A => ∃ cs, v = .agg cs.toArray ∧ (gridR τ).O A cs g := by
  obtain ⟨c, rfl, s⟩ := gridB b
  have o1 := s.one
  refine calls_of_sf Tryz.func134 rfl Tryz.ntmps134 ?_
  simp only [argsL, Nat.reduceAdd]
  repeat (first | refine R1 ?_ | (refine R2 ?_; intro _))
  refine sf_draw (by kernel_rfl) (regX_run [[], [0], [], [], [3], [2, 3, 4], [0, 1, 2, 3, 4, 5], [0, 1, 2, 3, 4, 5, 6]] 6 [(0, false), (1, false), (3, false), (4, false), (2, true), (5, true)] (by kernel_rfl) (by kernel_rfl) (by kernel_rfl) ?_)
  repeat (refine Da1 ?_)
  refine a_bs (by rfl) (by rfl) (by infer_instance) (by infer_instance) (by infer_instance) (by infer_instance) (by rfl) (by rfl) (by rfl) (by decide) (.inl rfl) fun w A gw => ?_
  refine a_appendS (by rfl) (by rfl) (by rfl) gw s (by infer_instance) (by infer_instance) (fun y _ => FlatOne.one y) (by rfl) (by rfl) (by simp; omega) (by simp; omega) (.inl rfl) fun w2 A2 g2 => ?_
  have o2 := g2.one
  (refine a_end (by rfl) (by rfl) ?_; simp only [finA, setL, List.drop_succ_cons, List.drop_zero])
  repeat (first | refine R1 ?_ | (refine R2 ?_; intro _))
  exact sf_ret (rO A2 ⟨_, rfl, gridO_mk g2 (by omega)⟩)

theorem sKeepNew_f (h : PHeap) (ca : List Value) (g : Grid) (many : Int) (b : (gridR τ).B h ca g) (hs : g.cells.length ≤ 1048576) : CallF Tryz.prog M 147 [.agg ca.toArray, .int .i64 many] [] h fun v A => ∃ cs, v = .tuple #[.agg cs.toArray, .bool (keepNew g many).2] ∧ (keeperR τ).O A cs (keepNew g many).1 := by
  obtain ⟨c, rfl, s⟩ := gridB b
  have o1 := s.one
  refine calls_of_sf Tryz.func147 rfl Tryz.ntmps147 ?_
  simp only [argsL, Nat.reduceAdd]
  repeat (first | refine R1 ?_ | (refine R2 ?_; intro _))
  refine fp (y_callV (sGridOk_v _ _ g ⟨c, rfl, s⟩) (by rfl) ?_)
  repeat (first | refine R1 ?_ | (refine R2 ?_; intro _))
  refine f_splitB (fun h1 => ?_) fun h1 => ?_
  · repeat (first | refine R1 ?_ | (refine R2 ?_; intro _))
    refine sf_T rfl ?_
    repeat (first | refine R1 ?_ | (refine R2 ?_; intro _))
    have e : keepNew g many = (noKeeper, false) := by unfold keepNew; simp at h1; simp [h1]
    rw [e]
    exact sf_ret (rO [] ⟨_, rfl, noKeeperO⟩)
  · repeat (first | refine R1 ?_ | (refine R2 ?_; intro _))
    refine fp (y_callV (l6In_v _ _ _ _) (by rfl) ?_)
    repeat (first | refine R1 ?_ | (refine R2 ?_; intro _))
    refine sf_cond (by rfl) (fun h2 => ?_) fun h2 => ?_
    · repeat (first | refine R1 ?_ | (refine R2 ?_; intro _))
      have e : keepNew g many = (noKeeper, false) := by unfold keepNew; simp only [Bool.not_eq_true'] at h2; simp [h2]
      rw [e]
      exact sf_ret (rO [] ⟨_, rfl, noKeeperO⟩)
    · have hm : 1 ≤ many ∧ many ≤ 3 := by simpa using h2
      have e : keepNew g many = (⟨g, [], List.replicate many.toNat noPart, []⟩, true) := by
        unfold keepNew; simp at h1; simp [h1, hm]
      rw [e]
      repeat (first | refine R1 ?_ | (refine R2 ?_; intro _))
      refine fp (y_call (l1Copy_f _ _ _ b hs) (by rfl) ?_)
      rintro _ A1 ⟨_, rfl, q⟩
      obtain ⟨c2, rfl, g1, l1⟩ := gridO q
      have o2 := g1.one
      repeat (first | refine R1 ?_ | (refine R2 ?_; intro _))
      refine fp (y_bs (by rfl) (by rfl) (by rfl) (by rfl) (by decide) fun e1 A2 g2 => ?_)
      have o3 := g2.one
      repeat (first | refine R1 ?_ | (refine R2 ?_; intro _))
      refine fp (y_bs (by rfl) (by rfl) (by rfl) (by rfl) (by decide) fun s1 A4 g4 => ?_)
      have o4 := g4.one
      repeat (first | refine R1 ?_ | (refine R2 ?_; intro _))
      rename_i b2 b4 b6
      obtain ⟨n, rfl⟩ : ∃ n : Nat, many = n := ⟨many.toNat, by omega⟩
      refine sf_lp [1, 4, 6] (fun i : Nat => [(7, .int .i64 (i : Int))]) (fun i O => i ≤ n ∧ ∃ p A0 A3, O = (b6, .cells #[.int .i64 g.wide, c2, e1, p, s1] 39) :: (A0 ++ A3 ++ (A4 ++ (A2 ++ (A1 ++ [(b4, .cells #[.int .i64 0, .slice none 0 0, .slice none 0 0, .slice none 0 0, .slice none 0 0] 39)])))) ∧ ∃ rs : List (Raw (partR τ).sz), rs.length = i ∧ Gr A0 p 113 (rawF (partR τ).sz) rs ∧ OAll (partR τ) A3 rs (List.replicate i noPart)) (fun i => n - i) 0 ((b6, .cells #[.int .i64 g.wide, c2, e1, .slice none 0 0, s1] 39) :: ([] ++ [] ++ (A4 ++ (A2 ++ (A1 ++ [(b4, .cells #[.int .i64 0, .slice none 0 0, .slice none 0 0, .slice none 0 0, .slice none 0 0] 39)]))))) ⟨by omega, _, [], [], rfl, [], rfl, Gr.nil _ _, .nil⟩ ?_
      rintro i O ⟨hi, p, A0, A3, rfl, rs, hr, g3, oa⟩
      have o5 := g3.one
      repeat (first | refine R1 ?_ | (refine R2 ?_; intro _))
      refine sf_if (fun h4 => ?_) fun h4 => ?_
      · repeat (first | refine R1 ?_ | (refine R2 ?_; intro _))
        refine fp (y_bs (by rfl) (by rfl) (by rfl) (by rfl) (by decide) fun l1 Al gl => ?_)
        have ol := gl.one
        repeat (first | refine R1 ?_ | (refine R2 ?_; intro _))
        refine fp (y_bs (by rfl) (by rfl) (by rfl) (by rfl) (by decide) fun u Au gu => ?_)
        repeat (first | refine R1 ?_ | (refine R2 ?_; intro _))
        refine fp (y_append (by rfl) (by rfl) g3 gu (by intro y hy; simp at hy; subst hy; exact (inferInstance : AllOne [Value.bool false, .int .i64 0, l1]).is) (by rfl) (by rfl) (by simp; omega) (by simp; omega) fun p2 A5 g5 => ?_)
        have o6 := g5.one
        repeat (first | refine R1 ?_ | (refine R2 ?_; intro _))
        refine ⟨i + 1, by omega, ⟨rfl, trivial⟩, rfl, (b6, .cells #[.int .i64 g.wide, c2, e1, p2, s1] 39) :: (A5 ++ (A3 ++ Al) ++ (A4 ++ (A2 ++ (A1 ++ [(b4, .cells #[.int .i64 0, .slice none 0 0, .slice none 0 0, .slice none 0 0, .slice none 0 0] 39)])))), _, inferInstance, by omega, p2, A5, A3 ++ Al, rfl, _, by simp [hr], g5, ?_⟩
        rw [List.replicate_succ']
        exact oa.snoc (partO_mk (p := noPart) gl (by decide))
      · refine sf_exit ?_
        repeat (first | refine R1 ?_ | (refine R2 ?_; intro _))
        have : i = n := by omega
        subst this
        refine sf_ret (rO (A1 ++ (A2 ++ ((A0 ++ A3) ++ A4))) ⟨_, rfl, ?_⟩)
        simp only [Int.toNat_natCast]
        exact keeperO_mk (k := ⟨g, [], List.replicate i noPart, []⟩) g1 l1 g2 (Nat.zero_le _) ⟨A0, A3, rfl, rs, g3, oa, by simp; omega⟩ (GrR.of_gr g4)
end Go.Proofs.YtekjikbaefgncaaGreatDoor

/- Walks: cells, grids and a keeper's beginning, the program's own. -/
namespace Go.Proofs.YtekjikbaefgncaaGreatDoor
open Go Go.Sl
set_option maxRecDepth 100000
set_option maxHeartbeats 4000000
attribute [local irreducible] Go.Code.sf sfOps Opq opo retF Do1 anyO
variable {M : Jdg → Prop} [IsCl Tryz.prog M]

/-- A cell as a value of the type of its kind. -/
def typedV (c : Cell) : Value :=
  if c.kind = 7 then .iface 307 (.agg #[.int .i64 c.light])
  else if cellOk c then
    if c.kind = 0 then .iface 308 (.agg #[]) else if c.kind = 1 then .iface 309 (.agg #[]) else if c.kind = 2 then .iface 310 (.agg #[]) else if c.kind = 3 then .iface 311 (.agg #[])
    else if c.kind = 4 then .iface 312 (.agg #[]) else if c.kind = 5 then .iface 313 (.agg #[]) else .iface 314 (.agg #[])
  else .nilIface

theorem cellTyped_v (h : PHeap) (c : Cell) : CallV Tryz.prog M 219 [.agg #[.int .i64 c.kind, .int .i64 c.light]] h (.tuple #[typedV c, .bool (cellOk c)]) := by
  obtain ⟨k, l⟩ := c
  refine calls_of_sf Tryz.func219 rfl Tryz.ntmps219 ?_
  simp only [argsL, Nat.reduceAdd]
  repeat (first | refine R1 ?_ | (refine R2 ?_; intro _))
  refine sf_if (fun h1 => ?_) fun h1 => ?_
  · by_cases h2 : l ≥ 1 <;>
    · repeat (first | refine R1 ?_ | (refine R2 ?_; intro _))
      refine sf_draw (by kernel_rfl) (regX_run [[], [0], [0, 1], [0, 1, 2], [], [4], [4, 5], [4, 5, 6], [4, 5, 6, 7], [4, 5, 6, 7, 8], [4, 5, 6, 7, 8, 9], [4, 5, 6, 7, 8, 9, 10], [0, 1, 2, 3, 4, 5, 6, 7], [0, 1, 2, 3, 4, 5, 6, 7, 8, 9, 10, 11, 12]] 13 [(0, false), (1, false), (2, false), (3, false), (4, false), (5, false), (6, false), (7, false), (8, false), (9, false), (10, false), (11, false), (12, false)] (by kernel_rfl) (by kernel_rfl) (by kernel_rfl) ?_)
      repeat (refine Da1 ?_)
      (refine a_end (by rfl) (by rfl) ?_; simp only [finA, setL, List.drop_succ_cons, List.drop_zero])
      repeat (first | refine R1 ?_ | (refine R2 ?_; intro _))
      refine sf_ret (rV ?_)
      simp [typedV, cellOk, h1, h2]
  · repeat (first | refine R1 ?_ | (refine R2 ?_; intro _))
    refine f_split (fun h2 => ?_) fun h2 => ?_
    · repeat (first | refine R1 ?_ | (refine R2 ?_; intro _))
      refine sf_T rfl ?_
      repeat (first | refine R1 ?_ | (refine R2 ?_; intro _))
      refine sf_ret (rV ?_)
      simp [typedV, cellOk, h1, show ¬ 0 ≤ k by omega]
    · repeat (first | refine R1 ?_ | (refine R2 ?_; intro _))
      refine f_split (fun h3 => ?_) fun h3 => ?_
      · repeat (first | refine R1 ?_ | (refine R2 ?_; intro _))
        refine sf_T rfl ?_
        repeat (first | refine R1 ?_ | (refine R2 ?_; intro _))
        refine sf_ret (rV ?_)
        simp [typedV, cellOk, h1, show ¬ k ≤ 6 by omega]
      · repeat (first | refine R1 ?_ | (refine R2 ?_; intro _))
        refine sf_if (fun h4 => ?_) fun h4 => ?_
        · repeat (first | refine R1 ?_ | (refine R2 ?_; intro _))
          refine sf_ret (rV ?_)
          simp [typedV, cellOk, h1, h4]
        · obtain ⟨n, rfl⟩ : ∃ n : Nat, k = n := ⟨k.toNat, by omega⟩
          have hn : n = 0 ∨ n = 1 ∨ n = 2 ∨ n = 3 ∨ n = 4 ∨ n = 5 ∨ n = 6 := by omega
          repeat (first | refine R1 ?_ | (refine R2 ?_; intro _))
          rcases hn with rfl | rfl | rfl | rfl | rfl | rfl | rfl <;>
          · repeat (first | refine R1 ?_ | (refine R2 ?_; intro _))
            refine sf_ret (rV ?_)
            simp at h4
            simp [typedV, cellOk, h4]
theorem cellOk_v (h : PHeap) (c : Cell) : CallV Tryz.prog M 189 [.agg #[.int .i64 c.kind, .int .i64 c.light]] h (.bool (cellOk c)) := by
  refine calls_of_sf Tryz.func189 rfl Tryz.ntmps189 ?_
  simp only [argsL, Nat.reduceAdd]
  repeat (first | refine R1 ?_ | (refine R2 ?_; intro _))
  refine fp (y_callV (cellTyped_v _ c) (by rfl) ?_)
  repeat (first | refine R1 ?_ | (refine R2 ?_; intro _))
  exact sf_ret (rV rfl)
theorem gridOk_v (h : PHeap) (ca : List Value) (g : Grid) (b : (gridR τ).B h ca g) : CallV Tryz.prog M 138 [.agg ca.toArray] h (.bool (gridOk g)) := by
  obtain ⟨c, rfl, s⟩ := gridB b
  have o1 := s.one
  have hs := s.small
  refine calls_of_sf Tryz.func138 rfl Tryz.ntmps138 ?_
  simp only [argsL, Nat.reduceAdd]
  repeat (first | refine R1 ?_ | (refine R2 ?_; intro _))
  refine f_split (fun h1 => ?_) fun h1 => ?_
  · repeat (first | refine R1 ?_ | (refine R2 ?_; intro _))
    refine sf_T rfl ?_
    repeat (first | refine R1 ?_ | (refine R2 ?_; intro _))
    exact sf_ret (rV (by rw [gridOk_F (by omega)]))
  · repeat (first | refine R1 ?_ | (refine R2 ?_; intro _))
    refine sf_if (fun h2 => ?_) fun h2 => ?_
    · repeat (first | refine R1 ?_ | (refine R2 ?_; intro _))
      exact sf_ret (rV (by rw [gridOk_F (by omega)]))
    · repeat (first | refine R1 ?_ | (refine R2 ?_; intro _))
      refine f_split (fun h3 => ?_) fun h3 => ?_
      · repeat (first | refine R1 ?_ | (refine R2 ?_; intro _))
        refine sf_T rfl ?_
        repeat (first | refine R1 ?_ | (refine R2 ?_; intro _))
        exact sf_ret (rV (by rw [gridOk_F (by omega)]))
      · repeat (first | refine R1 ?_ | (refine R2 ?_; intro _))
        refine f_split (fun h4 => ?_) fun h4 => ?_
        · repeat (first | refine R1 ?_ | (refine R2 ?_; intro _))
          refine sf_T rfl ?_
          repeat (first | refine R1 ?_ | (refine R2 ?_; intro _))
          exact sf_ret (rV (by rw [gridOk_F (by omega)]))
        · repeat (first | refine R1 ?_ | (refine R2 ?_; intro _))
          refine sf_if (fun h5 => ?_) fun h5 => ?_
          · repeat (first | refine R1 ?_ | (refine R2 ?_; intro _))
            exact sf_ret (rV (by rw [gridOk_F (by omega)]))
          · repeat (first | refine R1 ?_ | (refine R2 ?_; intro _))
            refine sf_rd [36, 37] 38 g.cells.length 0 (fun k => (g.cells.take k).all cellOk = true) (by omega) rfl (fun k hk hi => ?_)
            repeat (first | refine R1 ?_ | (refine R2 ?_; intro _))
            refine sf_if (fun h6 => ?_) fun h6 => ?_
            · have hk4 : k < g.cells.length := by omega
              repeat (first | refine R1 ?_ | (refine R2 ?_; intro _))
              refine fp (y_callV (cellOk_v _ (gt g.cells k)) (by rfl) ?_)
              repeat (first | refine R1 ?_ | (refine R2 ?_; intro _))
              refine sf_cond (by rfl) (fun h7 => ?_) fun h7 => ?_
              · repeat (first | refine R1 ?_ | (refine R2 ?_; intro _))
                simp only [Bool.not_eq_true'] at h7
                refine sf_ret (rV ?_)
                simp [gridOk, all_false hk4 h7]
              · repeat (first | refine R1 ?_ | (refine R2 ?_; intro _))
                refine ⟨⟨hk4, ?_⟩, rfl, rfl, _, inferInstance⟩
                rw [all_take hk4, hi]; simpa using h7
            · refine sf_exit ?_
              repeat (first | refine R1 ?_ | (refine R2 ?_; intro _))
              rw [take_ge hk (by omega)] at hi
              exact sf_ret (rV (by rw [(gridOk_iff g).2 ⟨⟨by omega, by omega⟩, by omega, by omega, by omega, hi⟩]))
theorem cloneCells_f (h : PHeap) (v : Value) (xs : List Cell) (s : Sl h v cellF xs) (hs : xs.length ≤ 1048576) : CallF Tryz.prog M 193 [v] [] h fun v' A => Gr A v' 67 cellF xs := by
  have o1 := s.one
  refine calls_of_sf Tryz.func193 rfl Tryz.ntmps193 ?_
  simp only [argsL, Nat.reduceAdd]
  repeat (first | refine R1 ?_ | (refine R2 ?_; intro _))
  refine fp (Rq ?_ (q_eqNil (by infer_instance) (by rfl) (by rfl) s))
  repeat (first | refine R1 ?_ | (refine R2 ?_; intro _))
  refine sf_cond (by rfl) (fun h1 => ?_) fun h1 => ?_
  · obtain ⟨rfl, rfl⟩ := isNilS_nil s h1
    repeat (first | refine R1 ?_ | (refine R2 ?_; intro _))
    exact sf_ret (rO [] (Gr.nil _ _))
  · repeat (first | refine R1 ?_ | (refine R2 ?_; intro _))
    refine fp (y_bs (by rfl) (by rfl) (by rfl) (by rfl) (by decide) fun w A gw => ?_)
    repeat (first | refine R1 ?_ | (refine R2 ?_; intro _))
    refine fp (y_appendS (by rfl) (by rfl) gw s (fun y _ => FlatOne.one y) (by rfl) (by rfl) (by simp; omega) (by simp; omega) fun w2 A2 g2 => ?_)
    repeat (first | refine R1 ?_ | (refine R2 ?_; intro _))
    exact sf_ret (rO A2 g2)
theorem gridCopy_f (h : PHeap) (ca : List Value) (g : Grid) (b : (gridR τ).B h ca g) (hs : g.cells.length ≤ 1048576) : CallF Tryz.prog M 145 [.agg ca.toArray] [] h fun v A => ∃ cs, v = .agg cs.toArray ∧ (gridR τ).O A cs g := by
  obtain ⟨c, rfl, s⟩ := gridB b
  have o1 := s.one
  refine calls_of_sf Tryz.func145 rfl Tryz.ntmps145 ?_
  simp only [argsL, Nat.reduceAdd]
  repeat (first | refine R1 ?_ | (refine R2 ?_; intro _))
  refine sf_draw (by kernel_rfl) (regX_run [[], [0], [], [2], [2, 3], [0, 1, 2, 3, 4], [0, 1, 2, 3, 4, 5]] 5 [(0, false), (1, false), (2, false), (3, false), (4, true)] (by kernel_rfl) (by kernel_rfl) (by kernel_rfl) ?_)
  repeat (refine Da1 ?_)
  refine a_call (cloneCells_f _ _ _ s hs) (by rfl) (by rfl) (.inl rfl) fun w A g2 => ?_
  have o2 := g2.one
  (refine a_end (by rfl) (by rfl) ?_; simp only [finA, setL, List.drop_succ_cons, List.drop_zero])
  repeat (first | refine R1 ?_ | (refine R2 ?_; intro _))
  exact sf_ret (rO A ⟨_, rfl, gridO_mk g2 (by omega)⟩)
theorem parts0 {A : Own} {v : Value} {n : Nat} (g : Gr A v 113 (rawF (partR τ).sz) (List.replicate n ⟨[.bool false, .int .i64 0, .slice none 0 0], rfl⟩)) (hn : n ≤ 281474976710656 := by omega) : GrR (partR τ) A v 113 (List.replicate n noPart) := by
  refine ⟨A, [], by simp, _, g, ?_, by simpa using hn⟩
  clear g hn
  induction n with
  | zero => exact .nil
  | succ n ih => rw [List.replicate_succ, List.replicate_succ]; exact .cons (A := []) (partO_mk (p := noPart) (Gr.nil _ _) (by decide)) ih
theorem keepNew_f (h : PHeap) (ca : List Value) (g : Grid) (many : Int) (b : (gridR τ).B h ca g) (hs : g.cells.length ≤ 1048576) : CallF Tryz.prog M 150 [.agg ca.toArray, .int .i64 many] [] h fun v A => ∃ cs, v = .tuple #[.agg cs.toArray, .bool (keepNew g many).2] ∧ (keeperR τ).O A cs (keepNew g many).1 := by
  obtain ⟨c, rfl, s⟩ := gridB b
  have o1 := s.one
  have eF : ¬ (gridOk g = true ∧ 1 ≤ many ∧ many ≤ 3) → keepNew g many = (noKeeper, false) := fun hn => by
    unfold keepNew; rw [if_neg (by simpa using hn)]
  refine calls_of_sf Tryz.func150 rfl Tryz.ntmps150 ?_
  simp only [argsL, Nat.reduceAdd]
  repeat (first | refine R1 ?_ | (refine R2 ?_; intro _))
  refine fp (y_callV (gridOk_v _ _ g b) (by rfl) ?_)
  repeat (first | refine R1 ?_ | (refine R2 ?_; intro _))
  refine f_splitB (fun h1 => ?_) fun h1 => ?_
  · repeat (first | refine R1 ?_ | (refine R2 ?_; intro _))
    refine sf_T rfl ?_
    repeat (first | refine R1 ?_ | (refine R2 ?_; intro _))
    rw [eF (by simp at h1; simp [h1])]
    exact sf_ret (rO [] ⟨_, rfl, noKeeperO⟩)
  · repeat (first | refine R1 ?_ | (refine R2 ?_; intro _))
    refine f_split (fun h2 => ?_) fun h2 => ?_
    · repeat (first | refine R1 ?_ | (refine R2 ?_; intro _))
      refine sf_T rfl ?_
      repeat (first | refine R1 ?_ | (refine R2 ?_; intro _))
      rw [eF (by omega)]
      exact sf_ret (rO [] ⟨_, rfl, noKeeperO⟩)
    · repeat (first | refine R1 ?_ | (refine R2 ?_; intro _))
      refine sf_if (fun h3 => ?_) fun h3 => ?_
      · repeat (first | refine R1 ?_ | (refine R2 ?_; intro _))
        rw [eF (by omega)]
        exact sf_ret (rO [] ⟨_, rfl, noKeeperO⟩)
      · obtain ⟨n, rfl⟩ : ∃ n : Nat, many = n := ⟨many.toNat, by omega⟩
        have e : keepNew g n = (⟨g, [], List.replicate n noPart, []⟩, true) := by
          unfold keepNew; simp at h1; rw [if_pos (by simp [h1]; omega)]; simp
        rw [e]
        repeat (first | refine R1 ?_ | (refine R2 ?_; intro _))
        refine sf_draw (by kernel_rfl) (regX_split 1 3 (by rfl) ?_ ?_)
        · refine (regX_run [[], [0], [], [0, 1, 2], [0, 1, 2, 3], [0, 1, 2, 3, 4], [0, 1, 2, 3, 4, 5]] 3 [(0, false), (2, false), (1, true)] (by kernel_rfl) (by kernel_rfl) (by kernel_rfl) ?_)
          repeat (refine Da1 ?_)
          refine a_call (gridCopy_f _ _ _ b hs) (by rfl) (by rfl) (.inl rfl) ?_
          rintro _ A1 ⟨_, rfl, q⟩
          obtain ⟨c2, rfl, g1, l1⟩ := gridO q
          have o2 := g1.one
          (refine a_end (by rfl) (by rfl) ?_; simp only [finA, setL, List.drop_succ_cons, List.drop_zero])
          repeat (first | refine R1 ?_ | (refine R2 ?_; intro _))
          refine fp (y_make (by rfl) (by rfl) (by rfl) (by decide) (by omega) fun w A2 g2 => ?_)
          have o3 := g2.one
          repeat (first | refine R1 ?_ | (refine R2 ?_; intro _))
          refine sf_ret (rO (A1 ++ ([] ++ (A2 ++ []))) ⟨_, rfl, ?_⟩)
          exact keeperO_mk (k := ⟨g, [], List.replicate n noPart, []⟩) g1 l1 (Gr.nil _ _) (Nat.zero_le _) (parts0 g2) GrR.nil
        · refine (regX_run [[], [0, 2, 3], [], [2], [0, 1, 2, 3], [0, 1, 2, 3, 4], [0, 1, 2, 3, 4, 5]] 4 [(0, false), (2, false), (3, true), (1, true)] (by kernel_rfl) (by kernel_rfl) (by kernel_rfl) ?_)
          repeat (refine Da1 ?_)
          refine a_make (by rfl) (by rfl) (by rfl) (by infer_instance) (by infer_instance) (by infer_instance) (by infer_instance) (by infer_instance) (by rfl) (by decide) (by omega) (.inl rfl) fun w A2 g2 => ?_
          have o3 := g2.one
          repeat (refine Da1 ?_)
          refine a_call (gridCopy_f _ _ _ b hs) (by rfl) (by rfl) (.inl rfl) ?_
          rintro _ A1 ⟨_, rfl, q⟩
          obtain ⟨c2, rfl, g1, l1⟩ := gridO q
          have o2 := g1.one
          repeat (refine Da1 ?_)
          (refine a_end (by rfl) (by rfl) ?_; simp only [finA, setL, List.drop_succ_cons, List.drop_zero])
          repeat (first | refine R1 ?_ | (refine R2 ?_; intro _))
          refine sf_ret (rO (A1 ++ ([] ++ (A2 ++ []))) ⟨_, rfl, ?_⟩)
          exact keeperO_mk (k := ⟨g, [], List.replicate n noPart, []⟩) g1 l1 (Gr.nil _ _) (Nat.zero_le _) (parts0 g2) GrR.nil
end Go.Proofs.YtekjikbaefgncaaGreatDoor

/- Walks: directions, steps, rows: the program's own. -/
namespace Go.Proofs.YtekjikbaefgncaaGreatDoor
open Go Go.Sl
set_option maxRecDepth 100000
set_option maxHeartbeats 4000000
attribute [local irreducible] Go.Code.sf sfOps Opq opo retF Do1 anyO
variable {M : Jdg → Prop} [IsCl Tryz.prog M]
instance : ElemF Tryz.prog 257 visitF := ⟨trivial⟩
instance : ElemF Tryz.prog 224 endF := ⟨trivial⟩
instance : ElemF Tryz.prog 226 rayF := ⟨trivial⟩
instance : ElemF Tryz.prog 333 beamF := ⟨trivial⟩
instance : ElemF Tryz.prog 4 boolF := ⟨trivial⟩
instance : EqFl Tryz.prog 226 rayF := eqFl_ray inferInstance (inferInstance : Ty Tryz.prog 3 _ 1 _ _) (by kernel_rfl)

theorem rowsOf_v (h : PHeap) (c : Value) (g : Grid) (s : Sl h c cellF g.cells) (hw : 1 ≤ g.wide) : CallV Tryz.prog M 232 [.agg #[.int .i64 g.wide, c]] h (.int .i64 (rowsOf g)) := by
  have o1 := s.one
  have hs := s.small
  refine calls_of_sf Tryz.func232 rfl Tryz.ntmps232 ?_
  simp only [argsL, Nat.reduceAdd]
  repeat (first | refine R1 ?_ | (refine R2 ?_; intro _))
  exact sf_ret (rV rfl)
theorem dirOk_v (h : PHeap) (d : Int) : CallV Tryz.prog M 281 [.int .i64 d] h (.bool (decide (0 ≤ d) && decide (d ≤ 3))) := by
  refine calls_of_sf Tryz.func281 rfl Tryz.ntmps281 ?_
  simp only [argsL, Nat.reduceAdd]
  repeat (first | refine R1 ?_ | (refine R2 ?_; intro _))
  refine f_split (fun h1 => ?_) fun h1 => ?_ <;>
  · repeat (first | refine R1 ?_ | (refine R2 ?_; intro _))
    refine sf_ret (rV ?_)
    simp [h1]
theorem dirOpposite_v (h : PHeap) (d : Int) (h0 : 0 ≤ d) (h1 : d ≤ 3) : CallV Tryz.prog M 291 [.int .i64 d] h (.int .i64 ((d + 2) % 4)) := by
  refine calls_of_sf Tryz.func291 rfl Tryz.ntmps291 ?_
  simp only [argsL, Nat.reduceAdd]
  repeat (first | refine R1 ?_ | (refine R2 ?_; intro _))
  exact sf_ret (rV rfl)
section
variable (h : PHeap) (c : Value) (g : Grid) (a : Int) (s : Sl h c cellF g.cells) (hw : 1 ≤ g.wide ∧ g.wide ≤ 5) (ha : 0 ≤ a ∧ a < 1000)
include s hw ha
theorem up_v : CallV Tryz.prog M 287 [.agg #[.int .i64 g.wide, c, .int .i64 a]] h (.tuple #[.int .i64 (a - g.wide), .bool (decide (g.wide ≤ a))]) := by
  have o1 := s.one
  refine calls_of_sf Tryz.func287 rfl Tryz.ntmps287 ?_
  simp only [argsL, Nat.reduceAdd]
  repeat (first | refine R1 ?_ | (refine R2 ?_; intro _))
  refine sf_draw (by kernel_rfl) (regX_run [[], [0], [], [2], [2, 3], [0, 1, 2, 3, 4], [], [6], [], [8], [8, 9], [6, 7, 8, 9, 10], [0, 1, 2, 3, 4, 5], [0, 1, 2, 3, 4, 5, 6, 7, 8, 9, 10, 11, 12]] 13 [(0, false), (1, false), (2, false), (3, false), (4, false), (5, false), (6, false), (7, false), (8, false), (9, false), (10, false), (11, false), (12, false)] (by kernel_rfl) (by kernel_rfl) (by kernel_rfl) ?_)
  repeat (refine Da1 ?_)
  (refine a_end (by rfl) (by rfl) ?_; simp only [finA, setL, List.drop_succ_cons, List.drop_zero])
  repeat (first | refine R1 ?_ | (refine R2 ?_; intro _))
  exact sf_ret (rV rfl)
theorem right_v : CallV Tryz.prog M 288 [.agg #[.int .i64 g.wide, c, .int .i64 a]] h (.tuple #[.int .i64 (a + 1), .bool (decide (a % g.wide ≠ g.wide - 1))]) := by
  have o1 := s.one
  refine calls_of_sf Tryz.func288 rfl Tryz.ntmps288 ?_
  simp only [argsL, Nat.reduceAdd]
  repeat (first | refine R1 ?_ | (refine R2 ?_; intro _))
  refine sf_draw (by kernel_rfl) (regX_run [[], [0], [0, 1], [], [3], [], [5], [5, 6], [3, 4, 5, 6, 7], [], [9], [9, 10], [9, 10, 11], [3, 4, 5, 6, 7, 8, 9, 10, 11, 12], [0, 1, 2], [0, 1, 2, 3, 4, 5, 6, 7, 8, 9, 10, 11, 12, 13, 14]] 15 [(0, false), (1, false), (2, false), (3, false), (4, false), (5, false), (6, false), (7, false), (8, false), (9, false), (10, false), (11, false), (12, false), (13, false), (14, false)] (by kernel_rfl) (by kernel_rfl) (by kernel_rfl) ?_)
  repeat (refine Da1 ?_)
  (refine a_end (by rfl) (by rfl) ?_; simp only [finA, setL, List.drop_succ_cons, List.drop_zero])
  repeat (first | refine R1 ?_ | (refine R2 ?_; intro _))
  exact sf_ret (rV rfl)
theorem down_v : CallV Tryz.prog M 289 [.agg #[.int .i64 g.wide, c, .int .i64 a]] h (.tuple #[.int .i64 (a + g.wide), .bool (decide (a + g.wide < g.cells.length))]) := by
  have o1 := s.one
  refine calls_of_sf Tryz.func289 rfl Tryz.ntmps289 ?_
  simp only [argsL, Nat.reduceAdd]
  repeat (first | refine R1 ?_ | (refine R2 ?_; intro _))
  refine sf_draw (by kernel_rfl) (regX_run [[], [0], [], [2], [2, 3], [0, 1, 2, 3, 4], [], [6], [], [8], [8, 9], [6, 7, 8, 9, 10], [], [12], [12, 13], [12, 13, 14], [6, 7, 8, 9, 10, 11, 12, 13, 14, 15], [0, 1, 2, 3, 4, 5], [0, 1, 2, 3, 4, 5, 6, 7, 8, 9, 10, 11, 12, 13, 14, 15, 16, 17]] 18 [(0, false), (1, false), (2, false), (3, false), (4, false), (5, false), (6, false), (7, false), (8, false), (9, false), (10, false), (11, false), (12, false), (13, false), (14, false), (15, false), (16, false), (17, false)] (by kernel_rfl) (by kernel_rfl) (by kernel_rfl) ?_)
  repeat (refine Da1 ?_)
  (refine a_end (by rfl) (by rfl) ?_; simp only [finA, setL, List.drop_succ_cons, List.drop_zero])
  repeat (first | refine R1 ?_ | (refine R2 ?_; intro _))
  exact sf_ret (rV rfl)
theorem left_v : CallV Tryz.prog M 290 [.agg #[.int .i64 g.wide, c, .int .i64 a]] h (.tuple #[.int .i64 (a - 1), .bool (decide (a % g.wide ≠ 0))]) := by
  have o1 := s.one
  refine calls_of_sf Tryz.func290 rfl Tryz.ntmps290 ?_
  simp only [argsL, Nat.reduceAdd]
  repeat (first | refine R1 ?_ | (refine R2 ?_; intro _))
  refine sf_draw (by kernel_rfl) (regX_run [[], [0], [0, 1], [], [3], [], [5], [5, 6], [3, 4, 5, 6, 7], [3, 4, 5, 6, 7, 8], [0, 1, 2], [0, 1, 2, 3, 4, 5, 6, 7, 8, 9, 10]] 11 [(0, false), (1, false), (2, false), (3, false), (4, false), (5, false), (6, false), (7, false), (8, false), (9, false), (10, false)] (by kernel_rfl) (by kernel_rfl) (by kernel_rfl) ?_)
  repeat (refine Da1 ?_)
  (refine a_end (by rfl) (by rfl) ?_; simp only [finA, setL, List.drop_succ_cons, List.drop_zero])
  repeat (first | refine R1 ?_ | (refine R2 ?_; intro _))
  exact sf_ret (rV rfl)
end
/-- A step, as the program tells it. -/
def stepV (g : Grid) (a d : Int) : Value := match nextAt g a d with
  | some b => .tuple #[.agg #[.int .i64 b, .int .i64 d], .bool true]
  | none => .tuple #[.agg #[.int .i64 0, .int .i64 0], .bool false]
theorem rayStep_v (h : PHeap) (c : Value) (g : Grid) (a d : Int) (s : Sl h c cellF g.cells) (hw : 1 ≤ g.wide ∧ g.wide ≤ 5) (ha : 0 ≤ a ∧ a < 1000) (hd : 0 ≤ d ∧ d ≤ 3) : CallV Tryz.prog M 279 [.agg #[.int .i64 g.wide, c], .int .i64 a, .int .i64 d] h (stepV g a d) := by
  have o1 := s.one
  obtain ⟨n, rfl⟩ : ∃ n : Nat, d = n := ⟨d.toNat, by omega⟩
  have hn : n = 0 ∨ n = 1 ∨ n = 2 ∨ n = 3 := by omega
  refine calls_of_sf Tryz.func279 rfl Tryz.ntmps279 ?_
  simp only [argsL, Nat.reduceAdd]
  repeat (first | refine R1 ?_ | (refine R2 ?_; intro _))
  rcases hn with rfl | rfl | rfl | rfl
  · refine sf_draw (by kernel_rfl) (regX_run [[], [0], [0, 1], [], [], [3, 4], [0, 1, 2, 3, 4, 5], [0, 1, 2, 3, 4, 5, 6], [0, 1, 2, 3, 4, 5, 6, 7], [0, 1, 2, 3, 4, 5, 6, 7], [0, 1, 2, 3, 4, 5, 6, 7, 8], [0, 1, 2, 3, 4, 5, 6, 7, 8, 9, 10]] 11 [(0, false), (1, false), (2, false), (3, false), (4, false), (5, false), (6, true), (7, false), (8, false), (9, false), (10, false)] (by kernel_rfl) (by kernel_rfl) (by kernel_rfl) ?_)
    repeat (refine Da1 ?_)
    refine a_callC (by rfl) (by rfl) (by rfl) (by exact up_v h c g a s hw ha) (.inl rfl) ?_
    rintro _ _ ⟨rfl, rfl⟩
    repeat (refine Da1 ?_)
    (refine a_end (by rfl) (by rfl) ?_; simp only [finA, setL, List.drop_succ_cons, List.drop_zero])
    repeat (first | refine R1 ?_ | (refine R2 ?_; intro _))
    refine sf_ifn (fun e => ?_) fun e => ?_
    · repeat (first | refine R1 ?_ | (refine R2 ?_; intro _))
      refine sf_ret (rV ?_)
      simp [stepV, nextAt, e]
    · repeat (first | refine R1 ?_ | (refine R2 ?_; intro _))
      refine sf_ret (rV ?_)
      simp [stepV, nextAt, e]
  · refine sf_draw (by kernel_rfl) (regX_run [[], [0], [0, 1], [], [], [3, 4], [0, 1, 2, 3, 4, 5], [0, 1, 2, 3, 4, 5, 6], [0, 1, 2, 3, 4, 5, 6, 7], [0, 1, 2, 3, 4, 5, 6, 7], [0, 1, 2, 3, 4, 5, 6, 7, 8], [0, 1, 2, 3, 4, 5, 6, 7, 8, 9, 10]] 11 [(0, false), (1, false), (2, false), (3, false), (4, false), (5, false), (6, true), (7, false), (8, false), (9, false), (10, false)] (by kernel_rfl) (by kernel_rfl) (by kernel_rfl) ?_)
    repeat (refine Da1 ?_)
    refine a_callC (by rfl) (by rfl) (by rfl) (by exact right_v h c g a s hw ha) (.inl rfl) ?_
    rintro _ _ ⟨rfl, rfl⟩
    repeat (refine Da1 ?_)
    (refine a_end (by rfl) (by rfl) ?_; simp only [finA, setL, List.drop_succ_cons, List.drop_zero])
    repeat (first | refine R1 ?_ | (refine R2 ?_; intro _))
    refine sf_ifn (fun e => ?_) fun e => ?_
    · repeat (first | refine R1 ?_ | (refine R2 ?_; intro _))
      refine sf_ret (rV ?_)
      simp [stepV, nextAt, e]
    · repeat (first | refine R1 ?_ | (refine R2 ?_; intro _))
      refine sf_ret (rV ?_)
      simp [stepV, nextAt, e]
  · refine sf_draw (by kernel_rfl) (regX_run [[], [0], [0, 1], [], [], [3, 4], [0, 1, 2, 3, 4, 5], [0, 1, 2, 3, 4, 5, 6], [0, 1, 2, 3, 4, 5, 6, 7], [0, 1, 2, 3, 4, 5, 6, 7], [0, 1, 2, 3, 4, 5, 6, 7, 8], [0, 1, 2, 3, 4, 5, 6, 7, 8, 9, 10]] 11 [(0, false), (1, false), (2, false), (3, false), (4, false), (5, false), (6, true), (7, false), (8, false), (9, false), (10, false)] (by kernel_rfl) (by kernel_rfl) (by kernel_rfl) ?_)
    repeat (refine Da1 ?_)
    refine a_callC (by rfl) (by rfl) (by rfl) (by exact down_v h c g a s hw ha) (.inl rfl) ?_
    rintro _ _ ⟨rfl, rfl⟩
    repeat (refine Da1 ?_)
    (refine a_end (by rfl) (by rfl) ?_; simp only [finA, setL, List.drop_succ_cons, List.drop_zero])
    repeat (first | refine R1 ?_ | (refine R2 ?_; intro _))
    refine sf_ifn (fun e => ?_) fun e => ?_
    · repeat (first | refine R1 ?_ | (refine R2 ?_; intro _))
      refine sf_ret (rV ?_)
      simp [stepV, nextAt, e]
    · repeat (first | refine R1 ?_ | (refine R2 ?_; intro _))
      refine sf_ret (rV ?_)
      simp [stepV, nextAt, e]
  · refine sf_draw (by kernel_rfl) (regX_run [[], [0], [0, 1], [], [], [3, 4], [0, 1, 2, 3, 4, 5], [0, 1, 2, 3, 4, 5, 6], [0, 1, 2, 3, 4, 5, 6, 7], [0, 1, 2, 3, 4, 5, 6, 7], [0, 1, 2, 3, 4, 5, 6, 7, 8], [0, 1, 2, 3, 4, 5, 6, 7, 8, 9, 10]] 11 [(0, false), (1, false), (2, false), (3, false), (4, false), (5, false), (6, true), (7, false), (8, false), (9, false), (10, false)] (by kernel_rfl) (by kernel_rfl) (by kernel_rfl) ?_)
    repeat (refine Da1 ?_)
    refine a_callC (by rfl) (by rfl) (by rfl) (by exact left_v h c g a s hw ha) (.inl rfl) ?_
    rintro _ _ ⟨rfl, rfl⟩
    repeat (refine Da1 ?_)
    (refine a_end (by rfl) (by rfl) ?_; simp only [finA, setL, List.drop_succ_cons, List.drop_zero])
    repeat (first | refine R1 ?_ | (refine R2 ?_; intro _))
    refine sf_ifn (fun e => ?_) fun e => ?_
    · repeat (first | refine R1 ?_ | (refine R2 ?_; intro _))
      refine sf_ret (rV ?_)
      simp [stepV, nextAt, e]
    · repeat (first | refine R1 ?_ | (refine R2 ?_; intro _))
      refine sf_ret (rV ?_)
      simp [stepV, nextAt, e]
theorem dirTurn_v (h : PHeap) (k d : Int) (hd : 0 ≤ d ∧ d ≤ 3) : CallV Tryz.prog M 260 [.int .i64 k, .int .i64 d] h (.int .i64 (dirTurn k d)) := by
  obtain ⟨n, rfl⟩ : ∃ n : Nat, d = n := ⟨d.toNat, by omega⟩
  have hn : n = 0 ∨ n = 1 ∨ n = 2 ∨ n = 3 := by omega
  refine calls_of_sf Tryz.func260 rfl Tryz.ntmps260 ?_
  simp only [argsL, Nat.reduceAdd]
  repeat (first | refine R1 ?_ | (refine R2 ?_; intro _))
  refine fp (y_callV (dirOk_v _ _) (by rfl) ?_)
  repeat (first | refine R1 ?_ | (refine R2 ?_; intro _))
  refine sf_cond (by rfl) (fun e => by simp at e; omega) fun _ => ?_
  repeat (first | refine R1 ?_ | (refine R2 ?_; intro _))
  rcases hn with rfl | rfl | rfl | rfl <;>
  · refine sf_if (fun e1 => ?_) fun e1 => ?_
    · repeat (first | refine R1 ?_ | (refine R2 ?_; intro _))
      refine sf_if (fun _ => ?_) fun e => absurd e1 e
      repeat (first | refine R1 ?_ | (refine R2 ?_; intro _))
      refine fp (Rq ?_ (q_index (by infer_instance) (by infer_instance) (by rfl) (by rfl) (by decide) (by decide) (by rfl)))
      repeat (first | refine R1 ?_ | (refine R2 ?_; intro _))
      refine sf_ret (rV ?_)
      simp [dirTurn, e1]
    · repeat (first | refine R1 ?_ | (refine R2 ?_; intro _))
      refine sf_if (fun e2 => ?_) fun e2 => ?_
      · repeat (first | refine R1 ?_ | (refine R2 ?_; intro _))
        refine fp (Rq ?_ (q_index (by infer_instance) (by infer_instance) (by rfl) (by rfl) (by decide) (by decide) (by rfl)))
        repeat (first | refine R1 ?_ | (refine R2 ?_; intro _))
        refine sf_ret (rV ?_)
        simp [dirTurn, e2]
      · repeat (first | refine R1 ?_ | (refine R2 ?_; intro _))
        refine sf_if (fun e3 => ?_) fun e3 => ?_
        · repeat (first | refine R1 ?_ | (refine R2 ?_; intro _))
          refine sf_if (fun _ => ?_) fun e => absurd e3 e
          repeat (first | refine R1 ?_ | (refine R2 ?_; intro _))
          refine fp (Rq ?_ (q_index (by infer_instance) (by infer_instance) (by rfl) (by rfl) (by decide) (by decide) (by rfl)))
          repeat (first | refine R1 ?_ | (refine R2 ?_; intro _))
          refine sf_ret (rV ?_)
          simp [dirTurn, e3]
        · repeat (first | refine R1 ?_ | (refine R2 ?_; intro _))
          refine sf_if (fun e4 => ?_) fun e4 => ?_
          · repeat (first | refine R1 ?_ | (refine R2 ?_; intro _))
            refine fp (Rq ?_ (q_index (by infer_instance) (by infer_instance) (by rfl) (by rfl) (by decide) (by decide) (by rfl)))
            repeat (first | refine R1 ?_ | (refine R2 ?_; intro _))
            refine sf_ret (rV ?_)
            simp [dirTurn, e4]
          · repeat (first | refine R1 ?_ | (refine R2 ?_; intro _))
            refine sf_ret (rV ?_)
            simp [dirTurn, e1, e2, e3, e4]
end Go.Proofs.YtekjikbaefgncaaGreatDoor

/- Walks: what is told of all sights; sights and their light: the program's own. -/
namespace Go.Proofs.YtekjikbaefgncaaGreatDoor
open Go Go.Sl
set_option maxRecDepth 100000
set_option maxHeartbeats 4000000
attribute [local irreducible] Go.Code.sf sfOps Opq opo retF Do1 anyO
variable {M : Jdg → Prop} [IsCl Tryz.prog M]

theorem sidesToldR_f (h : PHeap) (c : Value) (g : Grid) (s : Sl h c cellF g.cells) (hw : 1 ≤ g.wide ∧ g.wide ≤ 5) (rw' : Nat) (ww : Nat) (ew : g.wide = ww) (er : rowsOf g = rw') (hl : g.cells.length = rw' * ww) (hr : 1 ≤ rw' ∧ rw' ≤ 5) (f : FuncId) [Fun Tryz.prog f] (cap : Array Value) (St : Nat → Own) (val : Nat → Ray)
    (C : ∀ k, k < 2 * (ww + rw') → CallF Tryz.prog M f ([.int .i64 (k : Int), .agg #[.int .i64 (rayAt g (k : Nat)).at', .int .i64 (rayAt g (k : Nat)).dir]] ++ cap.toList) (St k) h fun v A => v = .agg #[.int .i64 (val k).at', .int .i64 (val k).dir] ∧ A = St (k + 1)) :
    CallF Tryz.prog M 272 [.agg #[.int .i64 g.wide, c], .func (.func f) #[] cap] (St 0) h fun v A => ∃ A', A = St (2 * (ww + rw')) ++ A' ∧ Gr A' v 226 rayF ((List.range (2 * (ww + rw'))).map val) := by
  have o1 := s.one
  have ray : ∀ (k : Nat), k < 2 * (ww + rw') → ∀ x y, rayAt g (k : Nat) = ⟨x, y⟩ → CallF Tryz.prog M f (#[].toList ++ [.int .i64 (k : Int), .agg #[.int .i64 x, .int .i64 y]] ++ cap.toList) (St k) h fun v A => v = .agg #[.int .i64 (val k).at', .int .i64 (val k).dir] ∧ A = St (k + 1) := fun k hk x y e => by
    have := C k hk
    rw [e] at this; exact this
  have step : ∀ (k : Nat) (xs : List Ray), xs.length = k → xs = (List.range k).map val → xs ++ [val k] = (List.range (k + 1)).map val := fun k xs _ e => by rw [List.range_succ, List.map_append, e]; rfl
  refine calls_of_sf Tryz.func272 rfl Tryz.ntmps272 ?_
  simp only [argsL, Nat.reduceAdd]
  repeat (first | refine R1 ?_ | (refine R2 ?_; intro _))
  refine sf_draw (by kernel_rfl) (regX_run [[], [0], [], [2], [0, 1, 2, 3], [0, 1, 2, 3, 4]] 4 [(0, false), (1, false), (2, false), (3, true)] (by kernel_rfl) (by kernel_rfl) (by kernel_rfl) ?_)
  repeat (refine Da1 ?_)
  refine a_callV (rowsOf_v h c g s hw.1) (by rfl) (by rfl) (.inl rfl) ?_
  rw [er]
  repeat (refine Da1 ?_)
  (refine a_end (by rfl) (by rfl) ?_; simp only [finA, setL, List.drop_succ_cons, List.drop_zero])
  repeat (first | refine R1 ?_ | (refine R2 ?_; intro _))
  obtain ⟨N, hN⟩ : ∃ N : Nat, 2 * (g.wide + (rw' : Int)) = N := ⟨2 * (ww + rw'), by omega⟩
  rw [hN]
  refine fp (y_make0 (by rfl) (by rfl) (by rfl) (by decide) (by omega) fun w A g0 => ?_)
  repeat (first | refine R1 ?_ | (refine R2 ?_; intro _))
  rename_i b2
  refine sf_lp (ι := Nat × Value) [1, 5, 6, 21] (fun x => [(22, .int .i64 (x.1 : Int)), (7, x.2)]) (fun x O => x.1 ≤ ww ∧ ∃ A', O = St x.1 ++ (A' ++ [(b2, .cells #[.int .i64 g.wide, c] 34)]) ∧ ∃ xs, xs.length = x.1 ∧ xs = (List.range x.1).map val ∧ Gr A' x.2 226 rayF xs) (fun x => ww - x.1) (0, w) (St 0 ++ (A ++ [(b2, .cells #[.int .i64 g.wide, c] 34)])) ⟨by omega, A, rfl, [], rfl, rfl, g0⟩ ?_
  rintro ⟨j, v⟩ O ⟨hj, A', rfl, xs, hx, ex, gr⟩
  simp only at hj hx ex gr ⊢
  subst hx
  have o2 := gr.one
  repeat (first | refine R1 ?_ | (refine R2 ?_; intro _))
  refine sf_if (fun e => ?_) fun e => ?_
  · repeat (first | refine R1 ?_ | (refine R2 ?_; intro _))
    refine fp (y_callC2 (by rfl) (by rfl) (by exact ray xs.length (by omega) xs.length 2 (by unfold rayAt; rw [if_pos (by omega)])) ?_)
    rintro _ _ ⟨rfl, rfl⟩
    repeat (first | refine R1 ?_ | (refine R2 ?_; intro _))
    refine fp (y_bs (by rfl) (by rfl) (by rfl) (by rfl) (by decide) fun u Au gu => ?_)
    repeat (first | refine R1 ?_ | (refine R2 ?_; intro _))
    refine fp (y_append (by rfl) (by rfl) gr gu (fun y _ => FlatOne.one y) (by rfl) (by rfl) (by simp; omega) (by simp; omega) fun v2 A2 g2 => ?_)
    repeat (first | refine R1 ?_ | (refine R2 ?_; intro _))
    exact ⟨(xs.length + 1, v2), by simp only; omega, ⟨rfl, rfl, trivial⟩, rfl, St (xs.length + 1) ++ (A2 ++ [(b2, .cells #[.int .i64 g.wide, c] 34)]), _, inferInstance, by simp only; omega, A2, rfl, _, by simp, step _ xs rfl ex, g2⟩
  refine sf_exit ?_
  obtain rfl : ww = xs.length := by omega
  clear g0 w A e hj
  repeat (first | refine R1 ?_ | (refine R2 ?_; intro _))
  refine sf_lp (ι := Nat × Value) [1, 5, 6, 35] (fun x => [(36, .int .i64 (x.1 : Int)), (7, x.2)]) (fun x O => x.1 ≤ rw' ∧ ∃ A', O = St (xs.length + x.1) ++ (A' ++ [(b2, .cells #[.int .i64 g.wide, c] 34)]) ∧ ∃ ys, ys.length = xs.length + x.1 ∧ ys = (List.range (xs.length + x.1)).map val ∧ Gr A' x.2 226 rayF ys) (fun x => rw' - x.1) (0, v) (St xs.length ++ (A' ++ [(b2, .cells #[.int .i64 g.wide, c] 34)])) ⟨by omega, A', rfl, xs, rfl, ex, gr⟩ ?_
  rintro ⟨j, v⟩ O ⟨hj, A', rfl, ys, hx, ey, gr⟩
  simp only at hj hx ey gr ⊢
  have o2 := gr.one
  repeat (first | refine R1 ?_ | (refine R2 ?_; intro _))
  refine sf_if (fun e => ?_) fun e => ?_
  · have hm : 0 ≤ (j : Int) * g.wide ∧ (j : Int) * g.wide ≤ 4 * 5 := ⟨Int.mul_nonneg (by omega) (by omega), Int.mul_le_mul (by omega) (by omega) (by omega) (by omega)⟩
    repeat (first | refine R1 ?_ | (refine R2 ?_; intro _))
    rw [← hx]
    refine fp (y_callC2 (by rfl) (by rfl) (by exact ray ys.length (by omega) _ 3 (by unfold rayAt; rw [if_neg (by omega), if_pos (by omega)]; exact ray_ext (by rw [show ((ys.length : Nat) : Int) - g.wide = j by omega]) rfl)) ?_)
    rintro _ _ ⟨rfl, rfl⟩
    repeat (first | refine R1 ?_ | (refine R2 ?_; intro _))
    refine fp (y_bs (by rfl) (by rfl) (by rfl) (by rfl) (by decide) fun u Au gu => ?_)
    repeat (first | refine R1 ?_ | (refine R2 ?_; intro _))
    refine fp (y_append (by rfl) (by rfl) gr gu (fun y _ => FlatOne.one y) (by rfl) (by rfl) (by simp; omega) (by simp; omega) fun v2 A2 g2 => ?_)
    repeat (first | refine R1 ?_ | (refine R2 ?_; intro _))
    exact ⟨(j + 1, v2), by simp only; omega, ⟨rfl, rfl, trivial⟩, rfl, St (ys.length + 1) ++ (A2 ++ [(b2, .cells #[.int .i64 g.wide, c] 34)]), _, inferInstance, by simp only; omega, A2, by simp only [hx]; rfl, _, by simp; omega, by rw [step _ ys rfl (by rw [hx]; exact ey), hx]; rfl, g2⟩
  refine sf_exit ?_
  obtain rfl : rw' = j := by omega
  clear e hj
  have gr' := gr
  clear gr
  have hl' : (g.cells.length : Int) = (rw' : Int) * g.wide := by rw [ew, hl, Int.natCast_mul]
  have hm0 : 0 ≤ (rw' : Int) * g.wide ∧ (rw' : Int) * g.wide ≤ 5 * 5 := ⟨Int.mul_nonneg (by omega) (by omega), Int.mul_le_mul (by omega) (by omega) (by omega) (by omega)⟩
  repeat (first | refine R1 ?_ | (refine R2 ?_; intro _))
  refine sf_lp (ι := Nat × Value) [1, 5, 6, 54] (fun x => [(55, .int .i64 (x.1 : Int)), (7, x.2)]) (fun x O => x.1 ≤ xs.length ∧ ∃ A', O = St (xs.length + rw' + x.1) ++ (A' ++ [(b2, .cells #[.int .i64 g.wide, c] 34)]) ∧ ∃ ys, ys.length = xs.length + rw' + x.1 ∧ ys = (List.range (xs.length + rw' + x.1)).map val ∧ Gr A' x.2 226 rayF ys) (fun x => xs.length - x.1) (0, v) (St (xs.length + rw') ++ (A' ++ [(b2, .cells #[.int .i64 g.wide, c] 34)])) ⟨by omega, A', rfl, ys, hx, ey, gr'⟩ ?_
  clear gr' ey hx o2 ys
  rintro ⟨j, v⟩ O ⟨hj, A', rfl, ys, hx, ey, gr⟩
  simp only at hj hx ey gr ⊢
  have o2 := gr.one
  repeat (first | refine R1 ?_ | (refine R2 ?_; intro _))
  refine sf_if (fun e => ?_) fun e => ?_
  · repeat (first | refine R1 ?_ | (refine R2 ?_; intro _))
    rw [← hx]
    refine fp (y_callC2 (by rfl) (by rfl) (by exact ray ys.length (by omega) _ 0 (by unfold rayAt; rw [if_neg (by omega), if_neg (by omega), if_pos (by omega)]; exact ray_ext (by omega) rfl)) ?_)
    rintro _ _ ⟨rfl, rfl⟩
    repeat (first | refine R1 ?_ | (refine R2 ?_; intro _))
    refine fp (y_bs (by rfl) (by rfl) (by rfl) (by rfl) (by decide) fun u Au gu => ?_)
    repeat (first | refine R1 ?_ | (refine R2 ?_; intro _))
    refine fp (y_append (by rfl) (by rfl) gr gu (fun y _ => FlatOne.one y) (by rfl) (by rfl) (by simp; omega) (by simp; omega) fun v2 A2 g2 => ?_)
    repeat (first | refine R1 ?_ | (refine R2 ?_; intro _))
    exact ⟨(j + 1, v2), by simp only; omega, ⟨rfl, rfl, trivial⟩, rfl, St (ys.length + 1) ++ (A2 ++ [(b2, .cells #[.int .i64 g.wide, c] 34)]), _, inferInstance, by simp only; omega, A2, by simp only [hx]; rfl, _, by simp; omega, by rw [step _ ys rfl (by rw [hx]; exact ey), hx]; rfl, g2⟩
  refine sf_exit ?_
  obtain rfl : xs.length = j := by omega
  clear e hj
  repeat (first | refine R1 ?_ | (refine R2 ?_; intro _))
  refine sf_lp (ι := Nat × Value) [1, 5, 6, 73] (fun x => [(74, .int .i64 (x.1 : Int)), (7, x.2)]) (fun x O => x.1 ≤ rw' ∧ ∃ A', O = St (xs.length + rw' + xs.length + x.1) ++ (A' ++ [(b2, .cells #[.int .i64 g.wide, c] 34)]) ∧ ∃ ys, ys.length = xs.length + rw' + xs.length + x.1 ∧ ys = (List.range (xs.length + rw' + xs.length + x.1)).map val ∧ Gr A' x.2 226 rayF ys) (fun x => rw' - x.1) (0, v) (St (xs.length + rw' + xs.length) ++ (A' ++ [(b2, .cells #[.int .i64 g.wide, c] 34)])) ⟨by omega, A', rfl, ys, hx, ey, gr⟩ ?_
  clear gr ey hx o2 ys
  rintro ⟨j, v⟩ O ⟨hj, A', rfl, ys, hx, ey, gr⟩
  simp only at hj hx ey gr ⊢
  have o2 := gr.one
  repeat (first | refine R1 ?_ | (refine R2 ?_; intro _))
  refine sf_if (fun e => ?_) fun e => ?_
  · have hm : 0 ≤ ((rw' : Int) - 1 - j) * g.wide ∧ ((rw' : Int) - 1 - j) * g.wide ≤ 4 * 5 := ⟨Int.mul_nonneg (by omega) (by omega), Int.mul_le_mul (by omega) (by omega) (by omega) (by omega)⟩
    have hq : ((rw' : Int) - 1 - j) * g.wide = (rw' : Int) * g.wide - g.wide - (j : Int) * g.wide := by rw [Int.sub_mul, Int.sub_mul, Int.one_mul]
    repeat (first | refine R1 ?_ | (refine R2 ?_; intro _))
    rw [← hx]
    refine fp (y_callC2 (by rfl) (by rfl) (by exact ray ys.length (by omega) _ 1 (by unfold rayAt; rw [if_neg (by omega), if_neg (by omega), if_neg (by omega)]; exact ray_ext (by rw [hl', hq, show ((ys.length : Nat) : Int) - g.wide - rowsOf g - g.wide = j by omega]) rfl)) ?_)
    rintro _ _ ⟨rfl, rfl⟩
    repeat (first | refine R1 ?_ | (refine R2 ?_; intro _))
    refine fp (y_bs (by rfl) (by rfl) (by rfl) (by rfl) (by decide) fun u Au gu => ?_)
    repeat (first | refine R1 ?_ | (refine R2 ?_; intro _))
    refine fp (y_append (by rfl) (by rfl) gr gu (fun y _ => FlatOne.one y) (by rfl) (by rfl) (by simp; omega) (by simp; omega) fun v2 A2 g2 => ?_)
    repeat (first | refine R1 ?_ | (refine R2 ?_; intro _))
    exact ⟨(j + 1, v2), by simp only; omega, ⟨rfl, rfl, trivial⟩, rfl, St (ys.length + 1) ++ (A2 ++ [(b2, .cells #[.int .i64 g.wide, c] 34)]), _, inferInstance, by simp only; omega, A2, by simp only [hx]; rfl, _, by simp; omega, by rw [step _ ys rfl (by rw [hx]; exact ey), hx]; rfl, g2⟩
  refine sf_exit ?_
  obtain rfl : rw' = j := by omega
  repeat (first | refine R1 ?_ | (refine R2 ?_; intro _))
  have eN : 2 * (xs.length + rw') = xs.length + rw' + xs.length + rw' := by omega
  exact sf_ret (rO (St (xs.length + rw' + xs.length + rw') ++ A') ⟨A', by rw [eN], by rw [eN, ← ey]; exact gr⟩)

theorem sidesToldB_f (h : PHeap) (c : Value) (g : Grid) (s : Sl h c cellF g.cells) (hw : 1 ≤ g.wide ∧ g.wide ≤ 5) (rw' : Nat) (ww : Nat) (ew : g.wide = ww) (er : rowsOf g = rw') (hl : g.cells.length = rw' * ww) (hr : 1 ≤ rw' ∧ rw' ≤ 5) (f : FuncId) [Fun Tryz.prog f] (cap : Array Value) (St : Nat → Own) (val : Nat → Bool)
    (C : ∀ k, k < 2 * (ww + rw') → CallF Tryz.prog M f ([.int .i64 (k : Int), .agg #[.int .i64 (rayAt g (k : Nat)).at', .int .i64 (rayAt g (k : Nat)).dir]] ++ cap.toList) (St k) h fun v A => v = .bool (val k) ∧ A = St (k + 1)) :
    CallF Tryz.prog M 292 [.agg #[.int .i64 g.wide, c], .func (.func f) #[] cap] (St 0) h fun v A => ∃ A', A = St (2 * (ww + rw')) ++ A' ∧ Gr A' v 4 boolF ((List.range (2 * (ww + rw'))).map val) := by
  have o1 := s.one
  have ray : ∀ (k : Nat), k < 2 * (ww + rw') → ∀ x y, rayAt g (k : Nat) = ⟨x, y⟩ → CallF Tryz.prog M f (#[].toList ++ [.int .i64 (k : Int), .agg #[.int .i64 x, .int .i64 y]] ++ cap.toList) (St k) h fun v A => v = .bool (val k) ∧ A = St (k + 1) := fun k hk x y e => by
    have := C k hk
    rw [e] at this; exact this
  have step : ∀ (k : Nat) (xs : List Bool), xs.length = k → xs = (List.range k).map val → xs ++ [val k] = (List.range (k + 1)).map val := fun k xs _ e => by rw [List.range_succ, List.map_append, e]; rfl
  refine calls_of_sf Tryz.func292 rfl Tryz.ntmps292 ?_
  simp only [argsL, Nat.reduceAdd]
  repeat (first | refine R1 ?_ | (refine R2 ?_; intro _))
  refine sf_draw (by kernel_rfl) (regX_run [[], [0], [], [2], [0, 1, 2, 3], [0, 1, 2, 3, 4]] 4 [(0, false), (1, false), (2, false), (3, true)] (by kernel_rfl) (by kernel_rfl) (by kernel_rfl) ?_)
  repeat (refine Da1 ?_)
  refine a_callV (rowsOf_v h c g s hw.1) (by rfl) (by rfl) (.inl rfl) ?_
  rw [er]
  repeat (refine Da1 ?_)
  (refine a_end (by rfl) (by rfl) ?_; simp only [finA, setL, List.drop_succ_cons, List.drop_zero])
  repeat (first | refine R1 ?_ | (refine R2 ?_; intro _))
  obtain ⟨N, hN⟩ : ∃ N : Nat, 2 * (g.wide + (rw' : Int)) = N := ⟨2 * (ww + rw'), by omega⟩
  rw [hN]
  refine fp (y_make0 (by rfl) (by rfl) (by rfl) (by decide) (by omega) fun w A g0 => ?_)
  repeat (first | refine R1 ?_ | (refine R2 ?_; intro _))
  rename_i b2
  refine sf_lp (ι := Nat × Value) [1, 5, 6, 21] (fun x => [(22, .int .i64 (x.1 : Int)), (7, x.2)]) (fun x O => x.1 ≤ ww ∧ ∃ A', O = St x.1 ++ (A' ++ [(b2, .cells #[.int .i64 g.wide, c] 34)]) ∧ ∃ xs, xs.length = x.1 ∧ xs = (List.range x.1).map val ∧ Gr A' x.2 4 boolF xs) (fun x => ww - x.1) (0, w) (St 0 ++ (A ++ [(b2, .cells #[.int .i64 g.wide, c] 34)])) ⟨by omega, A, rfl, [], rfl, rfl, g0⟩ ?_
  rintro ⟨j, v⟩ O ⟨hj, A', rfl, xs, hx, ex, gr⟩
  simp only at hj hx ex gr ⊢
  subst hx
  have o2 := gr.one
  repeat (first | refine R1 ?_ | (refine R2 ?_; intro _))
  refine sf_if (fun e => ?_) fun e => ?_
  · repeat (first | refine R1 ?_ | (refine R2 ?_; intro _))
    refine fp (y_callC2 (by rfl) (by rfl) (by exact ray xs.length (by omega) xs.length 2 (by unfold rayAt; rw [if_pos (by omega)])) ?_)
    rintro _ _ ⟨rfl, rfl⟩
    repeat (first | refine R1 ?_ | (refine R2 ?_; intro _))
    refine fp (y_bs (by rfl) (by rfl) (by rfl) (by rfl) (by decide) fun u Au gu => ?_)
    repeat (first | refine R1 ?_ | (refine R2 ?_; intro _))
    refine fp (y_append (by rfl) (by rfl) gr gu (fun y _ => FlatOne.one y) (by rfl) (by rfl) (by simp; omega) (by simp; omega) fun v2 A2 g2 => ?_)
    repeat (first | refine R1 ?_ | (refine R2 ?_; intro _))
    exact ⟨(xs.length + 1, v2), by simp only; omega, ⟨rfl, rfl, trivial⟩, rfl, St (xs.length + 1) ++ (A2 ++ [(b2, .cells #[.int .i64 g.wide, c] 34)]), _, inferInstance, by simp only; omega, A2, rfl, _, by simp, step _ xs rfl ex, g2⟩
  refine sf_exit ?_
  obtain rfl : ww = xs.length := by omega
  clear g0 w A e hj
  repeat (first | refine R1 ?_ | (refine R2 ?_; intro _))
  refine sf_lp (ι := Nat × Value) [1, 5, 6, 35] (fun x => [(36, .int .i64 (x.1 : Int)), (7, x.2)]) (fun x O => x.1 ≤ rw' ∧ ∃ A', O = St (xs.length + x.1) ++ (A' ++ [(b2, .cells #[.int .i64 g.wide, c] 34)]) ∧ ∃ ys, ys.length = xs.length + x.1 ∧ ys = (List.range (xs.length + x.1)).map val ∧ Gr A' x.2 4 boolF ys) (fun x => rw' - x.1) (0, v) (St xs.length ++ (A' ++ [(b2, .cells #[.int .i64 g.wide, c] 34)])) ⟨by omega, A', rfl, xs, rfl, ex, gr⟩ ?_
  rintro ⟨j, v⟩ O ⟨hj, A', rfl, ys, hx, ey, gr⟩
  simp only at hj hx ey gr ⊢
  have o2 := gr.one
  repeat (first | refine R1 ?_ | (refine R2 ?_; intro _))
  refine sf_if (fun e => ?_) fun e => ?_
  · have hm : 0 ≤ (j : Int) * g.wide ∧ (j : Int) * g.wide ≤ 4 * 5 := ⟨Int.mul_nonneg (by omega) (by omega), Int.mul_le_mul (by omega) (by omega) (by omega) (by omega)⟩
    repeat (first | refine R1 ?_ | (refine R2 ?_; intro _))
    rw [← hx]
    refine fp (y_callC2 (by rfl) (by rfl) (by exact ray ys.length (by omega) _ 3 (by unfold rayAt; rw [if_neg (by omega), if_pos (by omega)]; exact ray_ext (by rw [show ((ys.length : Nat) : Int) - g.wide = j by omega]) rfl)) ?_)
    rintro _ _ ⟨rfl, rfl⟩
    repeat (first | refine R1 ?_ | (refine R2 ?_; intro _))
    refine fp (y_bs (by rfl) (by rfl) (by rfl) (by rfl) (by decide) fun u Au gu => ?_)
    repeat (first | refine R1 ?_ | (refine R2 ?_; intro _))
    refine fp (y_append (by rfl) (by rfl) gr gu (fun y _ => FlatOne.one y) (by rfl) (by rfl) (by simp; omega) (by simp; omega) fun v2 A2 g2 => ?_)
    repeat (first | refine R1 ?_ | (refine R2 ?_; intro _))
    exact ⟨(j + 1, v2), by simp only; omega, ⟨rfl, rfl, trivial⟩, rfl, St (ys.length + 1) ++ (A2 ++ [(b2, .cells #[.int .i64 g.wide, c] 34)]), _, inferInstance, by simp only; omega, A2, by simp only [hx]; rfl, _, by simp; omega, by rw [step _ ys rfl (by rw [hx]; exact ey), hx]; rfl, g2⟩
  refine sf_exit ?_
  obtain rfl : rw' = j := by omega
  clear e hj
  have gr' := gr
  clear gr
  have hl' : (g.cells.length : Int) = (rw' : Int) * g.wide := by rw [ew, hl, Int.natCast_mul]
  have hm0 : 0 ≤ (rw' : Int) * g.wide ∧ (rw' : Int) * g.wide ≤ 5 * 5 := ⟨Int.mul_nonneg (by omega) (by omega), Int.mul_le_mul (by omega) (by omega) (by omega) (by omega)⟩
  repeat (first | refine R1 ?_ | (refine R2 ?_; intro _))
  refine sf_lp (ι := Nat × Value) [1, 5, 6, 54] (fun x => [(55, .int .i64 (x.1 : Int)), (7, x.2)]) (fun x O => x.1 ≤ xs.length ∧ ∃ A', O = St (xs.length + rw' + x.1) ++ (A' ++ [(b2, .cells #[.int .i64 g.wide, c] 34)]) ∧ ∃ ys, ys.length = xs.length + rw' + x.1 ∧ ys = (List.range (xs.length + rw' + x.1)).map val ∧ Gr A' x.2 4 boolF ys) (fun x => xs.length - x.1) (0, v) (St (xs.length + rw') ++ (A' ++ [(b2, .cells #[.int .i64 g.wide, c] 34)])) ⟨by omega, A', rfl, ys, hx, ey, gr'⟩ ?_
  clear gr' ey hx o2 ys
  rintro ⟨j, v⟩ O ⟨hj, A', rfl, ys, hx, ey, gr⟩
  simp only at hj hx ey gr ⊢
  have o2 := gr.one
  repeat (first | refine R1 ?_ | (refine R2 ?_; intro _))
  refine sf_if (fun e => ?_) fun e => ?_
  · repeat (first | refine R1 ?_ | (refine R2 ?_; intro _))
    rw [← hx]
    refine fp (y_callC2 (by rfl) (by rfl) (by exact ray ys.length (by omega) _ 0 (by unfold rayAt; rw [if_neg (by omega), if_neg (by omega), if_pos (by omega)]; exact ray_ext (by omega) rfl)) ?_)
    rintro _ _ ⟨rfl, rfl⟩
    repeat (first | refine R1 ?_ | (refine R2 ?_; intro _))
    refine fp (y_bs (by rfl) (by rfl) (by rfl) (by rfl) (by decide) fun u Au gu => ?_)
    repeat (first | refine R1 ?_ | (refine R2 ?_; intro _))
    refine fp (y_append (by rfl) (by rfl) gr gu (fun y _ => FlatOne.one y) (by rfl) (by rfl) (by simp; omega) (by simp; omega) fun v2 A2 g2 => ?_)
    repeat (first | refine R1 ?_ | (refine R2 ?_; intro _))
    exact ⟨(j + 1, v2), by simp only; omega, ⟨rfl, rfl, trivial⟩, rfl, St (ys.length + 1) ++ (A2 ++ [(b2, .cells #[.int .i64 g.wide, c] 34)]), _, inferInstance, by simp only; omega, A2, by simp only [hx]; rfl, _, by simp; omega, by rw [step _ ys rfl (by rw [hx]; exact ey), hx]; rfl, g2⟩
  refine sf_exit ?_
  obtain rfl : xs.length = j := by omega
  clear e hj
  repeat (first | refine R1 ?_ | (refine R2 ?_; intro _))
  refine sf_lp (ι := Nat × Value) [1, 5, 6, 73] (fun x => [(74, .int .i64 (x.1 : Int)), (7, x.2)]) (fun x O => x.1 ≤ rw' ∧ ∃ A', O = St (xs.length + rw' + xs.length + x.1) ++ (A' ++ [(b2, .cells #[.int .i64 g.wide, c] 34)]) ∧ ∃ ys, ys.length = xs.length + rw' + xs.length + x.1 ∧ ys = (List.range (xs.length + rw' + xs.length + x.1)).map val ∧ Gr A' x.2 4 boolF ys) (fun x => rw' - x.1) (0, v) (St (xs.length + rw' + xs.length) ++ (A' ++ [(b2, .cells #[.int .i64 g.wide, c] 34)])) ⟨by omega, A', rfl, ys, hx, ey, gr⟩ ?_
  clear gr ey hx o2 ys
  rintro ⟨j, v⟩ O ⟨hj, A', rfl, ys, hx, ey, gr⟩
  simp only at hj hx ey gr ⊢
  have o2 := gr.one
  repeat (first | refine R1 ?_ | (refine R2 ?_; intro _))
  refine sf_if (fun e => ?_) fun e => ?_
  · have hm : 0 ≤ ((rw' : Int) - 1 - j) * g.wide ∧ ((rw' : Int) - 1 - j) * g.wide ≤ 4 * 5 := ⟨Int.mul_nonneg (by omega) (by omega), Int.mul_le_mul (by omega) (by omega) (by omega) (by omega)⟩
    have hq : ((rw' : Int) - 1 - j) * g.wide = (rw' : Int) * g.wide - g.wide - (j : Int) * g.wide := by rw [Int.sub_mul, Int.sub_mul, Int.one_mul]
    repeat (first | refine R1 ?_ | (refine R2 ?_; intro _))
    rw [← hx]
    refine fp (y_callC2 (by rfl) (by rfl) (by exact ray ys.length (by omega) _ 1 (by unfold rayAt; rw [if_neg (by omega), if_neg (by omega), if_neg (by omega)]; exact ray_ext (by rw [hl', hq, show ((ys.length : Nat) : Int) - g.wide - rowsOf g - g.wide = j by omega]) rfl)) ?_)
    rintro _ _ ⟨rfl, rfl⟩
    repeat (first | refine R1 ?_ | (refine R2 ?_; intro _))
    refine fp (y_bs (by rfl) (by rfl) (by rfl) (by rfl) (by decide) fun u Au gu => ?_)
    repeat (first | refine R1 ?_ | (refine R2 ?_; intro _))
    refine fp (y_append (by rfl) (by rfl) gr gu (fun y _ => FlatOne.one y) (by rfl) (by rfl) (by simp; omega) (by simp; omega) fun v2 A2 g2 => ?_)
    repeat (first | refine R1 ?_ | (refine R2 ?_; intro _))
    exact ⟨(j + 1, v2), by simp only; omega, ⟨rfl, rfl, trivial⟩, rfl, St (ys.length + 1) ++ (A2 ++ [(b2, .cells #[.int .i64 g.wide, c] 34)]), _, inferInstance, by simp only; omega, A2, by simp only [hx]; rfl, _, by simp; omega, by rw [step _ ys rfl (by rw [hx]; exact ey), hx]; rfl, g2⟩
  refine sf_exit ?_
  obtain rfl : rw' = j := by omega
  repeat (first | refine R1 ?_ | (refine R2 ?_; intro _))
  have eN : 2 * (xs.length + rw') = xs.length + rw' + xs.length + rw' := by omega
  exact sf_ret (rO (St (xs.length + rw' + xs.length + rw') ++ A') ⟨A', by rw [eN], by rw [eN, ← ey]; exact gr⟩)

def sightMany (g : Grid) : Int := if gridOk g = true then manyOf g else 0
theorem sightMany_v (h : PHeap) (ca : List Value) (g : Grid) (b : (gridR τ).B h ca g) : CallV Tryz.prog M 207 [.agg ca.toArray] h (.int .i64 (sightMany g)) := by
  obtain ⟨c, rfl, s⟩ := gridB b
  have o1 := s.one
  refine calls_of_sf Tryz.func207 rfl Tryz.ntmps207 ?_
  simp only [argsL, Nat.reduceAdd]
  repeat (first | refine R1 ?_ | (refine R2 ?_; intro _))
  refine fp (y_callV (gridOk_v _ _ g b) (by rfl) ?_)
  repeat (first | refine R1 ?_ | (refine R2 ?_; intro _))
  refine sf_cond (by rfl) (fun e => ?_) fun e => ?_
  · repeat (first | refine R1 ?_ | (refine R2 ?_; intro _))
    simp only [Bool.not_eq_true'] at e
    refine sf_ret (rV ?_)
    simp [sightMany, e]
  · simp only [Bool.not_eq_false'] at e
    have k := gok e
    have h1 := k.w1; have h2 := k.w5; have h3 := k.r1; have h4 := k.r5
    repeat (first | refine R1 ?_ | (refine R2 ?_; intro _))
    refine sf_draw (by kernel_rfl) (regX_run [[], [0], [], [2], [0, 1, 2, 3], [0, 1, 2, 3, 4], [0, 1, 2, 3, 4, 5]] 4 [(0, false), (1, false), (2, false), (3, true)] (by kernel_rfl) (by kernel_rfl) (by kernel_rfl) ?_)
    repeat (refine Da1 ?_)
    refine a_callV (rowsOf_v h c g s h1) (by rfl) (by rfl) (.inl rfl) ?_
    repeat (refine Da1 ?_)
    (refine a_end (by rfl) (by rfl) ?_; simp only [finA, setL, List.drop_succ_cons, List.drop_zero])
    repeat (first | refine R1 ?_ | (refine R2 ?_; intro _))
    refine sf_ret (rV ?_)
    simp [sightMany, e, manyOf]
def sightRayV (g : Grid) (k : Int) : Value := if 0 ≤ k ∧ k < sightMany g then .tuple #[.agg #[.int .i64 (rayAt g k).at', .int .i64 (rayAt g k).dir], .bool true] else .tuple #[.agg #[.int .i64 0, .int .i64 0], .bool false]
theorem sightRay1_v (h : PHeap) (k a d : Int) : CallV Tryz.prog M 273 [.int .i64 k, .agg #[.int .i64 a, .int .i64 d]] h (.agg #[.int .i64 a, .int .i64 d]) := by
  refine calls_of_sf Tryz.func273 rfl Tryz.ntmps273 ?_
  simp only [argsL, Nat.reduceAdd]
  repeat (first | refine R1 ?_ | (refine R2 ?_; intro _))
  exact sf_ret (rV rfl)
theorem sightRay_v (h : PHeap) (ca : List Value) (g : Grid) (b : (gridR τ).B h ca g) (k : Int) : CallV Tryz.prog M 256 [.agg ca.toArray, .int .i64 k] h (sightRayV g k) := by
  obtain ⟨c, rfl, s⟩ := gridB b
  have o1 := s.one
  refine calls_of_sf Tryz.func256 rfl Tryz.ntmps256 ?_
  simp only [argsL, Nat.reduceAdd]
  repeat (first | refine R1 ?_ | (refine R2 ?_; intro _))
  refine f_split (fun h1 => ?_) fun h1 => ?_
  · repeat (first | refine R1 ?_ | (refine R2 ?_; intro _))
    refine sf_T rfl ?_
    repeat (first | refine R1 ?_ | (refine R2 ?_; intro _))
    refine sf_ret (rV ?_)
    rw [sightRayV, if_neg (by omega)]
  repeat (first | refine R1 ?_ | (refine R2 ?_; intro _))
  refine fp (y_callV (sightMany_v _ _ g b) (by rfl) ?_)
  repeat (first | refine R1 ?_ | (refine R2 ?_; intro _))
  refine sf_if (fun h2 => ?_) fun h2 => ?_
  · repeat (first | refine R1 ?_ | (refine R2 ?_; intro _))
    refine sf_ret (rV ?_)
    rw [sightRayV, if_neg (by omega)]
  have hk : 0 ≤ k ∧ k < sightMany g := by omega
  obtain ⟨n, rfl⟩ : ∃ n : Nat, k = n := ⟨k.toNat, by omega⟩
  have e : gridOk g = true := by
    cases e : gridOk g with
    | true => rfl
    | false => simp [sightMany, e] at hk; omega
  have kg := gok e
  have w1 := kg.w1; have w5 := kg.w5; have r1 := kg.r1; have r5 := kg.r5
  have em : sightMany g = manyOf g := by rw [sightMany, if_pos e]
  obtain ⟨ww, ew⟩ : ∃ ww : Nat, g.wide = ww := ⟨g.wide.toNat, by omega⟩
  obtain ⟨rr, er⟩ : ∃ rr : Nat, rowsOf g = rr := ⟨(rowsOf g).toNat, by omega⟩
  have hl : g.cells.length = rr * ww := by
    have := kg.len
    rw [er, ew] at this
    exact_mod_cast this
  have hm : n < 2 * (ww + rr) := by
    rw [em, manyOf, er, ew] at hk; omega
  repeat (first | refine R1 ?_ | (refine R2 ?_; intro _))
  refine fp (y_call (sidesToldR_f h c g s ⟨w1, w5⟩ rr ww ew er hl ⟨by omega, by omega⟩ 273 #[] (fun _ => []) (fun k : Nat => rayAt g (k : Nat)) (fun k hk => sightRay1_v h _ _ _)) (by rfl) ?_)
  rintro v _ ⟨A', rfl, gr⟩
  have gx : gt ((List.range (2 * (ww + rr))).map fun k : Nat => rayAt g (k : Nat)) n = rayAt g n := by
    rw [gt_eq (by simp; omega)]; simp
  have lx : ((List.range (2 * (ww + rr))).map fun k : Nat => rayAt g (k : Nat)).length = 2 * (ww + rr) := by simp
  generalize ((List.range (2 * (ww + rr))).map fun k : Nat => rayAt g (k : Nat)) = xs at gr gx lx
  have o2 := gr.one
  repeat (first | refine R1 ?_ | (refine R2 ?_; intro _))
  refine sf_ret (rV ?_)
  rw [gx, sightRayV, if_pos hk]

/-- The last one of the first k at which it holds. -/
def foundAt (p : Nat → Bool) : Nat → Int
  | 0 => -1
  | k + 1 => if p k = true then k else foundAt p k
theorem foundAt_is {g : Grid} {R : Int} (k : Gok g R) {a d : Int} (N : Nat) (hN : manyOf g = N) : foundAt (fun k => decide (rayAt g (k : Nat) = ⟨a, (d + 2) % 4⟩)) N = sightOf g a d := by
  have key : ∀ n : Nat, n ≤ N → ((∃ i : Nat, i < n ∧ rayAt g (i : Nat) = ⟨a, (d + 2) % 4⟩ ∧ foundAt (fun k => decide (rayAt g (k : Nat) = ⟨a, (d + 2) % 4⟩)) n = i) ∨ ((∀ i : Nat, i < n → rayAt g (i : Nat) ≠ ⟨a, (d + 2) % 4⟩) ∧ foundAt (fun k => decide (rayAt g (k : Nat) = ⟨a, (d + 2) % 4⟩)) n = -1)) := by
    intro n
    induction n with
    | zero => intro _; exact .inr ⟨fun i hi => absurd hi (by omega), rfl⟩
    | succ n ih =>
      intro hn
      by_cases e : rayAt g (n : Nat) = ⟨a, (d + 2) % 4⟩
      · exact .inl ⟨n, by omega, e, by simp [foundAt, e]⟩
      · rcases ih (by omega) with ⟨i, h1, h2, h3⟩ | ⟨h1, h2⟩
        · exact .inl ⟨i, by omega, h2, by simp only [foundAt, e, decide_false, Bool.false_eq_true, if_false]; exact h3⟩
        · refine .inr ⟨fun i hi => ?_, by simp only [foundAt, e, decide_false, Bool.false_eq_true, if_false]; exact h2⟩
          rcases Nat.lt_or_ge i n with h | h
          · exact h1 i h
          · obtain rfl : i = n := by omega
            exact e
  rcases key N (Nat.le_refl _) with ⟨i, h1, h2, h3⟩ | ⟨h1, h2⟩
  · rw [h3, sightOf_some k (by omega) (by omega) h2]
  · rw [h2, sightOf_none fun i i0 i1 => ?_]
    have := h1 i.toNat (by omega)
    rwa [Int.toNat_of_nonneg i0] at this
theorem sightOf1_f (h : PHeap) (k a d x y f : Int) (b1 b2 : Nat) : CallF Tryz.prog M 293 [.int .i64 k, .agg #[.int .i64 a, .int .i64 d], .pointer (some ⟨b1, 0, none⟩), .pointer (some ⟨b2, 0, none⟩)] [(b1, .cells #[.int .i64 x, .int .i64 y] 226), (b2, .cells #[.int .i64 f] 3)] h fun v A => v = .bool (decide ((⟨a, d⟩ : Ray) = ⟨x, y⟩)) ∧ A = [(b1, .cells #[.int .i64 x, .int .i64 y] 226), (b2, .cells #[.int .i64 (if (⟨a, d⟩ : Ray) = ⟨x, y⟩ then k else f)] 3)] := by
  refine calls_of_sf Tryz.func293 rfl Tryz.ntmps293 ?_
  simp only [argsL, Nat.reduceAdd]
  repeat (first | refine R1 ?_ | (refine R2 ?_; intro _))
  refine fp (Rq ?_ (q_eqS (E := rayF) (a := ⟨a, d⟩) (b := ⟨x, y⟩) inferInstance (by rfl) (by rfl)))
  repeat (first | refine R1 ?_ | (refine R2 ?_; intro _))
  refine sf_if (fun e => ?_) fun e => ?_
  · repeat (first | refine R1 ?_ | (refine R2 ?_; intro _))
    refine fp (Rq ?_ (q_eqS (E := rayF) (a := ⟨a, d⟩) (b := ⟨x, y⟩) inferInstance (by rfl) (by rfl)))
    repeat (first | refine R1 ?_ | (refine R2 ?_; intro _))
    exact sf_ret (rO [(b1, .cells #[.int .i64 x, .int .i64 y] 226), (b2, .cells #[.int .i64 k] 3)] ⟨rfl, by rw [if_pos e]⟩)
  · repeat (first | refine R1 ?_ | (refine R2 ?_; intro _))
    refine fp (Rq ?_ (q_eqS (E := rayF) (a := ⟨a, d⟩) (b := ⟨x, y⟩) inferInstance (by rfl) (by rfl)))
    repeat (first | refine R1 ?_ | (refine R2 ?_; intro _))
    exact sf_ret (rO [(b1, .cells #[.int .i64 x, .int .i64 y] 226), (b2, .cells #[.int .i64 f] 3)] ⟨rfl, by rw [if_neg e]⟩)
theorem sightOf_v (h : PHeap) (ca : List Value) (g : Grid) (b : (gridR τ).B h ca g) (e : gridOk g = true) (a d : Int) (hd : 0 ≤ d ∧ d ≤ 3) : CallV Tryz.prog M 280 [.agg ca.toArray, .int .i64 a, .int .i64 d] h (.int .i64 (sightOf g a d)) := by
  obtain ⟨c, rfl, s⟩ := gridB b
  have o1 := s.one
  have kg := gok e
  have w1 := kg.w1; have w5 := kg.w5; have r1 := kg.r1; have r5 := kg.r5
  obtain ⟨ww, ew⟩ : ∃ ww : Nat, g.wide = ww := ⟨g.wide.toNat, by omega⟩
  obtain ⟨rr, er⟩ : ∃ rr : Nat, rowsOf g = rr := ⟨(rowsOf g).toNat, by omega⟩
  have hl : g.cells.length = rr * ww := by
    have := kg.len
    rw [er, ew] at this
    exact_mod_cast this
  have hN : manyOf g = (2 * (ww + rr) : Nat) := by
    rw [manyOf, er, ew]; omega
  refine calls_of_sf Tryz.func280 rfl Tryz.ntmps280 ?_
  simp only [argsL, Nat.reduceAdd]
  repeat (first | refine R1 ?_ | (refine R2 ?_; intro _))
  refine fp (y_callV (gridOk_v _ _ g b) (by rfl) ?_)
  rw [e]
  repeat (first | refine R1 ?_ | (refine R2 ?_; intro _))
  refine fp (y_callV (dirOk_v _ _) (by rfl) ?_)
  rw [show (decide (0 ≤ d) && decide (d ≤ 3)) = true by simp; omega]
  repeat (first | refine R1 ?_ | (refine R2 ?_; intro _))
  refine sf_cond (by rfl) (fun e => by cases e) fun z1 => ?_
  clear z1
  repeat (first | refine R1 ?_ | (refine R2 ?_; intro _))
  refine fp (y_callV (dirOpposite_v _ _ hd.1 hd.2) (by rfl) ?_)
  repeat (first | refine R1 ?_ | (refine R2 ?_; intro _))
  rename_i b1 b2 b3
  refine fp (y_call (A := [(b2, .cells #[.int .i64 a, .int .i64 ((d + 2) % 4)] 226), (b3, .cells #[.int .i64 (-1)] 3)]) (sidesToldB_f h c g s ⟨w1, w5⟩ rr ww ew er hl ⟨by omega, by omega⟩ 293 #[.pointer (some ⟨b2, 0, none⟩), .pointer (some ⟨b3, 0, none⟩)] (fun k => [(b2, .cells #[.int .i64 a, .int .i64 ((d + 2) % 4)] 226), (b3, .cells #[.int .i64 (foundAt (fun k => decide (rayAt g (k : Nat) = ⟨a, (d + 2) % 4⟩)) k)] 3)]) (fun k => decide (rayAt g (k : Nat) = ⟨a, (d + 2) % 4⟩)) (fun k hk => (sightOf1_f h _ _ _ a ((d + 2) % 4) _ b2 b3).to ?_)) (by rfl) ?_)
  · rintro v O ⟨rfl, rfl⟩
    refine ⟨rfl, ?_⟩
    simp only [foundAt, decide_eq_true_eq]
  rintro v _ ⟨A', rfl, gr⟩
  rw [foundAt_is kg _ hN]
  repeat (first | refine R1 ?_ | (refine R2 ?_; intro _))
  exact sf_ret (rV rfl)
end Go.Proofs.YtekjikbaefgncaaGreatDoor

/- Walks: the light of a sight, followed: the program's own. -/
namespace Go.Proofs.YtekjikbaefgncaaGreatDoor
open Go Go.Sl
set_option maxRecDepth 100000
set_option maxHeartbeats 4000000
attribute [local irreducible] Go.Code.sf sfOps Opq opo retF Do1 anyO
variable {M : Jdg → Prop} [IsCl Tryz.prog M]

theorem spreadPass_v (h : PHeap) (w : Int) : CallV Tryz.prog M 274 [.int .i64 w] h (.agg #[.int .i64 w, .int .i64 0, .int .i64 0, .int .i64 0]) := by
  refine calls_of_sf Tryz.func274 rfl Tryz.ntmps274 ?_
  simp only [argsL, Nat.reduceAdd]
  repeat (first | refine R1 ?_ | (refine R2 ?_; intro _))
  exact sf_ret (rV rfl)
theorem spreadTurn_v (h : PHeap) (w : Int) : CallV Tryz.prog M 275 [.int .i64 w] h (.agg #[.int .i64 0, .int .i64 w, .int .i64 0, .int .i64 0]) := by
  refine calls_of_sf Tryz.func275 rfl Tryz.ntmps275 ?_
  simp only [argsL, Nat.reduceAdd]
  repeat (first | refine R1 ?_ | (refine R2 ?_; intro _))
  exact sf_ret (rV rfl)
theorem spreadStop_v (h : PHeap) (w : Int) : CallV Tryz.prog M 276 [.int .i64 w] h (.agg #[.int .i64 0, .int .i64 0, .int .i64 0, .int .i64 w]) := by
  refine calls_of_sf Tryz.func276 rfl Tryz.ntmps276 ?_
  simp only [argsL, Nat.reduceAdd]
  repeat (first | refine R1 ?_ | (refine R2 ?_; intro _))
  exact sf_ret (rV rfl)
theorem spreadSplit_v (h : PHeap) (w : Int) (hw : 0 ≤ w ∧ w ≤ 64) : CallV Tryz.prog M 277 [.int .i64 w] h (.agg #[.int .i64 (w / 2), .int .i64 (w / 2), .int .i64 (w - w / 2 - w / 2), .int .i64 0]) := by
  refine calls_of_sf Tryz.func277 rfl Tryz.ntmps277 ?_
  simp only [argsL, Nat.reduceAdd]
  repeat (first | refine R1 ?_ | (refine R2 ?_; intro _))
  exact sf_ret (rV rfl)
theorem spreadDim_v (h : PHeap) (w : Int) (hw : 0 ≤ w ∧ w ≤ 64) : CallV Tryz.prog M 278 [.int .i64 w] h (.agg #[.int .i64 (w / 2), .int .i64 0, .int .i64 (w - w / 2), .int .i64 0]) := by
  refine calls_of_sf Tryz.func278 rfl Tryz.ntmps278 ?_
  simp only [argsL, Nat.reduceAdd]
  repeat (first | refine R1 ?_ | (refine R2 ?_; intro _))
  exact sf_ret (rV rfl)
def spreadV (s : Spread) : Value := .agg #[.int .i64 s.pass, .int .i64 s.turn, .int .i64 s.lost, .int .i64 s.stop]
theorem spreadOf_v (h : PHeap) (k w : Int) (hk : 0 ≤ k ∧ k ≤ 7) (hw : 0 ≤ w ∧ w ≤ 64) : CallV Tryz.prog M 258 [.int .i64 k, .int .i64 w] h (spreadV (spread k w)) := by
  obtain ⟨n, rfl⟩ : ∃ n : Nat, k = n := ⟨k.toNat, by omega⟩
  have hn : n = 0 ∨ n = 1 ∨ n = 2 ∨ n = 3 ∨ n = 4 ∨ n = 5 ∨ n = 6 ∨ n = 7 := by omega
  refine calls_of_sf Tryz.func258 rfl Tryz.ntmps258 ?_
  simp only [argsL, Nat.reduceAdd]
  repeat (first | refine R1 ?_ | (refine R2 ?_; intro _))
  rcases hn with rfl | rfl | rfl | rfl | rfl | rfl | rfl | rfl
  · repeat (first | refine R1 ?_ | (refine R2 ?_; intro _))
    refine fp (y_callC2 (by rfl) (by rfl) (by exact spreadPass_v h w) ?_)
    rintro _ _ ⟨rfl, rfl⟩
    repeat (first | refine R1 ?_ | (refine R2 ?_; intro _))
    exact sf_ret (rV rfl)
  · repeat (first | refine R1 ?_ | (refine R2 ?_; intro _))
    refine fp (y_callC2 (by rfl) (by rfl) (by exact spreadStop_v h w) ?_)
    rintro _ _ ⟨rfl, rfl⟩
    repeat (first | refine R1 ?_ | (refine R2 ?_; intro _))
    exact sf_ret (rV rfl)
  · repeat (first | refine R1 ?_ | (refine R2 ?_; intro _))
    refine fp (y_callC2 (by rfl) (by rfl) (by exact spreadTurn_v h w) ?_)
    rintro _ _ ⟨rfl, rfl⟩
    repeat (first | refine R1 ?_ | (refine R2 ?_; intro _))
    exact sf_ret (rV rfl)
  · repeat (first | refine R1 ?_ | (refine R2 ?_; intro _))
    refine fp (y_callC2 (by rfl) (by rfl) (by exact spreadTurn_v h w) ?_)
    rintro _ _ ⟨rfl, rfl⟩
    repeat (first | refine R1 ?_ | (refine R2 ?_; intro _))
    exact sf_ret (rV rfl)
  · repeat (first | refine R1 ?_ | (refine R2 ?_; intro _))
    refine fp (y_callC2 (by rfl) (by rfl) (by exact spreadSplit_v h w hw) ?_)
    rintro _ _ ⟨rfl, rfl⟩
    repeat (first | refine R1 ?_ | (refine R2 ?_; intro _))
    exact sf_ret (rV rfl)
  · repeat (first | refine R1 ?_ | (refine R2 ?_; intro _))
    refine fp (y_callC2 (by rfl) (by rfl) (by exact spreadSplit_v h w hw) ?_)
    rintro _ _ ⟨rfl, rfl⟩
    repeat (first | refine R1 ?_ | (refine R2 ?_; intro _))
    exact sf_ret (rV rfl)
  · repeat (first | refine R1 ?_ | (refine R2 ?_; intro _))
    refine fp (y_callC2 (by rfl) (by rfl) (by exact spreadDim_v h w hw) ?_)
    rintro _ _ ⟨rfl, rfl⟩
    repeat (first | refine R1 ?_ | (refine R2 ?_; intro _))
    exact sf_ret (rV rfl)
  · repeat (first | refine R1 ?_ | (refine R2 ?_; intro _))
    refine fp (y_callC2 (by rfl) (by rfl) (by exact spreadStop_v h w) ?_)
    rintro _ _ ⟨rfl, rfl⟩
    repeat (first | refine R1 ?_ | (refine R2 ?_; intro _))
    exact sf_ret (rV rfl)
theorem beamFrom_v (h : PHeap) (c : Value) (g : Grid) (s : Sl h c cellF g.cells) (e : gridOk g = true) (a d w : Int) (ha : 0 ≤ a ∧ a < 1000) (hd : 0 ≤ d ∧ d ≤ 3) : CallV Tryz.prog M 259 [.agg #[.int .i64 g.wide, c], .int .i64 a, .int .i64 d, .int .i64 w] h (.agg #[.int .i64 (beamFrom g a d w).at', .int .i64 (beamFrom g a d w).dir, .int .i64 (beamFrom g a d w).weight, .int .i64 (beamFrom g a d w).out]) := by
  have o1 := s.one
  have kg := gok e
  refine calls_of_sf Tryz.func259 rfl Tryz.ntmps259 ?_
  simp only [argsL, Nat.reduceAdd]
  repeat (first | refine R1 ?_ | (refine R2 ?_; intro _))
  refine fp (y_callV (rayStep_v h c g a d s ⟨kg.w1, kg.w5⟩ ha hd) (by rfl) ?_)
  unfold stepV
  cases en : nextAt g a d with
  | some b =>
    simp only
    repeat (first | refine R1 ?_ | (refine R2 ?_; intro _))
    refine sf_cond (by rfl) (fun e => by cases e) fun z1 => ?_
    clear z1
    repeat (first | refine R1 ?_ | (refine R2 ?_; intro _))
    refine sf_ret (rV ?_)
    simp only [beamFrom, en]
  | none =>
    simp only
    repeat (first | refine R1 ?_ | (refine R2 ?_; intro _))
    refine sf_cond (by rfl) (fun _ => ?_) fun e => by cases e
    repeat (first | refine R1 ?_ | (refine R2 ?_; intro _))
    refine fp (y_callV (sightOf_v h _ g (gridB_mk s) e a d hd) (by rfl) ?_)
    repeat (first | refine R1 ?_ | (refine R2 ?_; intro _))
    refine sf_ret (rV ?_)
    simp only [beamFrom, en]
theorem endOf_f (h : PHeap) (b : Nat) (vv ev : Value) (ov : Sl.One vv) (AE : Own) (es : List LEnd) (gr : Gr AE ev 224 endF es) (hl : es.length ≤ 200000) (kind a w : Int) :
    CallF Tryz.prog M 257 [.pointer (some ⟨b, 0, none⟩), .int .i64 kind, .int .i64 a, .int .i64 w] ((b, .cells #[vv, ev] 294) :: AE) h fun _ A => ∃ ev' AE', A = (b, .cells #[vv, ev'] 294) :: AE' ∧ Gr AE' ev' 224 endF (es ++ endIf kind a w) := by
  have o1 := gr.one
  refine calls_of_sf Tryz.func257 rfl Tryz.ntmps257 ?_
  simp only [argsL, Nat.reduceAdd]
  repeat (first | refine R1 ?_ | (refine R2 ?_; intro _))
  refine sf_if (fun e => ?_) fun e => ?_
  · repeat (first | refine R1 ?_ | (refine R2 ?_; intro _))
    refine fp (y_bs (by rfl) (by rfl) (by rfl) (by rfl) (by decide) fun u Au gu => ?_)
    repeat (first | refine R1 ?_ | (refine R2 ?_; intro _))
    refine fp (y_append (by rfl) (by rfl) gr gu (fun y _ => FlatOne.one y) (by rfl) (by rfl) (by simp; omega) (by simp; omega) fun ev2 A2 g2 => ?_)
    have o2 := g2.one
    repeat (first | refine R1 ?_ | (refine R2 ?_; intro _))
    exact nO ((b, .cells #[vv, ev2] 294) :: A2) ⟨ev2, A2, rfl, by rw [endIf, if_pos e]; exact g2⟩
  · repeat (first | refine R1 ?_ | (refine R2 ?_; intro _))
    exact nO ((b, .cells #[vv, ev] 294) :: AE) ⟨ev, AE, rfl, by rw [endIf, if_neg e, List.append_nil]; exact gr⟩
end Go.Proofs.YtekjikbaefgncaaGreatDoor

/- Walks: the light of a sight, followed to its ends: the program's own. -/
namespace Go.Proofs.YtekjikbaefgncaaGreatDoor
open Go Go.Sl
set_option maxRecDepth 100000
set_option maxHeartbeats 4000000
attribute [local irreducible] Go.Code.sf sfOps Opq opo retF Do1 anyO
variable {M : Jdg → Prop} [IsCl Tryz.prog M]

theorem trailOf_f (h : PHeap) (c : Value) (g : Grid) (s : Sl h c cellF g.cells) (e : gridOk g = true) (k : Int) (hk : 0 ≤ k ∧ k < manyOf g) : CallF Tryz.prog M 225 [.agg #[.int .i64 g.wide, c], .int .i64 k] [] h fun v A => ∃ vv ev AV AE, v = .agg #[vv, ev] ∧ A = AV ++ AE ∧ Gr AV vv 257 visitF (goLight g k).1 ∧ Gr AE ev 224 endF (goLight g k).2 := by
  have o1 := s.one
  have kg := gok e
  have hm := kg.small
  obtain ⟨sz, v, es, hc, hg, hsz, hok⟩ := goLight_is kg hk.1 hk.2
  rw [hg]
  have er : sightRayV g k = .tuple #[.agg #[.int .i64 (rayAt g k).at', .int .i64 (rayAt g k).dir], .bool true] := by
    rw [sightRayV, sightMany, if_pos e, if_pos hk]
  obtain ⟨⟨ra0, ra1⟩, rd0, rd1⟩ := rayAt_ok kg hk.1 hk.2
  refine calls_of_sf Tryz.func225 rfl Tryz.ntmps225 ?_
  simp only [argsL, Nat.reduceAdd]
  repeat (first | refine R1 ?_ | (refine R2 ?_; intro _))
  refine fp (y_callV (sightRay_v h _ g (gridB_mk s) k) (by rfl) ?_)
  rw [er]
  repeat (first | refine R1 ?_ | (refine R2 ?_; intro _))
  refine sf_cond (by rfl) (fun e => by cases e) fun z1 => ?_
  clear z1
  repeat (first | refine R1 ?_ | (refine R2 ?_; intro _))
  refine fp (y_bs (by rfl) (by rfl) (by rfl) (by rfl) (by decide) fun w Aw gw => ?_)
  repeat (first | refine R1 ?_ | (refine R2 ?_; intro _))
  rename_i b2 b4 b5 b6
  have t0 : Todo g [(⟨(rayAt g k).at', (rayAt g k).dir, 64, -1⟩ : Beam)] (sz + 0) (v ++ []) (es ++ []) := .cons (.inr (.inr ⟨by simp, by simp, ⟨ra0, ra1⟩, ⟨rd0, rd1⟩, 6600, hc⟩)) (by simp) hok.n1 .nil
  have hlv := hok.lv
  have hle := hok.le
  simp only at hlv hle
  refine sf_lp (ι := Nat × Value) [2, 4, 5] (fun x => [(8, x.2)]) (fun x O => ∃ vv ev AS AV AE, O = (b5, .cells #[vv, ev] 294) :: (AS ++ (AV ++ (AE ++ [(b6, .cells #[.int .i64 (rayAt g k).at', .int .i64 (rayAt g k).dir] 226), (b4, .cells #[.slice none 0 0, .slice none 0 0] 294), (b2, .cells #[.int .i64 g.wide, c] 34)]))) ∧ ∃ st V E v' e', Gr AS x.2 333 beamF st ∧ Gr AV vv 257 visitF V ∧ Gr AE ev 224 endF E ∧ Todo g st.reverse x.1 v' e' ∧ v = V ++ v' ∧ es = E ++ e' ∧ x.1 ≤ 26000) (fun x => x.1) (sz, w) ((b5, .cells #[.slice none 0 0, .slice none 0 0] 294) :: (Aw ++ ([] ++ ([] ++ [(b6, .cells #[.int .i64 (rayAt g k).at', .int .i64 (rayAt g k).dir] 226), (b4, .cells #[.slice none 0 0, .slice none 0 0] 294), (b2, .cells #[.int .i64 g.wide, c] 34)])))) ⟨_, _, Aw, [], [], rfl, _, [], [], v, es, gw, Gr.nil _ _, Gr.nil _ _, by simpa using t0, rfl, rfl, hsz⟩ ?_
  rintro ⟨m, sv⟩ O ⟨vv, ev, AS, AV, AE, rfl, st, V, E, v', e', gs, gv, ge, td, hv, he, hm26⟩
  simp only at gs td hm26 ⊢
  have lvv : V.length ≤ 26000 := by have := congrArg List.length hv; simp only [List.length_append] at this; omega
  have lee : E.length ≤ 52000 := by have := congrArg List.length he; simp only [List.length_append] at this; omega
  have os := gs.one
  have ovv := gv.one
  have oev := ge.one
  have lst := td.len
  rw [List.length_reverse] at lst
  repeat (first | refine R1 ?_ | (refine R2 ?_; intro _))
  refine sf_if (fun e1 => ?_) fun e1 => ?_
  · obtain ⟨s', b, rfl⟩ := snoc_of (xs := st) (by omega)
    have hlen : (s' ++ [b]).length = s'.length + 1 := by simp
    haveI : FlatV beamF (gt (s' ++ [b]) s'.length) [.int .i64 b.at', .int .i64 b.dir, .int .i64 b.weight, .int .i64 b.out] := ⟨by rw [gt_snoc]; rfl⟩
    obtain ⟨bb, cap, rfl, hcap, cut⟩ := gs.cut (by omega)
    have gs2 := cut s'.length (by omega)
    rw [List.take_left'  rfl] at gs2
    rw [List.reverse_append, List.reverse_singleton, List.singleton_append] at td
    cases td with
    | @cons _ _ n m v1 v2 ea eb hb hbw hn t =>
    clear cut
    have hl1 : (((s' ++ [b]).length : Nat) : Int) - 1 = ((s'.length : Nat) : Int) := by omega
    repeat (first | refine R1 ?_ | (refine R2 ?_; intro _))
    rw [hl1]
    repeat (first | refine R1 ?_ | (refine R2 ?_; intro _))
    rw [hl1]
    refine fp (Rq ?_ (q_sliceHi (l := s'.length) (by infer_instance) (by infer_instance) (by rfl) (by rfl) (by omega)))
    repeat (first | refine R1 ?_ | (refine R2 ?_; intro _))
    rename_i b9 b10
    refine sf_if (fun e2 => ?_) fun e2 => ?_
    · have hz : (n, v1, ea) = (1, [], []) := by
        rcases hb with ⟨_, q⟩ | ⟨q, _⟩ | ⟨q, _⟩
        · exact q
        · exact absurd e2 q
        · exact absurd e2 q
      simp only [Prod.mk.injEq] at hz
      obtain ⟨rfl, rfl, rfl⟩ := hz
      refine sf_exit ?_
      exact ⟨(m, .slice (some ⟨bb, 0, none⟩) s'.length cap), by simp only; omega, ⟨rfl, trivial⟩, rfl, (b5, .cells #[vv, ev] 294) :: (AS ++ (AV ++ (AE ++ [(b6, .cells #[.int .i64 (rayAt g k).at', .int .i64 (rayAt g k).dir] 226), (b4, .cells #[.slice none 0 0, .slice none 0 0] 294), (b2, .cells #[.int .i64 g.wide, c] 34)]))), _, inferInstance, vv, ev, AS, AV, AE, rfl, s', V, E, v2, eb, gs2, gv, ge, t, hv, he, by simp only; omega⟩
    repeat (first | refine R1 ?_ | (refine R2 ?_; intro _))
    refine sf_if (fun e3 => ?_) fun e3 => ?_
    · have hz : (n, v1, ea) = (1, [], [⟨0, b.out, b.weight⟩]) := by
        rcases hb with ⟨q, _⟩ | ⟨_, _, q⟩ | ⟨_, q, _⟩
        · exact absurd q e2
        · exact q
        · omega
      simp only [Prod.mk.injEq] at hz
      obtain ⟨rfl, rfl, rfl⟩ := hz
      repeat (first | refine R1 ?_ | (refine R2 ?_; intro _))
      refine fp (y_call (endOf_f h b5 vv ev ovv AE E ge (by omega) 0 b.out b.weight) (by rfl) ?_)
      rintro _ _ ⟨ev2, AE2, rfl, ge2⟩
      rw [endIf, if_pos (by omega)] at ge2
      repeat (first | refine R1 ?_ | (refine R2 ?_; intro _))
      refine sf_exit ?_
      exact ⟨(m, .slice (some ⟨bb, 0, none⟩) s'.length cap), by simp only; omega, ⟨rfl, trivial⟩, rfl, (b5, .cells #[vv, ev2] 294) :: (AS ++ (AV ++ (AE2 ++ [(b6, .cells #[.int .i64 (rayAt g k).at', .int .i64 (rayAt g k).dir] 226), (b4, .cells #[.slice none 0 0, .slice none 0 0] 294), (b2, .cells #[.int .i64 g.wide, c] 34)]))), _, inferInstance, vv, ev2, AS, AV, AE2, rfl, s', V, _, v2, eb, gs2, gv, ge2, t, hv, by rw [he]; simp, by simp only; omega⟩
    obtain ⟨ha, hd', nn, hcm⟩ : (0 ≤ b.at' ∧ b.at' < g.cells.length) ∧ (0 ≤ b.dir ∧ b.dir ≤ 3) ∧ ∃ n', comeF g n' b.at' b.dir b.weight = some (n, v1, ea) := by
      rcases hb with ⟨q, _⟩ | ⟨_, q, _⟩ | ⟨_, _, q⟩
      · exact absurd q e2
      · omega
      · exact q
    have ha' : 0 ≤ b.at' ∧ b.at' < 1000 := by omega
    obtain ⟨n', v1', e1'', hr, td2⟩ := todo_two kg ha.1 ha.2 hd'.1 hd'.2 (by omega) hbw.2 hcm t
    simp only [Prod.mk.injEq] at hr
    obtain ⟨rfl, rfl, rfl⟩ := hr
    have ls' : s'.length ≤ 26000 := by omega
    clear lst hn
    have hkd := kg.kind ha.1 ha.2
    clear hb hcm t hc
    repeat (first | refine R1 ?_ | (refine R2 ?_; intro _))
    refine fp (y_bs (by rfl) (by rfl) (by rfl) (by rfl) (by decide) fun u Au gu => ?_)
    repeat (first | refine R1 ?_ | (refine R2 ?_; intro _))
    refine fp (y_append (by rfl) (by rfl) gv gu (fun y _ => FlatOne.one y) (by rfl) (by rfl) (by simp; omega) (by simp; omega) fun vv2 AV2 gv2 => ?_)
    have ov2 := gv2.one
    repeat (first | refine R1 ?_ | (refine R2 ?_; intro _))
    have csp := spreadOf_v (M := M) h (gt g.cells b.at'.toNat).kind b.weight ⟨hkd.1, hkd.2.1⟩ hbw
    unfold spreadV at csp
    refine fp (y_callV (csp) (by rfl) ?_)
    repeat (first | refine R1 ?_ | (refine R2 ?_; intro _))
    refine sf_if (fun e7 => ?_) fun e7 => ?_
    · repeat (first | refine R1 ?_ | (refine R2 ?_; intro _))
      refine fp (y_call (endOf_f h b5 vv2 ev ov2 AE E ge (by omega) 2 b.at' (spread (gt g.cells b.at'.toNat).kind b.weight).stop) (by rfl) ?_)
      rintro _ _ ⟨ev2, AE2, rfl, ge2⟩
      have oe2 := ge2.one
      repeat (first | refine R1 ?_ | (refine R2 ?_; intro _))
      refine fp (y_call (endOf_f h b5 vv2 ev2 ov2 AE2 _ ge2 (by simp only [List.length_append]; have := endIf_len 2 b.at' (spread (gt g.cells b.at'.toNat).kind b.weight).stop; omega) 3 b.at' (spread (gt g.cells b.at'.toNat).kind b.weight).lost) (by rfl) ?_)
      rintro _ _ ⟨ev3, AE3, rfl, ge3⟩
      have oe3 := ge3.one
      have hH : hereF g b.at' b.weight = endIf 2 b.at' (spread (gt g.cells b.at'.toNat).kind b.weight).stop ++ endIf 3 b.at' (spread (gt g.cells b.at'.toNat).kind b.weight).lost := by
        unfold hereF; simp [e7]
      repeat (first | refine R1 ?_ | (refine R2 ?_; intro _))
      refine sf_draw (by kernel_rfl) (regX_run [[], [], [], [2], [], [4], [], [6], [4, 5, 6, 7], [], [9], [1, 2, 3, 4, 5, 6, 7, 8, 9, 10], [], [], [13], [], [15], [], [17], [1, 2, 3, 4, 5, 6, 7, 8, 9, 10, 11, 12, 13, 14, 15, 16, 17, 18], [1, 2, 3, 4, 5, 6, 7, 8, 9, 10, 11, 12, 13, 14, 15, 16, 17, 18, 19], [0, 1, 2, 3, 4, 5, 6, 7, 8, 9, 10, 11, 12, 13, 14, 15, 16, 17, 18, 19, 20], [0, 1, 2, 3, 4, 5, 6, 7, 8, 9, 10, 11, 12, 13, 14, 15, 16, 17, 18, 19, 20, 21]] 21 [(0, false), (1, false), (2, false), (3, false), (4, false), (5, false), (6, false), (7, false), (9, false), (10, false), (12, false), (13, false), (14, false), (15, false), (16, false), (17, false), (18, false), (8, true), (11, true), (19, true), (20, true)] (by kernel_rfl) (by kernel_rfl) (by kernel_rfl) ?_)
      repeat (refine Da1 ?_)
      refine a_callV (dirTurn_v h (gt g.cells b.at'.toNat).kind b.dir hd') (by rfl) (by rfl) (.inl rfl) ?_
      repeat (refine Da1 ?_)
      refine a_callV (beamFrom_v h c g s e b.at' (dirTurn (gt g.cells b.at'.toNat).kind b.dir) (spread (gt g.cells b.at'.toNat).kind b.weight).turn ha' (dirTurn_ok hd'.1 hd'.2)) (by rfl) (by rfl) (.inl rfl) ?_
      repeat (refine Da1 ?_)
      refine a_callV (beamFrom_v h c g s e b.at' b.dir (spread (gt g.cells b.at'.toNat).kind b.weight).pass ha' hd') (by rfl) (by rfl) (.inl rfl) ?_
      repeat (refine Da1 ?_)
      refine a_bs (by rfl) (by rfl) (by infer_instance) (by infer_instance) (by infer_instance) (by infer_instance) (by rfl) (by rfl) (by rfl) (by decide) (.inl rfl) fun w3 Aw3 gw3 => ?_
      repeat (refine Da1 ?_)
      (refine a_end (by rfl) (by rfl) ?_; simp only [finA, setL, List.drop_succ_cons, List.drop_zero])
      refine fp (y_append (by rfl) (by rfl) gs2 gw3 (fun y _ => FlatOne.one y) (by rfl) (by rfl) (by simp; omega) (by simp; omega) fun sv4 AS4 gs4 => ?_)
      have os4 := gs4.one
      repeat (first | refine R1 ?_ | (refine R2 ?_; intro _))
      exact ⟨(n' + m, sv4), by simp only; omega, ⟨rfl, trivial⟩, rfl, (b5, .cells #[vv2, ev3] 294) :: (AS4 ++ (AV2 ++ (AE3 ++ [(b6, .cells #[.int .i64 (rayAt g k).at', .int .i64 (rayAt g k).dir] 226), (b4, .cells #[.slice none 0 0, .slice none 0 0] 294), (b2, .cells #[.int .i64 g.wide, c] 34)]))), _, inferInstance, vv2, ev3, AS4, AV2, AE3, rfl, _, _, _, v1' ++ v2, e1'' ++ eb, gs4, gv2, ge3, by simpa using td2, by rw [hv]; simp, by rw [he, hH]; simp, by simp only; omega⟩
    · repeat (first | refine R1 ?_ | (refine R2 ?_; intro _))
      refine fp (y_call (endOf_f h b5 vv2 ev ov2 AE E ge (by omega) 1 b.at' (spread (gt g.cells b.at'.toNat).kind b.weight).stop) (by rfl) ?_)
      rintro _ _ ⟨ev2, AE2, rfl, ge2⟩
      have oe2 := ge2.one
      repeat (first | refine R1 ?_ | (refine R2 ?_; intro _))
      refine fp (y_call (endOf_f h b5 vv2 ev2 ov2 AE2 _ ge2 (by simp only [List.length_append]; have := endIf_len 1 b.at' (spread (gt g.cells b.at'.toNat).kind b.weight).stop; omega) 3 b.at' (spread (gt g.cells b.at'.toNat).kind b.weight).lost) (by rfl) ?_)
      rintro _ _ ⟨ev3, AE3, rfl, ge3⟩
      have oe3 := ge3.one
      have hH : hereF g b.at' b.weight = endIf 1 b.at' (spread (gt g.cells b.at'.toNat).kind b.weight).stop ++ endIf 3 b.at' (spread (gt g.cells b.at'.toNat).kind b.weight).lost := by
        unfold hereF; simp [e7]
      repeat (first | refine R1 ?_ | (refine R2 ?_; intro _))
      refine sf_draw (by kernel_rfl) (regX_run [[], [], [], [2], [], [4], [], [6], [4, 5, 6, 7], [], [9], [1, 2, 3, 4, 5, 6, 7, 8, 9, 10], [], [], [13], [], [15], [], [17], [1, 2, 3, 4, 5, 6, 7, 8, 9, 10, 11, 12, 13, 14, 15, 16, 17, 18], [1, 2, 3, 4, 5, 6, 7, 8, 9, 10, 11, 12, 13, 14, 15, 16, 17, 18, 19], [0, 1, 2, 3, 4, 5, 6, 7, 8, 9, 10, 11, 12, 13, 14, 15, 16, 17, 18, 19, 20], [0, 1, 2, 3, 4, 5, 6, 7, 8, 9, 10, 11, 12, 13, 14, 15, 16, 17, 18, 19, 20, 21]] 21 [(0, false), (1, false), (2, false), (3, false), (4, false), (5, false), (6, false), (7, false), (9, false), (10, false), (12, false), (13, false), (14, false), (15, false), (16, false), (17, false), (18, false), (8, true), (11, true), (19, true), (20, true)] (by kernel_rfl) (by kernel_rfl) (by kernel_rfl) ?_)
      repeat (refine Da1 ?_)
      refine a_callV (dirTurn_v h (gt g.cells b.at'.toNat).kind b.dir hd') (by rfl) (by rfl) (.inl rfl) ?_
      repeat (refine Da1 ?_)
      refine a_callV (beamFrom_v h c g s e b.at' (dirTurn (gt g.cells b.at'.toNat).kind b.dir) (spread (gt g.cells b.at'.toNat).kind b.weight).turn ha' (dirTurn_ok hd'.1 hd'.2)) (by rfl) (by rfl) (.inl rfl) ?_
      repeat (refine Da1 ?_)
      refine a_callV (beamFrom_v h c g s e b.at' b.dir (spread (gt g.cells b.at'.toNat).kind b.weight).pass ha' hd') (by rfl) (by rfl) (.inl rfl) ?_
      repeat (refine Da1 ?_)
      refine a_bs (by rfl) (by rfl) (by infer_instance) (by infer_instance) (by infer_instance) (by infer_instance) (by rfl) (by rfl) (by rfl) (by decide) (.inl rfl) fun w3 Aw3 gw3 => ?_
      repeat (refine Da1 ?_)
      (refine a_end (by rfl) (by rfl) ?_; simp only [finA, setL, List.drop_succ_cons, List.drop_zero])
      refine fp (y_append (by rfl) (by rfl) gs2 gw3 (fun y _ => FlatOne.one y) (by rfl) (by rfl) (by simp; omega) (by simp; omega) fun sv4 AS4 gs4 => ?_)
      have os4 := gs4.one
      repeat (first | refine R1 ?_ | (refine R2 ?_; intro _))
      exact ⟨(n' + m, sv4), by simp only; omega, ⟨rfl, trivial⟩, rfl, (b5, .cells #[vv2, ev3] 294) :: (AS4 ++ (AV2 ++ (AE3 ++ [(b6, .cells #[.int .i64 (rayAt g k).at', .int .i64 (rayAt g k).dir] 226), (b4, .cells #[.slice none 0 0, .slice none 0 0] 294), (b2, .cells #[.int .i64 g.wide, c] 34)]))), _, inferInstance, vv2, ev3, AS4, AV2, AE3, rfl, _, _, _, v1' ++ v2, e1'' ++ eb, gs4, gv2, ge3, by simpa using td2, by rw [hv]; simp, by rw [he, hH]; simp, by simp only; omega⟩
  · refine sf_exit ?_
    obtain rfl : st = [] := List.eq_nil_of_length_eq_zero (by omega)
    cases td
    repeat (first | refine R1 ?_ | (refine R2 ?_; intro _))
    exact sf_ret (rO (AV ++ AE) ⟨vv, ev, AV, AE, rfl, rfl, by rw [hv, List.append_nil]; exact gv, by rw [he, List.append_nil]; exact ge⟩)
theorem trailLight_v (h : PHeap) (c : Value) (g : Grid) (s : Sl h c cellF g.cells) (e : gridOk g = true) (k : Int) (hk : 0 ≤ k ∧ k < manyOf g) : CallV Tryz.prog M 192 [.agg #[.int .i64 g.wide, c], .int .i64 k] h (.int .i64 (trailLight g k)) := by
  have o1 := s.one
  have kg := gok e
  obtain ⟨sz, v, es, hc, hg, hsz, hok⟩ := goLight_is kg hk.1 hk.2
  have hle := hok.le
  have hes : ∀ e ∈ es, EndOk g 64 e := hok.es
  simp only at hle
  refine calls_of_sf Tryz.func192 rfl Tryz.ntmps192 ?_
  simp only [argsL, Nat.reduceAdd]
  repeat (first | refine R1 ?_ | (refine R2 ?_; intro _))
  refine fp (y_call (trailOf_f h c g s e k hk) (by rfl) ?_)
  rintro _ _ ⟨vv, ev, AV, AE, rfl, rfl, gv, ge⟩
  rw [hg] at gv ge
  have ov := gv.one
  have oe := ge.one
  simp only at ge gv
  have hg' := hg
  clear hc hg
  repeat (first | refine R1 ?_ | (refine R2 ?_; intro _))
  rename_i b2
  refine sf_lp (ι := Nat) [2, 11, 12] (fun k => [(5, .int .i64 (sumF (endLight g) (es.take k))), (13, .int .i64 (k : Int))]) (fun k O => k ≤ es.length ∧ O = AV ++ (AE ++ [(b2, .cells #[.int .i64 g.wide, c] 34)])) (fun k => es.length - k) 0 (AV ++ (AE ++ [(b2, .cells #[.int .i64 g.wide, c] 34)])) ⟨by omega, rfl⟩ ?_
  rintro j O ⟨hj, rfl⟩
  have hsum := lightOf_bd kg hes j (by omega)
  repeat (first | refine R1 ?_ | (refine R2 ?_; intro _))
  refine sf_if (fun e1 => ?_) fun e1 => ?_
  · have hj1 : j < es.length := by omega
    have ek := hes (gt es j) (by rw [gt_eq hj1]; exact List.getElem_mem _)
    have hst := sumF_step (f := endLight g) hj1
    have hbd := endLight_bd kg ek
    repeat (first | refine R1 ?_ | (refine R2 ?_; intro _))
    refine sf_if (fun e2 => ?_) fun e2 => ?_
    · have hcl := ek.cell (by omega)
      rw [endLight, if_pos e2] at hst hbd
      repeat (first | refine R1 ?_ | (refine R2 ?_; intro _))
      refine sf_draw (by kernel_rfl) (regX_run [[], [], [1], [], [3], [], [5], [3, 4, 5, 6], [3, 4, 5, 6, 7], [3, 4, 5, 6, 7, 8], [1, 2, 3, 4, 5, 6, 7, 8, 9], [0, 1, 2, 3, 4, 5, 6, 7, 8, 9, 10], [0, 1, 2, 3, 4, 5, 6, 7, 8, 9, 10, 11]] 11 [(0, false), (1, false), (2, false), (3, false), (4, false), (5, false), (6, false), (7, false), (8, false), (9, false), (10, false)] (by kernel_rfl) (by kernel_rfl) (by kernel_rfl) ?_)
      repeat (refine Da1 ?_)
      (refine a_end (by rfl) (by rfl) ?_; simp only [finA, setL, List.drop_succ_cons, List.drop_zero])
      repeat (first | refine R1 ?_ | (refine R2 ?_; intro _))
      exact ⟨j + 1, by omega, ⟨by rw [hst]; rfl, rfl, trivial⟩, rfl, _, _, inferInstance, by omega, rfl⟩
    · rw [endLight, if_neg e2, Int.add_zero] at hst
      repeat (first | refine R1 ?_ | (refine R2 ?_; intro _))
      exact ⟨j + 1, by omega, ⟨by rw [hst]; rfl, rfl, trivial⟩, rfl, _, _, inferInstance, by omega, rfl⟩
  · refine sf_exit ?_
    repeat (first | refine R1 ?_ | (refine R2 ?_; intro _))
    refine sf_ret (rV ?_)
    rw [trailLight, lightOf, hg', List.take_of_length_le (by omega)]
end Go.Proofs.YtekjikbaefgncaaGreatDoor

/- Walks: errors.As at an error of the program's own. -/
namespace Go.Proofs.YtekjikbaefgncaaGreatDoor
open Go Go.Sl
set_option maxRecDepth 100000
set_option maxHeartbeats 4000000
attribute [local irreducible] Go.Code.sf sfOps Opq opo retF Do1 anyO
variable {M : Jdg → Prop} [IsCl Tryz.prog M]
open Go.Extern
instance : Ext Tryz.prog 185 (fun args => ReflectliteValue.unpack (args.getD 0 (.tuple #[]))) := ⟨_, Tryz.func185, by kernel_rfl, by kernel_rfl, by kernel_rfl, by kernel_rfl⟩
instance : Ext Tryz.prog 186 (ReflectliteValue.methodAny (ReflectliteValue.valueError "reflectlite.Value.Type" 0) (fun t _ _ _ => ReflectliteType.toType t)) := ⟨_, Tryz.func186, by kernel_rfl, by kernel_rfl, by kernel_rfl, by kernel_rfl⟩
instance : Ext Tryz.prog 187 (ReflectliteValue.method (ReflectliteValue.valueError "reflectlite.Value.IsNil" 0) ReflectliteValue.isNil) := ⟨_, Tryz.func187, by kernel_rfl, by kernel_rfl, by kernel_rfl, by kernel_rfl⟩
instance : Ext Tryz.prog 331 (ReflectliteType.abiMethod fun t => do pure (.int .u8 (← Rtype.kind t))) := ⟨_, Tryz.func331, by kernel_rfl, by kernel_rfl, by kernel_rfl, by kernel_rfl⟩
instance : Ext Tryz.prog 341 (ReflectliteType.method ReflectliteType.elem) := ⟨_, Tryz.func341, by kernel_rfl, by kernel_rfl, by kernel_rfl, by kernel_rfl⟩
instance : Ext Tryz.prog 342 (ReflectliteType.relation "Implements" ReflectliteType.implements_) := ⟨_, Tryz.func342, by kernel_rfl, by kernel_rfl, by kernel_rfl, by kernel_rfl⟩
instance : Ext Tryz.prog 216 ReflectliteType.typeOf := ⟨_, Tryz.func216, by kernel_rfl, by kernel_rfl, by kernel_rfl, by kernel_rfl⟩
instance : Ext Tryz.prog 339 (ReflectliteType.relation "AssignableTo" ReflectliteType.assignableTo) := ⟨_, Tryz.func339, by kernel_rfl, by kernel_rfl, by kernel_rfl, by kernel_rfl⟩
instance : Ext Tryz.prog 217 (ReflectliteValue.method (ReflectliteValue.valueError "reflectlite.Value.Elem" 0) ReflectliteValue.elem) := ⟨_, Tryz.func217, by kernel_rfl, by kernel_rfl, by kernel_rfl, by kernel_rfl⟩
instance : Ext Tryz.prog 218 ReflectliteValue.set := ⟨_, Tryz.func218, by kernel_rfl, by kernel_rfl, by kernel_rfl, by kernel_rfl⟩

abbrev hdl (t : TypeId) : Value := .pointer (some ⟨1, t, none⟩)
abbrev rty (t : TypeId) : Value := .iface 260 (.agg #[hdl t])
/-- errors.errorType, laid. -/
abbrev errObj : Obj := .cells #[rty 125] 235
variable {K : Value → PHeap → Prop} {E : Value → PHeap → Prop} {H : PHeap}
theorem e_unpackP (a : Addr) : (ReflectliteValue.unpack (.iface 194 (.pointer (some a)))).slp Tryz.prog K E H = ∀ r, H.obj r = none → K (.agg #[hdl 194, .pointer (some ⟨r, 0, none⟩), .int .u64 150]) (H.put r (.cells #[.pointer (some a)] 194)) := by kernel_rfl
theorem e_unpackN (s : ByteArray) : (ReflectliteValue.unpack (.iface 192 (.agg #[.string s]))).slp Tryz.prog K E H = ∀ r, H.obj r = none → K (.agg #[hdl 192, .pointer (some ⟨r, 0, none⟩), .int .u64 153]) (H.put r (.cells #[.string s] 192)) := by kernel_rfl
theorem e_type (a : Addr) (z : Sem Value) : (ReflectliteValue.methodAny z (fun t _ _ _ => ReflectliteType.toType t) #[.agg #[hdl 194, .pointer (some a), .int .u64 150]]).slp Tryz.prog K E H = K (rty 194) H := by kernel_rfl
theorem e_kindP : ((ReflectliteType.abiMethod fun t => do pure (.int .u8 (← Rtype.kind t))) #[hdl 194]).slp Tryz.prog K E H = K (.int .u8 22) H := by kernel_rfl
theorem e_kindN : ((ReflectliteType.abiMethod fun t => do pure (.int .u8 (← Rtype.kind t))) #[hdl 192]).slp Tryz.prog K E H = K (.int .u8 25) H := by kernel_rfl
theorem e_elem : (ReflectliteType.method ReflectliteType.elem #[.agg #[hdl 194]]).slp Tryz.prog K E H = K (rty 192) H := by kernel_rfl
theorem e_impl : (ReflectliteType.relation "Implements" ReflectliteType.implements_ #[.agg #[hdl 192], rty 125]).slp Tryz.prog K E H = K (.bool true) H := by kernel_rfl
theorem e_typeOf (v : Value) : (ReflectliteType.typeOf #[.iface 192 v]).slp Tryz.prog K E H = K (rty 192) H := by kernel_rfl
theorem e_assign : (ReflectliteType.relation "AssignableTo" ReflectliteType.assignableTo #[.agg #[hdl 192], rty 192]).slp Tryz.prog K E H = K (.bool true) H := by kernel_rfl
theorem e_met {nm : String} {f : FuncId} {h v : Value} (e : ∀ (K : FuncId × Value → PHeap → Prop) (E : Value → PHeap → Prop) (H : PHeap), (method (Tryz.prog.types.size + Made.depth) 260 (.agg #[h]) nm).slp Tryz.prog K E H = K (f, v) H) : MetOf Tryz.prog 260 (.agg #[h]) nm f v := fun K E H x => by rw [e]; exact x
theorem m_kind (h : Value) : MetOf Tryz.prog 260 (.agg #[h]) "Kind" 331 h := e_met fun K E H => by kernel_rfl
theorem m_elem (h : Value) : MetOf Tryz.prog 260 (.agg #[h]) "Elem" 341 (.agg #[h]) := e_met fun K E H => by kernel_rfl
theorem m_impl (h : Value) : MetOf Tryz.prog 260 (.agg #[h]) "Implements" 342 (.agg #[h]) := e_met fun K E H => by kernel_rfl
theorem m_assign (h : Value) : MetOf Tryz.prog 260 (.agg #[h]) "AssignableTo" 339 (.agg #[h]) := e_met fun K E H => by kernel_rfl
theorem e_parts (a : Addr) {K : Option (TypeId × Addr × Nat) → PHeap → Prop} : (ReflectliteValue.parts (.agg #[hdl 194, .pointer (some a), .int .u64 150])).slp Tryz.prog K E H = K (some (194, a, 150)) H := by kernel_rfl
theorem e_partsA (a : Addr) {K : Option (TypeId × Addr × Nat) → PHeap → Prop} : (ReflectliteValue.parts (.agg #[hdl 192, .pointer (some a), .int .u64 409])).slp Tryz.prog K E H = K (some (192, a, 409)) H := by kernel_rfl
theorem e_partsN (a : Addr) {K : Option (TypeId × Addr × Nat) → PHeap → Prop} : (ReflectliteValue.parts (.agg #[hdl 192, .pointer (some a), .int .u64 153])).slp Tryz.prog K E H = K (some (192, a, 153)) H := by kernel_rfl
theorem p_parts (a : Addr) : PartsIs Tryz.prog (.agg #[hdl 194, .pointer (some a), .int .u64 150]) 194 a 150 := fun K E H x => by rw [e_parts]; exact x
theorem p_partsA (a : Addr) : PartsIs Tryz.prog (.agg #[hdl 192, .pointer (some a), .int .u64 409]) 192 a 409 := fun K E H x => by rw [e_partsA]; exact x
theorem p_partsN (a : Addr) : PartsIs Tryz.prog (.agg #[hdl 192, .pointer (some a), .int .u64 153]) 192 a 153 := fun K E H x => by rw [e_partsN]; exact x
theorem e_elemOf {K : Option TypeId → PHeap → Prop} : (Rtype.elem? 194).slp Tryz.prog K E H = K (some 192) H := by kernel_rfl
theorem e_mk (p : Addr) : (ReflectliteValue.mk 192 p ReflectliteValue.flagAddr).slp Tryz.prog K E H = K (.agg #[hdl 192, .pointer (some p), .int .u64 409]) H := by kernel_rfl
theorem e_direct {K : Bool → PHeap → Prop} : (Rtype.directlyAssignable 192 192).slp Tryz.prog K E H = K true H := by kernel_rfl

end Go.Proofs.YtekjikbaefgncaaGreatDoor

/- Walks: errors.As at an error of the program's own. -/
namespace Go.Proofs.YtekjikbaefgncaaGreatDoor
open Go Go.Sl
set_option maxRecDepth 100000
set_option maxHeartbeats 4000000
attribute [local irreducible] Go.Code.sf sfOps Opq opo retF Do1 anyO
variable {M : Jdg → Prop} [IsCl Tryz.prog M]
open Go.Extern

theorem asErr_f (h : PHeap) (b b2 : Nat) (s s0 : ByteArray) : CallF Tryz.prog M 188 [.iface 192 (.agg #[.string s]), .iface 194 (.pointer (some ⟨b, 0, none⟩)), .agg #[hdl 194, .pointer (some ⟨b2, 0, none⟩), .int .u64 150], rty 192] [(b, .cells #[.string s0] 192), (b2, .cells #[.pointer (some ⟨b, 0, none⟩)] 194)] h fun v A => v = .bool true ∧ A = [] := by
  refine calls_of_sf Tryz.func188 rfl Tryz.ntmps188 ?_
  simp only [argsL, Nat.reduceAdd]
  repeat (first | refine R1 ?_ | (refine R2 ?_; intro _))
  rename_i b3
  refine sf_lp (ι := Unit) [0, 3, 6] (fun _ => []) (fun _ O => O = [(b3, .cells #[hdl 194, .pointer (some ⟨b2, 0, none⟩), .int .u64 150] 232), (b, .cells #[.string s0] 192), (b2, .cells #[.pointer (some ⟨b, 0, none⟩)] 194)]) (fun _ => 0) () [(b3, .cells #[hdl 194, .pointer (some ⟨b2, 0, none⟩), .int .u64 150] 232), (b, .cells #[.string s0] 192), (b2, .cells #[.pointer (some ⟨b, 0, none⟩)] 194)] rfl ?_
  rintro _ O rfl
  repeat (first | refine R1 ?_ | (refine R2 ?_; intro _))
  refine fp (Rq ?_ (q_ext (by infer_instance) (by rfl) fun K E H x => by rw [show _ = _ from e_typeOf _]; exact x))
  repeat (first | refine R1 ?_ | (refine R2 ?_; intro _))
  refine fp (Rq ?_ (q_invokeX (by rfl) (by rfl) (m_assign _) (by infer_instance) fun K E H x => by rw [show _ = _ from e_assign]; exact x))
  repeat (first | refine R1 ?_ | (refine R2 ?_; intro _))
  refine sf_T rfl ?_
  repeat (first | refine R1 ?_ | (refine R2 ?_; intro _))
  have sp0 : Sp [(b3, Obj.cells #[hdl 194, .pointer (some ⟨b2, 0, none⟩), .int .u64 150] 232), (b, .cells #[.string s0] 192), (b2, .cells #[.pointer (some ⟨b, 0, none⟩)] 194)] [(b2, .cells #[.pointer (some ⟨b, 0, none⟩)] 194)] _ := inferInstance
  refine fp (x_ext (by infer_instance) (by rfl) fun F H r => ?_)
  refine slp_elem (u := 192) (p := ⟨b, 0, none⟩) (w := .agg #[hdl 192, .pointer (some ⟨b, 0, none⟩), .int .u64 409]) inferInstance (by rfl) (p_parts _) (by rw [cell_of (r.own b2 (.cells #[.pointer (some ⟨b, 0, none⟩)] 194) (by simp)).1]; rfl) (fun K E H x => by rw [e_elemOf]; exact x) (fun K E H x => by rw [e_mk]; exact x) ⟨_, r, ?_⟩
  clear r
  repeat (first | refine R1 ?_ | (refine R2 ?_; intro _))
  refine fp (x_ext (by infer_instance) (by rfl) fun F H r => ?_)
  show (ReflectliteValue.unpack (.iface 192 (.agg #[.string s]))).slp Tryz.prog _ _ H
  rw [e_unpackN]
  intro b4 hb4
  refine ⟨_, r.alloc hb4 _, ?_⟩
  clear r hb4
  repeat (first | refine R1 ?_ | (refine R2 ?_; intro _))
  refine fp (x_ext (by infer_instance) (by rfl) fun F H r => ?_)
  have r' : Rel F h ([(b4, Obj.cells #[.string s] 192), (b3, Obj.cells #[hdl 194, .pointer (some ⟨b2, 0, none⟩), .int .u64 150] 232)] ++ (b, .cells #[.string s0] 192) :: [(b2, .cells #[.pointer (some ⟨b, 0, none⟩)] 194)]) H := r
  obtain ⟨o1, o2, _⟩ := r'.own b (.cells #[.string s0] 192) (by simp)
  refine slp_set (val := .agg #[.string s]) (p_partsA _) (p_partsN _) (by rfl) (fun K E x => slp_loadVar inferInstance (cs := [.string s]) rfl (fun e => by cases e) (cells_one (by rw [cell_of (r.own b4 (.cells #[.string s] 192) (by simp)).1]; rfl)) x) (fun K E H x => by rw [e_direct]; exact x) inferInstance rfl o1 o2 (by simp [Value.cells]) (by rfl) ⟨_, r'.set _, ?_⟩
  clear r r' o1 o2
  repeat (first | refine R1 ?_ | (refine R2 ?_; intro _))
  exact sf_ret (rO [] ⟨rfl, rfl⟩)
theorem errorsAs_f (h : PHeap) [BAt h 0 errObj] (b : Nat) (s s0 : ByteArray) : CallF Tryz.prog M 137 [.iface 192 (.agg #[.string s]), .iface 194 (.pointer (some ⟨b, 0, none⟩))] [(b, .cells #[.string s0] 192)] h fun v A => v = .bool true ∧ A = [] := by
  refine calls_of_sf Tryz.func137 rfl Tryz.ntmps137 ?_
  simp only [argsL, Nat.reduceAdd]
  repeat (first | refine R1 ?_ | (refine R2 ?_; intro _))
  refine fp (Rq ?_ (q_eqI (.inr ⟨_, _, rfl, rfl⟩) (by infer_instance) (by rfl)))
  repeat (first | refine R1 ?_ | (refine R2 ?_; intro _))
  refine sf_N rfl ?_
  repeat (first | refine R1 ?_ | (refine R2 ?_; intro _))
  refine fp (Rq ?_ (q_eqI (.inr ⟨_, _, rfl, rfl⟩) (by infer_instance) (by rfl)))
  repeat (first | refine R1 ?_ | (refine R2 ?_; intro _))
  refine sf_N rfl ?_
  repeat (first | refine R1 ?_ | (refine R2 ?_; intro _))
  refine fp (x_ext (by infer_instance) (by rfl) fun F H r => ?_)
  show (ReflectliteValue.unpack (.iface 194 (.pointer (some ⟨b, 0, none⟩)))).slp Tryz.prog _ _ H
  rw [e_unpackP]
  intro b2 hb2
  refine ⟨_, r.alloc hb2 _, ?_⟩
  clear r hb2
  repeat (first | refine R1 ?_ | (refine R2 ?_; intro _))
  refine fp (Rq ?_ (q_ext (by infer_instance) (by rfl) fun K E H x => by rw [show _ = _ from e_type _ _]; exact x))
  repeat (first | refine R1 ?_ | (refine R2 ?_; intro _))
  refine fp (Rq ?_ (q_invokeX (by rfl) (by rfl) (m_kind _) (by infer_instance) fun K E H x => by rw [show _ = _ from e_kindP]; exact x))
  repeat (first | refine R1 ?_ | (refine R2 ?_; intro _))
  refine fp (x_ext (by infer_instance) (by rfl) fun F H r => ?_)
  refine slp_isNil (u := 192) (p := ⟨b, 0, none⟩) inferInstance (by rfl) (p_parts _) (by rw [cell_of (r.own b2 (.cells #[.pointer (some ⟨b, 0, none⟩)] 194) (by simp)).1]; rfl) ⟨_, r, ?_⟩
  clear r
  repeat (first | refine R1 ?_ | (refine R2 ?_; intro _))
  refine sf_N rfl ?_
  repeat (first | refine R1 ?_ | (refine R2 ?_; intro _))
  refine fp (Rq ?_ (q_invokeX (by rfl) (by rfl) (m_elem _) (by infer_instance) fun K E H x => by rw [show _ = _ from e_elem]; exact x))
  repeat (first | refine R1 ?_ | (refine R2 ?_; intro _))
  refine fp (Rq ?_ (q_invokeX (by rfl) (by rfl) (m_kind _) (by infer_instance) fun K E H x => by rw [show _ = _ from e_kindN]; exact x))
  repeat (first | refine R1 ?_ | (refine R2 ?_; intro _))
  refine fp (Rq ?_ (q_invokeX (by rfl) (by rfl) (m_impl _) (by infer_instance) fun K E H x => by rw [show _ = _ from e_impl]; exact x))
  repeat (first | refine R1 ?_ | (refine R2 ?_; intro _))
  refine sf_N rfl ?_
  repeat (first | refine R1 ?_ | (refine R2 ?_; intro _))
  refine fp (y_call (asErr_f h b b2 s s0) (by rfl) ?_)
  rintro _ _ ⟨rfl, rfl⟩
  repeat (first | refine R1 ?_ | (refine R2 ?_; intro _))
  exact sf_ret (rO [] ⟨rfl, rfl⟩)
/-- An error of the program's own, or none. -/
def ErrIs (v : Value) (b : Bool) : Prop := (v = .nilIface ∧ b = false) ∨ ∃ s, v = .iface 192 (.agg #[.string s]) ∧ b = true
theorem ErrIs.one {v : Value} {b : Bool} (e : ErrIs v b) : Sl.One v := by
  rcases e with ⟨rfl, _⟩ | ⟨s, rfl, _⟩ <;> infer_instance
theorem errorsAs_nil' (h : PHeap) (u : TypeId) (z : Value) : CallV Tryz.prog M 137 [.nilIface, .iface u z] h (.bool false) := by
  refine calls_of_sf Tryz.func137 rfl Tryz.ntmps137 ?_
  simp only [argsL, Nat.reduceAdd]
  repeat (first | refine R1 ?_ | (refine R2 ?_; intro _))
  refine fp (Rq ?_ (q_eqI (.inl ⟨rfl, rfl⟩) (by infer_instance) (by rfl)))
  repeat (first | refine R1 ?_ | (refine R2 ?_; intro _))
  refine sf_T rfl ?_
  repeat (first | refine R1 ?_ | (refine R2 ?_; intro _))
  exact sf_ret (rV rfl)
theorem refused_v (h : PHeap) [BAt h 0 errObj] (v : Value) (b : Bool) (e : ErrIs v b) : CallV Tryz.prog M 69 [v] h (.bool b) := by
  have o1 := e.one
  refine calls_of_sf Tryz.func69 rfl Tryz.ntmps69 ?_
  simp only [argsL, Nat.reduceAdd]
  repeat (first | refine R1 ?_ | (refine R2 ?_; intro _))
  rename_i b1
  rcases e with ⟨rfl, rfl⟩ | ⟨s, rfl, rfl⟩
  · refine fp (y_callV (errorsAs_nil' _ _ _) (by rfl) ?_)
    repeat (first | refine R1 ?_ | (refine R2 ?_; intro _))
    exact sf_ret (rV rfl)
  · refine fp (y_call (errorsAs_f h b1 s ⟨#[]⟩) (by rfl) ?_)
    rintro _ _ ⟨rfl, rfl⟩
    repeat (first | refine R1 ?_ | (refine R2 ?_; intro _))
    exact sf_ret (rV rfl)
theorem neqErr {n : Nat} {L : Locals} {O : Own} {h : PHeap} {d : Option Nat} {t' ty : TypeId} {pos : String} {af : Array Edge} {g : Option (Nat × Bool)} {x : Operand} {v : Value} {b : Bool} (e : ErrIs v b) (hx : Sl.ev L x = some v) : Opq Tryz.prog n ⟨d, .binOp .neq 125 x (.const .nilIface) t', ty, pos, af, g⟩ L O h (.bool b) := by
  rcases e with ⟨rfl, rfl⟩ | ⟨s, rfl, rfl⟩
  · exact q_neqI (.inl ⟨rfl, rfl⟩) inferInstance hx
  · exact q_neqI (.inr ⟨_, _, rfl, rfl⟩) inferInstance hx
end Go.Proofs.YtekjikbaefgncaaGreatDoor

/- Walks: edits, versions, own sights: the program's own. -/
namespace Go.Proofs.YtekjikbaefgncaaGreatDoor
open Go Go.Sl
set_option maxRecDepth 100000
set_option maxHeartbeats 4000000
attribute [local irreducible] Go.Code.sf sfOps Opq opo retF Do1 anyO
variable {M : Jdg → Prop} [IsCl Tryz.prog M]

theorem editOk_v (h : PHeap) (c : Value) (g : Grid) (s : Sl h c cellF g.cells) (e : Edit) : CallV Tryz.prog M 167 [.agg #[.int .i64 g.wide, c], .agg #[.int .i64 e.at', .int .i64 e.cell.kind, .int .i64 e.cell.light]] h (.bool (editOk g e)) := by
  have o1 := s.one
  refine calls_of_sf Tryz.func167 rfl Tryz.ntmps167 ?_
  simp only [argsL, Nat.reduceAdd]
  repeat (first | refine R1 ?_ | (refine R2 ?_; intro _))
  refine fp (y_callV (cellOk_v _ e.cell) (by rfl) ?_)
  repeat (first | refine R1 ?_ | (refine R2 ?_; intro _))
  refine f_splitB (fun h1 => ?_) fun h1 => ?_
  · repeat (first | refine R1 ?_ | (refine R2 ?_; intro _))
    refine f_split (fun h2 => ?_) fun h2 => ?_ <;>
    · repeat (first | refine R1 ?_ | (refine R2 ?_; intro _))
      refine sf_ret (rV ?_)
      simp [editOk, h1, h2]
  · repeat (first | refine R1 ?_ | (refine R2 ?_; intro _))
    refine sf_ret (rV ?_)
    simp [editOk, h1]
theorem editsOk_v (h : PHeap) (c : Value) (g : Grid) (s : Sl h c cellF g.cells) (v : Value) (es : List Edit) (s2 : Sl h v editF es) : CallV Tryz.prog M 139 [.agg #[.int .i64 g.wide, c], v] h (.bool (editsOk g es)) := by
  have o1 := s.one
  have o2 := s2.one
  have hs := s2.small
  refine calls_of_sf Tryz.func139 rfl Tryz.ntmps139 ?_
  simp only [argsL, Nat.reduceAdd]
  repeat (first | refine R1 ?_ | (refine R2 ?_; intro _))
  refine sf_rd [2, 7, 8] 9 es.length 0 (fun k => editsOk g (es.take k) = true) (by omega) rfl (fun k hk hi => ?_)
  repeat (first | refine R1 ?_ | (refine R2 ?_; intro _))
  refine sf_if (fun h4 => ?_) fun h4 => ?_
  · have hk4 : k < es.length := by omega
    repeat (first | refine R1 ?_ | (refine R2 ?_; intro _))
    refine fp (y_callV (editOk_v _ c g s (gt es k)) (by rfl) ?_)
    repeat (first | refine R1 ?_ | (refine R2 ?_; intro _))
    refine sf_cond (by rfl) (fun h5 => ?_) fun h5 => ?_
    · repeat (first | refine R1 ?_ | (refine R2 ?_; intro _))
      simp only [Bool.not_eq_true'] at h5
      refine sf_ret (rV ?_)
      rw [editsOk, all_false hk4 h5]
    · repeat (first | refine R1 ?_ | (refine R2 ?_; intro _))
      refine ⟨⟨hk4, ?_⟩, rfl, rfl, _, inferInstance⟩
      rw [editsOk, all_take hk4]
      rw [editsOk] at hi
      rw [hi]; simpa using h5
  · refine sf_exit ?_
    repeat (first | refine R1 ?_ | (refine R2 ?_; intro _))
    rw [take_ge hk (by omega)] at hi
    exact sf_ret (rV (by rw [hi]))
theorem paintIdOk_v (h : PHeap) (id many : Int) : CallV Tryz.prog M 155 [.int .i64 id, .int .i64 many] h (.bool (decide (1 ≤ many) && decide (many ≤ 3) && decide (1 ≤ id) && decide (id ≤ many))) := by
  refine calls_of_sf Tryz.func155 rfl Tryz.ntmps155 ?_
  simp only [argsL, Nat.reduceAdd]
  repeat (first | refine R1 ?_ | (refine R2 ?_; intro _))
  refine f_split (fun h1 => ?_) fun h1 => ?_
  · repeat (first | refine R1 ?_ | (refine R2 ?_; intro _))
    refine f_split (fun h2 => ?_) fun h2 => ?_
    · repeat (first | refine R1 ?_ | (refine R2 ?_; intro _))
      refine f_split (fun h3 => ?_) fun h3 => ?_ <;>
      · repeat (first | refine R1 ?_ | (refine R2 ?_; intro _))
        refine sf_ret (rV ?_)
        simp [h1, h2, h3]
    · repeat (first | refine R1 ?_ | (refine R2 ?_; intro _))
      refine sf_ret (rV ?_)
      simp [h1, h2]
  · repeat (first | refine R1 ?_ | (refine R2 ?_; intro _))
    refine sf_ret (rV ?_)
    simp [h1]
/-- An error of the keeper's, or none. -/
theorem keepVersion_f (h : PHeap) (ca : List Value) (k : Keeper) (b : (keeperR τ).B h ca k) (v : Int) : CallF Tryz.prog M 74 [.agg ca.toArray, .int .i64 v] [] h fun u A => ErrIs u (!verOk k v) ∧ A = [] := by
  obtain ⟨c, e, p, s, rfl, s1, s2, s3, s4⟩ := keeperB b
  have o1 := s1.one
  have o2 := s2.one
  have o3 := s3.one
  have o4 := s4.one
  refine calls_of_sf Tryz.func74 rfl Tryz.ntmps74 ?_
  simp only [argsL, Nat.reduceAdd]
  repeat (first | refine R1 ?_ | (refine R2 ?_; intro _))
  refine f_split (fun h1 => ?_) fun h1 => ?_
  · repeat (first | refine R1 ?_ | (refine R2 ?_; intro _))
    refine sf_T rfl ?_
    repeat (first | refine R1 ?_ | (refine R2 ?_; intro _))
    exact sf_ret (rO [] ⟨.inr ⟨_, rfl, by simp [verOk]; omega⟩, rfl⟩)
  · repeat (first | refine R1 ?_ | (refine R2 ?_; intro _))
    refine sf_if (fun h2 => ?_) fun h2 => ?_
    · repeat (first | refine R1 ?_ | (refine R2 ?_; intro _))
      exact sf_ret (rO [] ⟨.inr ⟨_, rfl, by simp [verOk]; omega⟩, rfl⟩)
    · repeat (first | refine R1 ?_ | (refine R2 ?_; intro _))
      exact sf_ret (rO [] ⟨.inl ⟨rfl, by simp [verOk]; omega⟩, rfl⟩)
theorem keepGridOf_f (h : PHeap) (ca : List Value) (k : Keeper) (b : (keeperR τ).B h ca k) (hk : HeadOk k) (v : Int) (hv : verOk k v = true) : CallF Tryz.prog M 75 [.agg ca.toArray, .int .i64 v] [] h fun u A => ∃ cs, u = .agg cs.toArray ∧ (gridR τ).O A cs (gridAt k v) := by
  obtain ⟨c, e, p, s, rfl, s1, s2, s3, s4⟩ := keeperB b
  have o1 := s1.one
  have o2 := s2.one
  have o3 := s3.one
  have o4 := s4.one
  have hsm := (gok hk.grid).small
  have h60 := hk.e60
  simp only [verOk, Bool.and_eq_true, decide_eq_true_eq] at hv
  obtain ⟨n, rfl⟩ : ∃ n : Nat, v = n := ⟨v.toNat, by omega⟩
  obtain ⟨v', sv, op⟩ := s2.upTo (l := n) (by omega)
  have ov := sv.one
  have hln : (k.edits.take n).length = n := by rw [List.length_take]; omega
  have hed := editsOk_take hk.edits n
  have hgd : gridAt k (n : Nat) = gridAfter k.first (k.edits.take n) := rfl
  rw [hgd]
  clear hgd
  refine calls_of_sf Tryz.func75 rfl Tryz.ntmps75 ?_
  simp only [argsL, Nat.reduceAdd]
  repeat (first | refine R1 ?_ | (refine R2 ?_; intro _))
  refine fp (y_call (gridCopy_f _ _ k.first (gridB_mk s1) (by omega)) (by rfl) ?_)
  rintro _ A1 ⟨_, rfl, q⟩
  obtain ⟨c2, rfl, g1, l1⟩ := gridO q
  have o5 := g1.one
  repeat (first | refine R1 ?_ | (refine R2 ?_; intro _))
  refine fp (Rq ?_ (op (by infer_instance) (by infer_instance) (by rfl) (by rfl)))
  generalize k.edits.take n = es at *
  repeat (first | refine R1 ?_ | (refine R2 ?_; intro _))
  rename_i b2 b4 b5
  refine sf_lp (ι := Nat) [4, 5, 14, 15] (fun i => [(16, .int .i64 (i : Int))]) (fun i O => i ≤ es.length ∧ ∃ A', O = (b5, .cells #[.int .i64 k.first.wide, c2] 34) :: (A' ++ [(b4, .cells #[.int .i64 0, .slice none 0 0] 34)]) ∧ ∃ cs, cs = (gridAfter k.first (es.take i)).cells ∧ cs.length = k.first.cells.length ∧ Gr A' c2 67 cellF cs) (fun i => es.length - i) 0 ((b5, .cells #[.int .i64 k.first.wide, c2] 34) :: (A1 ++ [(b4, .cells #[.int .i64 0, .slice none 0 0] 34)])) ⟨by omega, _, rfl, _, rfl, rfl, g1⟩ ?_
  rintro i O ⟨hi, A', rfl, cs, ecs, lcs, gr⟩
  have o6 := gr.one
  repeat (first | refine R1 ?_ | (refine R2 ?_; intro _))
  refine sf_if (fun h4 => ?_) fun h4 => ?_
  · have hi4 : i < es.length := by omega
    obtain ⟨e1, e2, e3⟩ := editOk_is (editsOk_at hed hi4)
    obtain ⟨a, ha⟩ : ∃ a : Nat, (gt es i).at' = a := ⟨(gt es i).at'.toNat, by omega⟩
    repeat (first | refine R1 ?_ | (refine R2 ?_; intro _))
    simp only [ha]
    repeat (first | refine R1 ?_ | (refine R2 ?_; intro _))
    refine fp (y_storeG0 (by rfl) (by rfl) gr (by omega) (by rfl) fun A2 cs2 ec lc _ g2 => ?_)
    repeat (first | refine R1 ?_ | (refine R2 ?_; intro _))
    refine ⟨i + 1, by omega, ⟨rfl, trivial⟩, rfl, (b5, .cells #[.int .i64 k.first.wide, c2] 34) :: (A2 ++ [(b4, .cells #[.int .i64 0, .slice none 0 0] 34)]), _, inferInstance, by omega, A2, rfl, cs2, ?_, by omega, g2⟩
    rw [gridAfter_step hi4, putCell, ec, ecs, ha]; rfl
  · refine sf_exit ?_
    repeat (first | refine R1 ?_ | (refine R2 ?_; intro _))
    rw [take_ge hi (by omega)] at ecs
    refine sf_ret (rO A' ⟨_, rfl, ?_⟩)
    have := gridO_mk (τ := τ) (g := gridAfter k.first es) (c := c2) (A := A') (by rw [← ecs]; exact gr) (by rw [← ecs]; omega)
    rw [(gridAfter_same es k.first).1] at this
    exact this
theorem sightMany_ok {g : Grid} (h : gridOk g = true) : sightMany g = manyOf g := by rw [sightMany, if_pos h]
theorem paintOwn_f (h : PHeap) (ca : List Value) (g : Grid) (b : (gridR τ).B h ca g) (e : gridOk g = true) (id many : Nat) (h1 : 1 ≤ id) (h2 : id ≤ many) (h3 : many ≤ 3) : CallF Tryz.prog M 173 [.agg ca.toArray, .int .i64 (id : Int), .int .i64 (many : Int)] [] h fun u A => Gr A u 3 intF (ownList (manyOf g).toNat many id) := by
  obtain ⟨c, rfl, s⟩ := gridB b
  have o1 := s.one
  have hm := (gok e).many
  obtain ⟨S, hS⟩ : ∃ S : Nat, manyOf g = S := ⟨(manyOf g).toNat, by omega⟩
  rw [hS] at hm ⊢
  simp only [Int.toNat_natCast]
  have hc : ∀ j, j < ownCnt S many id ↔ id - 1 + j * many < S := fun j => ownCnt_lt h1 h2 h3
  refine calls_of_sf Tryz.func173 rfl Tryz.ntmps173 ?_
  simp only [argsL, Nat.reduceAdd]
  repeat (first | refine R1 ?_ | (refine R2 ?_; intro _))
  refine fp (y_callV (paintIdOk_v _ _ _) (by rfl) ?_)
  rw [show (decide ((1 : Int) ≤ (many : Int)) && decide ((many : Int) ≤ 3) && decide (1 ≤ (id : Int)) && decide ((id : Int) ≤ (many : Int))) = true by simp; omega]
  repeat (first | refine R1 ?_ | (refine R2 ?_; intro _))
  refine sf_cond (by rfl) (fun e => by cases e) fun z1 => ?_
  clear z1
  repeat (first | refine R1 ?_ | (refine R2 ?_; intro _))
  rename_i b3
  rw [show (id : Int) - 1 = ((id - 1 + 0 * many : Nat) : Int) by omega]
  refine sf_lp (ι := Nat × Value) [2, 3] (fun x => [(8, .int .i64 ((id - 1 + x.1 * many : Nat) : Int)), (7, x.2)]) (fun x O => x.1 ≤ ownCnt S many id ∧ ∃ A', O = A' ++ [(b3, .cells #[.int .i64 g.wide, c] 34)] ∧ ∃ xs, xs.length = x.1 ∧ xs = ((List.range x.1).map fun j => ((id - 1 + j * many : Nat) : Int)) ∧ Gr A' x.2 3 intF xs) (fun x => ownCnt S many id - x.1) (0, .slice none 0 0) ([] ++ [(b3, .cells #[.int .i64 g.wide, c] 34)]) ⟨by omega, [], rfl, [], rfl, rfl, Gr.nil _ _⟩ ?_
  rintro ⟨j, v⟩ O ⟨hj, A', rfl, xs, lx, ex, gr⟩
  simp only at hj lx ex gr ⊢
  have o2 := gr.one
  repeat (first | refine R1 ?_ | (refine R2 ?_; intro _))
  refine fp (y_callV (sightMany_v _ _ g b) (by rfl) ?_)
  rw [sightMany_ok e, hS]
  have hjm : j * many ≤ 20 * 3 ∧ j ≤ 20 := by
    rcases Nat.eq_zero_or_pos j with rfl | hj0
    · omega
    · have := (hc (j - 1)).1 (by omega)
      have h4 : (j - 1) * many ≤ 20 * 3 := by omega
      have h5 : j * many = (j - 1) * many + many := by
        obtain ⟨k, rfl⟩ : ∃ k, j = k + 1 := ⟨j - 1, by omega⟩
        rw [Nat.add_sub_cancel, Nat.add_mul, Nat.one_mul]
      have h6 : j ≤ 20 := by
        have : (j - 1) * 1 ≤ (j - 1) * many := Nat.mul_le_mul_left _ (by omega)
        omega
      exact ⟨Nat.mul_le_mul h6 h3, h6⟩
  repeat (first | refine R1 ?_ | (refine R2 ?_; intro _))
  refine sf_if (fun h4 => ?_) fun h4 => ?_
  · have hj4 : j < ownCnt S many id := (hc j).2 (by omega)
    repeat (first | refine R1 ?_ | (refine R2 ?_; intro _))
    refine fp (y_bs (by rfl) (by rfl) (by rfl) (by rfl) (by decide) fun u Au gu => ?_)
    repeat (first | refine R1 ?_ | (refine R2 ?_; intro _))
    refine fp (y_append (by rfl) (by rfl) gr gu (fun y _ => FlatOne.one y) (by rfl) (by rfl) (by simp; omega) (by simp; omega) fun v2 A2 g2 => ?_)
    repeat (first | refine R1 ?_ | (refine R2 ?_; intro _))
    refine ⟨(j + 1, v2), by simp only; omega, ⟨?_, rfl, trivial⟩, rfl, A2 ++ [(b3, .cells #[.int .i64 g.wide, c] 34)], _, inferInstance, by simp only; omega, A2, rfl, _, by simp; omega, by rw [ownList_step, ex], g2⟩
    rw [show ((id - 1 + (j + 1) * many : Nat) : Int) = ((id - 1 + j * many : Nat) : Int) + (many : Int) by rw [Nat.add_mul, Nat.one_mul]; omega]
    rfl
  · refine sf_exit ?_
    have : j = ownCnt S many id := by
      rcases Nat.lt_or_ge j (ownCnt S many id) with h | h
      · have := (hc j).1 h; omega
      · omega
    repeat (first | refine R1 ?_ | (refine R2 ?_; intro _))
    refine sf_ret (rO A' ?_)
    rw [ownList, ← this, ← ex]; exact gr
theorem intsEqual_v (h : PHeap) (a b : Value) (xs ys : List Int) (sx : Sl h a intF xs) (sy : Sl h b intF ys) : CallV Tryz.prog M 141 [a, b] h (.bool (decide (xs = ys))) := by
  have o1 := sx.one
  have o2 := sy.one
  have hx := sx.small
  have hy := sy.small
  refine calls_of_sf Tryz.func141 rfl Tryz.ntmps141 ?_
  simp only [argsL, Nat.reduceAdd]
  repeat (first | refine R1 ?_ | (refine R2 ?_; intro _))
  refine sf_if (fun e0 => ?_) fun e0 => ?_
  · repeat (first | refine R1 ?_ | (refine R2 ?_; intro _))
    exact sf_ret (rV (bF fun e => e0 (by rw [e])))
  have hl : xs.length = ys.length := by omega
  repeat (first | refine R1 ?_ | (refine R2 ?_; intro _))
  refine sf_rd [0, 1, 12] 13 xs.length 0 (fun k => xs.take k = ys.take k) (by omega) rfl (fun k hk hi => ?_)
  repeat (first | refine R1 ?_ | (refine R2 ?_; intro _))
  refine sf_if (fun h4 => ?_) fun h4 => ?_
  · have hk4 : k < xs.length := by omega
    have hk5 : k < ys.length := by omega
    repeat (first | refine R1 ?_ | (refine R2 ?_; intro _))
    refine sf_draw (by kernel_rfl) (regX_run [[], [], [0, 1], [0, 1, 2], [], [], [4, 5], [4, 5, 6], [0, 1, 2, 3, 4, 5, 6, 7]] 8 [(0, false), (1, false), (2, false), (3, false), (4, false), (5, false), (6, false), (7, false)] (by kernel_rfl) (by kernel_rfl) (by kernel_rfl) ?_)
    repeat (refine Da1 ?_)
    (refine a_end (by rfl) (by rfl) ?_; simp only [finA, setL, List.drop_succ_cons, List.drop_zero])
    repeat (first | refine R1 ?_ | (refine R2 ?_; intro _))
    refine sf_if (fun e1 => ?_) fun e1 => ?_
    · repeat (first | refine R1 ?_ | (refine R2 ?_; intro _))
      exact sf_ret (rV (bF (eq_at e1)))
    · repeat (first | refine R1 ?_ | (refine R2 ?_; intro _))
      exact ⟨⟨hk4, eq_step hk4 hk5 hi (by simpa using e1)⟩, rfl, rfl, _, inferInstance⟩
  · refine sf_exit ?_
    repeat (first | refine R1 ?_ | (refine R2 ?_; intro _))
    exact sf_ret (rV (bT (eq_end hl (by omega) hi)))
end Go.Proofs.YtekjikbaefgncaaGreatDoor

/- sync.WaitGroup's functions and types in this program. -/
namespace Go.Proofs.YtekjikbaefgncaaGreatDoor
open Go
abbrev wgLink : Go.Conc.Lib.WgLink := { add := 221, done := 223, wait := 224, relMerge := 238, disable := 239, enable := 240, inBubble := 241, associate := 242, fatal := 243, uOr := 244, uAdd := 245, raceRead := 246, uLoad := 247, uStore := 248, disassociate := 249, semrelease := 250, acquire := 251, isAssociated := 252, uCas := 253, raceWrite := 254, semacquire := 255, orU64 := 267, addU64 := 268, loadU64 := 269, storeU64 := 270, casU64 := 271, tWgP := 316, tUP := 229, tAssoc := 318, tWg := 289, tAU := 286, tU64 := 284, tUint := 322, tU32 := 287, tPU32 := 323, tPAU := 348, tPU64 := 350, tNoCopy := 281, tANoCopy := 282, tAlign64 := 283 }
theorem wgLib : Go.Conc.Lib.WgLib Tryz.prog wgLink :=
  ⟨Tryz.func221, Tryz.func223, Tryz.func224, Tryz.func238, Tryz.func239, Tryz.func240, Tryz.func241, Tryz.func242, Tryz.func243, Tryz.func244, Tryz.func245, Tryz.func246, Tryz.func247, Tryz.func248, Tryz.func249, Tryz.func250, Tryz.func251, Tryz.func252, Tryz.func253, Tryz.func254, Tryz.func255, Tryz.func267, Tryz.func268, Tryz.func269, Tryz.func270, Tryz.func271, Tryz.underlying316, Tryz.runUnderlying316, Tryz.sizeOf316, Tryz.isAgg316, Tryz.zeroValue316, Tryz.underlying229, Tryz.runUnderlying229, Tryz.sizeOf229, Tryz.isAgg229, Tryz.zeroValue229, Tryz.underlying318, Tryz.runUnderlying318, Tryz.sizeOf318, Tryz.isAgg318, Tryz.zeroValue318, Tryz.underlying289, Tryz.runUnderlying289, Tryz.sizeOf289, Tryz.isAgg289, Tryz.zeroValue289, Tryz.underlying286, Tryz.runUnderlying286, Tryz.sizeOf286, Tryz.isAgg286, Tryz.zeroValue286, Tryz.underlying284, Tryz.runUnderlying284, Tryz.sizeOf284, Tryz.isAgg284, Tryz.zeroValue284, Tryz.underlying322, Tryz.runUnderlying322, Tryz.sizeOf322, Tryz.isAgg322, Tryz.zeroValue322, Tryz.underlying287, Tryz.runUnderlying287, Tryz.sizeOf287, Tryz.isAgg287, Tryz.zeroValue287, Tryz.underlying323, Tryz.runUnderlying323, Tryz.sizeOf323, Tryz.isAgg323, Tryz.zeroValue323, Tryz.underlying348, Tryz.runUnderlying348, Tryz.sizeOf348, Tryz.isAgg348, Tryz.zeroValue348, Tryz.underlying350, Tryz.runUnderlying350, Tryz.sizeOf350, Tryz.isAgg350, Tryz.zeroValue350, Tryz.underlying0, Tryz.runUnderlying0, Tryz.sizeOf0, Tryz.isAgg0, Tryz.zeroValue0, Tryz.underlying3, Tryz.runUnderlying3, Tryz.sizeOf3, Tryz.isAgg3, Tryz.zeroValue3, Tryz.underlying4, Tryz.runUnderlying4, Tryz.sizeOf4, Tryz.isAgg4, Tryz.zeroValue4, Tryz.underlying9, Tryz.runUnderlying9, Tryz.sizeOf9, Tryz.isAgg9, Tryz.zeroValue9, Tryz.underlying20, Tryz.runUnderlying20, Tryz.sizeOf20, Tryz.isAgg20, Tryz.zeroValue20, Tryz.underlying21, Tryz.runUnderlying21, Tryz.sizeOf21, Tryz.isAgg21, Tryz.zeroValue21, (by kernel_rfl), (by kernel_rfl)⟩
end Go.Proofs.YtekjikbaefgncaaGreatDoor

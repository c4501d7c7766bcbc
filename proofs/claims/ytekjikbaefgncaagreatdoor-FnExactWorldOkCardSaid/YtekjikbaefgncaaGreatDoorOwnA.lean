/- Walks of the seat: T GA QA QB QC QD QE QF QG K1 K2 LA LB LC LD ER ES KE Wg FkF FkG FkH FkI FkJ FkK. -/
import Derived.Test.YtekjikbaefgncaaGreatDoorSmE
import Derived.Test.YtekjikbaefgncaaGreatDoorProg
import Derived.KernelRfl
import Derived.Test.YtekjikbaefgncaaGreatDoorSmH
import Derived.Test.YtekjikbaefgncaaGreatDoorLibF
import Derived.Test.YtekjikbaefgncaaGreatDoorLibE
import Derived.Test.YtekjikbaefgncaaGreatDoorSmZ
import Derived.Test.YtekjikbaefgncaaGreatDoorLibC
import Derived.Test.YtekjikbaefgncaaGreatDoorLibH
import Derived.Test.YtekjikbaefgncaaGreatDoorSmR
import Derived.Test.YtekjikbaefgncaaGreatDoorLibD
import Derived.Conc.WgLib
import Derived.Test.YtekjikbaefgncaaGreatDoorSlK
import Derived.Test.YtekjikbaefgncaaGreatDoorLibA
import Derived.Test.YtekjikbaefgncaaGreatDoorSlGo
import Derived.Test.YtekjikbaefgncaaGreatDoorSlSw
import Derived.Test.YtekjikbaefgncaaGreatDoorSlEd
import Derived.Test.YtekjikbaefgncaaGreatDoorSmL
import Derived.Test.YtekjikbaefgncaaGreatDoorSmS
set_option linter.unusedVariables false
set_option linter.unusedSimpArgs false
set_option linter.unusedSectionVars false
namespace Go.Proofs.YtekjikbaefgncaaGreatDoor
open Go Go.Sl
noncomputable def fs7 : Array Field := match Tryz.prog.underlying 7 with | some (.struct fs) => fs | _ => #[]
noncomputable def im20 : Array (String × TypeId) := match Tryz.prog.underlying 20 with | some (.interface ms) => ms | _ => #[]
noncomputable def fs23 : Array Field := match Tryz.prog.underlying 23 with | some (.struct fs) => fs | _ => #[]
noncomputable def fs28 : Array Field := match Tryz.prog.underlying 28 with | some (.struct fs) => fs | _ => #[]
noncomputable def fs33 : Array Field := match Tryz.prog.underlying 33 with | some (.struct fs) => fs | _ => #[]
noncomputable def fs38 : Array Field := match Tryz.prog.underlying 38 with | some (.struct fs) => fs | _ => #[]
noncomputable def fs54 : Array Field := match Tryz.prog.underlying 54 with | some (.struct fs) => fs | _ => #[]
noncomputable def fs66 : Array Field := match Tryz.prog.underlying 66 with | some (.struct fs) => fs | _ => #[]
noncomputable def fs68 : Array Field := match Tryz.prog.underlying 68 with | some (.struct fs) => fs | _ => #[]
noncomputable def fs71 : Array Field := match Tryz.prog.underlying 71 with | some (.struct fs) => fs | _ => #[]
noncomputable def fs79 : Array Field := match Tryz.prog.underlying 79 with | some (.struct fs) => fs | _ => #[]
noncomputable def fs82 : Array Field := match Tryz.prog.underlying 82 with | some (.struct fs) => fs | _ => #[]
noncomputable def fs99 : Array Field := match Tryz.prog.underlying 99 with | some (.struct fs) => fs | _ => #[]
noncomputable def fs112 : Array Field := match Tryz.prog.underlying 112 with | some (.struct fs) => fs | _ => #[]
noncomputable def fs116 : Array Field := match Tryz.prog.underlying 116 with | some (.struct fs) => fs | _ => #[]
noncomputable def im124 : Array (String × TypeId) := match Tryz.prog.underlying 124 with | some (.interface ms) => ms | _ => #[]
noncomputable def fs166 : Array Field := match Tryz.prog.underlying 166 with | some (.struct fs) => fs | _ => #[]
noncomputable def fs168 : Array Field := match Tryz.prog.underlying 168 with | some (.struct fs) => fs | _ => #[]
noncomputable def fs184 : Array Field := match Tryz.prog.underlying 184 with | some (.struct fs) => fs | _ => #[]
noncomputable def fs191 : Array Field := match Tryz.prog.underlying 191 with | some (.struct fs) => fs | _ => #[]
noncomputable def fs212 : Array Field := match Tryz.prog.underlying 212 with | some (.struct fs) => fs | _ => #[]
noncomputable def fs214 : Array Field := match Tryz.prog.underlying 214 with | some (.struct fs) => fs | _ => #[]
noncomputable def fs223 : Array Field := match Tryz.prog.underlying 223 with | some (.struct fs) => fs | _ => #[]
noncomputable def fs225 : Array Field := match Tryz.prog.underlying 225 with | some (.struct fs) => fs | _ => #[]
noncomputable def fs231 : Array Field := match Tryz.prog.underlying 231 with | some (.struct fs) => fs | _ => #[]
noncomputable def im234 : Array (String × TypeId) := match Tryz.prog.underlying 234 with | some (.interface ms) => ms | _ => #[]
noncomputable def fs256 : Array Field := match Tryz.prog.underlying 256 with | some (.struct fs) => fs | _ => #[]
noncomputable def im273 : Array (String × TypeId) := match Tryz.prog.underlying 273 with | some (.interface ms) => ms | _ => #[]
noncomputable def fs280 : Array Field := match Tryz.prog.underlying 280 with | some (.struct fs) => fs | _ => #[]
noncomputable def fs288 : Array Field := match Tryz.prog.underlying 288 with | some (.struct fs) => fs | _ => #[]
noncomputable def fs290 : Array Field := match Tryz.prog.underlying 290 with | some (.struct fs) => fs | _ => #[]
noncomputable def fs293 : Array Field := match Tryz.prog.underlying 293 with | some (.struct fs) => fs | _ => #[]
noncomputable def fs306 : Array Field := match Tryz.prog.underlying 306 with | some (.struct fs) => fs | _ => #[]
noncomputable def fs332 : Array Field := match Tryz.prog.underlying 332 with | some (.struct fs) => fs | _ => #[]
noncomputable def fs335 : Array Field := match Tryz.prog.underlying 335 with | some (.struct fs) => fs | _ => #[]
noncomputable def fs368 : Array Field := match Tryz.prog.underlying 368 with | some (.struct fs) => fs | _ => #[]
instance : Ty Tryz.prog 3 (.int .i64) 1 8 (.int .i64 0) := ⟨by kernel_rfl, by kernel_rfl⟩
instance : Ty Tryz.prog 4 .bool 1 1 (.bool false) := ⟨by kernel_rfl, by kernel_rfl⟩
instance : Ty Tryz.prog 5 (.int .u8) 1 1 (.int .u8 0) := ⟨by kernel_rfl, by kernel_rfl⟩
instance : Ty Tryz.prog 9 .string 1 16 (.string ⟨#[]⟩) := ⟨by kernel_rfl, by kernel_rfl⟩
instance : Ty Tryz.prog 20 (.interface im20) 1 16 (.nilIface) := ⟨by kernel_rfl, by kernel_rfl⟩
instance : Ty Tryz.prog 22 (.slice 81) 1 24 (.slice none 0 0) := ⟨by kernel_rfl, by kernel_rfl⟩
instance : Ty Tryz.prog 24 (.struct fs23) 2 32 (.agg #[(.int .i64 0), (.slice none 0 0)]) := ⟨by kernel_rfl, by kernel_rfl⟩
instance : Flds Tryz.prog 24 [⟨3, false, 0, 1⟩, ⟨22, false, 1, 1⟩] := ⟨by kernel_rfl⟩
instance : Ty Tryz.prog 25 (.slice 83) 1 24 (.slice none 0 0) := ⟨by kernel_rfl, by kernel_rfl⟩
instance : Ty Tryz.prog 26 (.slice 175) 1 24 (.slice none 0 0) := ⟨by kernel_rfl, by kernel_rfl⟩
instance : Ty Tryz.prog 27 (.slice 177) 1 24 (.slice none 0 0) := ⟨by kernel_rfl, by kernel_rfl⟩
instance : Ty Tryz.prog 29 (.struct fs28) 5 104 (.agg #[(.int .i64 0), (.slice none 0 0), (.slice none 0 0), (.slice none 0 0), (.slice none 0 0)]) := ⟨by kernel_rfl, by kernel_rfl⟩
instance : Flds Tryz.prog 29 [⟨24, true, 0, 2⟩, ⟨25, false, 2, 1⟩, ⟨26, false, 3, 1⟩, ⟨27, false, 4, 1⟩] := ⟨by kernel_rfl⟩
instance : Ty Tryz.prog 32 (.slice 67) 1 24 (.slice none 0 0) := ⟨by kernel_rfl, by kernel_rfl⟩
instance : Ty Tryz.prog 34 (.struct fs33) 2 32 (.agg #[(.int .i64 0), (.slice none 0 0)]) := ⟨by kernel_rfl, by kernel_rfl⟩
instance : Flds Tryz.prog 34 [⟨3, false, 0, 1⟩, ⟨32, false, 1, 1⟩] := ⟨by kernel_rfl⟩
instance : Ty Tryz.prog 35 (.slice 69) 1 24 (.slice none 0 0) := ⟨by kernel_rfl, by kernel_rfl⟩
instance : Ty Tryz.prog 36 (.slice 113) 1 24 (.slice none 0 0) := ⟨by kernel_rfl, by kernel_rfl⟩
instance : Ty Tryz.prog 37 (.slice 117) 1 24 (.slice none 0 0) := ⟨by kernel_rfl, by kernel_rfl⟩
instance : Ty Tryz.prog 39 (.struct fs38) 5 104 (.agg #[(.int .i64 0), (.slice none 0 0), (.slice none 0 0), (.slice none 0 0), (.slice none 0 0)]) := ⟨by kernel_rfl, by kernel_rfl⟩
instance : Flds Tryz.prog 39 [⟨34, true, 0, 2⟩, ⟨35, false, 2, 1⟩, ⟨36, false, 3, 1⟩, ⟨37, false, 4, 1⟩] := ⟨by kernel_rfl⟩
instance : Ty Tryz.prog 52 (.slice 169) 1 24 (.slice none 0 0) := ⟨by kernel_rfl, by kernel_rfl⟩
instance : Ty Tryz.prog 53 (.slice 72) 1 24 (.slice none 0 0) := ⟨by kernel_rfl, by kernel_rfl⟩
instance : Ty Tryz.prog 55 (.struct fs54) 7 152 (.agg #[(.int .i64 0), (.slice none 0 0), (.slice none 0 0), (.slice none 0 0), (.slice none 0 0), (.slice none 0 0), (.slice none 0 0)]) := ⟨by kernel_rfl, by kernel_rfl⟩
instance : Flds Tryz.prog 55 [⟨39, true, 0, 5⟩, ⟨52, false, 5, 1⟩, ⟨53, false, 6, 1⟩] := ⟨by kernel_rfl⟩
instance : Ty Tryz.prog 67 (.struct fs66) 2 16 (.agg #[(.int .i64 0), (.int .i64 0)]) := ⟨by kernel_rfl, by kernel_rfl⟩
instance : Flds Tryz.prog 67 [⟨3, false, 0, 1⟩, ⟨3, false, 1, 1⟩] := ⟨by kernel_rfl⟩
instance : Ty Tryz.prog 69 (.struct fs68) 3 24 (.agg #[(.int .i64 0), (.int .i64 0), (.int .i64 0)]) := ⟨by kernel_rfl, by kernel_rfl⟩
instance : Flds Tryz.prog 69 [⟨3, false, 0, 1⟩, ⟨67, true, 1, 2⟩] := ⟨by kernel_rfl⟩
instance : Ty Tryz.prog 70 (.slice 3) 1 24 (.slice none 0 0) := ⟨by kernel_rfl, by kernel_rfl⟩
instance : Ty Tryz.prog 72 (.struct fs71) 10 112 (.agg #[(.int .i64 0), (.int .i64 0), (.int .i64 0), (.int .i64 0), (.int .i64 0), (.slice none 0 0), (.int .i64 0), (.int .i64 0), (.int .i64 0), (.slice none 0 0)]) := ⟨by kernel_rfl, by kernel_rfl⟩
instance : Flds Tryz.prog 72 [⟨3, false, 0, 1⟩, ⟨3, false, 1, 1⟩, ⟨3, false, 2, 1⟩, ⟨3, false, 3, 1⟩, ⟨34, true, 4, 2⟩, ⟨69, true, 6, 3⟩, ⟨70, false, 9, 1⟩] := ⟨by kernel_rfl⟩
instance : Ty Tryz.prog 77 (.slice 215) 1 24 (.slice none 0 0) := ⟨by kernel_rfl, by kernel_rfl⟩
instance : Ty Tryz.prog 78 (.slice 100) 1 24 (.slice none 0 0) := ⟨by kernel_rfl, by kernel_rfl⟩
instance : Ty Tryz.prog 80 (.struct fs79) 7 152 (.agg #[(.int .i64 0), (.slice none 0 0), (.slice none 0 0), (.slice none 0 0), (.slice none 0 0), (.slice none 0 0), (.slice none 0 0)]) := ⟨by kernel_rfl, by kernel_rfl⟩
instance : Flds Tryz.prog 80 [⟨29, true, 0, 5⟩, ⟨77, false, 5, 1⟩, ⟨78, false, 6, 1⟩] := ⟨by kernel_rfl⟩
instance : Ty Tryz.prog 81 (.struct fs66) 2 16 (.agg #[(.int .i64 0), (.int .i64 0)]) := ⟨by kernel_rfl, by kernel_rfl⟩
instance : Flds Tryz.prog 81 [⟨3, false, 0, 1⟩, ⟨3, false, 1, 1⟩] := ⟨by kernel_rfl⟩
instance : Ty Tryz.prog 83 (.struct fs82) 3 24 (.agg #[(.int .i64 0), (.int .i64 0), (.int .i64 0)]) := ⟨by kernel_rfl, by kernel_rfl⟩
instance : Flds Tryz.prog 83 [⟨3, false, 0, 1⟩, ⟨81, true, 1, 2⟩] := ⟨by kernel_rfl⟩
instance : Ty Tryz.prog 100 (.struct fs99) 10 112 (.agg #[(.int .i64 0), (.int .i64 0), (.int .i64 0), (.int .i64 0), (.int .i64 0), (.slice none 0 0), (.int .i64 0), (.int .i64 0), (.int .i64 0), (.slice none 0 0)]) := ⟨by kernel_rfl, by kernel_rfl⟩
instance : Flds Tryz.prog 100 [⟨3, false, 0, 1⟩, ⟨3, false, 1, 1⟩, ⟨3, false, 2, 1⟩, ⟨3, false, 3, 1⟩, ⟨24, true, 4, 2⟩, ⟨83, true, 6, 3⟩, ⟨70, false, 9, 1⟩] := ⟨by kernel_rfl⟩
instance : Ty Tryz.prog 113 (.struct fs112) 3 40 (.agg #[(.bool false), (.int .i64 0), (.slice none 0 0)]) := ⟨by kernel_rfl, by kernel_rfl⟩
instance : Flds Tryz.prog 113 [⟨4, false, 0, 1⟩, ⟨3, false, 1, 1⟩, ⟨70, false, 2, 1⟩] := ⟨by kernel_rfl⟩
instance : Ty Tryz.prog 117 (.struct fs116) 2 32 (.agg #[(.int .i64 0), (.slice none 0 0)]) := ⟨by kernel_rfl, by kernel_rfl⟩
instance : Flds Tryz.prog 117 [⟨3, false, 0, 1⟩, ⟨70, false, 1, 1⟩] := ⟨by kernel_rfl⟩
instance : Ty Tryz.prog 125 (.interface im124) 1 16 (.nilIface) := ⟨by kernel_rfl, by kernel_rfl⟩
instance : Ty Tryz.prog 165 (.slice 70) 1 24 (.slice none 0 0) := ⟨by kernel_rfl, by kernel_rfl⟩
instance : Ty Tryz.prog 167 (.struct fs166) 4 80 (.agg #[(.int .i64 0), (.slice none 0 0), (.slice none 0 0), (.slice none 0 0)]) := ⟨by kernel_rfl, by kernel_rfl⟩
instance : Flds Tryz.prog 167 [⟨34, true, 0, 2⟩, ⟨70, false, 2, 1⟩, ⟨165, false, 3, 1⟩] := ⟨by kernel_rfl⟩
instance : Ty Tryz.prog 169 (.struct fs168) 7 96 (.agg #[(.bool false), (.bool false), (.int .i64 0), (.int .i64 0), (.slice none 0 0), (.slice none 0 0), (.slice none 0 0)]) := ⟨by kernel_rfl, by kernel_rfl⟩
instance : Flds Tryz.prog 169 [⟨4, false, 0, 1⟩, ⟨4, false, 1, 1⟩, ⟨3, false, 2, 1⟩, ⟨167, true, 3, 4⟩] := ⟨by kernel_rfl⟩
instance : Ty Tryz.prog 175 (.struct fs112) 3 40 (.agg #[(.bool false), (.int .i64 0), (.slice none 0 0)]) := ⟨by kernel_rfl, by kernel_rfl⟩
instance : Flds Tryz.prog 175 [⟨4, false, 0, 1⟩, ⟨3, false, 1, 1⟩, ⟨70, false, 2, 1⟩] := ⟨by kernel_rfl⟩
instance : Ty Tryz.prog 177 (.struct fs116) 2 32 (.agg #[(.int .i64 0), (.slice none 0 0)]) := ⟨by kernel_rfl, by kernel_rfl⟩
instance : Flds Tryz.prog 177 [⟨3, false, 0, 1⟩, ⟨70, false, 1, 1⟩] := ⟨by kernel_rfl⟩
instance : Ty Tryz.prog 182 (.slice 257) 1 24 (.slice none 0 0) := ⟨by kernel_rfl, by kernel_rfl⟩
instance : Ty Tryz.prog 183 (.slice 224) 1 24 (.slice none 0 0) := ⟨by kernel_rfl, by kernel_rfl⟩
instance : Ty Tryz.prog 185 (.struct fs184) 4 80 (.agg #[(.int .i64 0), (.slice none 0 0), (.slice none 0 0), (.slice none 0 0)]) := ⟨by kernel_rfl, by kernel_rfl⟩
instance : Flds Tryz.prog 185 [⟨34, true, 0, 2⟩, ⟨182, false, 2, 1⟩, ⟨183, false, 3, 1⟩] := ⟨by kernel_rfl⟩
instance : Ty Tryz.prog 192 (.struct fs191) 1 16 (.agg #[(.string ⟨#[]⟩)]) := ⟨by kernel_rfl, by kernel_rfl⟩
instance : Flds Tryz.prog 192 [⟨9, false, 0, 1⟩] := ⟨by kernel_rfl⟩
instance : Ty Tryz.prog 194 (.pointer 192) 1 8 (.pointer none) := ⟨by kernel_rfl, by kernel_rfl⟩
instance : Ty Tryz.prog 213 (.struct fs212) 4 80 (.agg #[(.int .i64 0), (.slice none 0 0), (.slice none 0 0), (.slice none 0 0)]) := ⟨by kernel_rfl, by kernel_rfl⟩
instance : Flds Tryz.prog 213 [⟨24, true, 0, 2⟩, ⟨70, false, 2, 1⟩, ⟨165, false, 3, 1⟩] := ⟨by kernel_rfl⟩
instance : Ty Tryz.prog 215 (.struct fs214) 7 96 (.agg #[(.bool false), (.bool false), (.int .i64 0), (.int .i64 0), (.slice none 0 0), (.slice none 0 0), (.slice none 0 0)]) := ⟨by kernel_rfl, by kernel_rfl⟩
instance : Flds Tryz.prog 215 [⟨4, false, 0, 1⟩, ⟨4, false, 1, 1⟩, ⟨3, false, 2, 1⟩, ⟨213, true, 3, 4⟩] := ⟨by kernel_rfl⟩
instance : Ty Tryz.prog 224 (.struct fs223) 3 24 (.agg #[(.int .i64 0), (.int .i64 0), (.int .i64 0)]) := ⟨by kernel_rfl, by kernel_rfl⟩
instance : Flds Tryz.prog 224 [⟨3, false, 0, 1⟩, ⟨3, false, 1, 1⟩, ⟨3, false, 2, 1⟩] := ⟨by kernel_rfl⟩
instance : Ty Tryz.prog 226 (.struct fs225) 2 16 (.agg #[(.int .i64 0), (.int .i64 0)]) := ⟨by kernel_rfl, by kernel_rfl⟩
instance : Flds Tryz.prog 226 [⟨3, false, 0, 1⟩, ⟨3, false, 1, 1⟩] := ⟨by kernel_rfl⟩
instance : Ty Tryz.prog 232 (.struct fs231) 3 24 (.agg #[(.pointer none), (.pointer none), (.int .u64 0)]) := ⟨by kernel_rfl, by kernel_rfl⟩
instance : Ty Tryz.prog 235 (.interface im234) 1 16 (.nilIface) := ⟨by kernel_rfl, by kernel_rfl⟩
instance : Ty Tryz.prog 243 (.func #[3] #[3] false) 1 8 (.nilFunc) := ⟨by kernel_rfl, by kernel_rfl⟩
instance : Ty Tryz.prog 257 (.struct fs256) 3 24 (.agg #[(.int .i64 0), (.int .i64 0), (.int .i64 0)]) := ⟨by kernel_rfl, by kernel_rfl⟩
instance : Flds Tryz.prog 257 [⟨3, false, 0, 1⟩, ⟨3, false, 1, 1⟩, ⟨3, false, 2, 1⟩] := ⟨by kernel_rfl⟩
instance : Ty Tryz.prog 274 (.interface im273) 1 16 (.nilIface) := ⟨by kernel_rfl, by kernel_rfl⟩
instance : Ty Tryz.prog 277 (.array 5 3) 5 40 (.agg #[(.int .i64 0), (.int .i64 0), (.int .i64 0), (.int .i64 0), (.int .i64 0)]) := ⟨by kernel_rfl, by kernel_rfl⟩
instance : Ty Tryz.prog 279 (.chan .both 291) 1 8 (.chan none) := ⟨by kernel_rfl, by kernel_rfl⟩
instance : Ty Tryz.prog 284 (.int .u64) 1 8 (.int .u64 0) := ⟨by kernel_rfl, by kernel_rfl⟩
instance : Ty Tryz.prog 289 (.struct fs288) 2 16 (.agg #[(.int .u64 0), (.int .u32 0)]) := ⟨by kernel_rfl, by kernel_rfl⟩
instance : Ty Tryz.prog 291 (.struct fs290) 2 32 (.agg #[(.int .i64 0), (.slice none 0 0)]) := ⟨by kernel_rfl, by kernel_rfl⟩
instance : Flds Tryz.prog 291 [⟨3, false, 0, 1⟩, ⟨70, false, 1, 1⟩] := ⟨by kernel_rfl⟩
instance : Ty Tryz.prog 292 (.array 4 70) 4 96 (.agg #[(.slice none 0 0), (.slice none 0 0), (.slice none 0 0), (.slice none 0 0)]) := ⟨by kernel_rfl, by kernel_rfl⟩
instance : Ty Tryz.prog 294 (.struct fs293) 2 48 (.agg #[(.slice none 0 0), (.slice none 0 0)]) := ⟨by kernel_rfl, by kernel_rfl⟩
instance : Flds Tryz.prog 294 [⟨182, false, 0, 1⟩, ⟨183, false, 1, 1⟩] := ⟨by kernel_rfl⟩
instance : Ty Tryz.prog 307 (.struct fs306) 1 8 (.agg #[(.int .i64 0)]) := ⟨by kernel_rfl, by kernel_rfl⟩
instance : Flds Tryz.prog 307 [⟨3, false, 0, 1⟩] := ⟨by kernel_rfl⟩
instance : Ty Tryz.prog 308 (.struct fs280) 0 0 (.agg #[]) := ⟨by kernel_rfl, by kernel_rfl⟩
instance : Flds Tryz.prog 308 [] := ⟨by kernel_rfl⟩
instance : Ty Tryz.prog 309 (.struct fs280) 0 0 (.agg #[]) := ⟨by kernel_rfl, by kernel_rfl⟩
instance : Flds Tryz.prog 309 [] := ⟨by kernel_rfl⟩
instance : Ty Tryz.prog 310 (.struct fs280) 0 0 (.agg #[]) := ⟨by kernel_rfl, by kernel_rfl⟩
instance : Flds Tryz.prog 310 [] := ⟨by kernel_rfl⟩
instance : Ty Tryz.prog 311 (.struct fs280) 0 0 (.agg #[]) := ⟨by kernel_rfl, by kernel_rfl⟩
instance : Flds Tryz.prog 311 [] := ⟨by kernel_rfl⟩
instance : Ty Tryz.prog 312 (.struct fs280) 0 0 (.agg #[]) := ⟨by kernel_rfl, by kernel_rfl⟩
instance : Flds Tryz.prog 312 [] := ⟨by kernel_rfl⟩
instance : Ty Tryz.prog 313 (.struct fs280) 0 0 (.agg #[]) := ⟨by kernel_rfl, by kernel_rfl⟩
instance : Flds Tryz.prog 313 [] := ⟨by kernel_rfl⟩
instance : Ty Tryz.prog 314 (.struct fs280) 0 0 (.agg #[]) := ⟨by kernel_rfl, by kernel_rfl⟩
instance : Flds Tryz.prog 314 [] := ⟨by kernel_rfl⟩
instance : Ty Tryz.prog 315 (.array 7 274) 7 112 (.agg #[.nilIface, .nilIface, .nilIface, .nilIface, .nilIface, .nilIface, .nilIface]) := ⟨by kernel_rfl, by kernel_rfl⟩
instance : Ty Tryz.prog 322 (.int .u64) 1 8 (.int .u64 0) := ⟨by kernel_rfl, by kernel_rfl⟩
instance : Ty Tryz.prog 333 (.struct fs332) 4 32 (.agg #[(.int .i64 0), (.int .i64 0), (.int .i64 0), (.int .i64 0)]) := ⟨by kernel_rfl, by kernel_rfl⟩
instance : Flds Tryz.prog 333 [⟨257, true, 0, 3⟩, ⟨3, false, 3, 1⟩] := ⟨by kernel_rfl⟩
instance : Ty Tryz.prog 334 (.slice 333) 1 24 (.slice none 0 0) := ⟨by kernel_rfl, by kernel_rfl⟩
instance : Ty Tryz.prog 336 (.struct fs335) 4 32 (.agg #[(.int .i64 0), (.int .i64 0), (.int .i64 0), (.int .i64 0)]) := ⟨by kernel_rfl, by kernel_rfl⟩
instance : Flds Tryz.prog 336 [⟨3, false, 0, 1⟩, ⟨3, false, 1, 1⟩, ⟨3, false, 2, 1⟩, ⟨3, false, 3, 1⟩] := ⟨by kernel_rfl⟩
instance : Ty Tryz.prog 354 (.slice 226) 1 24 (.slice none 0 0) := ⟨by kernel_rfl, by kernel_rfl⟩
instance : Ty Tryz.prog 358 (.func #[3] #[336] false) 1 8 (.nilFunc) := ⟨by kernel_rfl, by kernel_rfl⟩
instance : Ty Tryz.prog 359 (.array 8 358) 8 64 (.agg #[.nilFunc, .nilFunc, .nilFunc, .nilFunc, .nilFunc, .nilFunc, .nilFunc, .nilFunc]) := ⟨by kernel_rfl, by kernel_rfl⟩
instance : Ty Tryz.prog 360 (.array 4 3) 4 32 (.agg #[(.int .i64 0), (.int .i64 0), (.int .i64 0), (.int .i64 0)]) := ⟨by kernel_rfl, by kernel_rfl⟩
instance : Ty Tryz.prog 361 (.slice 4) 1 24 (.slice none 0 0) := ⟨by kernel_rfl, by kernel_rfl⟩
instance : Ty Tryz.prog 366 (.func #[369] #[3, 4] false) 1 8 (.nilFunc) := ⟨by kernel_rfl, by kernel_rfl⟩
instance : Ty Tryz.prog 369 (.struct fs368) 3 40 (.agg #[(.int .i64 0), (.slice none 0 0), (.int .i64 0)]) := ⟨by kernel_rfl, by kernel_rfl⟩
instance : Flds Tryz.prog 369 [⟨34, true, 0, 2⟩, ⟨3, false, 2, 1⟩] := ⟨by kernel_rfl⟩
instance : Ty Tryz.prog 370 (.array 4 366) 4 32 (.agg #[.nilFunc, .nilFunc, .nilFunc, .nilFunc]) := ⟨by kernel_rfl, by kernel_rfl⟩
instance : Ty Tryz.prog 389 (.int .u64) 1 8 (.int .u64 0) := ⟨by kernel_rfl, by kernel_rfl⟩
instance : Fun Tryz.prog 12 := ⟨by kernel_rfl⟩
instance : Fun Tryz.prog 13 := ⟨by kernel_rfl⟩
instance : Fun Tryz.prog 14 := ⟨by kernel_rfl⟩
instance : Fun Tryz.prog 15 := ⟨by kernel_rfl⟩
instance : Fun Tryz.prog 16 := ⟨by kernel_rfl⟩
instance : Fun Tryz.prog 19 := ⟨by kernel_rfl⟩
instance : Fun Tryz.prog 23 := ⟨by kernel_rfl⟩
instance : Fun Tryz.prog 26 := ⟨by kernel_rfl⟩
instance : Fun Tryz.prog 29 := ⟨by kernel_rfl⟩
instance : Fun Tryz.prog 36 := ⟨by kernel_rfl⟩
instance : Fun Tryz.prog 39 := ⟨by kernel_rfl⟩
instance : Fun Tryz.prog 41 := ⟨by kernel_rfl⟩
instance : Fun Tryz.prog 45 := ⟨by kernel_rfl⟩
instance : Fun Tryz.prog 50 := ⟨by kernel_rfl⟩
instance : Fun Tryz.prog 52 := ⟨by kernel_rfl⟩
instance : Fun Tryz.prog 54 := ⟨by kernel_rfl⟩
instance : Fun Tryz.prog 55 := ⟨by kernel_rfl⟩
instance : Fun Tryz.prog 56 := ⟨by kernel_rfl⟩
instance : Fun Tryz.prog 57 := ⟨by kernel_rfl⟩
instance : Fun Tryz.prog 58 := ⟨by kernel_rfl⟩
instance : Fun Tryz.prog 59 := ⟨by kernel_rfl⟩
instance : Fun Tryz.prog 60 := ⟨by kernel_rfl⟩
instance : Fun Tryz.prog 61 := ⟨by kernel_rfl⟩
instance : Fun Tryz.prog 62 := ⟨by kernel_rfl⟩
instance : Fun Tryz.prog 63 := ⟨by kernel_rfl⟩
instance : Fun Tryz.prog 64 := ⟨by kernel_rfl⟩
instance : Fun Tryz.prog 65 := ⟨by kernel_rfl⟩
instance : Fun Tryz.prog 66 := ⟨by kernel_rfl⟩
instance : Fun Tryz.prog 67 := ⟨by kernel_rfl⟩
instance : Fun Tryz.prog 68 := ⟨by kernel_rfl⟩
instance : Fun Tryz.prog 69 := ⟨by kernel_rfl⟩
instance : Fun Tryz.prog 70 := ⟨by kernel_rfl⟩
instance : Fun Tryz.prog 71 := ⟨by kernel_rfl⟩
instance : Fun Tryz.prog 72 := ⟨by kernel_rfl⟩
instance : Fun Tryz.prog 73 := ⟨by kernel_rfl⟩
instance : Fun Tryz.prog 74 := ⟨by kernel_rfl⟩
instance : Fun Tryz.prog 75 := ⟨by kernel_rfl⟩
instance : Fun Tryz.prog 76 := ⟨by kernel_rfl⟩
instance : Fun Tryz.prog 82 := ⟨by kernel_rfl⟩
instance : Fun Tryz.prog 85 := ⟨by kernel_rfl⟩
instance : Fun Tryz.prog 90 := ⟨by kernel_rfl⟩
instance : Fun Tryz.prog 91 := ⟨by kernel_rfl⟩
instance : Fun Tryz.prog 99 := ⟨by kernel_rfl⟩
instance : Fun Tryz.prog 100 := ⟨by kernel_rfl⟩
instance : Fun Tryz.prog 103 := ⟨by kernel_rfl⟩
instance : Fun Tryz.prog 104 := ⟨by kernel_rfl⟩
instance : Fun Tryz.prog 106 := ⟨by kernel_rfl⟩
instance : Fun Tryz.prog 107 := ⟨by kernel_rfl⟩
instance : Fun Tryz.prog 108 := ⟨by kernel_rfl⟩
instance : Fun Tryz.prog 110 := ⟨by kernel_rfl⟩
instance : Fun Tryz.prog 118 := ⟨by kernel_rfl⟩
instance : Fun Tryz.prog 120 := ⟨by kernel_rfl⟩
instance : Fun Tryz.prog 122 := ⟨by kernel_rfl⟩
instance : Fun Tryz.prog 123 := ⟨by kernel_rfl⟩
instance : Fun Tryz.prog 124 := ⟨by kernel_rfl⟩
instance : Fun Tryz.prog 125 := ⟨by kernel_rfl⟩
instance : Fun Tryz.prog 126 := ⟨by kernel_rfl⟩
instance : Fun Tryz.prog 127 := ⟨by kernel_rfl⟩
instance : Fun Tryz.prog 128 := ⟨by kernel_rfl⟩
instance : Fun Tryz.prog 129 := ⟨by kernel_rfl⟩
instance : Fun Tryz.prog 130 := ⟨by kernel_rfl⟩
instance : Fun Tryz.prog 131 := ⟨by kernel_rfl⟩
instance : Fun Tryz.prog 132 := ⟨by kernel_rfl⟩
instance : Fun Tryz.prog 133 := ⟨by kernel_rfl⟩
instance : Fun Tryz.prog 134 := ⟨by kernel_rfl⟩
instance : Fun Tryz.prog 135 := ⟨by kernel_rfl⟩
instance : Fun Tryz.prog 136 := ⟨by kernel_rfl⟩
instance : Fun Tryz.prog 137 := ⟨by kernel_rfl⟩
instance : Fun Tryz.prog 138 := ⟨by kernel_rfl⟩
instance : Fun Tryz.prog 139 := ⟨by kernel_rfl⟩
instance : Fun Tryz.prog 140 := ⟨by kernel_rfl⟩
instance : Fun Tryz.prog 141 := ⟨by kernel_rfl⟩
instance : Fun Tryz.prog 142 := ⟨by kernel_rfl⟩
instance : Fun Tryz.prog 143 := ⟨by kernel_rfl⟩
instance : Fun Tryz.prog 144 := ⟨by kernel_rfl⟩
instance : Fun Tryz.prog 145 := ⟨by kernel_rfl⟩
instance : Fun Tryz.prog 146 := ⟨by kernel_rfl⟩
instance : Fun Tryz.prog 155 := ⟨by kernel_rfl⟩
instance : Fun Tryz.prog 159 := ⟨by kernel_rfl⟩
instance : Fun Tryz.prog 162 := ⟨by kernel_rfl⟩
instance : Fun Tryz.prog 165 := ⟨by kernel_rfl⟩
instance : Fun Tryz.prog 167 := ⟨by kernel_rfl⟩
instance : Fun Tryz.prog 173 := ⟨by kernel_rfl⟩
instance : Fun Tryz.prog 175 := ⟨by kernel_rfl⟩
instance : Fun Tryz.prog 176 := ⟨by kernel_rfl⟩
instance : Fun Tryz.prog 177 := ⟨by kernel_rfl⟩
instance : Fun Tryz.prog 178 := ⟨by kernel_rfl⟩
instance : Fun Tryz.prog 179 := ⟨by kernel_rfl⟩
instance : Fun Tryz.prog 180 := ⟨by kernel_rfl⟩
instance : Fun Tryz.prog 181 := ⟨by kernel_rfl⟩
instance : Fun Tryz.prog 182 := ⟨by kernel_rfl⟩
instance : Fun Tryz.prog 183 := ⟨by kernel_rfl⟩
instance : Fun Tryz.prog 184 := ⟨by kernel_rfl⟩
instance : Fun Tryz.prog 188 := ⟨by kernel_rfl⟩
instance : Fun Tryz.prog 189 := ⟨by kernel_rfl⟩
instance : Fun Tryz.prog 190 := ⟨by kernel_rfl⟩
instance : Fun Tryz.prog 191 := ⟨by kernel_rfl⟩
instance : Fun Tryz.prog 192 := ⟨by kernel_rfl⟩
instance : Fun Tryz.prog 193 := ⟨by kernel_rfl⟩
instance : Fun Tryz.prog 203 := ⟨by kernel_rfl⟩
instance : Fun Tryz.prog 204 := ⟨by kernel_rfl⟩
instance : Fun Tryz.prog 206 := ⟨by kernel_rfl⟩
instance : Fun Tryz.prog 207 := ⟨by kernel_rfl⟩
instance : Fun Tryz.prog 208 := ⟨by kernel_rfl⟩
instance : Fun Tryz.prog 209 := ⟨by kernel_rfl⟩
instance : Fun Tryz.prog 210 := ⟨by kernel_rfl⟩
instance : Fun Tryz.prog 211 := ⟨by kernel_rfl⟩
instance : Fun Tryz.prog 212 := ⟨by kernel_rfl⟩
instance : Fun Tryz.prog 213 := ⟨by kernel_rfl⟩
instance : Fun Tryz.prog 214 := ⟨by kernel_rfl⟩
instance : Fun Tryz.prog 215 := ⟨by kernel_rfl⟩
instance : Fun Tryz.prog 219 := ⟨by kernel_rfl⟩
instance : Fun Tryz.prog 220 := ⟨by kernel_rfl⟩
instance : Fun Tryz.prog 225 := ⟨by kernel_rfl⟩
instance : Fun Tryz.prog 229 := ⟨by kernel_rfl⟩
instance : Fun Tryz.prog 230 := ⟨by kernel_rfl⟩
instance : Fun Tryz.prog 231 := ⟨by kernel_rfl⟩
instance : Fun Tryz.prog 232 := ⟨by kernel_rfl⟩
instance : Fun Tryz.prog 233 := ⟨by kernel_rfl⟩
instance : Fun Tryz.prog 234 := ⟨by kernel_rfl⟩
instance : Fun Tryz.prog 235 := ⟨by kernel_rfl⟩
instance : Fun Tryz.prog 236 := ⟨by kernel_rfl⟩
instance : Fun Tryz.prog 237 := ⟨by kernel_rfl⟩
instance : Fun Tryz.prog 256 := ⟨by kernel_rfl⟩
instance : Fun Tryz.prog 257 := ⟨by kernel_rfl⟩
instance : Fun Tryz.prog 258 := ⟨by kernel_rfl⟩
instance : Fun Tryz.prog 259 := ⟨by kernel_rfl⟩
instance : Fun Tryz.prog 260 := ⟨by kernel_rfl⟩
instance : Fun Tryz.prog 264 := ⟨by kernel_rfl⟩
instance : Fun Tryz.prog 265 := ⟨by kernel_rfl⟩
instance : Fun Tryz.prog 266 := ⟨by kernel_rfl⟩
instance : Fun Tryz.prog 272 := ⟨by kernel_rfl⟩
instance : Fun Tryz.prog 273 := ⟨by kernel_rfl⟩
instance : Fun Tryz.prog 274 := ⟨by kernel_rfl⟩
instance : Fun Tryz.prog 275 := ⟨by kernel_rfl⟩
instance : Fun Tryz.prog 276 := ⟨by kernel_rfl⟩
instance : Fun Tryz.prog 277 := ⟨by kernel_rfl⟩
instance : Fun Tryz.prog 278 := ⟨by kernel_rfl⟩
instance : Fun Tryz.prog 279 := ⟨by kernel_rfl⟩
instance : Fun Tryz.prog 280 := ⟨by kernel_rfl⟩
instance : Fun Tryz.prog 281 := ⟨by kernel_rfl⟩
instance : Fun Tryz.prog 285 := ⟨by kernel_rfl⟩
instance : Fun Tryz.prog 286 := ⟨by kernel_rfl⟩
instance : Fun Tryz.prog 287 := ⟨by kernel_rfl⟩
instance : Fun Tryz.prog 288 := ⟨by kernel_rfl⟩
instance : Fun Tryz.prog 289 := ⟨by kernel_rfl⟩
instance : Fun Tryz.prog 290 := ⟨by kernel_rfl⟩
instance : Fun Tryz.prog 291 := ⟨by kernel_rfl⟩
instance : Fun Tryz.prog 292 := ⟨by kernel_rfl⟩
instance : Fun Tryz.prog 293 := ⟨by kernel_rfl⟩
instance : Fun Tryz.prog 296 := ⟨by kernel_rfl⟩
instance : Fun Tryz.prog 297 := ⟨by kernel_rfl⟩
instance : Fun Tryz.prog 299 := ⟨by kernel_rfl⟩
instance : Fun Tryz.prog 300 := ⟨by kernel_rfl⟩
instance : Fun Tryz.prog 301 := ⟨by kernel_rfl⟩
instance : Fun Tryz.prog 302 := ⟨by kernel_rfl⟩
instance : Fun Tryz.prog 303 := ⟨by kernel_rfl⟩
instance : Fun Tryz.prog 304 := ⟨by kernel_rfl⟩
instance : Fun Tryz.prog 305 := ⟨by kernel_rfl⟩
instance : Fun Tryz.prog 306 := ⟨by kernel_rfl⟩
instance : Fun Tryz.prog 307 := ⟨by kernel_rfl⟩
instance : Fun Tryz.prog 309 := ⟨by kernel_rfl⟩
instance : Fun Tryz.prog 310 := ⟨by kernel_rfl⟩
instance : Fun Tryz.prog 311 := ⟨by kernel_rfl⟩
instance : Fun Tryz.prog 313 := ⟨by kernel_rfl⟩
instance : Fun Tryz.prog 314 := ⟨by kernel_rfl⟩
instance : Fun Tryz.prog 315 := ⟨by kernel_rfl⟩
instance : Fun Tryz.prog 316 := ⟨by kernel_rfl⟩
instance : Mixed Tryz.prog := ⟨by kernel_rfl⟩
end Go.Proofs.YtekjikbaefgncaaGreatDoor
namespace Go.Proofs.YtekjikbaefgncaaGreatDoor
open Go Go.Sl
set_option maxRecDepth 100000
set_option maxHeartbeats 4000000
attribute [local irreducible] Go.Code.sf sfOps Opq opo retF Do1 anyO
variable {M : Jdg → Prop} [IsCl Tryz.prog M]
instance : ElemF Tryz.prog 67 cellF := ⟨trivial⟩
instance : ElemF Tryz.prog 3 intF := ⟨trivial⟩
instance : ElemF Tryz.prog 69 editF := ⟨trivial⟩
abbrev τ : Tys := ⟨3, 67, 69, 70, 113, 117, 169, 72, 90⟩
instance : ElemF Tryz.prog 113 (rawF (partR τ).sz) := ⟨trivial⟩
instance : ElemF Tryz.prog 117 (rawF (shownR τ).sz) := ⟨trivial⟩
instance : ElemF Tryz.prog 169 (rawF (painterR τ).sz) := ⟨trivial⟩
instance : ElemF Tryz.prog 72 (rawF (wordR τ).sz) := ⟨trivial⟩
theorem l6In_v (h : PHeap) (a b c : Int) : CallV Tryz.prog M 60 [.int .i64 a, .int .i64 b, .int .i64 c] h (.bool (decide (b ≤ a) && decide (a ≤ c))) := by
  refine Cs Tryz.func60 Tryz.ntmps60 ?_
  refine Wo ?_
  refine f_split (fun h1 => ?_) fun h1 => ?_ <;>
  · refine Wo ?_
    refine sf_ret (rV ?_)
    simp [h1]
theorem sCellOk_v (h : PHeap) (c : Cell) : CallV Tryz.prog M 129 [.agg #[.int .i64 c.kind, .int .i64 c.light]] h (.bool (cellOk c)) := by
  refine Cs Tryz.func129 Tryz.ntmps129 ?_
  repeat first | refine R1 ?_ | refine R2 fun _ => ?_
  refine sf_if (fun h1 => ?_) fun h1 => ?_
  · repeat first | refine R1 ?_ | refine R2 fun _ => ?_
    refine Xv (l6In_v _ _ _ _) ?_
    repeat first | refine R1 ?_ | refine R2 fun _ => ?_
    refine sf_ret (rV ?_)
    simp [cellOk, h1]
  · repeat first | refine R1 ?_ | refine R2 fun _ => ?_
    refine Xv (l6In_v _ _ _ _) ?_
    repeat first | refine R1 ?_ | refine R2 fun _ => ?_
    refine f_splitB (fun h2 => ?_) fun h2 => ?_ <;>
    · repeat first | refine R1 ?_ | refine R2 fun _ => ?_
      refine sf_ret (rV ?_)
      simp [cellOk, h1, h2]
theorem sGridOk_v (h : PHeap) (v : Value) (g : Grid) (gb : GridB h v g) : CallV Tryz.prog M 59 [v] h (.bool (gridOk g)) := by
  obtain ⟨c, rfl, s⟩ := gb
  have o1 := s.one
  have hs := s.small
  refine Cs Tryz.func59 Tryz.ntmps59 ?_
  repeat first | refine R1 ?_ | refine R2 fun _ => ?_
  refine Xv (l6In_v _ _ _ _) ?_
  repeat first | refine R1 ?_ | refine R2 fun _ => ?_
  refine f_splitB (fun h1 => ?_) fun h1 => ?_
  · repeat first | refine R1 ?_ | refine R2 fun _ => ?_
    refine sf_T rfl ?_
    repeat first | refine R1 ?_ | refine R2 fun _ => ?_
    refine sf_ret (rV ?_)
    simp [gridOk]; simp at h1; omega
  · have g1 : 1 ≤ g.wide ∧ g.wide ≤ 5 := by simpa using h1
    repeat first | refine R1 ?_ | refine R2 fun _ => ?_
    refine f_split (fun h2 => ?_) fun h2 => ?_
    · repeat first | refine R1 ?_ | refine R2 fun _ => ?_
      refine sf_T rfl ?_
      repeat first | refine R1 ?_ | refine R2 fun _ => ?_
      refine sf_ret (rV ?_)
      simp [gridOk, h2]
    · repeat first | refine R1 ?_ | refine R2 fun _ => ?_
      refine Xv (l6In_v _ _ _ _) ?_
      repeat first | refine R1 ?_ | refine R2 fun _ => ?_
      refine sf_cond (by rfl) (fun h3 => ?_) fun h3 => ?_
      · repeat first | refine R1 ?_ | refine R2 fun _ => ?_
        refine sf_ret (rV ?_)
        simp [gridOk]; simp at h3; omega
      · have g3 : 1 ≤ (g.cells.length : Int) / g.wide ∧ (g.cells.length : Int) / g.wide ≤ 5 := by simpa using h3
        repeat first | refine R1 ?_ | refine R2 fun _ => ?_
        refine sf_rd [1, 2] 3 g.cells.length 0 (fun k => (g.cells.take k).all cellOk = true) (by omega) rfl (fun k hk hi => ?_)
        repeat first | refine R1 ?_ | refine R2 fun _ => ?_
        refine sf_if (fun h4 => ?_) fun h4 => ?_
        · have hk4 : k < g.cells.length := by omega
          repeat first | refine R1 ?_ | refine R2 fun _ => ?_
          refine Xv (sCellOk_v _ (gt g.cells k)) ?_
          repeat first | refine R1 ?_ | refine R2 fun _ => ?_
          refine sf_cond (by rfl) (fun h5 => ?_) fun h5 => ?_
          · repeat first | refine R1 ?_ | refine R2 fun _ => ?_
            refine sf_ret (rV ?_)
            simp only [Bool.not_eq_true'] at h5
            simp [gridOk, all_false hk4 h5]
          · repeat first | refine R1 ?_ | refine R2 fun _ => ?_
            refine ⟨⟨hk4, ?_⟩, rfl, rfl, _, inferInstance⟩
            rw [all_take hk4, hi]; simpa using h5
        · refine sf_exit ?_
          repeat first | refine R1 ?_ | refine R2 fun _ => ?_
          refine sf_ret (rV ?_)
          rw [take_ge hk (by omega)] at hi
          simp [gridOk, hi, g1, g3]; omega
end Go.Proofs.YtekjikbaefgncaaGreatDoor
namespace Go.Proofs.YtekjikbaefgncaaGreatDoor
open Go Go.Sl Go.Sort
set_option maxRecDepth 100000
set_option maxHeartbeats 4000000
attribute [local irreducible] Go.Code.sf sfOps Opq opo retF Do1 anyO
variable {M : Jdg → Prop} [IsCl Tryz.prog M]
theorem isNaN_v (h : PHeap) (x : Int) : CallV Tryz.prog M 315 [.int .i64 x] h (.bool false) := by
  refine Cs Tryz.func315 Tryz.ntmps315 ?_
  refine Wo ?_
  refine sf_ret (rV ?_)
  simp
theorem less_v (h : PHeap) (x y : Int) : CallV Tryz.prog M 305 [.int .i64 x, .int .i64 y] h (.bool (decide (x < y))) := by
  refine Cs Tryz.func305 Tryz.ntmps305 ?_
  refine Wo ?_
  refine Xv (isNaN_v _ _) ?_
  refine Wo ?_
  exact sf_ret (rV rfl)
theorem insertionSort_f (h : PHeap) (v : Value) (A : Own) (d : Array Int) (g : Gr A v 3 intF d.toList) (a b : Nat) (hb : b ≤ d.size) (hs : d.size ≤ 1000000) (ha : a ≤ b) :
    CallF Tryz.prog M 299 [v, .int .i64 (a : Int), .int .i64 (b : Int)] A h fun u A' => u = .tuple #[] ∧ Gr A' v 3 intF (insertionSort ltInt d a b).toList := by
  have o := g.one
  refine Cs Tryz.func299 Tryz.ntmps299 ?_
  refine Wo ?_
  refine sf_lp (ι := Nat × Array Int) [0, 1, 2] (fun x => [(6, .int .i64 (x.1 : Int))]) (fun x O => Gr O v 3 intF x.2.toList ∧ x.2.size = d.size ∧ a + 1 ≤ x.1 ∧ insOuter ltInt a b x.1 x.2 = insertionSort ltInt d a b) (fun x => b - x.1) (a + 1, d) A ⟨g, rfl, by simp only; omega, rfl⟩ ?_
  rintro ⟨i, e⟩ O ⟨ge, hsz, hi, hinv⟩
  simp only at ge hsz hi hinv ⊢
  refine Wo ?_
  refine sf_if (fun h1 => ?_) fun h1 => ?_
  · refine Wo ?_
    refine sf_lp (ι := Nat × Array Int) [0, 1, 2, 6] (fun x => [(7, .int .i64 (x.1 : Int))]) (fun x O => Gr O v 3 intF x.2.toList ∧ x.2.size = d.size ∧ x.1 < b ∧ insInner ltInt a x.1 x.2 = insInner ltInt a i e) (fun x => x.1) (i, e) O ⟨ge, hsz, by simp only; omega, rfl⟩ ?_
    rintro ⟨j, f⟩ O ⟨gf, fsz, hj, finv⟩
    simp only at gf fsz hj finv ⊢
    clear ge
    by_cases h2 : a < j
    · obtain ⟨j, rfl⟩ : ∃ j', j = j' + 1 := ⟨j - 1, by omega⟩
      have h3 : (a : Int) < ((j + 1 : Nat) : Int) := by omega
      have lf : f.toList.length = f.size := by simp
      have q1 : gt f.toList ((j + 1 : Nat) : Int).toNat = f[j + 1]! := gt_arr' (by omega) (by omega)
      have q2 : gt f.toList (((j + 1 : Nat) : Int) - 1).toNat = f[j]! := gt_arr' (by omega) (by omega)
      refine Wo ?_
      refine Sd [[],[],[0,1],[0,1,2],[0,1,2,3],[0,1,2,3],[0,1,2,3,4,5],[0,1,2,3,4,5,6],[0,1,2,3],[0,1,2,3],[0,1,2,3,9],[0,1,2,3,8,9,10],[0,1,2,3,8,9,10,11],[0,1,2,3,4,5,6,7,8,9,10,11,12],[0,1,2,3,4,5,6,7,8,9,10,11,12,13]] 13 [Nn 0,Nn 1,Nn 2,Nn 3,Nn 4,Nn 5,Nn 6,Nn 7,Nn 8,Nn 9,Nn 10,Nn 11,Nn 12] ?_
      refine Di ?_
      refine Ae ?_
      refine Xv (less_v _ _ _) ?_
      refine Wo ?_
      refine sf_if (fun h4 => ?_) fun h4 => ?_
      · refine Wo ?_
        refine sf_draw (by kernel_rfl) (regX_own (O) (regX_split 9 13 (by rfl) ?_ ?_))
        case' refine_1 =>
          refine Sw [[],[],[],[],[3],[],[],[6],[5,6,7],[5,6,7,8],[],[],[10,11],[5,6,7,8,9,10,11,12],[0,1,5,6,7,8,9,10,11,12,13],[0,1,5,6,7,8,9,10,11,12,13,14],[0,1,2,3,4,5,6,7,8,9,10,11,12,13,14,15],[0,1,2,3,4,5,6,7,8,9,10,11,12,13,14,15,16]] 16 [Nn 0,Nn 1,Nn 2,Nn 3,Nn 4,Nn 5,Nn 6,Nn 7,Nn 8,Nn 10,Nn 11,Nn 12,Yy 9,Yy 13,Nn 14,Yy 15] ?_
          refine Di ?_
          refine Yw (by rfl) (z_loadG (by rfl) gf (by omega) (by rfl)) ?_
          refine Di ?_
          refine Yw (by rfl) (z_loadG (by rfl) gf (by omega) (by rfl)) ?_
          refine Di ?_
          refine Yg gf fun As ys hy hl fs gg => ?_
          refine Di ?_
          refine Ae ?_
        case' refine_2 =>
          refine Sw [[],[],[],[],[3],[],[],[6],[5,6,7],[5,6,7,8,10,11,12,13],[],[],[10,11],[10,11,12],[0,1,5,6,7,8,9,10,11,12,13],[0,1,5,6,7,8,9,10,11,12,13,14],[0,1,2,3,4,5,6,7,8,9,10,11,12,13,14,15],[0,1,2,3,4,5,6,7,8,9,10,11,12,13,14,15,16]] 16 [Nn 0,Nn 1,Nn 2,Nn 3,Nn 4,Nn 5,Nn 6,Nn 7,Nn 8,Nn 10,Nn 11,Nn 12,Yy 13,Yy 9,Nn 14,Yy 15] ?_
          refine Di ?_
          refine Yw (by rfl) (z_loadG (by rfl) gf (by omega) (by rfl)) ?_
          refine Di ?_
          refine Yw (by rfl) (z_loadG (by rfl) gf (by omega) (by rfl)) ?_
          refine Di ?_
          refine Yg gf fun As ys hy hl fs gg => ?_
          refine Di ?_
          refine Ae ?_
        all_goals
          refine Wi ?_
          refine Xg gg fun At zs hz hlz fz gz => ?_
          refine Wi ?_
          have hf : zs = (swp f (j + 1) j).toList := swp_is hy hz (by omega) (by omega) (by omega) (by omega) (by omega) (by omega)
          rw [hf] at gz
          exact ⟨(j, swp f (j + 1) j), by simp only; omega, ⟨vI (by omega), trivial⟩, rfl, _, _, inferInstance, gz, by simp only [swp_size]; exact fsz, by simp only; omega, by simp only; rw [← finv, insInner_go h2 (by rw [← q1, ← q2]; exact h4)]⟩
      · refine sf_exit ?_
        refine Wo ?_
        exact ⟨(i + 1, f), by simp only; omega, ⟨rfl, trivial⟩, rfl, _, _, inferInstance, gf, fsz, by simp only; omega, by simp only; rw [← hinv, insOuter_go (i := i) (d := e) (by omega), ← finv, insInner_stop (by rw [← q1, ← q2]; exact h4)]⟩
    · have h3 : ¬ (a : Int) < (j : Int) := by omega
      refine Wo ?_
      refine Sd [[],[],[0,1],[0,1,2],[0,1,2,3],[0,1,2,3],[0,1,2,3,4,5],[0,1,2,3,4,5,6],[0,1,2,3],[0,1,2,3],[0,1,2,3,9],[0,1,2,3,8,9,10],[0,1,2,3,8,9,10,11],[0,1,2,3,4,5,6,7,8,9,10,11,12],[0,1,2,3,4,5,6,7,8,9,10,11,12,13]] 13 [Nn 0,Nn 1,Nn 2,Nn 3,Nn 4,Nn 5,Nn 6,Nn 7,Nn 8,Nn 9,Nn 10,Nn 11,Nn 12] ?_
      refine Di ?_
      refine Ae ?_
      refine Wo ?_
      refine sf_cond (by rfl) (fun e => by cases e) fun z1 => ?_
      clear z1
      refine sf_exit ?_
      refine Wo ?_
      exact ⟨(i + 1, f), by simp only; omega, ⟨rfl, trivial⟩, rfl, _, _, inferInstance, gf, fsz, by simp only; omega, by simp only; rw [← hinv, insOuter_go (i := i) (d := e) (by omega), ← finv, insInner_no h2]⟩
  · refine sf_exit ?_
    refine Wo ?_
    refine nO O ⟨rfl, ?_⟩
    rw [← hinv, insOuter_end (by omega)]
    exact ge
theorem siftDown_f (h : PHeap) (v : Value) (A : Own) (d : Array Int) (g : Gr A v 3 intF d.toList) (lo hi first : Nat) (hb : first + hi ≤ d.size) (hs : d.size ≤ 1000000) (hl : lo ≤ 1000000) :
    CallF Tryz.prog M 310 [v, .int .i64 (lo : Int), .int .i64 (hi : Int), .int .i64 (first : Int)] A h fun u A' => u = .tuple #[] ∧ Gr A' v 3 intF (siftDown ltInt hi first lo d).toList := by
  have o := g.one
  refine Cs Tryz.func310 Tryz.ntmps310 ?_
  refine Wo ?_
  refine sf_lp (ι := Nat × Array Int) [0, 2, 3] (fun x => [(8, .int .i64 (x.1 : Int))]) (fun x O => Gr O v 3 intF x.2.toList ∧ x.2.size = d.size ∧ x.1 ≤ 1000000 ∧ siftDown ltInt hi first x.1 x.2 = siftDown ltInt hi first lo d) (fun x => hi - x.1) (lo, d) A ⟨g, rfl, hl, rfl⟩ ?_
  rintro ⟨r, f⟩ O ⟨gf, fsz, hr, finv⟩
  simp only at gf fsz hr finv ⊢
  have lf : f.toList.length = f.size := by simp
  refine Wo ?_
  refine sf_if (fun h1 => ?_) fun h1 => ?_
  · refine sf_exit ?_
    refine Wo ?_
    refine nO O ⟨rfl, ?_⟩
    rw [← finv, siftDown, dif_pos (by omega)]
    exact gf
  refine Wo ?_
  have q1 : 2 * r + 1 < hi := by omega
  have w1 : gt f.toList ((first : Int) + (2 * (r : Int) + 1)).toNat = f[first + (2 * r + 1)]! := gt_arr' (by omega) (by omega)
  obtain ⟨c, hc⟩ := child_is hi first r f
  have cb : c < hi := by rcases hc with ⟨⟨_, _⟩, rfl⟩ | ⟨_, rfl⟩ <;> omega
  have cr : r < c := by rcases hc with ⟨⟨_, _⟩, rfl⟩ | ⟨_, rfl⟩ <;> omega
  have hstep := siftDown_step q1 hc
  apply viaT
  · intro tail
    by_cases hA : 2 * (r : Int) + 1 + 1 < (hi : Int)
    · have w2 : gt f.toList ((first : Int) + (2 * (r : Int) + 1) + 1).toNat = f[first + (2 * r + 2)]! := gt_arr' (by omega) (by omega)
      refine Sd [[],[0],[],[0,1,2],[0,1,2,3],[0,1,2,3,4],[0,1,2,3,4],[0,1,2,3,4],[0,1,2,3,4,6,7],[0,1,2,3,4,5,6,7,8],[0,1,2,3,4,5,6,7,8,9],[0,1,2,3,4],[0,1,2,3,4],[0,1,2,3,4],[0,1,2,3,4,12,13],[0,1,2,3,4,12,13,14],[0,1,2,3,4,11,12,13,14,15],[0,1,2,3,4,11,12,13,14,15,16],[0,1,2,3,4,5,6,7,8,9,10,11,12,13,14,15,16,17],[0,1,2,3,4,5,6,7,8,9,10,11,12,13,14,15,16,17,18]] 18 [Nn 0,Nn 1,Nn 2,Nn 3,Nn 4,Nn 5,Nn 6,Nn 7,Nn 8,Nn 9,Nn 10,Nn 11,Nn 12,Nn 13,Nn 14,Nn 15,Nn 16,Nn 17] ?_
      refine Di ?_
      refine Ae ?_
      refine Xv (less_v _ _ _) ?_
      refine Wo ?_
      rw [w1, w2]
      rcases hc with ⟨⟨_, hB⟩, hc⟩ | ⟨hB, hc⟩
      · refine sf_T (decide_eq_true hB) ?_
        refine Wo ?_
        rw [show 2 * (r : Int) + 1 + 1 = (c : Int) by omega]
        refine sf_keep [0, 2, 3, 8, 9] ?_
        exact tail.out
      · refine sf_N (decide_eq_false fun h => hB ⟨by omega, h⟩) ?_
        refine Wo ?_
        rw [show 2 * (r : Int) + 1 = (c : Int) by omega]
        refine sf_keep [0, 2, 3, 8, 9] ?_
        exact tail.out
    · refine Sd [[],[0],[],[0,1,2],[0,1,2,3],[0,1,2,3,4],[0,1,2,3,4],[0,1,2,3,4],[0,1,2,3,4,6,7],[0,1,2,3,4,5,6,7,8],[0,1,2,3,4,5,6,7,8,9],[0,1,2,3,4],[0,1,2,3,4],[0,1,2,3,4],[0,1,2,3,4,12,13],[0,1,2,3,4,12,13,14],[0,1,2,3,4,11,12,13,14,15],[0,1,2,3,4,11,12,13,14,15,16],[0,1,2,3,4,5,6,7,8,9,10,11,12,13,14,15,16,17],[0,1,2,3,4,5,6,7,8,9,10,11,12,13,14,15,16,17,18]] 18 [Nn 0,Nn 1,Nn 2,Nn 3,Nn 4,Nn 5,Nn 6,Nn 7,Nn 8,Nn 9,Nn 10,Nn 11,Nn 12,Nn 13,Nn 14,Nn 15,Nn 16,Nn 17] ?_
      refine Di ?_
      refine Ae ?_
      refine Wo ?_
      refine sf_cond (by rfl) (fun e => by cases e) fun z1 => ?_
      clear z1
      refine Wo ?_
      rw [show 2 * (r : Int) + 1 = (c : Int) by rcases hc with ⟨⟨_, _⟩, rfl⟩ | ⟨_, rfl⟩ <;> omega]
      refine sf_keep [0, 2, 3, 8, 9] ?_
      exact tail.out
  refine Wo ?_
  have v1 : gt f.toList (first + r) = f[first + r]! := gt_arr (by omega)
  have v2 : gt f.toList (first + c) = f[first + c]! := gt_arr (by omega)
  refine Sd [[],[],[],[1,2],[0,1,2,3],[0,1,2,3,4],[],[],[],[7,8],[6,7,8,9],[6,7,8,9,10],[0,1,2,3,4,5,6,7,8,9,10,11],[0,1,2,3,4,5,6,7,8,9,10,11,12]] 12 [Nn 0,Nn 1,Nn 2,Nn 3,Nn 4,Nn 5,Nn 6,Nn 7,Nn 8,Nn 9,Nn 10,Nn 11] ?_
  refine Di ?_
  refine Ae ?_
  refine Xv (less_v _ _ _) ?_
  refine Wo ?_
  rw [v1, v2]
  refine sf_ifn (fun h4 => ?_) fun h4 => ?_
  · refine Wo ?_
    refine sf_ret (rO O ⟨rfl, ?_⟩)
    rw [← finv, hstep, if_neg h4]
    exact gf
  rw [if_pos h4] at hstep
  refine Wo ?_
  refine sf_draw (by kernel_rfl) (regX_own (O) (regX_split 13 19 (by rfl) ?_ ?_))
  case' refine_1 =>
    refine Sw [[],[],[],[1,2],[],[],[],[5,6],[],[],[],[9,10],[8,9,10,11],[8,9,10,11,12],[],[],[],[15,16],[14,15,16,17],[8,9,10,11,12,13,14,15,16,17,18],[0,1,2,3,8,9,10,11,12,13,14,15,16,17,18,19],[0,1,2,3,8,9,10,11,12,13,14,15,16,17,18,19,20],[0,1,2,3,4,5,6,7,8,9,10,11,12,13,14,15,16,17,18,19,20,21],[0,1,2,3,4,5,6,7,8,9,10,11,12,13,14,15,16,17,18,19,20,21,22]] 22 [Nn 0,Nn 1,Nn 2,Nn 3,Nn 4,Nn 5,Nn 6,Nn 7,Nn 8,Nn 9,Nn 10,Nn 11,Nn 12,Nn 14,Nn 15,Nn 16,Nn 17,Nn 18,Yy 13,Yy 19,Nn 20,Yy 21] ?_
    refine Di ?_
    refine Yw (by rfl) (z_loadG (by rfl) gf (by omega) (by rfl)) ?_
    refine Di ?_
    refine Yw (by rfl) (z_loadG (by rfl) gf (by omega) (by rfl)) ?_
    refine Di ?_
    refine Yg gf fun As ys hy hl fs gg => ?_
    refine Di ?_
    refine Ae ?_
  case' refine_2 =>
    refine Sw [[],[],[],[1,2],[],[],[],[5,6],[],[],[],[9,10],[8,9,10,11],[8,9,10,11,12,14,15,16,17,18,19],[],[],[],[15,16],[14,15,16,17],[14,15,16,17,18],[0,1,2,3,8,9,10,11,12,13,14,15,16,17,18,19],[0,1,2,3,8,9,10,11,12,13,14,15,16,17,18,19,20],[0,1,2,3,4,5,6,7,8,9,10,11,12,13,14,15,16,17,18,19,20,21],[0,1,2,3,4,5,6,7,8,9,10,11,12,13,14,15,16,17,18,19,20,21,22]] 22 [Nn 0,Nn 1,Nn 2,Nn 3,Nn 4,Nn 5,Nn 6,Nn 7,Nn 8,Nn 9,Nn 10,Nn 11,Nn 12,Nn 14,Nn 15,Nn 16,Nn 17,Nn 18,Yy 19,Yy 13,Nn 20,Yy 21] ?_
    refine Di ?_
    refine Yw (by rfl) (z_loadG (by rfl) gf (by omega) (by rfl)) ?_
    refine Di ?_
    refine Yw (by rfl) (z_loadG (by rfl) gf (by omega) (by rfl)) ?_
    refine Di ?_
    refine Yg gf fun As ys hy hl fs gg => ?_
    refine Di ?_
    refine Ae ?_
  all_goals
    refine Wi ?_
    refine Xg gg fun At zs hz hlz fz gz => ?_
    refine Wi ?_
    have hf : zs = (swp f (first + r) (first + c)).toList := swp_is hy hz (by omega) (by omega) (by omega) (by omega) (by omega) (by omega)
    rw [hf] at gz
    exact ⟨(c, swp f (first + r) (first + c)), by simp only; omega, ⟨rfl, trivial⟩, rfl, _, _, inferInstance, gz, by simp only [swp_size]; exact fsz, by simp only; omega, by simp only; rw [← finv, hstep]⟩
theorem heapSort_f (h : PHeap) (v : Value) (A : Own) (d : Array Int) (g : Gr A v 3 intF d.toList) (a b : Nat) (hb : b ≤ d.size) (hs : d.size ≤ 1000000) (hab : a < b) :
    CallF Tryz.prog M 300 [v, .int .i64 (a : Int), .int .i64 (b : Int)] A h fun u A' => u = .tuple #[] ∧ Gr A' v 3 intF (heapSort ltInt d a b).toList := by
  have o := g.one
  obtain ⟨n, rfl⟩ : ∃ n : Nat, b = a + n := ⟨b - a, by omega⟩
  refine Cs Tryz.func300 Tryz.ntmps300 ?_
  refine Wo ?_
  have e0 : ((a + n : Nat) : Int) - (a : Int) = (n : Int) := by omega
  rw [e0]
  rw [show ((n : Int) - 1) / 2 = (((n - 1) / 2 + 1 : Nat) : Int) - 1 by omega]
  have hsort : heapSort ltInt d a (a + n) = heapPop ltInt a n (heapBuild ltInt n a ((n - 1) / 2 + 1) d) := by
    unfold heapSort; rw [show a + n - a = n by omega]
  refine sf_lp (ι := Nat × Array Int) [0, 6, 7, 8] (fun x => [(9, .int .i64 ((x.1 : Int) - 1))]) (fun x O => Gr O v 3 intF x.2.toList ∧ x.2.size = d.size ∧ x.1 ≤ n + 1 ∧ heapBuild ltInt n a x.1 x.2 = heapBuild ltInt n a ((n - 1) / 2 + 1) d) (fun x => x.1) ((n - 1) / 2 + 1, d) A ⟨g, rfl, by simp only; omega, rfl⟩ ?_
  rintro ⟨k, f⟩ O ⟨gf, fsz, hk, finv⟩
  simp only at gf fsz hk finv ⊢
  refine Wo ?_
  refine sf_if (fun h1 => ?_) fun h1 => ?_
  · obtain ⟨k, rfl⟩ : ∃ k', k = k' + 1 := ⟨k - 1, by omega⟩
    rw [show (((k + 1 : Nat) : Int) - 1) = (k : Int) by omega]
    refine Wo ?_
    refine fp (y_call (siftDown_f (M := M) _ v O f gf k n a (by omega) (by omega) (by omega)) (by rfl) ?_)
    rintro _ A1 ⟨rfl, g1⟩
    refine Wo ?_
    exact ⟨(k, _), by simp only; omega, ⟨rfl, trivial⟩, rfl, A1, _, inferInstance, g1, by simp only [siftDown_size]; exact fsz, by simp only; omega, by simp only; rw [← finv]; rfl⟩
  · refine sf_exit ?_
    obtain rfl : k = 0 := by omega
    rw [← finv] at hsort
    clear finv
    refine Wo ?_
    refine sf_lp (ι := Nat × Array Int) [0, 6, 7] (fun x => [(10, .int .i64 ((x.1 : Int) - 1))]) (fun x O => Gr O v 3 intF x.2.toList ∧ x.2.size = d.size ∧ x.1 ≤ n ∧ heapPop ltInt a x.1 x.2 = heapSort ltInt d a (a + n)) (fun x => x.1) (n, f) O ⟨gf, fsz, by simp only; omega, hsort.symm⟩ ?_
    rintro ⟨k, f⟩ O ⟨gf, fsz, hk, finv⟩
    simp only at gf fsz hk finv ⊢
    have lf : f.toList.length = f.size := by simp
    refine Wo ?_
    refine sf_if (fun h1 => ?_) fun h1 => ?_
    · obtain ⟨k, rfl⟩ : ∃ k', k = k' + 1 := ⟨k - 1, by omega⟩
      rw [show (((k + 1 : Nat) : Int) - 1) = (k : Int) by omega]
      refine Wo ?_
      refine sf_draw (by kernel_rfl) (regX_own (O) (regX_split 11 15 (by rfl) ?_ ?_))
      case' refine_1 =>
        refine Sw [[],[],[],[],[],[3,4],[],[],[],[7,8],[6,7,8,9],[6,7,8,9,10],[],[],[12,13],[6,7,8,9,10,11,12,13,14],[0,1,6,7,8,9,10,11,12,13,14,15],[0,1,6,7,8,9,10,11,12,13,14,15,16],[0,1,2,3,4,5,6,7,8,9,10,11,12,13,14,15,16,17],[0,1,2,3,4,5,6,7,8,9,10,11,12,13,14,15,16,17,18]] 18 [Nn 0,Nn 1,Nn 2,Nn 3,Nn 4,Nn 5,Nn 6,Nn 7,Nn 8,Nn 9,Nn 10,Nn 12,Nn 13,Nn 14,Yy 11,Yy 15,Nn 16,Yy 17] ?_
        refine Di ?_
        refine Yw (by rfl) (z_loadG (by rfl) gf (by omega) (by rfl)) ?_
        refine Di ?_
        refine Yw (by rfl) (z_loadG (by rfl) gf (by omega) (by rfl)) ?_
        refine Di ?_
        refine Yg gf fun As ys hy hl fs gg => ?_
        refine Di ?_
        refine Ae ?_
      case' refine_2 =>
        refine Sw [[],[],[],[],[],[3,4],[],[],[],[7,8],[6,7,8,9],[6,7,8,9,10,12,13,14,15],[],[],[12,13],[12,13,14],[0,1,6,7,8,9,10,11,12,13,14,15],[0,1,6,7,8,9,10,11,12,13,14,15,16],[0,1,2,3,4,5,6,7,8,9,10,11,12,13,14,15,16,17],[0,1,2,3,4,5,6,7,8,9,10,11,12,13,14,15,16,17,18]] 18 [Nn 0,Nn 1,Nn 2,Nn 3,Nn 4,Nn 5,Nn 6,Nn 7,Nn 8,Nn 9,Nn 10,Nn 12,Nn 13,Nn 14,Yy 15,Yy 11,Nn 16,Yy 17] ?_
        refine Di ?_
        refine Yw (by rfl) (z_loadG (by rfl) gf (by omega) (by rfl)) ?_
        refine Di ?_
        refine Yw (by rfl) (z_loadG (by rfl) gf (by omega) (by rfl)) ?_
        refine Di ?_
        refine Yg gf fun As ys hy hl fs gg => ?_
        refine Di ?_
        refine Ae ?_
      all_goals
        refine Wi ?_
        refine Xg gg fun At zs hz hlz fz gz => ?_
        refine Wi ?_
        have hf : zs = (swp f a (a + k)).toList := swp_is hy hz (by omega) (by omega) (by omega) (by omega) (by omega) (by omega)
        rw [hf] at gz
        refine fp (y_call (siftDown_f (M := M) _ v At (swp f a (a + k)) gz 0 k a (by rw [swp_size]; omega) (by rw [swp_size]; omega) (by omega)) (by rfl) ?_)
        rintro _ A1 ⟨rfl, g1⟩
        refine Wo ?_
        exact ⟨(k, _), by simp only; omega, ⟨rfl, trivial⟩, rfl, A1, _, inferInstance, g1, by simp only [siftDown_size, swp_size]; exact fsz, by simp only; omega, by simp only; rw [← finv]; rfl⟩
    · refine sf_exit ?_
      obtain rfl : k = 0 := by omega
      refine Wo ?_
      refine nO O ⟨rfl, ?_⟩
      rw [← finv]
      exact gf
theorem reverseRange_f (h : PHeap) (v : Value) (A : Own) (d : Array Int) (g : Gr A v 3 intF d.toList) (a b : Nat) (hb : b ≤ d.size) (hs : d.size ≤ 1000000) (hab : a < b) :
    CallF Tryz.prog M 303 [v, .int .i64 (a : Int), .int .i64 (b : Int)] A h fun u A' => u = .tuple #[] ∧ Gr A' v 3 intF (reverseRange d a b).toList := by
  have o := g.one
  obtain ⟨n, rfl⟩ : ∃ n : Nat, b = n + 1 := ⟨b - 1, by omega⟩
  refine Cs Tryz.func303 Tryz.ntmps303 ?_
  refine Wo ?_
  rw [show (((n + 1 : Nat) : Int) - 1) = (n : Int) by omega]
  refine sf_lp (ι := Nat × Nat × Array Int) [0] (fun x => [(6, .int .i64 (x.1 : Int)), (7, .int .i64 (x.2.1 : Int))]) (fun x O => Gr O v 3 intF x.2.2.toList ∧ x.2.2.size = d.size ∧ x.2.1 ≤ n ∧ reverseLoop x.1 x.2.1 x.2.2 = reverseRange d a (n + 1)) (fun x => x.2.1) (a, n, d) A ⟨g, rfl, by simp only; omega, rfl⟩ ?_
  rintro ⟨i, j, f⟩ O ⟨gf, fsz, hk, finv⟩
  simp only at gf fsz hk finv ⊢
  have lf : f.toList.length = f.size := by simp
  refine Wo ?_
  refine sf_if (fun h1 => ?_) fun h1 => ?_
  · have hst : reverseLoop i j f = reverseLoop (i + 1) (j - 1) (swp f i j) := by rw [reverseLoop, if_pos (by omega)]
    obtain ⟨j, rfl⟩ : ∃ k', j = k' + 1 := ⟨j - 1, by omega⟩
    refine Wo ?_
    refine sf_draw (by kernel_rfl) (regX_own (O) (regX_split 7 11 (by rfl) ?_ ?_))
    case' refine_1 =>
      refine Sw [[],[],[],[],[],[],[4,5],[4,5,6],[],[],[8,9],[4,5,6,7,8,9,10],[0,1,4,5,6,7,8,9,10,11],[0,1,4,5,6,7,8,9,10,11,12],[0,1,2,3,4,5,6,7,8,9,10,11,12,13],[0,1,2,3,4,5,6,7,8,9,10,11,12,13,14]] 14 [Nn 0,Nn 1,Nn 2,Nn 3,Nn 4,Nn 5,Nn 6,Nn 8,Nn 9,Nn 10,Yy 7,Yy 11,Nn 12,Yy 13] ?_
      refine Di ?_
      refine Yw (by rfl) (z_loadG (by rfl) gf (by omega) (by rfl)) ?_
      refine Di ?_
      refine Yw (by rfl) (z_loadG (by rfl) gf (by omega) (by rfl)) ?_
      refine Di ?_
      refine Yg gf fun As ys hy hl fs gg => ?_
      refine Di ?_
      refine Ae ?_
    case' refine_2 =>
      refine Sw [[],[],[],[],[],[],[4,5],[4,5,6,8,9,10,11],[],[],[8,9],[8,9,10],[0,1,4,5,6,7,8,9,10,11],[0,1,4,5,6,7,8,9,10,11,12],[0,1,2,3,4,5,6,7,8,9,10,11,12,13],[0,1,2,3,4,5,6,7,8,9,10,11,12,13,14]] 14 [Nn 0,Nn 1,Nn 2,Nn 3,Nn 4,Nn 5,Nn 6,Nn 8,Nn 9,Nn 10,Yy 11,Yy 7,Nn 12,Yy 13] ?_
      refine Di ?_
      refine Yw (by rfl) (z_loadG (by rfl) gf (by omega) (by rfl)) ?_
      refine Di ?_
      refine Yw (by rfl) (z_loadG (by rfl) gf (by omega) (by rfl)) ?_
      refine Di ?_
      refine Yg gf fun As ys hy hl fs gg => ?_
      refine Di ?_
      refine Ae ?_
    all_goals
      refine Wi ?_
      refine Xg gg fun At zs hz hlz fz gz => ?_
      refine Wi ?_
      have hf : zs = (swp f i (j + 1)).toList := swp_is hy hz (by omega) (by omega) (by omega) (by omega) (by omega) (by omega)
      rw [hf] at gz
      exact ⟨(i + 1, j, swp f i (j + 1)), by simp only; omega, ⟨rfl, vI (show ((j + 1 : Nat) : Int) - 1 = (j : Int) by omega), trivial⟩, rfl, _, _, inferInstance, gz, by simp only [swp_size]; exact fsz, by simp only; omega, by simp only; rw [← finv, hst]; rfl⟩
  · refine sf_exit ?_
    refine Wo ?_
    refine nO O ⟨rfl, ?_⟩
    rw [← finv, reverseLoop, if_neg (by omega)]
    exact gf
abbrev swA (bs : Nat) (z : Int) : Own := [(bs, .cells #[.int .i64 z] 3)]
theorem order2_f (h : PHeap) (v : Value) (xs : List Int) (s : Sl h v intF xs) (a b : Nat) (ha : a < xs.length) (hb : b < xs.length) (bs : Nat) (z : Int) (hz : 0 ≤ z ∧ z ≤ 1000) :
    CallF Tryz.prog M 316 [v, .int .i64 (a : Int), .int .i64 (b : Int), .pointer (some ⟨bs, 0, none⟩)] (swA bs z) h fun u A => ∃ (x y : Nat) (z' : Int), u = .tuple #[.int .i64 (x : Int), .int .i64 (y : Int)] ∧ ((x = a ∧ y = b) ∨ (x = b ∧ y = a)) ∧ (0 ≤ z' ∧ z' ≤ z + 1) ∧ A = swA bs z' := by
  have o := s.one
  refine Cs Tryz.func316 Tryz.ntmps316 ?_
  refine Wo ?_
  refine Sd [[],[],[0,1],[0,1,2],[],[],[4,5],[4,5,6],[0,1,2,3,4,5,6,7]] 8 [Nn 0,Nn 1,Nn 2,Nn 3,Nn 4,Nn 5,Nn 6,Nn 7] ?_
  refine Da ?_
  refine Ae ?_
  refine Xv (less_v _ _ _) ?_
  refine Wo ?_
  refine sf_if (fun h1 => ?_) fun h1 => ?_
  · refine Wo ?_
    exact sf_ret (rO _ ⟨b, a, z + 1, rfl, .inr ⟨rfl, rfl⟩, by omega, rfl⟩)
  · refine Wo ?_
    exact sf_ret (rO _ ⟨a, b, z, rfl, .inl ⟨rfl, rfl⟩, by omega, rfl⟩)
theorem median_f (h : PHeap) (v : Value) (xs : List Int) (s : Sl h v intF xs) (a b c : Nat) (ha : a < xs.length) (hb : b < xs.length) (hc : c < xs.length) (bs : Nat) (z : Int) (hz : 0 ≤ z ∧ z ≤ 900) :
    CallF Tryz.prog M 314 [v, .int .i64 (a : Int), .int .i64 (b : Int), .int .i64 (c : Int), .pointer (some ⟨bs, 0, none⟩)] (swA bs z) h fun u A => ∃ (x : Nat) (z' : Int), u = .int .i64 (x : Int) ∧ (x = a ∨ x = b ∨ x = c) ∧ (0 ≤ z' ∧ z' ≤ z + 3) ∧ A = swA bs z' := by
  have o := s.one
  refine Cs Tryz.func314 Tryz.ntmps314 ?_
  refine Wo ?_
  refine fp (y_call (order2_f (M := M) _ v xs s a b ha hb bs z (by omega)) (by rfl) ?_)
  rintro _ _ ⟨x1, y1, z1, rfl, h1, hz1, rfl⟩
  refine Wo ?_
  refine fp (y_call (order2_f (M := M) _ v xs s y1 c (by omega) hc bs z1 (by omega)) (by rfl) ?_)
  rintro _ _ ⟨x2, y2, z2, rfl, h2, hz2, rfl⟩
  refine Wo ?_
  refine fp (y_call (order2_f (M := M) _ v xs s x1 x2 (by omega) (by omega) bs z2 (by omega)) (by rfl) ?_)
  rintro _ _ ⟨x3, y3, z3, rfl, h3, hz3, rfl⟩
  refine Wo ?_
  exact sf_ret (rO _ ⟨y3, z3, rfl, by omega, by omega, rfl⟩)
theorem medianAdjacent_f (h : PHeap) (v : Value) (xs : List Int) (s : Sl h v intF xs) (a : Nat) (ha : 1 ≤ a) (hb : a + 1 < xs.length) (hs : xs.length ≤ 1000000) (bs : Nat) (z : Int) (hz : 0 ≤ z ∧ z ≤ 900) :
    CallF Tryz.prog M 313 [v, .int .i64 (a : Int), .pointer (some ⟨bs, 0, none⟩)] (swA bs z) h fun u A => ∃ (x : Nat) (z' : Int), u = .int .i64 (x : Int) ∧ (a ≤ x + 1 ∧ x ≤ a + 1) ∧ (0 ≤ z' ∧ z' ≤ z + 3) ∧ A = swA bs z' := by
  have o := s.one
  obtain ⟨k, rfl⟩ : ∃ k, a = k + 1 := ⟨a - 1, by omega⟩
  refine Cs Tryz.func313 Tryz.ntmps313 ?_
  refine Wo ?_
  rw [show ((k + 1 : Nat) : Int) - 1 = (k : Int) by omega]
  refine fp (y_call (median_f (M := M) _ v xs s k (k + 1) (k + 1 + 1) (by omega) (by omega) (by omega) bs z (by omega)) (by rfl) ?_)
  rintro _ _ ⟨x1, z1, rfl, h1, hz1, rfl⟩
  refine Wo ?_
  exact sf_ret (rO _ ⟨x1, z1, rfl, by omega, by omega, rfl⟩)
theorem choosePivot_f (h : PHeap) (v : Value) (xs : List Int) (s : Sl h v intF xs) (a b : Nat) (hab : a < b) (hb : b ≤ xs.length) (hs : xs.length ≤ 1000000) :
    CallF Tryz.prog M 302 [v, .int .i64 (a : Int), .int .i64 (b : Int)] [] h fun u A => ∃ (p : Nat) (z : Int), u = .tuple #[.int .i64 (p : Int), .int .i64 z] ∧ (a ≤ p ∧ p < b) ∧ A = [] := by
  have o := s.one
  obtain ⟨n, rfl⟩ : ∃ n : Nat, b = a + n := ⟨b - a, by omega⟩
  refine Cs Tryz.func302 Tryz.ntmps302 ?_
  repeat first | refine R1 ?_ | refine R2 fun _ => ?_
  have e0 : ((a + n : Nat) : Int) - (a : Int) = (n : Int) := by omega
  rename_i bs
  rw [e0]
  rw [show (a : Int) + (n : Int) / 4 * 1 = ((a + n / 4 : Nat) : Int) by omega, show (a : Int) + (n : Int) / 4 * 2 = ((a + n / 4 * 2 : Nat) : Int) by omega, show (a : Int) + (n : Int) / 4 * 3 = ((a + n / 4 * 3 : Nat) : Int) by omega]
  apply viaT (G := ∀ (p : Nat) (z : Int), a ≤ p → p < a + n → _)
  · intro tail
    refine sf_if (fun h1 => ?_) fun h1 => ?_
    · repeat first | refine R1 ?_ | refine R2 fun _ => ?_
      apply viaT (G := ∀ (p1 p2 p3 : Nat) (z : Int), (a ≤ p1 ∧ p1 < a + n) → (a ≤ p2 ∧ p2 < a + n) → (a ≤ p3 ∧ p3 < a + n) → (0 ≤ z ∧ z ≤ 9) → _)
      · intro tail2
        refine sf_if (fun h2 => ?_) fun h2 => ?_
        · repeat first | refine R1 ?_ | refine R2 fun _ => ?_
          refine fp (y_call (medianAdjacent_f (M := M) _ v xs s (a + n / 4) (by omega) (by omega) hs bs 0 (by omega)) (by rfl) ?_)
          rintro _ _ ⟨p1, z1, rfl, k1, hz1, rfl⟩
          repeat first | refine R1 ?_ | refine R2 fun _ => ?_
          refine fp (y_call (medianAdjacent_f (M := M) _ v xs s (a + n / 4 * 2) (by omega) (by omega) hs bs z1 (by omega)) (by rfl) ?_)
          rintro _ _ ⟨p2, z2, rfl, k2, hz2, rfl⟩
          repeat first | refine R1 ?_ | refine R2 fun _ => ?_
          refine fp (y_call (medianAdjacent_f (M := M) _ v xs s (a + n / 4 * 3) (by omega) (by omega) hs bs z2 (by omega)) (by rfl) ?_)
          rintro _ _ ⟨p3, z3, rfl, k3, hz3, rfl⟩
          repeat first | refine R1 ?_ | refine R2 fun _ => ?_
          refine fops_keep [9, 44, 45, 46, 47] ?_
          refine fops_own (swA bs z3) ?_
          exact tail2.out p1 p2 p3 z3 (by omega) (by omega) (by omega) (by omega)
        · repeat first | refine R1 ?_ | refine R2 fun _ => ?_
          refine fops_keep [9, 44, 45, 46, 47] ?_
          refine fops_own (swA bs 0) ?_
          exact tail2.out (a + n / 4) (a + n / 4 * 2) (a + n / 4 * 3) 0 (by omega) (by omega) (by omega) (by omega)
      · intro p1 p2 p3 z k1 k2 k3 hz
        refine fp (y_call (median_f (M := M) _ v xs s p1 p2 p3 (by omega) (by omega) (by omega) bs z (by omega)) (by rfl) ?_)
        rintro _ _ ⟨p, z4, rfl, k4, hz4, rfl⟩
        repeat first | refine R1 ?_ | refine R2 fun _ => ?_
        show Code.sf _ _ _ _ _ _ _ _
        refine sf_keep [11, 49, 51] ?_
        refine sf_own (swA bs z4) ?_
        exact tail.out p z4 (by omega) (by omega)
    · repeat first | refine R1 ?_ | refine R2 fun _ => ?_
      show Code.sf _ _ _ _ _ _ _ _
      refine sf_keep [11, 49, 51] ?_
      refine sf_own (swA bs 0) ?_
      exact tail.out (a + n / 4 * 2) 0 (by omega) (by omega)
  · intro p z k1 k2
    refine sf_if (fun h1 => ?_) fun h1 => ?_
    · repeat first | refine R1 ?_ | refine R2 fun _ => ?_
      exact sf_ret (rO [] ⟨p, 1, rfl, by omega, rfl⟩)
    · repeat first | refine R1 ?_ | refine R2 fun _ => ?_
      refine sf_if (fun h1 => ?_) fun h1 => ?_
      · repeat first | refine R1 ?_ | refine R2 fun _ => ?_
        exact sf_ret (rO [] ⟨p, 2, rfl, by omega, rfl⟩)
      · repeat first | refine R1 ?_ | refine R2 fun _ => ?_
        exact sf_ret (rO [] ⟨p, 0, rfl, by omega, rfl⟩)
theorem partition_f (h : PHeap) (v : Value) (A : Own) (d : Array Int) (g : Gr A v 3 intF d.toList) (a b p : Nat) (hb : b ≤ d.size) (hs : d.size ≤ 1000000) (hab : a < b) (hp : a ≤ p ∧ p < b) :
    CallF Tryz.prog M 307 [v, .int .i64 (a : Int), .int .i64 (b : Int), .int .i64 (p : Int)] A h fun u A' => u = .tuple #[.int .i64 ((Sort.partition ltInt d a b p).1 : Int), .bool (Sort.partition ltInt d a b p).2.1] ∧ Gr A' v 3 intF (Sort.partition ltInt d a b p).2.2.toList := by
  have o := g.one
  have ld : d.toList.length = d.size := by simp
  obtain ⟨n, rfl⟩ : ∃ n : Nat, b = n + 1 := ⟨b - 1, by omega⟩
  refine Cs Tryz.func307 Tryz.ntmps307 ?_
  refine Wo ?_
  apply viaT (G := ∀ (B : Own), Gr B v 3 intF (swp d a p).toList → _)
  · intro tail
    refine sf_draw (by kernel_rfl) (regX_own (A) (regX_split 7 11 (by rfl) ?_ ?_))
    case' refine_1 =>
      refine Sw [[],[],[],[],[],[],[4,5],[4,5,6],[],[],[8,9],[4,5,6,7,8,9,10],[0,1,4,5,6,7,8,9,10,11],[0,1,4,5,6,7,8,9,10,11,12],[0,1,2,3,4,5,6,7,8,9,10,11,12,13],[0,1,2,3,4,5,6,7,8,9,10,11,12,13,14]] 14 [Nn 0,Nn 1,Nn 2,Nn 3,Nn 4,Nn 5,Nn 6,Nn 8,Nn 9,Nn 10,Yy 7,Yy 11,Nn 12,Yy 13] ?_
      refine Di ?_
      refine Yw (by rfl) (z_loadG (by rfl) g (by omega) (by rfl)) ?_
      refine Di ?_
      refine Yw (by rfl) (z_loadG (by rfl) g (by omega) (by rfl)) ?_
      refine Di ?_
      refine Yg g fun As ys hy hl fs gg => ?_
      refine Di ?_
      refine Ae ?_
    case' refine_2 =>
      refine Sw [[],[],[],[],[],[],[4,5],[4,5,6,8,9,10,11],[],[],[8,9],[8,9,10],[0,1,4,5,6,7,8,9,10,11],[0,1,4,5,6,7,8,9,10,11,12],[0,1,2,3,4,5,6,7,8,9,10,11,12,13],[0,1,2,3,4,5,6,7,8,9,10,11,12,13,14]] 14 [Nn 0,Nn 1,Nn 2,Nn 3,Nn 4,Nn 5,Nn 6,Nn 8,Nn 9,Nn 10,Yy 11,Yy 7,Nn 12,Yy 13] ?_
      refine Di ?_
      refine Yw (by rfl) (z_loadG (by rfl) g (by omega) (by rfl)) ?_
      refine Di ?_
      refine Yw (by rfl) (z_loadG (by rfl) g (by omega) (by rfl)) ?_
      refine Di ?_
      refine Yg g fun As ys hy hl fs gg => ?_
      refine Di ?_
      refine Ae ?_
    all_goals
      refine Wi ?_
      refine Xg gg fun At zs hz hlz fz gz => ?_
      refine Wi ?_
      rw [show (((n + 1 : Nat) : Int) - 1) = (n : Int) by omega]
      have hf : zs = (swp d a p).toList := swp_is hy hz (by omega) (by omega) (by omega) (by omega) (by omega) (by omega)
      rw [hf] at gz
      show Code.sf _ _ _ _ _ _ _ _
      refine sf_keep [0, 1, 10, 11] ?_
      refine sf_own At ?_
      exact tail.out At gz
  intro B ge
  obtain ⟨e, he⟩ : ∃ e, e = swp d a p := ⟨_, rfl⟩
  rw [← he] at ge
  have es : e.size = d.size := by rw [he, swp_size]
  have le : e.toList.length = e.size := by simp
  have ua : gt e.toList a = e[a]! := gt_arr (by omega)
  apply viaT (G := ∀ i : Nat, a + 1 ≤ i → i ≤ n + 2 → scanUp (fun x => ltInt x e[a]!) e n (a + 1) = i → _)
  · intro tail
    refine sf_lp (ι := Nat) [0, 1, 11] (fun x => [(10, .int .i64 (x : Int))]) (fun x O' => O' = B ∧ a + 1 ≤ x ∧ x ≤ n + 2 ∧ scanUp (fun x => ltInt x e[a]!) e n x = scanUp (fun x => ltInt x e[a]!) e n (a + 1)) (fun x => n + 2 - x) (a + 1) B ⟨rfl, by omega, by omega, rfl⟩ ?_
    rintro x _ ⟨rfl, hx0, hx1, hinv⟩
    by_cases h2 : x ≤ n
    · have h3 : (x : Int) ≤ ((n : Nat) : Int) := by omega
      have u1 : gt e.toList x = e[x]! := gt_arr (by omega)
      refine Wo ?_
      refine Sd [[],[],[0,1],[0,1,2],[0,1,2,3],[0,1,2,3],[0,1,2,3,4,5],[0,1,2,3,4,5,6],[0,1,2,3],[0,1,2,3],[0,1,2,3,8,9],[0,1,2,3,8,9,10],[0,1,2,3,4,5,6,7,8,9,10,11],[0,1,2,3,4,5,6,7,8,9,10,11,12]] 12 [Nn 0,Nn 1,Nn 2,Nn 3,Nn 4,Nn 5,Nn 6,Nn 7,Nn 8,Nn 9,Nn 10,Nn 11] ?_
      refine Di ?_
      refine Ae ?_
      refine Xv (less_v _ _ _) ?_
      refine Wo ?_
      rw [u1, ua]
      refine sf_if (fun h4 => ?_) fun h4 => ?_
      · refine Wo ?_
        exact ⟨x + 1, by omega, ⟨rfl, trivial⟩, rfl, _, _, inferInstance, rfl, by omega, by omega, by rw [← hinv]; exact (scanUp_go h2 (by simp only [ltInt_is]; simp [h4])).symm⟩
      · refine sf_exit ?_
        refine Wo ?_
        refine sf_keep [0, 1, 10, 11] ?_
        exact tail.out x (by omega) (by omega) (by rw [← hinv]; exact scanUp_stop (fun h => h4 (by simpa [ltInt_is] using h.2)))
    · have h3 : ¬ (x : Int) ≤ ((n : Nat) : Int) := by omega
      refine Wo ?_
      refine Sd [[],[],[0,1],[0,1,2],[0,1,2,3],[0,1,2,3],[0,1,2,3,4,5],[0,1,2,3,4,5,6],[0,1,2,3],[0,1,2,3],[0,1,2,3,8,9],[0,1,2,3,8,9,10],[0,1,2,3,4,5,6,7,8,9,10,11],[0,1,2,3,4,5,6,7,8,9,10,11,12]] 12 [Nn 0,Nn 1,Nn 2,Nn 3,Nn 4,Nn 5,Nn 6,Nn 7,Nn 8,Nn 9,Nn 10,Nn 11] ?_
      refine Di ?_
      refine Ae ?_
      refine Wo ?_
      refine sf_cond (by rfl) (fun e => by cases e) fun z1 => ?_
      clear z1
      refine sf_exit ?_
      refine Wo ?_
      refine sf_keep [0, 1, 10, 11] ?_
      exact tail.out x (by omega) (by omega) (by rw [← hinv]; exact scanUp_stop (fun h => h2 h.1))
  intro i hi0 hi1 hsu
  apply viaT (G := ∀ j : Nat, i ≤ j + 2 → a ≤ j → j ≤ n → scanDown (fun x => !ltInt x e[a]!) e i n = j → _)
  · intro tail
    refine sf_lp (ι := Nat) [0, 1, 10] (fun x => [(11, .int .i64 (x : Int))]) (fun x O' => O' = B ∧ i ≤ x + 2 ∧ a ≤ x ∧ x ≤ n ∧ scanDown (fun x => !ltInt x e[a]!) e i x = scanDown (fun x => !ltInt x e[a]!) e i (n)) (fun x => x) (n) B ⟨rfl, by omega, by omega, by omega, rfl⟩ ?_
    rintro x _ ⟨rfl, hx0, hx2, hx1, hinv⟩
    by_cases h2 : i ≤ x
    · obtain ⟨y, hy0⟩ : ∃ k, x = k + 1 := ⟨x - 1, by omega⟩
      have h3 : ((i : Nat) : Int) ≤ (x : Int) := by omega
      have u1 : gt e.toList x = e[x]! := gt_arr (by omega)
      refine Wo ?_
      refine Sd [[],[],[0,1],[0,1,2],[0,1,2,3],[0,1,2,3],[0,1,2,3,4,5],[0,1,2,3,4,5,6],[0,1,2,3],[0,1,2,3],[0,1,2,3,8,9],[0,1,2,3,8,9,10],[0,1,2,3,4,5,6,7,8,9,10,11],[0,1,2,3,4,5,6,7,8,9,10,11,12],[0,1,2,3,4,5,6,7,8,9,10,11,12,13]] 12 [Nn 0,Nn 1,Nn 2,Nn 3,Nn 4,Nn 5,Nn 6,Nn 7,Nn 8,Nn 9,Nn 10,Nn 11] ?_
      refine Di ?_
      refine Ae ?_
      refine Xv (less_v _ _ _) ?_
      refine Wo ?_
      rw [u1, ua]
      refine sf_ifn (fun h4 => ?_) fun h4 => ?_
      · refine Wo ?_
        subst hy0
        exact ⟨y, by omega, ⟨vI (show ((y + 1 : Nat) : Int) - 1 = (y : Int) by omega), trivial⟩, rfl, _, _, inferInstance, rfl, by omega, by omega, by omega, by rw [← hinv]; exact (scanDown_go h2 (by simp only [ltInt_is]; simp [h4])).symm⟩
      · refine sf_exit ?_
        refine Wo ?_
        (show Code.sf _ _ _ _ _ _ _ _; refine sf_keep [0, 1, 10, 11, 65] ?_)
        exact tail.out x (by omega) (by omega) (by omega) (by rw [← hinv]; exact scanDown_stop (fun h => absurd h4 (by simpa [ltInt_is] using h.2)))
    · have h3 : ¬ ((i : Nat) : Int) ≤ (x : Int) := by omega
      refine Wo ?_
      refine Sd [[],[],[0,1],[0,1,2],[0,1,2,3],[0,1,2,3],[0,1,2,3,4,5],[0,1,2,3,4,5,6],[0,1,2,3],[0,1,2,3],[0,1,2,3,8,9],[0,1,2,3,8,9,10],[0,1,2,3,4,5,6,7,8,9,10,11],[0,1,2,3,4,5,6,7,8,9,10,11,12],[0,1,2,3,4,5,6,7,8,9,10,11,12,13]] 12 [Nn 0,Nn 1,Nn 2,Nn 3,Nn 4,Nn 5,Nn 6,Nn 7,Nn 8,Nn 9,Nn 10,Nn 11] ?_
      refine Di ?_
      refine Ae ?_
      refine Wo ?_
      refine sf_cond (by rfl) (fun e => by cases e) fun z1 => ?_
      clear z1
      refine sf_exit ?_
      refine Wo ?_
      (show Code.sf _ _ _ _ _ _ _ _; refine sf_keep [0, 1, 10, 11, 65] ?_)
      exact tail.out x (by omega) (by omega) (by omega) (by rw [← hinv]; exact scanDown_stop (fun h => h2 h.1))
  intro j hj0 hj1 hj2 hsd
  refine sf_if (fun h1 => ?_) fun h1 => ?_
  · have hP := partition_A (b := n + 1) he hsu hsd (by omega)
    rw [hP]
    refine Wo ?_
    refine sf_draw (by kernel_rfl) (regX_own (B) (regX_split 7 11 (by rfl) ?_ ?_))
    case' refine_1 =>
      refine Sw [[],[],[],[],[],[],[4,5],[4,5,6],[],[],[8,9],[4,5,6,7,8,9,10],[0,1,4,5,6,7,8,9,10,11],[0,1,4,5,6,7,8,9,10,11,12],[0,1,2,3,4,5,6,7,8,9,10,11,12,13],[0,1,2,3,4,5,6,7,8,9,10,11,12,13,14]] 14 [Nn 0,Nn 1,Nn 2,Nn 3,Nn 4,Nn 5,Nn 6,Nn 8,Nn 9,Nn 10,Yy 7,Yy 11,Nn 12,Yy 13] ?_
      refine Di ?_
      refine Yw (by rfl) (z_loadG (by rfl) ge (by omega) (by rfl)) ?_
      refine Di ?_
      refine Yw (by rfl) (z_loadG (by rfl) ge (by omega) (by rfl)) ?_
      refine Di ?_
      refine Yg ge fun As ys hy hl fs gg => ?_
      refine Di ?_
      refine Ae ?_
    case' refine_2 =>
      refine Sw [[],[],[],[],[],[],[4,5],[4,5,6,8,9,10,11],[],[],[8,9],[8,9,10],[0,1,4,5,6,7,8,9,10,11],[0,1,4,5,6,7,8,9,10,11,12],[0,1,2,3,4,5,6,7,8,9,10,11,12,13],[0,1,2,3,4,5,6,7,8,9,10,11,12,13,14]] 14 [Nn 0,Nn 1,Nn 2,Nn 3,Nn 4,Nn 5,Nn 6,Nn 8,Nn 9,Nn 10,Yy 11,Yy 7,Nn 12,Yy 13] ?_
      refine Di ?_
      refine Yw (by rfl) (z_loadG (by rfl) ge (by omega) (by rfl)) ?_
      refine Di ?_
      refine Yw (by rfl) (z_loadG (by rfl) ge (by omega) (by rfl)) ?_
      refine Di ?_
      refine Yg ge fun As ys hy hl fs gg => ?_
      refine Di ?_
      refine Ae ?_
    all_goals
      refine Wi ?_
      refine Xg gg fun At zs hz hlz fz gz => ?_
      refine Wi ?_
      have hf : zs = (swp e j a).toList := swp_is hy hz (by omega) (by omega) (by omega) (by omega) (by omega) (by omega)
      rw [hf] at gz
      exact sf_ret (rO At ⟨rfl, gz⟩)
  have hB := fun r hr => partition_B (b := n + 1) he hsu hsd (by omega) (r := r) hr
  obtain ⟨j, rfl⟩ : ∃ k, j = k + 1 := ⟨j - 1, by omega⟩
  simp only [Nat.add_sub_cancel] at hB
  refine Wo ?_
  apply viaT (G := ∀ (B2 : Own), Gr B2 v 3 intF (swp e i (j + 1)).toList → _)
  · intro tail
    refine sf_draw (by kernel_rfl) (regX_own (B) (regX_split 7 11 (by rfl) ?_ ?_))
    case' refine_1 =>
      refine Sw [[],[],[],[],[],[],[4,5],[4,5,6],[],[],[8,9],[4,5,6,7,8,9,10],[0,1,4,5,6,7,8,9,10,11],[0,1,4,5,6,7,8,9,10,11,12],[0,1,2,3,4,5,6,7,8,9,10,11,12,13],[0,1,2,3,4,5,6,7,8,9,10,11,12,13,14]] 14 [Nn 0,Nn 1,Nn 2,Nn 3,Nn 4,Nn 5,Nn 6,Nn 8,Nn 9,Nn 10,Yy 7,Yy 11,Nn 12,Yy 13] ?_
      refine Di ?_
      refine Yw (by rfl) (z_loadG (by rfl) ge (by omega) (by rfl)) ?_
      refine Di ?_
      refine Yw (by rfl) (z_loadG (by rfl) ge (by omega) (by rfl)) ?_
      refine Di ?_
      refine Yg ge fun As ys hy hl fs gg => ?_
      refine Di ?_
      refine Ae ?_
    case' refine_2 =>
      refine Sw [[],[],[],[],[],[],[4,5],[4,5,6,8,9,10,11],[],[],[8,9],[8,9,10],[0,1,4,5,6,7,8,9,10,11],[0,1,4,5,6,7,8,9,10,11,12],[0,1,2,3,4,5,6,7,8,9,10,11,12,13],[0,1,2,3,4,5,6,7,8,9,10,11,12,13,14]] 14 [Nn 0,Nn 1,Nn 2,Nn 3,Nn 4,Nn 5,Nn 6,Nn 8,Nn 9,Nn 10,Yy 11,Yy 7,Nn 12,Yy 13] ?_
      refine Di ?_
      refine Yw (by rfl) (z_loadG (by rfl) ge (by omega) (by rfl)) ?_
      refine Di ?_
      refine Yw (by rfl) (z_loadG (by rfl) ge (by omega) (by rfl)) ?_
      refine Di ?_
      refine Yg ge fun As ys hy hl fs gg => ?_
      refine Di ?_
      refine Ae ?_
    all_goals
      refine Wi ?_
      refine Xg gg fun At zs hz hlz fz gz => ?_
      refine Wi ?_
      rw [show (((j + 1 : Nat) : Int) - 1) = (j : Int) by omega]
      have hf : zs = (swp e i (j + 1)).toList := swp_is hy hz (by omega) (by omega) (by omega) (by omega) (by omega) (by omega)
      rw [hf] at gz
      show Code.sf _ _ _ _ _ _ _ _
      refine sf_keep [0, 1, 10, 11] ?_
      refine sf_own At ?_
      exact tail.out At gz
  intro B2 ge2
  obtain ⟨e2, he2⟩ : ∃ e2, e2 = swp e i (j + 1) := ⟨_, rfl⟩
  rw [← he2] at ge2
  have e2s : e2.size = e.size := by rw [he2, swp_size]
  rw [← he2] at hB
  refine sf_lp (ι := Nat × Nat × Array Int) [0, 1] (fun x => [(10, .int .i64 (x.1 : Int)), (11, .int .i64 (x.2.1 : Int))]) (fun x O => Gr O v 3 intF x.2.2.toList ∧ x.2.2.size = d.size ∧ a + 1 ≤ x.1 ∧ x.1 ≤ x.2.1 + 2 ∧ a ≤ x.2.1 ∧ x.2.1 ≤ n ∧ partLoop ltInt a x.1 x.2.1 x.2.2 = partLoop ltInt a (i + 1) j e2) (fun x => x.2.1 + 2 - x.1) (i + 1, j, e2) B2 ⟨ge2, by simp only; omega, by simp only; omega, by simp only; omega, by simp only; omega, by simp only; omega, rfl⟩ ?_
  rintro ⟨i3, j3, f⟩ O3 ⟨gf, fsz, k1, k2, k3, k4, finv⟩
  simp only at gf fsz k1 k2 k3 k4 finv ⊢
  have lf : f.toList.length = f.size := by simp
  have uf : gt f.toList a = f[a]! := gt_arr (by omega)
  refine Wo ?_
  apply viaT (G := ∀ i : Nat, i3 ≤ i → i ≤ j3 + 2 → scanUp (fun x => ltInt x f[a]!) f j3 i3 = i → _)
  · intro tail
    refine sf_lp (ι := Nat) [0, 1, 11] (fun x => [(10, .int .i64 (x : Int))]) (fun x O' => O' = O3 ∧ i3 ≤ x ∧ x ≤ j3 + 2 ∧ scanUp (fun x => ltInt x f[a]!) f j3 x = scanUp (fun x => ltInt x f[a]!) f j3 (i3)) (fun x => j3 + 2 - x) (i3) O3 ⟨rfl, by omega, by omega, rfl⟩ ?_
    rintro x _ ⟨rfl, hx0, hx1, hinv⟩
    by_cases h2 : x ≤ j3
    · have h3 : (x : Int) ≤ ((j3 : Nat) : Int) := by omega
      have u1 : gt f.toList x = f[x]! := gt_arr (by omega)
      refine Wo ?_
      refine Sd [[],[],[0,1],[0,1,2],[0,1,2,3],[0,1,2,3],[0,1,2,3,4,5],[0,1,2,3,4,5,6],[0,1,2,3],[0,1,2,3],[0,1,2,3,8,9],[0,1,2,3,8,9,10],[0,1,2,3,4,5,6,7,8,9,10,11],[0,1,2,3,4,5,6,7,8,9,10,11,12]] 12 [Nn 0,Nn 1,Nn 2,Nn 3,Nn 4,Nn 5,Nn 6,Nn 7,Nn 8,Nn 9,Nn 10,Nn 11] ?_
      refine Di ?_
      refine Ae ?_
      refine Xv (less_v _ _ _) ?_
      refine Wo ?_
      rw [u1, uf]
      refine sf_if (fun h4 => ?_) fun h4 => ?_
      · refine Wo ?_
        exact ⟨x + 1, by omega, ⟨rfl, trivial⟩, rfl, _, _, inferInstance, rfl, by omega, by omega, by rw [← hinv]; exact (scanUp_go h2 (by simp only [ltInt_is]; simp [h4])).symm⟩
      · refine sf_exit ?_
        refine Wo ?_
        refine sf_keep [0, 1, 10, 11] ?_
        exact tail.out x (by omega) (by omega) (by rw [← hinv]; exact scanUp_stop (fun h => h4 (by simpa [ltInt_is] using h.2)))
    · have h3 : ¬ (x : Int) ≤ ((j3 : Nat) : Int) := by omega
      refine Wo ?_
      refine Sd [[],[],[0,1],[0,1,2],[0,1,2,3],[0,1,2,3],[0,1,2,3,4,5],[0,1,2,3,4,5,6],[0,1,2,3],[0,1,2,3],[0,1,2,3,8,9],[0,1,2,3,8,9,10],[0,1,2,3,4,5,6,7,8,9,10,11],[0,1,2,3,4,5,6,7,8,9,10,11,12]] 12 [Nn 0,Nn 1,Nn 2,Nn 3,Nn 4,Nn 5,Nn 6,Nn 7,Nn 8,Nn 9,Nn 10,Nn 11] ?_
      refine Di ?_
      refine Ae ?_
      refine Wo ?_
      refine sf_cond (by rfl) (fun e => by cases e) fun z1 => ?_
      clear z1
      refine sf_exit ?_
      refine Wo ?_
      refine sf_keep [0, 1, 10, 11] ?_
      exact tail.out x (by omega) (by omega) (by rw [← hinv]; exact scanUp_stop (fun h => h2 h.1))
  intro i4 hi4 hi5 hsu4
  apply viaT (G := ∀ j : Nat, i4 ≤ j + 2 → a ≤ j → j ≤ j3 → scanDown (fun x => !ltInt x f[a]!) f i4 j3 = j → _)
  · intro tail
    refine sf_lp (ι := Nat) [0, 1, 10] (fun x => [(11, .int .i64 (x : Int))]) (fun x O' => O' = O3 ∧ i4 ≤ x + 2 ∧ a ≤ x ∧ x ≤ j3 ∧ scanDown (fun x => !ltInt x f[a]!) f i4 x = scanDown (fun x => !ltInt x f[a]!) f i4 (j3)) (fun x => x) (j3) O3 ⟨rfl, by omega, by omega, by omega, rfl⟩ ?_
    rintro x _ ⟨rfl, hx0, hx2, hx1, hinv⟩
    by_cases h2 : i4 ≤ x
    · obtain ⟨y, hy0⟩ : ∃ k, x = k + 1 := ⟨x - 1, by omega⟩
      have h3 : ((i4 : Nat) : Int) ≤ (x : Int) := by omega
      have u1 : gt f.toList x = f[x]! := gt_arr (by omega)
      refine Wo ?_
      refine Sd [[],[],[0,1],[0,1,2],[0,1,2,3],[0,1,2,3],[0,1,2,3,4,5],[0,1,2,3,4,5,6],[0,1,2,3],[0,1,2,3],[0,1,2,3,8,9],[0,1,2,3,8,9,10],[0,1,2,3,4,5,6,7,8,9,10,11],[0,1,2,3,4,5,6,7,8,9,10,11,12],[0,1,2,3,4,5,6,7,8,9,10,11,12,13]] 12 [Nn 0,Nn 1,Nn 2,Nn 3,Nn 4,Nn 5,Nn 6,Nn 7,Nn 8,Nn 9,Nn 10,Nn 11] ?_
      refine Di ?_
      refine Ae ?_
      refine Xv (less_v _ _ _) ?_
      refine Wo ?_
      rw [u1, uf]
      refine sf_ifn (fun h4 => ?_) fun h4 => ?_
      · refine Wo ?_
        subst hy0
        exact ⟨y, by omega, ⟨vI (show ((y + 1 : Nat) : Int) - 1 = (y : Int) by omega), trivial⟩, rfl, _, _, inferInstance, rfl, by omega, by omega, by omega, by rw [← hinv]; exact (scanDown_go h2 (by simp only [ltInt_is]; simp [h4])).symm⟩
      · refine sf_exit ?_
        refine Wo ?_
        (show Code.sf _ _ _ _ _ _ _ _; refine sf_keep [0, 1, 10, 11, 134] ?_)
        exact tail.out x (by omega) (by omega) (by omega) (by rw [← hinv]; exact scanDown_stop (fun h => absurd h4 (by simpa [ltInt_is] using h.2)))
    · have h3 : ¬ ((i4 : Nat) : Int) ≤ (x : Int) := by omega
      refine Wo ?_
      refine Sd [[],[],[0,1],[0,1,2],[0,1,2,3],[0,1,2,3],[0,1,2,3,4,5],[0,1,2,3,4,5,6],[0,1,2,3],[0,1,2,3],[0,1,2,3,8,9],[0,1,2,3,8,9,10],[0,1,2,3,4,5,6,7,8,9,10,11],[0,1,2,3,4,5,6,7,8,9,10,11,12],[0,1,2,3,4,5,6,7,8,9,10,11,12,13]] 12 [Nn 0,Nn 1,Nn 2,Nn 3,Nn 4,Nn 5,Nn 6,Nn 7,Nn 8,Nn 9,Nn 10,Nn 11] ?_
      refine Di ?_
      refine Ae ?_
      refine Wo ?_
      refine sf_cond (by rfl) (fun e => by cases e) fun z1 => ?_
      clear z1
      refine sf_exit ?_
      refine Wo ?_
      (show Code.sf _ _ _ _ _ _ _ _; refine sf_keep [0, 1, 10, 11, 134] ?_)
      exact tail.out x (by omega) (by omega) (by omega) (by rw [← hinv]; exact scanDown_stop (fun h => h2 h.1))
  intro j4 hj4 hj5 hj6 hsd4
  obtain ⟨s1, s2⟩ := partLoop_step hsu4 hsd4 hi4 hj6
  refine sf_if (fun h5 => ?_) fun h5 => ?_
  · refine sf_exit ?_
    have hP := hB _ (finv.symm.trans (s1 (by omega)))
    rw [hP]
    refine Wo ?_
    refine sf_draw (by kernel_rfl) (regX_own (O3) (regX_split 7 11 (by rfl) ?_ ?_))
    case' refine_1 =>
      refine Sw [[],[],[],[],[],[],[4,5],[4,5,6],[],[],[8,9],[4,5,6,7,8,9,10],[0,1,4,5,6,7,8,9,10,11],[0,1,4,5,6,7,8,9,10,11,12],[0,1,2,3,4,5,6,7,8,9,10,11,12,13],[0,1,2,3,4,5,6,7,8,9,10,11,12,13,14]] 14 [Nn 0,Nn 1,Nn 2,Nn 3,Nn 4,Nn 5,Nn 6,Nn 8,Nn 9,Nn 10,Yy 7,Yy 11,Nn 12,Yy 13] ?_
      refine Di ?_
      refine Yw (by rfl) (z_loadG (by rfl) gf (by omega) (by rfl)) ?_
      refine Di ?_
      refine Yw (by rfl) (z_loadG (by rfl) gf (by omega) (by rfl)) ?_
      refine Di ?_
      refine Yg gf fun As ys hy hl fs gg => ?_
      refine Di ?_
      refine Ae ?_
    case' refine_2 =>
      refine Sw [[],[],[],[],[],[],[4,5],[4,5,6,8,9,10,11],[],[],[8,9],[8,9,10],[0,1,4,5,6,7,8,9,10,11],[0,1,4,5,6,7,8,9,10,11,12],[0,1,2,3,4,5,6,7,8,9,10,11,12,13],[0,1,2,3,4,5,6,7,8,9,10,11,12,13,14]] 14 [Nn 0,Nn 1,Nn 2,Nn 3,Nn 4,Nn 5,Nn 6,Nn 8,Nn 9,Nn 10,Yy 11,Yy 7,Nn 12,Yy 13] ?_
      refine Di ?_
      refine Yw (by rfl) (z_loadG (by rfl) gf (by omega) (by rfl)) ?_
      refine Di ?_
      refine Yw (by rfl) (z_loadG (by rfl) gf (by omega) (by rfl)) ?_
      refine Di ?_
      refine Yg gf fun As ys hy hl fs gg => ?_
      refine Di ?_
      refine Ae ?_
    all_goals
      refine Wi ?_
      refine Xg gg fun At zs hz hlz fz gz => ?_
      refine Wi ?_
      have hf : zs = (swp f j4 a).toList := swp_is hy hz (by omega) (by omega) (by omega) (by omega) (by omega) (by omega)
      rw [hf] at gz
      exact sf_ret (rO At ⟨rfl, gz⟩)
  obtain ⟨j4, rfl⟩ : ∃ k, j4 = k + 1 := ⟨j4 - 1, by omega⟩
  have s3 := s2 (by omega) (by omega)
  refine Wo ?_
  refine sf_draw (by kernel_rfl) (regX_own (O3) (regX_split 7 11 (by rfl) ?_ ?_))
  case' refine_1 =>
    refine Sw [[],[],[],[],[],[],[4,5],[4,5,6],[],[],[8,9],[4,5,6,7,8,9,10],[0,1,4,5,6,7,8,9,10,11],[0,1,4,5,6,7,8,9,10,11,12],[0,1,2,3,4,5,6,7,8,9,10,11,12,13],[0,1,2,3,4,5,6,7,8,9,10,11,12,13,14]] 14 [Nn 0,Nn 1,Nn 2,Nn 3,Nn 4,Nn 5,Nn 6,Nn 8,Nn 9,Nn 10,Yy 7,Yy 11,Nn 12,Yy 13] ?_
    refine Di ?_
    refine Yw (by rfl) (z_loadG (by rfl) gf (by omega) (by rfl)) ?_
    refine Di ?_
    refine Yw (by rfl) (z_loadG (by rfl) gf (by omega) (by rfl)) ?_
    refine Di ?_
    refine Yg gf fun As ys hy hl fs gg => ?_
    refine Di ?_
    refine Ae ?_
  case' refine_2 =>
    refine Sw [[],[],[],[],[],[],[4,5],[4,5,6,8,9,10,11],[],[],[8,9],[8,9,10],[0,1,4,5,6,7,8,9,10,11],[0,1,4,5,6,7,8,9,10,11,12],[0,1,2,3,4,5,6,7,8,9,10,11,12,13],[0,1,2,3,4,5,6,7,8,9,10,11,12,13,14]] 14 [Nn 0,Nn 1,Nn 2,Nn 3,Nn 4,Nn 5,Nn 6,Nn 8,Nn 9,Nn 10,Yy 11,Yy 7,Nn 12,Yy 13] ?_
    refine Di ?_
    refine Yw (by rfl) (z_loadG (by rfl) gf (by omega) (by rfl)) ?_
    refine Di ?_
    refine Yw (by rfl) (z_loadG (by rfl) gf (by omega) (by rfl)) ?_
    refine Di ?_
    refine Yg gf fun As ys hy hl fs gg => ?_
    refine Di ?_
    refine Ae ?_
  all_goals
    refine Wi ?_
    refine Xg gg fun At zs hz hlz fz gz => ?_
    refine Wi ?_
    rw [show (((j4 + 1 : Nat) : Int) - 1) = (j4 : Int) by omega]
    have hf : zs = (swp f i4 (j4 + 1)).toList := swp_is hy hz (by omega) (by omega) (by omega) (by omega) (by omega) (by omega)
    rw [hf] at gz
    exact ⟨(i4 + 1, j4, swp f i4 (j4 + 1)), by simp only; omega, ⟨rfl, rfl, trivial⟩, rfl, _, _, inferInstance, gz, by simp only [swp_size]; exact fsz, by simp only; omega, by simp only; omega, by simp only; omega, by simp only; omega, by simp only; rw [← finv, s3]; rfl⟩
theorem partitionEqual_f (h : PHeap) (v : Value) (A : Own) (d : Array Int) (g : Gr A v 3 intF d.toList) (a b p : Nat) (hb : b ≤ d.size) (hs : d.size ≤ 1000000) (hab : a < b) (hp : a ≤ p ∧ p < b) :
    CallF Tryz.prog M 306 [v, .int .i64 (a : Int), .int .i64 (b : Int), .int .i64 (p : Int)] A h fun u A' => u = .int .i64 ((partitionEqual ltInt d a b p).1 : Int) ∧ Gr A' v 3 intF (partitionEqual ltInt d a b p).2.toList := by
  have o := g.one
  have ld : d.toList.length = d.size := by simp
  obtain ⟨n, rfl⟩ : ∃ n : Nat, b = n + 1 := ⟨b - 1, by omega⟩
  refine Cs Tryz.func306 Tryz.ntmps306 ?_
  refine Wo ?_
  apply viaT (G := ∀ (B : Own), Gr B v 3 intF (swp d a p).toList → _)
  · intro tail
    refine sf_draw (by kernel_rfl) (regX_own (A) (regX_split 7 11 (by rfl) ?_ ?_))
    case' refine_1 =>
      refine Sw [[],[],[],[],[],[],[4,5],[4,5,6],[],[],[8,9],[4,5,6,7,8,9,10],[0,1,4,5,6,7,8,9,10,11],[0,1,4,5,6,7,8,9,10,11,12],[0,1,2,3,4,5,6,7,8,9,10,11,12,13],[0,1,2,3,4,5,6,7,8,9,10,11,12,13,14]] 14 [Nn 0,Nn 1,Nn 2,Nn 3,Nn 4,Nn 5,Nn 6,Nn 8,Nn 9,Nn 10,Yy 7,Yy 11,Nn 12,Yy 13] ?_
      refine Di ?_
      refine Yw (by rfl) (z_loadG (by rfl) g (by omega) (by rfl)) ?_
      refine Di ?_
      refine Yw (by rfl) (z_loadG (by rfl) g (by omega) (by rfl)) ?_
      refine Di ?_
      refine Yg g fun As ys hy hl fs gg => ?_
      refine Di ?_
      refine Ae ?_
    case' refine_2 =>
      refine Sw [[],[],[],[],[],[],[4,5],[4,5,6,8,9,10,11],[],[],[8,9],[8,9,10],[0,1,4,5,6,7,8,9,10,11],[0,1,4,5,6,7,8,9,10,11,12],[0,1,2,3,4,5,6,7,8,9,10,11,12,13],[0,1,2,3,4,5,6,7,8,9,10,11,12,13,14]] 14 [Nn 0,Nn 1,Nn 2,Nn 3,Nn 4,Nn 5,Nn 6,Nn 8,Nn 9,Nn 10,Yy 11,Yy 7,Nn 12,Yy 13] ?_
      refine Di ?_
      refine Yw (by rfl) (z_loadG (by rfl) g (by omega) (by rfl)) ?_
      refine Di ?_
      refine Yw (by rfl) (z_loadG (by rfl) g (by omega) (by rfl)) ?_
      refine Di ?_
      refine Yg g fun As ys hy hl fs gg => ?_
      refine Di ?_
      refine Ae ?_
    all_goals
      refine Wi ?_
      refine Xg gg fun At zs hz hlz fz gz => ?_
      refine Wi ?_
      rw [show (((n + 1 : Nat) : Int) - 1) = (n : Int) by omega]
      have hf : zs = (swp d a p).toList := swp_is hy hz (by omega) (by omega) (by omega) (by omega) (by omega) (by omega)
      rw [hf] at gz
      show Code.sf _ _ _ _ _ _ _ _
      refine sf_keep [0, 1, 9, 10] ?_
      refine sf_own At ?_
      exact tail.out At gz
  intro B ge
  obtain ⟨e, he⟩ : ∃ e, e = swp d a p := ⟨_, rfl⟩
  rw [← he] at ge
  have es : e.size = d.size := by rw [he, swp_size]
  have hpe : partitionEqual ltInt d a (n + 1) p = partEqLoop ltInt a (a + 1) n e := by rw [he]; rfl
  rw [hpe]
  refine sf_lp (ι := Nat × Nat × Array Int) [0, 1] (fun x => [(9, .int .i64 (x.1 : Int)), (10, .int .i64 (x.2.1 : Int))]) (fun x O => Gr O v 3 intF x.2.2.toList ∧ x.2.2.size = d.size ∧ a + 1 ≤ x.1 ∧ x.1 ≤ x.2.1 + 2 ∧ a ≤ x.2.1 ∧ x.2.1 ≤ n ∧ partEqLoop ltInt a x.1 x.2.1 x.2.2 = partEqLoop ltInt a (a + 1) n e) (fun x => x.2.1 + 2 - x.1) (a + 1, n, e) B ⟨ge, by simp only; omega, by simp only; omega, by simp only; omega, by simp only; omega, by simp only; omega, rfl⟩ ?_
  rintro ⟨i3, j3, f⟩ O3 ⟨gf, fsz, k1, k2, k3, k4, finv⟩
  simp only at gf fsz k1 k2 k3 k4 finv ⊢
  have lf : f.toList.length = f.size := by simp
  have uf : gt f.toList a = f[a]! := gt_arr (by omega)
  refine Wo ?_
  apply viaT (G := ∀ i : Nat, i3 ≤ i → i ≤ j3 + 2 → scanUp (fun x => !ltInt f[a]! x) f j3 i3 = i → _)
  · intro tail
    refine sf_lp (ι := Nat) [0, 1, 10] (fun x => [(9, .int .i64 (x : Int))]) (fun x O' => O' = O3 ∧ i3 ≤ x ∧ x ≤ j3 + 2 ∧ scanUp (fun x => !ltInt f[a]! x) f j3 x = scanUp (fun x => !ltInt f[a]! x) f j3 (i3)) (fun x => j3 + 2 - x) (i3) O3 ⟨rfl, by omega, by omega, rfl⟩ ?_
    rintro x _ ⟨rfl, hx0, hx1, hinv⟩
    by_cases h2 : x ≤ j3
    · have h3 : (x : Int) ≤ ((j3 : Nat) : Int) := by omega
      have u1 : gt f.toList x = f[x]! := gt_arr (by omega)
      refine Wo ?_
      refine Sd [[],[],[0,1],[0,1,2],[0,1,2,3],[0,1,2,3],[0,1,2,3,4,5],[0,1,2,3,4,5,6],[0,1,2,3],[0,1,2,3],[0,1,2,3,8,9],[0,1,2,3,8,9,10],[0,1,2,3,4,5,6,7,8,9,10,11],[0,1,2,3,4,5,6,7,8,9,10,11,12],[0,1,2,3,4,5,6,7,8,9,10,11,12,13]] 12 [Nn 0,Nn 1,Nn 2,Nn 3,Nn 4,Nn 5,Nn 6,Nn 7,Nn 8,Nn 9,Nn 10,Nn 11] ?_
      refine Di ?_
      refine Ae ?_
      refine Xv (less_v _ _ _) ?_
      refine Wo ?_
      rw [u1, uf]
      refine sf_ifn (fun h4 => ?_) fun h4 => ?_
      · refine Wo ?_
        exact ⟨x + 1, by omega, ⟨rfl, trivial⟩, rfl, _, _, inferInstance, rfl, by omega, by omega, by rw [← hinv]; exact (scanUp_go h2 (by simp only [ltInt_is]; simp [h4])).symm⟩
      · refine sf_exit ?_
        refine Wo ?_
        refine sf_keep [0, 1, 9, 10] ?_
        exact tail.out x (by omega) (by omega) (by rw [← hinv]; exact scanUp_stop (fun h => absurd h4 (by simpa [ltInt_is] using h.2)))
    · have h3 : ¬ (x : Int) ≤ ((j3 : Nat) : Int) := by omega
      refine Wo ?_
      refine Sd [[],[],[0,1],[0,1,2],[0,1,2,3],[0,1,2,3],[0,1,2,3,4,5],[0,1,2,3,4,5,6],[0,1,2,3],[0,1,2,3],[0,1,2,3,8,9],[0,1,2,3,8,9,10],[0,1,2,3,4,5,6,7,8,9,10,11],[0,1,2,3,4,5,6,7,8,9,10,11,12],[0,1,2,3,4,5,6,7,8,9,10,11,12,13]] 12 [Nn 0,Nn 1,Nn 2,Nn 3,Nn 4,Nn 5,Nn 6,Nn 7,Nn 8,Nn 9,Nn 10,Nn 11] ?_
      refine Di ?_
      refine Ae ?_
      refine Wo ?_
      refine sf_cond (by rfl) (fun e => by cases e) fun z1 => ?_
      clear z1
      refine sf_exit ?_
      refine Wo ?_
      refine sf_keep [0, 1, 9, 10] ?_
      exact tail.out x (by omega) (by omega) (by rw [← hinv]; exact scanUp_stop (fun h => h2 h.1))
  intro i4 hi4 hi5 hsu4
  apply viaT (G := ∀ j : Nat, i4 ≤ j + 2 → a ≤ j → j ≤ j3 → scanDown (fun x => ltInt f[a]! x) f i4 j3 = j → _)
  · intro tail
    refine sf_lp (ι := Nat) [0, 1, 9] (fun x => [(10, .int .i64 (x : Int))]) (fun x O' => O' = O3 ∧ i4 ≤ x + 2 ∧ a ≤ x ∧ x ≤ j3 ∧ scanDown (fun x => ltInt f[a]! x) f i4 x = scanDown (fun x => ltInt f[a]! x) f i4 (j3)) (fun x => x) (j3) O3 ⟨rfl, by omega, by omega, by omega, rfl⟩ ?_
    rintro x _ ⟨rfl, hx0, hx2, hx1, hinv⟩
    by_cases h2 : i4 ≤ x
    · obtain ⟨y, hy0⟩ : ∃ k, x = k + 1 := ⟨x - 1, by omega⟩
      have h3 : ((i4 : Nat) : Int) ≤ (x : Int) := by omega
      have u1 : gt f.toList x = f[x]! := gt_arr (by omega)
      refine Wo ?_
      refine Sd [[],[],[0,1],[0,1,2],[0,1,2,3],[0,1,2,3],[0,1,2,3,4,5],[0,1,2,3,4,5,6],[0,1,2,3],[0,1,2,3],[0,1,2,3,8,9],[0,1,2,3,8,9,10],[0,1,2,3,4,5,6,7,8,9,10,11],[0,1,2,3,4,5,6,7,8,9,10,11,12]] 12 [Nn 0,Nn 1,Nn 2,Nn 3,Nn 4,Nn 5,Nn 6,Nn 7,Nn 8,Nn 9,Nn 10,Nn 11] ?_
      refine Di ?_
      refine Ae ?_
      refine Xv (less_v _ _ _) ?_
      refine Wo ?_
      rw [u1, uf]
      refine sf_if (fun h4 => ?_) fun h4 => ?_
      · refine Wo ?_
        subst hy0
        exact ⟨y, by omega, ⟨vI (show ((y + 1 : Nat) : Int) - 1 = (y : Int) by omega), trivial⟩, rfl, _, _, inferInstance, rfl, by omega, by omega, by omega, by rw [← hinv]; exact (scanDown_go h2 (by simp only [ltInt_is]; simp [h4])).symm⟩
      · refine sf_exit ?_
        refine Wo ?_
        (show Code.sf _ _ _ _ _ _ _ _; refine sf_keep [0, 1, 9, 10, 64] ?_)
        exact tail.out x (by omega) (by omega) (by omega) (by rw [← hinv]; exact scanDown_stop (fun h => h4 (by simpa [ltInt_is] using h.2)))
    · have h3 : ¬ ((i4 : Nat) : Int) ≤ (x : Int) := by omega
      refine Wo ?_
      refine Sd [[],[],[0,1],[0,1,2],[0,1,2,3],[0,1,2,3],[0,1,2,3,4,5],[0,1,2,3,4,5,6],[0,1,2,3],[0,1,2,3],[0,1,2,3,8,9],[0,1,2,3,8,9,10],[0,1,2,3,4,5,6,7,8,9,10,11],[0,1,2,3,4,5,6,7,8,9,10,11,12]] 12 [Nn 0,Nn 1,Nn 2,Nn 3,Nn 4,Nn 5,Nn 6,Nn 7,Nn 8,Nn 9,Nn 10,Nn 11] ?_
      refine Di ?_
      refine Ae ?_
      refine Wo ?_
      refine sf_cond (by rfl) (fun e => by cases e) fun z1 => ?_
      clear z1
      refine sf_exit ?_
      refine Wo ?_
      (show Code.sf _ _ _ _ _ _ _ _; refine sf_keep [0, 1, 9, 10, 64] ?_)
      exact tail.out x (by omega) (by omega) (by omega) (by rw [← hinv]; exact scanDown_stop (fun h => h2 h.1))
  intro j4 hj4 hj5 hj6 hsd4
  obtain ⟨s1, s2⟩ := partEqLoop_step hsu4 hsd4 hi4 hj6
  refine sf_if (fun h5 => ?_) fun h5 => ?_
  · refine sf_exit ?_
    rw [← finv, s1 (by omega)]
    refine Wo ?_
    exact sf_ret (rO O3 ⟨rfl, gf⟩)
  obtain ⟨j4, rfl⟩ : ∃ k, j4 = k + 1 := ⟨j4 - 1, by omega⟩
  have s3 := s2 (by omega) (by omega)
  refine Wo ?_
  refine sf_draw (by kernel_rfl) (regX_own (O3) (regX_split 7 11 (by rfl) ?_ ?_))
  case' refine_1 =>
    refine Sw [[],[],[],[],[],[],[4,5],[4,5,6],[],[],[8,9],[4,5,6,7,8,9,10],[0,1,4,5,6,7,8,9,10,11],[0,1,4,5,6,7,8,9,10,11,12],[0,1,2,3,4,5,6,7,8,9,10,11,12,13],[0,1,2,3,4,5,6,7,8,9,10,11,12,13,14]] 14 [Nn 0,Nn 1,Nn 2,Nn 3,Nn 4,Nn 5,Nn 6,Nn 8,Nn 9,Nn 10,Yy 7,Yy 11,Nn 12,Yy 13] ?_
    refine Di ?_
    refine Yw (by rfl) (z_loadG (by rfl) gf (by omega) (by rfl)) ?_
    refine Di ?_
    refine Yw (by rfl) (z_loadG (by rfl) gf (by omega) (by rfl)) ?_
    refine Di ?_
    refine Yg gf fun As ys hy hl fs gg => ?_
    refine Di ?_
    refine Ae ?_
  case' refine_2 =>
    refine Sw [[],[],[],[],[],[],[4,5],[4,5,6,8,9,10,11],[],[],[8,9],[8,9,10],[0,1,4,5,6,7,8,9,10,11],[0,1,4,5,6,7,8,9,10,11,12],[0,1,2,3,4,5,6,7,8,9,10,11,12,13],[0,1,2,3,4,5,6,7,8,9,10,11,12,13,14]] 14 [Nn 0,Nn 1,Nn 2,Nn 3,Nn 4,Nn 5,Nn 6,Nn 8,Nn 9,Nn 10,Yy 11,Yy 7,Nn 12,Yy 13] ?_
    refine Di ?_
    refine Yw (by rfl) (z_loadG (by rfl) gf (by omega) (by rfl)) ?_
    refine Di ?_
    refine Yw (by rfl) (z_loadG (by rfl) gf (by omega) (by rfl)) ?_
    refine Di ?_
    refine Yg gf fun As ys hy hl fs gg => ?_
    refine Di ?_
    refine Ae ?_
  all_goals
    refine Wi ?_
    refine Xg gg fun At zs hz hlz fz gz => ?_
    refine Wi ?_
    rw [show (((j4 + 1 : Nat) : Int) - 1) = (j4 : Int) by omega]
    have hf : zs = (swp f i4 (j4 + 1)).toList := swp_is hy hz (by omega) (by omega) (by omega) (by omega) (by omega) (by omega)
    rw [hf] at gz
    exact ⟨(i4 + 1, j4, swp f i4 (j4 + 1)), by simp only; omega, ⟨rfl, rfl, trivial⟩, rfl, _, _, inferInstance, gz, by simp only [swp_size]; exact fsz, by simp only; omega, by simp only; omega, by simp only; omega, by simp only; omega, by simp only; rw [← finv, s3]; rfl⟩
theorem partialInsertionSort_f (h : PHeap) (v : Value) (A : Own) (d : Array Int) (g : Gr A v 3 intF d.toList) (a b : Nat) (hb : b ≤ d.size) (hs : d.size ≤ 1000000) (hab : a < b) :
    CallF Tryz.prog M 304 [v, .int .i64 (a : Int), .int .i64 (b : Int)] A h fun u A' => u = .bool (partialInsertionSort ltInt d a b).2 ∧ Gr A' v 3 intF (partialInsertionSort ltInt d a b).1.toList := by
  have o := g.one
  refine Cs Tryz.func304 Tryz.ntmps304 ?_
  refine Wo ?_
  refine sf_lp (ι := Nat × Nat × Array Int) [0, 1, 2] (fun x => [(8, .int .i64 (5 - (x.1 : Int))), (7, .int .i64 (x.2.1 : Int))]) (fun x O => Gr O v 3 intF x.2.2.toList ∧ x.2.2.size = d.size ∧ x.1 ≤ 5 ∧ a + 1 ≤ x.2.1 ∧ x.2.1 ≤ b ∧ partialIns ltInt a b x.1 x.2.1 x.2.2 = partialInsertionSort ltInt d a b) (fun x => x.1) (5, a + 1, d) A ⟨g, rfl, by simp only; omega, by simp only; omega, by simp only; omega, rfl⟩ ?_
  rintro ⟨s, i, f⟩ O ⟨gf, fsz, hs5, hi, hib, finv⟩
  simp only at gf fsz hs5 hi hib finv ⊢
  have lf : f.toList.length = f.size := by simp
  refine Wo ?_
  refine sf_if (fun h1 => ?_) fun h1 => ?_
  · obtain ⟨s, rfl⟩ : ∃ k, s = k + 1 := ⟨s - 1, by omega⟩
    refine Wo ?_
    apply viaT (G := ∀ i2 : Nat, i ≤ i2 → i2 ≤ b → scanSorted ltInt f b i = i2 → _)
    · intro tail
      refine sf_lp (ι := Nat) [0, 1, 2, 8] (fun x => [(7, .int .i64 (x : Int))]) (fun x O' => O' = O ∧ i ≤ x ∧ x ≤ b ∧ scanSorted ltInt f b x = scanSorted ltInt f b i) (fun x => b - x) i O ⟨rfl, by omega, hib, rfl⟩ ?_
      rintro x _ ⟨rfl, hx0, hx1, hinv⟩
      by_cases h2 : x < b
      · have h3 : (x : Int) < ((b : Nat) : Int) := by omega
        have u1 : gt f.toList x = f[x]! := gt_arr (by omega)
        have u2 : gt f.toList ((x : Int) - 1).toNat = f[x - 1]! := gt_arr' (by omega) (by omega)
        refine Wo ?_
        refine Sd [[],[],[0,1],[0,1,2],[0,1,2,3],[0,1,2,3],[0,1,2,3,4,5],[0,1,2,3,4,5,6],[0,1,2,3],[0,1,2,3],[0,1,2,3,9],[0,1,2,3,8,9,10],[0,1,2,3,8,9,10,11],[0,1,2,3,4,5,6,7,8,9,10,11,12],[0,1,2,3,4,5,6,7,8,9,10,11,12,13],[0,1,2,3,4,5,6,7,8,9,10,11,12,13,14]] 13 [Nn 0,Nn 1,Nn 2,Nn 3,Nn 4,Nn 5,Nn 6,Nn 7,Nn 8,Nn 9,Nn 10,Nn 11,Nn 12] ?_
        refine Di ?_
        refine Ae ?_
        refine Xv (less_v _ _ _) ?_
        refine Wo ?_
        rw [u1, u2]
        refine sf_ifn (fun h4 => ?_) fun h4 => ?_
        · refine Wo ?_
          exact ⟨x + 1, by omega, ⟨rfl, trivial⟩, rfl, _, _, inferInstance, rfl, by omega, by omega, by rw [← hinv]; exact (scanSorted_go h2 h4).symm⟩
        · refine sf_exit ?_
          refine Wo ?_
          show Code.sf _ _ _ _ _ _ _ _
          refine sf_keep [0, 1, 2, 7, 8, 37] ?_
          exact tail.out x hx0 hx1 (by rw [← hinv]; exact scanSorted_stop fun h => h.2 h4)
      · have h3 : ¬ (x : Int) < ((b : Nat) : Int) := by omega
        refine Wo ?_
        refine Sd [[],[],[0,1],[0,1,2],[0,1,2,3],[0,1,2,3],[0,1,2,3,4,5],[0,1,2,3,4,5,6],[0,1,2,3],[0,1,2,3],[0,1,2,3,9],[0,1,2,3,8,9,10],[0,1,2,3,8,9,10,11],[0,1,2,3,4,5,6,7,8,9,10,11,12],[0,1,2,3,4,5,6,7,8,9,10,11,12,13],[0,1,2,3,4,5,6,7,8,9,10,11,12,13,14]] 13 [Nn 0,Nn 1,Nn 2,Nn 3,Nn 4,Nn 5,Nn 6,Nn 7,Nn 8,Nn 9,Nn 10,Nn 11,Nn 12] ?_
        refine Di ?_
        refine Ae ?_
        refine Wo ?_
        refine sf_cond (by rfl) (fun e => by cases e) fun z1 => ?_
        clear z1
        refine sf_exit ?_
        refine Wo ?_
        show Code.sf _ _ _ _ _ _ _ _
        refine sf_keep [0, 1, 2, 7, 8, 37] ?_
        exact tail.out x hx0 hx1 (by rw [← hinv]; exact scanSorted_stop fun h => h2 h.1)
    intro i2 hi2 hi3 hsc
    obtain ⟨p1, p2, p3⟩ := partialIns_step (a := a) (s := s) hsc
    refine sf_if (fun h5 => ?_) fun h5 => ?_
    · refine Wo ?_
      refine sf_ret (rO O ?_)
      rw [← finv, p1 (by omega)]
      exact ⟨rfl, gf⟩
    refine Wo ?_
    refine sf_if (fun h6 => ?_) fun h6 => ?_
    · refine Wo ?_
      refine sf_ret (rO O ?_)
      rw [← finv, p2 (by omega) (by omega)]
      exact ⟨rfl, gf⟩
    have p4 := p3 (by omega) (by omega) _ _ rfl rfl
    clear p1 p2 p3
    rw [finv] at p4
    clear finv
    refine Wo ?_
    apply viaT (G := ∀ (B : Own), Gr B v 3 intF (swp f i2 (i2 - 1)).toList → _)
    · intro tail
      refine sf_draw (by kernel_rfl) (regX_own (O) (regX_split 9 13 (by rfl) ?_ ?_))
      case' refine_1 =>
        refine Sw [[],[],[],[],[3],[],[],[6],[5,6,7],[5,6,7,8],[],[],[10,11],[5,6,7,8,9,10,11,12],[0,1,5,6,7,8,9,10,11,12,13],[0,1,5,6,7,8,9,10,11,12,13,14],[0,1,2,3,4,5,6,7,8,9,10,11,12,13,14,15],[0,1,2,3,4,5,6,7,8,9,10,11,12,13,14,15,16]] 16 [Nn 0,Nn 1,Nn 2,Nn 3,Nn 4,Nn 5,Nn 6,Nn 7,Nn 8,Nn 10,Nn 11,Nn 12,Yy 9,Yy 13,Nn 14,Yy 15] ?_
        refine Di ?_
        refine Yw (by rfl) (z_loadG (by rfl) gf (by omega) (by rfl)) ?_
        refine Di ?_
        refine Yw (by rfl) (z_loadG (by rfl) gf (by omega) (by rfl)) ?_
        refine Di ?_
        refine Yg gf fun As ys hy hl fs gg => ?_
        refine Di ?_
        refine Ae ?_
      case' refine_2 =>
        refine Sw [[],[],[],[],[3],[],[],[6],[5,6,7],[5,6,7,8,10,11,12,13],[],[],[10,11],[10,11,12],[0,1,5,6,7,8,9,10,11,12,13],[0,1,5,6,7,8,9,10,11,12,13,14],[0,1,2,3,4,5,6,7,8,9,10,11,12,13,14,15],[0,1,2,3,4,5,6,7,8,9,10,11,12,13,14,15,16]] 16 [Nn 0,Nn 1,Nn 2,Nn 3,Nn 4,Nn 5,Nn 6,Nn 7,Nn 8,Nn 10,Nn 11,Nn 12,Yy 13,Yy 9,Nn 14,Yy 15] ?_
        refine Di ?_
        refine Yw (by rfl) (z_loadG (by rfl) gf (by omega) (by rfl)) ?_
        refine Di ?_
        refine Yw (by rfl) (z_loadG (by rfl) gf (by omega) (by rfl)) ?_
        refine Di ?_
        refine Yg gf fun As ys hy hl fs gg => ?_
        refine Di ?_
        refine Ae ?_
      all_goals
        refine Wi ?_
        refine Xg gg fun At zs hz hlz fz gz => ?_
        refine Wi ?_
        have hf : zs = (swp f i2 (i2 - 1)).toList := swp_is hy hz (by omega) (by omega) (by omega) (by omega) (by omega) (by omega)
        rw [hf] at gz
        show Code.sf _ _ _ _ _ _ _ _
        refine sf_keep [0, 1, 2, 7, 8, 61] ?_
        refine sf_own At ?_
        exact tail.out At gz
    intro B ge
    obtain ⟨e, he⟩ : ∃ e, e = swp f i2 (i2 - 1) := ⟨_, rfl⟩
    rw [← he] at ge p4
    have es : e.size = d.size := by rw [he, swp_size]; exact fsz
    apply viaT (G := ∀ (B : Own), Gr B v 3 intF (if 2 ≤ i2 - a then shiftDown ltInt (i2 - 1) e else e).toList → (if 2 ≤ i2 - a then shiftDown ltInt (i2 - 1) e else e).size = d.size → _)
    · intro tail
      refine sf_if (fun h7 => ?_) fun h7 => ?_
      · rw [if_pos (by omega)] at tail
        refine Wo ?_
        rw [show ((i2 : Int) - 1) = ((i2 - 1 : Nat) : Int) by omega]
        refine sf_lp (ι := Nat × Array Int) [0, 1, 2, 7, 8] (fun x => [(9, .int .i64 (x.1 : Int))]) (fun x O => Gr O v 3 intF x.2.toList ∧ x.2.size = d.size ∧ x.1 < b ∧ shiftDown ltInt x.1 x.2 = shiftDown ltInt (i2 - 1) e) (fun x => x.1) (i2 - 1, e) B ⟨ge, es, by simp only; omega, rfl⟩ ?_
        rintro ⟨j, f2⟩ O2 ⟨gf2, f2sz, hj, f2inv⟩
        simp only at gf2 f2sz hj f2inv ⊢
        have lf2 : f2.toList.length = f2.size := by simp
        refine Wo ?_
        refine sf_if (fun h8 => ?_) fun h8 => ?_
        · obtain ⟨j, rfl⟩ : ∃ k, j = k + 1 := ⟨j - 1, by omega⟩
          have u1 : gt f2.toList (j + 1) = f2[j + 1]! := gt_arr (by omega)
          have u2 : gt f2.toList (((j + 1 : Nat) : Int) - 1).toNat = f2[j]! := gt_arr' (by omega) (by omega)
          refine Wo ?_
          refine Sd [[],[],[0,1],[0,1,2],[],[],[5],[4,5,6],[4,5,6,7],[0,1,2,3,4,5,6,7,8],[0,1,2,3,4,5,6,7,8,9]] 9 [Nn 0,Nn 1,Nn 2,Nn 3,Nn 4,Nn 5,Nn 6,Nn 7,Nn 8] ?_
          refine Di ?_
          refine Ae ?_
          refine Xv (less_v _ _ _) ?_
          refine Wo ?_
          rw [u1, u2]
          refine sf_ifn (fun h9 => ?_) fun h9 => ?_
          · refine sf_exit ?_
            have fin := f2inv.symm.trans (shiftDown_stop h9)
            rw [fin] at tail
            refine Wo ?_
            show Code.sf _ _ _ _ _ _ _ _
            refine sf_keep [0, 1, 2, 7, 8, 98] ?_
            refine sf_own O2 ?_
            exact tail.out O2 gf2 f2sz
          · refine Wo ?_
            refine sf_draw (by kernel_rfl) (regX_own (O2) (regX_split 9 13 (by rfl) ?_ ?_))
            case' refine_1 =>
              refine Sw [[],[],[],[],[3],[],[],[6],[5,6,7],[5,6,7,8],[],[],[10,11],[5,6,7,8,9,10,11,12],[0,1,5,6,7,8,9,10,11,12,13],[0,1,5,6,7,8,9,10,11,12,13,14],[0,1,2,3,4,5,6,7,8,9,10,11,12,13,14,15],[0,1,2,3,4,5,6,7,8,9,10,11,12,13,14,15,16]] 16 [Nn 0,Nn 1,Nn 2,Nn 3,Nn 4,Nn 5,Nn 6,Nn 7,Nn 8,Nn 10,Nn 11,Nn 12,Yy 9,Yy 13,Nn 14,Yy 15] ?_
              refine Di ?_
              refine Yw (by rfl) (z_loadG (by rfl) gf2 (by omega) (by rfl)) ?_
              refine Di ?_
              refine Yw (by rfl) (z_loadG (by rfl) gf2 (by omega) (by rfl)) ?_
              refine Di ?_
              refine Yg gf2 fun As ys hy hl fs gg => ?_
              refine Di ?_
              refine Ae ?_
            case' refine_2 =>
              refine Sw [[],[],[],[],[3],[],[],[6],[5,6,7],[5,6,7,8,10,11,12,13],[],[],[10,11],[10,11,12],[0,1,5,6,7,8,9,10,11,12,13],[0,1,5,6,7,8,9,10,11,12,13,14],[0,1,2,3,4,5,6,7,8,9,10,11,12,13,14,15],[0,1,2,3,4,5,6,7,8,9,10,11,12,13,14,15,16]] 16 [Nn 0,Nn 1,Nn 2,Nn 3,Nn 4,Nn 5,Nn 6,Nn 7,Nn 8,Nn 10,Nn 11,Nn 12,Yy 13,Yy 9,Nn 14,Yy 15] ?_
              refine Di ?_
              refine Yw (by rfl) (z_loadG (by rfl) gf2 (by omega) (by rfl)) ?_
              refine Di ?_
              refine Yw (by rfl) (z_loadG (by rfl) gf2 (by omega) (by rfl)) ?_
              refine Di ?_
              refine Yg gf2 fun As ys hy hl fs gg => ?_
              refine Di ?_
              refine Ae ?_
            all_goals
              refine Wi ?_
              refine Xg gg fun At zs hz hlz fz gz => ?_
              refine Wi ?_
              rw [show (((j + 1 : Nat) : Int) - 1) = (j : Int) by omega]
              have hf : zs = (swp f2 (j + 1) j).toList := swp_is hy hz (by omega) (by omega) (by omega) (by omega) (by omega) (by omega)
              rw [hf] at gz
              exact ⟨(j, swp f2 (j + 1) j), by simp only; omega, ⟨rfl, trivial⟩, rfl, _, _, inferInstance, gz, by simp only [swp_size]; exact f2sz, by simp only; omega, by simp only; rw [← f2inv, shiftDown_go h9]⟩
        · obtain rfl : j = 0 := by omega
          refine sf_exit ?_
          have fin : shiftDown ltInt (i2 - 1) e = f2 := f2inv.symm
          rw [fin] at tail
          refine Wo ?_
          show Code.sf _ _ _ _ _ _ _ _
          refine sf_keep [0, 1, 2, 7, 8, 98] ?_
          refine sf_own O2 ?_
          exact tail.out O2 gf2 f2sz
      · rw [if_neg (by omega)] at tail
        refine Wo ?_
        show Code.sf _ _ _ _ _ _ _ _
        refine sf_keep [0, 1, 2, 7, 8, 98] ?_
        exact tail.out B ge es
    intro B2 ge2 es2
    obtain ⟨e2, he2⟩ : ∃ e2, e2 = (if 2 ≤ i2 - a then shiftDown ltInt (i2 - 1) e else e) := ⟨_, rfl⟩
    rw [← he2] at ge2 p4 es2
    refine sf_if (fun h7 => ?_) fun h7 => ?_
    · rw [if_pos (by omega)] at p4
      refine Wo ?_
      refine sf_lp (ι := Nat × Array Int) [0, 1, 2, 7, 8] (fun x => [(10, .int .i64 (x.1 : Int))]) (fun x O => Gr O v 3 intF x.2.toList ∧ x.2.size = d.size ∧ 1 ≤ x.1 ∧ x.1 ≤ b ∧ shiftUp ltInt b x.1 x.2 = shiftUp ltInt b (i2 + 1) e2) (fun x => b - x.1) (i2 + 1, e2) B2 ⟨ge2, es2, by simp only; omega, by simp only; omega, rfl⟩ ?_
      rintro ⟨j, f2⟩ O2 ⟨gf2, f2sz, hj0, hj, f2inv⟩
      simp only at gf2 f2sz hj0 hj f2inv ⊢
      have lf2 : f2.toList.length = f2.size := by simp
      refine Wo ?_
      refine sf_if (fun h8 => ?_) fun h8 => ?_
      · have u1 : gt f2.toList j = f2[j]! := gt_arr (by omega)
        have u2 : gt f2.toList ((j : Int) - 1).toNat = f2[j - 1]! := gt_arr' (by omega) (by omega)
        refine Wo ?_
        refine Sd [[],[],[0,1],[0,1,2],[],[],[5],[4,5,6],[4,5,6,7],[0,1,2,3,4,5,6,7,8],[0,1,2,3,4,5,6,7,8,9]] 9 [Nn 0,Nn 1,Nn 2,Nn 3,Nn 4,Nn 5,Nn 6,Nn 7,Nn 8] ?_
        refine Di ?_
        refine Ae ?_
        refine Xv (less_v _ _ _) ?_
        refine Wo ?_
        rw [u1, u2]
        refine sf_ifn (fun h9 => ?_) fun h9 => ?_
        · refine sf_exit ?_
          have fin := f2inv.symm.trans (shiftUp_stop fun h => h9 h.2)
          rw [fin] at p4
          refine Wo ?_
          exact ⟨(s, i2, f2), by simp only; omega, ⟨vI (show (5 : Int) - ((s + 1 : Nat) : Int) + 1 = 5 - (s : Int) by omega), rfl, trivial⟩, rfl, _, _, inferInstance, gf2, f2sz, by simp only; omega, by simp only; omega, hi3, p4.symm⟩
        · refine Wo ?_
          refine sf_draw (by kernel_rfl) (regX_own (O2) (regX_split 9 13 (by rfl) ?_ ?_))
          case' refine_1 =>
            refine Sw [[],[],[],[],[3],[],[],[6],[5,6,7],[5,6,7,8],[],[],[10,11],[5,6,7,8,9,10,11,12],[0,1,5,6,7,8,9,10,11,12,13],[0,1,5,6,7,8,9,10,11,12,13,14],[0,1,2,3,4,5,6,7,8,9,10,11,12,13,14,15],[0,1,2,3,4,5,6,7,8,9,10,11,12,13,14,15,16]] 16 [Nn 0,Nn 1,Nn 2,Nn 3,Nn 4,Nn 5,Nn 6,Nn 7,Nn 8,Nn 10,Nn 11,Nn 12,Yy 9,Yy 13,Nn 14,Yy 15] ?_
            refine Di ?_
            refine Yw (by rfl) (z_loadG (by rfl) gf2 (by omega) (by rfl)) ?_
            refine Di ?_
            refine Yw (by rfl) (z_loadG (by rfl) gf2 (by omega) (by rfl)) ?_
            refine Di ?_
            refine Yg gf2 fun As ys hy hl fs gg => ?_
            refine Di ?_
            refine Ae ?_
          case' refine_2 =>
            refine Sw [[],[],[],[],[3],[],[],[6],[5,6,7],[5,6,7,8,10,11,12,13],[],[],[10,11],[10,11,12],[0,1,5,6,7,8,9,10,11,12,13],[0,1,5,6,7,8,9,10,11,12,13,14],[0,1,2,3,4,5,6,7,8,9,10,11,12,13,14,15],[0,1,2,3,4,5,6,7,8,9,10,11,12,13,14,15,16]] 16 [Nn 0,Nn 1,Nn 2,Nn 3,Nn 4,Nn 5,Nn 6,Nn 7,Nn 8,Nn 10,Nn 11,Nn 12,Yy 13,Yy 9,Nn 14,Yy 15] ?_
            refine Di ?_
            refine Yw (by rfl) (z_loadG (by rfl) gf2 (by omega) (by rfl)) ?_
            refine Di ?_
            refine Yw (by rfl) (z_loadG (by rfl) gf2 (by omega) (by rfl)) ?_
            refine Di ?_
            refine Yg gf2 fun As ys hy hl fs gg => ?_
            refine Di ?_
            refine Ae ?_
          all_goals
            refine Wi ?_
            refine Xg gg fun At zs hz hlz fz gz => ?_
            refine Wi ?_
            have hf : zs = (swp f2 j (j - 1)).toList := swp_is hy hz (by omega) (by omega) (by omega) (by omega) (by omega) (by omega)
            rw [hf] at gz
            exact ⟨(j + 1, swp f2 j (j - 1)), by simp only; omega, ⟨rfl, trivial⟩, rfl, _, _, inferInstance, gz, by simp only [swp_size]; exact f2sz, by simp only; omega, by simp only; omega, by simp only; rw [← f2inv, shiftUp_go (by omega) h9]⟩
      · refine sf_exit ?_
        have fin := f2inv.symm.trans (shiftUp_stop fun h => h8 (by omega))
        rw [fin] at p4
        refine Wo ?_
        exact ⟨(s, i2, f2), by simp only; omega, ⟨vI (show (5 : Int) - ((s + 1 : Nat) : Int) + 1 = 5 - (s : Int) by omega), rfl, trivial⟩, rfl, _, _, inferInstance, gf2, f2sz, by simp only; omega, by simp only; omega, hi3, p4.symm⟩
    · rw [if_neg (by omega)] at p4
      refine Wo ?_
      exact ⟨(s, i2, e2), by simp only; omega, ⟨vI (show (5 : Int) - ((s + 1 : Nat) : Int) + 1 = 5 - (s : Int) by omega), rfl, trivial⟩, rfl, _, _, inferInstance, ge2, es2, by simp only; omega, by simp only; omega, hi3, p4.symm⟩
  · refine sf_exit ?_
    refine Wo ?_
    refine sf_ret (rO O ?_)
    obtain rfl : s = 0 := by omega
    rw [← finv]
    exact ⟨rfl, gf⟩
theorem len64_f (h : PHeap) (n : Nat) (hn : n ≤ 1000000) : CallF Tryz.prog M 309 [.int .u64 (n : Int)] [] h fun u A => A = [] ∧ ∃ L : Nat, u = .int .i64 (L : Int) ∧ L ≤ 40 ∧ (1 ≤ n → 2 ^ L ≤ 2 * n) := by
  refine Cs Tryz.func309 Tryz.ntmps309 ?_
  refine Wo ?_
  refine sf_if (fun h1 => ?_) fun h1 => ?_
  · omega
  refine Wo ?_
  refine sf_if (fun h2 => ?_) fun h2 => ?_
  · refine Wo ?_
    refine fp (Rq ?_ (q_shrU (s := 16) (by rfl) (by rfl) (by decide)))
    refine Wo ?_
    refine sf_if (fun h3 => ?_) fun h3 => ?_
    · omega
    refine Wo ?_
    rw [IntKind.wrap_u8, show (((n / 2 ^ 16 : Nat) : Int)) % 256 = ((n / 2 ^ 16 : Nat) : Int) by omega]
    refine Wo ?_
    refine fp (y_len8 (by infer_instance) (by rfl) (by rfl) (by omega) (by kernel_rfl) fun b hb1 hb2 => ?_)
    refine Wo ?_
    rw [show IntKind.i64.wrap (b : Int) = (b : Int) from wrap_in (by omega) (by omega), wrap_in (by omega) (by omega)]
    refine Wo ?_
    refine sf_ret (rO [] ⟨rfl, 16 + b, rfl, by omega, fun _ => ?_⟩)
    have := hb2 (by omega)
    rw [Nat.pow_add]
    omega
  refine Wo ?_
  refine sf_if (fun h3 => ?_) fun h3 => ?_
  · refine Wo ?_
    refine fp (Rq ?_ (q_shrU (s := 8) (by rfl) (by rfl) (by decide)))
    refine Wo ?_
    rw [IntKind.wrap_u8, show (((n / 2 ^ 8 : Nat) : Int)) % 256 = ((n / 2 ^ 8 : Nat) : Int) by omega]
    refine Wo ?_
    refine fp (y_len8 (by infer_instance) (by rfl) (by rfl) (by omega) (by kernel_rfl) fun b hb1 hb2 => ?_)
    refine Wo ?_
    rw [show IntKind.i64.wrap (b : Int) = (b : Int) from wrap_in (by omega) (by omega), wrap_in (by omega) (by omega)]
    refine Wo ?_
    refine sf_ret (rO [] ⟨rfl, 8 + b, rfl, by omega, fun _ => ?_⟩)
    have := hb2 (by omega)
    rw [Nat.pow_add]
    omega
  · refine Wo ?_
    rw [IntKind.wrap_u8, show (((n : Nat) : Int)) % 256 = ((n : Nat) : Int) by omega]
    refine Wo ?_
    refine fp (y_len8 (by infer_instance) (by rfl) (by rfl) (by omega) (by kernel_rfl) fun b hb1 hb2 => ?_)
    refine Wo ?_
    rw [show IntKind.i64.wrap (b : Int) = (b : Int) from wrap_in (by omega) (by omega), wrap_in (by omega) (by omega)]
    refine Wo ?_
    refine sf_ret (rO [] ⟨rfl, b, ?_, by omega, hb2⟩)
    simp
theorem len_f (h : PHeap) (n : Nat) (hn : n ≤ 1000000) : CallF Tryz.prog M 297 [.int .u64 (n : Int)] [] h fun u A => A = [] ∧ ∃ L : Nat, u = .int .i64 (L : Int) ∧ L ≤ 40 ∧ (1 ≤ n → 2 ^ L ≤ 2 * n) := by
  refine Cs Tryz.func297 Tryz.ntmps297 ?_
  refine Wo ?_
  refine sf_cond (by rfl) (fun e => by cases e) fun z1 => ?_
  clear z1
  refine Wo ?_
  refine fp (y_call (len64_f (M := M) _ n hn) (by rfl) ?_)
  rintro _ _ ⟨rfl, L, rfl, h1, h2⟩
  refine Wo ?_
  exact sf_ret (rO [] ⟨rfl, L, rfl, h1, h2⟩)
theorem nextPow_f (h : PHeap) (n : Nat) (hn : n ≤ 1000000) (h1 : 1 ≤ n) : CallF Tryz.prog M 311 [.int .i64 (n : Int)] [] h fun u A => A = [] ∧ ∃ m : Nat, u = .int .u64 (m : Int) ∧ 1 ≤ m ∧ m ≤ 2 * n := by
  refine Cs Tryz.func311 Tryz.ntmps311 ?_
  refine Wo ?_
  rw [IntKind.wrap_u64, show (n : Int) % 18446744073709551616 = (n : Int) by omega]
  refine fp (y_call (len_f (M := M) _ n hn) (by rfl) ?_)
  rintro _ _ ⟨rfl, L, rfl, k1, k2⟩
  refine Wo ?_
  refine fp (Rq ?_ (q_shlU (a := 1) (s := L) (by rfl) (by rfl) (by omega)))
  refine Wo ?_
  have k3 := k2 h1
  have k4 : 1 ≤ 2 ^ L := Nat.one_le_two_pow
  refine sf_ret (rO [] ⟨rfl, _, rfl, ?_, ?_⟩)
  · rw [Nat.one_mul, Nat.mod_eq_of_lt (by omega)]; exact k4
  · rw [Nat.one_mul, Nat.mod_eq_of_lt (by omega)]; exact k3
instance : Fun Tryz.prog 312 := ⟨by kernel_rfl⟩
abbrev rndA (br : Nat) (r : Nat) : Own := [(br, .cells #[.int .u64 (r : Int)] 389)]
theorem next_f (h : PHeap) (br r : Nat) (hr : r < 18446744073709551616) : CallF Tryz.prog M 312 [.pointer (some ⟨br, 0, none⟩)] (rndA br r) h fun u A => ∃ r' : Nat, u = .int .u64 (r' : Int) ∧ r' < 18446744073709551616 ∧ A = rndA br r' := by
  refine Cs Tryz.func312 Tryz.ntmps312 ?_
  refine Wo ?_
  have step : ∀ (z : Nat), z < 18446744073709551616 → z * 2 ^ 13 % 18446744073709551616 < 18446744073709551616 ∧ z / 2 ^ 7 < 18446744073709551616 ∧ z * 2 ^ 17 % 18446744073709551616 < 18446744073709551616 := fun z hz => ⟨Nat.mod_lt _ (by decide), by omega, Nat.mod_lt _ (by decide)⟩
  have xl : ∀ a b : Nat, a < 18446744073709551616 → b < 18446744073709551616 → a ^^^ b < 18446744073709551616 := fun a b ha hb => Nat.xor_lt_two_pow (n := 64) ha hb
  refine Sd [[],[0],[0,1],[],[3],[3,4],[3,4,5],[0,1,2,3,4,5,6],[0,1,2,3,4,5,6,7],[0,1,2,3,4,5,6,7,8]] 7 [Nn 0,Nn 1,Nn 2,Nn 3,Nn 4,Nn 5,Nn 6] ?_
  refine Da ?_
  refine Yq (by rfl) (fun X h' [_] => q_shlU (s := 13) (by rfl) (by rfl) (by decide)) ?_
  refine Da ?_
  refine Ae ?_
  refine fp (Rq ?_ (q_xorU (by rfl) (by rfl) hr (step r hr).1))
  refine Wo ?_
  obtain ⟨r1, hr1⟩ : ∃ z, z = r ^^^ (r * 2 ^ 13 % 18446744073709551616) := ⟨_, rfl⟩
  have h1 : r1 < 18446744073709551616 := by rw [hr1]; exact xl _ _ hr (step r hr).1
  rw [← hr1]
  refine Sd [[],[0],[0,1],[],[3],[3,4],[3,4,5],[0,1,2,3,4,5,6],[0,1,2,3,4,5,6,7],[0,1,2,3,4,5,6,7,8]] 7 [Nn 0,Nn 1,Nn 2,Nn 3,Nn 4,Nn 5,Nn 6] ?_
  refine Da ?_
  refine Yq (by rfl) (fun X h' [_] => q_shrU (s := 7) (by rfl) (by rfl) (by decide)) ?_
  refine Da ?_
  refine Ae ?_
  refine fp (Rq ?_ (q_xorU (by rfl) (by rfl) h1 (step r1 h1).2.1))
  refine Wo ?_
  obtain ⟨r2, hr2⟩ : ∃ z, z = r1 ^^^ (r1 / 2 ^ 7) := ⟨_, rfl⟩
  have h2 : r2 < 18446744073709551616 := by rw [hr2]; exact xl _ _ h1 (step r1 h1).2.1
  rw [← hr2]
  refine Sd [[],[0],[0,1],[],[3],[3,4],[3,4,5],[0,1,2,3,4,5,6],[0,1,2,3,4,5,6,7],[0,1,2,3,4,5,6,7,8]] 7 [Nn 0,Nn 1,Nn 2,Nn 3,Nn 4,Nn 5,Nn 6] ?_
  refine Da ?_
  refine Yq (by rfl) (fun X h' [_] => q_shlU (s := 17) (by rfl) (by rfl) (by decide)) ?_
  refine Da ?_
  refine Ae ?_
  refine fp (Rq ?_ (q_xorU (by rfl) (by rfl) h2 (step r2 h2).2.2))
  refine Wo ?_
  exact sf_ret (rO _ ⟨_, rfl, xl _ _ h2 (step r2 h2).2.2, rfl⟩)
theorem breakPatterns_f (h : PHeap) (v : Value) (A : Own) (d : Array Int) (g : Gr A v 3 intF d.toList) (a b : Nat) (hb : b ≤ d.size) (hs : d.size ≤ 1000000) (hab : a < b) :
    CallF Tryz.prog M 301 [v, .int .i64 (a : Int), .int .i64 (b : Int)] A h fun u A' => u = .tuple #[] ∧ ∃ d' : Array Int, Gr A' v 3 intF d'.toList ∧ PermIn a b d d' := by
  have o := g.one
  obtain ⟨n, rfl⟩ : ∃ n : Nat, b = a + n := ⟨b - a, by omega⟩
  refine Cs Tryz.func301 Tryz.ntmps301 ?_
  repeat first | refine R1 ?_ | refine R2 fun _ => ?_
  have e0 : ((a + n : Nat) : Int) - (a : Int) = (n : Int) := by omega
  rw [e0]
  refine sf_if (fun h1 => ?_) fun h1 => ?_
  · repeat first | refine R1 ?_ | refine R2 fun _ => ?_
    rw [IntKind.wrap_u64, show (n : Int) % 18446744073709551616 = (n : Int) by omega]
    repeat first | refine R1 ?_ | refine R2 fun _ => ?_
    rename_i br
    refine fp (y_call (nextPow_f (M := M) _ n (by omega) (by omega)) (by rfl) ?_)
    rintro _ _ ⟨rfl, m, rfl, hm1, hm2⟩
    repeat first | refine R1 ?_ | refine R2 fun _ => ?_
    rw [show (a : Int) + (n : Int) / 4 * 2 - 1 = ((a + n / 4 * 2 - 1 : Nat) : Int) by omega]
    refine sf_lp (ι := Nat × Array Int) [0, 1, 6, 7, 8] (fun x => [(9, .int .i64 (x.1 : Int))]) (fun x O => ∃ (B : Own) (r : Nat), O = rndA br r ++ B ∧ r < 18446744073709551616 ∧ Gr B v 3 intF x.2.toList ∧ x.2.size = d.size ∧ a ≤ x.1 ∧ PermIn a (a + n) d x.2) (fun x => a + n / 4 * 2 + 2 - x.1) (a + n / 4 * 2 - 1, d) (rndA br n ++ A) ⟨A, n, rfl, by omega, g, rfl, by simp only; omega, Sort.permIn_refl _ _ _⟩ ?_
    rintro ⟨k, f⟩ O ⟨B, r, rfl, hr, gf, fsz, hk, fp0⟩
    simp only at gf fsz hk fp0 ⊢
    have lf : f.toList.length = f.size := by simp
    repeat first | refine R1 ?_ | refine R2 fun _ => ?_
    refine sf_if (fun h2 => ?_) fun h2 => ?_
    · repeat first | refine R1 ?_ | refine R2 fun _ => ?_
      refine fp (y_call (next_f (M := M) _ br r hr) (by rfl) ?_)
      rintro _ _ ⟨r2, rfl, hr2, rfl⟩
      repeat first | refine R1 ?_ | refine R2 fun _ => ?_
      rw [IntKind.wrap_u64, show ((m : Int) - 1) % 18446744073709551616 = ((m - 1 : Nat) : Int) by omega]
      refine fp (Rq ?_ (q_andU (by rfl) (by rfl) hr2 (by omega)))
      have ho : r2 &&& (m - 1) ≤ m - 1 := Nat.and_le_right
      generalize r2 &&& (m - 1) = w at ho
      repeat first | refine R1 ?_ | refine R2 fun _ => ?_
      rw [wrap_in (by omega) (by omega)]
      apply viaT (G := ∀ w : Nat, w < n → _)
      · intro tail
        refine sf_if (fun h3 => ?_) fun h3 => ?_
        · repeat first | refine R1 ?_ | refine R2 fun _ => ?_
          rw [show (w : Int) - (n : Int) = ((w - n : Nat) : Int) by omega]
          generalize hw : w - n = w2
          refine sf_keep [0, 1, 6, 7, 8, 9, 10] ?_
          exact tail.out w2 (by omega)
        · repeat first | refine R1 ?_ | refine R2 fun _ => ?_
          refine sf_keep [0, 1, 6, 7, 8, 9, 10] ?_
          exact tail.out w (by omega)
      intro w hw
      refine sf_draw (by kernel_rfl) (regX_own (B) (regX_split 11 15 (by rfl) ?_ ?_))
      case' refine_1 =>
        refine Sw [[],[],[],[],[],[3,4],[],[],[],[7,8],[6,7,8,9],[6,7,8,9,10],[],[],[12,13],[6,7,8,9,10,11,12,13,14],[0,1,6,7,8,9,10,11,12,13,14,15],[0,1,6,7,8,9,10,11,12,13,14,15,16],[0,1,2,3,4,5,6,7,8,9,10,11,12,13,14,15,16,17],[0,1,2,3,4,5,6,7,8,9,10,11,12,13,14,15,16,17,18]] 18 [Nn 0,Nn 1,Nn 2,Nn 3,Nn 4,Nn 5,Nn 6,Nn 7,Nn 8,Nn 9,Nn 10,Nn 12,Nn 13,Nn 14,Yy 11,Yy 15,Nn 16,Yy 17] ?_
        refine Di ?_
        refine Yw (by rfl) (z_loadG (by rfl) gf (by omega) (by rfl)) ?_
        refine Di ?_
        refine Yw (by rfl) (z_loadG (by rfl) gf (by omega) (by rfl)) ?_
        refine Di ?_
        refine Yg gf fun As ys hy hl fs gg => ?_
        refine Di ?_
        refine Ae ?_
      case' refine_2 =>
        refine Sw [[],[],[],[],[],[3,4],[],[],[],[7,8],[6,7,8,9],[6,7,8,9,10,12,13,14,15],[],[],[12,13],[12,13,14],[0,1,6,7,8,9,10,11,12,13,14,15],[0,1,6,7,8,9,10,11,12,13,14,15,16],[0,1,2,3,4,5,6,7,8,9,10,11,12,13,14,15,16,17],[0,1,2,3,4,5,6,7,8,9,10,11,12,13,14,15,16,17,18]] 18 [Nn 0,Nn 1,Nn 2,Nn 3,Nn 4,Nn 5,Nn 6,Nn 7,Nn 8,Nn 9,Nn 10,Nn 12,Nn 13,Nn 14,Yy 15,Yy 11,Nn 16,Yy 17] ?_
        refine Di ?_
        refine Yw (by rfl) (z_loadG (by rfl) gf (by omega) (by rfl)) ?_
        refine Di ?_
        refine Yw (by rfl) (z_loadG (by rfl) gf (by omega) (by rfl)) ?_
        refine Di ?_
        refine Yg gf fun As ys hy hl fs gg => ?_
        refine Di ?_
        refine Ae ?_
      all_goals
        repeat first | refine R1 ?_ | refine R2 fun _ => ?_ | refine fp (Rq ?_ (z_indexGI (by rfl) (by rfl) (by assumption) (by omega) (by omega)))
        refine Xg gg fun At zs hz hlz fz gz => ?_
        repeat first | refine R1 ?_ | refine R2 fun _ => ?_ | refine fp (Rq ?_ (z_indexGI (by rfl) (by rfl) (by assumption) (by omega) (by omega)))
        have hf : zs = (swp f k (a + w)).toList := swp_is hy hz (by omega) (by omega) (by omega) (by omega) (by omega) (by omega)
        rw [hf] at gz
        refine ⟨(k + 1, swp f k (a + w)), by simp only; omega, ⟨rfl, trivial⟩, rfl, rndA br r2 ++ At, _, inferInstance, At, r2, rfl, hr2, gz, by simp only [swp_size]; exact fsz, by simp only; omega, ?_⟩
        exact Sort.permIn_trans _ _ _ _ _ fp0 (Sort.swp_permIn _ _ _ _ _ (by omega) (by omega) (by omega) (by omega) (by omega))
    · refine sf_exit ?_
      repeat first | refine R1 ?_ | refine R2 fun _ => ?_
      exact nO B ⟨rfl, f, gf, fp0⟩
  · repeat first | refine R1 ?_ | refine R2 fun _ => ?_
    exact nO A ⟨rfl, d, g, Sort.permIn_refl _ _ _⟩
theorem pdqsort_f (m : Nat) : ∀ (h : PHeap) (v : Value) (A : Own) (d : Array Int) (_ : Gr A v 3 intF d.toList) (a b : Nat) (l : Int) (_ : b ≤ d.size) (_ : d.size ≤ 1000000) (_ : a ≤ b) (_ : 0 ≤ l ∧ l ≤ 1000) (_ : Below ltInt a b d) (_ : b - a = m),
    CallF Tryz.prog M 296 [v, .int .i64 (a : Int), .int .i64 (b : Int), .int .i64 l] A h fun u A' => u = .tuple #[] ∧ ∃ d' : Array Int, Gr A' v 3 intF d'.toList ∧ PermIn a b d d' ∧ SortedIn ltInt a b d' := by
  induction m using Nat.strongRecOn with
  | _ m ih =>
  intro h v A d g a b l hb hs hab hl hB hm
  have o := g.one
  refine Cs Tryz.func296 Tryz.ntmps296 ?_
  refine Wo ?_
  refine sf_lp (ι := Nat × Nat × Int × Bool × Bool × Array Int) [0] (fun x => [(1, .int .i64 (x.1 : Int)), (2, .int .i64 (x.2.1 : Int)), (3, .int .i64 x.2.2.1), (8, .bool x.2.2.2.1), (9, .bool x.2.2.2.2.1)])
    (fun x O => Gr O v 3 intF x.2.2.2.2.2.toList ∧ x.2.2.2.2.2.size = d.size ∧ x.1 ≤ x.2.1 ∧ x.2.1 ≤ d.size ∧ (0 ≤ x.2.2.1 ∧ x.2.2.1 ≤ 1000) ∧ Below ltInt x.1 x.2.1 x.2.2.2.2.2 ∧ x.2.1 - x.1 ≤ m ∧ ∀ R, PermIn x.1 x.2.1 x.2.2.2.2.2 R → SortedIn ltInt x.1 x.2.1 R → PermIn a b d R ∧ SortedIn ltInt a b R)
    (fun x => x.2.1 - x.1) (a, b, l, true, true, d) A ⟨g, rfl, hab, hb, hl, hB, by simp only; omega, fun R r1 r2 => ⟨r1, r2⟩⟩ ?_
  rintro ⟨a1, b1, l1, wb, wp, f⟩ O ⟨gf, fsz, hab1, hb1, hl1, hB1, hm1, hT⟩
  simp only at gf fsz hab1 hb1 hl1 hB1 hm1 hT ⊢
  clear hB hl g
  refine Wo ?_
  refine sf_if (fun h1 => ?_) fun h1 => ?_
  · refine Wo ?_
    refine fp (y_call (insertionSort_f (M := M) _ v O f gf a1 b1 (by omega) (by omega) hab1) (by rfl) ?_)
    rintro _ A1 ⟨rfl, g1⟩
    refine Wo ?_
    obtain ⟨p1, p2⟩ := insertionSort_holds (lt := ltInt) swo_ltInt f a1 b1 hab1 (by omega)
    obtain ⟨q1, q2⟩ := hT _ p1 p2
    exact sf_ret (rO A1 ⟨rfl, _, g1, q1, q2⟩)
  refine Wo ?_
  refine sf_if (fun h2 => ?_) fun h2 => ?_
  · refine Wo ?_
    refine fp (y_call (heapSort_f (M := M) _ v O f gf a1 b1 (by omega) (by omega) (by omega)) (by rfl) ?_)
    rintro _ A1 ⟨rfl, g1⟩
    refine Wo ?_
    obtain ⟨p1, p2⟩ := heapSort_holds (lt := ltInt) swo_ltInt f a1 b1 hab1 (by omega)
    obtain ⟨q1, q2⟩ := hT _ p1 p2
    exact sf_ret (rO A1 ⟨rfl, _, g1, q1, q2⟩)
  refine Wo ?_
  apply viaT (G := ∀ (B : Own) (f1 : Array Int) (l2 : Int), (0 ≤ l2 ∧ l2 ≤ 1000) → Gr B v 3 intF f1.toList → PermIn a1 b1 f f1 → _)
  · intro tail
    refine sf_cond (by rfl) (fun e => ?_) fun e => ?_
    · refine Wo ?_
      refine fp (y_call (breakPatterns_f (M := M) _ v O f gf a1 b1 (by omega) (by omega) (by omega)) (by rfl) ?_)
      rintro _ A1 ⟨rfl, f1, g1, p1⟩
      refine Wo ?_
      obtain ⟨l2, hl2⟩ : ∃ l2, l2 = l1 - 1 := ⟨_, rfl⟩
      rw [← hl2]
      refine fops_keep [0, 1, 2, 3, 8, 9, 10, 43, 44, 45] ?_
      refine fops_own A1 ?_
      exact tail.out A1 f1 l2 (by omega) g1 p1
    · refine Wo ?_
      refine fops_keep [0, 1, 2, 3, 8, 9, 10, 43, 44, 45] ?_
      exact tail.out O f l1 hl1 gf (Sort.permIn_refl _ _ _)
  intro B1 f1 l2 hl2 g1 p1
  have hs1 : f1.size = d.size := p1.1.trans fsz
  have hl1 : f1.toList.length = f1.size := by simp
  have B1' : Below ltInt a1 b1 f1 := hB1.perm (by omega) p1
  have hT1 : ∀ R, PermIn a1 b1 f1 R → SortedIn ltInt a1 b1 R → PermIn a b d R ∧ SortedIn ltInt a b R := fun R r1 r2 => hT R (Sort.permIn_trans _ _ _ _ _ p1 r1) r2
  clear hB1 hT gf fsz p1
  refine fp (y_lend B1 (fun h' _ i => choosePivot_f (M := M) h' v f1.toList (g1.lent (by omega) i) a1 b1 (by omega) (by omega) (by omega)) (by rfl) ?_)
  rintro _ _ ⟨p, z, rfl, hp, rfl⟩
  refine Wo ?_
  apply viaT (G := ∀ (B : Own) (f2 : Array Int) (p : Nat) (z : Int), (a1 ≤ p ∧ p < b1) → Gr B v 3 intF f2.toList → PermIn a1 b1 f1 f2 → _)
  · intro tail
    refine sf_if (fun h3 => ?_) fun h3 => ?_
    rotate_left
    · refine Wo ?_
      refine fops_keep [0, 1, 2, 3, 8, 9, 10, 11, 12, 61, 62] ?_
      refine fops_own B1 ?_
      obtain ⟨Bc, hBc⟩ : ∃ x, x = B1 := ⟨_, rfl⟩
      obtain ⟨fc, hfc⟩ : ∃ x, x = f1 := ⟨_, rfl⟩
      obtain ⟨pc, hpc⟩ : ∃ x, x = p := ⟨_, rfl⟩
      obtain ⟨zc, hzc⟩ : ∃ x, x = z := ⟨_, rfl⟩
      rw [← hBc, ← hpc, ← hzc]
      exact tail.out Bc fc pc zc (by omega) (by rw [hBc, hfc]; exact g1) (by rw [hfc]; exact Sort.permIn_refl _ _ _)
    · refine Wo ?_
      refine fp (y_call (reverseRange_f (M := M) _ v B1 f1 g1 a1 b1 (by omega) (by omega) (by omega)) (by rfl) ?_)
      rintro _ A1 ⟨rfl, g2⟩
      refine Wo ?_
      rw [show (b1 : Int) - 1 - ((p : Int) - (a1 : Int)) = ((b1 - 1 - (p - a1) : Nat) : Int) by omega]
      refine fops_keep [0, 1, 2, 3, 8, 9, 10, 11, 12, 61, 62] ?_
      refine fops_own A1 ?_
      exact tail.out A1 _ (b1 - 1 - (p - a1)) 1 (by omega) g2 (reverseRange_holds _ _ _ (by omega) (by omega))
  intro B2 f2 p z hp g2 p2
  have hs2 : f2.size = d.size := p2.1.trans hs1
  have B2' : Below ltInt a1 b1 f2 := B1'.perm (by omega) p2
  have hT2 : ∀ R, PermIn a1 b1 f2 R → SortedIn ltInt a1 b1 R → PermIn a b d R ∧ SortedIn ltInt a b R := fun R r1 r2 => hT1 R (Sort.permIn_trans _ _ _ _ _ p2 r1) r2
  clear B1' hT1 g1 p2
  clear hs1 hl1
  apply viaT (G := ∀ (B : Own) (f3 : Array Int), Gr B v 3 intF f3.toList → PermIn a1 b1 f2 f3 → _)
  · intro tail
    refine f_splitB (fun w1 => ?_) fun w1 => ?_
    rotate_left
    · refine Wo ?_
      refine sf_cond (by rfl) (fun e => by cases e) fun z1 => ?_
      clear z1
      refine Wo ?_
      refine sf_keep [0, 1, 2, 3, 8, 9, 10, 11] ?_
      obtain ⟨Bc, hBc⟩ : ∃ x, x = B2 := ⟨_, rfl⟩
      obtain ⟨fc, hfc⟩ : ∃ x, x = f2 := ⟨_, rfl⟩
      rw [← hBc]
      exact tail.out Bc fc (by rw [hBc, hfc]; exact g2) (by rw [hfc]; exact Sort.permIn_refl _ _ _)
    · refine Wo ?_
      refine f_splitB (fun w2 => ?_) fun w2 => ?_
      rotate_left
      · refine Wo ?_
        refine sf_cond (by rfl) (fun e => by cases e) fun z1 => ?_
        clear z1
        refine Wo ?_
        refine sf_keep [0, 1, 2, 3, 8, 9, 10, 11] ?_
        exact tail.out B2 f2 g2 (Sort.permIn_refl _ _ _)
      · refine Wo ?_
        refine sf_if (fun h4 => ?_) fun h4 => ?_
        rotate_left
        · refine Wo ?_
          refine sf_keep [0, 1, 2, 3, 8, 9, 10, 11] ?_
          exact tail.out B2 f2 g2 (Sort.permIn_refl _ _ _)
        · refine Wo ?_
          refine fp (y_call (partialInsertionSort_f (M := M) _ v B2 f2 g2 a1 b1 (by omega) (by omega) (by omega)) (by rfl) ?_)
          rintro _ A1 ⟨rfl, g3⟩
          refine Wo ?_
          obtain ⟨p3, s3⟩ := partialInsertionSort_holds (lt := ltInt) swo_ltInt f2 a1 b1 (by omega) (by omega) B2'
          refine sf_cond (by rfl) (fun e => ?_) fun e => ?_
          · refine Wo ?_
            obtain ⟨q1, q2⟩ := hT2 _ p3 (s3 e)
            exact sf_ret (rO A1 ⟨rfl, _, g3, q1, q2⟩)
          · refine Wo ?_
            refine sf_keep [0, 1, 2, 3, 8, 9, 10, 11] ?_
            refine sf_own A1 ?_
            exact tail.out A1 _ g3 p3
  intro B3 f3 g3 p3
  have hs3 : f3.size = d.size := p3.1.trans hs2
  have B3' : Below ltInt a1 b1 f3 := B2'.perm (by omega) p3
  have hT3 : ∀ R, PermIn a1 b1 f3 R → SortedIn ltInt a1 b1 R → PermIn a b d R ∧ SortedIn ltInt a b R := fun R r1 r2 => hT2 R (Sort.permIn_trans _ _ _ _ _ p3 r1) r2
  have hl3 : f3.toList.length = f3.size := by simp
  clear B2' hT2 g2 p3 hs2
  apply viaT
  · intro tail
    by_cases h5 : 0 < a1
    · have h6 : (a1 : Int) > 0 := by omega
      have u1 : gt f3.toList ((a1 : Int) - 1).toNat = f3[a1 - 1]! := gt_arr' (by omega) (by omega)
      have u2 : gt f3.toList p = f3[p]! := gt_arr (by omega)
      refine Sd [[],[0],[0,1],[0,1,2],[0,1,2],[0,1,2,4],[0,1,2,3,4,5],[0,1,2,3,4,5,6],[0,1,2],[0,1,2],[0,1,2,8,9],[0,1,2,8,9,10],[0,1,2,3,4,5,6,7,8,9,10,11],[0,1,2,3,4,5,6,7,8,9,10,11,12],[0,1,2,3,4,5,6,7,8,9,10,11,12,13]] 12 [Nn 0,Nn 1,Nn 2,Nn 3,Nn 4,Nn 5,Nn 6,Nn 7,Nn 8,Nn 9,Nn 10,Nn 11] ?_
      refine Di ?_
      refine Ae ?_
      refine Xv (less_v _ _ _) ?_
      refine Wo ?_
      rw [u1, u2]
      refine sf_ifn (fun h7 => ?_) fun h7 => ?_
      · refine Wo ?_
        refine fp (y_call (partitionEqual_f (M := M) _ v B3 f3 g3 a1 b1 p (by omega) (by omega) (by omega) hp) (by rfl) ?_)
        rintro _ A1 ⟨rfl, g4⟩
        refine Wo ?_
        refine sf_exit ?_
        obtain ⟨k1, k2, k3, k4, k5⟩ := round_eq swo_ltInt (partitionEqual_holds ltInt) h5 hp.1 hp.2 (by omega) B3' (by rw [ltInt_is]; exact decide_eq_false h7) (show partitionEqual ltInt f3 a1 b1 p = ((partitionEqual ltInt f3 a1 b1 p).1, (partitionEqual ltInt f3 a1 b1 p).2) from rfl)
        exact ⟨((partitionEqual ltInt f3 a1 b1 p).1, b1, l2, wb, wp, (partitionEqual ltInt f3 a1 b1 p).2), by simp only; omega, ⟨rfl, rfl, rfl, rfl, rfl, trivial⟩, rfl, A1, _, inferInstance, g4, k3.trans hs3, k2, hb1, hl2, k4, by simp only; omega, fun R r1 r2 => by obtain ⟨q1, q2⟩ := k5 R r1 r2; exact hT3 R q1 q2⟩
      · refine Wo ?_
        refine fops_keep [0, 1, 2, 3, 8, 9, 10, 11, 95, 96, 97, 98] ?_
        exact tail.out
    · have h6 : ¬ (a1 : Int) > 0 := by omega
      refine Sd [[],[0],[0,1],[0,1,2],[0,1,2],[0,1,2,4],[0,1,2,3,4,5],[0,1,2,3,4,5,6],[0,1,2],[0,1,2],[0,1,2,8,9],[0,1,2,8,9,10],[0,1,2,3,4,5,6,7,8,9,10,11],[0,1,2,3,4,5,6,7,8,9,10,11,12],[0,1,2,3,4,5,6,7,8,9,10,11,12,13]] 12 [Nn 0,Nn 1,Nn 2,Nn 3,Nn 4,Nn 5,Nn 6,Nn 7,Nn 8,Nn 9,Nn 10,Nn 11] ?_
      refine Di ?_
      refine Ae ?_
      refine Wo ?_
      refine sf_cond (by rfl) (fun e => by cases e) fun z1 => ?_
      clear z1
      refine Wo ?_
      refine fops_keep [0, 1, 2, 3, 8, 9, 10, 11, 95, 96, 97, 98] ?_
      exact tail.out
  refine fp (y_call (partition_f (M := M) _ v B3 f3 g3 a1 b1 p (by omega) (by omega) (by omega) hp) (by rfl) ?_)
  obtain ⟨mid, ap, d4, hx⟩ : ∃ mid ap d4, Sort.partition ltInt f3 a1 b1 p = (mid, ap, d4) := ⟨_, _, _, rfl⟩
  rw [hx]
  rintro _ A1 ⟨rfl, g4⟩
  simp only at g4
  obtain ⟨k1, k2, k3, k4, k5, k6, k7⟩ := round_part swo_ltInt (partition_holds ltInt) hp.1 hp.2 (by omega) B3' hx
  refine Wo ?_
  refine sf_if (fun h7 => ?_) fun h7 => ?_
  · refine Wo ?_
    refine fp (y_call (ih (mid - a1) (by omega) _ v A1 d4 g4 a1 mid l2 (by omega) (by omega) k1 hl2 k4 rfl) (by rfl) ?_)
    rintro _ A2 ⟨rfl, d5, g5, p5, s5⟩
    obtain ⟨j1, j2⟩ := k6 d5 p5 s5
    refine Wo ?_
    exact ⟨(mid + 1, b1, l2, _, ap, d5), by simp only; omega, ⟨rfl, rfl, rfl, rfl, rfl, trivial⟩, rfl, A2, _, inferInstance, g5, (p5.1.trans k3).trans hs3, by simp only; omega, hb1, hl2, j1, by simp only; omega, fun R r1 r2 => by obtain ⟨q1, q2⟩ := j2 R r1 r2; exact hT3 R q1 q2⟩
  · refine Wo ?_
    refine fp (y_call (ih (b1 - (mid + 1)) (by omega) _ v A1 d4 g4 (mid + 1) b1 l2 (by omega) (by omega) (by omega) hl2 k5 rfl) (by rfl) ?_)
    rintro _ A2 ⟨rfl, d5, g5, p5, s5⟩
    obtain ⟨j1, j2⟩ := k7 d5 p5 s5
    refine Wo ?_
    exact ⟨(a1, mid, l2, _, ap, d5), by simp only; omega, ⟨rfl, rfl, rfl, rfl, rfl, trivial⟩, rfl, A2, _, inferInstance, g5, (p5.1.trans k3).trans hs3, by simp only; omega, by simp only; omega, hl2, j1, by simp only; omega, fun R r1 r2 => by obtain ⟨q1, q2⟩ := j2 R r1 r2; exact hT3 R q1 q2⟩
theorem sort_f (h : PHeap) (v : Value) (A : Own) (xs : List Int) (g : Gr A v 3 intF xs) (hs : xs.length ≤ 1000000) : CallF Tryz.prog M 285 [v] A h fun u A' => u = .tuple #[] ∧ Gr A' v 3 intF (sortF xs) := by
  have o := g.one
  refine Cs Tryz.func285 Tryz.ntmps285 ?_
  refine Wo ?_
  rw [IntKind.wrap_u64, show ((xs.length : Nat) : Int) % 18446744073709551616 = ((xs.length : Nat) : Int) by omega]
  refine fp (y_call (len_f (M := M) _ xs.length hs) (by rfl) ?_)
  rintro _ _ ⟨rfl, L, rfl, k1, k2⟩
  refine Wo ?_
  refine fp (y_call (pdqsort_f (M := M) xs.length _ v A xs.toArray g 0 xs.length (L : Int) (by simp) (by simpa using hs) (by omega) (by omega) (.inl rfl) (by omega)) (by rfl) ?_)
  rintro _ A2 ⟨rfl, d', g', p', s'⟩
  refine Wo ?_
  refine nO A2 ⟨rfl, ?_⟩
  have e := sorted_unique_holds (lt := ltInt) swo_ltInt (fun x y h1 h2 => by simp only [ltInt_is, decide_eq_false_iff_not] at h1 h2; omega) xs.toArray d' (by simpa using p') (by simpa using s')
  have e2 : d'.toList = sortF xs := by
    rw [e]; unfold sortF
    congr 1
    funext x y
    simp only [ltInt_is]
    by_cases h : y < x
    · simp [h] <;> omega
    · simp [h] <;> omega
  rw [← e2]; exact g'
end Go.Proofs.YtekjikbaefgncaaGreatDoor
namespace Go.Proofs.YtekjikbaefgncaaGreatDoor
open Go Go.Sl
set_option maxRecDepth 100000
set_option maxHeartbeats 4000000
attribute [local irreducible] Go.Code.sf sfOps Opq opo retF Do1 anyO
variable {M : Jdg → Prop} [IsCl Tryz.prog M]
theorem compact_f (h : PHeap) (v : Value) (A : Own) (xs : List Int) (g : Gr A v 3 intF xs) (hs : xs.length ≤ 1000000) : CallF Tryz.prog M 286 [v] A h fun u A' => Gr A' u 3 intF (compactF xs) := by
  have o := g.one
  refine Cs Tryz.func286 Tryz.ntmps286 ?_
  refine Wo ?_
  refine sf_if (fun h1 => ?_) fun h1 => ?_
  · refine Wo ?_
    refine sf_ret (rO A ?_)
    match xs, h1 with
    | [], _ => exact g
    | [x], _ => exact g
    | x :: y :: l, h1 => simp at h1; omega
  refine Wo ?_
  refine sf_lp (ι := Nat) [0] (fun x => [(3, .int .i64 (x : Int))]) (fun x O => O = A ∧ 1 ≤ x ∧ x ≤ xs.length ∧ compactF (xs.take x) = xs.take x) (fun x => xs.length - x) 1 A ⟨rfl, by omega, by omega, by rw [take_succ_gt (by omega : 0 < xs.length)]; rfl⟩ ?_
  rintro k O0 ⟨rfl, hk1, hk2, hinv⟩
  refine Wo ?_
  refine sf_if (fun h2 => ?_) fun h2 => ?_
  · have q1 : gt xs ((k : Int) - 1).toNat = gt xs (k - 1) := by congr 1; omega
    have hst := compactF_step (xs := xs) (j := k - 1) (by omega)
    rw [show k - 1 + 2 = k + 1 by omega, show k - 1 + 1 = k by omega] at hst
    refine Wo ?_
    refine Sd [[],[],[0,1],[0,1,2],[],[],[5],[4,5,6],[4,5,6,7],[0,1,2,3,4,5,6,7,8]] 9 [Nn 0,Nn 1,Nn 2,Nn 3,Nn 4,Nn 5,Nn 6,Nn 7,Nn 8] ?_
    refine Di ?_
    refine Ae ?_
    refine Wo ?_
    rw [q1]
    refine sf_if (fun h3 => ?_) fun h3 => ?_
    · rw [if_pos h3, hinv] at hst
      obtain ⟨b, cap, rfl, hcap⟩ := g.shape (by omega)
      refine Wo ?_
      refine fp (Rq ?_ (q_sliceLo (l := k) (by infer_instance) (by infer_instance) (by rfl) (by rfl) (by omega)))
      rw [if_neg (by omega : ¬ cap = k)]
      refine Wo ?_
      refine sf_lp (ι := Nat × Nat × List Int) [0, 4] (fun x => [(3, .int .i64 (x.1 : Int)), (5, .int .i64 (x.2.1 : Int))]) (fun x O => Gr O (.slice (some ⟨b, 0, none⟩) xs.length cap) 3 intF x.2.2 ∧ x.2.2.length = xs.length ∧ 1 ≤ x.2.1 ∧ x.2.1 ≤ xs.length - k ∧ 1 ≤ x.1 ∧ x.1 + 1 ≤ k + x.2.1 ∧ x.2.2.take x.1 = compactF (xs.take (k + x.2.1)) ∧ ∀ i, k + x.2.1 ≤ i + 1 → gt x.2.2 i = gt xs i) (fun x => xs.length - x.2.1) (k, 1, xs) _ ⟨g, rfl, by simp only; omega, by simp only; omega, hk1, by simp only; omega, hst.symm, fun _ _ => rfl⟩ ?_
      rintro ⟨j, m, ys⟩ O ⟨gy, hly, hm1, hm2, hj1, hj2, hy1, hy2⟩
      simp only at gy hly hm1 hm2 hj1 hj2 hy1 hy2 ⊢
      clear hinv q1
      refine Wo ?_
      refine sf_if (fun h4 => ?_) fun h4 => ?_
      · have u1 : gt ys (k + ((m : Int)).toNat) = gt xs (k + m) := by rw [Int.toNat_natCast]; exact hy2 _ (by omega)
        have u2 : gt ys (k + ((m : Int) - 1).toNat) = gt xs (k + m - 1) := by rw [show k + ((m : Int) - 1).toNat = k + m - 1 by omega]; exact hy2 _ (by omega)
        have hs2 := compactF_step (xs := xs) (j := k + m - 1) (by omega)
        rw [show k + m - 1 + 2 = k + (m + 1) by omega, show k + m - 1 + 1 = k + m by omega, ← hy1] at hs2
        refine Wo ?_
        refine Sd [[],[],[0,1],[0,1,2],[],[],[5],[4,5,6],[4,5,6,7],[0,1,2,3,4,5,6,7,8]] 9 [Nn 0,Nn 1,Nn 2,Nn 3,Nn 4,Nn 5,Nn 6,Nn 7,Nn 8] ?_
        refine Da ?_
        refine Yq (by rfl) (fun X h' [_] => z_indexT (k := k) (size := 1) (by rfl) (by rfl) (.slice (some ⟨b, 0, none⟩) xs.length cap) ⟨rfl, rfl⟩ (by omega) (by omega) (by omega) (by infer_instance) (by infer_instance)) ?_
        refine Da ?_
        refine Yq (by rfl) (fun X h' [_] => z_indexT (k := k) (size := 1) (by rfl) (by rfl) (.slice (some ⟨b, 0, none⟩) xs.length cap) ⟨rfl, rfl⟩ (by omega) (by omega) (by omega) (by infer_instance) (by infer_instance)) ?_
        refine Da ?_
        refine Ae ?_
        refine Wo ?_
        rw [u1, u2]
        refine sf_if (fun h5 => ?_) fun h5 => ?_
        · refine Wo ?_
          rw [if_neg h5] at hs2
          refine fp (Rq ?_ (z_indexT (k := k) (size := 1) (by rfl) (by rfl) (.slice (some ⟨b, 0, none⟩) xs.length cap) ⟨rfl, rfl⟩ (by omega) (by omega) (by omega) (by infer_instance) (by infer_instance)))
          refine Wo ?_
          refine Xg gy fun A2 zs hz hlz fz gz => ?_
          refine Wo ?_
          rw [u1] at hz
          refine ⟨(j + 1, m + 1, zs), by simp only; omega, ⟨rfl, rfl, trivial⟩, rfl, A2, _, inferInstance, gz, by simp only; omega, by simp only; omega, by simp only; omega, by simp only; omega, by simp only; omega, ?_, ?_⟩
          · simp only
            rw [hs2, hz, take_succ_gt (by simp; omega), gt_set (by omega), List.take_set_of_le (by omega)]
          · intro i hi
            simp only at hi ⊢
            rw [hz, gt_set_ne (by omega)]
            exact hy2 i (by omega)
        · rw [if_pos (by omega)] at hs2
          refine Wo ?_
          refine ⟨(j, m + 1, ys), by simp only; omega, ⟨rfl, rfl, trivial⟩, rfl, O, _, inferInstance, gy, hly, by simp only; omega, by simp only; omega, hj1, by simp only; omega, hs2.symm, fun i hi => hy2 i (by simp only at hi; omega)⟩
      · refine sf_exit ?_
        have hm : k + m = xs.length := by omega
        rw [hm, List.take_of_length_le (Nat.le_refl _)] at hy1
        refine Wo ?_
        refine fp (Rq ?_ (q_sliceLo (l := j) (by infer_instance) (by infer_instance) (by rfl) (by rfl) (by omega)))
        rw [if_neg (by omega : ¬ cap = j)]
        refine fp (y_clearT (k := j) (size := 1) (by rfl) (by rfl) gy ⟨rfl, rfl⟩ (by omega) (by omega) (by omega) (by infer_instance) (by infer_instance) (by infer_instance) (by infer_instance) (by infer_instance) (by rfl) (by decide) fun A2 gz => ?_)
        refine Wo ?_
        refine fp (Rq ?_ (q_sliceHi (l := j) (by infer_instance) (by infer_instance) (by rfl) (by rfl) (by omega)))
        refine Wo ?_
        obtain ⟨b2, cap2, e2, hc2, cut⟩ := gz.cut (by simp; omega)
        have hcut := cut j (by simp; omega)
        rw [Value.slice.injEq] at e2
        obtain ⟨e3, _, rfl⟩ := e2
        simp only [Option.some.injEq, Addr.mk.injEq] at e3
        obtain rfl := e3.1
        refine sf_ret (rO A2 ?_)
        rw [← hy1]
        rw [List.take_left' (by rw [List.length_take]; omega)] at hcut
        exact hcut
    · refine Wo ?_
      rw [if_neg h3, hinv] at hst
      exact ⟨k + 1, by omega, ⟨rfl, trivial⟩, rfl, _, _, inferInstance, rfl, by omega, by omega, by rw [hst, take_succ_gt (by omega : k < xs.length)]⟩
  · refine sf_exit ?_
    refine Wo ?_
    refine sf_ret (rO O0 ?_)
    rw [List.take_of_length_le (by omega)] at hinv
    rw [hinv]; exact g
theorem l1Copy_f (h : PHeap) (ca : List Value) (g : Grid) (b : (gridR τ).B h ca g) (hs : g.cells.length ≤ 1048576) : CallF Tryz.prog M 134 [.agg ca.toArray] [] h fun v A => ∃ cs, v = .agg cs.toArray ∧ (gridR τ).O A cs g := by
  obtain ⟨c, rfl, s⟩ := gridB b
  have o1 := s.one
  refine Cs Tryz.func134 Tryz.ntmps134 ?_
  repeat first | refine R1 ?_ | refine R2 fun _ => ?_
  refine Sd [[],[0],[],[],[3],[2,3,4],[0,1,2,3,4,5],[0,1,2,3,4,5,6]] 6 [Nn 0,Nn 1,Nn 3,Nn 4,Yy 2,Yy 5] ?_
  refine Da ?_
  refine Yb fun w A gw => ?_
  refine Ys gw s fun w2 A2 g2 => ?_
  have o2 := g2.one
  refine Ae ?_
  repeat first | refine R1 ?_ | refine R2 fun _ => ?_
  exact sf_ret (rO A2 ⟨_, rfl, gridO_mk g2 (by omega)⟩)
def typedV (c : Cell) : Value :=
  if c.kind = 7 then .iface 307 (.agg #[.int .i64 c.light])
  else if cellOk c then
    if c.kind = 0 then .iface 308 (.agg #[]) else if c.kind = 1 then .iface 309 (.agg #[]) else if c.kind = 2 then .iface 310 (.agg #[]) else if c.kind = 3 then .iface 311 (.agg #[])
    else if c.kind = 4 then .iface 312 (.agg #[]) else if c.kind = 5 then .iface 313 (.agg #[]) else .iface 314 (.agg #[])
  else .nilIface
theorem cellTyped_v (h : PHeap) (c : Cell) : CallV Tryz.prog M 219 [.agg #[.int .i64 c.kind, .int .i64 c.light]] h (.tuple #[typedV c, .bool (cellOk c)]) := by
  obtain ⟨k, l⟩ := c
  refine Cs Tryz.func219 Tryz.ntmps219 ?_
  repeat first | refine R1 ?_ | refine R2 fun _ => ?_
  refine sf_if (fun h1 => ?_) fun h1 => ?_
  · by_cases h2 : l ≥ 1 <;>
    · repeat first | refine R1 ?_ | refine R2 fun _ => ?_
      refine Sd [[],[0],[0,1],[0,1,2],[],[4],[4,5],[4,5,6],[4,5,6,7],[4,5,6,7,8],[4,5,6,7,8,9],[4,5,6,7,8,9,10],[0,1,2,3,4,5,6,7],[0,1,2,3,4,5,6,7,8,9,10,11,12]] 13 [Nn 0,Nn 1,Nn 2,Nn 3,Nn 4,Nn 5,Nn 6,Nn 7,Nn 8,Nn 9,Nn 10,Nn 11,Nn 12] ?_
      refine Da ?_
      refine Ae ?_
      repeat first | refine R1 ?_ | refine R2 fun _ => ?_
      refine sf_ret (rV ?_)
      simp [typedV, cellOk, h1, h2]
  · repeat first | refine R1 ?_ | refine R2 fun _ => ?_
    refine f_split (fun h2 => ?_) fun h2 => ?_
    · repeat first | refine R1 ?_ | refine R2 fun _ => ?_
      refine sf_T rfl ?_
      repeat first | refine R1 ?_ | refine R2 fun _ => ?_
      refine sf_ret (rV ?_)
      simp [typedV, cellOk, h1, show ¬ 0 ≤ k by omega]
    · repeat first | refine R1 ?_ | refine R2 fun _ => ?_
      refine f_split (fun h3 => ?_) fun h3 => ?_
      · repeat first | refine R1 ?_ | refine R2 fun _ => ?_
        refine sf_T rfl ?_
        repeat first | refine R1 ?_ | refine R2 fun _ => ?_
        refine sf_ret (rV ?_)
        simp [typedV, cellOk, h1, show ¬ k ≤ 6 by omega]
      · repeat first | refine R1 ?_ | refine R2 fun _ => ?_
        refine sf_if (fun h4 => ?_) fun h4 => ?_
        · repeat first | refine R1 ?_ | refine R2 fun _ => ?_
          refine sf_ret (rV ?_)
          simp [typedV, cellOk, h1, h4]
        · obtain ⟨n, rfl⟩ : ∃ n : Nat, k = n := ⟨k.toNat, by omega⟩
          have hn : n = 0 ∨ n = 1 ∨ n = 2 ∨ n = 3 ∨ n = 4 ∨ n = 5 ∨ n = 6 := by omega
          repeat first | refine R1 ?_ | refine R2 fun _ => ?_
          rcases hn with rfl | rfl | rfl | rfl | rfl | rfl | rfl <;>
          · repeat first | refine R1 ?_ | refine R2 fun _ => ?_
            refine sf_ret (rV ?_)
            simp at h4
            simp [typedV, cellOk, h4]
theorem cellOk_v (h : PHeap) (c : Cell) : CallV Tryz.prog M 189 [.agg #[.int .i64 c.kind, .int .i64 c.light]] h (.bool (cellOk c)) := by
  refine Cs Tryz.func189 Tryz.ntmps189 ?_
  repeat first | refine R1 ?_ | refine R2 fun _ => ?_
  refine Xv (cellTyped_v _ c) ?_
  repeat first | refine R1 ?_ | refine R2 fun _ => ?_
  exact sf_ret (rV rfl)
theorem gridOk_v (h : PHeap) (ca : List Value) (g : Grid) (b : (gridR τ).B h ca g) : CallV Tryz.prog M 138 [.agg ca.toArray] h (.bool (gridOk g)) := by
  obtain ⟨c, rfl, s⟩ := gridB b
  have o1 := s.one
  have hs := s.small
  refine Cs Tryz.func138 Tryz.ntmps138 ?_
  repeat first | refine R1 ?_ | refine R2 fun _ => ?_
  refine f_split (fun h1 => ?_) fun h1 => ?_
  · repeat first | refine R1 ?_ | refine R2 fun _ => ?_
    refine sf_T rfl ?_
    repeat first | refine R1 ?_ | refine R2 fun _ => ?_
    exact sf_ret (rV (by rw [gridOk_F (by omega)]))
  · repeat first | refine R1 ?_ | refine R2 fun _ => ?_
    refine sf_if (fun h2 => ?_) fun h2 => ?_
    · repeat first | refine R1 ?_ | refine R2 fun _ => ?_
      exact sf_ret (rV (by rw [gridOk_F (by omega)]))
    · repeat first | refine R1 ?_ | refine R2 fun _ => ?_
      refine f_split (fun h3 => ?_) fun h3 => ?_
      · repeat first | refine R1 ?_ | refine R2 fun _ => ?_
        refine sf_T rfl ?_
        repeat first | refine R1 ?_ | refine R2 fun _ => ?_
        exact sf_ret (rV (by rw [gridOk_F (by omega)]))
      · repeat first | refine R1 ?_ | refine R2 fun _ => ?_
        refine f_split (fun h4 => ?_) fun h4 => ?_
        · repeat first | refine R1 ?_ | refine R2 fun _ => ?_
          refine sf_T rfl ?_
          repeat first | refine R1 ?_ | refine R2 fun _ => ?_
          exact sf_ret (rV (by rw [gridOk_F (by omega)]))
        · repeat first | refine R1 ?_ | refine R2 fun _ => ?_
          refine sf_if (fun h5 => ?_) fun h5 => ?_
          · repeat first | refine R1 ?_ | refine R2 fun _ => ?_
            exact sf_ret (rV (by rw [gridOk_F (by omega)]))
          · repeat first | refine R1 ?_ | refine R2 fun _ => ?_
            refine sf_rd [36, 37] 38 g.cells.length 0 (fun k => (g.cells.take k).all cellOk = true) (by omega) rfl (fun k hk hi => ?_)
            repeat first | refine R1 ?_ | refine R2 fun _ => ?_
            refine sf_if (fun h6 => ?_) fun h6 => ?_
            · have hk4 : k < g.cells.length := by omega
              repeat first | refine R1 ?_ | refine R2 fun _ => ?_
              refine Xv (cellOk_v _ (gt g.cells k)) ?_
              repeat first | refine R1 ?_ | refine R2 fun _ => ?_
              refine sf_cond (by rfl) (fun h7 => ?_) fun h7 => ?_
              · repeat first | refine R1 ?_ | refine R2 fun _ => ?_
                simp only [Bool.not_eq_true'] at h7
                refine sf_ret (rV ?_)
                simp [gridOk, all_false hk4 h7]
              · repeat first | refine R1 ?_ | refine R2 fun _ => ?_
                refine ⟨⟨hk4, ?_⟩, rfl, rfl, _, inferInstance⟩
                rw [all_take hk4, hi]; simpa using h7
            · refine sf_exit ?_
              repeat first | refine R1 ?_ | refine R2 fun _ => ?_
              rw [take_ge hk (by omega)] at hi
              exact sf_ret (rV (by rw [(gridOk_iff g).2 ⟨⟨by omega, by omega⟩, by omega, by omega, by omega, hi⟩]))
theorem cloneCells_f (h : PHeap) (v : Value) (xs : List Cell) (s : Sl h v cellF xs) (hs : xs.length ≤ 1048576) : CallF Tryz.prog M 193 [v] [] h fun v' A => Gr A v' 67 cellF xs := by
  have o1 := s.one
  refine Cs Tryz.func193 Tryz.ntmps193 ?_
  refine Wo ?_
  refine fp (Rq ?_ (q_eqNil (by infer_instance) (by rfl) (by rfl) s))
  refine Wo ?_
  refine sf_cond (by rfl) (fun h1 => ?_) fun h1 => ?_
  · obtain ⟨rfl, rfl⟩ := isNilS_nil s h1
    refine Wo ?_
    exact sf_ret (rO [] (Gr.nil _ _))
  · refine Wo ?_
    refine Xb fun w A gw => ?_
    refine Wo ?_
    refine Xs gw s fun w2 A2 g2 => ?_
    refine Wo ?_
    exact sf_ret (rO A2 g2)
theorem gridCopy_f (h : PHeap) (ca : List Value) (g : Grid) (b : (gridR τ).B h ca g) (hs : g.cells.length ≤ 1048576) : CallF Tryz.prog M 145 [.agg ca.toArray] [] h fun v A => ∃ cs, v = .agg cs.toArray ∧ (gridR τ).O A cs g := by
  obtain ⟨c, rfl, s⟩ := gridB b
  have o1 := s.one
  refine Cs Tryz.func145 Tryz.ntmps145 ?_
  repeat first | refine R1 ?_ | refine R2 fun _ => ?_
  refine Sd [[],[0],[],[2],[2,3],[0,1,2,3,4],[0,1,2,3,4,5]] 5 [Nn 0,Nn 1,Nn 2,Nn 3,Yy 4] ?_
  refine Da ?_
  refine Yc (cloneCells_f _ _ _ s hs) fun w A g2 => ?_
  have o2 := g2.one
  refine Ae ?_
  repeat first | refine R1 ?_ | refine R2 fun _ => ?_
  exact sf_ret (rO A ⟨_, rfl, gridO_mk g2 (by omega)⟩)
instance : ElemF Tryz.prog 257 visitF := ⟨trivial⟩
instance : ElemF Tryz.prog 224 endF := ⟨trivial⟩
instance : ElemF Tryz.prog 226 rayF := ⟨trivial⟩
instance : ElemF Tryz.prog 333 beamF := ⟨trivial⟩
instance : ElemF Tryz.prog 4 boolF := ⟨trivial⟩
instance : EqFl Tryz.prog 226 rayF := eqFl_ray inferInstance (inferInstance : Ty Tryz.prog 3 _ 1 _ _) (by kernel_rfl)
theorem rowsOf_v (h : PHeap) (c : Value) (g : Grid) (s : Sl h c cellF g.cells) (hw : 1 ≤ g.wide) : CallV Tryz.prog M 232 [.agg #[.int .i64 g.wide, c]] h (.int .i64 (rowsOf g)) := by
  have o1 := s.one
  have hs := s.small
  refine Cs Tryz.func232 Tryz.ntmps232 ?_
  repeat first | refine R1 ?_ | refine R2 fun _ => ?_
  exact sf_ret (rV rfl)
theorem dirOk_v (h : PHeap) (d : Int) : CallV Tryz.prog M 281 [.int .i64 d] h (.bool (decide (0 ≤ d) && decide (d ≤ 3))) := by
  refine Cs Tryz.func281 Tryz.ntmps281 ?_
  refine Wo ?_
  refine f_split (fun h1 => ?_) fun h1 => ?_ <;>
  · refine Wo ?_
    refine sf_ret (rV ?_)
    simp [h1]
theorem dirOpposite_v (h : PHeap) (d : Int) (h0 : 0 ≤ d) (h1 : d ≤ 3) : CallV Tryz.prog M 291 [.int .i64 d] h (.int .i64 ((d + 2) % 4)) := by
  refine Cs Tryz.func291 Tryz.ntmps291 ?_
  refine Wo ?_
  exact sf_ret (rV rfl)
section
variable (h : PHeap) (c : Value) (g : Grid) (a : Int) (s : Sl h c cellF g.cells) (hw : 1 ≤ g.wide ∧ g.wide ≤ 5) (ha : 0 ≤ a ∧ a < 1000)
include s hw ha
theorem up_v : CallV Tryz.prog M 287 [.agg #[.int .i64 g.wide, c, .int .i64 a]] h (.tuple #[.int .i64 (a - g.wide), .bool (decide (g.wide ≤ a))]) := by
  have o1 := s.one
  refine Cs Tryz.func287 Tryz.ntmps287 ?_
  repeat first | refine R1 ?_ | refine R2 fun _ => ?_
  refine Sd [[],[0],[],[2],[2,3],[0,1,2,3,4],[],[6],[],[8],[8,9],[6,7,8,9,10],[0,1,2,3,4,5],[0,1,2,3,4,5,6,7,8,9,10,11,12]] 13 [Nn 0,Nn 1,Nn 2,Nn 3,Nn 4,Nn 5,Nn 6,Nn 7,Nn 8,Nn 9,Nn 10,Nn 11,Nn 12] ?_
  refine Da ?_
  refine Ae ?_
  repeat first | refine R1 ?_ | refine R2 fun _ => ?_
  exact sf_ret (rV rfl)
theorem right_v : CallV Tryz.prog M 288 [.agg #[.int .i64 g.wide, c, .int .i64 a]] h (.tuple #[.int .i64 (a + 1), .bool (decide (a % g.wide ≠ g.wide - 1))]) := by
  have o1 := s.one
  refine Cs Tryz.func288 Tryz.ntmps288 ?_
  repeat first | refine R1 ?_ | refine R2 fun _ => ?_
  refine Sd [[],[0],[0,1],[],[3],[],[5],[5,6],[3,4,5,6,7],[],[9],[9,10],[9,10,11],[3,4,5,6,7,8,9,10,11,12],[0,1,2],[0,1,2,3,4,5,6,7,8,9,10,11,12,13,14]] 15 [Nn 0,Nn 1,Nn 2,Nn 3,Nn 4,Nn 5,Nn 6,Nn 7,Nn 8,Nn 9,Nn 10,Nn 11,Nn 12,Nn 13,Nn 14] ?_
  refine Da ?_
  refine Ae ?_
  repeat first | refine R1 ?_ | refine R2 fun _ => ?_
  exact sf_ret (rV rfl)
theorem down_v : CallV Tryz.prog M 289 [.agg #[.int .i64 g.wide, c, .int .i64 a]] h (.tuple #[.int .i64 (a + g.wide), .bool (decide (a + g.wide < g.cells.length))]) := by
  have o1 := s.one
  refine Cs Tryz.func289 Tryz.ntmps289 ?_
  repeat first | refine R1 ?_ | refine R2 fun _ => ?_
  refine Sd [[],[0],[],[2],[2,3],[0,1,2,3,4],[],[6],[],[8],[8,9],[6,7,8,9,10],[],[12],[12,13],[12,13,14],[6,7,8,9,10,11,12,13,14,15],[0,1,2,3,4,5],[0,1,2,3,4,5,6,7,8,9,10,11,12,13,14,15,16,17]] 18 [Nn 0,Nn 1,Nn 2,Nn 3,Nn 4,Nn 5,Nn 6,Nn 7,Nn 8,Nn 9,Nn 10,Nn 11,Nn 12,Nn 13,Nn 14,Nn 15,Nn 16,Nn 17] ?_
  refine Da ?_
  refine Ae ?_
  repeat first | refine R1 ?_ | refine R2 fun _ => ?_
  exact sf_ret (rV rfl)
theorem left_v : CallV Tryz.prog M 290 [.agg #[.int .i64 g.wide, c, .int .i64 a]] h (.tuple #[.int .i64 (a - 1), .bool (decide (a % g.wide ≠ 0))]) := by
  have o1 := s.one
  refine Cs Tryz.func290 Tryz.ntmps290 ?_
  repeat first | refine R1 ?_ | refine R2 fun _ => ?_
  refine Sd [[],[0],[0,1],[],[3],[],[5],[5,6],[3,4,5,6,7],[3,4,5,6,7,8],[0,1,2],[0,1,2,3,4,5,6,7,8,9,10]] 11 [Nn 0,Nn 1,Nn 2,Nn 3,Nn 4,Nn 5,Nn 6,Nn 7,Nn 8,Nn 9,Nn 10] ?_
  refine Da ?_
  refine Ae ?_
  repeat first | refine R1 ?_ | refine R2 fun _ => ?_
  exact sf_ret (rV rfl)
end
def stepV (g : Grid) (a d : Int) : Value := match nextAt g a d with
  | some b => .tuple #[.agg #[.int .i64 b, .int .i64 d], .bool true]
  | none => .tuple #[.agg #[.int .i64 0, .int .i64 0], .bool false]
theorem rayStep_v (h : PHeap) (c : Value) (g : Grid) (a d : Int) (s : Sl h c cellF g.cells) (hw : 1 ≤ g.wide ∧ g.wide ≤ 5) (ha : 0 ≤ a ∧ a < 1000) (hd : 0 ≤ d ∧ d ≤ 3) : CallV Tryz.prog M 279 [.agg #[.int .i64 g.wide, c], .int .i64 a, .int .i64 d] h (stepV g a d) := by
  have o1 := s.one
  obtain ⟨n, rfl⟩ : ∃ n : Nat, d = n := ⟨d.toNat, by omega⟩
  have hn : n = 0 ∨ n = 1 ∨ n = 2 ∨ n = 3 := by omega
  refine Cs Tryz.func279 Tryz.ntmps279 ?_
  repeat first | refine R1 ?_ | refine R2 fun _ => ?_
  rcases hn with rfl | rfl | rfl | rfl
  · refine Sd [[],[0],[0,1],[],[],[3,4],[0,1,2,3,4,5],[0,1,2,3,4,5,6],[0,1,2,3,4,5,6,7],[0,1,2,3,4,5,6,7],[0,1,2,3,4,5,6,7,8],[0,1,2,3,4,5,6,7,8,9,10]] 11 [Nn 0,Nn 1,Nn 2,Nn 3,Nn 4,Nn 5,Yy 6,Nn 7,Nn 8,Nn 9,Nn 10] ?_
    refine Da ?_
    refine a_callC (by rfl) (by rfl) (by rfl) (by exact up_v h c g a s hw ha) (.inl rfl) ?_
    rintro _ _ ⟨rfl, rfl⟩
    refine Da ?_
    refine Ae ?_
    repeat first | refine R1 ?_ | refine R2 fun _ => ?_
    refine sf_ifn (fun e => ?_) fun e => ?_
    · repeat first | refine R1 ?_ | refine R2 fun _ => ?_
      refine sf_ret (rV ?_)
      simp [stepV, nextAt, e]
    · repeat first | refine R1 ?_ | refine R2 fun _ => ?_
      refine sf_ret (rV ?_)
      simp [stepV, nextAt, e]
  · refine Sd [[],[0],[0,1],[],[],[3,4],[0,1,2,3,4,5],[0,1,2,3,4,5,6],[0,1,2,3,4,5,6,7],[0,1,2,3,4,5,6,7],[0,1,2,3,4,5,6,7,8],[0,1,2,3,4,5,6,7,8,9,10]] 11 [Nn 0,Nn 1,Nn 2,Nn 3,Nn 4,Nn 5,Yy 6,Nn 7,Nn 8,Nn 9,Nn 10] ?_
    refine Da ?_
    refine a_callC (by rfl) (by rfl) (by rfl) (by exact right_v h c g a s hw ha) (.inl rfl) ?_
    rintro _ _ ⟨rfl, rfl⟩
    refine Da ?_
    refine Ae ?_
    repeat first | refine R1 ?_ | refine R2 fun _ => ?_
    refine sf_ifn (fun e => ?_) fun e => ?_
    · repeat first | refine R1 ?_ | refine R2 fun _ => ?_
      refine sf_ret (rV ?_)
      simp [stepV, nextAt, e]
    · repeat first | refine R1 ?_ | refine R2 fun _ => ?_
      refine sf_ret (rV ?_)
      simp [stepV, nextAt, e]
  · refine Sd [[],[0],[0,1],[],[],[3,4],[0,1,2,3,4,5],[0,1,2,3,4,5,6],[0,1,2,3,4,5,6,7],[0,1,2,3,4,5,6,7],[0,1,2,3,4,5,6,7,8],[0,1,2,3,4,5,6,7,8,9,10]] 11 [Nn 0,Nn 1,Nn 2,Nn 3,Nn 4,Nn 5,Yy 6,Nn 7,Nn 8,Nn 9,Nn 10] ?_
    refine Da ?_
    refine a_callC (by rfl) (by rfl) (by rfl) (by exact down_v h c g a s hw ha) (.inl rfl) ?_
    rintro _ _ ⟨rfl, rfl⟩
    refine Da ?_
    refine Ae ?_
    repeat first | refine R1 ?_ | refine R2 fun _ => ?_
    refine sf_ifn (fun e => ?_) fun e => ?_
    · repeat first | refine R1 ?_ | refine R2 fun _ => ?_
      refine sf_ret (rV ?_)
      simp [stepV, nextAt, e]
    · repeat first | refine R1 ?_ | refine R2 fun _ => ?_
      refine sf_ret (rV ?_)
      simp [stepV, nextAt, e]
  · refine Sd [[],[0],[0,1],[],[],[3,4],[0,1,2,3,4,5],[0,1,2,3,4,5,6],[0,1,2,3,4,5,6,7],[0,1,2,3,4,5,6,7],[0,1,2,3,4,5,6,7,8],[0,1,2,3,4,5,6,7,8,9,10]] 11 [Nn 0,Nn 1,Nn 2,Nn 3,Nn 4,Nn 5,Yy 6,Nn 7,Nn 8,Nn 9,Nn 10] ?_
    refine Da ?_
    refine a_callC (by rfl) (by rfl) (by rfl) (by exact left_v h c g a s hw ha) (.inl rfl) ?_
    rintro _ _ ⟨rfl, rfl⟩
    refine Da ?_
    refine Ae ?_
    repeat first | refine R1 ?_ | refine R2 fun _ => ?_
    refine sf_ifn (fun e => ?_) fun e => ?_
    · repeat first | refine R1 ?_ | refine R2 fun _ => ?_
      refine sf_ret (rV ?_)
      simp [stepV, nextAt, e]
    · repeat first | refine R1 ?_ | refine R2 fun _ => ?_
      refine sf_ret (rV ?_)
      simp [stepV, nextAt, e]
theorem dirTurn_v (h : PHeap) (k d : Int) (hd : 0 ≤ d ∧ d ≤ 3) : CallV Tryz.prog M 260 [.int .i64 k, .int .i64 d] h (.int .i64 (dirTurn k d)) := by
  obtain ⟨n, rfl⟩ : ∃ n : Nat, d = n := ⟨d.toNat, by omega⟩
  have hn : n = 0 ∨ n = 1 ∨ n = 2 ∨ n = 3 := by omega
  refine Cs Tryz.func260 Tryz.ntmps260 ?_
  refine Wo ?_
  refine Xv (dirOk_v _ _) ?_
  refine Wo ?_
  refine sf_cond (by rfl) (fun e => by simp at e; omega) fun _ => ?_
  refine Wo ?_
  rcases hn with rfl | rfl | rfl | rfl <;>
  · refine sf_if (fun e1 => ?_) fun e1 => ?_
    · refine Wo ?_
      refine sf_if (fun _ => ?_) fun e => absurd e1 e
      refine Wo ?_
      refine fp (Rq ?_ (q_index (by infer_instance) (by infer_instance) (by rfl) (by rfl) (by decide) (by decide) (by rfl)))
      refine Wo ?_
      refine sf_ret (rV ?_)
      simp [dirTurn, e1]
    · refine Wo ?_
      refine sf_if (fun e2 => ?_) fun e2 => ?_
      · refine Wo ?_
        refine fp (Rq ?_ (q_index (by infer_instance) (by infer_instance) (by rfl) (by rfl) (by decide) (by decide) (by rfl)))
        refine Wo ?_
        refine sf_ret (rV ?_)
        simp [dirTurn, e2]
      · refine Wo ?_
        refine sf_if (fun e3 => ?_) fun e3 => ?_
        · refine Wo ?_
          refine sf_if (fun _ => ?_) fun e => absurd e3 e
          refine Wo ?_
          refine fp (Rq ?_ (q_index (by infer_instance) (by infer_instance) (by rfl) (by rfl) (by decide) (by decide) (by rfl)))
          refine Wo ?_
          refine sf_ret (rV ?_)
          simp [dirTurn, e3]
        · refine Wo ?_
          refine sf_if (fun e4 => ?_) fun e4 => ?_
          · refine Wo ?_
            refine fp (Rq ?_ (q_index (by infer_instance) (by infer_instance) (by rfl) (by rfl) (by decide) (by decide) (by rfl)))
            refine Wo ?_
            refine sf_ret (rV ?_)
            simp [dirTurn, e4]
          · refine Wo ?_
            refine sf_ret (rV ?_)
            simp [dirTurn, e1, e2, e3, e4]
theorem sidesToldR_f (h : PHeap) (c : Value) (g : Grid) (s : Sl h c cellF g.cells) (hw : 1 ≤ g.wide ∧ g.wide ≤ 5) (rw' : Nat) (ww : Nat) (ew : g.wide = ww) (er : rowsOf g = rw') (hl : g.cells.length = rw' * ww) (hr : 1 ≤ rw' ∧ rw' ≤ 5) (f : FuncId) [Fun Tryz.prog f] (cap : Array Value) (St : Nat → Own) (val : Nat → Ray)
    (C : ∀ k, k < 2 * (ww + rw') → CallF Tryz.prog M f ([.int .i64 (k : Int), .agg #[.int .i64 (rayAt g (k : Nat)).at', .int .i64 (rayAt g (k : Nat)).dir]] ++ cap.toList) (St k) h fun v A => v = .agg #[.int .i64 (val k).at', .int .i64 (val k).dir] ∧ A = St (k + 1)) :
    CallF Tryz.prog M 272 [.agg #[.int .i64 g.wide, c], .func (.func f) #[] cap] (St 0) h fun v A => ∃ A', A = St (2 * (ww + rw')) ++ A' ∧ Gr A' v 226 rayF ((List.range (2 * (ww + rw'))).map val) := by
  have o1 := s.one
  have ray : ∀ (k : Nat), k < 2 * (ww + rw') → ∀ x y, rayAt g (k : Nat) = ⟨x, y⟩ → CallF Tryz.prog M f (#[].toList ++ [.int .i64 (k : Int), .agg #[.int .i64 x, .int .i64 y]] ++ cap.toList) (St k) h fun v A => v = .agg #[.int .i64 (val k).at', .int .i64 (val k).dir] ∧ A = St (k + 1) := fun k hk x y e => by
    have := C k hk
    rw [e] at this; exact this
  have step : ∀ (k : Nat) (xs : List Ray), xs.length = k → xs = (List.range k).map val → xs ++ [val k] = (List.range (k + 1)).map val := fun k xs _ e => by rw [List.range_succ, List.map_append, e]; rfl
  refine Cs Tryz.func272 Tryz.ntmps272 ?_
  repeat first | refine R1 ?_ | refine R2 fun _ => ?_
  refine Sd [[],[0],[],[2],[0,1,2,3],[0,1,2,3,4]] 4 [Nn 0,Nn 1,Nn 2,Yy 3] ?_
  refine Da ?_
  refine Yv (rowsOf_v h c g s hw.1) ?_
  rw [er]
  refine Da ?_
  refine Ae ?_
  repeat first | refine R1 ?_ | refine R2 fun _ => ?_
  obtain ⟨N, hN⟩ : ∃ N : Nat, 2 * (g.wide + (rw' : Int)) = N := ⟨2 * (ww + rw'), by omega⟩
  rw [hN]
  refine fp (y_make0 (by rfl) (by rfl) (by rfl) (by decide) (by omega) fun w A g0 => ?_)
  repeat first | refine R1 ?_ | refine R2 fun _ => ?_
  rename_i b2
  refine sf_lp (ι := Nat × Value) [1, 5, 6, 21] (fun x => [(22, .int .i64 (x.1 : Int)), (7, x.2)]) (fun x O => x.1 ≤ ww ∧ ∃ A', O = St x.1 ++ (A' ++ [(b2, .cells #[.int .i64 g.wide, c] 34)]) ∧ ∃ xs, xs.length = x.1 ∧ xs = (List.range x.1).map val ∧ Gr A' x.2 226 rayF xs) (fun x => ww - x.1) (0, w) (St 0 ++ (A ++ [(b2, .cells #[.int .i64 g.wide, c] 34)])) ⟨by omega, A, rfl, [], rfl, rfl, g0⟩ ?_
  rintro ⟨j, v⟩ O ⟨hj, A', rfl, xs, hx, ex, gr⟩
  simp only at hj hx ex gr ⊢
  subst hx
  have o2 := gr.one
  repeat first | refine R1 ?_ | refine R2 fun _ => ?_
  refine sf_if (fun e => ?_) fun e => ?_
  · repeat first | refine R1 ?_ | refine R2 fun _ => ?_
    refine fp (y_callC2 (by rfl) (by rfl) (by exact ray xs.length (by omega) xs.length 2 (by unfold rayAt; rw [if_pos (by omega)])) ?_)
    rintro _ _ ⟨rfl, rfl⟩
    repeat first | refine R1 ?_ | refine R2 fun _ => ?_
    refine Xb fun u Au gu => ?_
    repeat first | refine R1 ?_ | refine R2 fun _ => ?_
    refine Xa gr gu fun v2 A2 g2 => ?_
    repeat first | refine R1 ?_ | refine R2 fun _ => ?_
    exact ⟨(xs.length + 1, v2), by simp only; omega, ⟨rfl, rfl, trivial⟩, rfl, St (xs.length + 1) ++ (A2 ++ [(b2, .cells #[.int .i64 g.wide, c] 34)]), _, inferInstance, by simp only; omega, A2, rfl, _, by simp, step _ xs rfl ex, g2⟩
  refine sf_exit ?_
  obtain rfl : ww = xs.length := by omega
  clear g0 w A e hj
  repeat first | refine R1 ?_ | refine R2 fun _ => ?_
  refine sf_lp (ι := Nat × Value) [1, 5, 6, 35] (fun x => [(36, .int .i64 (x.1 : Int)), (7, x.2)]) (fun x O => x.1 ≤ rw' ∧ ∃ A', O = St (xs.length + x.1) ++ (A' ++ [(b2, .cells #[.int .i64 g.wide, c] 34)]) ∧ ∃ ys, ys.length = xs.length + x.1 ∧ ys = (List.range (xs.length + x.1)).map val ∧ Gr A' x.2 226 rayF ys) (fun x => rw' - x.1) (0, v) (St xs.length ++ (A' ++ [(b2, .cells #[.int .i64 g.wide, c] 34)])) ⟨by omega, A', rfl, xs, rfl, ex, gr⟩ ?_
  rintro ⟨j, v⟩ O ⟨hj, A', rfl, ys, hx, ey, gr⟩
  simp only at hj hx ey gr ⊢
  have o2 := gr.one
  repeat first | refine R1 ?_ | refine R2 fun _ => ?_
  refine sf_if (fun e => ?_) fun e => ?_
  · have hm : 0 ≤ (j : Int) * g.wide ∧ (j : Int) * g.wide ≤ 4 * 5 := ⟨Int.mul_nonneg (by omega) (by omega), Int.mul_le_mul (by omega) (by omega) (by omega) (by omega)⟩
    repeat first | refine R1 ?_ | refine R2 fun _ => ?_
    rw [← hx]
    refine fp (y_callC2 (by rfl) (by rfl) (by exact ray ys.length (by omega) _ 3 (by unfold rayAt; rw [if_neg (by omega), if_pos (by omega)]; exact ray_ext (by rw [show ((ys.length : Nat) : Int) - g.wide = j by omega]) rfl)) ?_)
    rintro _ _ ⟨rfl, rfl⟩
    repeat first | refine R1 ?_ | refine R2 fun _ => ?_
    refine Xb fun u Au gu => ?_
    repeat first | refine R1 ?_ | refine R2 fun _ => ?_
    refine Xa gr gu fun v2 A2 g2 => ?_
    repeat first | refine R1 ?_ | refine R2 fun _ => ?_
    exact ⟨(j + 1, v2), by simp only; omega, ⟨rfl, rfl, trivial⟩, rfl, St (ys.length + 1) ++ (A2 ++ [(b2, .cells #[.int .i64 g.wide, c] 34)]), _, inferInstance, by simp only; omega, A2, by simp only [hx]; rfl, _, by simp; omega, by rw [step _ ys rfl (by rw [hx]; exact ey), hx]; rfl, g2⟩
  refine sf_exit ?_
  obtain rfl : rw' = j := by omega
  clear e hj
  have gr' := gr
  clear gr
  have hl' : (g.cells.length : Int) = (rw' : Int) * g.wide := by rw [ew, hl, Int.natCast_mul]
  have hm0 : 0 ≤ (rw' : Int) * g.wide ∧ (rw' : Int) * g.wide ≤ 5 * 5 := ⟨Int.mul_nonneg (by omega) (by omega), Int.mul_le_mul (by omega) (by omega) (by omega) (by omega)⟩
  repeat first | refine R1 ?_ | refine R2 fun _ => ?_
  refine sf_lp (ι := Nat × Value) [1, 5, 6, 54] (fun x => [(55, .int .i64 (x.1 : Int)), (7, x.2)]) (fun x O => x.1 ≤ xs.length ∧ ∃ A', O = St (xs.length + rw' + x.1) ++ (A' ++ [(b2, .cells #[.int .i64 g.wide, c] 34)]) ∧ ∃ ys, ys.length = xs.length + rw' + x.1 ∧ ys = (List.range (xs.length + rw' + x.1)).map val ∧ Gr A' x.2 226 rayF ys) (fun x => xs.length - x.1) (0, v) (St (xs.length + rw') ++ (A' ++ [(b2, .cells #[.int .i64 g.wide, c] 34)])) ⟨by omega, A', rfl, ys, hx, ey, gr'⟩ ?_
  clear gr' ey hx o2 ys
  rintro ⟨j, v⟩ O ⟨hj, A', rfl, ys, hx, ey, gr⟩
  simp only at hj hx ey gr ⊢
  have o2 := gr.one
  repeat first | refine R1 ?_ | refine R2 fun _ => ?_
  refine sf_if (fun e => ?_) fun e => ?_
  · repeat first | refine R1 ?_ | refine R2 fun _ => ?_
    rw [← hx]
    refine fp (y_callC2 (by rfl) (by rfl) (by exact ray ys.length (by omega) _ 0 (by unfold rayAt; rw [if_neg (by omega), if_neg (by omega), if_pos (by omega)]; exact ray_ext (by omega) rfl)) ?_)
    rintro _ _ ⟨rfl, rfl⟩
    repeat first | refine R1 ?_ | refine R2 fun _ => ?_
    refine Xb fun u Au gu => ?_
    repeat first | refine R1 ?_ | refine R2 fun _ => ?_
    refine Xa gr gu fun v2 A2 g2 => ?_
    repeat first | refine R1 ?_ | refine R2 fun _ => ?_
    exact ⟨(j + 1, v2), by simp only; omega, ⟨rfl, rfl, trivial⟩, rfl, St (ys.length + 1) ++ (A2 ++ [(b2, .cells #[.int .i64 g.wide, c] 34)]), _, inferInstance, by simp only; omega, A2, by simp only [hx]; rfl, _, by simp; omega, by rw [step _ ys rfl (by rw [hx]; exact ey), hx]; rfl, g2⟩
  refine sf_exit ?_
  obtain rfl : xs.length = j := by omega
  clear e hj
  repeat first | refine R1 ?_ | refine R2 fun _ => ?_
  refine sf_lp (ι := Nat × Value) [1, 5, 6, 73] (fun x => [(74, .int .i64 (x.1 : Int)), (7, x.2)]) (fun x O => x.1 ≤ rw' ∧ ∃ A', O = St (xs.length + rw' + xs.length + x.1) ++ (A' ++ [(b2, .cells #[.int .i64 g.wide, c] 34)]) ∧ ∃ ys, ys.length = xs.length + rw' + xs.length + x.1 ∧ ys = (List.range (xs.length + rw' + xs.length + x.1)).map val ∧ Gr A' x.2 226 rayF ys) (fun x => rw' - x.1) (0, v) (St (xs.length + rw' + xs.length) ++ (A' ++ [(b2, .cells #[.int .i64 g.wide, c] 34)])) ⟨by omega, A', rfl, ys, hx, ey, gr⟩ ?_
  clear gr ey hx o2 ys
  rintro ⟨j, v⟩ O ⟨hj, A', rfl, ys, hx, ey, gr⟩
  simp only at hj hx ey gr ⊢
  have o2 := gr.one
  repeat first | refine R1 ?_ | refine R2 fun _ => ?_
  refine sf_if (fun e => ?_) fun e => ?_
  · have hm : 0 ≤ ((rw' : Int) - 1 - j) * g.wide ∧ ((rw' : Int) - 1 - j) * g.wide ≤ 4 * 5 := ⟨Int.mul_nonneg (by omega) (by omega), Int.mul_le_mul (by omega) (by omega) (by omega) (by omega)⟩
    have hq : ((rw' : Int) - 1 - j) * g.wide = (rw' : Int) * g.wide - g.wide - (j : Int) * g.wide := by rw [Int.sub_mul, Int.sub_mul, Int.one_mul]
    repeat first | refine R1 ?_ | refine R2 fun _ => ?_
    rw [← hx]
    refine fp (y_callC2 (by rfl) (by rfl) (by exact ray ys.length (by omega) _ 1 (by unfold rayAt; rw [if_neg (by omega), if_neg (by omega), if_neg (by omega)]; exact ray_ext (by rw [hl', hq, show ((ys.length : Nat) : Int) - g.wide - rowsOf g - g.wide = j by omega]) rfl)) ?_)
    rintro _ _ ⟨rfl, rfl⟩
    repeat first | refine R1 ?_ | refine R2 fun _ => ?_
    refine Xb fun u Au gu => ?_
    repeat first | refine R1 ?_ | refine R2 fun _ => ?_
    refine Xa gr gu fun v2 A2 g2 => ?_
    repeat first | refine R1 ?_ | refine R2 fun _ => ?_
    exact ⟨(j + 1, v2), by simp only; omega, ⟨rfl, rfl, trivial⟩, rfl, St (ys.length + 1) ++ (A2 ++ [(b2, .cells #[.int .i64 g.wide, c] 34)]), _, inferInstance, by simp only; omega, A2, by simp only [hx]; rfl, _, by simp; omega, by rw [step _ ys rfl (by rw [hx]; exact ey), hx]; rfl, g2⟩
  refine sf_exit ?_
  obtain rfl : rw' = j := by omega
  repeat first | refine R1 ?_ | refine R2 fun _ => ?_
  have eN : 2 * (xs.length + rw') = xs.length + rw' + xs.length + rw' := by omega
  exact sf_ret (rO (St (xs.length + rw' + xs.length + rw') ++ A') ⟨A', by rw [eN], by rw [eN, ← ey]; exact gr⟩)
theorem sidesToldB_f (h : PHeap) (c : Value) (g : Grid) (s : Sl h c cellF g.cells) (hw : 1 ≤ g.wide ∧ g.wide ≤ 5) (rw' : Nat) (ww : Nat) (ew : g.wide = ww) (er : rowsOf g = rw') (hl : g.cells.length = rw' * ww) (hr : 1 ≤ rw' ∧ rw' ≤ 5) (f : FuncId) [Fun Tryz.prog f] (cap : Array Value) (St : Nat → Own) (val : Nat → Bool)
    (C : ∀ k, k < 2 * (ww + rw') → CallF Tryz.prog M f ([.int .i64 (k : Int), .agg #[.int .i64 (rayAt g (k : Nat)).at', .int .i64 (rayAt g (k : Nat)).dir]] ++ cap.toList) (St k) h fun v A => v = .bool (val k) ∧ A = St (k + 1)) :
    CallF Tryz.prog M 292 [.agg #[.int .i64 g.wide, c], .func (.func f) #[] cap] (St 0) h fun v A => ∃ A', A = St (2 * (ww + rw')) ++ A' ∧ Gr A' v 4 boolF ((List.range (2 * (ww + rw'))).map val) := by
  have o1 := s.one
  have ray : ∀ (k : Nat), k < 2 * (ww + rw') → ∀ x y, rayAt g (k : Nat) = ⟨x, y⟩ → CallF Tryz.prog M f (#[].toList ++ [.int .i64 (k : Int), .agg #[.int .i64 x, .int .i64 y]] ++ cap.toList) (St k) h fun v A => v = .bool (val k) ∧ A = St (k + 1) := fun k hk x y e => by
    have := C k hk
    rw [e] at this; exact this
  have step : ∀ (k : Nat) (xs : List Bool), xs.length = k → xs = (List.range k).map val → xs ++ [val k] = (List.range (k + 1)).map val := fun k xs _ e => by rw [List.range_succ, List.map_append, e]; rfl
  refine Cs Tryz.func292 Tryz.ntmps292 ?_
  repeat first | refine R1 ?_ | refine R2 fun _ => ?_
  refine Sd [[],[0],[],[2],[0,1,2,3],[0,1,2,3,4]] 4 [Nn 0,Nn 1,Nn 2,Yy 3] ?_
  refine Da ?_
  refine Yv (rowsOf_v h c g s hw.1) ?_
  rw [er]
  refine Da ?_
  refine Ae ?_
  repeat first | refine R1 ?_ | refine R2 fun _ => ?_
  obtain ⟨N, hN⟩ : ∃ N : Nat, 2 * (g.wide + (rw' : Int)) = N := ⟨2 * (ww + rw'), by omega⟩
  rw [hN]
  refine fp (y_make0 (by rfl) (by rfl) (by rfl) (by decide) (by omega) fun w A g0 => ?_)
  repeat first | refine R1 ?_ | refine R2 fun _ => ?_
  rename_i b2
  refine sf_lp (ι := Nat × Value) [1, 5, 6, 21] (fun x => [(22, .int .i64 (x.1 : Int)), (7, x.2)]) (fun x O => x.1 ≤ ww ∧ ∃ A', O = St x.1 ++ (A' ++ [(b2, .cells #[.int .i64 g.wide, c] 34)]) ∧ ∃ xs, xs.length = x.1 ∧ xs = (List.range x.1).map val ∧ Gr A' x.2 4 boolF xs) (fun x => ww - x.1) (0, w) (St 0 ++ (A ++ [(b2, .cells #[.int .i64 g.wide, c] 34)])) ⟨by omega, A, rfl, [], rfl, rfl, g0⟩ ?_
  rintro ⟨j, v⟩ O ⟨hj, A', rfl, xs, hx, ex, gr⟩
  simp only at hj hx ex gr ⊢
  subst hx
  have o2 := gr.one
  repeat first | refine R1 ?_ | refine R2 fun _ => ?_
  refine sf_if (fun e => ?_) fun e => ?_
  · repeat first | refine R1 ?_ | refine R2 fun _ => ?_
    refine fp (y_callC2 (by rfl) (by rfl) (by exact ray xs.length (by omega) xs.length 2 (by unfold rayAt; rw [if_pos (by omega)])) ?_)
    rintro _ _ ⟨rfl, rfl⟩
    repeat first | refine R1 ?_ | refine R2 fun _ => ?_
    refine Xb fun u Au gu => ?_
    repeat first | refine R1 ?_ | refine R2 fun _ => ?_
    refine Xa gr gu fun v2 A2 g2 => ?_
    repeat first | refine R1 ?_ | refine R2 fun _ => ?_
    exact ⟨(xs.length + 1, v2), by simp only; omega, ⟨rfl, rfl, trivial⟩, rfl, St (xs.length + 1) ++ (A2 ++ [(b2, .cells #[.int .i64 g.wide, c] 34)]), _, inferInstance, by simp only; omega, A2, rfl, _, by simp, step _ xs rfl ex, g2⟩
  refine sf_exit ?_
  obtain rfl : ww = xs.length := by omega
  clear g0 w A e hj
  repeat first | refine R1 ?_ | refine R2 fun _ => ?_
  refine sf_lp (ι := Nat × Value) [1, 5, 6, 35] (fun x => [(36, .int .i64 (x.1 : Int)), (7, x.2)]) (fun x O => x.1 ≤ rw' ∧ ∃ A', O = St (xs.length + x.1) ++ (A' ++ [(b2, .cells #[.int .i64 g.wide, c] 34)]) ∧ ∃ ys, ys.length = xs.length + x.1 ∧ ys = (List.range (xs.length + x.1)).map val ∧ Gr A' x.2 4 boolF ys) (fun x => rw' - x.1) (0, v) (St xs.length ++ (A' ++ [(b2, .cells #[.int .i64 g.wide, c] 34)])) ⟨by omega, A', rfl, xs, rfl, ex, gr⟩ ?_
  rintro ⟨j, v⟩ O ⟨hj, A', rfl, ys, hx, ey, gr⟩
  simp only at hj hx ey gr ⊢
  have o2 := gr.one
  repeat first | refine R1 ?_ | refine R2 fun _ => ?_
  refine sf_if (fun e => ?_) fun e => ?_
  · have hm : 0 ≤ (j : Int) * g.wide ∧ (j : Int) * g.wide ≤ 4 * 5 := ⟨Int.mul_nonneg (by omega) (by omega), Int.mul_le_mul (by omega) (by omega) (by omega) (by omega)⟩
    repeat first | refine R1 ?_ | refine R2 fun _ => ?_
    rw [← hx]
    refine fp (y_callC2 (by rfl) (by rfl) (by exact ray ys.length (by omega) _ 3 (by unfold rayAt; rw [if_neg (by omega), if_pos (by omega)]; exact ray_ext (by rw [show ((ys.length : Nat) : Int) - g.wide = j by omega]) rfl)) ?_)
    rintro _ _ ⟨rfl, rfl⟩
    repeat first | refine R1 ?_ | refine R2 fun _ => ?_
    refine Xb fun u Au gu => ?_
    repeat first | refine R1 ?_ | refine R2 fun _ => ?_
    refine Xa gr gu fun v2 A2 g2 => ?_
    repeat first | refine R1 ?_ | refine R2 fun _ => ?_
    exact ⟨(j + 1, v2), by simp only; omega, ⟨rfl, rfl, trivial⟩, rfl, St (ys.length + 1) ++ (A2 ++ [(b2, .cells #[.int .i64 g.wide, c] 34)]), _, inferInstance, by simp only; omega, A2, by simp only [hx]; rfl, _, by simp; omega, by rw [step _ ys rfl (by rw [hx]; exact ey), hx]; rfl, g2⟩
  refine sf_exit ?_
  obtain rfl : rw' = j := by omega
  clear e hj
  have gr' := gr
  clear gr
  have hl' : (g.cells.length : Int) = (rw' : Int) * g.wide := by rw [ew, hl, Int.natCast_mul]
  have hm0 : 0 ≤ (rw' : Int) * g.wide ∧ (rw' : Int) * g.wide ≤ 5 * 5 := ⟨Int.mul_nonneg (by omega) (by omega), Int.mul_le_mul (by omega) (by omega) (by omega) (by omega)⟩
  repeat first | refine R1 ?_ | refine R2 fun _ => ?_
  refine sf_lp (ι := Nat × Value) [1, 5, 6, 54] (fun x => [(55, .int .i64 (x.1 : Int)), (7, x.2)]) (fun x O => x.1 ≤ xs.length ∧ ∃ A', O = St (xs.length + rw' + x.1) ++ (A' ++ [(b2, .cells #[.int .i64 g.wide, c] 34)]) ∧ ∃ ys, ys.length = xs.length + rw' + x.1 ∧ ys = (List.range (xs.length + rw' + x.1)).map val ∧ Gr A' x.2 4 boolF ys) (fun x => xs.length - x.1) (0, v) (St (xs.length + rw') ++ (A' ++ [(b2, .cells #[.int .i64 g.wide, c] 34)])) ⟨by omega, A', rfl, ys, hx, ey, gr'⟩ ?_
  clear gr' ey hx o2 ys
  rintro ⟨j, v⟩ O ⟨hj, A', rfl, ys, hx, ey, gr⟩
  simp only at hj hx ey gr ⊢
  have o2 := gr.one
  repeat first | refine R1 ?_ | refine R2 fun _ => ?_
  refine sf_if (fun e => ?_) fun e => ?_
  · repeat first | refine R1 ?_ | refine R2 fun _ => ?_
    rw [← hx]
    refine fp (y_callC2 (by rfl) (by rfl) (by exact ray ys.length (by omega) _ 0 (by unfold rayAt; rw [if_neg (by omega), if_neg (by omega), if_pos (by omega)]; exact ray_ext (by omega) rfl)) ?_)
    rintro _ _ ⟨rfl, rfl⟩
    repeat first | refine R1 ?_ | refine R2 fun _ => ?_
    refine Xb fun u Au gu => ?_
    repeat first | refine R1 ?_ | refine R2 fun _ => ?_
    refine Xa gr gu fun v2 A2 g2 => ?_
    repeat first | refine R1 ?_ | refine R2 fun _ => ?_
    exact ⟨(j + 1, v2), by simp only; omega, ⟨rfl, rfl, trivial⟩, rfl, St (ys.length + 1) ++ (A2 ++ [(b2, .cells #[.int .i64 g.wide, c] 34)]), _, inferInstance, by simp only; omega, A2, by simp only [hx]; rfl, _, by simp; omega, by rw [step _ ys rfl (by rw [hx]; exact ey), hx]; rfl, g2⟩
  refine sf_exit ?_
  obtain rfl : xs.length = j := by omega
  clear e hj
  repeat first | refine R1 ?_ | refine R2 fun _ => ?_
  refine sf_lp (ι := Nat × Value) [1, 5, 6, 73] (fun x => [(74, .int .i64 (x.1 : Int)), (7, x.2)]) (fun x O => x.1 ≤ rw' ∧ ∃ A', O = St (xs.length + rw' + xs.length + x.1) ++ (A' ++ [(b2, .cells #[.int .i64 g.wide, c] 34)]) ∧ ∃ ys, ys.length = xs.length + rw' + xs.length + x.1 ∧ ys = (List.range (xs.length + rw' + xs.length + x.1)).map val ∧ Gr A' x.2 4 boolF ys) (fun x => rw' - x.1) (0, v) (St (xs.length + rw' + xs.length) ++ (A' ++ [(b2, .cells #[.int .i64 g.wide, c] 34)])) ⟨by omega, A', rfl, ys, hx, ey, gr⟩ ?_
  clear gr ey hx o2 ys
  rintro ⟨j, v⟩ O ⟨hj, A', rfl, ys, hx, ey, gr⟩
  simp only at hj hx ey gr ⊢
  have o2 := gr.one
  repeat first | refine R1 ?_ | refine R2 fun _ => ?_
  refine sf_if (fun e => ?_) fun e => ?_
  · have hm : 0 ≤ ((rw' : Int) - 1 - j) * g.wide ∧ ((rw' : Int) - 1 - j) * g.wide ≤ 4 * 5 := ⟨Int.mul_nonneg (by omega) (by omega), Int.mul_le_mul (by omega) (by omega) (by omega) (by omega)⟩
    have hq : ((rw' : Int) - 1 - j) * g.wide = (rw' : Int) * g.wide - g.wide - (j : Int) * g.wide := by rw [Int.sub_mul, Int.sub_mul, Int.one_mul]
    repeat first | refine R1 ?_ | refine R2 fun _ => ?_
    rw [← hx]
    refine fp (y_callC2 (by rfl) (by rfl) (by exact ray ys.length (by omega) _ 1 (by unfold rayAt; rw [if_neg (by omega), if_neg (by omega), if_neg (by omega)]; exact ray_ext (by rw [hl', hq, show ((ys.length : Nat) : Int) - g.wide - rowsOf g - g.wide = j by omega]) rfl)) ?_)
    rintro _ _ ⟨rfl, rfl⟩
    repeat first | refine R1 ?_ | refine R2 fun _ => ?_
    refine Xb fun u Au gu => ?_
    repeat first | refine R1 ?_ | refine R2 fun _ => ?_
    refine Xa gr gu fun v2 A2 g2 => ?_
    repeat first | refine R1 ?_ | refine R2 fun _ => ?_
    exact ⟨(j + 1, v2), by simp only; omega, ⟨rfl, rfl, trivial⟩, rfl, St (ys.length + 1) ++ (A2 ++ [(b2, .cells #[.int .i64 g.wide, c] 34)]), _, inferInstance, by simp only; omega, A2, by simp only [hx]; rfl, _, by simp; omega, by rw [step _ ys rfl (by rw [hx]; exact ey), hx]; rfl, g2⟩
  refine sf_exit ?_
  obtain rfl : rw' = j := by omega
  repeat first | refine R1 ?_ | refine R2 fun _ => ?_
  have eN : 2 * (xs.length + rw') = xs.length + rw' + xs.length + rw' := by omega
  exact sf_ret (rO (St (xs.length + rw' + xs.length + rw') ++ A') ⟨A', by rw [eN], by rw [eN, ← ey]; exact gr⟩)
def sightMany (g : Grid) : Int := if gridOk g = true then manyOf g else 0
theorem sightMany_v (h : PHeap) (ca : List Value) (g : Grid) (b : (gridR τ).B h ca g) : CallV Tryz.prog M 207 [.agg ca.toArray] h (.int .i64 (sightMany g)) := by
  obtain ⟨c, rfl, s⟩ := gridB b
  have o1 := s.one
  refine Cs Tryz.func207 Tryz.ntmps207 ?_
  repeat first | refine R1 ?_ | refine R2 fun _ => ?_
  refine Xv (gridOk_v _ _ g b) ?_
  repeat first | refine R1 ?_ | refine R2 fun _ => ?_
  refine sf_cond (by rfl) (fun e => ?_) fun e => ?_
  · repeat first | refine R1 ?_ | refine R2 fun _ => ?_
    simp only [Bool.not_eq_true'] at e
    refine sf_ret (rV ?_)
    simp [sightMany, e]
  · simp only [Bool.not_eq_false'] at e
    have k := gok e
    have h1 := k.w1; have h2 := k.w5; have h3 := k.r1; have h4 := k.r5
    repeat first | refine R1 ?_ | refine R2 fun _ => ?_
    refine Sd [[],[0],[],[2],[0,1,2,3],[0,1,2,3,4],[0,1,2,3,4,5]] 4 [Nn 0,Nn 1,Nn 2,Yy 3] ?_
    refine Da ?_
    refine Yv (rowsOf_v h c g s h1) ?_
    refine Da ?_
    refine Ae ?_
    repeat first | refine R1 ?_ | refine R2 fun _ => ?_
    refine sf_ret (rV ?_)
    simp [sightMany, e, manyOf]
def sightRayV (g : Grid) (k : Int) : Value := if 0 ≤ k ∧ k < sightMany g then .tuple #[.agg #[.int .i64 (rayAt g k).at', .int .i64 (rayAt g k).dir], .bool true] else .tuple #[.agg #[.int .i64 0, .int .i64 0], .bool false]
theorem sightRay1_v (h : PHeap) (k a d : Int) : CallV Tryz.prog M 273 [.int .i64 k, .agg #[.int .i64 a, .int .i64 d]] h (.agg #[.int .i64 a, .int .i64 d]) := by
  refine Cs Tryz.func273 Tryz.ntmps273 ?_
  repeat first | refine R1 ?_ | refine R2 fun _ => ?_
  exact sf_ret (rV rfl)
theorem sightRay_v (h : PHeap) (ca : List Value) (g : Grid) (b : (gridR τ).B h ca g) (k : Int) : CallV Tryz.prog M 256 [.agg ca.toArray, .int .i64 k] h (sightRayV g k) := by
  obtain ⟨c, rfl, s⟩ := gridB b
  have o1 := s.one
  refine Cs Tryz.func256 Tryz.ntmps256 ?_
  repeat first | refine R1 ?_ | refine R2 fun _ => ?_
  refine f_split (fun h1 => ?_) fun h1 => ?_
  · repeat first | refine R1 ?_ | refine R2 fun _ => ?_
    refine sf_T rfl ?_
    repeat first | refine R1 ?_ | refine R2 fun _ => ?_
    refine sf_ret (rV ?_)
    rw [sightRayV, if_neg (by omega)]
  repeat first | refine R1 ?_ | refine R2 fun _ => ?_
  refine Xv (sightMany_v _ _ g b) ?_
  repeat first | refine R1 ?_ | refine R2 fun _ => ?_
  refine sf_if (fun h2 => ?_) fun h2 => ?_
  · repeat first | refine R1 ?_ | refine R2 fun _ => ?_
    refine sf_ret (rV ?_)
    rw [sightRayV, if_neg (by omega)]
  have hk : 0 ≤ k ∧ k < sightMany g := by omega
  obtain ⟨n, rfl⟩ : ∃ n : Nat, k = n := ⟨k.toNat, by omega⟩
  have e : gridOk g = true := by
    cases e : gridOk g with
    | true => rfl
    | false => simp [sightMany, e] at hk; omega
  have kg := gok e
  have w1 := kg.w1; have w5 := kg.w5; have r1 := kg.r1; have r5 := kg.r5
  have em : sightMany g = manyOf g := by rw [sightMany, if_pos e]
  obtain ⟨ww, ew⟩ : ∃ ww : Nat, g.wide = ww := ⟨g.wide.toNat, by omega⟩
  obtain ⟨rr, er⟩ : ∃ rr : Nat, rowsOf g = rr := ⟨(rowsOf g).toNat, by omega⟩
  have hl : g.cells.length = rr * ww := by
    have := kg.len
    rw [er, ew] at this
    exact_mod_cast this
  have hm : n < 2 * (ww + rr) := by
    rw [em, manyOf, er, ew] at hk; omega
  repeat first | refine R1 ?_ | refine R2 fun _ => ?_
  refine fp (y_call (sidesToldR_f h c g s ⟨w1, w5⟩ rr ww ew er hl ⟨by omega, by omega⟩ 273 #[] (fun _ => []) (fun k : Nat => rayAt g (k : Nat)) (fun k hk => sightRay1_v h _ _ _)) (by rfl) ?_)
  rintro v _ ⟨A', rfl, gr⟩
  have gx : gt ((List.range (2 * (ww + rr))).map fun k : Nat => rayAt g (k : Nat)) n = rayAt g n := by
    rw [gt_eq (by simp; omega)]; simp
  have lx : ((List.range (2 * (ww + rr))).map fun k : Nat => rayAt g (k : Nat)).length = 2 * (ww + rr) := by simp
  generalize ((List.range (2 * (ww + rr))).map fun k : Nat => rayAt g (k : Nat)) = xs at gr gx lx
  have o2 := gr.one
  repeat first | refine R1 ?_ | refine R2 fun _ => ?_
  refine sf_ret (rV ?_)
  rw [gx, sightRayV, if_pos hk]
def foundAt (p : Nat → Bool) : Nat → Int
  | 0 => -1
  | k + 1 => if p k = true then k else foundAt p k
theorem foundAt_is {g : Grid} {R : Int} (k : Gok g R) {a d : Int} (N : Nat) (hN : manyOf g = N) : foundAt (fun k => decide (rayAt g (k : Nat) = ⟨a, (d + 2) % 4⟩)) N = sightOf g a d := by
  have key : ∀ n : Nat, n ≤ N → ((∃ i : Nat, i < n ∧ rayAt g (i : Nat) = ⟨a, (d + 2) % 4⟩ ∧ foundAt (fun k => decide (rayAt g (k : Nat) = ⟨a, (d + 2) % 4⟩)) n = i) ∨ ((∀ i : Nat, i < n → rayAt g (i : Nat) ≠ ⟨a, (d + 2) % 4⟩) ∧ foundAt (fun k => decide (rayAt g (k : Nat) = ⟨a, (d + 2) % 4⟩)) n = -1)) := by
    intro n
    induction n with
    | zero => intro _; exact .inr ⟨fun i hi => absurd hi (by omega), rfl⟩
    | succ n ih =>
      intro hn
      by_cases e : rayAt g (n : Nat) = ⟨a, (d + 2) % 4⟩
      · exact .inl ⟨n, by omega, e, by simp [foundAt, e]⟩
      · rcases ih (by omega) with ⟨i, h1, h2, h3⟩ | ⟨h1, h2⟩
        · exact .inl ⟨i, by omega, h2, by simp only [foundAt, e, decide_false, Bool.false_eq_true, if_false]; exact h3⟩
        · refine .inr ⟨fun i hi => ?_, by simp only [foundAt, e, decide_false, Bool.false_eq_true, if_false]; exact h2⟩
          rcases Nat.lt_or_ge i n with h | h
          · exact h1 i h
          · obtain rfl : i = n := by omega
            exact e
  rcases key N (Nat.le_refl _) with ⟨i, h1, h2, h3⟩ | ⟨h1, h2⟩
  · rw [h3, sightOf_some k (by omega) (by omega) h2]
  · rw [h2, sightOf_none fun i i0 i1 => ?_]
    have := h1 i.toNat (by omega)
    rwa [Int.toNat_of_nonneg i0] at this
theorem sightOf1_f (h : PHeap) (k a d x y f : Int) (b1 b2 : Nat) : CallF Tryz.prog M 293 [.int .i64 k, .agg #[.int .i64 a, .int .i64 d], .pointer (some ⟨b1, 0, none⟩), .pointer (some ⟨b2, 0, none⟩)] [(b1, .cells #[.int .i64 x, .int .i64 y] 226), (b2, .cells #[.int .i64 f] 3)] h fun v A => v = .bool (decide ((⟨a, d⟩ : Ray) = ⟨x, y⟩)) ∧ A = [(b1, .cells #[.int .i64 x, .int .i64 y] 226), (b2, .cells #[.int .i64 (if (⟨a, d⟩ : Ray) = ⟨x, y⟩ then k else f)] 3)] := by
  refine Cs Tryz.func293 Tryz.ntmps293 ?_
  repeat first | refine R1 ?_ | refine R2 fun _ => ?_
  refine fp (Rq ?_ (q_eqS (E := rayF) (a := ⟨a, d⟩) (b := ⟨x, y⟩) inferInstance (by rfl) (by rfl)))
  repeat first | refine R1 ?_ | refine R2 fun _ => ?_
  refine sf_if (fun e => ?_) fun e => ?_
  · repeat first | refine R1 ?_ | refine R2 fun _ => ?_
    refine fp (Rq ?_ (q_eqS (E := rayF) (a := ⟨a, d⟩) (b := ⟨x, y⟩) inferInstance (by rfl) (by rfl)))
    repeat first | refine R1 ?_ | refine R2 fun _ => ?_
    exact sf_ret (rO [(b1, .cells #[.int .i64 x, .int .i64 y] 226), (b2, .cells #[.int .i64 k] 3)] ⟨rfl, by rw [if_pos e]⟩)
  · repeat first | refine R1 ?_ | refine R2 fun _ => ?_
    refine fp (Rq ?_ (q_eqS (E := rayF) (a := ⟨a, d⟩) (b := ⟨x, y⟩) inferInstance (by rfl) (by rfl)))
    repeat first | refine R1 ?_ | refine R2 fun _ => ?_
    exact sf_ret (rO [(b1, .cells #[.int .i64 x, .int .i64 y] 226), (b2, .cells #[.int .i64 f] 3)] ⟨rfl, by rw [if_neg e]⟩)
theorem sightOf_v (h : PHeap) (ca : List Value) (g : Grid) (b : (gridR τ).B h ca g) (e : gridOk g = true) (a d : Int) (hd : 0 ≤ d ∧ d ≤ 3) : CallV Tryz.prog M 280 [.agg ca.toArray, .int .i64 a, .int .i64 d] h (.int .i64 (sightOf g a d)) := by
  obtain ⟨c, rfl, s⟩ := gridB b
  have o1 := s.one
  have kg := gok e
  have w1 := kg.w1; have w5 := kg.w5; have r1 := kg.r1; have r5 := kg.r5
  obtain ⟨ww, ew⟩ : ∃ ww : Nat, g.wide = ww := ⟨g.wide.toNat, by omega⟩
  obtain ⟨rr, er⟩ : ∃ rr : Nat, rowsOf g = rr := ⟨(rowsOf g).toNat, by omega⟩
  have hl : g.cells.length = rr * ww := by
    have := kg.len
    rw [er, ew] at this
    exact_mod_cast this
  have hN : manyOf g = (2 * (ww + rr) : Nat) := by
    rw [manyOf, er, ew]; omega
  refine Cs Tryz.func280 Tryz.ntmps280 ?_
  repeat first | refine R1 ?_ | refine R2 fun _ => ?_
  refine Xv (gridOk_v _ _ g b) ?_
  rw [e]
  repeat first | refine R1 ?_ | refine R2 fun _ => ?_
  refine Xv (dirOk_v _ _) ?_
  rw [show (decide (0 ≤ d) && decide (d ≤ 3)) = true by simp; omega]
  repeat first | refine R1 ?_ | refine R2 fun _ => ?_
  refine sf_cond (by rfl) (fun e => by cases e) fun z1 => ?_
  clear z1
  repeat first | refine R1 ?_ | refine R2 fun _ => ?_
  refine Xv (dirOpposite_v _ _ hd.1 hd.2) ?_
  repeat first | refine R1 ?_ | refine R2 fun _ => ?_
  rename_i b1 b2 b3
  refine fp (y_call (A := [(b2, .cells #[.int .i64 a, .int .i64 ((d + 2) % 4)] 226), (b3, .cells #[.int .i64 (-1)] 3)]) (sidesToldB_f h c g s ⟨w1, w5⟩ rr ww ew er hl ⟨by omega, by omega⟩ 293 #[.pointer (some ⟨b2, 0, none⟩), .pointer (some ⟨b3, 0, none⟩)] (fun k => [(b2, .cells #[.int .i64 a, .int .i64 ((d + 2) % 4)] 226), (b3, .cells #[.int .i64 (foundAt (fun k => decide (rayAt g (k : Nat) = ⟨a, (d + 2) % 4⟩)) k)] 3)]) (fun k => decide (rayAt g (k : Nat) = ⟨a, (d + 2) % 4⟩)) (fun k hk => (sightOf1_f h _ _ _ a ((d + 2) % 4) _ b2 b3).to ?_)) (by rfl) ?_)
  · rintro v O ⟨rfl, rfl⟩
    refine ⟨rfl, ?_⟩
    simp only [foundAt, decide_eq_true_eq]
  rintro v _ ⟨A', rfl, gr⟩
  rw [foundAt_is kg _ hN]
  repeat first | refine R1 ?_ | refine R2 fun _ => ?_
  exact sf_ret (rV rfl)
theorem spreadPass_v (h : PHeap) (w : Int) : CallV Tryz.prog M 274 [.int .i64 w] h (.agg #[.int .i64 w, .int .i64 0, .int .i64 0, .int .i64 0]) := by
  refine Cs Tryz.func274 Tryz.ntmps274 ?_
  repeat first | refine R1 ?_ | refine R2 fun _ => ?_
  exact sf_ret (rV rfl)
theorem spreadTurn_v (h : PHeap) (w : Int) : CallV Tryz.prog M 275 [.int .i64 w] h (.agg #[.int .i64 0, .int .i64 w, .int .i64 0, .int .i64 0]) := by
  refine Cs Tryz.func275 Tryz.ntmps275 ?_
  repeat first | refine R1 ?_ | refine R2 fun _ => ?_
  exact sf_ret (rV rfl)
theorem spreadStop_v (h : PHeap) (w : Int) : CallV Tryz.prog M 276 [.int .i64 w] h (.agg #[.int .i64 0, .int .i64 0, .int .i64 0, .int .i64 w]) := by
  refine Cs Tryz.func276 Tryz.ntmps276 ?_
  repeat first | refine R1 ?_ | refine R2 fun _ => ?_
  exact sf_ret (rV rfl)
theorem spreadSplit_v (h : PHeap) (w : Int) (hw : 0 ≤ w ∧ w ≤ 64) : CallV Tryz.prog M 277 [.int .i64 w] h (.agg #[.int .i64 (w / 2), .int .i64 (w / 2), .int .i64 (w - w / 2 - w / 2), .int .i64 0]) := by
  refine Cs Tryz.func277 Tryz.ntmps277 ?_
  repeat first | refine R1 ?_ | refine R2 fun _ => ?_
  exact sf_ret (rV rfl)
theorem spreadDim_v (h : PHeap) (w : Int) (hw : 0 ≤ w ∧ w ≤ 64) : CallV Tryz.prog M 278 [.int .i64 w] h (.agg #[.int .i64 (w / 2), .int .i64 0, .int .i64 (w - w / 2), .int .i64 0]) := by
  refine Cs Tryz.func278 Tryz.ntmps278 ?_
  repeat first | refine R1 ?_ | refine R2 fun _ => ?_
  exact sf_ret (rV rfl)
def spreadV (s : Spread) : Value := .agg #[.int .i64 s.pass, .int .i64 s.turn, .int .i64 s.lost, .int .i64 s.stop]
theorem spreadOf_v (h : PHeap) (k w : Int) (hk : 0 ≤ k ∧ k ≤ 7) (hw : 0 ≤ w ∧ w ≤ 64) : CallV Tryz.prog M 258 [.int .i64 k, .int .i64 w] h (spreadV (spread k w)) := by
  obtain ⟨n, rfl⟩ : ∃ n : Nat, k = n := ⟨k.toNat, by omega⟩
  have hn : n = 0 ∨ n = 1 ∨ n = 2 ∨ n = 3 ∨ n = 4 ∨ n = 5 ∨ n = 6 ∨ n = 7 := by omega
  refine Cs Tryz.func258 Tryz.ntmps258 ?_
  repeat first | refine R1 ?_ | refine R2 fun _ => ?_
  rcases hn with rfl | rfl | rfl | rfl | rfl | rfl | rfl | rfl
  · repeat first | refine R1 ?_ | refine R2 fun _ => ?_
    refine fp (y_callC2 (by rfl) (by rfl) (by exact spreadPass_v h w) ?_)
    rintro _ _ ⟨rfl, rfl⟩
    repeat first | refine R1 ?_ | refine R2 fun _ => ?_
    exact sf_ret (rV rfl)
  · repeat first | refine R1 ?_ | refine R2 fun _ => ?_
    refine fp (y_callC2 (by rfl) (by rfl) (by exact spreadStop_v h w) ?_)
    rintro _ _ ⟨rfl, rfl⟩
    repeat first | refine R1 ?_ | refine R2 fun _ => ?_
    exact sf_ret (rV rfl)
  · repeat first | refine R1 ?_ | refine R2 fun _ => ?_
    refine fp (y_callC2 (by rfl) (by rfl) (by exact spreadTurn_v h w) ?_)
    rintro _ _ ⟨rfl, rfl⟩
    repeat first | refine R1 ?_ | refine R2 fun _ => ?_
    exact sf_ret (rV rfl)
  · repeat first | refine R1 ?_ | refine R2 fun _ => ?_
    refine fp (y_callC2 (by rfl) (by rfl) (by exact spreadTurn_v h w) ?_)
    rintro _ _ ⟨rfl, rfl⟩
    repeat first | refine R1 ?_ | refine R2 fun _ => ?_
    exact sf_ret (rV rfl)
  · repeat first | refine R1 ?_ | refine R2 fun _ => ?_
    refine fp (y_callC2 (by rfl) (by rfl) (by exact spreadSplit_v h w hw) ?_)
    rintro _ _ ⟨rfl, rfl⟩
    repeat first | refine R1 ?_ | refine R2 fun _ => ?_
    exact sf_ret (rV rfl)
  · repeat first | refine R1 ?_ | refine R2 fun _ => ?_
    refine fp (y_callC2 (by rfl) (by rfl) (by exact spreadSplit_v h w hw) ?_)
    rintro _ _ ⟨rfl, rfl⟩
    repeat first | refine R1 ?_ | refine R2 fun _ => ?_
    exact sf_ret (rV rfl)
  · repeat first | refine R1 ?_ | refine R2 fun _ => ?_
    refine fp (y_callC2 (by rfl) (by rfl) (by exact spreadDim_v h w hw) ?_)
    rintro _ _ ⟨rfl, rfl⟩
    repeat first | refine R1 ?_ | refine R2 fun _ => ?_
    exact sf_ret (rV rfl)
  · repeat first | refine R1 ?_ | refine R2 fun _ => ?_
    refine fp (y_callC2 (by rfl) (by rfl) (by exact spreadStop_v h w) ?_)
    rintro _ _ ⟨rfl, rfl⟩
    repeat first | refine R1 ?_ | refine R2 fun _ => ?_
    exact sf_ret (rV rfl)
theorem beamFrom_v (h : PHeap) (c : Value) (g : Grid) (s : Sl h c cellF g.cells) (e : gridOk g = true) (a d w : Int) (ha : 0 ≤ a ∧ a < 1000) (hd : 0 ≤ d ∧ d ≤ 3) : CallV Tryz.prog M 259 [.agg #[.int .i64 g.wide, c], .int .i64 a, .int .i64 d, .int .i64 w] h (.agg #[.int .i64 (beamFrom g a d w).at', .int .i64 (beamFrom g a d w).dir, .int .i64 (beamFrom g a d w).weight, .int .i64 (beamFrom g a d w).out]) := by
  have o1 := s.one
  have kg := gok e
  refine Cs Tryz.func259 Tryz.ntmps259 ?_
  repeat first | refine R1 ?_ | refine R2 fun _ => ?_
  refine Xv (rayStep_v h c g a d s ⟨kg.w1, kg.w5⟩ ha hd) ?_
  unfold stepV
  cases en : nextAt g a d with
  | some b =>
    simp only
    repeat first | refine R1 ?_ | refine R2 fun _ => ?_
    refine sf_cond (by rfl) (fun e => by cases e) fun z1 => ?_
    clear z1
    repeat first | refine R1 ?_ | refine R2 fun _ => ?_
    refine sf_ret (rV ?_)
    simp only [beamFrom, en]
  | none =>
    simp only
    repeat first | refine R1 ?_ | refine R2 fun _ => ?_
    refine sf_cond (by rfl) (fun _ => ?_) fun e => by cases e
    repeat first | refine R1 ?_ | refine R2 fun _ => ?_
    refine Xv (sightOf_v h _ g (gridB_mk s) e a d hd) ?_
    repeat first | refine R1 ?_ | refine R2 fun _ => ?_
    refine sf_ret (rV ?_)
    simp only [beamFrom, en]
theorem endOf_f (h : PHeap) (b : Nat) (vv ev : Value) (ov : Sl.One vv) (AE : Own) (es : List LEnd) (gr : Gr AE ev 224 endF es) (hl : es.length ≤ 200000) (kind a w : Int) :
    CallF Tryz.prog M 257 [.pointer (some ⟨b, 0, none⟩), .int .i64 kind, .int .i64 a, .int .i64 w] ((b, .cells #[vv, ev] 294) :: AE) h fun _ A => ∃ ev' AE', A = (b, .cells #[vv, ev'] 294) :: AE' ∧ Gr AE' ev' 224 endF (es ++ endIf kind a w) := by
  have o1 := gr.one
  refine Cs Tryz.func257 Tryz.ntmps257 ?_
  refine Wo ?_
  refine sf_if (fun e => ?_) fun e => ?_
  · refine Wo ?_
    refine Xb fun u Au gu => ?_
    refine Wo ?_
    refine Xa gr gu fun ev2 A2 g2 => ?_
    have o2 := g2.one
    refine Wo ?_
    exact nO ((b, .cells #[vv, ev2] 294) :: A2) ⟨ev2, A2, rfl, by rw [endIf, if_pos e]; exact g2⟩
  · refine Wo ?_
    exact nO ((b, .cells #[vv, ev] 294) :: AE) ⟨ev, AE, rfl, by rw [endIf, if_neg e, List.append_nil]; exact gr⟩
theorem trailOf_f (h : PHeap) (c : Value) (g : Grid) (s : Sl h c cellF g.cells) (e : gridOk g = true) (k : Int) (hk : 0 ≤ k ∧ k < manyOf g) : CallF Tryz.prog M 225 [.agg #[.int .i64 g.wide, c], .int .i64 k] [] h fun v A => ∃ vv ev AV AE, v = .agg #[vv, ev] ∧ A = AV ++ AE ∧ Gr AV vv 257 visitF (goLight g k).1 ∧ Gr AE ev 224 endF (goLight g k).2 := by
  have o1 := s.one
  have kg := gok e
  have hm := kg.small
  obtain ⟨sz, v, es, hc, hg, hsz, hok⟩ := goLight_is kg hk.1 hk.2
  rw [hg]
  have er : sightRayV g k = .tuple #[.agg #[.int .i64 (rayAt g k).at', .int .i64 (rayAt g k).dir], .bool true] := by
    rw [sightRayV, sightMany, if_pos e, if_pos hk]
  obtain ⟨⟨ra0, ra1⟩, rd0, rd1⟩ := rayAt_ok kg hk.1 hk.2
  refine Cs Tryz.func225 Tryz.ntmps225 ?_
  repeat first | refine R1 ?_ | refine R2 fun _ => ?_
  refine Xv (sightRay_v h _ g (gridB_mk s) k) ?_
  rw [er]
  repeat first | refine R1 ?_ | refine R2 fun _ => ?_
  refine sf_cond (by rfl) (fun e => by cases e) fun z1 => ?_
  clear z1
  repeat first | refine R1 ?_ | refine R2 fun _ => ?_
  refine Xb fun w Aw gw => ?_
  repeat first | refine R1 ?_ | refine R2 fun _ => ?_
  rename_i b2 b4 b5 b6
  have t0 : Todo g [(⟨(rayAt g k).at', (rayAt g k).dir, 64, -1⟩ : Beam)] (sz + 0) (v ++ []) (es ++ []) := .cons (.inr (.inr ⟨by simp, by simp, ⟨ra0, ra1⟩, ⟨rd0, rd1⟩, 6600, hc⟩)) (by simp) hok.n1 .nil
  have hlv := hok.lv
  have hle := hok.le
  simp only at hlv hle
  refine sf_lp (ι := Nat × Value) [2, 4, 5] (fun x => [(8, x.2)]) (fun x O => ∃ vv ev AS AV AE, O = (b5, .cells #[vv, ev] 294) :: (AS ++ (AV ++ (AE ++ [(b6, .cells #[.int .i64 (rayAt g k).at', .int .i64 (rayAt g k).dir] 226), (b4, .cells #[.slice none 0 0, .slice none 0 0] 294), (b2, .cells #[.int .i64 g.wide, c] 34)]))) ∧ ∃ st V E v' e', Gr AS x.2 333 beamF st ∧ Gr AV vv 257 visitF V ∧ Gr AE ev 224 endF E ∧ Todo g st.reverse x.1 v' e' ∧ v = V ++ v' ∧ es = E ++ e' ∧ x.1 ≤ 26000) (fun x => x.1) (sz, w) ((b5, .cells #[.slice none 0 0, .slice none 0 0] 294) :: (Aw ++ ([] ++ ([] ++ [(b6, .cells #[.int .i64 (rayAt g k).at', .int .i64 (rayAt g k).dir] 226), (b4, .cells #[.slice none 0 0, .slice none 0 0] 294), (b2, .cells #[.int .i64 g.wide, c] 34)])))) ⟨_, _, Aw, [], [], rfl, _, [], [], v, es, gw, Gr.nil _ _, Gr.nil _ _, by simpa using t0, rfl, rfl, hsz⟩ ?_
  rintro ⟨m, sv⟩ O ⟨vv, ev, AS, AV, AE, rfl, st, V, E, v', e', gs, gv, ge, td, hv, he, hm26⟩
  simp only at gs td hm26 ⊢
  have lvv : V.length ≤ 26000 := by have := congrArg List.length hv; simp only [List.length_append] at this; omega
  have lee : E.length ≤ 52000 := by have := congrArg List.length he; simp only [List.length_append] at this; omega
  have os := gs.one
  have ovv := gv.one
  have oev := ge.one
  have lst := td.len
  rw [List.length_reverse] at lst
  repeat first | refine R1 ?_ | refine R2 fun _ => ?_
  refine sf_if (fun e1 => ?_) fun e1 => ?_
  · obtain ⟨s', b, rfl⟩ := snoc_of (xs := st) (by omega)
    have hlen : (s' ++ [b]).length = s'.length + 1 := by simp
    haveI : FlatV beamF (gt (s' ++ [b]) s'.length) [.int .i64 b.at', .int .i64 b.dir, .int .i64 b.weight, .int .i64 b.out] := ⟨by rw [gt_snoc]; rfl⟩
    obtain ⟨bb, cap, rfl, hcap, cut⟩ := gs.cut (by omega)
    have gs2 := cut s'.length (by omega)
    rw [List.take_left'  rfl] at gs2
    rw [List.reverse_append, List.reverse_singleton, List.singleton_append] at td
    cases td with
    | @cons _ _ n m v1 v2 ea eb hb hbw hn t =>
    clear cut
    have hl1 : (((s' ++ [b]).length : Nat) : Int) - 1 = ((s'.length : Nat) : Int) := by omega
    repeat first | refine R1 ?_ | refine R2 fun _ => ?_
    rw [hl1]
    repeat first | refine R1 ?_ | refine R2 fun _ => ?_
    rw [hl1]
    refine fp (Rq ?_ (q_sliceHi (l := s'.length) (by infer_instance) (by infer_instance) (by rfl) (by rfl) (by omega)))
    repeat first | refine R1 ?_ | refine R2 fun _ => ?_
    rename_i b9 b10
    refine sf_if (fun e2 => ?_) fun e2 => ?_
    · have hz : (n, v1, ea) = (1, [], []) := by
        rcases hb with ⟨_, q⟩ | ⟨q, _⟩ | ⟨q, _⟩
        · exact q
        · exact absurd e2 q
        · exact absurd e2 q
      simp only [Prod.mk.injEq] at hz
      obtain ⟨rfl, rfl, rfl⟩ := hz
      refine sf_exit ?_
      exact ⟨(m, .slice (some ⟨bb, 0, none⟩) s'.length cap), by simp only; omega, ⟨rfl, trivial⟩, rfl, (b5, .cells #[vv, ev] 294) :: (AS ++ (AV ++ (AE ++ [(b6, .cells #[.int .i64 (rayAt g k).at', .int .i64 (rayAt g k).dir] 226), (b4, .cells #[.slice none 0 0, .slice none 0 0] 294), (b2, .cells #[.int .i64 g.wide, c] 34)]))), _, inferInstance, vv, ev, AS, AV, AE, rfl, s', V, E, v2, eb, gs2, gv, ge, t, hv, he, by simp only; omega⟩
    repeat first | refine R1 ?_ | refine R2 fun _ => ?_
    refine sf_if (fun e3 => ?_) fun e3 => ?_
    · have hz : (n, v1, ea) = (1, [], [⟨0, b.out, b.weight⟩]) := by
        rcases hb with ⟨q, _⟩ | ⟨_, _, q⟩ | ⟨_, q, _⟩
        · exact absurd q e2
        · exact q
        · omega
      simp only [Prod.mk.injEq] at hz
      obtain ⟨rfl, rfl, rfl⟩ := hz
      repeat first | refine R1 ?_ | refine R2 fun _ => ?_
      refine fp (y_call (endOf_f h b5 vv ev ovv AE E ge (by omega) 0 b.out b.weight) (by rfl) ?_)
      rintro _ _ ⟨ev2, AE2, rfl, ge2⟩
      rw [endIf, if_pos (by omega)] at ge2
      repeat first | refine R1 ?_ | refine R2 fun _ => ?_
      refine sf_exit ?_
      exact ⟨(m, .slice (some ⟨bb, 0, none⟩) s'.length cap), by simp only; omega, ⟨rfl, trivial⟩, rfl, (b5, .cells #[vv, ev2] 294) :: (AS ++ (AV ++ (AE2 ++ [(b6, .cells #[.int .i64 (rayAt g k).at', .int .i64 (rayAt g k).dir] 226), (b4, .cells #[.slice none 0 0, .slice none 0 0] 294), (b2, .cells #[.int .i64 g.wide, c] 34)]))), _, inferInstance, vv, ev2, AS, AV, AE2, rfl, s', V, _, v2, eb, gs2, gv, ge2, t, hv, by rw [he]; simp, by simp only; omega⟩
    obtain ⟨ha, hd', nn, hcm⟩ : (0 ≤ b.at' ∧ b.at' < g.cells.length) ∧ (0 ≤ b.dir ∧ b.dir ≤ 3) ∧ ∃ n', comeF g n' b.at' b.dir b.weight = some (n, v1, ea) := by
      rcases hb with ⟨q, _⟩ | ⟨_, q, _⟩ | ⟨_, _, q⟩
      · exact absurd q e2
      · omega
      · exact q
    have ha' : 0 ≤ b.at' ∧ b.at' < 1000 := by omega
    obtain ⟨n', v1', e1'', hr, td2⟩ := todo_two kg ha.1 ha.2 hd'.1 hd'.2 (by omega) hbw.2 hcm t
    simp only [Prod.mk.injEq] at hr
    obtain ⟨rfl, rfl, rfl⟩ := hr
    have ls' : s'.length ≤ 26000 := by omega
    clear lst hn
    have hkd := kg.kind ha.1 ha.2
    clear hb hcm t hc
    repeat first | refine R1 ?_ | refine R2 fun _ => ?_
    refine Xb fun u Au gu => ?_
    repeat first | refine R1 ?_ | refine R2 fun _ => ?_
    refine Xa gv gu fun vv2 AV2 gv2 => ?_
    have ov2 := gv2.one
    repeat first | refine R1 ?_ | refine R2 fun _ => ?_
    have csp := spreadOf_v (M := M) h (gt g.cells b.at'.toNat).kind b.weight ⟨hkd.1, hkd.2.1⟩ hbw
    unfold spreadV at csp
    refine Xv (csp) ?_
    repeat first | refine R1 ?_ | refine R2 fun _ => ?_
    refine sf_if (fun e7 => ?_) fun e7 => ?_
    · repeat first | refine R1 ?_ | refine R2 fun _ => ?_
      refine fp (y_call (endOf_f h b5 vv2 ev ov2 AE E ge (by omega) 2 b.at' (spread (gt g.cells b.at'.toNat).kind b.weight).stop) (by rfl) ?_)
      rintro _ _ ⟨ev2, AE2, rfl, ge2⟩
      have oe2 := ge2.one
      repeat first | refine R1 ?_ | refine R2 fun _ => ?_
      refine fp (y_call (endOf_f h b5 vv2 ev2 ov2 AE2 _ ge2 (by simp only [List.length_append]; have := endIf_len 2 b.at' (spread (gt g.cells b.at'.toNat).kind b.weight).stop; omega) 3 b.at' (spread (gt g.cells b.at'.toNat).kind b.weight).lost) (by rfl) ?_)
      rintro _ _ ⟨ev3, AE3, rfl, ge3⟩
      have oe3 := ge3.one
      have hH : hereF g b.at' b.weight = endIf 2 b.at' (spread (gt g.cells b.at'.toNat).kind b.weight).stop ++ endIf 3 b.at' (spread (gt g.cells b.at'.toNat).kind b.weight).lost := by
        unfold hereF; simp [e7]
      repeat first | refine R1 ?_ | refine R2 fun _ => ?_
      refine Sd [[],[],[],[2],[],[4],[],[6],[4,5,6,7],[],[9],[1,2,3,4,5,6,7,8,9,10],[],[],[13],[],[15],[],[17],[1,2,3,4,5,6,7,8,9,10,11,12,13,14,15,16,17,18],[1,2,3,4,5,6,7,8,9,10,11,12,13,14,15,16,17,18,19],[0,1,2,3,4,5,6,7,8,9,10,11,12,13,14,15,16,17,18,19,20],[0,1,2,3,4,5,6,7,8,9,10,11,12,13,14,15,16,17,18,19,20,21]] 21 [Nn 0,Nn 1,Nn 2,Nn 3,Nn 4,Nn 5,Nn 6,Nn 7,Nn 9,Nn 10,Nn 12,Nn 13,Nn 14,Nn 15,Nn 16,Nn 17,Nn 18,Yy 8,Yy 11,Yy 19,Yy 20] ?_
      refine Da ?_
      refine Yv (dirTurn_v h (gt g.cells b.at'.toNat).kind b.dir hd') ?_
      refine Da ?_
      refine Yv (beamFrom_v h c g s e b.at' (dirTurn (gt g.cells b.at'.toNat).kind b.dir) (spread (gt g.cells b.at'.toNat).kind b.weight).turn ha' (dirTurn_ok hd'.1 hd'.2)) ?_
      refine Da ?_
      refine Yv (beamFrom_v h c g s e b.at' b.dir (spread (gt g.cells b.at'.toNat).kind b.weight).pass ha' hd') ?_
      refine Da ?_
      refine Yb fun w3 Aw3 gw3 => ?_
      refine Da ?_
      refine Ae ?_
      refine Xa gs2 gw3 fun sv4 AS4 gs4 => ?_
      have os4 := gs4.one
      repeat first | refine R1 ?_ | refine R2 fun _ => ?_
      exact ⟨(n' + m, sv4), by simp only; omega, ⟨rfl, trivial⟩, rfl, (b5, .cells #[vv2, ev3] 294) :: (AS4 ++ (AV2 ++ (AE3 ++ [(b6, .cells #[.int .i64 (rayAt g k).at', .int .i64 (rayAt g k).dir] 226), (b4, .cells #[.slice none 0 0, .slice none 0 0] 294), (b2, .cells #[.int .i64 g.wide, c] 34)]))), _, inferInstance, vv2, ev3, AS4, AV2, AE3, rfl, _, _, _, v1' ++ v2, e1'' ++ eb, gs4, gv2, ge3, by simpa using td2, by rw [hv]; simp, by rw [he, hH]; simp, by simp only; omega⟩
    · repeat first | refine R1 ?_ | refine R2 fun _ => ?_
      refine fp (y_call (endOf_f h b5 vv2 ev ov2 AE E ge (by omega) 1 b.at' (spread (gt g.cells b.at'.toNat).kind b.weight).stop) (by rfl) ?_)
      rintro _ _ ⟨ev2, AE2, rfl, ge2⟩
      have oe2 := ge2.one
      repeat first | refine R1 ?_ | refine R2 fun _ => ?_
      refine fp (y_call (endOf_f h b5 vv2 ev2 ov2 AE2 _ ge2 (by simp only [List.length_append]; have := endIf_len 1 b.at' (spread (gt g.cells b.at'.toNat).kind b.weight).stop; omega) 3 b.at' (spread (gt g.cells b.at'.toNat).kind b.weight).lost) (by rfl) ?_)
      rintro _ _ ⟨ev3, AE3, rfl, ge3⟩
      have oe3 := ge3.one
      have hH : hereF g b.at' b.weight = endIf 1 b.at' (spread (gt g.cells b.at'.toNat).kind b.weight).stop ++ endIf 3 b.at' (spread (gt g.cells b.at'.toNat).kind b.weight).lost := by
        unfold hereF; simp [e7]
      repeat first | refine R1 ?_ | refine R2 fun _ => ?_
      refine Sd [[],[],[],[2],[],[4],[],[6],[4,5,6,7],[],[9],[1,2,3,4,5,6,7,8,9,10],[],[],[13],[],[15],[],[17],[1,2,3,4,5,6,7,8,9,10,11,12,13,14,15,16,17,18],[1,2,3,4,5,6,7,8,9,10,11,12,13,14,15,16,17,18,19],[0,1,2,3,4,5,6,7,8,9,10,11,12,13,14,15,16,17,18,19,20],[0,1,2,3,4,5,6,7,8,9,10,11,12,13,14,15,16,17,18,19,20,21]] 21 [Nn 0,Nn 1,Nn 2,Nn 3,Nn 4,Nn 5,Nn 6,Nn 7,Nn 9,Nn 10,Nn 12,Nn 13,Nn 14,Nn 15,Nn 16,Nn 17,Nn 18,Yy 8,Yy 11,Yy 19,Yy 20] ?_
      refine Da ?_
      refine Yv (dirTurn_v h (gt g.cells b.at'.toNat).kind b.dir hd') ?_
      refine Da ?_
      refine Yv (beamFrom_v h c g s e b.at' (dirTurn (gt g.cells b.at'.toNat).kind b.dir) (spread (gt g.cells b.at'.toNat).kind b.weight).turn ha' (dirTurn_ok hd'.1 hd'.2)) ?_
      refine Da ?_
      refine Yv (beamFrom_v h c g s e b.at' b.dir (spread (gt g.cells b.at'.toNat).kind b.weight).pass ha' hd') ?_
      refine Da ?_
      refine Yb fun w3 Aw3 gw3 => ?_
      refine Da ?_
      refine Ae ?_
      refine Xa gs2 gw3 fun sv4 AS4 gs4 => ?_
      have os4 := gs4.one
      repeat first | refine R1 ?_ | refine R2 fun _ => ?_
      exact ⟨(n' + m, sv4), by simp only; omega, ⟨rfl, trivial⟩, rfl, (b5, .cells #[vv2, ev3] 294) :: (AS4 ++ (AV2 ++ (AE3 ++ [(b6, .cells #[.int .i64 (rayAt g k).at', .int .i64 (rayAt g k).dir] 226), (b4, .cells #[.slice none 0 0, .slice none 0 0] 294), (b2, .cells #[.int .i64 g.wide, c] 34)]))), _, inferInstance, vv2, ev3, AS4, AV2, AE3, rfl, _, _, _, v1' ++ v2, e1'' ++ eb, gs4, gv2, ge3, by simpa using td2, by rw [hv]; simp, by rw [he, hH]; simp, by simp only; omega⟩
  · refine sf_exit ?_
    obtain rfl : st = [] := List.eq_nil_of_length_eq_zero (by omega)
    cases td
    repeat first | refine R1 ?_ | refine R2 fun _ => ?_
    exact sf_ret (rO (AV ++ AE) ⟨vv, ev, AV, AE, rfl, rfl, by rw [hv, List.append_nil]; exact gv, by rw [he, List.append_nil]; exact ge⟩)
theorem trailLight_v (h : PHeap) (c : Value) (g : Grid) (s : Sl h c cellF g.cells) (e : gridOk g = true) (k : Int) (hk : 0 ≤ k ∧ k < manyOf g) : CallV Tryz.prog M 192 [.agg #[.int .i64 g.wide, c], .int .i64 k] h (.int .i64 (trailLight g k)) := by
  have o1 := s.one
  have kg := gok e
  obtain ⟨sz, v, es, hc, hg, hsz, hok⟩ := goLight_is kg hk.1 hk.2
  have hle := hok.le
  have hes : ∀ e ∈ es, EndOk g 64 e := hok.es
  simp only at hle
  refine Cs Tryz.func192 Tryz.ntmps192 ?_
  repeat first | refine R1 ?_ | refine R2 fun _ => ?_
  refine fp (y_call (trailOf_f h c g s e k hk) (by rfl) ?_)
  rintro _ _ ⟨vv, ev, AV, AE, rfl, rfl, gv, ge⟩
  rw [hg] at gv ge
  have ov := gv.one
  have oe := ge.one
  simp only at ge gv
  have hg' := hg
  clear hc hg
  repeat first | refine R1 ?_ | refine R2 fun _ => ?_
  rename_i b2
  refine sf_lp (ι := Nat) [2, 11, 12] (fun k => [(5, .int .i64 (sumF (endLight g) (es.take k))), (13, .int .i64 (k : Int))]) (fun k O => k ≤ es.length ∧ O = AV ++ (AE ++ [(b2, .cells #[.int .i64 g.wide, c] 34)])) (fun k => es.length - k) 0 (AV ++ (AE ++ [(b2, .cells #[.int .i64 g.wide, c] 34)])) ⟨by omega, rfl⟩ ?_
  rintro j O ⟨hj, rfl⟩
  have hsum := lightOf_bd kg hes j (by omega)
  repeat first | refine R1 ?_ | refine R2 fun _ => ?_
  refine sf_if (fun e1 => ?_) fun e1 => ?_
  · have hj1 : j < es.length := by omega
    have ek := hes (gt es j) (by rw [gt_eq hj1]; exact List.getElem_mem _)
    have hst := sumF_step (f := endLight g) hj1
    have hbd := endLight_bd kg ek
    repeat first | refine R1 ?_ | refine R2 fun _ => ?_
    refine sf_if (fun e2 => ?_) fun e2 => ?_
    · have hcl := ek.cell (by omega)
      rw [endLight, if_pos e2] at hst hbd
      repeat first | refine R1 ?_ | refine R2 fun _ => ?_
      refine Sd [[],[],[1],[],[3],[],[5],[3,4,5,6],[3,4,5,6,7],[3,4,5,6,7,8],[1,2,3,4,5,6,7,8,9],[0,1,2,3,4,5,6,7,8,9,10],[0,1,2,3,4,5,6,7,8,9,10,11]] 11 [Nn 0,Nn 1,Nn 2,Nn 3,Nn 4,Nn 5,Nn 6,Nn 7,Nn 8,Nn 9,Nn 10] ?_
      refine Da ?_
      refine Ae ?_
      repeat first | refine R1 ?_ | refine R2 fun _ => ?_
      exact ⟨j + 1, by omega, ⟨by rw [hst]; rfl, rfl, trivial⟩, rfl, _, _, inferInstance, by omega, rfl⟩
    · rw [endLight, if_neg e2, Int.add_zero] at hst
      repeat first | refine R1 ?_ | refine R2 fun _ => ?_
      exact ⟨j + 1, by omega, ⟨by rw [hst]; rfl, rfl, trivial⟩, rfl, _, _, inferInstance, by omega, rfl⟩
  · refine sf_exit ?_
    repeat first | refine R1 ?_ | refine R2 fun _ => ?_
    refine sf_ret (rV ?_)
    rw [trailLight, lightOf, hg', List.take_of_length_le (by omega)]
end Go.Proofs.YtekjikbaefgncaaGreatDoor
namespace Go.Proofs.YtekjikbaefgncaaGreatDoor
open Go Go.Sl
set_option maxRecDepth 100000
set_option maxHeartbeats 4000000
attribute [local irreducible] Go.Code.sf sfOps Opq opo retF Do1 anyO
variable {M : Jdg → Prop} [IsCl Tryz.prog M]
open Go.Extern
instance : Ext Tryz.prog 185 (fun args => ReflectliteValue.unpack (args.getD 0 (.tuple #[]))) := ⟨_, Tryz.func185, by kernel_rfl, by kernel_rfl, by kernel_rfl, by kernel_rfl⟩
instance : Ext Tryz.prog 186 (ReflectliteValue.methodAny (ReflectliteValue.valueError "reflectlite.Value.Type" 0) (fun t _ _ _ => ReflectliteType.toType t)) := ⟨_, Tryz.func186, by kernel_rfl, by kernel_rfl, by kernel_rfl, by kernel_rfl⟩
instance : Ext Tryz.prog 187 (ReflectliteValue.method (ReflectliteValue.valueError "reflectlite.Value.IsNil" 0) ReflectliteValue.isNil) := ⟨_, Tryz.func187, by kernel_rfl, by kernel_rfl, by kernel_rfl, by kernel_rfl⟩
instance : Ext Tryz.prog 331 (ReflectliteType.abiMethod fun t => do pure (.int .u8 (← Rtype.kind t))) := ⟨_, Tryz.func331, by kernel_rfl, by kernel_rfl, by kernel_rfl, by kernel_rfl⟩
instance : Ext Tryz.prog 341 (ReflectliteType.method ReflectliteType.elem) := ⟨_, Tryz.func341, by kernel_rfl, by kernel_rfl, by kernel_rfl, by kernel_rfl⟩
instance : Ext Tryz.prog 342 (ReflectliteType.relation "Implements" ReflectliteType.implements_) := ⟨_, Tryz.func342, by kernel_rfl, by kernel_rfl, by kernel_rfl, by kernel_rfl⟩
instance : Ext Tryz.prog 216 ReflectliteType.typeOf := ⟨_, Tryz.func216, by kernel_rfl, by kernel_rfl, by kernel_rfl, by kernel_rfl⟩
instance : Ext Tryz.prog 339 (ReflectliteType.relation "AssignableTo" ReflectliteType.assignableTo) := ⟨_, Tryz.func339, by kernel_rfl, by kernel_rfl, by kernel_rfl, by kernel_rfl⟩
instance : Ext Tryz.prog 217 (ReflectliteValue.method (ReflectliteValue.valueError "reflectlite.Value.Elem" 0) ReflectliteValue.elem) := ⟨_, Tryz.func217, by kernel_rfl, by kernel_rfl, by kernel_rfl, by kernel_rfl⟩
instance : Ext Tryz.prog 218 ReflectliteValue.set := ⟨_, Tryz.func218, by kernel_rfl, by kernel_rfl, by kernel_rfl, by kernel_rfl⟩
abbrev hdl (t : TypeId) : Value := .pointer (some ⟨1, t, none⟩)
abbrev rty (t : TypeId) : Value := .iface 260 (.agg #[hdl t])
abbrev errObj : Obj := .cells #[rty 125] 235
variable {K : Value → PHeap → Prop} {E : Value → PHeap → Prop} {H : PHeap}
theorem e_unpackP (a : Addr) : (ReflectliteValue.unpack (.iface 194 (.pointer (some a)))).slp Tryz.prog K E H = ∀ r, H.obj r = none → K (.agg #[hdl 194, .pointer (some ⟨r, 0, none⟩), .int .u64 150]) (H.put r (.cells #[.pointer (some a)] 194)) := by kernel_rfl
theorem e_unpackN (s : ByteArray) : (ReflectliteValue.unpack (.iface 192 (.agg #[.string s]))).slp Tryz.prog K E H = ∀ r, H.obj r = none → K (.agg #[hdl 192, .pointer (some ⟨r, 0, none⟩), .int .u64 153]) (H.put r (.cells #[.string s] 192)) := by kernel_rfl
theorem e_type (a : Addr) (z : Sem Value) : (ReflectliteValue.methodAny z (fun t _ _ _ => ReflectliteType.toType t) #[.agg #[hdl 194, .pointer (some a), .int .u64 150]]).slp Tryz.prog K E H = K (rty 194) H := by kernel_rfl
theorem e_kindP : ((ReflectliteType.abiMethod fun t => do pure (.int .u8 (← Rtype.kind t))) #[hdl 194]).slp Tryz.prog K E H = K (.int .u8 22) H := by kernel_rfl
theorem e_kindN : ((ReflectliteType.abiMethod fun t => do pure (.int .u8 (← Rtype.kind t))) #[hdl 192]).slp Tryz.prog K E H = K (.int .u8 25) H := by kernel_rfl
theorem e_elem : (ReflectliteType.method ReflectliteType.elem #[.agg #[hdl 194]]).slp Tryz.prog K E H = K (rty 192) H := by kernel_rfl
theorem e_impl : (ReflectliteType.relation "Implements" ReflectliteType.implements_ #[.agg #[hdl 192], rty 125]).slp Tryz.prog K E H = K (.bool true) H := by kernel_rfl
theorem e_typeOf (v : Value) : (ReflectliteType.typeOf #[.iface 192 v]).slp Tryz.prog K E H = K (rty 192) H := by kernel_rfl
theorem e_assign : (ReflectliteType.relation "AssignableTo" ReflectliteType.assignableTo #[.agg #[hdl 192], rty 192]).slp Tryz.prog K E H = K (.bool true) H := by kernel_rfl
theorem e_met {nm : String} {f : FuncId} {h v : Value} (e : ∀ (K : FuncId × Value → PHeap → Prop) (E : Value → PHeap → Prop) (H : PHeap), (method (Tryz.prog.types.size + Made.depth) 260 (.agg #[h]) nm).slp Tryz.prog K E H = K (f, v) H) : MetOf Tryz.prog 260 (.agg #[h]) nm f v := fun K E H x => by rw [e]; exact x
theorem m_kind (h : Value) : MetOf Tryz.prog 260 (.agg #[h]) "Kind" 331 h := e_met fun K E H => by kernel_rfl
theorem m_elem (h : Value) : MetOf Tryz.prog 260 (.agg #[h]) "Elem" 341 (.agg #[h]) := e_met fun K E H => by kernel_rfl
theorem m_impl (h : Value) : MetOf Tryz.prog 260 (.agg #[h]) "Implements" 342 (.agg #[h]) := e_met fun K E H => by kernel_rfl
theorem m_assign (h : Value) : MetOf Tryz.prog 260 (.agg #[h]) "AssignableTo" 339 (.agg #[h]) := e_met fun K E H => by kernel_rfl
theorem e_parts (a : Addr) {K : Option (TypeId × Addr × Nat) → PHeap → Prop} : (ReflectliteValue.parts (.agg #[hdl 194, .pointer (some a), .int .u64 150])).slp Tryz.prog K E H = K (some (194, a, 150)) H := by kernel_rfl
theorem e_partsA (a : Addr) {K : Option (TypeId × Addr × Nat) → PHeap → Prop} : (ReflectliteValue.parts (.agg #[hdl 192, .pointer (some a), .int .u64 409])).slp Tryz.prog K E H = K (some (192, a, 409)) H := by kernel_rfl
theorem e_partsN (a : Addr) {K : Option (TypeId × Addr × Nat) → PHeap → Prop} : (ReflectliteValue.parts (.agg #[hdl 192, .pointer (some a), .int .u64 153])).slp Tryz.prog K E H = K (some (192, a, 153)) H := by kernel_rfl
theorem p_parts (a : Addr) : PartsIs Tryz.prog (.agg #[hdl 194, .pointer (some a), .int .u64 150]) 194 a 150 := fun K E H x => by rw [e_parts]; exact x
theorem p_partsA (a : Addr) : PartsIs Tryz.prog (.agg #[hdl 192, .pointer (some a), .int .u64 409]) 192 a 409 := fun K E H x => by rw [e_partsA]; exact x
theorem p_partsN (a : Addr) : PartsIs Tryz.prog (.agg #[hdl 192, .pointer (some a), .int .u64 153]) 192 a 153 := fun K E H x => by rw [e_partsN]; exact x
theorem e_elemOf {K : Option TypeId → PHeap → Prop} : (Rtype.elem? 194).slp Tryz.prog K E H = K (some 192) H := by kernel_rfl
theorem e_mk (p : Addr) : (ReflectliteValue.mk 192 p ReflectliteValue.flagAddr).slp Tryz.prog K E H = K (.agg #[hdl 192, .pointer (some p), .int .u64 409]) H := by kernel_rfl
theorem e_direct {K : Bool → PHeap → Prop} : (Rtype.directlyAssignable 192 192).slp Tryz.prog K E H = K true H := by kernel_rfl
end Go.Proofs.YtekjikbaefgncaaGreatDoor
namespace Go.Proofs.YtekjikbaefgncaaGreatDoor
open Go Go.Sl
set_option maxRecDepth 100000
set_option maxHeartbeats 4000000
attribute [local irreducible] Go.Code.sf sfOps Opq opo retF Do1 anyO
variable {M : Jdg → Prop} [IsCl Tryz.prog M]
open Go.Extern
theorem asErr_f (h : PHeap) (b b2 : Nat) (s s0 : ByteArray) : CallF Tryz.prog M 188 [.iface 192 (.agg #[.string s]), .iface 194 (.pointer (some ⟨b, 0, none⟩)), .agg #[hdl 194, .pointer (some ⟨b2, 0, none⟩), .int .u64 150], rty 192] [(b, .cells #[.string s0] 192), (b2, .cells #[.pointer (some ⟨b, 0, none⟩)] 194)] h fun v A => v = .bool true ∧ A = [] := by
  refine Cs Tryz.func188 Tryz.ntmps188 ?_
  repeat first | refine R1 ?_ | refine R2 fun _ => ?_
  rename_i b3
  refine sf_lp (ι := Unit) [0, 3, 6] (fun _ => []) (fun _ O => O = [(b3, .cells #[hdl 194, .pointer (some ⟨b2, 0, none⟩), .int .u64 150] 232), (b, .cells #[.string s0] 192), (b2, .cells #[.pointer (some ⟨b, 0, none⟩)] 194)]) (fun _ => 0) () [(b3, .cells #[hdl 194, .pointer (some ⟨b2, 0, none⟩), .int .u64 150] 232), (b, .cells #[.string s0] 192), (b2, .cells #[.pointer (some ⟨b, 0, none⟩)] 194)] rfl ?_
  rintro _ O rfl
  repeat first | refine R1 ?_ | refine R2 fun _ => ?_
  refine fp (Rq ?_ (q_ext (by infer_instance) (by rfl) fun K E H x => by rw [show _ = _ from e_typeOf _]; exact x))
  repeat first | refine R1 ?_ | refine R2 fun _ => ?_
  refine fp (Rq ?_ (q_invokeX (by rfl) (by rfl) (m_assign _) (by infer_instance) fun K E H x => by rw [show _ = _ from e_assign]; exact x))
  repeat first | refine R1 ?_ | refine R2 fun _ => ?_
  refine sf_T rfl ?_
  repeat first | refine R1 ?_ | refine R2 fun _ => ?_
  have sp0 : Sp [(b3, Obj.cells #[hdl 194, .pointer (some ⟨b2, 0, none⟩), .int .u64 150] 232), (b, .cells #[.string s0] 192), (b2, .cells #[.pointer (some ⟨b, 0, none⟩)] 194)] [(b2, .cells #[.pointer (some ⟨b, 0, none⟩)] 194)] _ := inferInstance
  refine fp (x_ext (by infer_instance) (by rfl) fun F H r => ?_)
  refine slp_elem (u := 192) (p := ⟨b, 0, none⟩) (w := .agg #[hdl 192, .pointer (some ⟨b, 0, none⟩), .int .u64 409]) inferInstance (by rfl) (p_parts _) (by rw [cell_of (r.own b2 (.cells #[.pointer (some ⟨b, 0, none⟩)] 194) (by simp)).1]; rfl) (fun K E H x => by rw [e_elemOf]; exact x) (fun K E H x => by rw [e_mk]; exact x) ⟨_, r, ?_⟩
  clear r
  repeat first | refine R1 ?_ | refine R2 fun _ => ?_
  refine fp (x_ext (by infer_instance) (by rfl) fun F H r => ?_)
  show (ReflectliteValue.unpack (.iface 192 (.agg #[.string s]))).slp Tryz.prog _ _ H
  rw [e_unpackN]
  intro b4 hb4
  refine ⟨_, r.alloc hb4 _, ?_⟩
  clear r hb4
  repeat first | refine R1 ?_ | refine R2 fun _ => ?_
  refine fp (x_ext (by infer_instance) (by rfl) fun F H r => ?_)
  have r' : Rel F h ([(b4, Obj.cells #[.string s] 192), (b3, Obj.cells #[hdl 194, .pointer (some ⟨b2, 0, none⟩), .int .u64 150] 232)] ++ (b, .cells #[.string s0] 192) :: [(b2, .cells #[.pointer (some ⟨b, 0, none⟩)] 194)]) H := r
  obtain ⟨o1, o2, _⟩ := r'.own b (.cells #[.string s0] 192) (by simp)
  refine slp_set (val := .agg #[.string s]) (p_partsA _) (p_partsN _) (by rfl) (fun K E x => slp_loadVar inferInstance (cs := [.string s]) rfl (fun e => by cases e) (cells_one (by rw [cell_of (r.own b4 (.cells #[.string s] 192) (by simp)).1]; rfl)) x) (fun K E H x => by rw [e_direct]; exact x) inferInstance rfl o1 o2 (by simp [Value.cells]) (by rfl) ⟨_, r'.set _, ?_⟩
  clear r r' o1 o2
  repeat first | refine R1 ?_ | refine R2 fun _ => ?_
  exact sf_ret (rO [] ⟨rfl, rfl⟩)
theorem errorsAs_f (h : PHeap) [BAt h 0 errObj] (b : Nat) (s s0 : ByteArray) : CallF Tryz.prog M 137 [.iface 192 (.agg #[.string s]), .iface 194 (.pointer (some ⟨b, 0, none⟩))] [(b, .cells #[.string s0] 192)] h fun v A => v = .bool true ∧ A = [] := by
  refine Cs Tryz.func137 Tryz.ntmps137 ?_
  repeat first | refine R1 ?_ | refine R2 fun _ => ?_
  refine fp (Rq ?_ (q_eqI (.inr ⟨_, _, rfl, rfl⟩) (by infer_instance) (by rfl)))
  repeat first | refine R1 ?_ | refine R2 fun _ => ?_
  refine sf_N rfl ?_
  repeat first | refine R1 ?_ | refine R2 fun _ => ?_
  refine fp (Rq ?_ (q_eqI (.inr ⟨_, _, rfl, rfl⟩) (by infer_instance) (by rfl)))
  repeat first | refine R1 ?_ | refine R2 fun _ => ?_
  refine sf_N rfl ?_
  repeat first | refine R1 ?_ | refine R2 fun _ => ?_
  refine fp (x_ext (by infer_instance) (by rfl) fun F H r => ?_)
  show (ReflectliteValue.unpack (.iface 194 (.pointer (some ⟨b, 0, none⟩)))).slp Tryz.prog _ _ H
  rw [e_unpackP]
  intro b2 hb2
  refine ⟨_, r.alloc hb2 _, ?_⟩
  clear r hb2
  repeat first | refine R1 ?_ | refine R2 fun _ => ?_
  refine fp (Rq ?_ (q_ext (by infer_instance) (by rfl) fun K E H x => by rw [show _ = _ from e_type _ _]; exact x))
  repeat first | refine R1 ?_ | refine R2 fun _ => ?_
  refine fp (Rq ?_ (q_invokeX (by rfl) (by rfl) (m_kind _) (by infer_instance) fun K E H x => by rw [show _ = _ from e_kindP]; exact x))
  repeat first | refine R1 ?_ | refine R2 fun _ => ?_
  refine fp (x_ext (by infer_instance) (by rfl) fun F H r => ?_)
  refine slp_isNil (u := 192) (p := ⟨b, 0, none⟩) inferInstance (by rfl) (p_parts _) (by rw [cell_of (r.own b2 (.cells #[.pointer (some ⟨b, 0, none⟩)] 194) (by simp)).1]; rfl) ⟨_, r, ?_⟩
  clear r
  repeat first | refine R1 ?_ | refine R2 fun _ => ?_
  refine sf_N rfl ?_
  repeat first | refine R1 ?_ | refine R2 fun _ => ?_
  refine fp (Rq ?_ (q_invokeX (by rfl) (by rfl) (m_elem _) (by infer_instance) fun K E H x => by rw [show _ = _ from e_elem]; exact x))
  repeat first | refine R1 ?_ | refine R2 fun _ => ?_
  refine fp (Rq ?_ (q_invokeX (by rfl) (by rfl) (m_kind _) (by infer_instance) fun K E H x => by rw [show _ = _ from e_kindN]; exact x))
  repeat first | refine R1 ?_ | refine R2 fun _ => ?_
  refine fp (Rq ?_ (q_invokeX (by rfl) (by rfl) (m_impl _) (by infer_instance) fun K E H x => by rw [show _ = _ from e_impl]; exact x))
  repeat first | refine R1 ?_ | refine R2 fun _ => ?_
  refine sf_N rfl ?_
  repeat first | refine R1 ?_ | refine R2 fun _ => ?_
  refine fp (y_call (asErr_f h b b2 s s0) (by rfl) ?_)
  rintro _ _ ⟨rfl, rfl⟩
  repeat first | refine R1 ?_ | refine R2 fun _ => ?_
  exact sf_ret (rO [] ⟨rfl, rfl⟩)
def ErrIs (v : Value) (b : Bool) : Prop := (v = .nilIface ∧ b = false) ∨ ∃ s, v = .iface 192 (.agg #[.string s]) ∧ b = true
theorem ErrIs.one {v : Value} {b : Bool} (e : ErrIs v b) : Sl.One v := by
  rcases e with ⟨rfl, _⟩ | ⟨s, rfl, _⟩ <;> infer_instance
theorem errorsAs_nil' (h : PHeap) (u : TypeId) (z : Value) : CallV Tryz.prog M 137 [.nilIface, .iface u z] h (.bool false) := by
  refine Cs Tryz.func137 Tryz.ntmps137 ?_
  repeat first | refine R1 ?_ | refine R2 fun _ => ?_
  refine fp (Rq ?_ (q_eqI (.inl ⟨rfl, rfl⟩) (by infer_instance) (by rfl)))
  repeat first | refine R1 ?_ | refine R2 fun _ => ?_
  refine sf_T rfl ?_
  repeat first | refine R1 ?_ | refine R2 fun _ => ?_
  exact sf_ret (rV rfl)
theorem refused_v (h : PHeap) [BAt h 0 errObj] (v : Value) (b : Bool) (e : ErrIs v b) : CallV Tryz.prog M 69 [v] h (.bool b) := by
  have o1 := e.one
  refine Cs Tryz.func69 Tryz.ntmps69 ?_
  repeat first | refine R1 ?_ | refine R2 fun _ => ?_
  rename_i b1
  rcases e with ⟨rfl, rfl⟩ | ⟨s, rfl, rfl⟩
  · refine Xv (errorsAs_nil' _ _ _) ?_
    repeat first | refine R1 ?_ | refine R2 fun _ => ?_
    exact sf_ret (rV rfl)
  · refine fp (y_call (errorsAs_f h b1 s ⟨#[]⟩) (by rfl) ?_)
    rintro _ _ ⟨rfl, rfl⟩
    repeat first | refine R1 ?_ | refine R2 fun _ => ?_
    exact sf_ret (rV rfl)
theorem neqErr {n : Nat} {L : Locals} {O : Own} {h : PHeap} {d : Option Nat} {t' ty : TypeId} {pos : String} {af : Array Edge} {g : Option (Nat × Bool)} {x : Operand} {v : Value} {b : Bool} (e : ErrIs v b) (hx : Sl.ev L x = some v) : Opq Tryz.prog n ⟨d, .binOp .neq 125 x (.const .nilIface) t', ty, pos, af, g⟩ L O h (.bool b) := by
  rcases e with ⟨rfl, rfl⟩ | ⟨s, rfl, rfl⟩
  · exact q_neqI (.inl ⟨rfl, rfl⟩) inferInstance hx
  · exact q_neqI (.inr ⟨_, _, rfl, rfl⟩) inferInstance hx
end Go.Proofs.YtekjikbaefgncaaGreatDoor
namespace Go.Proofs.YtekjikbaefgncaaGreatDoor
open Go Go.Sl
set_option maxRecDepth 100000
set_option maxHeartbeats 4000000
attribute [local irreducible] Go.Code.sf sfOps Opq opo retF Do1 anyO
variable {M : Jdg → Prop} [IsCl Tryz.prog M]
theorem editOk_v (h : PHeap) (c : Value) (g : Grid) (s : Sl h c cellF g.cells) (e : Edit) : CallV Tryz.prog M 167 [.agg #[.int .i64 g.wide, c], .agg #[.int .i64 e.at', .int .i64 e.cell.kind, .int .i64 e.cell.light]] h (.bool (editOk g e)) := by
  have o1 := s.one
  refine Cs Tryz.func167 Tryz.ntmps167 ?_
  repeat first | refine R1 ?_ | refine R2 fun _ => ?_
  refine Xv (cellOk_v _ e.cell) ?_
  repeat first | refine R1 ?_ | refine R2 fun _ => ?_
  refine f_splitB (fun h1 => ?_) fun h1 => ?_
  · repeat first | refine R1 ?_ | refine R2 fun _ => ?_
    refine f_split (fun h2 => ?_) fun h2 => ?_ <;>
    · repeat first | refine R1 ?_ | refine R2 fun _ => ?_
      refine sf_ret (rV ?_)
      simp [editOk, h1, h2]
  · repeat first | refine R1 ?_ | refine R2 fun _ => ?_
    refine sf_ret (rV ?_)
    simp [editOk, h1]
theorem editsOk_v (h : PHeap) (c : Value) (g : Grid) (s : Sl h c cellF g.cells) (v : Value) (es : List Edit) (s2 : Sl h v editF es) : CallV Tryz.prog M 139 [.agg #[.int .i64 g.wide, c], v] h (.bool (editsOk g es)) := by
  have o1 := s.one
  have o2 := s2.one
  have hs := s2.small
  refine Cs Tryz.func139 Tryz.ntmps139 ?_
  repeat first | refine R1 ?_ | refine R2 fun _ => ?_
  refine sf_rd [2, 7, 8] 9 es.length 0 (fun k => editsOk g (es.take k) = true) (by omega) rfl (fun k hk hi => ?_)
  repeat first | refine R1 ?_ | refine R2 fun _ => ?_
  refine sf_if (fun h4 => ?_) fun h4 => ?_
  · have hk4 : k < es.length := by omega
    repeat first | refine R1 ?_ | refine R2 fun _ => ?_
    refine Xv (editOk_v _ c g s (gt es k)) ?_
    repeat first | refine R1 ?_ | refine R2 fun _ => ?_
    refine sf_cond (by rfl) (fun h5 => ?_) fun h5 => ?_
    · repeat first | refine R1 ?_ | refine R2 fun _ => ?_
      simp only [Bool.not_eq_true'] at h5
      refine sf_ret (rV ?_)
      rw [editsOk, all_false hk4 h5]
    · repeat first | refine R1 ?_ | refine R2 fun _ => ?_
      refine ⟨⟨hk4, ?_⟩, rfl, rfl, _, inferInstance⟩
      rw [editsOk, all_take hk4]
      rw [editsOk] at hi
      rw [hi]; simpa using h5
  · refine sf_exit ?_
    repeat first | refine R1 ?_ | refine R2 fun _ => ?_
    rw [take_ge hk (by omega)] at hi
    exact sf_ret (rV (by rw [hi]))
theorem paintIdOk_v (h : PHeap) (id many : Int) : CallV Tryz.prog M 155 [.int .i64 id, .int .i64 many] h (.bool (decide (1 ≤ many) && decide (many ≤ 3) && decide (1 ≤ id) && decide (id ≤ many))) := by
  refine Cs Tryz.func155 Tryz.ntmps155 ?_
  refine Wo ?_
  refine f_split (fun h1 => ?_) fun h1 => ?_
  · refine Wo ?_
    refine f_split (fun h2 => ?_) fun h2 => ?_
    · refine Wo ?_
      refine f_split (fun h3 => ?_) fun h3 => ?_ <;>
      · refine Wo ?_
        refine sf_ret (rV ?_)
        simp [h1, h2, h3]
    · refine Wo ?_
      refine sf_ret (rV ?_)
      simp [h1, h2]
  · refine Wo ?_
    refine sf_ret (rV ?_)
    simp [h1]
theorem keepVersion_f (h : PHeap) (ca : List Value) (k : Keeper) (b : (keeperR τ).B h ca k) (v : Int) : CallF Tryz.prog M 74 [.agg ca.toArray, .int .i64 v] [] h fun u A => ErrIs u (!verOk k v) ∧ A = [] := by
  obtain ⟨c, e, p, s, rfl, s1, s2, s3, s4⟩ := keeperB b
  have o1 := s1.one
  have o2 := s2.one
  have o3 := s3.one
  have o4 := s4.one
  refine Cs Tryz.func74 Tryz.ntmps74 ?_
  repeat first | refine R1 ?_ | refine R2 fun _ => ?_
  refine f_split (fun h1 => ?_) fun h1 => ?_
  · repeat first | refine R1 ?_ | refine R2 fun _ => ?_
    refine sf_T rfl ?_
    repeat first | refine R1 ?_ | refine R2 fun _ => ?_
    exact sf_ret (rO [] ⟨.inr ⟨_, rfl, by simp [verOk]; omega⟩, rfl⟩)
  · repeat first | refine R1 ?_ | refine R2 fun _ => ?_
    refine sf_if (fun h2 => ?_) fun h2 => ?_
    · repeat first | refine R1 ?_ | refine R2 fun _ => ?_
      exact sf_ret (rO [] ⟨.inr ⟨_, rfl, by simp [verOk]; omega⟩, rfl⟩)
    · repeat first | refine R1 ?_ | refine R2 fun _ => ?_
      exact sf_ret (rO [] ⟨.inl ⟨rfl, by simp [verOk]; omega⟩, rfl⟩)
theorem keepGridOf_f (h : PHeap) (ca : List Value) (k : Keeper) (b : (keeperR τ).B h ca k) (hk : HeadOk k) (v : Int) (hv : verOk k v = true) : CallF Tryz.prog M 75 [.agg ca.toArray, .int .i64 v] [] h fun u A => ∃ cs, u = .agg cs.toArray ∧ (gridR τ).O A cs (gridAt k v) := by
  obtain ⟨c, e, p, s, rfl, s1, s2, s3, s4⟩ := keeperB b
  have o1 := s1.one
  have o2 := s2.one
  have o3 := s3.one
  have o4 := s4.one
  have hsm := (gok hk.grid).small
  have h60 := hk.e60
  simp only [verOk, Bool.and_eq_true, decide_eq_true_eq] at hv
  obtain ⟨n, rfl⟩ : ∃ n : Nat, v = n := ⟨v.toNat, by omega⟩
  obtain ⟨v', sv, op⟩ := s2.upTo (l := n) (by omega)
  have ov := sv.one
  have hln : (k.edits.take n).length = n := by rw [List.length_take]; omega
  have hed := editsOk_take hk.edits n
  have hgd : gridAt k (n : Nat) = gridAfter k.first (k.edits.take n) := rfl
  rw [hgd]
  clear hgd
  refine Cs Tryz.func75 Tryz.ntmps75 ?_
  repeat first | refine R1 ?_ | refine R2 fun _ => ?_
  refine fp (y_call (gridCopy_f _ _ k.first (gridB_mk s1) (by omega)) (by rfl) ?_)
  rintro _ A1 ⟨_, rfl, q⟩
  obtain ⟨c2, rfl, g1, l1⟩ := gridO q
  have o5 := g1.one
  repeat first | refine R1 ?_ | refine R2 fun _ => ?_
  refine fp (Rq ?_ (op (by infer_instance) (by infer_instance) (by rfl) (by rfl)))
  generalize k.edits.take n = es at *
  repeat first | refine R1 ?_ | refine R2 fun _ => ?_
  rename_i b2 b4 b5
  refine sf_lp (ι := Nat) [4, 5, 14, 15] (fun i => [(16, .int .i64 (i : Int))]) (fun i O => i ≤ es.length ∧ ∃ A', O = (b5, .cells #[.int .i64 k.first.wide, c2] 34) :: (A' ++ [(b4, .cells #[.int .i64 0, .slice none 0 0] 34)]) ∧ ∃ cs, cs = (gridAfter k.first (es.take i)).cells ∧ cs.length = k.first.cells.length ∧ Gr A' c2 67 cellF cs) (fun i => es.length - i) 0 ((b5, .cells #[.int .i64 k.first.wide, c2] 34) :: (A1 ++ [(b4, .cells #[.int .i64 0, .slice none 0 0] 34)])) ⟨by omega, _, rfl, _, rfl, rfl, g1⟩ ?_
  rintro i O ⟨hi, A', rfl, cs, ecs, lcs, gr⟩
  have o6 := gr.one
  repeat first | refine R1 ?_ | refine R2 fun _ => ?_
  refine sf_if (fun h4 => ?_) fun h4 => ?_
  · have hi4 : i < es.length := by omega
    obtain ⟨e1, e2, e3⟩ := editOk_is (editsOk_at hed hi4)
    obtain ⟨a, ha⟩ : ∃ a : Nat, (gt es i).at' = a := ⟨(gt es i).at'.toNat, by omega⟩
    repeat first | refine R1 ?_ | refine R2 fun _ => ?_
    simp only [ha]
    repeat first | refine R1 ?_ | refine R2 fun _ => ?_
    refine Xg gr fun A2 cs2 ec lc _ g2 => ?_
    repeat first | refine R1 ?_ | refine R2 fun _ => ?_
    refine ⟨i + 1, by omega, ⟨rfl, trivial⟩, rfl, (b5, .cells #[.int .i64 k.first.wide, c2] 34) :: (A2 ++ [(b4, .cells #[.int .i64 0, .slice none 0 0] 34)]), _, inferInstance, by omega, A2, rfl, cs2, ?_, by omega, g2⟩
    rw [gridAfter_step hi4, putCell, ec, ecs, ha]; rfl
  · refine sf_exit ?_
    repeat first | refine R1 ?_ | refine R2 fun _ => ?_
    rw [take_ge hi (by omega)] at ecs
    refine sf_ret (rO A' ⟨_, rfl, ?_⟩)
    have := gridO_mk (τ := τ) (g := gridAfter k.first es) (c := c2) (A := A') (by rw [← ecs]; exact gr) (by rw [← ecs]; omega)
    rw [(gridAfter_same es k.first).1] at this
    exact this
theorem sightMany_ok {g : Grid} (h : gridOk g = true) : sightMany g = manyOf g := by rw [sightMany, if_pos h]
theorem paintOwn_f (h : PHeap) (ca : List Value) (g : Grid) (b : (gridR τ).B h ca g) (e : gridOk g = true) (id many : Nat) (h1 : 1 ≤ id) (h2 : id ≤ many) (h3 : many ≤ 3) : CallF Tryz.prog M 173 [.agg ca.toArray, .int .i64 (id : Int), .int .i64 (many : Int)] [] h fun u A => Gr A u 3 intF (ownList (manyOf g).toNat many id) := by
  obtain ⟨c, rfl, s⟩ := gridB b
  have o1 := s.one
  have hm := (gok e).many
  obtain ⟨S, hS⟩ : ∃ S : Nat, manyOf g = S := ⟨(manyOf g).toNat, by omega⟩
  rw [hS] at hm ⊢
  simp only [Int.toNat_natCast]
  have hc : ∀ j, j < ownCnt S many id ↔ id - 1 + j * many < S := fun j => ownCnt_lt h1 h2 h3
  refine Cs Tryz.func173 Tryz.ntmps173 ?_
  repeat first | refine R1 ?_ | refine R2 fun _ => ?_
  refine Xv (paintIdOk_v _ _ _) ?_
  rw [show (decide ((1 : Int) ≤ (many : Int)) && decide ((many : Int) ≤ 3) && decide (1 ≤ (id : Int)) && decide ((id : Int) ≤ (many : Int))) = true by simp; omega]
  repeat first | refine R1 ?_ | refine R2 fun _ => ?_
  refine sf_cond (by rfl) (fun e => by cases e) fun z1 => ?_
  clear z1
  repeat first | refine R1 ?_ | refine R2 fun _ => ?_
  rename_i b3
  rw [show (id : Int) - 1 = ((id - 1 + 0 * many : Nat) : Int) by omega]
  refine sf_lp (ι := Nat × Value) [2, 3] (fun x => [(8, .int .i64 ((id - 1 + x.1 * many : Nat) : Int)), (7, x.2)]) (fun x O => x.1 ≤ ownCnt S many id ∧ ∃ A', O = A' ++ [(b3, .cells #[.int .i64 g.wide, c] 34)] ∧ ∃ xs, xs.length = x.1 ∧ xs = ((List.range x.1).map fun j => ((id - 1 + j * many : Nat) : Int)) ∧ Gr A' x.2 3 intF xs) (fun x => ownCnt S many id - x.1) (0, .slice none 0 0) ([] ++ [(b3, .cells #[.int .i64 g.wide, c] 34)]) ⟨by omega, [], rfl, [], rfl, rfl, Gr.nil _ _⟩ ?_
  rintro ⟨j, v⟩ O ⟨hj, A', rfl, xs, lx, ex, gr⟩
  simp only at hj lx ex gr ⊢
  have o2 := gr.one
  repeat first | refine R1 ?_ | refine R2 fun _ => ?_
  refine Xv (sightMany_v _ _ g b) ?_
  rw [sightMany_ok e, hS]
  have hjm : j * many ≤ 20 * 3 ∧ j ≤ 20 := by
    rcases Nat.eq_zero_or_pos j with rfl | hj0
    · omega
    · have := (hc (j - 1)).1 (by omega)
      have h4 : (j - 1) * many ≤ 20 * 3 := by omega
      have h5 : j * many = (j - 1) * many + many := by
        obtain ⟨k, rfl⟩ : ∃ k, j = k + 1 := ⟨j - 1, by omega⟩
        rw [Nat.add_sub_cancel, Nat.add_mul, Nat.one_mul]
      have h6 : j ≤ 20 := by
        have : (j - 1) * 1 ≤ (j - 1) * many := Nat.mul_le_mul_left _ (by omega)
        omega
      exact ⟨Nat.mul_le_mul h6 h3, h6⟩
  repeat first | refine R1 ?_ | refine R2 fun _ => ?_
  refine sf_if (fun h4 => ?_) fun h4 => ?_
  · have hj4 : j < ownCnt S many id := (hc j).2 (by omega)
    repeat first | refine R1 ?_ | refine R2 fun _ => ?_
    refine Xb fun u Au gu => ?_
    repeat first | refine R1 ?_ | refine R2 fun _ => ?_
    refine Xa gr gu fun v2 A2 g2 => ?_
    repeat first | refine R1 ?_ | refine R2 fun _ => ?_
    refine ⟨(j + 1, v2), by simp only; omega, ⟨?_, rfl, trivial⟩, rfl, A2 ++ [(b3, .cells #[.int .i64 g.wide, c] 34)], _, inferInstance, by simp only; omega, A2, rfl, _, by simp; omega, by rw [ownList_step, ex], g2⟩
    rw [show ((id - 1 + (j + 1) * many : Nat) : Int) = ((id - 1 + j * many : Nat) : Int) + (many : Int) by rw [Nat.add_mul, Nat.one_mul]; omega]
    rfl
  · refine sf_exit ?_
    have : j = ownCnt S many id := by
      rcases Nat.lt_or_ge j (ownCnt S many id) with h | h
      · have := (hc j).1 h; omega
      · omega
    repeat first | refine R1 ?_ | refine R2 fun _ => ?_
    refine sf_ret (rO A' ?_)
    rw [ownList, ← this, ← ex]; exact gr
theorem intsEqual_v (h : PHeap) (a b : Value) (xs ys : List Int) (sx : Sl h a intF xs) (sy : Sl h b intF ys) : CallV Tryz.prog M 141 [a, b] h (.bool (decide (xs = ys))) := by
  have o1 := sx.one
  have o2 := sy.one
  have hx := sx.small
  have hy := sy.small
  refine Cs Tryz.func141 Tryz.ntmps141 ?_
  refine Wo ?_
  refine sf_if (fun e0 => ?_) fun e0 => ?_
  · refine Wo ?_
    exact sf_ret (rV (bF fun e => e0 (by rw [e])))
  have hl : xs.length = ys.length := by omega
  refine Wo ?_
  refine sf_rd [0, 1, 12] 13 xs.length 0 (fun k => xs.take k = ys.take k) (by omega) rfl (fun k hk hi => ?_)
  refine Wo ?_
  refine sf_if (fun h4 => ?_) fun h4 => ?_
  · have hk4 : k < xs.length := by omega
    have hk5 : k < ys.length := by omega
    refine Wo ?_
    refine Sd [[],[],[0,1],[0,1,2],[],[],[4,5],[4,5,6],[0,1,2,3,4,5,6,7]] 8 [Nn 0,Nn 1,Nn 2,Nn 3,Nn 4,Nn 5,Nn 6,Nn 7] ?_
    refine Da ?_
    refine Ae ?_
    refine Wo ?_
    refine sf_if (fun e1 => ?_) fun e1 => ?_
    · refine Wo ?_
      exact sf_ret (rV (bF (eq_at e1)))
    · refine Wo ?_
      exact ⟨⟨hk4, eq_step hk4 hk5 hi (by simpa using e1)⟩, rfl, rfl, _, inferInstance⟩
  · refine sf_exit ?_
    refine Wo ?_
    exact sf_ret (rV (bT (eq_end hl (by omega) hi)))
end Go.Proofs.YtekjikbaefgncaaGreatDoor
namespace Go.Proofs.YtekjikbaefgncaaGreatDoor
open Go
abbrev wgLink : Go.Conc.Lib.WgLink := { add := 221, done := 223, wait := 224, relMerge := 238, disable := 239, enable := 240, inBubble := 241, associate := 242, fatal := 243, uOr := 244, uAdd := 245, raceRead := 246, uLoad := 247, uStore := 248, disassociate := 249, semrelease := 250, acquire := 251, isAssociated := 252, uCas := 253, raceWrite := 254, semacquire := 255, orU64 := 267, addU64 := 268, loadU64 := 269, storeU64 := 270, casU64 := 271, tWgP := 316, tUP := 229, tAssoc := 318, tWg := 289, tAU := 286, tU64 := 284, tUint := 322, tU32 := 287, tPU32 := 323, tPAU := 348, tPU64 := 350, tNoCopy := 281, tANoCopy := 282, tAlign64 := 283 }
theorem wgLib : Go.Conc.Lib.WgLib Tryz.prog wgLink :=
  ⟨Tryz.func221, Tryz.func223, Tryz.func224, Tryz.func238, Tryz.func239, Tryz.func240, Tryz.func241, Tryz.func242, Tryz.func243, Tryz.func244, Tryz.func245, Tryz.func246, Tryz.func247, Tryz.func248, Tryz.func249, Tryz.func250, Tryz.func251, Tryz.func252, Tryz.func253, Tryz.func254, Tryz.func255, Tryz.func267, Tryz.func268, Tryz.func269, Tryz.func270, Tryz.func271, Tryz.underlying316, Tryz.runUnderlying316, Tryz.sizeOf316, Tryz.isAgg316, Tryz.zeroValue316, Tryz.underlying229, Tryz.runUnderlying229, Tryz.sizeOf229, Tryz.isAgg229, Tryz.zeroValue229, Tryz.underlying318, Tryz.runUnderlying318, Tryz.sizeOf318, Tryz.isAgg318, Tryz.zeroValue318, Tryz.underlying289, Tryz.runUnderlying289, Tryz.sizeOf289, Tryz.isAgg289, Tryz.zeroValue289, Tryz.underlying286, Tryz.runUnderlying286, Tryz.sizeOf286, Tryz.isAgg286, Tryz.zeroValue286, Tryz.underlying284, Tryz.runUnderlying284, Tryz.sizeOf284, Tryz.isAgg284, Tryz.zeroValue284, Tryz.underlying322, Tryz.runUnderlying322, Tryz.sizeOf322, Tryz.isAgg322, Tryz.zeroValue322, Tryz.underlying287, Tryz.runUnderlying287, Tryz.sizeOf287, Tryz.isAgg287, Tryz.zeroValue287, Tryz.underlying323, Tryz.runUnderlying323, Tryz.sizeOf323, Tryz.isAgg323, Tryz.zeroValue323, Tryz.underlying348, Tryz.runUnderlying348, Tryz.sizeOf348, Tryz.isAgg348, Tryz.zeroValue348, Tryz.underlying350, Tryz.runUnderlying350, Tryz.sizeOf350, Tryz.isAgg350, Tryz.zeroValue350, Tryz.underlying0, Tryz.runUnderlying0, Tryz.sizeOf0, Tryz.isAgg0, Tryz.zeroValue0, Tryz.underlying3, Tryz.runUnderlying3, Tryz.sizeOf3, Tryz.isAgg3, Tryz.zeroValue3, Tryz.underlying4, Tryz.runUnderlying4, Tryz.sizeOf4, Tryz.isAgg4, Tryz.zeroValue4, Tryz.underlying9, Tryz.runUnderlying9, Tryz.sizeOf9, Tryz.isAgg9, Tryz.zeroValue9, Tryz.underlying20, Tryz.runUnderlying20, Tryz.sizeOf20, Tryz.isAgg20, Tryz.zeroValue20, Tryz.underlying21, Tryz.runUnderlying21, Tryz.sizeOf21, Tryz.isAgg21, Tryz.zeroValue21, (by kernel_rfl), (by kernel_rfl)⟩
end Go.Proofs.YtekjikbaefgncaaGreatDoor
namespace Go.Proofs.YtekjikbaefgncaaGreatDoor
open Go Go.Sl Go.Conc
set_option maxRecDepth 100000
noncomputable def loop52 : Code := match Tryz.f222.body with
  | some (.seq _ (.seq _ (.seq (.seq _ b) _))) => b
  | _ => .skip
abbrev wl (bS bC bO bCh : Nat) (v : Value) (k : Nat) : Locals := [(1, .pointer (some ⟨bS, 0, none⟩)), (2, .pointer (some ⟨bC, 0, none⟩)), (3, .pointer (some ⟨bO, 0, none⟩)), (4, .pointer (some ⟨bCh, 0, none⟩)), (5, v), (6, .int .i64 (k : Int))]
section
variable {M : Jdg → Prop} [IsCl Tryz.prog M]
attribute [local irreducible] Go.Code.so soOps Opq opo retO
theorem worker_loop (B : PHeap) (Wg : Nat) (bS bC bO bCh : Nat) (st : Nat → Nat) (fn : FuncId) (Fun52 : Fun Tryz.prog fn) (first cap : Array Value) (val : Nat → Int) (j : Nat) (hj : j < 4) (s4 : ∀ i, i < 5 → st i ≤ 1048576) (mono : st j ≤ st (j + 1))
    (hS : BAt B bS (.cells #[.int .i64 (st 0), .int .i64 (st 1), .int .i64 (st 2), .int .i64 (st 3), .int .i64 (st 4)] 277 (0, 0)))
    (hC : BAt B bC (.cells #[.int .i64 j] 3 (0, 0))) (hO : BAt B bO (.cells #[.func (.func fn) first cap] 243 (0, 0)))
    (of : ∀ (B' : PHeap), Le B B' → ∀ k, st j ≤ k → k < st (j + 1) → CallsR Tryz.prog M fn (first.toList ++ [.int .i64 (k : Int)] ++ cap.toList) B' fun v _ => v = .int .i64 (val k)) (L : Locals)
    (hL : Locals.sub (wl bS bC bO bCh (.slice none 0 0) (st j)) L) :
    loop52.so Tryz.prog M 28 (fun e L' A h' => e = .nrm ∧ ∃ v, Locals.sub [(2, .pointer (some ⟨bC, 0, none⟩)), (4, .pointer (some ⟨bCh, 0, none⟩)), (5, v)] L' ∧ Gr A v 3 intF ((List.range' (st j) (st (j + 1) - st j)).map val)) L [] B := by
  simp only [loop52, Tryz.f222]
  refine so_block ?_
  refine so_loop (ι := Nat) (A := fun k L O h' => st j ≤ k ∧ k ≤ st (j + 1) ∧ ∃ v, L = wl bS bC bO bCh v k ∧ Gr O v 3 intF ((List.range' (st j) (k - st j)).map val)) (fun k => st (j + 1) - k) (st j) hL ⟨Nat.le_refl _, mono, _, rfl, by simpa using Gr.nil _ _⟩ ?_
  rintro k _ O h' le ⟨k1, k2, v, rfl, gr⟩
  have hk := s4 (j + 1) (by omega)
  obtain rfl | rfl | rfl | rfl : j = 0 ∨ j = 1 ∨ j = 2 ∨ j = 3 := by omega
  · refine so_seq ?_
    refine so_seq ?_
    refine so_reg ?_
    refine so_q (q_move (by rfl)) ?_
    refine so_q (q_loadB (by infer_instance) (by rfl) (by infer_instance) (by rfl) (by rfl)) ?_
    refine Run.go ?_
    refine so_q (q_indexP (by infer_instance) (by infer_instance) (by rfl) (by rfl) (by decide) (by decide)) ?_
    refine so_q (q_loadB (by infer_instance) (by rfl) (by infer_instance) (by rfl) (by rfl)) ?_
    refine Run.go ?_
    refine so_cond rfl (fun h1 => ?_) (fun h1 => ?_)
    · have hlt : k < st 1 := by simpa using h1
      refine Run.go ?_
      refine so_q (q_loadB (by infer_instance) (by rfl) (by infer_instance) (by rfl) (by rfl)) ?_
      refine Run.go ?_
      refine op_callv Fun52 (vs := [.int .i64 (k : Int)]) (by rfl) (of h' le k k1 hlt) (.refl ([] ++ O)) (by rfl) ?_
      rintro u A' h'' le2 ⟨rfl, rfl⟩
      refine Run.go ?_
      refine op_buildSlice (by infer_instance) (by infer_instance) (by rfl) (by rfl) (by rfl) (by rfl) fun b => ?_
      refine Run.go ?_
      refine op_append (ys := [val k]) (R := [(b, .cells [Value.int .i64 (val k)].toArray 3 (0, 0))]) (by rfl) (by rfl) (by infer_instance) (by infer_instance) (by rfl) gr (List.perm_append_singleton _ _).symm rfl (src_own (by infer_instance)) (by simp [intF, allOne]; rfl) (by simp; omega) (by simp; omega) fun v' A' gr' => ?_
      refine so_drop (O' := A') (List.sublist_append_left _ _) ?_
      refine Run.go ?_
      have hw : IntKind.i64.wrap ((k : Int) + 1) = ((k + 1 : Nat) : Int) := by rw [IntKind.wrap_i64]; omega
      have hr : List.range' (st 0) (k + 1 - st 0) = List.range' (st 0) (k - st 0) ++ [k] := by
        rw [show k + 1 - st 0 = (k - st 0) + 1 by omega, List.range'_1_concat, show st 0 + (k - st 0) = k by omega]
      refine ⟨k + 1, wl bS bC bO bCh v' (k + 1), by simp only [Nat.reduceAdd]; omega, ⟨rfl, rfl, rfl, rfl, rfl, ?_, trivial⟩, by omega, by simp only [Nat.reduceAdd]; omega, v', rfl, ?_⟩
      · rw [← hw]; rfl
      · rw [hr, List.map_append]; exact gr'
    · have hge : k = st 1 := by
        have : ¬ (k < st 1) := by simpa using h1
        simp only [Nat.reduceAdd] at k2
        omega
      subst hge
      refine so_exit ?_
      exact ⟨rfl, v, ⟨rfl, rfl, rfl, trivial⟩, gr⟩
  · refine so_seq ?_
    refine so_seq ?_
    refine so_reg ?_
    refine so_q (q_move (by rfl)) ?_
    refine so_q (q_loadB (by infer_instance) (by rfl) (by infer_instance) (by rfl) (by rfl)) ?_
    refine Run.go ?_
    refine so_q (q_indexP (by infer_instance) (by infer_instance) (by rfl) (by rfl) (by decide) (by decide)) ?_
    refine so_q (q_loadB (by infer_instance) (by rfl) (by infer_instance) (by rfl) (by rfl)) ?_
    refine Run.go ?_
    refine so_cond rfl (fun h1 => ?_) (fun h1 => ?_)
    · have hlt : k < st 2 := by simpa using h1
      refine Run.go ?_
      refine so_q (q_loadB (by infer_instance) (by rfl) (by infer_instance) (by rfl) (by rfl)) ?_
      refine Run.go ?_
      refine op_callv Fun52 (vs := [.int .i64 (k : Int)]) (by rfl) (of h' le k k1 hlt) (.refl ([] ++ O)) (by rfl) ?_
      rintro u A' h'' le2 ⟨rfl, rfl⟩
      refine Run.go ?_
      refine op_buildSlice (by infer_instance) (by infer_instance) (by rfl) (by rfl) (by rfl) (by rfl) fun b => ?_
      refine Run.go ?_
      refine op_append (ys := [val k]) (R := [(b, .cells [Value.int .i64 (val k)].toArray 3 (0, 0))]) (by rfl) (by rfl) (by infer_instance) (by infer_instance) (by rfl) gr (List.perm_append_singleton _ _).symm rfl (src_own (by infer_instance)) (by simp [intF, allOne]; rfl) (by simp; omega) (by simp; omega) fun v' A' gr' => ?_
      refine so_drop (O' := A') (List.sublist_append_left _ _) ?_
      refine Run.go ?_
      have hw : IntKind.i64.wrap ((k : Int) + 1) = ((k + 1 : Nat) : Int) := by rw [IntKind.wrap_i64]; omega
      have hr : List.range' (st 1) (k + 1 - st 1) = List.range' (st 1) (k - st 1) ++ [k] := by
        rw [show k + 1 - st 1 = (k - st 1) + 1 by omega, List.range'_1_concat, show st 1 + (k - st 1) = k by omega]
      refine ⟨k + 1, wl bS bC bO bCh v' (k + 1), by simp only [Nat.reduceAdd]; omega, ⟨rfl, rfl, rfl, rfl, rfl, ?_, trivial⟩, by omega, by simp only [Nat.reduceAdd]; omega, v', rfl, ?_⟩
      · rw [← hw]; rfl
      · rw [hr, List.map_append]; exact gr'
    · have hge : k = st 2 := by
        have : ¬ (k < st 2) := by simpa using h1
        simp only [Nat.reduceAdd] at k2
        omega
      subst hge
      refine so_exit ?_
      exact ⟨rfl, v, ⟨rfl, rfl, rfl, trivial⟩, gr⟩
  · refine so_seq ?_
    refine so_seq ?_
    refine so_reg ?_
    refine so_q (q_move (by rfl)) ?_
    refine so_q (q_loadB (by infer_instance) (by rfl) (by infer_instance) (by rfl) (by rfl)) ?_
    refine Run.go ?_
    refine so_q (q_indexP (by infer_instance) (by infer_instance) (by rfl) (by rfl) (by decide) (by decide)) ?_
    refine so_q (q_loadB (by infer_instance) (by rfl) (by infer_instance) (by rfl) (by rfl)) ?_
    refine Run.go ?_
    refine so_cond rfl (fun h1 => ?_) (fun h1 => ?_)
    · have hlt : k < st 3 := by simpa using h1
      refine Run.go ?_
      refine so_q (q_loadB (by infer_instance) (by rfl) (by infer_instance) (by rfl) (by rfl)) ?_
      refine Run.go ?_
      refine op_callv Fun52 (vs := [.int .i64 (k : Int)]) (by rfl) (of h' le k k1 hlt) (.refl ([] ++ O)) (by rfl) ?_
      rintro u A' h'' le2 ⟨rfl, rfl⟩
      refine Run.go ?_
      refine op_buildSlice (by infer_instance) (by infer_instance) (by rfl) (by rfl) (by rfl) (by rfl) fun b => ?_
      refine Run.go ?_
      refine op_append (ys := [val k]) (R := [(b, .cells [Value.int .i64 (val k)].toArray 3 (0, 0))]) (by rfl) (by rfl) (by infer_instance) (by infer_instance) (by rfl) gr (List.perm_append_singleton _ _).symm rfl (src_own (by infer_instance)) (by simp [intF, allOne]; rfl) (by simp; omega) (by simp; omega) fun v' A' gr' => ?_
      refine so_drop (O' := A') (List.sublist_append_left _ _) ?_
      refine Run.go ?_
      have hw : IntKind.i64.wrap ((k : Int) + 1) = ((k + 1 : Nat) : Int) := by rw [IntKind.wrap_i64]; omega
      have hr : List.range' (st 2) (k + 1 - st 2) = List.range' (st 2) (k - st 2) ++ [k] := by
        rw [show k + 1 - st 2 = (k - st 2) + 1 by omega, List.range'_1_concat, show st 2 + (k - st 2) = k by omega]
      refine ⟨k + 1, wl bS bC bO bCh v' (k + 1), by simp only [Nat.reduceAdd]; omega, ⟨rfl, rfl, rfl, rfl, rfl, ?_, trivial⟩, by omega, by simp only [Nat.reduceAdd]; omega, v', rfl, ?_⟩
      · rw [← hw]; rfl
      · rw [hr, List.map_append]; exact gr'
    · have hge : k = st 3 := by
        have : ¬ (k < st 3) := by simpa using h1
        simp only [Nat.reduceAdd] at k2
        omega
      subst hge
      refine so_exit ?_
      exact ⟨rfl, v, ⟨rfl, rfl, rfl, trivial⟩, gr⟩
  · refine so_seq ?_
    refine so_seq ?_
    refine so_reg ?_
    refine so_q (q_move (by rfl)) ?_
    refine so_q (q_loadB (by infer_instance) (by rfl) (by infer_instance) (by rfl) (by rfl)) ?_
    refine Run.go ?_
    refine so_q (q_indexP (by infer_instance) (by infer_instance) (by rfl) (by rfl) (by decide) (by decide)) ?_
    refine so_q (q_loadB (by infer_instance) (by rfl) (by infer_instance) (by rfl) (by rfl)) ?_
    refine Run.go ?_
    refine so_cond rfl (fun h1 => ?_) (fun h1 => ?_)
    · have hlt : k < st 4 := by simpa using h1
      refine Run.go ?_
      refine so_q (q_loadB (by infer_instance) (by rfl) (by infer_instance) (by rfl) (by rfl)) ?_
      refine Run.go ?_
      refine op_callv Fun52 (vs := [.int .i64 (k : Int)]) (by rfl) (of h' le k k1 hlt) (.refl ([] ++ O)) (by rfl) ?_
      rintro u A' h'' le2 ⟨rfl, rfl⟩
      refine Run.go ?_
      refine op_buildSlice (by infer_instance) (by infer_instance) (by rfl) (by rfl) (by rfl) (by rfl) fun b => ?_
      refine Run.go ?_
      refine op_append (ys := [val k]) (R := [(b, .cells [Value.int .i64 (val k)].toArray 3 (0, 0))]) (by rfl) (by rfl) (by infer_instance) (by infer_instance) (by rfl) gr (List.perm_append_singleton _ _).symm rfl (src_own (by infer_instance)) (by simp [intF, allOne]; rfl) (by simp; omega) (by simp; omega) fun v' A' gr' => ?_
      refine so_drop (O' := A') (List.sublist_append_left _ _) ?_
      refine Run.go ?_
      have hw : IntKind.i64.wrap ((k : Int) + 1) = ((k + 1 : Nat) : Int) := by rw [IntKind.wrap_i64]; omega
      have hr : List.range' (st 3) (k + 1 - st 3) = List.range' (st 3) (k - st 3) ++ [k] := by
        rw [show k + 1 - st 3 = (k - st 3) + 1 by omega, List.range'_1_concat, show st 3 + (k - st 3) = k by omega]
      refine ⟨k + 1, wl bS bC bO bCh v' (k + 1), by simp only [Nat.reduceAdd]; omega, ⟨rfl, rfl, rfl, rfl, rfl, ?_, trivial⟩, by omega, by simp only [Nat.reduceAdd]; omega, v', rfl, ?_⟩
      · rw [← hw]; rfl
      · rw [hr, List.map_append]; exact gr'
    · have hge : k = st 4 := by
        have : ¬ (k < st 4) := by simpa using h1
        simp only [Nat.reduceAdd] at k2
        omega
      subst hge
      refine so_exit ?_
      exact ⟨rfl, v, ⟨rfl, rfl, rfl, trivial⟩, gr⟩
end
end Go.Proofs.YtekjikbaefgncaaGreatDoor
namespace Go.Proofs.YtekjikbaefgncaaGreatDoor
open Go Go.Sl Go.Conc Go.Conc.Lib
set_option maxRecDepth 100000
theorem gr_at {A : Own} {v : Value} {T : TypeId} {α : Type} {E : Flat α} {xs : List α} (g : Gr A v T E xs) (hs : xs.length ≤ 281474976710656) {S : PHeap} (h : ∀ b o, (b, o) ∈ A → S.obj b = some o) : Sl S v E xs := by
  rcases g.at' with ⟨rfl, rfl, rfl⟩ | ⟨b, cap, sp, rfl, rfl, h1, h2⟩
  · exact Sl.nil _ _
  · refine ⟨hs, .inr ⟨cap, rfl, h2, ?_⟩⟩
    refine cells_flat (fun j v e => ?_)
    rw [add_none]
    have e0 := h b _ (List.mem_singleton.2 rfl)
    simp only [vo, vb]
    rw [cell_of e0]
    have hj : j < (xs.flatMap E.f).length := by
      rcases Nat.lt_or_ge j (xs.flatMap E.f).length with h | h
      · exact h
      · rw [List.getElem?_eq_none h] at e; cases e
    simp only [Nat.zero_add, List.getElem?_toArray]
    rw [List.getElem?_append_left hj]; exact e
def RowI (st : Nat → Nat) (val : Nat → Int) (i : Nat) (v : Value) (S : PHeap) : Prop := ∃ sl, v = .agg #[.int .i64 (i : Int), sl] ∧ Sl S sl intF ((List.range' (st i) (st (i + 1) - st i)).map val)
theorem RowI.mono {st : Nat → Nat} {val : Nat → Int} : ∀ i v (h h' : PHeap), (∀ b o, h.obj b = some o → h'.obj b = some o) → RowI st val i v h → RowI st val i v h' := fun i v h h' l ⟨sl, e, s⟩ => ⟨sl, e, s.sub l⟩
noncomputable abbrev FI (W : World) (RR : Value → Prop) (Wg Ch : Nat) (H0 : PHeap) (st : Nat → Nat) (val : Nat → Int) : Fk := mkFk Tryz.prog W RR Wg Ch 289 3 H0 (RowI st val) RowI.mono
instance {W : World} {RR : Value → Prop} {Wg Ch : Nat} {H0 : PHeap} {st : Nat → Nat} {val : Nat → Int} {i C : Nat} {v : Value} : IsCl Tryz.prog (· = JW (FI W RR Wg Ch H0 st val) i C v) := inferInstanceAs (IsCl (FI W RR Wg Ch H0 st val).P _)
noncomputable def body52 : Code := match Tryz.f222.body with | some c => c | _ => .skip
noncomputable def tail52 : Code := match Tryz.f222.body with | some (.seq _ c) => c | _ => .skip
section
variable {W : World} {RR : Value → Prop} {Wg Ch : Nat} {H0 : PHeap} {st : Nat → Nat} {val : Nat → Int}
attribute [local irreducible] Go.Code.so soOps Opq opo retO Go.Code.sl slOps slList opv
theorem tail52_jw (B : PHeap) (bS bC bO bCh : Nat) (fn : FuncId) (Fun52 : Fun Tryz.prog fn) (first cap : Array Value) (j : Nat) (hj : j < 4) (s4 : ∀ i, i < 5 → st i ≤ 1048576) (mono : st j ≤ st (j + 1)) (hgh : B.gh = [0]) (hsub : ∀ b o, H0.obj b = some o → B.obj b = some o)
    (hS : BAt B bS (.cells #[.int .i64 (st 0), .int .i64 (st 1), .int .i64 (st 2), .int .i64 (st 3), .int .i64 (st 4)] 277 (0, 0)))
    (hC : BAt B bC (.cells #[.int .i64 j] 3 (0, 0))) (hO : BAt B bO (.cells #[.func (.func fn) first cap] 243 (0, 0))) (hCh : BAt B bCh (.cells #[.chan (some Ch)] 279 (0, 0)))
    (of : ∀ (M : Jdg → Prop) [IsCl Tryz.prog M] (B' : PHeap), Le B B' → ∀ k, st j ≤ k → k < st (j + 1) → CallsR Tryz.prog M fn (first.toList ++ [.int .i64 (k : Int)] ++ cap.toList) B' fun v _ => v = .int .i64 (val k)) :
    tail52.sl Tryz.prog (· = JW (FI W RR Wg Ch H0 st val) j bC (.int .i64 j)) 28 (fun e _ h' => match e with | .nrm => h'.gh = [1] | _ => False) [(0, .pointer (some ⟨Wg, 0, none⟩)), (1, .pointer (some ⟨bS, 0, none⟩)), (2, .pointer (some ⟨bC, 0, none⟩)), (3, .pointer (some ⟨bO, 0, none⟩)), (4, .pointer (some ⟨bCh, 0, none⟩))] B := by
  have e0 : tail52 = .seq (match tail52 with | .seq a _ => a | _ => .skip) (.seq (.seq (match tail52 with | .seq _ (.seq (.seq a _) _) => a | _ => .skip) loop52) (match tail52 with | .seq _ (.seq _ a) => a | _ => .skip)) := rfl
  rw [e0]
  simp only [tail52, Tryz.f222]
  refine sl_seq ?_
  refine sl_reg ?_
  refine l_q (fun _ _ => o_assign (by rfl)) ?_
  refine l_nil ?_
  refine sl_seq ?_
  refine sl_seq ?_
  refine sl_reg ?_
  refine l_q (fun _ _ => o_loadB (by rfl) hC.at' (by rfl) (by rfl)) ?_
  have hcs : takeCells #[.int .i64 (st 0), .int .i64 (st 1), .int .i64 (st 2), .int .i64 (st 3), .int .i64 (st 4)] (0 + (j : Int).toNat * 1) 1 = some [.int .i64 (st j)] := by
    obtain rfl | rfl | rfl | rfl : j = 0 ∨ j = 1 ∨ j = 2 ∨ j = 3 := by omega
    all_goals rfl
  refine l_q (fun _ _ => o_indexAddrA (by rfl) (by rfl) (by omega) (by omega)) ?_
  refine l_q (fun _ _ => o_loadB (by rfl) hS.at' hcs (by rfl)) ?_
  refine l_q (fun _ _ => o_assign (by rfl)) ?_
  refine l_nil ?_
  refine sl_of_so (worker_loop B Wg bS bC bO bCh st fn Fun52 first cap val j hj s4 mono hS hC hO (of _) _ ⟨rfl, rfl, rfl, rfl, rfl, rfl, trivial⟩) (PHeap.le_refl _) rfl ?_
  rintro e L' A h' H' le ⟨rfl, v, ⟨g2, g4, g5, _⟩, gr⟩ rel
  have hB : ∀ b o, B.obj b = some o → H'.obj b = some o := fun b o e => (rel.base b o (le.le b o e).1).1
  refine sl_reg ?_
  refine l_q (fun _ _ => o_loadB g4 (hB _ _ hCh.at') (by rfl) (by rfl)) ?_
  refine l_q (fun _ _ => o_loadB (off := 0) (by first | exact g2 | (show Locals.get _ 2 = _; exact g2)) (hB _ _ hC.at') (by rfl) (by rfl)) ?_
  refine l_q (fun _ _ => o_move g5) ?_
  have hg' : H'.gh = [0] := (rel.gh.trans le.gh).trans hgh
  have hlen : ((List.range' (st j) (st (j + 1) - st j)).map val).length ≤ 281474976710656 := by
    have := s4 (j + 1) (by omega)
    simp; omega
  have hSl : Sl (beyond H0 (delb (ro H' [1]) bC)) v intF ((List.range' (st j) (st (j + 1) - st j)).map val) := gr_at gr hlen fun b o m => by
    obtain ⟨o1, o2, o3, o4⟩ := rel.own b o m
    have hn : H0.obj b = none := by
      cases z : H0.obj b with
      | none => rfl
      | some o => rw [(le.le b o (hsub b o z)).1] at o4; cases o4
    have hbC : b ≠ bC := fun z => by
      have := (le.le bC _ hC.at').1
      rw [← z, o4] at this; cases this
    simp only [beyond, hn, Option.isSome_none, Bool.false_eq_true, if_false, delb, ro, hbC]
    exact o1
  obtain ⟨ba, cp, rfl⟩ := hSl.val
  refine l_q (fun _ _ => o_build (by infer_instance) (by infer_instance) (by rfl) (by rfl)) ?_
  refine l_send (F := FI W RR Wg Ch H0 st val) (C := bC) (i := j) (v := .int .i64 j) hg' (hB _ _ hC.at') (by rfl) (by rfl) ?_ ?_
  · exact ⟨_, rfl, hSl⟩
  · exact l_nil rfl
end
section
variable {W : World} {RR : Value → Prop} {Wg Ch : Nat} {H0 : PHeap} {st : Nat → Nat} {val : Nat → Int}
theorem worker_jw (B : PHeap) (bS bC bO bCh : Nat) (fn : FuncId) (Fun52 : Fun Tryz.prog fn) (first cap : Array Value) (j : Nat) (hj : j < 4) (s4 : ∀ i, i < 5 → st i ≤ 1048576) (mono : st j ≤ st (j + 1)) (hgh : B.gh = [0]) (hsub : ∀ b o, H0.obj b = some o → B.obj b = some o)
    (hS : BAt B bS (.cells #[.int .i64 (st 0), .int .i64 (st 1), .int .i64 (st 2), .int .i64 (st 3), .int .i64 (st 4)] 277 (0, 0)))
    (hC : BAt B bC (.cells #[.int .i64 j] 3 (0, 0))) (hO : BAt B bO (.cells #[.func (.func fn) first cap] 243 (0, 0))) (hCh : BAt B bCh (.cells #[.chan (some Ch)] 279 (0, 0)))
    (of : ∀ (M : Jdg → Prop) [IsCl Tryz.prog M] (B' : PHeap), Le B B' → ∀ k, st j ≤ k → k < st (j + 1) → CallsR Tryz.prog M fn (first.toList ++ [.int .i64 (k : Int)] ++ cap.toList) B' fun v _ => v = .int .i64 (val k))
    (tm : Array Value) (ha : Agree 28 [(0, .pointer (some ⟨Wg, 0, none⟩)), (1, .pointer (some ⟨bS, 0, none⟩)), (2, .pointer (some ⟨bC, 0, none⟩)), (3, .pointer (some ⟨bO, 0, none⟩)), (4, .pointer (some ⟨bCh, 0, none⟩))] tm) :
    JW (FI W RR Wg Ch H0 st val) j bC (.int .i64 j) B (G ((baseD 222).at ⟨tm, []⟩ [.code body52]) [bot Tryz.prog]) := by
  have Qu : ∀ {g g' : Goroutine} {h : PHeap}, g.status = .running → (∀ main w, stepG Tryz.prog main g w = .go g' w) → JW (FI W RR Wg Ch H0 st val) j bC (.int .i64 j) h g' → JW (FI W RR Wg Ch H0 st val) j bC (.int .i64 j) h g := fun {g g' h} hr hs x => quiet (P := Tryz.prog) (M := (· = JW (FI W RR Wg Ch H0 st val) j bC (.int .i64 j))) rfl hr hs x
  have e0 : body52 = .seq (match body52 with | .seq a _ => a | _ => .skip) tail52 := rfl
  have e1 : (match body52 with | .seq a _ => a | _ => .skip) = Code.region 0 #[⟨none, .defer { callee := .value (.func 223), args := #[.tmp 0], argTypes := #[289] }, 0, "l12_pic.go:29", #[], none⟩] false := rfl
  rw [e0, e1]
  refine Qu rfl (fun _ _ => stepG_seq) ?_
  refine Qu rfl (fun _ _ => stepG_region) ?_
  refine Qu rfl (fun _ _ => stepG_defer (o := ⟨none, .defer { callee := .value (.func 223), args := #[.tmp 0], argTypes := #[289] }, 0, "l12_pic.go:29", #[], none⟩) rfl rfl (by simp [baseD]) rfl) ?_
  refine Qu rfl (fun _ _ => stepG_region_end) ?_
  have hd : (#[Operand.tmp 0] : Array Operand).map (Act.mk tm []).eval = #[.pointer (some ⟨Wg, 0, none⟩)] := by simp [Agree.ev (a := ⟨tm, []⟩) ha (o := .tmp 0) rfl]
  simp only [hd, Act.put]
  refine sl_app (tail52_jw B bS bC bO bCh fn Fun52 first cap j hj s4 mono hgh hsub hS hC hO hCh of) rfl (baseD 222) [] [bot Tryz.prog] [dcall 223 #[.pointer (some ⟨Wg, 0, none⟩)]] tm (by simp [baseD]) ha (ends_nrm fun L1 h1 tm1 q1 ha1 => ?_)
  refine Qu rfl (fun _ _ => stepG_end) ?_
  exact jw_out (F := FI W RR Wg Ch H0 st val) (Wl := wgLink) wgLib rfl Tryz.func222 rfl q1
end
noncomputable def fork43 : Code := match Tryz.f190.body with | some (.seq _ (.seq _ (.seq _ (.seq _ (.seq c _))))) => c | _ => .skip
noncomputable def join43 : Code := match Tryz.f190.body with | some (.seq _ (.seq _ (.seq _ (.seq _ (.seq _ (.seq c _)))))) => c | _ => .skip
instance {W : World} {RR : Value → Prop} {Wg Ch : Nat} {H0 : PHeap} {st : Nat → Nat} {val : Nat → Int} : IsCl Tryz.prog (· = JM (FI W RR Wg Ch H0 st val)) := inferInstanceAs (IsCl (FI W RR Wg Ch H0 st val).P _)
abbrev ml (bO bS bCh Wg j : Nat) : Locals := [(3, .pointer (some ⟨bO, 0, none⟩)), (5, .pointer (some ⟨bS, 0, none⟩)), (6, .pointer (some ⟨bCh, 0, none⟩)), (7, .pointer (some ⟨Wg, 0, none⟩)), (17, .int .i64 (j : Int))]
section
variable {W : World} {RR : Value → Prop} {Wg Ch : Nat} {H0 : PHeap} {st : Nat → Nat} {val : Nat → Int}
attribute [local irreducible] Go.Code.sl slOps slList opv
theorem join43_jm (bO bS bCh : Nat) (h : PHeap) (hgh : h.gh = [0, 4]) (K : Locals → PHeap → Prop) (L : Locals) (hL : Locals.sub (ml bO bS bCh Wg 4) L) (hK : ∀ v, K (setL (some 23) v L) (stay h [10])) :
    join43.sl Tryz.prog (· = JM (FI W RR Wg Ch H0 st val)) 43 (fun e L' h' => match e with | .nrm => K L' h' | _ => False) L h := by
  simp only [join43, Tryz.f190]
  refine sl_reg ?_
  refine l_call (F := FI W RR Wg Ch H0 st val) wgLib.f_wait rfl rfl (vs := [.pointer (some ⟨Wg, 0, none⟩)]) (by show evAll L [.tmp 7] = _; simp only [evAll, ev, hL.2.2.2.1]) (wait_jm (F := FI W RR Wg Ch H0 st val) wgLib hgh) ?_
  rintro v _ rfl
  exact l_nil (hK v)
end
section
variable {W : World} {RR : Value → Prop} {Wg Ch : Nat} {H0 : PHeap} {st : Nat → Nat} {val : Nat → Int}
attribute [local irreducible] Go.Code.sl slOps slList opv
theorem fork43_jm (bS bO bCh : Nat) (fn : FuncId) (Fun52 : Fun Tryz.prog fn) (first cap : Array Value) (s4 : ∀ i, i < 5 → st i ≤ 1048576) (mono : ∀ j, j < 4 → st j ≤ st (j + 1))
    (hS : H0.obj bS = some (.cells #[.int .i64 (st 0), .int .i64 (st 1), .int .i64 (st 2), .int .i64 (st 3), .int .i64 (st 4)] 277 (0, 0))) (hO : H0.obj bO = some (.cells #[.func (.func fn) first cap] 243 (0, 0))) (hCh : H0.obj bCh = some (.cells #[.chan (some Ch)] 279 (0, 0)))
    (of : ∀ (M : Jdg → Prop) [IsCl Tryz.prog M] (B' : PHeap), (∀ b o, H0.obj b = some o → B'.obj b = some o) → ∀ k, k < st 4 → CallsR Tryz.prog M fn (first.toList ++ [.int .i64 (k : Int)] ++ cap.toList) B' fun v _ => v = .int .i64 (val k)) (m4 : ∀ j, j < 4 → st (j + 1) ≤ st 4) (h : PHeap) (hgh : h.gh = [0, 0]) (ro0 : ∀ b o, H0.obj b = some o → h.obj b = some o ∧ h.wr b = false) (L : Locals)
    (hL : Locals.sub [(3, .pointer (some ⟨bO, 0, none⟩)), (5, .pointer (some ⟨bS, 0, none⟩)), (6, .pointer (some ⟨bCh, 0, none⟩)), (7, .pointer (some ⟨Wg, 0, none⟩))] L) :
    fork43.sl Tryz.prog (· = JM (FI W RR Wg Ch H0 st val)) 43 (fun e L' h' => match e with | .nrm => h'.gh = [0, 4] ∧ (∀ b o, H0.obj b = some o → h'.obj b = some o ∧ h'.wr b = false) ∧ Locals.sub (ml bO bS bCh Wg 4) L' | _ => False) L h := by
  simp only [fork43, Tryz.f190]
  refine sl_seq ?_
  refine sl_reg ?_
  refine l_q (fun _ _ => o_move (by rfl)) ?_
  refine l_nil ?_
  refine sl_block ?_
  refine sl_loop (ι := Nat) (Lo := fun j => ml bO bS bCh Wg j) (A := fun j h' => j ≤ 4 ∧ h'.gh = [0, j] ∧ ∀ b o, H0.obj b = some o → h'.obj b = some o ∧ h'.wr b = false) (μ := fun j => 4 - j) 0 ⟨hL.1, hL.2.1, hL.2.2.1, hL.2.2.2.1, rfl, trivial⟩ ⟨by decide, hgh, ro0⟩ ?_
  rintro j h1 ⟨hj, hg1, ro1⟩
  refine sl_seq ?_
  refine sl_reg ?_
  refine l_q (x_num (by rfl) (by rfl) (by rfl)) ?_
  refine l_nil ?_
  refine sl_seq ?_
  refine sl_cond (by rfl) (fun c1 => ?_) (fun c1 => ?_)
  · have hlt : j < 4 := by
      have := of_decide_eq_true c1
      omega
    refine sl_skip ?_
    refine sl_seq ?_
    refine sl_block ?_
    refine sl_seq ?_
    refine sl_reg ?_
    refine l_q (fun _ _ => o_move (by rfl)) ?_
    refine l_plain rfl (by rfl) (o_alloc fun C hCn => ?_)
    refine l_plain rfl (by rfl) (o_store (v := .int .i64 (j : Int)) (b := C) (off := 0) (by rfl) (by rfl) (obj_put _ _ _) (wr_put _ _ _) (by rfl) (by show 1 ≤ 1; decide) (by rfl) ?_)
    refine l_nil ?_
    refine sl_seq ?_
    refine sl_reg ?_
    refine l_call (F := FI W RR Wg Ch H0 st val) wgLib.f_add rfl rfl (vs := [.pointer (some ⟨Wg, 0, none⟩), .int .i64 1]) (by rfl) (add_jm (F := FI W RR Wg Ch H0 st val) wgLib (j := j) hj hg1) ?_
    rintro v _ rfl
    refine l_nil ?_
    refine sl_reg ?_
    refine l_q (fun _ _ => o_makeFunc (vs := []) (us := [.pointer (some ⟨Wg, 0, none⟩), .pointer (some ⟨bS, 0, none⟩), .pointer (some ⟨C, 0, none⟩), .pointer (some ⟨bO, 0, none⟩), .pointer (some ⟨bCh, 0, none⟩)]) (by rfl) (by rfl)) ?_
    have hC0 : H0.obj C = none := by
      cases z : H0.obj C with
      | none => rfl
      | some o => rw [(ro1 C o z).1] at hCn; cases hCn
    have hne : ∀ b o, H0.obj b = some o → b ≠ C := fun b o z e => by rw [e, hC0] at z; cases z
    have hob : ∀ b o, H0.obj b = some o → (stay ((h1.put C (.cells (Value.int .i64 0).cells 3)).put C (.cells (setCells (Value.int .i64 0).cells 0 (Value.int .i64 (j : Int)).cells.toList) 3)) [3, j]).obj b = some o := fun b o z => by
      simp only [stay, PHeap.put, hne b o z, if_false]; exact (ro1 b o z).1
    refine l_go (F := FI W RR Wg Ch H0 st val) (vs := [.pointer (some ⟨Wg, 0, none⟩), .pointer (some ⟨bS, 0, none⟩), .pointer (some ⟨C, 0, none⟩), .pointer (some ⟨bO, 0, none⟩), .pointer (some ⟨bCh, 0, none⟩)]) (C := C) (v := .int .i64 (j : Int)) (j := j) (f := 222) (nf := 28) rfl hlt (by rfl) Tryz.func222 rfl rfl rfl (show 5 ≤ 28 by decide) ?_ ?_ hC0 (fun tm ha => ?_) ?_
    · simp [stay, PHeap.put]; exact ⟨rfl, rfl⟩
    · simp [stay, PHeap.put]
    · refine worker_jw (H0 := H0) (ro _ [0]) bS C bO bCh fn Fun52 first cap j hlt s4 (mono j hlt) rfl (fun b o z => hob b o z) ⟨hob _ _ hS⟩ ⟨?_⟩ ⟨hob _ _ hO⟩ ⟨hob _ _ hCh⟩ (fun M _ B' le k k1 k2 => of M B' (fun b o z => (le.le b o (hob b o z)).1) k (Nat.lt_of_lt_of_le k2 (m4 j hlt))) tm ha
      simp [ro, stay, PHeap.put]; rfl
    · refine l_nil ?_
      refine sl_reg ?_
      refine l_q (x_num (by rfl) (by rfl) (by rfl)) ?_
      refine l_q (fun _ _ => o_move (by rfl)) ?_
      refine l_nil ?_
      have hw : IntKind.i64.wrap ((j : Int) + 1) = ((j + 1 : Nat) : Int) := by rw [IntKind.wrap_i64]; omega
      refine ⟨j + 1, by show 4 - (j + 1) < 4 - j; omega, ⟨rfl, rfl, rfl, rfl, ?_, trivial⟩, by omega, rfl, fun b o z => ⟨?_, rfl⟩⟩
      · rw [← hw]; rfl
      · simp only [delb, hne b o z, if_false]; exact hob b o z
  · have : j = 4 := by
      have := of_decide_eq_false c1
      omega
    subst this
    refine sl_exit ?_
    exact ⟨hg1, ro1, ⟨rfl, rfl, rfl, rfl, rfl, trivial⟩⟩
end
end Go.Proofs.YtekjikbaefgncaaGreatDoor
namespace Go.Proofs.YtekjikbaefgncaaGreatDoor
open Go Go.Sl
set_option maxRecDepth 100000
set_option maxHeartbeats 4000000
attribute [local irreducible] Go.Code.sf sfOps Opq opo retF Do1 anyO
variable {M : Jdg → Prop} [IsCl Tryz.prog M]
theorem gridRows_v (h : PHeap) (ca : List Value) (g : Grid) (b : (gridR τ).B h ca g) (hw : 0 < g.wide) : CallV Tryz.prog M 232 [.agg ca.toArray] h (.int .i64 ((g.cells.length : Int) / g.wide)) := by
  obtain ⟨c, rfl, s⟩ := gridB b
  have o1 := s.one
  have hs := s.small
  refine Cs Tryz.func232 Tryz.ntmps232 ?_
  repeat first | refine R1 ?_ | refine R2 fun _ => ?_
  exact sf_ret (rV rfl)
theorem sideStarts_v (h : PHeap) (ca : List Value) (g : Grid) (b : (gridR τ).B h ca g) (w r : Nat) (hw : g.wide = w) (h1 : 1 ≤ w) (h5 : w ≤ 5) (hr : (g.cells.length : Int) / g.wide = r) (hr5 : r ≤ 5) : CallV Tryz.prog M 220 [.agg ca.toArray] h (.agg #[.int .i64 (stOf w r 0 : Nat), .int .i64 (stOf w r 1 : Nat), .int .i64 (stOf w r 2 : Nat), .int .i64 (stOf w r 3 : Nat), .int .i64 (stOf w r 4 : Nat)]) := by
  obtain ⟨c, rfl, s⟩ := gridB b
  have o1 := s.one
  refine Cs Tryz.func220 Tryz.ntmps220 ?_
  repeat first | refine R1 ?_ | refine R2 fun _ => ?_
  refine Xv (gridRows_v _ _ g b (by omega)) ?_
  rw [hr]
  obtain ⟨gw, gc⟩ := g
  simp only at hw hr
  subst hw
  repeat first | refine R1 ?_ | refine R2 fun _ => ?_
  refine sf_ret (rV ?_)
  simp only [stOf, IntKind.wrap_i64, Value.agg.injEq]
  simp
  omega
noncomputable def tail43 : Code := match Tryz.f190.body with | some (.seq _ (.seq _ (.seq _ (.seq _ c)))) => c | _ => .skip
noncomputable def rest43 : Code := match Tryz.f190.body with | some (.seq _ (.seq _ (.seq _ (.seq _ (.seq _ (.seq _ c)))))) => c | _ => .skip
theorem hide4 {P : Program} {M : Jdg → Prop} {n : Nat} {Q : Qf} {L : Locals} {O : Own} {h : PHeap} {c0 c1 c2 c3 t t' : Code} (e : t' = t) (x : (Code.seq c0 (.seq c1 (.seq c2 (.seq c3 t')))).sf P M n Q L O h) : (Code.seq c0 (.seq c1 (.seq c2 (.seq c3 t)))).sf P M n Q L O h := e ▸ x
def SideI (h : PHeap) (w r : Nat) (val : Nat → Int) (i : Nat) (v : Value) : Prop := Sl h v intF ((List.range' (stOf w r i) (stOf w r (i + 1) - stOf w r i)).map val)
theorem sidesInt_f [al : Alone Tryz.prog M] (h : PHeap) (ca : List Value) (g : Grid) (b : (gridR τ).B h ca g) (w r : Nat) (hw : g.wide = w) (h1 : 1 ≤ w) (h5 : w ≤ 5) (hr : (g.cells.length : Int) / g.wide = r) (hr5 : r ≤ 5) (fn : FuncId) [Fu : Fun Tryz.prog fn] (first cap : Array Value) (val : Nat → Int)
    (of : ∀ (M : Jdg → Prop) [IsCl Tryz.prog M] (h' : PHeap), (∀ b o, h.obj b = some o → h'.obj b = some o) → ∀ k, k < stOf w r 4 → CallV Tryz.prog M fn (first.toList ++ [.int .i64 (k : Int)] ++ cap.toList) h' (.int .i64 (val k))) :
    CallF Tryz.prog M 190 [.agg ca.toArray, .func (.func fn) first cap] [] h fun v A => Gr A v 3 intF ((List.range (stOf w r 4)).map val) := by
  obtain ⟨W, RR, rfl⟩ := al.is
  have b0 := b
  obtain ⟨c, rfl, s⟩ := gridB b
  have o1 := s.one
  refine Cs Tryz.func190 Tryz.ntmps190 ?_
  obtain ⟨t', et⟩ : ∃ t', t' = tail43 := ⟨_, rfl⟩
  refine hide4 (et.trans rfl) ?_
  repeat first | refine R1 ?_ | refine R2 fun _ => ?_
  refine Xv (sideStarts_v _ _ g b0 w r hw h1 h5 hr hr5) ?_
  repeat first | refine R1 ?_ | refine R2 fun _ => ?_
  refine f_makeChan (by rfl) (by rfl) fun Ch => ?_
  repeat first | refine R1 ?_ | refine R2 fun _ => ?_
  rename_i b2 b3 b5 b6 b7
  subst et
  show (Code.seq fork43 (Code.seq join43 rest43)).sf _ _ _ _ _ _ _
  refine sf_fork (Wg := b7) (Ch := Ch) (ty := 289) (it := 3) (RowI (stOf w r) val) RowI.mono (fun L' => Locals.sub (ml b3 b5 b6 b7 4) L') (R := [(b6, .cells #[.chan (some Ch)] 279), (b5, .cells #[.int .i64 (stOf w r 0 : Nat), .int .i64 (stOf w r 1 : Nat), .int .i64 (stOf w r 2 : Nat), .int .i64 (stOf w r 3 : Nat), .int .i64 (stOf w r 4 : Nat)] 277), (b3, .cells #[.func (.func fn) first cap] 243), (b2, .cells #[.int .i64 g.wide, c] 34)]) ?_ (fun H0 hle hR hWg hCh => ?_) fun L' h2 rows hle hL hp hrow => ?_
  · exact (List.Perm.refl _).cons _ |>.trans ((List.Perm.swap _ _ _).cons _)
  · refine sl_mono (fork43_jm (Wg := b7) (Ch := Ch) (H0 := H0) (W := W) (RR := RR) (st := stOf w r) (val := val) b5 b3 b6 fn Fu first cap (fun i _ => Nat.le_trans (stOf_le h5 hr5 i) (by decide)) (stOf_mono) (hR _ _ (by simp)) (hR _ _ (by simp)) (hR _ _ (by simp)) (fun M _ B' hB k hk => callsR_of (of M B' (fun b o z => hB b o (hle b o z).1) k hk)) ?_ (ro H0 [0, 0]) rfl (fun b o z => ⟨z, rfl⟩) _ ⟨rfl, rfl, rfl, rfl, trivial⟩) ?_
    · intro j hj
      obtain rfl | rfl | rfl | rfl : j = 0 ∨ j = 1 ∨ j = 2 ∨ j = 3 := by omega
      all_goals simp only [stOf]; omega
    · rintro e L1 h1' q
      cases e with
      | nrm =>
        obtain ⟨q1, q2, q3⟩ := q
        exact join43_jm b3 b5 b6 h1' q1 (fun L' h' => h'.gh = [10] ∧ (∀ b o, H0.obj b = some o → h'.obj b = some o ∧ h'.wr b = false) ∧ Locals.sub (ml b3 b5 b6 b7 4) L') L1 q3 fun v => ⟨rfl, fun b o z => q2 b o z, ⟨q3.1, q3.2.1, q3.2.2.1, q3.2.2.2.1, q3.2.2.2.2.1, trivial⟩⟩
      | _ => exact q.elim
  · simp only [rest43]
    refine sf_sub (ml b3 b5 b6 b7 4) hL ?_
    repeat first | refine R1 ?_ | refine R2 fun _ => ?_
    refine f_close (by rfl) ?_
    repeat first | refine R1 ?_ | refine R2 fun _ => ?_
    rename_i b9
    refine sf_lp (ι := List (Nat × Value) × Value × Value × Value × Value) [9, 25] (fun _ => []) (fun x O => ∃ rc, O = [(b9, .cells #[x.2.1, x.2.2.1, x.2.2.2.1, x.2.2.2.2] 292), (Ch, .chan 4 (x.1.map Prod.snd).toArray true 4 rc false)] ∧ (∀ p ∈ x.1, p.1 < 4 ∧ RowI (stOf w r) val p.1 p.2 h2) ∧ (Sl.One x.2.1 ∧ Sl.One x.2.2.1 ∧ Sl.One x.2.2.2.1 ∧ Sl.One x.2.2.2.2) ∧ (0 ∈ x.1.map Prod.fst ∨ SideI h2 w r val 0 x.2.1) ∧ (1 ∈ x.1.map Prod.fst ∨ SideI h2 w r val 1 x.2.2.1) ∧ (2 ∈ x.1.map Prod.fst ∨ SideI h2 w r val 2 x.2.2.2.1) ∧ (3 ∈ x.1.map Prod.fst ∨ SideI h2 w r val 3 x.2.2.2.2)) (fun x => x.1.length) (rows, .slice none 0 0, .slice none 0 0, .slice none 0 0, .slice none 0 0) [(b9, .cells #[.slice none 0 0, .slice none 0 0, .slice none 0 0, .slice none 0 0] 292), (Ch, .chan 4 (rows.map Prod.snd).toArray true 4 0 false)] ⟨0, rfl, fun p hp' => ⟨?_, hrow p hp'⟩, ⟨inferInstance, inferInstance, inferInstance, inferInstance⟩, .inl ?_, .inl ?_, .inl ?_, .inl ?_⟩ ?_
    · have := hp.mem_iff.1 (List.mem_map.2 ⟨p, hp', rfl⟩)
      simp at this; omega
    · exact hp.mem_iff.2 (by simp)
    · exact hp.mem_iff.2 (by simp)
    · exact hp.mem_iff.2 (by simp)
    · exact hp.mem_iff.2 (by simp)
    clear hrow hp hL hle b b0 of
    rintro ⟨rs, v0, v1, v2, v3⟩ O ⟨rc, rfl, hrow, ⟨p0, p1, p2, p3⟩, s0, s1, s2, s3⟩
    simp only at hrow p0 p1 p2 p3 s0 s1 s2 s3 ⊢
    match rs, hrow, s0, s1, s2, s3 with
    | [], hrow, s0, s1, s2, s3 =>
      simp only [List.map_nil, List.not_mem_nil, false_or] at s0 s1 s2 s3 ⊢
      repeat first | refine R1 ?_ | refine R2 fun _ => ?_
      refine f_shut (by rfl) ?_
      repeat first | refine R1 ?_ | refine R2 fun _ => ?_
      refine sf_cond (by rfl) (fun e => by cases e) fun _ => ?_
      refine sf_exit ?_
      repeat first | refine R1 ?_ | refine R2 fun _ => ?_
      have t0 := stOf_le (w := w) (r := r) h5 hr5 0
      have t1 := stOf_le (w := w) (r := r) h5 hr5 1
      have t2 := stOf_le (w := w) (r := r) h5 hr5 2
      have t3 := stOf_le (w := w) (r := r) h5 hr5 3
      have t4 := stOf_le (w := w) (r := r) h5 hr5 4
      refine sf_lp (ι := Nat × Value) [34] (fun x => [(35, .int .i64 (x.1 : Int)), (11, x.2)]) (fun x O => x.1 ≤ 4 ∧ Gr O x.2 3 intF ((List.range (stOf w r x.1)).map val)) (fun x => 4 - x.1) (0, .slice none 0 0) [] ⟨by decide, by simpa [stOf] using Gr.nil _ _⟩ ?_
      rintro ⟨k, v⟩ O ⟨hk, g3⟩
      simp only at hk g3 ⊢
      have o5 := g3.one
      repeat first | refine R1 ?_ | refine R2 fun _ => ?_
      refine sf_if (fun h4 => ?_) fun h4 => ?_
      · have hk4 : k = 0 ∨ k = 1 ∨ k = 2 ∨ k = 3 := by omega
        have hrng : ∀ j, j < 4 → (List.range (stOf w r j)).map val ++ (List.range' (stOf w r j) (stOf w r (j + 1) - stOf w r j)).map val = (List.range (stOf w r (j + 1))).map val := fun j hj => by
          rw [← List.map_append]
          congr 1
          rw [List.range_eq_range', List.range_eq_range', show stOf w r (j + 1) = stOf w r j + (stOf w r (j + 1) - stOf w r j) by have := stOf_mono (w := w) (r := r) j hj; omega, ← List.range'_append_1]
          simp
        rcases hk4 with rfl | rfl | rfl | rfl
        · repeat first | refine R1 ?_ | refine R2 fun _ => ?_
          refine fp (Rq ?_ (q_index (by infer_instance) (by infer_instance) (by rfl) (by rfl) (by decide) (by decide) (by rfl)))
          repeat first | refine R1 ?_ | refine R2 fun _ => ?_
          refine Xs g3 s0 fun v' A' g4 => ?_
          repeat first | refine R1 ?_ | refine R2 fun _ => ?_
          exact ⟨(1, v'), by simp only; omega, ⟨rfl, rfl, trivial⟩, rfl, A', _, inferInstance, by simp only; omega, by rw [← hrng 0 (by decide)]; exact g4⟩
        · repeat first | refine R1 ?_ | refine R2 fun _ => ?_
          refine fp (Rq ?_ (q_index (by infer_instance) (by infer_instance) (by rfl) (by rfl) (by decide) (by decide) (by rfl)))
          repeat first | refine R1 ?_ | refine R2 fun _ => ?_
          refine Xs g3 s1 fun v' A' g4 => ?_
          repeat first | refine R1 ?_ | refine R2 fun _ => ?_
          exact ⟨(2, v'), by simp only; omega, ⟨rfl, rfl, trivial⟩, rfl, A', _, inferInstance, by simp only; omega, by rw [← hrng 1 (by decide)]; exact g4⟩
        · repeat first | refine R1 ?_ | refine R2 fun _ => ?_
          refine fp (Rq ?_ (q_index (by infer_instance) (by infer_instance) (by rfl) (by rfl) (by decide) (by decide) (by rfl)))
          repeat first | refine R1 ?_ | refine R2 fun _ => ?_
          refine Xs g3 s2 fun v' A' g4 => ?_
          repeat first | refine R1 ?_ | refine R2 fun _ => ?_
          exact ⟨(3, v'), by simp only; omega, ⟨rfl, rfl, trivial⟩, rfl, A', _, inferInstance, by simp only; omega, by rw [← hrng 2 (by decide)]; exact g4⟩
        · repeat first | refine R1 ?_ | refine R2 fun _ => ?_
          refine fp (Rq ?_ (q_index (by infer_instance) (by infer_instance) (by rfl) (by rfl) (by decide) (by decide) (by rfl)))
          repeat first | refine R1 ?_ | refine R2 fun _ => ?_
          refine Xs g3 s3 fun v' A' g4 => ?_
          repeat first | refine R1 ?_ | refine R2 fun _ => ?_
          exact ⟨(4, v'), by simp only; omega, ⟨rfl, rfl, trivial⟩, rfl, A', _, inferInstance, by simp only; omega, by rw [← hrng 3 (by decide)]; exact g4⟩
      · refine sf_exit ?_
        repeat first | refine R1 ?_ | refine R2 fun _ => ?_
        have : k = 4 := by omega
        subst this
        exact sf_ret (rO O g3)
    | (i, u) :: rs, hrow, s0, s1, s2, s3 =>
      have hh := hrow (i, u) (List.mem_cons_self ..)
      simp only [RowI] at hh
      obtain ⟨hi, sl, rfl, sl0⟩ := hh
      have ol := sl0.one
      have hrow' : ∀ p ∈ rs, p.1 < 4 ∧ RowI (stOf w r) val p.1 p.2 h2 := fun p hp => hrow p (List.mem_cons_of_mem _ hp)
      simp only [List.map_cons] at s0 s1 s2 s3 ⊢
      repeat first | refine R1 ?_ | refine R2 fun _ => ?_
      have hi' : i = 0 ∨ i = 1 ∨ i = 2 ∨ i = 3 := by omega
      refine f_recv (by rfl) ?_
      repeat first | refine R1 ?_ | refine R2 fun _ => ?_
      refine sf_T rfl ?_
      rcases hi' with rfl | rfl | rfl | rfl
      · repeat first | refine R1 ?_ | refine R2 fun _ => ?_
        exact ⟨(rs, sl, v1, v2, v3), by simp only [List.length_cons]; omega, trivial, rfl, _, _, inferInstance, rc + 1, rfl, hrow', ⟨ol, p1, p2, p3⟩, .inr sl0, by simpa using s1, by simpa using s2, by simpa using s3⟩
      · repeat first | refine R1 ?_ | refine R2 fun _ => ?_
        exact ⟨(rs, v0, sl, v2, v3), by simp only [List.length_cons]; omega, trivial, rfl, _, _, inferInstance, rc + 1, rfl, hrow', ⟨p0, ol, p2, p3⟩, by simpa using s0, .inr sl0, by simpa using s2, by simpa using s3⟩
      · repeat first | refine R1 ?_ | refine R2 fun _ => ?_
        exact ⟨(rs, v0, v1, sl, v3), by simp only [List.length_cons]; omega, trivial, rfl, _, _, inferInstance, rc + 1, rfl, hrow', ⟨p0, p1, ol, p3⟩, by simpa using s0, by simpa using s1, .inr sl0, by simpa using s3⟩
      · repeat first | refine R1 ?_ | refine R2 fun _ => ?_
        exact ⟨(rs, v0, v1, v2, sl), by simp only [List.length_cons]; omega, trivial, rfl, _, _, inferInstance, rc + 1, rfl, hrow', ⟨p0, p1, p2, ol⟩, by simpa using s0, by simpa using s1, by simpa using s2, .inr sl0⟩
end Go.Proofs.YtekjikbaefgncaaGreatDoor

/- Walks of the seat: T GA. -/
import Derived.Test.YtcpkcmgjfcbnpaaGreatSmE
import Derived.Test.YtcpkcmgjfcbnpaaGreatProg
import Derived.KernelRfl
import Derived.Test.YtcpkcmgjfcbnpaaGreatSmH
set_option linter.unusedVariables false
set_option linter.unusedSimpArgs false
set_option linter.unusedSectionVars false
namespace Go.Proofs.YtcpkcmgjfcbnpaaGreat
open Go Go.Sl
noncomputable def fs7 : Array Field := match Tryz.prog.underlying 7 with | some (.struct fs) => fs | _ => #[]
noncomputable def im20 : Array (String × TypeId) := match Tryz.prog.underlying 20 with | some (.interface ms) => ms | _ => #[]
noncomputable def fs24 : Array Field := match Tryz.prog.underlying 24 with | some (.struct fs) => fs | _ => #[]
noncomputable def fs28 : Array Field := match Tryz.prog.underlying 28 with | some (.struct fs) => fs | _ => #[]
noncomputable def fs30 : Array Field := match Tryz.prog.underlying 30 with | some (.struct fs) => fs | _ => #[]
noncomputable def fs34 : Array Field := match Tryz.prog.underlying 34 with | some (.struct fs) => fs | _ => #[]
noncomputable def fs36 : Array Field := match Tryz.prog.underlying 36 with | some (.struct fs) => fs | _ => #[]
noncomputable def fs38 : Array Field := match Tryz.prog.underlying 38 with | some (.struct fs) => fs | _ => #[]
noncomputable def fs66 : Array Field := match Tryz.prog.underlying 66 with | some (.struct fs) => fs | _ => #[]
noncomputable def fs69 : Array Field := match Tryz.prog.underlying 69 with | some (.struct fs) => fs | _ => #[]
noncomputable def fs81 : Array Field := match Tryz.prog.underlying 81 with | some (.struct fs) => fs | _ => #[]
noncomputable def fs86 : Array Field := match Tryz.prog.underlying 86 with | some (.struct fs) => fs | _ => #[]
noncomputable def fs90 : Array Field := match Tryz.prog.underlying 90 with | some (.struct fs) => fs | _ => #[]
noncomputable def fs94 : Array Field := match Tryz.prog.underlying 94 with | some (.struct fs) => fs | _ => #[]
noncomputable def fs98 : Array Field := match Tryz.prog.underlying 98 with | some (.struct fs) => fs | _ => #[]
noncomputable def fs100 : Array Field := match Tryz.prog.underlying 100 with | some (.struct fs) => fs | _ => #[]
noncomputable def fs104 : Array Field := match Tryz.prog.underlying 104 with | some (.struct fs) => fs | _ => #[]
noncomputable def fs131 : Array Field := match Tryz.prog.underlying 131 with | some (.struct fs) => fs | _ => #[]
noncomputable def im149 : Array (String × TypeId) := match Tryz.prog.underlying 149 with | some (.interface ms) => ms | _ => #[]
noncomputable def fs163 : Array Field := match Tryz.prog.underlying 163 with | some (.struct fs) => fs | _ => #[]
noncomputable def fs172 : Array Field := match Tryz.prog.underlying 172 with | some (.struct fs) => fs | _ => #[]
noncomputable def fs176 : Array Field := match Tryz.prog.underlying 176 with | some (.struct fs) => fs | _ => #[]
noncomputable def fs178 : Array Field := match Tryz.prog.underlying 178 with | some (.struct fs) => fs | _ => #[]
noncomputable def fs197 : Array Field := match Tryz.prog.underlying 197 with | some (.struct fs) => fs | _ => #[]
noncomputable def fs200 : Array Field := match Tryz.prog.underlying 200 with | some (.struct fs) => fs | _ => #[]
noncomputable def fs212 : Array Field := match Tryz.prog.underlying 212 with | some (.struct fs) => fs | _ => #[]
noncomputable def fs252 : Array Field := match Tryz.prog.underlying 252 with | some (.struct fs) => fs | _ => #[]
instance : Ty Tryz.prog 3 (.int .i64) 1 8 (.int .i64 0) := ⟨by kernel_rfl, by kernel_rfl⟩
instance : Ty Tryz.prog 4 .bool 1 1 (.bool false) := ⟨by kernel_rfl, by kernel_rfl⟩
instance : Ty Tryz.prog 5 (.int .u8) 1 1 (.int .u8 0) := ⟨by kernel_rfl, by kernel_rfl⟩
instance : Ty Tryz.prog 9 .string 1 16 (.string ⟨#[]⟩) := ⟨by kernel_rfl, by kernel_rfl⟩
instance : Ty Tryz.prog 22 (.slice 5) 1 24 (.slice none 0 0) := ⟨by kernel_rfl, by kernel_rfl⟩
instance : Ty Tryz.prog 23 (.slice 35) 1 24 (.slice none 0 0) := ⟨by kernel_rfl, by kernel_rfl⟩
instance : Ty Tryz.prog 25 (.struct fs24) 2 32 (.agg #[(.int .i64 0), (.slice none 0 0)]) := ⟨by kernel_rfl, by kernel_rfl⟩
instance : Flds Tryz.prog 25 [⟨3, false, 0, 1⟩, ⟨23, false, 1, 1⟩] := ⟨by kernel_rfl⟩
instance : Ty Tryz.prog 26 (.slice 3) 1 24 (.slice none 0 0) := ⟨by kernel_rfl, by kernel_rfl⟩
instance : Ty Tryz.prog 27 (.slice 26) 1 24 (.slice none 0 0) := ⟨by kernel_rfl, by kernel_rfl⟩
instance : Ty Tryz.prog 29 (.struct fs28) 4 80 (.agg #[(.int .i64 0), (.slice none 0 0), (.slice none 0 0), (.slice none 0 0)]) := ⟨by kernel_rfl, by kernel_rfl⟩
instance : Flds Tryz.prog 29 [⟨25, true, 0, 2⟩, ⟨26, false, 2, 1⟩, ⟨27, false, 3, 1⟩] := ⟨by kernel_rfl⟩
instance : Ty Tryz.prog 31 (.struct fs30) 7 96 (.agg #[(.bool false), (.bool false), (.int .i64 0), (.int .i64 0), (.slice none 0 0), (.slice none 0 0), (.slice none 0 0)]) := ⟨by kernel_rfl, by kernel_rfl⟩
instance : Flds Tryz.prog 31 [⟨4, false, 0, 1⟩, ⟨4, false, 1, 1⟩, ⟨3, false, 2, 1⟩, ⟨29, true, 3, 4⟩] := ⟨by kernel_rfl⟩
instance : Ty Tryz.prog 35 (.struct fs34) 2 16 (.agg #[(.int .i64 0), (.int .i64 0)]) := ⟨by kernel_rfl, by kernel_rfl⟩
instance : Flds Tryz.prog 35 [⟨3, false, 0, 1⟩, ⟨3, false, 1, 1⟩] := ⟨by kernel_rfl⟩
instance : Ty Tryz.prog 37 (.struct fs36) 3 24 (.agg #[(.int .i64 0), (.int .i64 0), (.int .i64 0)]) := ⟨by kernel_rfl, by kernel_rfl⟩
instance : Flds Tryz.prog 37 [⟨3, false, 0, 1⟩, ⟨35, true, 1, 2⟩] := ⟨by kernel_rfl⟩
instance : Ty Tryz.prog 39 (.struct fs38) 10 112 (.agg #[(.int .i64 0), (.int .i64 0), (.int .i64 0), (.int .i64 0), (.int .i64 0), (.slice none 0 0), (.int .i64 0), (.int .i64 0), (.int .i64 0), (.slice none 0 0)]) := ⟨by kernel_rfl, by kernel_rfl⟩
instance : Flds Tryz.prog 39 [⟨3, false, 0, 1⟩, ⟨3, false, 1, 1⟩, ⟨3, false, 2, 1⟩, ⟨3, false, 3, 1⟩, ⟨25, true, 4, 2⟩, ⟨37, true, 6, 3⟩, ⟨26, false, 9, 1⟩] := ⟨by kernel_rfl⟩
instance : Ty Tryz.prog 60 (.func #[3] #[3] false) 1 8 (.nilFunc) := ⟨by kernel_rfl, by kernel_rfl⟩
instance : Ty Tryz.prog 64 (.slice 99) 1 24 (.slice none 0 0) := ⟨by kernel_rfl, by kernel_rfl⟩
instance : Ty Tryz.prog 65 (.slice 70) 1 24 (.slice none 0 0) := ⟨by kernel_rfl, by kernel_rfl⟩
instance : Ty Tryz.prog 67 (.struct fs66) 2 48 (.agg #[(.slice none 0 0), (.slice none 0 0)]) := ⟨by kernel_rfl, by kernel_rfl⟩
instance : Flds Tryz.prog 67 [⟨64, false, 0, 1⟩, ⟨65, false, 1, 1⟩] := ⟨by kernel_rfl⟩
instance : Ty Tryz.prog 70 (.struct fs69) 3 24 (.agg #[(.int .i64 0), (.int .i64 0), (.int .i64 0)]) := ⟨by kernel_rfl, by kernel_rfl⟩
instance : Flds Tryz.prog 70 [⟨3, false, 0, 1⟩, ⟨3, false, 1, 1⟩, ⟨3, false, 2, 1⟩] := ⟨by kernel_rfl⟩
instance : Ty Tryz.prog 80 (.slice 37) 1 24 (.slice none 0 0) := ⟨by kernel_rfl, by kernel_rfl⟩
instance : Ty Tryz.prog 82 (.struct fs81) 2 32 (.agg #[(.slice none 0 0), (.int .i64 0)]) := ⟨by kernel_rfl, by kernel_rfl⟩
instance : Flds Tryz.prog 82 [⟨22, false, 0, 1⟩, ⟨3, false, 1, 1⟩] := ⟨by kernel_rfl⟩
instance : Ty Tryz.prog 83 (.slice 132) 1 24 (.slice none 0 0) := ⟨by kernel_rfl, by kernel_rfl⟩
instance : Ty Tryz.prog 84 (.slice 213) 1 24 (.slice none 0 0) := ⟨by kernel_rfl, by kernel_rfl⟩
instance : Ty Tryz.prog 85 (.slice 253) 1 24 (.slice none 0 0) := ⟨by kernel_rfl, by kernel_rfl⟩
instance : Ty Tryz.prog 87 (.struct fs86) 5 104 (.agg #[(.int .i64 0), (.slice none 0 0), (.slice none 0 0), (.slice none 0 0), (.slice none 0 0)]) := ⟨by kernel_rfl, by kernel_rfl⟩
instance : Flds Tryz.prog 87 [⟨25, true, 0, 2⟩, ⟨80, false, 2, 1⟩, ⟨84, false, 3, 1⟩, ⟨85, false, 4, 1⟩] := ⟨by kernel_rfl⟩
instance : Ty Tryz.prog 88 (.slice 31) 1 24 (.slice none 0 0) := ⟨by kernel_rfl, by kernel_rfl⟩
instance : Ty Tryz.prog 89 (.slice 39) 1 24 (.slice none 0 0) := ⟨by kernel_rfl, by kernel_rfl⟩
instance : Ty Tryz.prog 91 (.struct fs90) 7 152 (.agg #[(.int .i64 0), (.slice none 0 0), (.slice none 0 0), (.slice none 0 0), (.slice none 0 0), (.slice none 0 0), (.slice none 0 0)]) := ⟨by kernel_rfl, by kernel_rfl⟩
instance : Flds Tryz.prog 91 [⟨87, true, 0, 5⟩, ⟨88, false, 5, 1⟩, ⟨89, false, 6, 1⟩] := ⟨by kernel_rfl⟩
instance : Ty Tryz.prog 95 (.struct fs94) 2 16 (.agg #[(.int .i64 0), (.int .i64 0)]) := ⟨by kernel_rfl, by kernel_rfl⟩
instance : Flds Tryz.prog 95 [⟨3, false, 0, 1⟩, ⟨3, false, 1, 1⟩] := ⟨by kernel_rfl⟩
instance : Ty Tryz.prog 99 (.struct fs98) 3 24 (.agg #[(.int .i64 0), (.int .i64 0), (.int .i64 0)]) := ⟨by kernel_rfl, by kernel_rfl⟩
instance : Flds Tryz.prog 99 [⟨3, false, 0, 1⟩, ⟨3, false, 1, 1⟩, ⟨3, false, 2, 1⟩] := ⟨by kernel_rfl⟩
instance : Ty Tryz.prog 101 (.struct fs100) 4 32 (.agg #[(.int .i64 0), (.int .i64 0), (.int .i64 0), (.int .i64 0)]) := ⟨by kernel_rfl, by kernel_rfl⟩
instance : Flds Tryz.prog 101 [⟨99, true, 0, 3⟩, ⟨3, false, 3, 1⟩] := ⟨by kernel_rfl⟩
instance : Ty Tryz.prog 102 (.slice 101) 1 24 (.slice none 0 0) := ⟨by kernel_rfl, by kernel_rfl⟩
instance : Ty Tryz.prog 105 (.struct fs104) 4 32 (.agg #[(.int .i64 0), (.int .i64 0), (.int .i64 0), (.int .i64 0)]) := ⟨by kernel_rfl, by kernel_rfl⟩
instance : Flds Tryz.prog 105 [⟨3, false, 0, 1⟩, ⟨3, false, 1, 1⟩, ⟨3, false, 2, 1⟩, ⟨3, false, 3, 1⟩] := ⟨by kernel_rfl⟩
instance : Ty Tryz.prog 132 (.struct fs131) 5 40 (.agg #[(.int .i64 0), (.int .i64 0), (.int .i64 0), (.int .i64 0), (.int .i64 0)]) := ⟨by kernel_rfl, by kernel_rfl⟩
instance : Flds Tryz.prog 132 [⟨3, false, 0, 1⟩, ⟨3, false, 1, 1⟩, ⟨37, true, 2, 3⟩] := ⟨by kernel_rfl⟩
instance : Ty Tryz.prog 135 (.slice 95) 1 24 (.slice none 0 0) := ⟨by kernel_rfl, by kernel_rfl⟩
instance : Ty Tryz.prog 139 (.func #[3] #[105] false) 1 8 (.nilFunc) := ⟨by kernel_rfl, by kernel_rfl⟩
instance : Ty Tryz.prog 140 (.array 8 139) 8 64 (.agg #[.nilFunc, .nilFunc, .nilFunc, .nilFunc, .nilFunc, .nilFunc, .nilFunc, .nilFunc]) := ⟨by kernel_rfl, by kernel_rfl⟩
instance : Ty Tryz.prog 144 (.array 4 3) 4 32 (.agg #[(.int .i64 0), (.int .i64 0), (.int .i64 0), (.int .i64 0)]) := ⟨by kernel_rfl, by kernel_rfl⟩
instance : Ty Tryz.prog 146 (.slice 4) 1 24 (.slice none 0 0) := ⟨by kernel_rfl, by kernel_rfl⟩
instance : Ty Tryz.prog 150 (.interface im149) 1 16 (.nilIface) := ⟨by kernel_rfl, by kernel_rfl⟩
instance : Ty Tryz.prog 158 (.int .u64) 1 8 (.int .u64 0) := ⟨by kernel_rfl, by kernel_rfl⟩
instance : Ty Tryz.prog 161 (.func #[164] #[3, 4] false) 1 8 (.nilFunc) := ⟨by kernel_rfl, by kernel_rfl⟩
instance : Ty Tryz.prog 164 (.struct fs163) 3 40 (.agg #[(.int .i64 0), (.slice none 0 0), (.int .i64 0)]) := ⟨by kernel_rfl, by kernel_rfl⟩
instance : Flds Tryz.prog 164 [⟨25, true, 0, 2⟩, ⟨3, false, 2, 1⟩] := ⟨by kernel_rfl⟩
instance : Ty Tryz.prog 165 (.array 4 161) 4 32 (.agg #[.nilFunc, .nilFunc, .nilFunc, .nilFunc]) := ⟨by kernel_rfl, by kernel_rfl⟩
instance : Ty Tryz.prog 173 (.struct fs172) 4 80 (.agg #[(.int .i64 0), (.slice none 0 0), (.slice none 0 0), (.slice none 0 0)]) := ⟨by kernel_rfl, by kernel_rfl⟩
instance : Flds Tryz.prog 173 [⟨25, true, 0, 2⟩, ⟨64, false, 2, 1⟩, ⟨65, false, 3, 1⟩] := ⟨by kernel_rfl⟩
instance : Ty Tryz.prog 177 (.struct fs176) 1 8 (.agg #[(.int .i64 0)]) := ⟨by kernel_rfl, by kernel_rfl⟩
instance : Flds Tryz.prog 177 [⟨3, false, 0, 1⟩] := ⟨by kernel_rfl⟩
instance : Ty Tryz.prog 179 (.struct fs178) 0 0 (.agg #[]) := ⟨by kernel_rfl, by kernel_rfl⟩
instance : Flds Tryz.prog 179 [] := ⟨by kernel_rfl⟩
instance : Ty Tryz.prog 180 (.struct fs178) 0 0 (.agg #[]) := ⟨by kernel_rfl, by kernel_rfl⟩
instance : Flds Tryz.prog 180 [] := ⟨by kernel_rfl⟩
instance : Ty Tryz.prog 181 (.struct fs178) 0 0 (.agg #[]) := ⟨by kernel_rfl, by kernel_rfl⟩
instance : Flds Tryz.prog 181 [] := ⟨by kernel_rfl⟩
instance : Ty Tryz.prog 182 (.struct fs178) 0 0 (.agg #[]) := ⟨by kernel_rfl, by kernel_rfl⟩
instance : Flds Tryz.prog 182 [] := ⟨by kernel_rfl⟩
instance : Ty Tryz.prog 183 (.struct fs178) 0 0 (.agg #[]) := ⟨by kernel_rfl, by kernel_rfl⟩
instance : Flds Tryz.prog 183 [] := ⟨by kernel_rfl⟩
instance : Ty Tryz.prog 184 (.struct fs178) 0 0 (.agg #[]) := ⟨by kernel_rfl, by kernel_rfl⟩
instance : Flds Tryz.prog 184 [] := ⟨by kernel_rfl⟩
instance : Ty Tryz.prog 185 (.struct fs178) 0 0 (.agg #[]) := ⟨by kernel_rfl, by kernel_rfl⟩
instance : Flds Tryz.prog 185 [] := ⟨by kernel_rfl⟩
instance : Ty Tryz.prog 186 (.array 7 150) 7 112 (.agg #[.nilIface, .nilIface, .nilIface, .nilIface, .nilIface, .nilIface, .nilIface]) := ⟨by kernel_rfl, by kernel_rfl⟩
instance : Ty Tryz.prog 187 (.array 5 3) 5 40 (.agg #[(.int .i64 0), (.int .i64 0), (.int .i64 0), (.int .i64 0), (.int .i64 0)]) := ⟨by kernel_rfl, by kernel_rfl⟩
instance : Ty Tryz.prog 189 (.chan .both 201) 1 8 (.chan none) := ⟨by kernel_rfl, by kernel_rfl⟩
instance : Ty Tryz.prog 193 (.int .u64) 1 8 (.int .u64 0) := ⟨by kernel_rfl, by kernel_rfl⟩
instance : Ty Tryz.prog 198 (.struct fs197) 2 16 (.agg #[(.int .u64 0), (.int .u32 0)]) := ⟨by kernel_rfl, by kernel_rfl⟩
instance : Ty Tryz.prog 201 (.struct fs200) 2 32 (.agg #[(.int .i64 0), (.slice none 0 0)]) := ⟨by kernel_rfl, by kernel_rfl⟩
instance : Flds Tryz.prog 201 [⟨3, false, 0, 1⟩, ⟨26, false, 1, 1⟩] := ⟨by kernel_rfl⟩
instance : Ty Tryz.prog 202 (.array 4 26) 4 96 (.agg #[(.slice none 0 0), (.slice none 0 0), (.slice none 0 0), (.slice none 0 0)]) := ⟨by kernel_rfl, by kernel_rfl⟩
instance : Ty Tryz.prog 213 (.struct fs212) 3 40 (.agg #[(.bool false), (.int .i64 0), (.slice none 0 0)]) := ⟨by kernel_rfl, by kernel_rfl⟩
instance : Flds Tryz.prog 213 [⟨4, false, 0, 1⟩, ⟨3, false, 1, 1⟩, ⟨26, false, 2, 1⟩] := ⟨by kernel_rfl⟩
instance : Ty Tryz.prog 235 (.int .u64) 1 8 (.int .u64 0) := ⟨by kernel_rfl, by kernel_rfl⟩
instance : Ty Tryz.prog 253 (.struct fs252) 2 32 (.agg #[(.int .i64 0), (.slice none 0 0)]) := ⟨by kernel_rfl, by kernel_rfl⟩
instance : Flds Tryz.prog 253 [⟨3, false, 0, 1⟩, ⟨26, false, 1, 1⟩] := ⟨by kernel_rfl⟩
instance : Fun Tryz.prog 9 := ⟨by kernel_rfl⟩
instance : Fun Tryz.prog 10 := ⟨by kernel_rfl⟩
instance : Fun Tryz.prog 11 := ⟨by kernel_rfl⟩
instance : Fun Tryz.prog 12 := ⟨by kernel_rfl⟩
instance : Fun Tryz.prog 13 := ⟨by kernel_rfl⟩
instance : Fun Tryz.prog 14 := ⟨by kernel_rfl⟩
instance : Fun Tryz.prog 15 := ⟨by kernel_rfl⟩
instance : Fun Tryz.prog 20 := ⟨by kernel_rfl⟩
instance : Fun Tryz.prog 21 := ⟨by kernel_rfl⟩
instance : Fun Tryz.prog 25 := ⟨by kernel_rfl⟩
instance : Fun Tryz.prog 26 := ⟨by kernel_rfl⟩
instance : Fun Tryz.prog 27 := ⟨by kernel_rfl⟩
instance : Fun Tryz.prog 28 := ⟨by kernel_rfl⟩
instance : Fun Tryz.prog 29 := ⟨by kernel_rfl⟩
instance : Fun Tryz.prog 30 := ⟨by kernel_rfl⟩
instance : Fun Tryz.prog 31 := ⟨by kernel_rfl⟩
instance : Fun Tryz.prog 32 := ⟨by kernel_rfl⟩
instance : Fun Tryz.prog 33 := ⟨by kernel_rfl⟩
instance : Fun Tryz.prog 34 := ⟨by kernel_rfl⟩
instance : Fun Tryz.prog 35 := ⟨by kernel_rfl⟩
instance : Fun Tryz.prog 38 := ⟨by kernel_rfl⟩
instance : Fun Tryz.prog 40 := ⟨by kernel_rfl⟩
instance : Fun Tryz.prog 41 := ⟨by kernel_rfl⟩
instance : Fun Tryz.prog 42 := ⟨by kernel_rfl⟩
instance : Fun Tryz.prog 43 := ⟨by kernel_rfl⟩
instance : Fun Tryz.prog 44 := ⟨by kernel_rfl⟩
instance : Fun Tryz.prog 45 := ⟨by kernel_rfl⟩
instance : Fun Tryz.prog 46 := ⟨by kernel_rfl⟩
instance : Fun Tryz.prog 49 := ⟨by kernel_rfl⟩
instance : Fun Tryz.prog 50 := ⟨by kernel_rfl⟩
instance : Fun Tryz.prog 51 := ⟨by kernel_rfl⟩
instance : Fun Tryz.prog 52 := ⟨by kernel_rfl⟩
instance : Fun Tryz.prog 53 := ⟨by kernel_rfl⟩
instance : Fun Tryz.prog 54 := ⟨by kernel_rfl⟩
instance : Fun Tryz.prog 55 := ⟨by kernel_rfl⟩
instance : Fun Tryz.prog 56 := ⟨by kernel_rfl⟩
instance : Fun Tryz.prog 57 := ⟨by kernel_rfl⟩
instance : Fun Tryz.prog 58 := ⟨by kernel_rfl⟩
instance : Fun Tryz.prog 59 := ⟨by kernel_rfl⟩
instance : Fun Tryz.prog 60 := ⟨by kernel_rfl⟩
instance : Fun Tryz.prog 64 := ⟨by kernel_rfl⟩
instance : Fun Tryz.prog 65 := ⟨by kernel_rfl⟩
instance : Fun Tryz.prog 66 := ⟨by kernel_rfl⟩
instance : Fun Tryz.prog 67 := ⟨by kernel_rfl⟩
instance : Fun Tryz.prog 68 := ⟨by kernel_rfl⟩
instance : Fun Tryz.prog 69 := ⟨by kernel_rfl⟩
instance : Fun Tryz.prog 70 := ⟨by kernel_rfl⟩
instance : Fun Tryz.prog 71 := ⟨by kernel_rfl⟩
instance : Fun Tryz.prog 72 := ⟨by kernel_rfl⟩
instance : Fun Tryz.prog 73 := ⟨by kernel_rfl⟩
instance : Fun Tryz.prog 74 := ⟨by kernel_rfl⟩
instance : Fun Tryz.prog 75 := ⟨by kernel_rfl⟩
instance : Fun Tryz.prog 79 := ⟨by kernel_rfl⟩
instance : Fun Tryz.prog 80 := ⟨by kernel_rfl⟩
instance : Fun Tryz.prog 81 := ⟨by kernel_rfl⟩
instance : Fun Tryz.prog 82 := ⟨by kernel_rfl⟩
instance : Fun Tryz.prog 83 := ⟨by kernel_rfl⟩
instance : Fun Tryz.prog 84 := ⟨by kernel_rfl⟩
instance : Fun Tryz.prog 85 := ⟨by kernel_rfl⟩
instance : Fun Tryz.prog 86 := ⟨by kernel_rfl⟩
instance : Fun Tryz.prog 87 := ⟨by kernel_rfl⟩
instance : Fun Tryz.prog 88 := ⟨by kernel_rfl⟩
instance : Fun Tryz.prog 89 := ⟨by kernel_rfl⟩
instance : Fun Tryz.prog 90 := ⟨by kernel_rfl⟩
instance : Fun Tryz.prog 91 := ⟨by kernel_rfl⟩
instance : Fun Tryz.prog 92 := ⟨by kernel_rfl⟩
instance : Fun Tryz.prog 93 := ⟨by kernel_rfl⟩
instance : Fun Tryz.prog 94 := ⟨by kernel_rfl⟩
instance : Fun Tryz.prog 95 := ⟨by kernel_rfl⟩
instance : Fun Tryz.prog 96 := ⟨by kernel_rfl⟩
instance : Fun Tryz.prog 97 := ⟨by kernel_rfl⟩
instance : Fun Tryz.prog 98 := ⟨by kernel_rfl⟩
instance : Fun Tryz.prog 99 := ⟨by kernel_rfl⟩
instance : Fun Tryz.prog 100 := ⟨by kernel_rfl⟩
instance : Fun Tryz.prog 101 := ⟨by kernel_rfl⟩
instance : Fun Tryz.prog 102 := ⟨by kernel_rfl⟩
instance : Fun Tryz.prog 103 := ⟨by kernel_rfl⟩
instance : Fun Tryz.prog 104 := ⟨by kernel_rfl⟩
instance : Fun Tryz.prog 107 := ⟨by kernel_rfl⟩
instance : Fun Tryz.prog 108 := ⟨by kernel_rfl⟩
instance : Fun Tryz.prog 109 := ⟨by kernel_rfl⟩
instance : Fun Tryz.prog 110 := ⟨by kernel_rfl⟩
instance : Fun Tryz.prog 111 := ⟨by kernel_rfl⟩
instance : Fun Tryz.prog 112 := ⟨by kernel_rfl⟩
instance : Fun Tryz.prog 113 := ⟨by kernel_rfl⟩
instance : Fun Tryz.prog 114 := ⟨by kernel_rfl⟩
instance : Fun Tryz.prog 115 := ⟨by kernel_rfl⟩
instance : Fun Tryz.prog 116 := ⟨by kernel_rfl⟩
instance : Fun Tryz.prog 117 := ⟨by kernel_rfl⟩
instance : Fun Tryz.prog 118 := ⟨by kernel_rfl⟩
instance : Fun Tryz.prog 119 := ⟨by kernel_rfl⟩
instance : Fun Tryz.prog 120 := ⟨by kernel_rfl⟩
instance : Fun Tryz.prog 121 := ⟨by kernel_rfl⟩
instance : Fun Tryz.prog 122 := ⟨by kernel_rfl⟩
instance : Fun Tryz.prog 123 := ⟨by kernel_rfl⟩
instance : Fun Tryz.prog 124 := ⟨by kernel_rfl⟩
instance : Fun Tryz.prog 129 := ⟨by kernel_rfl⟩
instance : Fun Tryz.prog 130 := ⟨by kernel_rfl⟩
instance : Fun Tryz.prog 131 := ⟨by kernel_rfl⟩
instance : Fun Tryz.prog 132 := ⟨by kernel_rfl⟩
instance : Fun Tryz.prog 133 := ⟨by kernel_rfl⟩
instance : Fun Tryz.prog 134 := ⟨by kernel_rfl⟩
instance : Fun Tryz.prog 135 := ⟨by kernel_rfl⟩
instance : Fun Tryz.prog 136 := ⟨by kernel_rfl⟩
instance : Fun Tryz.prog 137 := ⟨by kernel_rfl⟩
instance : Fun Tryz.prog 139 := ⟨by kernel_rfl⟩
instance : Fun Tryz.prog 140 := ⟨by kernel_rfl⟩
instance : Fun Tryz.prog 141 := ⟨by kernel_rfl⟩
instance : Fun Tryz.prog 142 := ⟨by kernel_rfl⟩
instance : Fun Tryz.prog 143 := ⟨by kernel_rfl⟩
instance : Fun Tryz.prog 144 := ⟨by kernel_rfl⟩
instance : Fun Tryz.prog 145 := ⟨by kernel_rfl⟩
instance : Fun Tryz.prog 146 := ⟨by kernel_rfl⟩
instance : Fun Tryz.prog 165 := ⟨by kernel_rfl⟩
instance : Fun Tryz.prog 166 := ⟨by kernel_rfl⟩
instance : Fun Tryz.prog 168 := ⟨by kernel_rfl⟩
instance : Fun Tryz.prog 169 := ⟨by kernel_rfl⟩
instance : Fun Tryz.prog 170 := ⟨by kernel_rfl⟩
instance : Fun Tryz.prog 171 := ⟨by kernel_rfl⟩
instance : Fun Tryz.prog 172 := ⟨by kernel_rfl⟩
instance : Fun Tryz.prog 173 := ⟨by kernel_rfl⟩
instance : Fun Tryz.prog 174 := ⟨by kernel_rfl⟩
instance : Fun Tryz.prog 175 := ⟨by kernel_rfl⟩
instance : Fun Tryz.prog 176 := ⟨by kernel_rfl⟩
instance : Fun Tryz.prog 182 := ⟨by kernel_rfl⟩
instance : Fun Tryz.prog 183 := ⟨by kernel_rfl⟩
instance : Fun Tryz.prog 184 := ⟨by kernel_rfl⟩
instance : Fun Tryz.prog 185 := ⟨by kernel_rfl⟩
instance : Fun Tryz.prog 186 := ⟨by kernel_rfl⟩
instance : Mixed Tryz.prog := ⟨by kernel_rfl⟩
end Go.Proofs.YtcpkcmgjfcbnpaaGreat
namespace Go.Proofs.YtcpkcmgjfcbnpaaGreat
open Go Go.Sl
set_option maxRecDepth 100000
set_option maxHeartbeats 4000000
attribute [local irreducible] Go.Code.sf sfOps Opq opo retF Do1 anyO
variable {M : Jdg → Prop} [IsCl Tryz.prog M]
instance : ElemF Tryz.prog 35 cellF := ⟨trivial⟩
instance : ElemF Tryz.prog 3 intF := ⟨trivial⟩
instance : ElemF Tryz.prog 37 editF := ⟨trivial⟩
abbrev τ : Tys := ⟨3, 35, 37, 26, 213, 253, 31, 39, 132⟩
instance : ElemF Tryz.prog 213 (rawF (partR τ).sz) := ⟨trivial⟩
instance : ElemF Tryz.prog 253 (rawF (shownR τ).sz) := ⟨trivial⟩
instance : ElemF Tryz.prog 31 (rawF (painterR τ).sz) := ⟨trivial⟩
instance : ElemF Tryz.prog 39 (rawF (wordR τ).sz) := ⟨trivial⟩
theorem l6In_v (h : PHeap) (a b c : Int) : CallV Tryz.prog M 41 [.int .i64 a, .int .i64 b, .int .i64 c] h (.bool (decide (b ≤ a) && decide (a ≤ c))) := by
  refine Cs Tryz.func41 Tryz.ntmps41 ?_
  refine Wo ?_
  refine f_split (fun h1 => ?_) fun h1 => ?_ <;>
  · refine Wo ?_
    refine sf_ret (rV ?_)
    simp [h1]
theorem sCellOk_v (h : PHeap) (c : Cell) : CallV Tryz.prog M 98 [.agg #[.int .i64 c.kind, .int .i64 c.light]] h (.bool (cellOk c)) := by
  refine Cs Tryz.func98 Tryz.ntmps98 ?_
  repeat first | refine R1 ?_ | refine R2 fun _ => ?_
  refine sf_if (fun h1 => ?_) fun h1 => ?_
  · repeat first | refine R1 ?_ | refine R2 fun _ => ?_
    refine Xv (l6In_v _ _ _ _) ?_
    repeat first | refine R1 ?_ | refine R2 fun _ => ?_
    refine sf_ret (rV ?_)
    simp [cellOk, h1]
  · repeat first | refine R1 ?_ | refine R2 fun _ => ?_
    refine Xv (l6In_v _ _ _ _) ?_
    repeat first | refine R1 ?_ | refine R2 fun _ => ?_
    refine f_splitB (fun h2 => ?_) fun h2 => ?_ <;>
    · repeat first | refine R1 ?_ | refine R2 fun _ => ?_
      refine sf_ret (rV ?_)
      simp [cellOk, h1, h2]
theorem sGridOk_v (h : PHeap) (v : Value) (g : Grid) (gb : GridB h v g) : CallV Tryz.prog M 95 [v] h (.bool (gridOk g)) := by
  obtain ⟨c, rfl, s⟩ := gb
  have o1 := s.one
  have hs := s.small
  refine Cs Tryz.func95 Tryz.ntmps95 ?_
  repeat first | refine R1 ?_ | refine R2 fun _ => ?_
  refine Xv (l6In_v _ _ _ _) ?_
  repeat first | refine R1 ?_ | refine R2 fun _ => ?_
  refine f_splitB (fun h1 => ?_) fun h1 => ?_
  · repeat first | refine R1 ?_ | refine R2 fun _ => ?_
    refine sf_T rfl ?_
    repeat first | refine R1 ?_ | refine R2 fun _ => ?_
    refine sf_ret (rV ?_)
    simp [gridOk]; simp at h1; omega
  · have g1 : 1 ≤ g.wide ∧ g.wide ≤ 5 := by simpa using h1
    repeat first | refine R1 ?_ | refine R2 fun _ => ?_
    refine f_split (fun h2 => ?_) fun h2 => ?_
    · repeat first | refine R1 ?_ | refine R2 fun _ => ?_
      refine sf_T rfl ?_
      repeat first | refine R1 ?_ | refine R2 fun _ => ?_
      refine sf_ret (rV ?_)
      simp [gridOk, h2]
    · repeat first | refine R1 ?_ | refine R2 fun _ => ?_
      refine Xv (l6In_v _ _ _ _) ?_
      repeat first | refine R1 ?_ | refine R2 fun _ => ?_
      refine sf_cond (by rfl) (fun h3 => ?_) fun h3 => ?_
      · repeat first | refine R1 ?_ | refine R2 fun _ => ?_
        refine sf_ret (rV ?_)
        simp [gridOk]; simp at h3; omega
      · have g3 : 1 ≤ (g.cells.length : Int) / g.wide ∧ (g.cells.length : Int) / g.wide ≤ 5 := by simpa using h3
        repeat first | refine R1 ?_ | refine R2 fun _ => ?_
        refine sf_rd [1, 2] 3 g.cells.length 0 (fun k => (g.cells.take k).all cellOk = true) (by omega) rfl (fun k hk hi => ?_)
        repeat first | refine R1 ?_ | refine R2 fun _ => ?_
        refine sf_if (fun h4 => ?_) fun h4 => ?_
        · have hk4 : k < g.cells.length := by omega
          repeat first | refine R1 ?_ | refine R2 fun _ => ?_
          refine Xv (sCellOk_v _ (gt g.cells k)) ?_
          repeat first | refine R1 ?_ | refine R2 fun _ => ?_
          refine sf_cond (by rfl) (fun h5 => ?_) fun h5 => ?_
          · repeat first | refine R1 ?_ | refine R2 fun _ => ?_
            refine sf_ret (rV ?_)
            simp only [Bool.not_eq_true'] at h5
            simp [gridOk, all_false hk4 h5]
          · repeat first | refine R1 ?_ | refine R2 fun _ => ?_
            refine ⟨⟨hk4, ?_⟩, rfl, rfl, _, inferInstance⟩
            rw [all_take hk4, hi]; simpa using h5
        · refine sf_exit ?_
          repeat first | refine R1 ?_ | refine R2 fun _ => ?_
          refine sf_ret (rV ?_)
          rw [take_ge hk (by omega)] at hi
          simp [gridOk, hi, g1, g3]; omega
end Go.Proofs.YtcpkcmgjfcbnpaaGreat

/- The types of this translation, as the rules on operations ask for them. Printed by program. -/
import Derived.Test.YtcefbjpebgofjaaSmE
import Derived.Test.YtcefbjpebgofjaaProg
import Derived.KernelRfl
namespace Go.Proofs.Ytcefbjpebgofjaa
open Go Go.Sl

noncomputable def fs7 : Array Field := match Try.prog.underlying 7 with | some (.struct fs) => fs | _ => #[]
noncomputable def fs13 : Array Field := match Try.prog.underlying 13 with | some (.struct fs) => fs | _ => #[]
noncomputable def fs18 : Array Field := match Try.prog.underlying 18 with | some (.struct fs) => fs | _ => #[]
noncomputable def im20 : Array (String × TypeId) := match Try.prog.underlying 20 with | some (.interface ms) => ms | _ => #[]
noncomputable def fs23 : Array Field := match Try.prog.underlying 23 with | some (.struct fs) => fs | _ => #[]
noncomputable def fs27 : Array Field := match Try.prog.underlying 27 with | some (.struct fs) => fs | _ => #[]
noncomputable def fs32 : Array Field := match Try.prog.underlying 32 with | some (.struct fs) => fs | _ => #[]
noncomputable def fs44 : Array Field := match Try.prog.underlying 44 with | some (.struct fs) => fs | _ => #[]
noncomputable def fs55 : Array Field := match Try.prog.underlying 55 with | some (.struct fs) => fs | _ => #[]
noncomputable def fs67 : Array Field := match Try.prog.underlying 67 with | some (.struct fs) => fs | _ => #[]
noncomputable def fs69 : Array Field := match Try.prog.underlying 69 with | some (.struct fs) => fs | _ => #[]
noncomputable def fs76 : Array Field := match Try.prog.underlying 76 with | some (.struct fs) => fs | _ => #[]
noncomputable def fs82 : Array Field := match Try.prog.underlying 82 with | some (.struct fs) => fs | _ => #[]
noncomputable def fs86 : Array Field := match Try.prog.underlying 86 with | some (.struct fs) => fs | _ => #[]
noncomputable def fs92 : Array Field := match Try.prog.underlying 92 with | some (.struct fs) => fs | _ => #[]
noncomputable def im95 : Array (String × TypeId) := match Try.prog.underlying 95 with | some (.interface ms) => ms | _ => #[]
noncomputable def fs101 : Array Field := match Try.prog.underlying 101 with | some (.struct fs) => fs | _ => #[]
noncomputable def fs103 : Array Field := match Try.prog.underlying 103 with | some (.struct fs) => fs | _ => #[]
noncomputable def fs114 : Array Field := match Try.prog.underlying 114 with | some (.struct fs) => fs | _ => #[]
noncomputable def fs117 : Array Field := match Try.prog.underlying 117 with | some (.struct fs) => fs | _ => #[]
noncomputable def fs127 : Array Field := match Try.prog.underlying 127 with | some (.struct fs) => fs | _ => #[]
instance : Ty Try.prog 1 (.func #[] #[] false) 1 8 (.nilFunc) := ⟨by kernel_rfl, by kernel_rfl⟩
instance : Ty Try.prog 2 (.int .i64) 1 8 (.int .i64 0) := ⟨by kernel_rfl, by kernel_rfl⟩
instance : Ty Try.prog 3 (.int .i64) 1 8 (.int .i64 0) := ⟨by kernel_rfl, by kernel_rfl⟩
instance : Ty Try.prog 4 .bool 1 1 (.bool false) := ⟨by kernel_rfl, by kernel_rfl⟩
instance : Ty Try.prog 5 (.int .u8) 1 1 (.int .u8 0) := ⟨by kernel_rfl, by kernel_rfl⟩
instance : Ty Try.prog 6 (.int .u8) 1 1 (.int .u8 0) := ⟨by kernel_rfl, by kernel_rfl⟩
instance : Ty Try.prog 7 (.struct fs7) 4 24 (.agg #[(.int .i64 0), (.int .i64 0), (.bool false), (.int .u8 0)]) := ⟨by kernel_rfl, by kernel_rfl⟩
instance : Flds Try.prog 7 [⟨2, false, 0, 1⟩, ⟨3, false, 1, 1⟩, ⟨4, false, 2, 1⟩, ⟨6, false, 3, 1⟩] := ⟨by kernel_rfl⟩
instance : Ty Try.prog 8 (.struct fs7) 4 24 (.agg #[(.int .i64 0), (.int .i64 0), (.bool false), (.int .u8 0)]) := ⟨by kernel_rfl, by kernel_rfl⟩
instance : Flds Try.prog 8 [⟨2, false, 0, 1⟩, ⟨3, false, 1, 1⟩, ⟨4, false, 2, 1⟩, ⟨6, false, 3, 1⟩] := ⟨by kernel_rfl⟩
instance : Ty Try.prog 9 .string 1 16 (.string ⟨#[]⟩) := ⟨by kernel_rfl, by kernel_rfl⟩
instance : Ty Try.prog 10 .string 1 16 (.string ⟨#[]⟩) := ⟨by kernel_rfl, by kernel_rfl⟩
instance : Ty Try.prog 11 .string 1 16 (.string ⟨#[]⟩) := ⟨by kernel_rfl, by kernel_rfl⟩
instance : Ty Try.prog 12 (.int .u64) 1 8 (.int .u64 0) := ⟨by kernel_rfl, by kernel_rfl⟩
instance : Ty Try.prog 13 (.struct fs13) 2 24 (.agg #[(.string ⟨#[]⟩), (.int .u64 0)]) := ⟨by kernel_rfl, by kernel_rfl⟩
instance : Flds Try.prog 13 [⟨9, false, 0, 1⟩, ⟨12, false, 1, 1⟩] := ⟨by kernel_rfl⟩
instance : Ty Try.prog 14 (.struct fs13) 2 24 (.agg #[(.string ⟨#[]⟩), (.int .u64 0)]) := ⟨by kernel_rfl, by kernel_rfl⟩
instance : Flds Try.prog 14 [⟨9, false, 0, 1⟩, ⟨12, false, 1, 1⟩] := ⟨by kernel_rfl⟩
instance : Ty Try.prog 15 (.pointer 115) 1 8 (.pointer none) := ⟨by kernel_rfl, by kernel_rfl⟩
instance : Ty Try.prog 16 (.pointer 118) 1 8 (.pointer none) := ⟨by kernel_rfl, by kernel_rfl⟩
instance : Ty Try.prog 17 (.pointer 128) 1 8 (.pointer none) := ⟨by kernel_rfl, by kernel_rfl⟩
instance : Ty Try.prog 18 (.struct fs18) 1 8 (.agg #[(.pointer none)]) := ⟨by kernel_rfl, by kernel_rfl⟩
instance : Flds Try.prog 18 [⟨17, false, 0, 1⟩] := ⟨by kernel_rfl⟩
instance : Ty Try.prog 19 (.struct fs18) 1 8 (.agg #[(.pointer none)]) := ⟨by kernel_rfl, by kernel_rfl⟩
instance : Flds Try.prog 19 [⟨17, false, 0, 1⟩] := ⟨by kernel_rfl⟩
instance : Ty Try.prog 20 (.interface im20) 1 16 (.nilIface) := ⟨by kernel_rfl, by kernel_rfl⟩
instance : Ty Try.prog 21 (.int .i32) 1 4 (.int .i32 0) := ⟨by kernel_rfl, by kernel_rfl⟩
instance : Ty Try.prog 22 (.slice 79) 1 24 (.slice none 0 0) := ⟨by kernel_rfl, by kernel_rfl⟩
instance : Ty Try.prog 23 (.struct fs23) 2 32 (.agg #[(.int .i64 0), (.slice none 0 0)]) := ⟨by kernel_rfl, by kernel_rfl⟩
instance : Flds Try.prog 23 [⟨3, false, 0, 1⟩, ⟨22, false, 1, 1⟩] := ⟨by kernel_rfl⟩
instance : Ty Try.prog 24 (.struct fs23) 2 32 (.agg #[(.int .i64 0), (.slice none 0 0)]) := ⟨by kernel_rfl, by kernel_rfl⟩
instance : Flds Try.prog 24 [⟨3, false, 0, 1⟩, ⟨22, false, 1, 1⟩] := ⟨by kernel_rfl⟩
instance : Ty Try.prog 25 (.func #[24, 3] #[3] false) 1 8 (.nilFunc) := ⟨by kernel_rfl, by kernel_rfl⟩
instance : Ty Try.prog 26 (.slice 77) 1 24 (.slice none 0 0) := ⟨by kernel_rfl, by kernel_rfl⟩
instance : Ty Try.prog 27 (.struct fs27) 2 32 (.agg #[(.int .i64 0), (.slice none 0 0)]) := ⟨by kernel_rfl, by kernel_rfl⟩
instance : Flds Try.prog 27 [⟨3, false, 0, 1⟩, ⟨26, false, 1, 1⟩] := ⟨by kernel_rfl⟩
instance : Ty Try.prog 28 (.struct fs27) 2 32 (.agg #[(.int .i64 0), (.slice none 0 0)]) := ⟨by kernel_rfl, by kernel_rfl⟩
instance : Flds Try.prog 28 [⟨3, false, 0, 1⟩, ⟨26, false, 1, 1⟩] := ⟨by kernel_rfl⟩
instance : Ty Try.prog 29 (.slice 83) 1 24 (.slice none 0 0) := ⟨by kernel_rfl, by kernel_rfl⟩
instance : Ty Try.prog 30 (.slice 56) 1 24 (.slice none 0 0) := ⟨by kernel_rfl, by kernel_rfl⟩
instance : Ty Try.prog 31 (.slice 87) 1 24 (.slice none 0 0) := ⟨by kernel_rfl, by kernel_rfl⟩
instance : Ty Try.prog 32 (.struct fs32) 5 104 (.agg #[(.int .i64 0), (.slice none 0 0), (.slice none 0 0), (.slice none 0 0), (.slice none 0 0)]) := ⟨by kernel_rfl, by kernel_rfl⟩
instance : Flds Try.prog 32 [⟨28, true, 0, 2⟩, ⟨29, false, 2, 1⟩, ⟨30, false, 3, 1⟩, ⟨31, false, 4, 1⟩] := ⟨by kernel_rfl⟩
instance : Ty Try.prog 33 (.struct fs32) 5 104 (.agg #[(.int .i64 0), (.slice none 0 0), (.slice none 0 0), (.slice none 0 0), (.slice none 0 0)]) := ⟨by kernel_rfl, by kernel_rfl⟩
instance : Flds Try.prog 33 [⟨28, true, 0, 2⟩, ⟨29, false, 2, 1⟩, ⟨30, false, 3, 1⟩, ⟨31, false, 4, 1⟩] := ⟨by kernel_rfl⟩
instance : Ty Try.prog 35 (.func #[28, 3] #[33, 4] false) 1 8 (.nilFunc) := ⟨by kernel_rfl, by kernel_rfl⟩
instance : Ty Try.prog 36 (.func #[24] #[28] false) 1 8 (.nilFunc) := ⟨by kernel_rfl, by kernel_rfl⟩
instance : Ty Try.prog 37 (.func #[33, 33] #[4] false) 1 8 (.nilFunc) := ⟨by kernel_rfl, by kernel_rfl⟩
instance : Ty Try.prog 38 (.func #[28, 28] #[4] false) 1 8 (.nilFunc) := ⟨by kernel_rfl, by kernel_rfl⟩
instance : Ty Try.prog 39 (.func #[28, 3] #[3] false) 1 8 (.nilFunc) := ⟨by kernel_rfl, by kernel_rfl⟩
instance : Ty Try.prog 40 (.func #[33, 3] #[3] false) 1 8 (.nilFunc) := ⟨by kernel_rfl, by kernel_rfl⟩
instance : Ty Try.prog 41 (.func #[24, 3] #[4] false) 1 8 (.nilFunc) := ⟨by kernel_rfl, by kernel_rfl⟩
instance : Ty Try.prog 42 (.slice 70) 1 24 (.slice none 0 0) := ⟨by kernel_rfl, by kernel_rfl⟩
instance : Ty Try.prog 43 (.slice 93) 1 24 (.slice none 0 0) := ⟨by kernel_rfl, by kernel_rfl⟩
instance : Ty Try.prog 44 (.struct fs44) 7 152 (.agg #[(.int .i64 0), (.slice none 0 0), (.slice none 0 0), (.slice none 0 0), (.slice none 0 0), (.slice none 0 0), (.slice none 0 0)]) := ⟨by kernel_rfl, by kernel_rfl⟩
instance : Flds Try.prog 44 [⟨33, true, 0, 5⟩, ⟨42, false, 5, 1⟩, ⟨43, false, 6, 1⟩] := ⟨by kernel_rfl⟩
instance : Ty Try.prog 45 (.struct fs44) 7 152 (.agg #[(.int .i64 0), (.slice none 0 0), (.slice none 0 0), (.slice none 0 0), (.slice none 0 0), (.slice none 0 0), (.slice none 0 0)]) := ⟨by kernel_rfl, by kernel_rfl⟩
instance : Flds Try.prog 45 [⟨33, true, 0, 5⟩, ⟨42, false, 5, 1⟩, ⟨43, false, 6, 1⟩] := ⟨by kernel_rfl⟩
instance : Ty Try.prog 47 (.func #[28, 3] #[45, 4] false) 1 8 (.nilFunc) := ⟨by kernel_rfl, by kernel_rfl⟩
instance : Ty Try.prog 48 (.func #[45, 45] #[4] false) 1 8 (.nilFunc) := ⟨by kernel_rfl, by kernel_rfl⟩
instance : Ty Try.prog 49 (.func #[45, 3] #[3] false) 1 8 (.nilFunc) := ⟨by kernel_rfl, by kernel_rfl⟩
instance : Ty Try.prog 50 (.func #[22, 3] #[3] false) 1 8 (.nilFunc) := ⟨by kernel_rfl, by kernel_rfl⟩
instance : Ty Try.prog 51 (.func #[28] #[4] false) 1 8 (.nilFunc) := ⟨by kernel_rfl, by kernel_rfl⟩
instance : Ty Try.prog 52 (.func #[3, 3, 3] #[4] false) 1 8 (.nilFunc) := ⟨by kernel_rfl, by kernel_rfl⟩
instance : Ty Try.prog 53 (.func #[28] #[28] false) 1 8 (.nilFunc) := ⟨by kernel_rfl, by kernel_rfl⟩
instance : Ty Try.prog 54 (.slice 3) 1 24 (.slice none 0 0) := ⟨by kernel_rfl, by kernel_rfl⟩
instance : Ty Try.prog 55 (.struct fs55) 3 40 (.agg #[(.bool false), (.int .i64 0), (.slice none 0 0)]) := ⟨by kernel_rfl, by kernel_rfl⟩
instance : Flds Try.prog 55 [⟨4, false, 0, 1⟩, ⟨3, false, 1, 1⟩, ⟨54, false, 2, 1⟩] := ⟨by kernel_rfl⟩
instance : Ty Try.prog 56 (.struct fs55) 3 40 (.agg #[(.bool false), (.int .i64 0), (.slice none 0 0)]) := ⟨by kernel_rfl, by kernel_rfl⟩
instance : Flds Try.prog 56 [⟨4, false, 0, 1⟩, ⟨3, false, 1, 1⟩, ⟨54, false, 2, 1⟩] := ⟨by kernel_rfl⟩
instance : Ty Try.prog 57 (.func #[22] #[26] false) 1 8 (.nilFunc) := ⟨by kernel_rfl, by kernel_rfl⟩
instance : Ty Try.prog 58 (.func #[29, 29] #[4] false) 1 8 (.nilFunc) := ⟨by kernel_rfl, by kernel_rfl⟩
instance : Ty Try.prog 59 (.func #[30, 30] #[4] false) 1 8 (.nilFunc) := ⟨by kernel_rfl, by kernel_rfl⟩
instance : Ty Try.prog 60 (.func #[31, 31] #[4] false) 1 8 (.nilFunc) := ⟨by kernel_rfl, by kernel_rfl⟩
instance : Ty Try.prog 61 (.func #[26, 26] #[4] false) 1 8 (.nilFunc) := ⟨by kernel_rfl, by kernel_rfl⟩
instance : Ty Try.prog 62 (.func #[26, 3] #[3] false) 1 8 (.nilFunc) := ⟨by kernel_rfl, by kernel_rfl⟩
instance : Ty Try.prog 63 (.func #[29, 3] #[3] false) 1 8 (.nilFunc) := ⟨by kernel_rfl, by kernel_rfl⟩
instance : Ty Try.prog 64 (.func #[30, 3] #[3] false) 1 8 (.nilFunc) := ⟨by kernel_rfl, by kernel_rfl⟩
instance : Ty Try.prog 65 (.func #[31, 3] #[3] false) 1 8 (.nilFunc) := ⟨by kernel_rfl, by kernel_rfl⟩
instance : Ty Try.prog 66 (.slice 54) 1 24 (.slice none 0 0) := ⟨by kernel_rfl, by kernel_rfl⟩
instance : Ty Try.prog 67 (.struct fs67) 4 80 (.agg #[(.int .i64 0), (.slice none 0 0), (.slice none 0 0), (.slice none 0 0)]) := ⟨by kernel_rfl, by kernel_rfl⟩
instance : Flds Try.prog 67 [⟨28, true, 0, 2⟩, ⟨54, false, 2, 1⟩, ⟨66, false, 3, 1⟩] := ⟨by kernel_rfl⟩
instance : Ty Try.prog 68 (.struct fs67) 4 80 (.agg #[(.int .i64 0), (.slice none 0 0), (.slice none 0 0), (.slice none 0 0)]) := ⟨by kernel_rfl, by kernel_rfl⟩
instance : Flds Try.prog 68 [⟨28, true, 0, 2⟩, ⟨54, false, 2, 1⟩, ⟨66, false, 3, 1⟩] := ⟨by kernel_rfl⟩
instance : Ty Try.prog 69 (.struct fs69) 7 96 (.agg #[(.bool false), (.bool false), (.int .i64 0), (.int .i64 0), (.slice none 0 0), (.slice none 0 0), (.slice none 0 0)]) := ⟨by kernel_rfl, by kernel_rfl⟩
instance : Flds Try.prog 69 [⟨4, false, 0, 1⟩, ⟨4, false, 1, 1⟩, ⟨3, false, 2, 1⟩, ⟨68, true, 3, 4⟩] := ⟨by kernel_rfl⟩
instance : Ty Try.prog 70 (.struct fs69) 7 96 (.agg #[(.bool false), (.bool false), (.int .i64 0), (.int .i64 0), (.slice none 0 0), (.slice none 0 0), (.slice none 0 0)]) := ⟨by kernel_rfl, by kernel_rfl⟩
instance : Flds Try.prog 70 [⟨4, false, 0, 1⟩, ⟨4, false, 1, 1⟩, ⟨3, false, 2, 1⟩, ⟨68, true, 3, 4⟩] := ⟨by kernel_rfl⟩
instance : Ty Try.prog 71 (.func #[42, 42] #[4] false) 1 8 (.nilFunc) := ⟨by kernel_rfl, by kernel_rfl⟩
instance : Ty Try.prog 72 (.func #[43, 43] #[4] false) 1 8 (.nilFunc) := ⟨by kernel_rfl, by kernel_rfl⟩
instance : Ty Try.prog 73 (.func #[42, 3] #[3] false) 1 8 (.nilFunc) := ⟨by kernel_rfl, by kernel_rfl⟩
instance : Ty Try.prog 74 (.func #[43, 3] #[3] false) 1 8 (.nilFunc) := ⟨by kernel_rfl, by kernel_rfl⟩
instance : Ty Try.prog 75 (.func #[77] #[4] false) 1 8 (.nilFunc) := ⟨by kernel_rfl, by kernel_rfl⟩
instance : Ty Try.prog 76 (.struct fs76) 2 16 (.agg #[(.int .i64 0), (.int .i64 0)]) := ⟨by kernel_rfl, by kernel_rfl⟩
instance : Flds Try.prog 76 [⟨3, false, 0, 1⟩, ⟨3, false, 1, 1⟩] := ⟨by kernel_rfl⟩
instance : Ty Try.prog 77 (.struct fs76) 2 16 (.agg #[(.int .i64 0), (.int .i64 0)]) := ⟨by kernel_rfl, by kernel_rfl⟩
instance : Flds Try.prog 77 [⟨3, false, 0, 1⟩, ⟨3, false, 1, 1⟩] := ⟨by kernel_rfl⟩
instance : Ty Try.prog 78 (.func #[79] #[77] false) 1 8 (.nilFunc) := ⟨by kernel_rfl, by kernel_rfl⟩
instance : Ty Try.prog 79 (.struct fs76) 2 16 (.agg #[(.int .i64 0), (.int .i64 0)]) := ⟨by kernel_rfl, by kernel_rfl⟩
instance : Flds Try.prog 79 [⟨3, false, 0, 1⟩, ⟨3, false, 1, 1⟩] := ⟨by kernel_rfl⟩
instance : Ty Try.prog 80 (.func #[26] #[26] false) 1 8 (.nilFunc) := ⟨by kernel_rfl, by kernel_rfl⟩
instance : Ty Try.prog 81 (.func #[83, 83] #[4] false) 1 8 (.nilFunc) := ⟨by kernel_rfl, by kernel_rfl⟩
instance : Ty Try.prog 82 (.struct fs82) 3 24 (.agg #[(.int .i64 0), (.int .i64 0), (.int .i64 0)]) := ⟨by kernel_rfl, by kernel_rfl⟩
instance : Flds Try.prog 82 [⟨3, false, 0, 1⟩, ⟨77, true, 1, 2⟩] := ⟨by kernel_rfl⟩
instance : Ty Try.prog 83 (.struct fs82) 3 24 (.agg #[(.int .i64 0), (.int .i64 0), (.int .i64 0)]) := ⟨by kernel_rfl, by kernel_rfl⟩
instance : Flds Try.prog 83 [⟨3, false, 0, 1⟩, ⟨77, true, 1, 2⟩] := ⟨by kernel_rfl⟩
instance : Ty Try.prog 84 (.func #[56, 56] #[4] false) 1 8 (.nilFunc) := ⟨by kernel_rfl, by kernel_rfl⟩
instance : Ty Try.prog 85 (.func #[87, 87] #[4] false) 1 8 (.nilFunc) := ⟨by kernel_rfl, by kernel_rfl⟩
instance : Ty Try.prog 86 (.struct fs86) 2 32 (.agg #[(.int .i64 0), (.slice none 0 0)]) := ⟨by kernel_rfl, by kernel_rfl⟩
instance : Flds Try.prog 86 [⟨3, false, 0, 1⟩, ⟨54, false, 1, 1⟩] := ⟨by kernel_rfl⟩
instance : Ty Try.prog 87 (.struct fs86) 2 32 (.agg #[(.int .i64 0), (.slice none 0 0)]) := ⟨by kernel_rfl, by kernel_rfl⟩
instance : Flds Try.prog 87 [⟨3, false, 0, 1⟩, ⟨54, false, 1, 1⟩] := ⟨by kernel_rfl⟩
instance : Ty Try.prog 88 (.func #[77, 77] #[4] false) 1 8 (.nilFunc) := ⟨by kernel_rfl, by kernel_rfl⟩
instance : Ty Try.prog 89 (.func #[54, 3] #[3] false) 1 8 (.nilFunc) := ⟨by kernel_rfl, by kernel_rfl⟩
instance : Ty Try.prog 90 (.func #[70, 70] #[4] false) 1 8 (.nilFunc) := ⟨by kernel_rfl, by kernel_rfl⟩
instance : Ty Try.prog 91 (.func #[93, 93] #[4] false) 1 8 (.nilFunc) := ⟨by kernel_rfl, by kernel_rfl⟩
instance : Ty Try.prog 92 (.struct fs92) 10 112 (.agg #[(.int .i64 0), (.int .i64 0), (.int .i64 0), (.int .i64 0), (.int .i64 0), (.slice none 0 0), (.int .i64 0), (.int .i64 0), (.int .i64 0), (.slice none 0 0)]) := ⟨by kernel_rfl, by kernel_rfl⟩
instance : Flds Try.prog 92 [⟨3, false, 0, 1⟩, ⟨3, false, 1, 1⟩, ⟨3, false, 2, 1⟩, ⟨3, false, 3, 1⟩, ⟨28, true, 4, 2⟩, ⟨83, true, 6, 3⟩, ⟨54, false, 9, 1⟩] := ⟨by kernel_rfl⟩
instance : Ty Try.prog 93 (.struct fs92) 10 112 (.agg #[(.int .i64 0), (.int .i64 0), (.int .i64 0), (.int .i64 0), (.int .i64 0), (.slice none 0 0), (.int .i64 0), (.int .i64 0), (.int .i64 0), (.slice none 0 0)]) := ⟨by kernel_rfl, by kernel_rfl⟩
instance : Flds Try.prog 93 [⟨3, false, 0, 1⟩, ⟨3, false, 1, 1⟩, ⟨3, false, 2, 1⟩, ⟨3, false, 3, 1⟩, ⟨28, true, 4, 2⟩, ⟨83, true, 6, 3⟩, ⟨54, false, 9, 1⟩] := ⟨by kernel_rfl⟩
instance : Ty Try.prog 94 (.func #[66, 3] #[3] false) 1 8 (.nilFunc) := ⟨by kernel_rfl, by kernel_rfl⟩
instance : Ty Try.prog 95 (.interface im95) 1 16 (.nilIface) := ⟨by kernel_rfl, by kernel_rfl⟩
instance : Ty Try.prog 96 (.interface im95) 1 16 (.nilIface) := ⟨by kernel_rfl, by kernel_rfl⟩
instance : Ty Try.prog 98 (.func #[77] #[96, 4] false) 1 8 (.nilFunc) := ⟨by kernel_rfl, by kernel_rfl⟩
instance : Ty Try.prog 99 (.func #[54, 54] #[4] false) 1 8 (.nilFunc) := ⟨by kernel_rfl, by kernel_rfl⟩
instance : Ty Try.prog 100 (.func #[68, 68] #[4] false) 1 8 (.nilFunc) := ⟨by kernel_rfl, by kernel_rfl⟩
instance : Ty Try.prog 101 (.struct fs101) 1 8 (.agg #[(.int .i64 0)]) := ⟨by kernel_rfl, by kernel_rfl⟩
instance : Flds Try.prog 101 [⟨3, false, 0, 1⟩] := ⟨by kernel_rfl⟩
instance : Ty Try.prog 102 (.struct fs101) 1 8 (.agg #[(.int .i64 0)]) := ⟨by kernel_rfl, by kernel_rfl⟩
instance : Flds Try.prog 102 [⟨3, false, 0, 1⟩] := ⟨by kernel_rfl⟩
instance : Ty Try.prog 103 (.struct fs103) 0 0 (.agg #[]) := ⟨by kernel_rfl, by kernel_rfl⟩
instance : Flds Try.prog 103 [] := ⟨by kernel_rfl⟩
instance : Ty Try.prog 104 (.struct fs103) 0 0 (.agg #[]) := ⟨by kernel_rfl, by kernel_rfl⟩
instance : Flds Try.prog 104 [] := ⟨by kernel_rfl⟩
instance : Ty Try.prog 105 (.struct fs103) 0 0 (.agg #[]) := ⟨by kernel_rfl, by kernel_rfl⟩
instance : Flds Try.prog 105 [] := ⟨by kernel_rfl⟩
instance : Ty Try.prog 106 (.struct fs103) 0 0 (.agg #[]) := ⟨by kernel_rfl, by kernel_rfl⟩
instance : Flds Try.prog 106 [] := ⟨by kernel_rfl⟩
instance : Ty Try.prog 107 (.struct fs103) 0 0 (.agg #[]) := ⟨by kernel_rfl, by kernel_rfl⟩
instance : Flds Try.prog 107 [] := ⟨by kernel_rfl⟩
instance : Ty Try.prog 108 (.struct fs103) 0 0 (.agg #[]) := ⟨by kernel_rfl, by kernel_rfl⟩
instance : Flds Try.prog 108 [] := ⟨by kernel_rfl⟩
instance : Ty Try.prog 109 (.struct fs103) 0 0 (.agg #[]) := ⟨by kernel_rfl, by kernel_rfl⟩
instance : Flds Try.prog 109 [] := ⟨by kernel_rfl⟩
instance : Ty Try.prog 110 (.struct fs103) 0 0 (.agg #[]) := ⟨by kernel_rfl, by kernel_rfl⟩
instance : Flds Try.prog 110 [] := ⟨by kernel_rfl⟩
instance : Ty Try.prog 111 (.array 7 96) 7 112 (.agg #[.nilIface, .nilIface, .nilIface, .nilIface, .nilIface, .nilIface, .nilIface]) := ⟨by kernel_rfl, by kernel_rfl⟩
instance : Ty Try.prog 112 (.func #[66, 66] #[4] false) 1 8 (.nilFunc) := ⟨by kernel_rfl, by kernel_rfl⟩
instance : Ty Try.prog 113 (.func #[] #[9] false) 1 8 (.nilFunc) := ⟨by kernel_rfl, by kernel_rfl⟩
instance : Ty Try.prog 114 (.struct fs114) 4 40 (.agg #[(.pointer none), (.pointer none), (.pointer none), (.string ⟨#[]⟩)]) := ⟨by kernel_rfl, by kernel_rfl⟩
instance : Flds Try.prog 114 [⟨17, false, 0, 1⟩, ⟨17, false, 1, 1⟩, ⟨17, false, 2, 1⟩, ⟨9, false, 3, 1⟩] := ⟨by kernel_rfl⟩
instance : Ty Try.prog 115 (.struct fs114) 4 40 (.agg #[(.pointer none), (.pointer none), (.pointer none), (.string ⟨#[]⟩)]) := ⟨by kernel_rfl, by kernel_rfl⟩
instance : Flds Try.prog 115 [⟨17, false, 0, 1⟩, ⟨17, false, 1, 1⟩, ⟨17, false, 2, 1⟩, ⟨9, false, 3, 1⟩] := ⟨by kernel_rfl⟩
instance : Ty Try.prog 116 (.array 0 16) 0 0 (.agg #[]) := ⟨by kernel_rfl, by kernel_rfl⟩
instance : Ty Try.prog 117 (.struct fs117) 0 0 (.agg #[]) := ⟨by kernel_rfl, by kernel_rfl⟩
instance : Flds Try.prog 117 [⟨116, true, 0, 0⟩] := ⟨by kernel_rfl⟩
instance : Ty Try.prog 118 (.struct fs117) 0 0 (.agg #[]) := ⟨by kernel_rfl, by kernel_rfl⟩
instance : Flds Try.prog 118 [⟨116, true, 0, 0⟩] := ⟨by kernel_rfl⟩
instance : Ty Try.prog 119 (.func #[] #[3] false) 1 8 (.nilFunc) := ⟨by kernel_rfl, by kernel_rfl⟩
instance : Ty Try.prog 120 (.int .u32) 1 4 (.int .u32 0) := ⟨by kernel_rfl, by kernel_rfl⟩
instance : Ty Try.prog 121 (.int .u8) 1 1 (.int .u8 0) := ⟨by kernel_rfl, by kernel_rfl⟩
instance : Ty Try.prog 122 (.int .u8) 1 1 (.int .u8 0) := ⟨by kernel_rfl, by kernel_rfl⟩
instance : Ty Try.prog 123 (.func #[129, 129] #[4] false) 1 8 (.nilFunc) := ⟨by kernel_rfl, by kernel_rfl⟩
instance : Ty Try.prog 124 (.pointer 5) 1 8 (.pointer none) := ⟨by kernel_rfl, by kernel_rfl⟩
instance : Ty Try.prog 125 (.int .i32) 1 4 (.int .i32 0) := ⟨by kernel_rfl, by kernel_rfl⟩
instance : Ty Try.prog 126 (.int .i32) 1 4 (.int .i32 0) := ⟨by kernel_rfl, by kernel_rfl⟩
instance : Ty Try.prog 127 (.struct fs127) 11 48 (.agg #[(.int .u64 0), (.int .u64 0), (.int .u32 0), (.int .u8 0), (.int .u8 0), (.int .u8 0), (.int .u8 0), .nilFunc, (.pointer none), (.int .i32 0), (.int .i32 0)]) := ⟨by kernel_rfl, by kernel_rfl⟩
instance : Flds Try.prog 127 [⟨12, false, 0, 1⟩, ⟨12, false, 1, 1⟩, ⟨120, false, 2, 1⟩, ⟨121, false, 3, 1⟩, ⟨5, false, 4, 1⟩, ⟨5, false, 5, 1⟩, ⟨122, false, 6, 1⟩, ⟨123, false, 7, 1⟩, ⟨124, false, 8, 1⟩, ⟨125, false, 9, 1⟩, ⟨126, false, 10, 1⟩] := ⟨by kernel_rfl⟩
instance : Ty Try.prog 128 (.struct fs127) 11 48 (.agg #[(.int .u64 0), (.int .u64 0), (.int .u32 0), (.int .u8 0), (.int .u8 0), (.int .u8 0), (.int .u8 0), .nilFunc, (.pointer none), (.int .i32 0), (.int .i32 0)]) := ⟨by kernel_rfl, by kernel_rfl⟩
instance : Flds Try.prog 128 [⟨12, false, 0, 1⟩, ⟨12, false, 1, 1⟩, ⟨120, false, 2, 1⟩, ⟨121, false, 3, 1⟩, ⟨5, false, 4, 1⟩, ⟨5, false, 5, 1⟩, ⟨122, false, 6, 1⟩, ⟨123, false, 7, 1⟩, ⟨124, false, 8, 1⟩, ⟨125, false, 9, 1⟩, ⟨126, false, 10, 1⟩] := ⟨by kernel_rfl⟩
instance : Fun Try.prog 3 := ⟨by kernel_rfl⟩ -- loop.example/lucarne/laws.FnExactKeepNew
instance : Fun Try.prog 4 := ⟨by kernel_rfl⟩ -- loop.example/lucarne/laws.FnExactWorldNew
instance : Fun Try.prog 5 := ⟨by kernel_rfl⟩ -- loop.example/lucarne/laws.szGrid
instance : Fun Try.prog 6 := ⟨by kernel_rfl⟩ -- loop.example/lucarne/spec.KeepNew
instance : Fun Try.prog 7 := ⟨by kernel_rfl⟩ -- loop.example/lucarne/laws.toGrid
instance : Fun Try.prog 8 := ⟨by kernel_rfl⟩ -- loop.example/lucarne/impl.KeepNew
instance : Fun Try.prog 9 := ⟨by kernel_rfl⟩ -- loop.example/lucarne/laws.eqKeeper
instance : Fun Try.prog 10 := ⟨by kernel_rfl⟩ -- loop.example/lucarne/laws.eqGrid
instance : Fun Try.prog 11 := ⟨by kernel_rfl⟩ -- loop.example/lucarne/laws.markGrid
instance : Fun Try.prog 12 := ⟨by kernel_rfl⟩ -- loop.example/lucarne/laws.markKeeper
instance : Fun Try.prog 13 := ⟨by kernel_rfl⟩ -- loop.example/lucarne/laws.heldKeeper
instance : Fun Try.prog 14 := ⟨by kernel_rfl⟩ -- loop.example/lucarne/spec.WorldNew
instance : Fun Try.prog 15 := ⟨by kernel_rfl⟩ -- loop.example/lucarne/impl.WorldNew
instance : Fun Try.prog 16 := ⟨by kernel_rfl⟩ -- loop.example/lucarne/laws.eqWorld
instance : Fun Try.prog 17 := ⟨by kernel_rfl⟩ -- loop.example/lucarne/laws.markWorld
instance : Fun Try.prog 18 := ⟨by kernel_rfl⟩ -- loop.example/lucarne/laws.heldWorld
instance : Fun Try.prog 19 := ⟨by kernel_rfl⟩ -- loop.example/lucarne/laws.szCellS
instance : Fun Try.prog 20 := ⟨by kernel_rfl⟩ -- loop.example/lucarne/spec.GridOk
instance : Fun Try.prog 21 := ⟨by kernel_rfl⟩ -- loop.example/lucarne/spec.l6In
instance : Fun Try.prog 22 := ⟨by kernel_rfl⟩ -- loop.example/lucarne/spec.l1Copy
instance : Fun Try.prog 23 := ⟨by kernel_rfl⟩ -- loop.example/lucarne/laws.toCellS
instance : Fun Try.prog 24 := ⟨by kernel_rfl⟩ -- loop.example/lucarne/impl.GridOk
instance : Fun Try.prog 25 := ⟨by kernel_rfl⟩ -- loop.example/lucarne/impl.gridCopy
instance : Fun Try.prog 26 := ⟨by kernel_rfl⟩ -- loop.example/lucarne/laws.eqEditS
instance : Fun Try.prog 27 := ⟨by kernel_rfl⟩ -- loop.example/lucarne/laws.eqPartS
instance : Fun Try.prog 28 := ⟨by kernel_rfl⟩ -- loop.example/lucarne/laws.eqShownS
instance : Fun Try.prog 29 := ⟨by kernel_rfl⟩ -- loop.example/lucarne/laws.eqCellS
instance : Fun Try.prog 30 := ⟨by kernel_rfl⟩ -- loop.example/lucarne/laws.markCellS
instance : Fun Try.prog 31 := ⟨by kernel_rfl⟩ -- loop.example/lucarne/laws.markEditS
instance : Fun Try.prog 32 := ⟨by kernel_rfl⟩ -- loop.example/lucarne/laws.markPartS
instance : Fun Try.prog 33 := ⟨by kernel_rfl⟩ -- loop.example/lucarne/laws.markShownS
instance : Fun Try.prog 34 := ⟨by kernel_rfl⟩ -- loop.example/lucarne/laws.heldGrid
instance : Fun Try.prog 35 := ⟨by kernel_rfl⟩ -- loop.example/lucarne/laws.heldEditS
instance : Fun Try.prog 36 := ⟨by kernel_rfl⟩ -- loop.example/lucarne/laws.heldPartS
instance : Fun Try.prog 37 := ⟨by kernel_rfl⟩ -- loop.example/lucarne/laws.heldShownS
instance : Fun Try.prog 38 := ⟨by kernel_rfl⟩ -- loop.example/lucarne/laws.eqPainterS
instance : Fun Try.prog 39 := ⟨by kernel_rfl⟩ -- loop.example/lucarne/laws.eqWordS
instance : Fun Try.prog 40 := ⟨by kernel_rfl⟩ -- loop.example/lucarne/laws.markPainterS
instance : Fun Try.prog 41 := ⟨by kernel_rfl⟩ -- loop.example/lucarne/laws.markWordS
instance : Fun Try.prog 42 := ⟨by kernel_rfl⟩ -- loop.example/lucarne/laws.heldPainterS
instance : Fun Try.prog 43 := ⟨by kernel_rfl⟩ -- loop.example/lucarne/laws.heldWordS
instance : Fun Try.prog 44 := ⟨by kernel_rfl⟩ -- loop.example/lucarne/spec.CellOk
instance : Fun Try.prog 45 := ⟨by kernel_rfl⟩ -- loop.example/lucarne/laws.toCell
instance : Fun Try.prog 46 := ⟨by kernel_rfl⟩ -- loop.example/lucarne/impl.CellOk
instance : Fun Try.prog 47 := ⟨by kernel_rfl⟩ -- slices.Clone[[]loop.example/lucarne/impl.Cell,loop.example/lucarne/impl.Cell]
instance : Fun Try.prog 48 := ⟨by kernel_rfl⟩ -- loop.example/lucarne/laws.eqEdit
instance : Fun Try.prog 49 := ⟨by kernel_rfl⟩ -- loop.example/lucarne/laws.eqPart
instance : Fun Try.prog 50 := ⟨by kernel_rfl⟩ -- loop.example/lucarne/laws.eqShown
instance : Fun Try.prog 51 := ⟨by kernel_rfl⟩ -- loop.example/lucarne/laws.eqCell
instance : Fun Try.prog 52 := ⟨by kernel_rfl⟩ -- loop.example/lucarne/laws.markIntS
instance : Fun Try.prog 53 := ⟨by kernel_rfl⟩ -- loop.example/lucarne/laws.heldCellS
instance : Fun Try.prog 54 := ⟨by kernel_rfl⟩ -- loop.example/lucarne/laws.heldIntS
instance : Fun Try.prog 55 := ⟨by kernel_rfl⟩ -- loop.example/lucarne/laws.eqPainter
instance : Fun Try.prog 56 := ⟨by kernel_rfl⟩ -- loop.example/lucarne/laws.eqWord
instance : Fun Try.prog 57 := ⟨by kernel_rfl⟩ -- loop.example/lucarne/laws.markIntSS
instance : Fun Try.prog 58 := ⟨by kernel_rfl⟩ -- loop.example/lucarne/laws.heldIntSS
instance : Fun Try.prog 59 := ⟨by kernel_rfl⟩ -- loop.example/lucarne/impl.cellTyped
instance : Fun Try.prog 60 := ⟨by kernel_rfl⟩ -- loop.example/lucarne/laws.eqIntS
instance : Fun Try.prog 61 := ⟨by kernel_rfl⟩ -- loop.example/lucarne/laws.eqScene
instance : Fun Try.prog 62 := ⟨by kernel_rfl⟩ -- loop.example/lucarne/laws.eqIntSS
instance : Mixed Try.prog := ⟨by kernel_rfl⟩
end Go.Proofs.Ytcefbjpebgofjaa

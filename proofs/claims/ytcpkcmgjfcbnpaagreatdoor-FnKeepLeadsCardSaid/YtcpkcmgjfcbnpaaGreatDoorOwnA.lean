/- Walks of the seat: T GA ER. -/
import Derived.Test.YtcpkcmgjfcbnpaaGreatDoorSmE
import Derived.Test.YtcpkcmgjfcbnpaaGreatDoorProg
import Derived.KernelRfl
import Derived.Test.YtcpkcmgjfcbnpaaGreatDoorSmH
import Derived.Test.YtcpkcmgjfcbnpaaGreatDoorLibH
import Derived.Test.YtcpkcmgjfcbnpaaGreatDoorSmR
set_option linter.unusedVariables false
set_option linter.unusedSimpArgs false
set_option linter.unusedSectionVars false
namespace Go.Proofs.YtcpkcmgjfcbnpaaGreatDoor
open Go Go.Sl
noncomputable def fs7:Array Field:=match Tryz.prog.underlying 7 with | some (.struct fs)=>fs | _=>#[]
noncomputable def im20:Array (String × TypeId):=match Tryz.prog.underlying 20 with | some (.interface ms)=>ms | _=>#[]
noncomputable def fs24:Array Field:=match Tryz.prog.underlying 24 with | some (.struct fs)=>fs | _=>#[]
noncomputable def fs29:Array Field:=match Tryz.prog.underlying 29 with | some (.struct fs)=>fs | _=>#[]
noncomputable def fs34:Array Field:=match Tryz.prog.underlying 34 with | some (.struct fs)=>fs | _=>#[]
noncomputable def fs36:Array Field:=match Tryz.prog.underlying 36 with | some (.struct fs)=>fs | _=>#[]
noncomputable def fs45:Array Field:=match Tryz.prog.underlying 45 with | some (.struct fs)=>fs | _=>#[]
noncomputable def fs47:Array Field:=match Tryz.prog.underlying 47 with | some (.struct fs)=>fs | _=>#[]
noncomputable def fs49:Array Field:=match Tryz.prog.underlying 49 with | some (.struct fs)=>fs | _=>#[]
noncomputable def fs67:Array Field:=match Tryz.prog.underlying 67 with | some (.struct fs)=>fs | _=>#[]
noncomputable def fs69:Array Field:=match Tryz.prog.underlying 69 with | some (.struct fs)=>fs | _=>#[]
noncomputable def fs79:Array Field:=match Tryz.prog.underlying 79 with | some (.struct fs)=>fs | _=>#[]
noncomputable def im89:Array (String × TypeId):=match Tryz.prog.underlying 89 with | some (.interface ms)=>ms | _=>#[]
noncomputable def fs113:Array Field:=match Tryz.prog.underlying 113 with | some (.struct fs)=>fs | _=>#[]
noncomputable def fs116:Array Field:=match Tryz.prog.underlying 116 with | some (.struct fs)=>fs | _=>#[]
noncomputable def fs128:Array Field:=match Tryz.prog.underlying 128 with | some (.struct fs)=>fs | _=>#[]
noncomputable def fs130:Array Field:=match Tryz.prog.underlying 130 with | some (.struct fs)=>fs | _=>#[]
noncomputable def fs135:Array Field:=match Tryz.prog.underlying 135 with | some (.struct fs)=>fs | _=>#[]
noncomputable def im140:Array (String × TypeId):=match Tryz.prog.underlying 140 with | some (.interface ms)=>ms | _=>#[]
noncomputable def fs150:Array Field:=match Tryz.prog.underlying 150 with | some (.struct fs)=>fs | _=>#[]
noncomputable def fs154:Array Field:=match Tryz.prog.underlying 154 with | some (.struct fs)=>fs | _=>#[]
noncomputable def fs156:Array Field:=match Tryz.prog.underlying 156 with | some (.struct fs)=>fs | _=>#[]
noncomputable def fs160:Array Field:=match Tryz.prog.underlying 160 with | some (.struct fs)=>fs | _=>#[]
noncomputable def fs168:Array Field:=match Tryz.prog.underlying 168 with | some (.struct fs)=>fs | _=>#[]
noncomputable def fs175:Array Field:=match Tryz.prog.underlying 175 with | some (.struct fs)=>fs | _=>#[]
noncomputable def fs181:Array Field:=match Tryz.prog.underlying 181 with | some (.struct fs)=>fs | _=>#[]
noncomputable def im184:Array (String × TypeId):=match Tryz.prog.underlying 184 with | some (.interface ms)=>ms | _=>#[]
noncomputable def fs196:Array Field:=match Tryz.prog.underlying 196 with | some (.struct fs)=>fs | _=>#[]
noncomputable def fs204:Array Field:=match Tryz.prog.underlying 204 with | some (.struct fs)=>fs | _=>#[]
noncomputable def fs207:Array Field:=match Tryz.prog.underlying 207 with | some (.struct fs)=>fs | _=>#[]
noncomputable def fs210:Array Field:=match Tryz.prog.underlying 210 with | some (.struct fs)=>fs | _=>#[]
noncomputable def fs267:Array Field:=match Tryz.prog.underlying 267 with | some (.struct fs)=>fs | _=>#[]
instance:Ty Tryz.prog 3 (.int .i64) 1 8 (.int .i64 0):=⟨by kernel_rfl,by kernel_rfl⟩
instance:Ty Tryz.prog 4 .bool 1 1 (.bool false):=⟨by kernel_rfl,by kernel_rfl⟩
instance:Ty Tryz.prog 5 (.int .u8) 1 1 (.int .u8 0):=⟨by kernel_rfl,by kernel_rfl⟩
instance:Ty Tryz.prog 9 .string 1 16 (.string ⟨#[]⟩):=⟨by kernel_rfl,by kernel_rfl⟩
instance:Ty Tryz.prog 20 (.interface im20) 1 16 (.nilIface):=⟨by kernel_rfl,by kernel_rfl⟩
instance:Ty Tryz.prog 22 (.slice 5) 1 24 (.slice none 0 0):=⟨by kernel_rfl,by kernel_rfl⟩
instance:Ty Tryz.prog 23 (.slice 46) 1 24 (.slice none 0 0):=⟨by kernel_rfl,by kernel_rfl⟩
instance:Ty Tryz.prog 25 (.struct fs24) 2 32 (.agg #[(.int .i64 0),(.slice none 0 0)]):=⟨by kernel_rfl,by kernel_rfl⟩
instance:Flds Tryz.prog 25 [⟨3,false,0,1⟩,⟨23,false,1,1⟩]:=⟨by kernel_rfl⟩
instance:Ty Tryz.prog 26 (.slice 48) 1 24 (.slice none 0 0):=⟨by kernel_rfl,by kernel_rfl⟩
instance:Ty Tryz.prog 27 (.slice 35) 1 24 (.slice none 0 0):=⟨by kernel_rfl,by kernel_rfl⟩
instance:Ty Tryz.prog 28 (.slice 37) 1 24 (.slice none 0 0):=⟨by kernel_rfl,by kernel_rfl⟩
instance:Ty Tryz.prog 30 (.struct fs29) 5 104 (.agg #[(.int .i64 0),(.slice none 0 0),(.slice none 0 0),(.slice none 0 0),(.slice none 0 0)]):=⟨by kernel_rfl,by kernel_rfl⟩
instance:Flds Tryz.prog 30 [⟨25,true,0,2⟩,⟨26,false,2,1⟩,⟨27,false,3,1⟩,⟨28,false,4,1⟩]:=⟨by kernel_rfl⟩
instance:Ty Tryz.prog 33 (.slice 3) 1 24 (.slice none 0 0):=⟨by kernel_rfl,by kernel_rfl⟩
instance:Ty Tryz.prog 35 (.struct fs34) 3 40 (.agg #[(.bool false),(.int .i64 0),(.slice none 0 0)]):=⟨by kernel_rfl,by kernel_rfl⟩
instance:Flds Tryz.prog 35 [⟨4,false,0,1⟩,⟨3,false,1,1⟩,⟨33,false,2,1⟩]:=⟨by kernel_rfl⟩
instance:Ty Tryz.prog 37 (.struct fs36) 2 32 (.agg #[(.int .i64 0),(.slice none 0 0)]):=⟨by kernel_rfl,by kernel_rfl⟩
instance:Flds Tryz.prog 37 [⟨3,false,0,1⟩,⟨33,false,1,1⟩]:=⟨by kernel_rfl⟩
instance:Ty Tryz.prog 46 (.struct fs45) 2 16 (.agg #[(.int .i64 0),(.int .i64 0)]):=⟨by kernel_rfl,by kernel_rfl⟩
instance:Flds Tryz.prog 46 [⟨3,false,0,1⟩,⟨3,false,1,1⟩]:=⟨by kernel_rfl⟩
instance:Ty Tryz.prog 48 (.struct fs47) 3 24 (.agg #[(.int .i64 0),(.int .i64 0),(.int .i64 0)]):=⟨by kernel_rfl,by kernel_rfl⟩
instance:Flds Tryz.prog 48 [⟨3,false,0,1⟩,⟨46,true,1,2⟩]:=⟨by kernel_rfl⟩
instance:Ty Tryz.prog 50 (.struct fs49) 10 112 (.agg #[(.int .i64 0),(.int .i64 0),(.int .i64 0),(.int .i64 0),(.int .i64 0),(.slice none 0 0),(.int .i64 0),(.int .i64 0),(.int .i64 0),(.slice none 0 0)]):=⟨by kernel_rfl,by kernel_rfl⟩
instance:Flds Tryz.prog 50 [⟨3,false,0,1⟩,⟨3,false,1,1⟩,⟨3,false,2,1⟩,⟨3,false,3,1⟩,⟨25,true,4,2⟩,⟨48,true,6,3⟩,⟨33,false,9,1⟩]:=⟨by kernel_rfl⟩
instance:Ty Tryz.prog 66 (.slice 33) 1 24 (.slice none 0 0):=⟨by kernel_rfl,by kernel_rfl⟩
instance:Ty Tryz.prog 68 (.struct fs67) 4 80 (.agg #[(.int .i64 0),(.slice none 0 0),(.slice none 0 0),(.slice none 0 0)]):=⟨by kernel_rfl,by kernel_rfl⟩
instance:Flds Tryz.prog 68 [⟨25,true,0,2⟩,⟨33,false,2,1⟩,⟨66,false,3,1⟩]:=⟨by kernel_rfl⟩
instance:Ty Tryz.prog 70 (.struct fs69) 7 96 (.agg #[(.bool false),(.bool false),(.int .i64 0),(.int .i64 0),(.slice none 0 0),(.slice none 0 0),(.slice none 0 0)]):=⟨by kernel_rfl,by kernel_rfl⟩
instance:Flds Tryz.prog 70 [⟨4,false,0,1⟩,⟨4,false,1,1⟩,⟨3,false,2,1⟩,⟨68,true,3,4⟩]:=⟨by kernel_rfl⟩
instance:Ty Tryz.prog 77 (.slice 70) 1 24 (.slice none 0 0):=⟨by kernel_rfl,by kernel_rfl⟩
instance:Ty Tryz.prog 78 (.slice 50) 1 24 (.slice none 0 0):=⟨by kernel_rfl,by kernel_rfl⟩
instance:Ty Tryz.prog 80 (.struct fs79) 7 152 (.agg #[(.int .i64 0),(.slice none 0 0),(.slice none 0 0),(.slice none 0 0),(.slice none 0 0),(.slice none 0 0),(.slice none 0 0)]):=⟨by kernel_rfl,by kernel_rfl⟩
instance:Flds Tryz.prog 80 [⟨30,true,0,5⟩,⟨77,false,5,1⟩,⟨78,false,6,1⟩]:=⟨by kernel_rfl⟩
instance:Ty Tryz.prog 90 (.interface im89) 1 16 (.nilIface):=⟨by kernel_rfl,by kernel_rfl⟩
instance:Ty Tryz.prog 97 (.func #[3] #[3] false) 1 8 (.nilFunc):=⟨by kernel_rfl,by kernel_rfl⟩
instance:Ty Tryz.prog 111 (.slice 155) 1 24 (.slice none 0 0):=⟨by kernel_rfl,by kernel_rfl⟩
instance:Ty Tryz.prog 112 (.slice 117) 1 24 (.slice none 0 0):=⟨by kernel_rfl,by kernel_rfl⟩
instance:Ty Tryz.prog 114 (.struct fs113) 2 48 (.agg #[(.slice none 0 0),(.slice none 0 0)]):=⟨by kernel_rfl,by kernel_rfl⟩
instance:Flds Tryz.prog 114 [⟨111,false,0,1⟩,⟨112,false,1,1⟩]:=⟨by kernel_rfl⟩
instance:Ty Tryz.prog 117 (.struct fs116) 3 24 (.agg #[(.int .i64 0),(.int .i64 0),(.int .i64 0)]):=⟨by kernel_rfl,by kernel_rfl⟩
instance:Flds Tryz.prog 117 [⟨3,false,0,1⟩,⟨3,false,1,1⟩,⟨3,false,2,1⟩]:=⟨by kernel_rfl⟩
instance:Ty Tryz.prog 125 (.slice 176) 1 24 (.slice none 0 0):=⟨by kernel_rfl,by kernel_rfl⟩
instance:Ty Tryz.prog 129 (.struct fs128) 2 32 (.agg #[(.slice none 0 0),(.int .i64 0)]):=⟨by kernel_rfl,by kernel_rfl⟩
instance:Flds Tryz.prog 129 [⟨22,false,0,1⟩,⟨3,false,1,1⟩]:=⟨by kernel_rfl⟩
instance:Ty Tryz.prog 131 (.struct fs130) 1 16 (.agg #[(.string ⟨#[]⟩)]):=⟨by kernel_rfl,by kernel_rfl⟩
instance:Flds Tryz.prog 131 [⟨9,false,0,1⟩]:=⟨by kernel_rfl⟩
instance:Ty Tryz.prog 133 (.pointer 131) 1 8 (.pointer none):=⟨by kernel_rfl,by kernel_rfl⟩
instance:Ty Tryz.prog 136 (.struct fs135) 4 80 (.agg #[(.int .i64 0),(.slice none 0 0),(.slice none 0 0),(.slice none 0 0)]):=⟨by kernel_rfl,by kernel_rfl⟩
instance:Flds Tryz.prog 136 [⟨25,true,0,2⟩,⟨111,false,2,1⟩,⟨112,false,3,1⟩]:=⟨by kernel_rfl⟩
instance:Ty Tryz.prog 141 (.interface im140) 1 16 (.nilIface):=⟨by kernel_rfl,by kernel_rfl⟩
instance:Ty Tryz.prog 151 (.struct fs150) 2 16 (.agg #[(.int .i64 0),(.int .i64 0)]):=⟨by kernel_rfl,by kernel_rfl⟩
instance:Flds Tryz.prog 151 [⟨3,false,0,1⟩,⟨3,false,1,1⟩]:=⟨by kernel_rfl⟩
instance:Ty Tryz.prog 155 (.struct fs154) 3 24 (.agg #[(.int .i64 0),(.int .i64 0),(.int .i64 0)]):=⟨by kernel_rfl,by kernel_rfl⟩
instance:Flds Tryz.prog 155 [⟨3,false,0,1⟩,⟨3,false,1,1⟩,⟨3,false,2,1⟩]:=⟨by kernel_rfl⟩
instance:Ty Tryz.prog 157 (.struct fs156) 4 32 (.agg #[(.int .i64 0),(.int .i64 0),(.int .i64 0),(.int .i64 0)]):=⟨by kernel_rfl,by kernel_rfl⟩
instance:Flds Tryz.prog 157 [⟨155,true,0,3⟩,⟨3,false,3,1⟩]:=⟨by kernel_rfl⟩
instance:Ty Tryz.prog 158 (.slice 157) 1 24 (.slice none 0 0):=⟨by kernel_rfl,by kernel_rfl⟩
instance:Ty Tryz.prog 161 (.struct fs160) 4 32 (.agg #[(.int .i64 0),(.int .i64 0),(.int .i64 0),(.int .i64 0)]):=⟨by kernel_rfl,by kernel_rfl⟩
instance:Flds Tryz.prog 161 [⟨3,false,0,1⟩,⟨3,false,1,1⟩,⟨3,false,2,1⟩,⟨3,false,3,1⟩]:=⟨by kernel_rfl⟩
instance:Ty Tryz.prog 169 (.struct fs168) 7 96 (.agg #[(.bool false),(.bool false),(.int .i64 0),(.int .i64 0),(.slice none 0 0),(.slice none 0 0),(.slice none 0 0)]):=⟨by kernel_rfl,by kernel_rfl⟩
instance:Flds Tryz.prog 169 [⟨70,true,0,7⟩]:=⟨by kernel_rfl⟩
instance:Ty Tryz.prog 170 (.func #[50] #[70] false) 1 8 (.nilFunc):=⟨by kernel_rfl,by kernel_rfl⟩
instance:Ty Tryz.prog 171 (.map 3 170) 1 8 (.map none):=⟨by kernel_rfl,by kernel_rfl⟩
instance:Ty Tryz.prog 176 (.struct fs175) 5 40 (.agg #[(.int .i64 0),(.int .i64 0),(.int .i64 0),(.int .i64 0),(.int .i64 0)]):=⟨by kernel_rfl,by kernel_rfl⟩
instance:Flds Tryz.prog 176 [⟨3,false,0,1⟩,⟨3,false,1,1⟩,⟨48,true,2,3⟩]:=⟨by kernel_rfl⟩
instance:Ty Tryz.prog 182 (.struct fs181) 3 24 (.agg #[(.pointer none),(.pointer none),(.int .u64 0)]):=⟨by kernel_rfl,by kernel_rfl⟩
instance:Ty Tryz.prog 185 (.interface im184) 1 16 (.nilIface):=⟨by kernel_rfl,by kernel_rfl⟩
instance:Ty Tryz.prog 193 (.array 5 3) 5 40 (.agg #[(.int .i64 0),(.int .i64 0),(.int .i64 0),(.int .i64 0),(.int .i64 0)]):=⟨by kernel_rfl,by kernel_rfl⟩
instance:Ty Tryz.prog 195 (.chan .both 208) 1 8 (.chan none):=⟨by kernel_rfl,by kernel_rfl⟩
instance:Ty Tryz.prog 200 (.int .u64) 1 8 (.int .u64 0):=⟨by kernel_rfl,by kernel_rfl⟩
instance:Ty Tryz.prog 205 (.struct fs204) 2 16 (.agg #[(.int .u64 0),(.int .u32 0)]):=⟨by kernel_rfl,by kernel_rfl⟩
instance:Ty Tryz.prog 208 (.struct fs207) 2 32 (.agg #[(.int .i64 0),(.slice none 0 0)]):=⟨by kernel_rfl,by kernel_rfl⟩
instance:Flds Tryz.prog 208 [⟨3,false,0,1⟩,⟨33,false,1,1⟩]:=⟨by kernel_rfl⟩
instance:Ty Tryz.prog 209 (.array 4 33) 4 96 (.agg #[(.slice none 0 0),(.slice none 0 0),(.slice none 0 0),(.slice none 0 0)]):=⟨by kernel_rfl,by kernel_rfl⟩
instance:Ty Tryz.prog 211 (.struct fs210) 1 8 (.agg #[(.int .i64 0)]):=⟨by kernel_rfl,by kernel_rfl⟩
instance:Flds Tryz.prog 211 [⟨3,false,0,1⟩]:=⟨by kernel_rfl⟩
instance:Ty Tryz.prog 212 (.struct fs196) 0 0 (.agg #[]):=⟨by kernel_rfl,by kernel_rfl⟩
instance:Flds Tryz.prog 212 []:=⟨by kernel_rfl⟩
instance:Ty Tryz.prog 213 (.struct fs196) 0 0 (.agg #[]):=⟨by kernel_rfl,by kernel_rfl⟩
instance:Flds Tryz.prog 213 []:=⟨by kernel_rfl⟩
instance:Ty Tryz.prog 214 (.struct fs196) 0 0 (.agg #[]):=⟨by kernel_rfl,by kernel_rfl⟩
instance:Flds Tryz.prog 214 []:=⟨by kernel_rfl⟩
instance:Ty Tryz.prog 215 (.struct fs196) 0 0 (.agg #[]):=⟨by kernel_rfl,by kernel_rfl⟩
instance:Flds Tryz.prog 215 []:=⟨by kernel_rfl⟩
instance:Ty Tryz.prog 216 (.struct fs196) 0 0 (.agg #[]):=⟨by kernel_rfl,by kernel_rfl⟩
instance:Flds Tryz.prog 216 []:=⟨by kernel_rfl⟩
instance:Ty Tryz.prog 217 (.struct fs196) 0 0 (.agg #[]):=⟨by kernel_rfl,by kernel_rfl⟩
instance:Flds Tryz.prog 217 []:=⟨by kernel_rfl⟩
instance:Ty Tryz.prog 218 (.struct fs196) 0 0 (.agg #[]):=⟨by kernel_rfl,by kernel_rfl⟩
instance:Flds Tryz.prog 218 []:=⟨by kernel_rfl⟩
instance:Ty Tryz.prog 219 (.array 7 141) 7 112 (.agg #[.nilIface,.nilIface,.nilIface,.nilIface,.nilIface,.nilIface,.nilIface]):=⟨by kernel_rfl,by kernel_rfl⟩
instance:Ty Tryz.prog 220 (.slice 151) 1 24 (.slice none 0 0):=⟨by kernel_rfl,by kernel_rfl⟩
instance:Ty Tryz.prog 224 (.func #[3] #[161] false) 1 8 (.nilFunc):=⟨by kernel_rfl,by kernel_rfl⟩
instance:Ty Tryz.prog 225 (.array 8 224) 8 64 (.agg #[.nilFunc,.nilFunc,.nilFunc,.nilFunc,.nilFunc,.nilFunc,.nilFunc,.nilFunc]):=⟨by kernel_rfl,by kernel_rfl⟩
instance:Ty Tryz.prog 229 (.array 4 3) 4 32 (.agg #[(.int .i64 0),(.int .i64 0),(.int .i64 0),(.int .i64 0)]):=⟨by kernel_rfl,by kernel_rfl⟩
instance:Ty Tryz.prog 256 (.int .u64) 1 8 (.int .u64 0):=⟨by kernel_rfl,by kernel_rfl⟩
instance:Ty Tryz.prog 265 (.func #[268] #[3,4] false) 1 8 (.nilFunc):=⟨by kernel_rfl,by kernel_rfl⟩
instance:Ty Tryz.prog 268 (.struct fs267) 3 40 (.agg #[(.int .i64 0),(.slice none 0 0),(.int .i64 0)]):=⟨by kernel_rfl,by kernel_rfl⟩
instance:Flds Tryz.prog 268 [⟨25,true,0,2⟩,⟨3,false,2,1⟩]:=⟨by kernel_rfl⟩
instance:Ty Tryz.prog 269 (.array 4 265) 4 32 (.agg #[.nilFunc,.nilFunc,.nilFunc,.nilFunc]):=⟨by kernel_rfl,by kernel_rfl⟩
instance:Ty Tryz.prog 271 (.slice 4) 1 24 (.slice none 0 0):=⟨by kernel_rfl,by kernel_rfl⟩
instance:Ty Tryz.prog 296 (.map 3 33) 1 8 (.map none):=⟨by kernel_rfl,by kernel_rfl⟩
instance:Ty Tryz.prog 298 (.int .u64) 1 8 (.int .u64 0):=⟨by kernel_rfl,by kernel_rfl⟩
instance:Fun Tryz.prog 13:=⟨by kernel_rfl⟩
instance:Fun Tryz.prog 14:=⟨by kernel_rfl⟩
instance:Fun Tryz.prog 18:=⟨by kernel_rfl⟩
instance:Fun Tryz.prog 19:=⟨by kernel_rfl⟩
instance:Fun Tryz.prog 21:=⟨by kernel_rfl⟩
instance:Fun Tryz.prog 22:=⟨by kernel_rfl⟩
instance:Fun Tryz.prog 23:=⟨by kernel_rfl⟩
instance:Fun Tryz.prog 24:=⟨by kernel_rfl⟩
instance:Fun Tryz.prog 32:=⟨by kernel_rfl⟩
instance:Fun Tryz.prog 34:=⟨by kernel_rfl⟩
instance:Fun Tryz.prog 35:=⟨by kernel_rfl⟩
instance:Fun Tryz.prog 36:=⟨by kernel_rfl⟩
instance:Fun Tryz.prog 37:=⟨by kernel_rfl⟩
instance:Fun Tryz.prog 38:=⟨by kernel_rfl⟩
instance:Fun Tryz.prog 40:=⟨by kernel_rfl⟩
instance:Fun Tryz.prog 44:=⟨by kernel_rfl⟩
instance:Fun Tryz.prog 45:=⟨by kernel_rfl⟩
instance:Fun Tryz.prog 46:=⟨by kernel_rfl⟩
instance:Fun Tryz.prog 47:=⟨by kernel_rfl⟩
instance:Fun Tryz.prog 48:=⟨by kernel_rfl⟩
instance:Fun Tryz.prog 49:=⟨by kernel_rfl⟩
instance:Fun Tryz.prog 50:=⟨by kernel_rfl⟩
instance:Fun Tryz.prog 51:=⟨by kernel_rfl⟩
instance:Fun Tryz.prog 52:=⟨by kernel_rfl⟩
instance:Fun Tryz.prog 53:=⟨by kernel_rfl⟩
instance:Fun Tryz.prog 54:=⟨by kernel_rfl⟩
instance:Fun Tryz.prog 55:=⟨by kernel_rfl⟩
instance:Fun Tryz.prog 56:=⟨by kernel_rfl⟩
instance:Fun Tryz.prog 57:=⟨by kernel_rfl⟩
instance:Fun Tryz.prog 58:=⟨by kernel_rfl⟩
instance:Fun Tryz.prog 59:=⟨by kernel_rfl⟩
instance:Fun Tryz.prog 60:=⟨by kernel_rfl⟩
instance:Fun Tryz.prog 61:=⟨by kernel_rfl⟩
instance:Fun Tryz.prog 62:=⟨by kernel_rfl⟩
instance:Fun Tryz.prog 63:=⟨by kernel_rfl⟩
instance:Fun Tryz.prog 64:=⟨by kernel_rfl⟩
instance:Fun Tryz.prog 65:=⟨by kernel_rfl⟩
instance:Fun Tryz.prog 70:=⟨by kernel_rfl⟩
instance:Fun Tryz.prog 71:=⟨by kernel_rfl⟩
instance:Fun Tryz.prog 72:=⟨by kernel_rfl⟩
instance:Fun Tryz.prog 73:=⟨by kernel_rfl⟩
instance:Fun Tryz.prog 74:=⟨by kernel_rfl⟩
instance:Fun Tryz.prog 75:=⟨by kernel_rfl⟩
instance:Fun Tryz.prog 76:=⟨by kernel_rfl⟩
instance:Fun Tryz.prog 77:=⟨by kernel_rfl⟩
instance:Fun Tryz.prog 79:=⟨by kernel_rfl⟩
instance:Fun Tryz.prog 84:=⟨by kernel_rfl⟩
instance:Fun Tryz.prog 85:=⟨by kernel_rfl⟩
instance:Fun Tryz.prog 86:=⟨by kernel_rfl⟩
instance:Fun Tryz.prog 87:=⟨by kernel_rfl⟩
instance:Fun Tryz.prog 88:=⟨by kernel_rfl⟩
instance:Fun Tryz.prog 89:=⟨by kernel_rfl⟩
instance:Fun Tryz.prog 90:=⟨by kernel_rfl⟩
instance:Fun Tryz.prog 91:=⟨by kernel_rfl⟩
instance:Fun Tryz.prog 92:=⟨by kernel_rfl⟩
instance:Fun Tryz.prog 93:=⟨by kernel_rfl⟩
instance:Fun Tryz.prog 94:=⟨by kernel_rfl⟩
instance:Fun Tryz.prog 95:=⟨by kernel_rfl⟩
instance:Fun Tryz.prog 96:=⟨by kernel_rfl⟩
instance:Fun Tryz.prog 97:=⟨by kernel_rfl⟩
instance:Fun Tryz.prog 98:=⟨by kernel_rfl⟩
instance:Fun Tryz.prog 99:=⟨by kernel_rfl⟩
instance:Fun Tryz.prog 100:=⟨by kernel_rfl⟩
instance:Fun Tryz.prog 101:=⟨by kernel_rfl⟩
instance:Fun Tryz.prog 103:=⟨by kernel_rfl⟩
instance:Fun Tryz.prog 105:=⟨by kernel_rfl⟩
instance:Fun Tryz.prog 107:=⟨by kernel_rfl⟩
instance:Fun Tryz.prog 108:=⟨by kernel_rfl⟩
instance:Fun Tryz.prog 109:=⟨by kernel_rfl⟩
instance:Fun Tryz.prog 110:=⟨by kernel_rfl⟩
instance:Fun Tryz.prog 111:=⟨by kernel_rfl⟩
instance:Fun Tryz.prog 112:=⟨by kernel_rfl⟩
instance:Fun Tryz.prog 113:=⟨by kernel_rfl⟩
instance:Fun Tryz.prog 114:=⟨by kernel_rfl⟩
instance:Fun Tryz.prog 115:=⟨by kernel_rfl⟩
instance:Fun Tryz.prog 116:=⟨by kernel_rfl⟩
instance:Fun Tryz.prog 117:=⟨by kernel_rfl⟩
instance:Fun Tryz.prog 121:=⟨by kernel_rfl⟩
instance:Fun Tryz.prog 123:=⟨by kernel_rfl⟩
instance:Fun Tryz.prog 124:=⟨by kernel_rfl⟩
instance:Fun Tryz.prog 125:=⟨by kernel_rfl⟩
instance:Fun Tryz.prog 126:=⟨by kernel_rfl⟩
instance:Fun Tryz.prog 130:=⟨by kernel_rfl⟩
instance:Fun Tryz.prog 131:=⟨by kernel_rfl⟩
instance:Fun Tryz.prog 132:=⟨by kernel_rfl⟩
instance:Fun Tryz.prog 133:=⟨by kernel_rfl⟩
instance:Fun Tryz.prog 134:=⟨by kernel_rfl⟩
instance:Fun Tryz.prog 139:=⟨by kernel_rfl⟩
instance:Fun Tryz.prog 140:=⟨by kernel_rfl⟩
instance:Fun Tryz.prog 141:=⟨by kernel_rfl⟩
instance:Fun Tryz.prog 142:=⟨by kernel_rfl⟩
instance:Fun Tryz.prog 143:=⟨by kernel_rfl⟩
instance:Fun Tryz.prog 144:=⟨by kernel_rfl⟩
instance:Fun Tryz.prog 145:=⟨by kernel_rfl⟩
instance:Fun Tryz.prog 146:=⟨by kernel_rfl⟩
instance:Fun Tryz.prog 147:=⟨by kernel_rfl⟩
instance:Fun Tryz.prog 148:=⟨by kernel_rfl⟩
instance:Fun Tryz.prog 149:=⟨by kernel_rfl⟩
instance:Fun Tryz.prog 150:=⟨by kernel_rfl⟩
instance:Fun Tryz.prog 151:=⟨by kernel_rfl⟩
instance:Fun Tryz.prog 152:=⟨by kernel_rfl⟩
instance:Fun Tryz.prog 153:=⟨by kernel_rfl⟩
instance:Fun Tryz.prog 154:=⟨by kernel_rfl⟩
instance:Fun Tryz.prog 155:=⟨by kernel_rfl⟩
instance:Fun Tryz.prog 156:=⟨by kernel_rfl⟩
instance:Fun Tryz.prog 160:=⟨by kernel_rfl⟩
instance:Fun Tryz.prog 161:=⟨by kernel_rfl⟩
instance:Fun Tryz.prog 162:=⟨by kernel_rfl⟩
instance:Fun Tryz.prog 163:=⟨by kernel_rfl⟩
instance:Fun Tryz.prog 182:=⟨by kernel_rfl⟩
instance:Fun Tryz.prog 183:=⟨by kernel_rfl⟩
instance:Fun Tryz.prog 184:=⟨by kernel_rfl⟩
instance:Fun Tryz.prog 185:=⟨by kernel_rfl⟩
instance:Fun Tryz.prog 186:=⟨by kernel_rfl⟩
instance:Fun Tryz.prog 187:=⟨by kernel_rfl⟩
instance:Fun Tryz.prog 188:=⟨by kernel_rfl⟩
instance:Fun Tryz.prog 189:=⟨by kernel_rfl⟩
instance:Fun Tryz.prog 190:=⟨by kernel_rfl⟩
instance:Fun Tryz.prog 191:=⟨by kernel_rfl⟩
instance:Fun Tryz.prog 192:=⟨by kernel_rfl⟩
instance:Fun Tryz.prog 193:=⟨by kernel_rfl⟩
instance:Fun Tryz.prog 194:=⟨by kernel_rfl⟩
instance:Fun Tryz.prog 195:=⟨by kernel_rfl⟩
instance:Fun Tryz.prog 196:=⟨by kernel_rfl⟩
instance:Fun Tryz.prog 197:=⟨by kernel_rfl⟩
instance:Fun Tryz.prog 198:=⟨by kernel_rfl⟩
instance:Fun Tryz.prog 204:=⟨by kernel_rfl⟩
instance:Fun Tryz.prog 205:=⟨by kernel_rfl⟩
instance:Fun Tryz.prog 206:=⟨by kernel_rfl⟩
instance:Fun Tryz.prog 207:=⟨by kernel_rfl⟩
instance:Fun Tryz.prog 208:=⟨by kernel_rfl⟩
instance:Fun Tryz.prog 209:=⟨by kernel_rfl⟩
instance:Fun Tryz.prog 210:=⟨by kernel_rfl⟩
instance:Fun Tryz.prog 211:=⟨by kernel_rfl⟩
instance:Fun Tryz.prog 212:=⟨by kernel_rfl⟩
instance:Fun Tryz.prog 214:=⟨by kernel_rfl⟩
instance:Fun Tryz.prog 215:=⟨by kernel_rfl⟩
instance:Fun Tryz.prog 216:=⟨by kernel_rfl⟩
instance:Fun Tryz.prog 217:=⟨by kernel_rfl⟩
instance:Fun Tryz.prog 218:=⟨by kernel_rfl⟩
instance:Fun Tryz.prog 219:=⟨by kernel_rfl⟩
instance:Fun Tryz.prog 221:=⟨by kernel_rfl⟩
instance:Fun Tryz.prog 222:=⟨by kernel_rfl⟩
instance:Fun Tryz.prog 223:=⟨by kernel_rfl⟩
instance:Fun Tryz.prog 224:=⟨by kernel_rfl⟩
instance:Fun Tryz.prog 225:=⟨by kernel_rfl⟩
instance:Fun Tryz.prog 226:=⟨by kernel_rfl⟩
instance:Fun Tryz.prog 227:=⟨by kernel_rfl⟩
instance:Fun Tryz.prog 228:=⟨by kernel_rfl⟩
instance:Fun Tryz.prog 229:=⟨by kernel_rfl⟩
instance:Fun Tryz.prog 230:=⟨by kernel_rfl⟩
instance:Fun Tryz.prog 231:=⟨by kernel_rfl⟩
instance:Mixed Tryz.prog:=⟨by kernel_rfl⟩
end Go.Proofs.YtcpkcmgjfcbnpaaGreatDoor
namespace Go.Proofs.YtcpkcmgjfcbnpaaGreatDoor
open Go Go.Sl
set_option maxRecDepth 100000
set_option maxHeartbeats 4000000
attribute [local irreducible] Go.Code.sf sfOps Opq opo retF Do1 anyO
variable {M:Jdg→Prop} [IsCl Tryz.prog M]
instance:ElemF Tryz.prog 46 cellF:=⟨trivial⟩
instance:ElemF Tryz.prog 3 intF:=⟨trivial⟩
instance:ElemF Tryz.prog 48 editF:=⟨trivial⟩
abbrev τ:Tys:=⟨3,46,48,33,35,37,70,50,176⟩
instance:ElemF Tryz.prog 35 (rawF (partR τ).sz):=⟨trivial⟩
instance:ElemF Tryz.prog 37 (rawF (shownR τ).sz):=⟨trivial⟩
instance:ElemF Tryz.prog 70 (rawF (painterR τ).sz):=⟨trivial⟩
instance:ElemF Tryz.prog 50 (rawF (wordR τ).sz):=⟨trivial⟩
theorem l6In_v (h:PHeap) (a b c:Int):CallV Tryz.prog M 49 [.int .i64 a,.int .i64 b,.int .i64 c] h (.bool (decide (b ≤ a) && decide (a ≤ c))):=by
 refine Cs Tryz.func49 Tryz.ntmps49 ?_
 refine Wo ?_
 refine f_split (fun h1=>?_) fun h1=>?_ <;>
 ·refine Wo ?_
  refine sf_ret (rV ?_)
  simp [h1]
theorem sCellOk_v (h:PHeap) (c:Cell):CallV Tryz.prog M 89 [.agg #[.int .i64 c.kind,.int .i64 c.light]] h (.bool (cellOk c)):=by
 refine Cs Tryz.func89 Tryz.ntmps89 ?_
 repeat first|refine R1 ?_|refine R2 fun _=>?_
 refine sf_if (fun h1=>?_) fun h1=>?_
 ·repeat first|refine R1 ?_|refine R2 fun _=>?_
  refine Xv (l6In_v _ _ _ _) ?_
  repeat first|refine R1 ?_|refine R2 fun _=>?_
  refine sf_ret (rV ?_)
  simp [cellOk,h1]
 ·repeat first|refine R1 ?_|refine R2 fun _=>?_
  refine Xv (l6In_v _ _ _ _) ?_
  repeat first|refine R1 ?_|refine R2 fun _=>?_
  refine f_splitB (fun h2=>?_) fun h2=>?_ <;>
  ·repeat first|refine R1 ?_|refine R2 fun _=>?_
   refine sf_ret (rV ?_)
   simp [cellOk,h1,h2]
theorem sGridOk_v (h:PHeap) (v:Value) (g:Grid) (gb:GridB h v g):CallV Tryz.prog M 48 [v] h (.bool (gridOk g)):=by
 obtain ⟨c,rfl,s⟩:=gb
 have o1:=s.one
 have hs:=s.small
 refine Cs Tryz.func48 Tryz.ntmps48 ?_
 repeat first|refine R1 ?_|refine R2 fun _=>?_
 refine Xv (l6In_v _ _ _ _) ?_
 repeat first|refine R1 ?_|refine R2 fun _=>?_
 refine f_splitB (fun h1=>?_) fun h1=>?_
 ·repeat first|refine R1 ?_|refine R2 fun _=>?_
  refine sf_T rfl ?_
  repeat first|refine R1 ?_|refine R2 fun _=>?_
  refine sf_ret (rV ?_)
  simp [gridOk]; simp at h1; omega
 ·have g1:1 ≤ g.wide∧g.wide ≤ 5:=by simpa using h1
  repeat first|refine R1 ?_|refine R2 fun _=>?_
  refine f_split (fun h2=>?_) fun h2=>?_
  ·repeat first|refine R1 ?_|refine R2 fun _=>?_
   refine sf_T rfl ?_
   repeat first|refine R1 ?_|refine R2 fun _=>?_
   refine sf_ret (rV ?_)
   simp [gridOk,h2]
  ·repeat first|refine R1 ?_|refine R2 fun _=>?_
   refine Xv (l6In_v _ _ _ _) ?_
   repeat first|refine R1 ?_|refine R2 fun _=>?_
   refine sf_cond (by rfl) (fun h3=>?_) fun h3=>?_
   ·repeat first|refine R1 ?_|refine R2 fun _=>?_
    refine sf_ret (rV ?_)
    simp [gridOk]; simp at h3; omega
   ·have g3:1 ≤ (g.cells.length:Int) / g.wide∧(g.cells.length:Int) / g.wide ≤ 5:=by simpa using h3
    repeat first|refine R1 ?_|refine R2 fun _=>?_
    refine sf_rd [1,2] 3 g.cells.length 0 (fun k=>(g.cells.take k).all cellOk = true) (by omega) rfl (fun k hk hi=>?_)
    repeat first|refine R1 ?_|refine R2 fun _=>?_
    refine sf_if (fun h4=>?_) fun h4=>?_
    ·have hk4:k < g.cells.length:=by omega
     repeat first|refine R1 ?_|refine R2 fun _=>?_
     refine Xv (sCellOk_v _ (gt g.cells k)) ?_
     repeat first|refine R1 ?_|refine R2 fun _=>?_
     refine sf_cond (by rfl) (fun h5=>?_) fun h5=>?_
     ·repeat first|refine R1 ?_|refine R2 fun _=>?_
      refine sf_ret (rV ?_)
      simp only [Bool.not_eq_true'] at h5
      simp [gridOk,all_false hk4 h5]
     ·repeat first|refine R1 ?_|refine R2 fun _=>?_
      refine ⟨⟨hk4,?_⟩,rfl,rfl,_,inferInstance⟩
      rw [all_take hk4,hi]; simpa using h5
    ·refine sf_exit ?_
     repeat first|refine R1 ?_|refine R2 fun _=>?_
     refine sf_ret (rV ?_)
     rw [take_ge hk (by omega)] at hi
     simp [gridOk,hi,g1,g3]; omega
end Go.Proofs.YtcpkcmgjfcbnpaaGreatDoor
namespace Go.Proofs.YtcpkcmgjfcbnpaaGreatDoor
open Go Go.Sl
set_option maxRecDepth 100000
set_option maxHeartbeats 4000000
attribute [local irreducible] Go.Code.sf sfOps Opq opo retF Do1 anyO
variable {M:Jdg→Prop} [IsCl Tryz.prog M]
open Go.Extern
instance:Ext Tryz.prog 127 (fun args=>ReflectliteValue.unpack (args.getD 0 (.tuple #[]))):=⟨_,Tryz.func127,by kernel_rfl,by kernel_rfl,by kernel_rfl,by kernel_rfl⟩
instance : Ext Tryz.prog 128 (ReflectliteValue.methodAny (ReflectliteValue.valueError "reflectlite.Value.Type" 0) (fun t _ _ _ => ReflectliteType.toType t)) := ⟨_, Tryz.func128, by kernel_rfl, by kernel_rfl, by kernel_rfl, by kernel_rfl⟩
instance : Ext Tryz.prog 129 (ReflectliteValue.method (ReflectliteValue.valueError "reflectlite.Value.IsNil" 0) ReflectliteValue.isNil) := ⟨_, Tryz.func129, by kernel_rfl, by kernel_rfl, by kernel_rfl, by kernel_rfl⟩
instance:Ext Tryz.prog 246 (ReflectliteType.abiMethod fun t=>do pure (.int .u8 (← Rtype.kind t))):=⟨_,Tryz.func246,by kernel_rfl,by kernel_rfl,by kernel_rfl,by kernel_rfl⟩
instance:Ext Tryz.prog 264 (ReflectliteType.method ReflectliteType.elem):=⟨_,Tryz.func264,by kernel_rfl,by kernel_rfl,by kernel_rfl,by kernel_rfl⟩
instance : Ext Tryz.prog 265 (ReflectliteType.relation "Implements" ReflectliteType.implements_) := ⟨_, Tryz.func265, by kernel_rfl, by kernel_rfl, by kernel_rfl, by kernel_rfl⟩
instance:Ext Tryz.prog 157 ReflectliteType.typeOf:=⟨_,Tryz.func157,by kernel_rfl,by kernel_rfl,by kernel_rfl,by kernel_rfl⟩
instance : Ext Tryz.prog 262 (ReflectliteType.relation "AssignableTo" ReflectliteType.assignableTo) := ⟨_, Tryz.func262, by kernel_rfl, by kernel_rfl, by kernel_rfl, by kernel_rfl⟩
instance : Ext Tryz.prog 158 (ReflectliteValue.method (ReflectliteValue.valueError "reflectlite.Value.Elem" 0) ReflectliteValue.elem) := ⟨_, Tryz.func158, by kernel_rfl, by kernel_rfl, by kernel_rfl, by kernel_rfl⟩
instance:Ext Tryz.prog 159 ReflectliteValue.set:=⟨_,Tryz.func159,by kernel_rfl,by kernel_rfl,by kernel_rfl,by kernel_rfl⟩
abbrev hdl (t:TypeId):Value:=.pointer (some ⟨1,t,none⟩)
abbrev rty (t:TypeId):Value:=.iface 237 (.agg #[hdl t])
abbrev errObj:Obj:=.cells #[rty 90] 185
variable {K:Value→PHeap→Prop} {E:Value→PHeap→Prop} {H:PHeap}
theorem e_unpackP (a:Addr):(ReflectliteValue.unpack (.iface 133 (.pointer (some a)))).slp Tryz.prog K E H = ∀ r,H.obj r = none→K (.agg #[hdl 133,.pointer (some ⟨r,0,none⟩),.int .u64 150]) (H.put r (.cells #[.pointer (some a)] 133)):=by kernel_rfl
theorem e_unpackN (s:ByteArray):(ReflectliteValue.unpack (.iface 131 (.agg #[.string s]))).slp Tryz.prog K E H = ∀ r,H.obj r = none→K (.agg #[hdl 131,.pointer (some ⟨r,0,none⟩),.int .u64 153]) (H.put r (.cells #[.string s] 131)):=by kernel_rfl
theorem e_type (a:Addr) (z:Sem Value):(ReflectliteValue.methodAny z (fun t _ _ _=>ReflectliteType.toType t) #[.agg #[hdl 133,.pointer (some a),.int .u64 150]]).slp Tryz.prog K E H = K (rty 133) H:=by kernel_rfl
theorem e_kindP:((ReflectliteType.abiMethod fun t=>do pure (.int .u8 (← Rtype.kind t))) #[hdl 133]).slp Tryz.prog K E H = K (.int .u8 22) H:=by kernel_rfl
theorem e_kindN:((ReflectliteType.abiMethod fun t=>do pure (.int .u8 (← Rtype.kind t))) #[hdl 131]).slp Tryz.prog K E H = K (.int .u8 25) H:=by kernel_rfl
theorem e_elem:(ReflectliteType.method ReflectliteType.elem #[.agg #[hdl 133]]).slp Tryz.prog K E H = K (rty 131) H:=by kernel_rfl
theorem e_impl : (ReflectliteType.relation "Implements" ReflectliteType.implements_ #[.agg #[hdl 131], rty 90]).slp Tryz.prog K E H = K (.bool true) H := by kernel_rfl
theorem e_typeOf (v:Value):(ReflectliteType.typeOf #[.iface 131 v]).slp Tryz.prog K E H = K (rty 131) H:=by kernel_rfl
theorem e_assign : (ReflectliteType.relation "AssignableTo" ReflectliteType.assignableTo #[.agg #[hdl 131], rty 131]).slp Tryz.prog K E H = K (.bool true) H := by kernel_rfl
theorem e_met {nm:String} {f:FuncId} {h v:Value} (e:∀ (K:FuncId × Value→PHeap→Prop) (E:Value→PHeap→Prop) (H:PHeap),(method (Tryz.prog.types.size + Made.depth) 237 (.agg #[h]) nm).slp Tryz.prog K E H = K (f,v) H):MetOf Tryz.prog 237 (.agg #[h]) nm f v:=fun K E H x=>by rw [e]; exact x
theorem m_kind (h : Value) : MetOf Tryz.prog 237 (.agg #[h]) "Kind" 246 h := e_met fun K E H => by kernel_rfl
theorem m_elem (h : Value) : MetOf Tryz.prog 237 (.agg #[h]) "Elem" 264 (.agg #[h]) := e_met fun K E H => by kernel_rfl
theorem m_impl (h : Value) : MetOf Tryz.prog 237 (.agg #[h]) "Implements" 265 (.agg #[h]) := e_met fun K E H => by kernel_rfl
theorem m_assign (h : Value) : MetOf Tryz.prog 237 (.agg #[h]) "AssignableTo" 262 (.agg #[h]) := e_met fun K E H => by kernel_rfl
theorem e_parts (a:Addr) {K:Option (TypeId × Addr × Nat)→PHeap→Prop}:(ReflectliteValue.parts (.agg #[hdl 133,.pointer (some a),.int .u64 150])).slp Tryz.prog K E H = K (some (133,a,150)) H:=by kernel_rfl
theorem e_partsA (a:Addr) {K:Option (TypeId × Addr × Nat)→PHeap→Prop}:(ReflectliteValue.parts (.agg #[hdl 131,.pointer (some a),.int .u64 409])).slp Tryz.prog K E H = K (some (131,a,409)) H:=by kernel_rfl
theorem e_partsN (a:Addr) {K:Option (TypeId × Addr × Nat)→PHeap→Prop}:(ReflectliteValue.parts (.agg #[hdl 131,.pointer (some a),.int .u64 153])).slp Tryz.prog K E H = K (some (131,a,153)) H:=by kernel_rfl
theorem p_parts (a:Addr):PartsIs Tryz.prog (.agg #[hdl 133,.pointer (some a),.int .u64 150]) 133 a 150:=fun K E H x=>by rw [e_parts]; exact x
theorem p_partsA (a:Addr):PartsIs Tryz.prog (.agg #[hdl 131,.pointer (some a),.int .u64 409]) 131 a 409:=fun K E H x=>by rw [e_partsA]; exact x
theorem p_partsN (a:Addr):PartsIs Tryz.prog (.agg #[hdl 131,.pointer (some a),.int .u64 153]) 131 a 153:=fun K E H x=>by rw [e_partsN]; exact x
theorem e_elemOf {K:Option TypeId→PHeap→Prop}:(Rtype.elem? 133).slp Tryz.prog K E H = K (some 131) H:=by kernel_rfl
theorem e_mk (p:Addr):(ReflectliteValue.mk 131 p ReflectliteValue.flagAddr).slp Tryz.prog K E H = K (.agg #[hdl 131,.pointer (some p),.int .u64 409]) H:=by kernel_rfl
theorem e_direct {K:Bool→PHeap→Prop}:(Rtype.directlyAssignable 131 131).slp Tryz.prog K E H = K true H:=by kernel_rfl
end Go.Proofs.YtcpkcmgjfcbnpaaGreatDoor

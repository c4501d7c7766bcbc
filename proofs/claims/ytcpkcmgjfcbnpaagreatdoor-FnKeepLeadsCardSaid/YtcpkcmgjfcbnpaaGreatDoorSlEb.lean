/- (*WaitGroup).Add(1) and Wait, walked. No program. -/
import Derived.Test.YtcpkcmgjfcbnpaaGreatDoorSlEa
import Derived.Test.YtcpkcmgjfcbnpaaGreatDoorSlK
set_option linter.unusedVariables false
set_option linter.unusedSimpArgs false
set_option linter.unusedSectionVars false

namespace Go.Sl
open Go Go.Conc Go.Conc.Lib Go.ConcR.Gen
open Go.ConcN (WgLive)
open Go.ConcR (KK wgBlock WgAt stA smA rd wr)
section
variable {P:Program} {M:Jdg→Prop} [hM:IsCl P M] {n:Nat} {Q:Qt} {L:Locals} {h:PHeap} {ops:Array Oper} {rest:List Oper} {d:Option Nat} {ty:TypeId} {pos:String} {af:Array Edge} {g:Option (Nat × Bool)}
theorem g_T {op : Op} {j dj : Nat} {want : Bool} (hj : (ops[j]?).bind (·.dst) = some dj) (hb : L.get dj = some (.bool want)) {v : Value} (x : ∀ K E, K (.value v) h → opv P n ⟨d, op, ty, pos, af, some (j, want)⟩ L h K E) (k : slList P M n ops Q rest (setL d v L) h) (hd : dstOk n d = true := by rfl) :
    slList P M n ops Q (⟨d,op,ty,pos,af,some (j,want)⟩ :: rest) L h:=l_gT hj hb rfl x k hd
theorem g_F {op:Op} {j dj:Nat} {want:Bool} (hj:(ops[j]?).bind (·.dst) = some dj) (hb:L.get dj = some (.bool !want)) (k:slList P M n ops Q rest (setL d undef L) h) (hd:dstOk n d = true:=by rfl):slList P M n ops Q (⟨d,op,ty,pos,af,some (j,want)⟩ :: rest) L h:=l_gF hj hb rfl k hd
theorem cond_T {c:Operand} {x y:Code} (hc:ev L c = some (.bool true)) (k:x.sl P M n Q L h):(Code.cond c x y).sl P M n Q L h:=sl_cond hc (fun _=>k) (fun e=>by cases e)
theorem cond_F {c:Operand} {x y:Code} (hc:ev L c = some (.bool false)) (k:y.sl P M n Q L h):(Code.cond c x y).sl P M n Q L h:=sl_cond hc (fun e=>by cases e) (fun _=>k)
omit hM in
theorem x_and {x y:Operand} {k:IntKind} {a b:Int} {t t':TypeId} (hx:ev L x = some (.int k a)) (hy:ev L y = some (.int k b)) (K:Next→PHeap→Prop) (E:Value→PHeap→Prop) (kk:K (.value (.int k (bits .and k a b))) h):opv P n ⟨d,.binOp .and t x y t',ty,pos,af,g⟩ L h K E:=
  o_bin hx hy (fun _ _=>by simp [binOp,Op.intBits,slp_pure,bits]) kk
omit hM in
theorem x_shl {x y:Operand} {k k':IntKind} {a b:Int} {t t':TypeId} (hx:ev L x = some (.int k a)) (hy:ev L y = some (.int k' b)) (hb:¬ b < 0) (K:Next→PHeap→Prop) (E:Value→PHeap→Prop) (kk:K (.value (.int k (k.wrap (a * 2 ^ (min b.toNat k.bits))))) h):opv P n ⟨d,.binOp .shl t x y t',ty,pos,af,g⟩ L h K E:=
  x_pure hx hy rfl (by simp [binOp,Op.shift,hb]) _ _ kk
omit hM in
theorem x_shr {x y:Operand} {k k':IntKind} {a b:Int} {t t':TypeId} (hx:ev L x = some (.int k a)) (hy:ev L y = some (.int k' b)) (hb:¬ b < 0) (K:Next→PHeap→Prop) (E:Value→PHeap→Prop) (kk:K (.value (.int k (a.fdiv (2 ^ (min b.toNat k.bits))))) h):opv P n ⟨d,.binOp .shr t x y t',ty,pos,af,g⟩ L h K E:=
  x_pure hx hy rfl (by simp [binOp,Op.shift,hb]) _ _ kk
omit hM in
theorem x_nilCheck {x:Operand} {a:Addr} (hx:ev L x = some (.pointer (some a))) (K:Next→PHeap→Prop) (E:Value→PHeap→Prop) (kk:K (.value (.pointer (some a))) h):opv P n ⟨d,.nilCheck x,ty,pos,af,g⟩ L h K E:=fun a ha=>by simp only [execOp,ha.ev hx]; exact kk
omit hM in
theorem x_field {t : TypeId} {fs : Array Field} {fd : Field} {i : TypeInfo} {x : Operand} {f b off : Nat} (h1 : P.underlying t = some (.struct fs)) (h2 : fs[f]? = some fd) (h3 : P.info? fd.type = some i) (h4 : i.size ≠ 0) (hx : ev L x = some (.pointer (some ⟨b, off, none⟩))) (K : Next → PHeap → Prop) (E : Value → PHeap → Prop)
    (kk:K (.value (.pointer (some ⟨b,off + fd.offset,none⟩))) h):opv P n ⟨d,.fieldAddr t x f,ty,pos,af,g⟩ L h K E:=
  o_val (s:=fun a=>Instr.fieldAt t (a.eval x) f) (fun _ _=>rfl) fun a ha=>by
    simp only [Instr.fieldAt,slp_bind,ha.ev hx]
    refine slp_underlying h1 ?_
    simp only [h2,slp_bind,Instr.sureAddr,slp_pure,fieldPlace]
    refine slp_sizeOf' h3 ?_
    rw [if_neg h4]
    simp only [slp_pure,add_none]
    exact kk
end
section
variable {F:Fk} {M:Jdg→Prop} [hM:IsCl F.P M] {n:Nat} {Q:Qt} {L:Locals} {h:PHeap} {ops:Array Oper} {rest:List Oper} {d:Option Nat} {ty:TypeId} {pos:String} {af:Array Edge} {g:Option (Nat × Bool)} {Wl:WgLink} {x:Operand} {b:Nat}
omit hM in
theorem f_state (H:WgLib F.P Wl) (hx:ev L x = some (.pointer (some ⟨b,0,none⟩))) (K:Next→PHeap→Prop) (E:Value→PHeap→Prop) (kk:K (.value (.pointer (some ⟨b,0,none⟩))) h):opv F.P n ⟨d,.fieldAddr Wl.tWg x 1,ty,pos,af,g⟩ L h K E:=by
  obtain ⟨i,h1,h2⟩:=sizeOf_info H.sizeOf_tAU
  refine x_field H.underlying_tWg rfl h1 (by rw [h2]; decide) hx _ _ ?_
  exact kk
omit hM in
theorem f_sema (H:WgLib F.P Wl) (hx:ev L x = some (.pointer (some ⟨b,0,none⟩))) (K:Next→PHeap→Prop) (E:Value→PHeap→Prop) (kk:K (.value (.pointer (some ⟨b,1,none⟩))) h):opv F.P n ⟨d,.fieldAddr Wl.tWg x 2,ty,pos,af,g⟩ L h K E:=by
  obtain ⟨i,h1,h2⟩:=sizeOf_info H.sizeOf_tU32
  refine x_field H.underlying_tWg rfl h1 (by rw [h2]; decide) hx _ _ ?_
  exact kk
omit hM in
theorem f_v (H:WgLib F.P Wl) (hx:ev L x = some (.pointer (some ⟨b,0,none⟩))) (K:Next→PHeap→Prop) (E:Value→PHeap→Prop) (kk:K (.value (.pointer (some ⟨b,0,none⟩))) h):opv F.P n ⟨d,.fieldAddr Wl.tAU x 2,ty,pos,af,g⟩ L h K E:=by
  obtain ⟨i,h1,h2⟩:=sizeOf_info H.sizeOf_tU64
  refine x_field H.underlying_tAU rfl h1 (by rw [h2]; decide) hx _ _ ?_
  exact kk
omit hM in
theorem c_u64 (H:WgLib F.P Wl) {k':IntKind} {z:Int} (hx:ev L x = some (.int k' z)) (K:Next→PHeap→Prop) (E:Value→PHeap→Prop) (kk:K (.value (.int .u64 (IntKind.u64.wrap z))) h):opv F.P n ⟨d,.convert 3 Wl.tU64 x,ty,pos,af,g⟩ L h K E:=x_conv H.underlying_t3 H.underlying_tU64 hx _ _ kk
omit hM in
theorem c_i32 (H:WgLib F.P Wl) {k':IntKind} {z:Int} (hx:ev L x = some (.int k' z)) (K:Next→PHeap→Prop) (E:Value→PHeap→Prop) (kk:K (.value (.int .i32 (IntKind.i32.wrap z))) h):opv F.P n ⟨d,.convert Wl.tU64 21 x,ty,pos,af,g⟩ L h K E:=x_conv H.underlying_tU64 H.underlying_t21 hx _ _ kk
omit hM in
theorem c_i32' (H:WgLib F.P Wl) {k':IntKind} {z:Int} (hx:ev L x = some (.int k' z)) (K:Next→PHeap→Prop) (E:Value→PHeap→Prop) (kk:K (.value (.int .i32 (IntKind.i32.wrap z))) h):opv F.P n ⟨d,.convert 3 21 x,ty,pos,af,g⟩ L h K E:=x_conv H.underlying_t3 H.underlying_t21 hx _ _ kk
omit hM in
theorem c_u32 (H:WgLib F.P Wl) {k':IntKind} {z:Int} (hx:ev L x = some (.int k' z)) (K:Next→PHeap→Prop) (E:Value→PHeap→Prop) (kk:K (.value (.int .u32 (IntKind.u32.wrap z))) h):opv F.P n ⟨d,.convert Wl.tU64 Wl.tU32 x,ty,pos,af,g⟩ L h K E:=x_conv H.underlying_tU64 H.underlying_tU32 hx _ _ kk
theorem l_call {f : FuncId} {fn : Func} {c : Code} {args : Array Operand} {ats : Array TypeId} {vs : List Value} {R : Value → PHeap → Prop} (hf : F.P.funcs[f]? = some fn) (hn : (fn.name == "runtime.NumGoroutine") = false) (hb : fn.body = some c) (hv : evAll L args.toList = some vs)
    (hc:CallsE F.P M f vs.toArray h R noE) (k:∀ v h',R v h'→slList F.P M n ops Q rest (setL d v L) h') (hd:dstOk n d = true:=by rfl):slList F.P M n ops Q (⟨d,.call { callee:=.value (.func f),args,argTypes:=ats },ty,pos,af,none⟩ :: rest) L h:=
  haveI:Fun F.P f:=⟨by rw [hf]; simp [hn,hb]⟩
  l_plain rfl hd (o_call hv (CallsE.mono hc (fun v h' y=>k v h' y) (fun _ _ y=>y.elim)))
end
theorem Rux.go {G G' : Prop} (k : G') (h : HoleK G' → G := by
    (intro x
     repeat (first
      | refine l_q (fun _ _=>o_move (by rfl)) ?_
      | refine l_q (x_num (by rfl) (by rfl) (by rfl)) ?_
      | refine l_q (fun _ _=>o_assign (by rfl)) ?_
      | refine l_q (x_nilCheck (by rfl)) ?_
      | refine l_q (f_state (by assumption) (by rfl)) ?_
      | refine l_q (f_sema (by assumption) (by rfl)) ?_
      | refine l_q (f_v (by assumption) (by rfl)) ?_
      | refine l_q (c_u64 (by assumption) (by rfl)) ?_
      | refine l_q (c_i32 (by assumption) (by rfl)) ?_
      | refine l_q (c_i32' (by assumption) (by rfl)) ?_
      | refine l_q (c_u32 (by assumption) (by rfl)) ?_
      | refine l_q (x_and (by rfl) (by rfl)) ?_
      | refine l_q (x_shl (by rfl) (by rfl) (by decide)) ?_
      | refine l_q (x_shr (by rfl) (by rfl) (by decide)) ?_
      | refine l_q (fun _ _=>o_not (by rfl)) ?_
      | refine l_q (fun _ _=>o_pickT (by rfl) (by rfl)) ?_
      | refine l_q (fun _ _=>o_pickF (by rfl) (by rfl)) ?_
      | refine g_F (by rfl) (by rfl) ?_
      | refine g_T (by rfl) (by rfl) (fun _ _=>o_move (by rfl)) ?_
      | refine g_T (by rfl) (by rfl) (x_num (by rfl) (by rfl) (by rfl)) ?_
      | refine g_T (by rfl) (by rfl) (c_i32' (by assumption) (by rfl)) ?_
      | refine g_T (by rfl) (by rfl) (x_and (by rfl) (by rfl)) ?_
      | refine g_T (by rfl) (by rfl) (fun _ _=>o_not (by rfl)) ?_
      | refine l_nil ?_
      | refine cond_T (by rfl) ?_
      | refine cond_F (by rfl) ?_
      | refine sl_skip ?_
      | refine sl_reg ?_
      | refine sl_block ?_
      | refine sl_seq ?_)
     exact x.out)):G:=h ⟨k⟩
theorem rel0 (h:PHeap):Rel ⟨fun _=>none,fun _=>false,[]⟩ ⟨fun _=>none,fun _=>false,h.gh⟩ [] h:=
  ⟨fun _ _ e=>(by cases e),fun _ _ e=>(by cases e),fun _ _ m=>(by cases m),List.nodup_nil,rfl⟩
theorem body_ret {P:Program} {fn:Func} {n:Nat} {L:Locals} {h:PHeap} {v:Value} {R:Value→PHeap→Prop} {E:List PanicEntry→PHeap→Prop} (x:ResV P fn n L [] v) (hR:R v h):bodyQ P fn n R E .ret L h:=fun tm ha=>x _ _ h tm (rel0 h) ha _ _ hR
theorem agree_args {n:Nat} (vs:List Value) (hle:vs.length ≤ n):Agree n (argsL 0 vs) (vs.toArray++Array.replicate (n - vs.toArray.size) undef):=by
  refine ⟨by simp; omega,fun i v e=>?_⟩
  obtain ⟨_,h2⟩:=argsL_get vs 0 i v e
  have hlt:i < vs.length:=by
    rcases Nat.lt_or_ge i vs.length with h | h
    · exact h
    · simp [List.getElem?_eq_none (show vs.length ≤ i by omega)] at h2
  rw [Array.getElem?_append]
  simpa [hlt] using h2
theorem ends_nrm {J:Jdg} {n:Nat} {b:Frame} {k:List Item} {cs:List Frame} {ds:List Deferred} {K:Locals→PHeap→Prop} (x:∀ L h tm,K L h→Agree n L tm→J h (G (b.at ⟨tm,ds⟩ k) cs)):Ends J n b k cs ds (fun e L h=>match e with | .nrm=>K L h | _=>False):=fun e L h tm q ha=>by
  cases e with
  | nrm=>exact x L h tm q ha
  | _=>exact q.elim
section
variable {F:Fk} {Wl:WgLink} {h:PHeap}
set_option maxRecDepth 100000
set_option maxHeartbeats 8000000
attribute [local irreducible] Go.Code.sl slOps slList opv
theorem uAdd_jm (H:WgLib F.P Wl) {j:Nat} (hj:j ≤ 4) (hgh:h.gh = [1,j]):CallsE F.P (· = JM F) Wl.uAdd #[.pointer (some ⟨F.Wg,0,none⟩),.int .u64 KK] h (fun v h'=>∃ c:Nat,c ≤ j∧v = .int .u64 (((c:Int) + 1) * KK)∧h' = stay h [2,j]) noE:=by
  refine calls_of_sl (vs:=[.pointer (some ⟨F.Wg,0,none⟩),.int .u64 KK]) H.f_uAdd (n:=10) rfl rfl rfl ?_
  simp only [argsL,Nat.reduceAdd]
  refine Rux.go ?_
  refine l_addAt H hj hgh rfl rfl fun c hc=>?_
  refine Rux.go ?_
  exact sl_ret (body_ret (resV_one rfl (res_tmp rfl)) ⟨c,hc,rfl,rfl⟩)
def addTail (Wl:WgLink):Code:=match (addFn Wl).body with
  | some (.seq _ y)=>y
  | _=>.skip
def addHead (Wl:WgLink):Code × Code × Code:=match (addFn Wl).body with
  | some (.seq (.cond _ (.seq x (.seq y z)) _) _)=>(x,y,z)
  | _=>(.skip,.skip,.skip)
theorem addTail_jm (H : WgLib F.P Wl) {j : Nat} (hj : j ≤ 4) (hgh : h.gh = [1, j]) (L : Locals) (h0 : L.get 0 = some (.pointer (some ⟨F.Wg, 0, none⟩))) (h1 : L.get 1 = some (.int .i64 1)) :
    (addTail Wl).sl F.P (· = JM F) 117 (fun e L h'=>match e with | .ret=>h' = stay h [2,j] | _=>False) L h:=by
  refine sl_sub (L':=[(0,.pointer (some ⟨F.Wg,0,none⟩)),(1,.int .i64 1)]) ?_ ⟨h0,h1,trivial⟩
  simp only [addTail,addFn]
  refine Rux.go ?_
  refine l_bubble H (by rw [hgh]; simp) ?_
  refine Rux.go ?_
  refine l_call H.f_uAdd (nm_uAdd Wl) rfl (vs:=[.pointer (some ⟨F.Wg,0,none⟩),.int .u64 KK]) (by rfl) (uAdd_jm H hj hgh) ?_
  rintro _ _ ⟨c,hc,rfl,rfl⟩
  obtain rfl | rfl | rfl | rfl | rfl:c = 0 ∨ c = 1 ∨ c = 2 ∨ c = 3 ∨ c = 4:=by omega
  · refine Rux.go ?_
    refine l_unsafe (by rfl) H.underlying_tPU32 H.underlying_tUP H.room_tU32 (by decide) (by simp [stay]) ?_
    refine Rux.go ?_
    refine l_read H (j:=j) rfl (by rfl) ?_
    refine Rux.go ?_
    exact sl_ret rfl
  all_goals
    refine Rux.go ?_
    exact sl_ret rfl
end
end Go.Sl

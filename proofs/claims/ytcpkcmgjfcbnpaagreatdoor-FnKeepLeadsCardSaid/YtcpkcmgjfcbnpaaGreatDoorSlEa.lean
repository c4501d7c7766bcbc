/- Steps at the group, at the level of one exact heap. No program. -/
import Derived.Test.YtcpkcmgjfcbnpaaGreatDoorSlE
import Derived.Conc.WgGenN2
set_option linter.unusedVariables false
set_option linter.unusedSimpArgs false
set_option linter.unusedSectionVars false

namespace Go.Sl
open Go Go.Conc Go.Conc.Lib Go.ConcR.Gen
open Go.ConcN (WgLive)
open Go.ConcR (KK wgBlock WgAt stA smA rd wr)
section
variable {F:Fk} {n:Nat} {Q:Qt} {L:Locals} {h h':PHeap} {ops:Array Oper} {rest:List Oper} {d:Option Nat} {ty:TypeId} {pos:String} {af:Array Edge} {Wl:WgLink} {ats:Array TypeId}
theorem l_jm {o : Oper} {v : Value} (hst : ∀ (b : Frame) (a : Act) (kk : List Item) (cs : List Frame) (i : Nat) (rs : List Nat), ops[i]? = some o → b.kind ≠ .early → Agree n L a.tmps → JM F h' (G (b.at (a.put o.dst v) (.inRegion ops rs :: kk)) cs) → JM F h (G (b.at a (.inRegion ops (i :: rs) :: kk)) cs))
    (hd:dstOk n o.dst = true) (k:slList F.P (· = JM F) n ops Q rest (setL o.dst v L) h'):slList F.P (· = JM F) n ops Q (o :: rest) L h:=by
  intro l e
  cases l with
  | nil=>cases e
  | cons i l=>
    simp only [List.map_cons,List.cons.injEq] at e
    intro J hJ b kk cs ds tm hb ha he
    subst hJ
    refine hst b ⟨tm,ds⟩ kk cs i l e.1 hb ha ?_
    have hds:((Act.mk tm ds).put o.dst v) = ⟨((Act.mk tm ds).put o.dst v).tmps,ds⟩:=by cases hx:o.dst <;> rfl
    rw [hds]
    refine k l e.2 _ rfl b kk cs ds _ hb (Agree.put (a:=⟨tm,ds⟩) ha (fun i hi=>?_) v) he
    rw [hi] at hd
    exact Nat.le_of_ble_eq_true hd
theorem one_arg {a:Act} {x:Operand} {v:Value} (ha:Agree n L a.tmps) (hx:ev L x = some v):((#[x]:Array Operand).map a.eval)[0]? = some v:=by simp [ha.ev hx]
theorem l_disable (H : WgLib F.P Wl) {j : Nat} (hgh : h.gh = [0, j]) (k : slList F.P (· = JM F) n ops Q rest (setL d (.tuple #[]) L) (stay h [1, j])) (hd : dstOk n d = true := by rfl) :
    slList F.P (· = JM F) n ops Q (⟨d,.call { callee:=.value (.func Wl.disable),args:=#[],argTypes:=ats },ty,pos,af,none⟩ :: rest) L h:=
  l_jm (fun b a kk cs i rs ho hb ha hT=>jm_disable rfl hgh (fun w=>stepG_mark0 .disable (by simp) ho rfl hb rfl H.f_disable (x_disable_n Wl) (x_disable_b Wl) (x_disable_x Wl) (x_disable_f Wl)) hT) hd k
theorem l_disable' (H : WgLib F.P Wl) (hgh : h.gh = [0, 4]) (k : slList F.P (· = JM F) n ops Q rest (setL d (.tuple #[]) L) (stay h [5, 4])) (hd : dstOk n d = true := by rfl) :
    slList F.P (· = JM F) n ops Q (⟨d,.call { callee:=.value (.func Wl.disable),args:=#[],argTypes:=ats },ty,pos,af,none⟩ :: rest) L h:=
  l_jm (fun b a kk cs i rs ho hb ha hT=>jm_disable' rfl hgh (fun w=>stepG_mark0 .disable (by simp) ho rfl hb rfl H.f_disable (x_disable_n Wl) (x_disable_b Wl) (x_disable_x Wl) (x_disable_f Wl)) hT) hd k
theorem l_enable (H : WgLib F.P Wl) (hgh : h.gh = [8]) (k : slList F.P (· = JM F) n ops Q rest (setL d (.tuple #[]) L) (stay h [9])) (hd : dstOk n d = true := by rfl) :
    slList F.P (· = JM F) n ops Q (⟨d,.call { callee:=.value (.func Wl.enable),args:=#[],argTypes:=ats },ty,pos,af,none⟩ :: rest) L h:=
  l_jm (fun b a kk cs i rs ho hb ha hT=>jm_enable' rfl hgh (fun w=>stepG_mark0 .enable (by simp) ho rfl hb rfl H.f_enable (x_enable_n Wl) (x_enable_b Wl) (x_enable_x Wl) (x_enable_f Wl)) hT) hd k
theorem l_acquire (H : WgLib F.P Wl) (hgh : h.gh = [9]) {x : Operand} (hx : ev L x = some (.pointer (some (stA F.Wg)))) (k : slList F.P (· = JM F) n ops Q rest (setL d (.tuple #[]) L) (stay h [10])) (hd : dstOk n d = true := by rfl) :
    slList F.P (· = JM F) n ops Q (⟨d,.call { callee:=.value (.func Wl.acquire),args:=#[x],argTypes:=ats },ty,pos,af,none⟩ :: rest) L h:=
  l_jm (fun b a kk cs i rs ho hb ha hT=>jm_acquire rfl hgh (fun w=>stepG_markAt .acquire (by simp) ho rfl hb rfl H.f_acquire (x_acquire_n Wl) (x_acquire_b Wl) (x_acquire_x Wl) (x_acquire_f Wl) (one_arg ha hx)) hT) hd k
theorem l_read (H : WgLib F.P Wl) {j : Nat} (hgh : h.gh = [2, j]) {x : Operand} (hx : ev L x = some (.pointer (some (smA F.Wg)))) (k : slList F.P (· = JM F) n ops Q rest (setL d (.tuple #[]) L) h) (hd : dstOk n d = true := by rfl) :
    slList F.P (· = JM F) n ops Q (⟨d,.call { callee:=.value (.func Wl.raceRead),args:=#[x],argTypes:=ats },ty,pos,af,none⟩ :: rest) L h:=
  l_jm (fun b a kk cs i rs ho hb ha hT=>jm_read rfl hgh (fun w _=>stepG_markAt .read (by simp) ho rfl hb rfl H.f_raceRead (x_raceRead_n Wl) (x_raceRead_b Wl) (x_raceRead_x Wl) (x_raceRead_f Wl) (one_arg ha hx)) hT) hd k
theorem l_write (H : WgLib F.P Wl) (hgh : h.gh = [6]) {x : Operand} (hx : ev L x = some (.pointer (some (smA F.Wg)))) (k : slList F.P (· = JM F) n ops Q rest (setL d (.tuple #[]) L) h) (hd : dstOk n d = true := by rfl) :
    slList F.P (· = JM F) n ops Q (⟨d,.call { callee:=.value (.func Wl.raceWrite),args:=#[x],argTypes:=ats },ty,pos,af,none⟩ :: rest) L h:=
  l_jm (fun b a kk cs i rs ho hb ha hT=>jm_write rfl hgh (fun w _=>stepG_markAt .write (by simp) ho rfl hb rfl H.f_raceWrite (x_raceWrite_n Wl) (x_raceWrite_b Wl) (x_raceWrite_x Wl) (x_raceWrite_f Wl) (one_arg ha hx)) hT) hd k
theorem l_bubble (H : WgLib F.P Wl) (hne : h.gh ≠ [10]) (k : slList F.P (· = JM F) n ops Q rest (setL d (.bool false) L) h) (hd : dstOk n d = true := by rfl) :
    slList F.P (· = JM F) n ops Q (⟨d,.call { callee:=.value (.func Wl.inBubble),args:=#[],argTypes:=ats },ty,pos,af,none⟩ :: rest) L h:=
  l_jm (fun b a kk cs i rs ho hb ha hT=>quiet (P:=F.P) (M:=(· = JM F)) rfl rfl (fun main w=>stepG_entry_pure (.bool false) ho rfl hb rfl H.f_inBubble (x_inBubble_n Wl) (x_inBubble_b Wl) (x_inBubble_x Wl) (x_inBubble_f Wl)) hT) hd k
theorem l_unsafe {t t' e : TypeId} {x : Operand} {off : Nat} (hx : ev L x = some (.pointer (some ⟨F.Wg, off, none⟩))) (h1 : F.P.underlying t = some (.pointer e)) (h2 : F.P.underlying t' = some .unsafePointer) (h3 : (F.P.info? e).map (fun i => decide (i.size = 0)) = some false) (hoff : off < 2) (hne : h.gh ≠ [10])
    (k:slList F.P (· = JM F) n ops Q rest (setL d (.pointer (some ⟨F.Wg,off,none⟩)) L) h) (hd:dstOk n d = true:=by rfl):slList F.P (· = JM F) n ops Q (⟨d,.convert t t' x,ty,pos,af,none⟩ :: rest) L h:=
  l_jm (fun b a kk cs i rs ho hb ha hT=>jm_own rfl hne fun w hw ⟨st,sm,hl⟩=>by
    have hc:∃ v,w.cell? ⟨F.Wg,off,none⟩ = some v:=by
      obtain rfl | rfl:off = 0 ∨ off = 1:=by omega
      · exact ⟨_,Go.ConcR.WgAt.cellSt hl⟩
      · exact ⟨_,Go.ConcR.WgAt.cellSm hl⟩
    obtain ⟨v,hc⟩:=hc
    have e1:execOp a.eval ⟨d,.convert t t' x,ty,pos,af,none⟩ = (do pure (.value (← convert t t' (.pointer (some ⟨F.Wg,off,none⟩))))):=by
      rw [← ha.ev hx]; rfl
    have hr:=run_convert_to_unsafe (P:=F.P) h1 h2 h3 hc
    have hev:=events_convert_to_unsafe (P:=F.P) h1 h2 h3 hc #[]
    refine ⟨_,w,#[],h,(stepG_value (v:=.pointer (some ⟨F.Wg,off,none⟩)) (w':=w) ho rfl hb ?_).trans ?_,hw,Grow.refl _ _,by simp,hT⟩
    · rw [e1]; simp [hr,Result.andThen]
    · unfold listed
      rw [e1]
      simp [hr,hev,Result.evThen,seen_none]) hd k
theorem l_jms {ι : Type} {A : ι → Prop} {v : ι → Value} {h' : ι → PHeap} {o : Oper} (hst : ∀ (b : Frame) (a : Act) (kk : List Item) (cs : List Frame) (i : Nat) (rs : List Nat), ops[i]? = some o → b.kind ≠ .early → Agree n L a.tmps → (∀ c, A c → JM F (h' c) (G (b.at (a.put o.dst (v c)) (.inRegion ops rs :: kk)) cs)) → JM F h (G (b.at a (.inRegion ops (i :: rs) :: kk)) cs))
    (hd:dstOk n o.dst = true) (k:∀ c,A c→slList F.P (· = JM F) n ops Q rest (setL o.dst (v c) L) (h' c)):slList F.P (· = JM F) n ops Q (o :: rest) L h:=by
  intro l e
  cases l with
  | nil=>cases e
  | cons i l=>
    simp only [List.map_cons,List.cons.injEq] at e
    intro J hJ b kk cs ds tm hb ha he
    subst hJ
    refine hst b ⟨tm,ds⟩ kk cs i l e.1 hb ha fun c hc=>?_
    have hds:((Act.mk tm ds).put o.dst (v c)) = ⟨((Act.mk tm ds).put o.dst (v c)).tmps,ds⟩:=by cases hx:o.dst <;> rfl
    rw [hds]
    refine k c hc l e.2 _ rfl b kk cs ds _ hb (Agree.put (a:=⟨tm,ds⟩) ha (fun i hi=>?_) _) he
    rw [hi] at hd
    exact Nat.le_of_ble_eq_true hd
theorem l_addAt (H : WgLib F.P Wl) {j : Nat} (hj : j ≤ 4) (hgh : h.gh = [1, j]) {x y : Operand} (hx : ev L x = some (.pointer (some (stA F.Wg)))) (hy : ev L y = some (.int .u64 KK))
    (k:∀ c:Nat,c ≤ j→slList F.P (· = JM F) n ops Q rest (setL d (.int .u64 (((c:Int) + 1) * KK)) L) (stay h [2,j])) (hd:dstOk n d = true:=by rfl) :
    slList F.P (· = JM F) n ops Q (⟨d,.call { callee:=.value (.func Wl.addU64),args:=#[x,y],argTypes:=ats },ty,pos,af,none⟩ :: rest) L h:=
  l_jms (A:=(· ≤ j)) (v:=fun c:Nat=>.int .u64 (((c:Int) + 1) * KK)) (h':=fun _=>stay h [2,j]) (fun b a kk cs i rs ho hb ha hT=>jm_add (j:=j) (g':=fun c=>G (b.at (a.put d (.int .u64 (((c:Int) + 1) * KK))) (.inRegion ops rs :: kk)) cs) rfl hgh (fun c hc w hw=>by
    have e:IntKind.u64.wrap ((c:Int) * KK + KK) = ((c:Int) + 1) * KK:=by rw [IntKind.wrap_u64]; simp only [KK]; omega
    have:=stepG_add_atomic (P:=F.P) (main:=true) (w:=w) (kk:=kk) (cs:=cs) (rest:=rs) (b:=b) ho rfl hb rfl H.f_addU64 (x_addU64_n Wl) (x_addU64_b Wl) (x_addU64_x Wl) .u64 (x_addU64_f Wl) (ha.ev hx) (ha.ev hy) (Go.ConcR.WgAt.cellSt hw) (Go.ConcR.WgAt.thaw hw 0)
    rw [e] at this
    exact this) hT) hd k
theorem l_loadAt (H : WgLib F.P Wl) {c : Nat} (hgh : h.gh = [5, c]) {x : Operand} (hx : ev L x = some (.pointer (some (stA F.Wg))))
    (k:∀ c':Nat,c' ≤ c→slList F.P (· = JM F) n ops Q rest (setL d (.int .u64 ((c':Int) * KK)) L) (stay h (if c' = 0 then [8] else [5,c']))) (hd:dstOk n d = true:=by rfl) :
    slList F.P (· = JM F) n ops Q (⟨d,.call { callee:=.value (.func Wl.loadU64),args:=#[x],argTypes:=ats },ty,pos,af,none⟩ :: rest) L h:=
  l_jms (A:=(· ≤ c)) (v:=fun c':Nat=>.int .u64 ((c':Int) * KK)) (h':=fun c'=>stay h (if c' = 0 then [8] else [5,c'])) (fun b a kk cs i rs ho hb ha hT=>jm_load (c:=c) (g':=fun c'=>G (b.at (a.put d (.int .u64 ((c':Int) * KK))) (.inRegion ops rs :: kk)) cs) rfl hgh (fun c' _ w hw=>
    stepG_load_atomic (P:=F.P) (main:=true) (w:=w) (kk:=kk) (cs:=cs) (rest:=rs) (b:=b) ho rfl hb rfl H.f_loadU64 (x_loadU64_n Wl) (x_loadU64_b Wl) (x_loadU64_x Wl) .u64 (x_loadU64_f Wl) (ha.ev hx) (Go.ConcR.WgAt.cellSt hw)) hT) hd k
theorem l_lastAt (H : WgLib F.P Wl) (hgh : h.gh = [7]) {x : Operand} (hx : ev L x = some (.pointer (some (stA F.Wg)))) (k : slList F.P (· = JM F) n ops Q rest (setL d (.int .u64 0) L) (stay h [8])) (hd : dstOk n d = true := by rfl) :
    slList F.P (· = JM F) n ops Q (⟨d,.call { callee:=.value (.func Wl.loadU64),args:=#[x],argTypes:=ats },ty,pos,af,none⟩ :: rest) L h:=
  l_jm (fun b a kk cs i rs ho hb ha hT=>jm_last rfl hgh (fun w hw=>stepG_load_atomic (P:=F.P) (main:=true) (w:=w) (kk:=kk) (cs:=cs) (rest:=rs) (b:=b) ho rfl hb rfl H.f_loadU64 (x_loadU64_n Wl) (x_loadU64_b Wl) (x_loadU64_x Wl) .u64 (x_loadU64_f Wl) (ha.ev hx) (Go.ConcR.WgAt.cellSt hw)) hT) hd k
theorem l_casAt (H : WgLib F.P Wl) {c : Nat} (hc : 0 < c) (hgh : h.gh = [5, c]) {x y z : Operand} (hx : ev L x = some (.pointer (some (stA F.Wg)))) (hy : ev L y = some (.int .u64 ((c : Int) * KK))) (hz : ev L z = some (.int .u64 ((c : Int) * KK + 1)))
    (k:∀ c':Option Nat,(∀ m,c' = some m→m < c)→slList F.P (· = JM F) n ops Q rest (setL d (.bool c'.isNone) L) (stay h (match c' with | none=>[6] | some m=>[5,m]))) (hd:dstOk n d = true:=by rfl) :
    slList F.P (· = JM F) n ops Q (⟨d,.call { callee:=.value (.func Wl.casU64),args:=#[x,y,z],argTypes:=ats },ty,pos,af,none⟩ :: rest) L h:=
  l_jms (A:=fun c':Option Nat=>∀ m,c' = some m→m < c) (v:=fun c'=>.bool c'.isNone) (h':=fun c'=>stay h (match c' with | none=>[6] | some m=>[5,m])) (fun b a kk cs i rs ho hb ha hT=>jm_cas rfl hgh hc
    (fun w hw=>stepG_cas_hit (P:=F.P) (main:=true) (w:=w) (kk:=kk) (cs:=cs) (rest:=rs) (b:=b) ho rfl hb rfl H.f_casU64 (x_casU64_n Wl) (x_casU64_b Wl) (x_casU64_x Wl) .u64 (x_casU64_f Wl) (ha.ev hx) (ha.ev hy) (ha.ev hz) (Go.ConcR.WgAt.cellSt hw) (Go.ConcR.WgAt.thaw hw 0))
    (fun c' hc' w hw=>stepG_cas_miss (P:=F.P) (main:=true) (w:=w) (kk:=kk) (cs:=cs) (rest:=rs) (b:=b) ho rfl hb rfl H.f_casU64 (x_casU64_n Wl) (x_casU64_b Wl) (x_casU64_x Wl) .u64 (x_casU64_f Wl) (ha.ev hx) (ha.ev hy) (ha.ev hz) (Go.ConcR.WgAt.cellSt hw) (Go.ConcR.WgAt.thaw hw 0) (by simp only [KK]; omega))
    (hT none (fun m e=>by cases e)) (fun c' hc'=>hT (some c') (fun m e=>by cases e; exact hc'))) hd k
theorem l_semAt (H : WgLib F.P Wl) (hgh : h.gh = [6]) {x y : Operand} (hx : ev L x = some (.pointer (some (smA F.Wg)))) (k : slList F.P (· = JM F) n ops Q rest (setL d (.tuple #[]) L) (stay h [7])) (hd : dstOk n d = true := by rfl) :
    slList F.P (· = JM F) n ops Q (⟨d,.call { callee:=.value (.func Wl.semacquire),args:=#[x,y],argTypes:=ats },ty,pos,af,none⟩ :: rest) L h:=
  l_jm (fun b a kk cs i rs ho hb ha hT=>jm_sem rfl hgh rfl (fun w st hw=>stepG_semacquire_wait (P:=F.P) (main:=true) (w:=w) (kk:=kk) (cs:=cs) (rest:=rs) (b:=b) ho rfl rfl H.f_semacquire (x_semacquire_n Wl) (x_semacquire_b Wl) (x_semacquire_x Wl) (x_semacquire_f Wl) (by simp [ha.ev hx]) (Go.ConcR.WgAt.cellSm hw))
    (fun w hw=>by
      have:=stepG_semacquire (P:=F.P) (main:=true) (w:=w) (kk:=kk) (cs:=cs) (rest:=rs) (a:=a) (b:=b) (ad:=smA F.Wg) (n:=1) ho rfl hb rfl H.f_semacquire (x_semacquire_n Wl) (x_semacquire_b Wl) (x_semacquire_x Wl) (x_semacquire_f Wl) (by simp [ha.ev hx]) (Go.ConcR.WgAt.cellSm hw) (by decide) (Go.ConcR.WgAt.thaw hw 1)
      simpa using this) hT) hd k
end
end Go.Sl

/- (*WaitGroup).Wait, walked. No program. -/
import Derived.Test.YtcpkcmgjfcbnpaaGreatDoorSlEc
set_option linter.unusedVariables false
set_option linter.unusedSimpArgs false
set_option linter.unusedSectionVars false

namespace Go.Sl
open Go Go.Conc Go.Conc.Lib Go.ConcR.Gen
open Go.ConcN (WgLive)
open Go.ConcR (KK wgBlock WgAt stA smA rd wr)
section
variable {F:Fk} {Wl:WgLink} {h:PHeap}
set_option maxRecDepth 100000
set_option maxHeartbeats 2000000
attribute [local irreducible] Go.Code.sl slOps slList opv
theorem uLoad_jm (H:WgLib F.P Wl) {c:Nat} (hgh:h.gh = [5,c]):CallsE F.P (· = JM F) Wl.uLoad #[.pointer (some ⟨F.Wg,0,none⟩)] h (fun v h'=>∃ c':Nat,c' ≤ c∧v = .int .u64 ((c':Int) * KK)∧h' = stay h (if c' = 0 then [8] else [5,c'])) noE:=by
  refine calls_of_sl (vs:=[.pointer (some ⟨F.Wg,0,none⟩)]) H.f_uLoad (n:=7) rfl rfl rfl ?_
  simp only [argsL,Nat.reduceAdd]
  refine Rux.go ?_
  refine l_loadAt H hgh (by rfl) fun c' hc=>?_
  refine Rux.go ?_
  exact sl_ret (body_ret (resV_one rfl (res_tmp rfl)) ⟨c',hc,rfl,rfl⟩)
theorem uLoad_last (H:WgLib F.P Wl) (hgh:h.gh = [7]):CallsE F.P (· = JM F) Wl.uLoad #[.pointer (some ⟨F.Wg,0,none⟩)] h (fun v h'=>v = .int .u64 0∧h' = stay h [8]) noE:=by
  refine calls_of_sl (vs:=[.pointer (some ⟨F.Wg,0,none⟩)]) H.f_uLoad (n:=7) rfl rfl rfl ?_
  simp only [argsL,Nat.reduceAdd]
  refine Rux.go ?_
  refine l_lastAt H hgh (by rfl) ?_
  refine Rux.go ?_
  exact sl_ret (body_ret (resV_one rfl (res_tmp rfl)) ⟨rfl,rfl⟩)
theorem uCas_jm (H : WgLib F.P Wl) {c : Nat} (hc : 0 < c) (hgh : h.gh = [5, c]) : CallsE F.P (· = JM F) Wl.uCas #[.pointer (some ⟨F.Wg, 0, none⟩), .int .u64 ((c : Int) * KK), .int .u64 ((c : Int) * KK + 1)] h
    (fun v h'=>∃ c':Option Nat,(∀ m,c' = some m→m < c)∧v = .bool c'.isNone∧h' = stay h (match c' with | none=>[6] | some m=>[5,m])) noE:=by
  refine calls_of_sl (vs:=[.pointer (some ⟨F.Wg,0,none⟩),.int .u64 ((c:Int) * KK),.int .u64 ((c:Int) * KK + 1)]) H.f_uCas (n:=13) rfl rfl rfl ?_
  simp only [argsL,Nat.reduceAdd]
  refine Rux.go ?_
  refine l_casAt H hc hgh (by rfl) (by rfl) (by rfl) fun c' hc'=>?_
  refine Rux.go ?_
  exact sl_ret (body_ret (resV_one rfl (res_tmp rfl)) ⟨c',hc',rfl,rfl⟩)
theorem wait_jm (H:WgLib F.P Wl) (hgh:h.gh = [0,4]):CallsE F.P (· = JM F) Wl.wait #[.pointer (some ⟨F.Wg,0,none⟩)] h (fun v h'=>h' = stay h [10]) noE:=by
  refine calls_of_sl (vs:=[.pointer (some ⟨F.Wg,0,none⟩)]) H.f_wait (n:=84) rfl rfl rfl ?_
  simp only [argsL,Nat.reduceAdd]
  refine Rux.go ?_
  refine l_disable' H hgh ?_
  refine Rux.go ?_
  refine sl_loop (ι:=Nat) (Lo:=fun _=>[(0,.pointer (some ⟨F.Wg,0,none⟩))]) (A:=fun c h'=>c ≤ 4∧h' = stay h [5,c]) (μ:=id) 4 ⟨rfl,trivial⟩ ⟨by decide,rfl⟩ ?_
  rintro c _ ⟨hc4,rfl⟩
  refine Rux.go ?_
  refine l_call H.f_uLoad (nm_uLoad Wl) rfl (vs:=[.pointer (some ⟨F.Wg,0,none⟩)]) (by rfl) (uLoad_jm H rfl) ?_
  rintro _ _ ⟨c',hc',rfl,rfl⟩
  obtain rfl | rfl | rfl | rfl | rfl:c' = 0 ∨ c' = 1 ∨ c' = 2 ∨ c' = 3 ∨ c' = 4:=by omega
  · refine Rux.go ?_
    refine l_enable H rfl ?_
    refine Rux.go ?_
    refine l_unsafe (by rfl) H.underlying_tWgP H.underlying_tUP H.room_tWg (by decide) (by simp [stay]) ?_
    refine Rux.go ?_
    refine l_acquire H rfl (by rfl) ?_
    refine Rux.go ?_
    exact sl_ret (body_ret (E:=noE) (resV_none rfl) rfl)
  · refine Rux.go ?_
    refine l_call H.f_uCas (nm_uCas Wl) rfl (vs:=[.pointer (some ⟨F.Wg,0,none⟩),.int .u64 (((1:Nat):Int) * KK),.int .u64 (((1:Nat):Int) * KK + 1)]) (by rfl) (uCas_jm H (c:=1) (by decide) rfl) ?_
    rintro _ _ ⟨c2,hc2,rfl,rfl⟩
    cases c2 with
    | none=>
      refine Rux.go ?_
      refine l_unsafe (by rfl) H.underlying_tPU32 H.underlying_tUP H.room_tU32 (by decide) (by simp [stay]) ?_
      refine Rux.go ?_
      refine l_write H rfl (by rfl) ?_
      refine Rux.go ?_
      refine l_semAt H rfl (by rfl) ?_
      refine Rux.go ?_
      refine l_call H.f_uLoad (nm_uLoad Wl) rfl (vs:=[.pointer (some ⟨F.Wg,0,none⟩)]) (by rfl) (uLoad_last H rfl) ?_
      rintro _ _ ⟨rfl,rfl⟩
      refine Rux.go ?_
      refine l_enable H rfl ?_
      refine Rux.go ?_
      refine l_unsafe (by rfl) H.underlying_tWgP H.underlying_tUP H.room_tWg (by decide) (by simp [stay]) ?_
      refine Rux.go ?_
      refine l_acquire H rfl (by rfl) ?_
      refine Rux.go ?_
      exact sl_ret (body_ret (E:=noE) (resV_none rfl) rfl)
    | some m=>
      have hm:=hc2 m rfl
      refine Rux.go ?_
      exact ⟨m,by show m < c; omega,⟨rfl,trivial⟩,by omega,rfl⟩
  · refine Rux.go ?_
    refine l_call H.f_uCas (nm_uCas Wl) rfl (vs:=[.pointer (some ⟨F.Wg,0,none⟩),.int .u64 (((2:Nat):Int) * KK),.int .u64 (((2:Nat):Int) * KK + 1)]) (by rfl) (uCas_jm H (c:=2) (by decide) rfl) ?_
    rintro _ _ ⟨c2,hc2,rfl,rfl⟩
    cases c2 with
    | none=>
      refine Rux.go ?_
      refine l_unsafe (by rfl) H.underlying_tPU32 H.underlying_tUP H.room_tU32 (by decide) (by simp [stay]) ?_
      refine Rux.go ?_
      refine l_write H rfl (by rfl) ?_
      refine Rux.go ?_
      refine l_semAt H rfl (by rfl) ?_
      refine Rux.go ?_
      refine l_call H.f_uLoad (nm_uLoad Wl) rfl (vs:=[.pointer (some ⟨F.Wg,0,none⟩)]) (by rfl) (uLoad_last H rfl) ?_
      rintro _ _ ⟨rfl,rfl⟩
      refine Rux.go ?_
      refine l_enable H rfl ?_
      refine Rux.go ?_
      refine l_unsafe (by rfl) H.underlying_tWgP H.underlying_tUP H.room_tWg (by decide) (by simp [stay]) ?_
      refine Rux.go ?_
      refine l_acquire H rfl (by rfl) ?_
      refine Rux.go ?_
      exact sl_ret (body_ret (E:=noE) (resV_none rfl) rfl)
    | some m=>
      have hm:=hc2 m rfl
      refine Rux.go ?_
      exact ⟨m,by show m < c; omega,⟨rfl,trivial⟩,by omega,rfl⟩
  · refine Rux.go ?_
    refine l_call H.f_uCas (nm_uCas Wl) rfl (vs:=[.pointer (some ⟨F.Wg,0,none⟩),.int .u64 (((3:Nat):Int) * KK),.int .u64 (((3:Nat):Int) * KK + 1)]) (by rfl) (uCas_jm H (c:=3) (by decide) rfl) ?_
    rintro _ _ ⟨c2,hc2,rfl,rfl⟩
    cases c2 with
    | none=>
      refine Rux.go ?_
      refine l_unsafe (by rfl) H.underlying_tPU32 H.underlying_tUP H.room_tU32 (by decide) (by simp [stay]) ?_
      refine Rux.go ?_
      refine l_write H rfl (by rfl) ?_
      refine Rux.go ?_
      refine l_semAt H rfl (by rfl) ?_
      refine Rux.go ?_
      refine l_call H.f_uLoad (nm_uLoad Wl) rfl (vs:=[.pointer (some ⟨F.Wg,0,none⟩)]) (by rfl) (uLoad_last H rfl) ?_
      rintro _ _ ⟨rfl,rfl⟩
      refine Rux.go ?_
      refine l_enable H rfl ?_
      refine Rux.go ?_
      refine l_unsafe (by rfl) H.underlying_tWgP H.underlying_tUP H.room_tWg (by decide) (by simp [stay]) ?_
      refine Rux.go ?_
      refine l_acquire H rfl (by rfl) ?_
      refine Rux.go ?_
      exact sl_ret (body_ret (E:=noE) (resV_none rfl) rfl)
    | some m=>
      have hm:=hc2 m rfl
      refine Rux.go ?_
      exact ⟨m,by show m < c; omega,⟨rfl,trivial⟩,by omega,rfl⟩
  · refine Rux.go ?_
    refine l_call H.f_uCas (nm_uCas Wl) rfl (vs:=[.pointer (some ⟨F.Wg,0,none⟩),.int .u64 (((4:Nat):Int) * KK),.int .u64 (((4:Nat):Int) * KK + 1)]) (by rfl) (uCas_jm H (c:=4) (by decide) rfl) ?_
    rintro _ _ ⟨c2,hc2,rfl,rfl⟩
    cases c2 with
    | none=>
      refine Rux.go ?_
      refine l_unsafe (by rfl) H.underlying_tPU32 H.underlying_tUP H.room_tU32 (by decide) (by simp [stay]) ?_
      refine Rux.go ?_
      refine l_write H rfl (by rfl) ?_
      refine Rux.go ?_
      refine l_semAt H rfl (by rfl) ?_
      refine Rux.go ?_
      refine l_call H.f_uLoad (nm_uLoad Wl) rfl (vs:=[.pointer (some ⟨F.Wg,0,none⟩)]) (by rfl) (uLoad_last H rfl) ?_
      rintro _ _ ⟨rfl,rfl⟩
      refine Rux.go ?_
      refine l_enable H rfl ?_
      refine Rux.go ?_
      refine l_unsafe (by rfl) H.underlying_tWgP H.underlying_tUP H.room_tWg (by decide) (by simp [stay]) ?_
      refine Rux.go ?_
      refine l_acquire H rfl (by rfl) ?_
      refine Rux.go ?_
      exact sl_ret (body_ret (E:=noE) (resV_none rfl) rfl)
    | some m=>
      have hm:=hc2 m rfl
      refine Rux.go ?_
      exact ⟨m,by show m < c; omega,⟨rfl,trivial⟩,by omega,rfl⟩
end
end Go.Sl

/- (*WaitGroup).Add(1), joined. No program. -/
import Derived.Test.YtcpkcmgjfcbnpaaGreatDoorSlEb
set_option linter.unusedVariables false
set_option linter.unusedSimpArgs false
set_option linter.unusedSectionVars false

namespace Go.Sl
open Go Go.Conc Go.Conc.Lib Go.ConcR.Gen
open Go.ConcN (WgLive)
open Go.ConcR (KK wgBlock WgAt stA smA rd wr)
theorem sl_app {P : Program} {M : Jdg → Prop} {n : Nat} {c : Code} {Q : Qt} {L : Locals} {h : PHeap} (x : c.sl P M n Q L h) {J : Jdg} (hJ : M J) (b : Frame) (k : List Item) (cs : List Frame) (ds : List Deferred) (tm : Array Value) (hb : b.kind ≠ .early) (ha : Agree n L tm) (he : Ends J n b k cs ds Q) :
    J h (G (b.at ⟨tm,ds⟩ (.code c :: k)) cs):=x J hJ b k cs ds tm hb ha he
section
variable {F:Fk} {Wl:WgLink} {h:PHeap}
set_option maxRecDepth 100000
set_option maxHeartbeats 1000000
attribute [local irreducible] Go.Code.sl slOps slList opv
theorem add_jm (H:WgLib F.P Wl) {j:Nat} (hj:j ≤ 4) (hgh:h.gh = [0,j]):CallsE F.P (· = JM F) Wl.add #[.pointer (some ⟨F.Wg,0,none⟩),.int .i64 1] h (fun v h'=>h' = stay h [3,j]) noE:=by
  intro J hJ c cs hR _
  subst hJ
  have hb:(addFn Wl).body = some (.seq (.cond (.const (.bool true)) (.seq (addHead Wl).1 (.seq (addHead Wl).2.1 (addHead Wl).2.2)) .skip) (addTail Wl)):=rfl
  rw [enter_at _ H.f_add hb]
  have ha:=agree_args (n:=117) [Value.pointer (some ⟨F.Wg,0,none⟩),Value.int .i64 1] (show 2 ≤ 117 by decide)
  have e117:(addFn Wl).ntmps = 117:=rfl
  rw [e117]
  generalize ([Value.pointer (some ⟨F.Wg,0,none⟩),Value.int .i64 1].toArray++Array.replicate (117 - ([Value.pointer (some ⟨F.Wg,0,none⟩),Value.int .i64 1].toArray:Array Value).size) undef) = tm at ha
  have Q:∀ {g g':Goroutine} {h:PHeap},g.status = .running→(∀ main w,stepG F.P main g w = .go g' w)→JM F h g'→JM F h g:=fun hr hs x=>quiet (P:=F.P) (M:=(· = JM F)) rfl hr hs x
  refine Q rfl (fun _ _=>stepG_seq) (Q rfl (fun _ _=>stepG_cond rfl) (Q rfl (fun _ _=>stepG_seq) ?_))
  have p1:(addHead Wl).1.sl F.P (· = JM F) 117 (fun e L h'=>match e with | .nrm=>h' = h∧L.get 0 = some (.pointer (some ⟨F.Wg,0,none⟩))∧L.get 1 = some (.int .i64 1) | _=>False) [(0,.pointer (some ⟨F.Wg,0,none⟩)),(1,.int .i64 1)] h:=by
    simp only [addHead,addFn]
    refine Rux.go ?_
    exact ⟨rfl,rfl,rfl⟩
  refine sl_app p1 rfl (base Wl.add) _ _ [] tm (by simp [base]) ha (ends_nrm fun L1 h1 tm1 q1 ha1=>?_)
  obtain ⟨rfl,z0,z1⟩:=q1
  refine Q rfl (fun _ _=>stepG_seq) ?_
  have p2:(addHead Wl).2.1.sl F.P (· = JM F) 117 (fun e L h'=>match e with | .nrm=>h' = stay h1 [1,j]∧L.get 0 = some (.pointer (some ⟨F.Wg,0,none⟩))∧L.get 1 = some (.int .i64 1) | _=>False) L1 h1:=by
    simp only [addHead,addFn]
    refine Rux.go ?_
    refine l_disable H hgh ?_
    refine Rux.go ?_
    exact ⟨rfl,z0,z1⟩
  refine sl_app p2 rfl (base Wl.add) _ _ [] tm1 (by simp [base]) ha1 (ends_nrm fun L2 h2 tm2 q2 ha2=>?_)
  obtain ⟨rfl,y0,y1⟩:=q2
  refine Q rfl (fun _ _ => stepG_region) (Q rfl (fun _ _ => stepG_defer (o := ⟨none, .defer { callee := .value (.func Wl.enable), args := #[], argTypes := #[] }, 0, "waitgroup.go:84", #[], none⟩) rfl rfl (by simp [base]) rfl) (Q rfl (fun _ _ => stepG_region_end) ?_))
  simp only [Array.map_empty,Act.put]
  refine sl_app (addTail_jm (h:=stay h1 [1,j]) H hj rfl L2 y0 y1) rfl (base Wl.add) [] (c :: cs) [dcall Wl.enable #[]] tm2 (by simp [base]) ha2 ?_
  intro e L3 h3 tm3 q3 ha3
  cases e with
  | ret=>
    obtain rfl:=q3
    intro todo
    refine jm_enable rfl rfl (fun w=>stepG_unwind_entry (v:=.tuple #[]) (evs:=#[Go.ConcR.mk .enable]) rfl H.f_enable (x_enable_n Wl) (x_enable_b Wl) (x_enable_x Wl) (x_enable_f Wl) (by simp [Extern.Race.none_]) (by simp [Go.ConcR.mk]) (by simp [Go.ConcR.mk])) ?_
    refine Q rfl (fun _ w=>stepG_leave rfl rfl H.f_add (results_none rfl _ F.P w) (events_results_none rfl _ _)) ?_
    exact hR (.tuple #[]) _ rfl
  | _=>exact q3.elim
end
end Go.Sl

/- Edits compared; structs compared for being the same. No program. -/
import Derived.Test.YtcpkcmgjfcbnpaaGreatDoorLibH
set_option linter.unusedVariables false
set_option linter.unusedSimpArgs false
set_option linter.unusedSectionVars false

namespace Go.Sl
open Go Go.Conc PHeap
section
variable {P:Program} {d:Nat} {t:TypeId}
theorem eqv_cell {u:TypeId} {D:TypeDesc} {size bytes b1:Nat} {zero z1:Value} (T:Ty P t D size bytes zero) (U:Ty P u (.int .i64) 1 b1 z1) (c:twoInts P t u = true) (a b:Cell):EqV P (d + 2) t (.agg (cellF.f a).toArray) (.agg (cellF.f b).toArray) (decide (a = b)):=by
  unfold twoInts at c
  split at c
  case h_2=>cases c
  rename_i fs ht
  split at c
  case h_2=>cases c
  rename_i f0 f1 hl
  simp only [Bool.and_eq_true,bne_iff_ne,ne_eq,Bool.not_eq_true'] at c
  obtain ⟨⟨⟨⟨⟨⟨⟨c1,c2⟩,c3⟩,c4⟩,c5⟩,c6⟩,c7⟩,c8⟩:=c
  have c3:=Nat.eq_of_beq_eq_true c3
  have c4:=Nat.eq_of_beq_eq_true c4
  have c5:=Nat.eq_of_beq_eq_true c5
  have c6:=Nat.eq_of_beq_eq_true c6
  have eD:D = .struct fs:=Option.some.inj (T.und.symm.trans ht)
  subst eD
  refine eqv_struct (d:=d + 1) T c7 ?_
  rw [hl]
  refine ⟨c1,.int .i64 a.kind,.int .i64 b.kind,decide (a.kind = b.kind),decide (a.light = b.light),?_,?_,?_,⟨c2,.int .i64 a.light,.int .i64 b.light,decide (a.light = b.light),true,?_,?_,?_,rfl,by simp⟩,?_⟩
  · rw [c3,c5]; exact partV_of U rfl
  · rw [c3,c5]; exact partV_of U rfl
  · rw [c5]; exact eqv_int U
  · rw [c4,c6]; exact partV_of U rfl
  · rw [c4,c6]; exact partV_of U rfl
  · rw [c6]; exact eqv_int U
  · obtain ⟨k1,l1⟩:=a
    obtain ⟨k2,l2⟩:=b
    by_cases e1:k1 = k2 <;> by_cases e2:l1 = l2 <;> simp [e1,e2]
def intCell (P:Program) (t u tc:TypeId):Bool:=match P.underlying t with
  | some (.struct fs)=>match fs.toList with
    | [f0, f1] => (f0.name != "_") && (f1.name != "_") && Nat.beq f0.offset 0 && Nat.beq f1.offset 1 && Nat.beq f0.type u && Nat.beq f1.type tc && !(P.stoodInHeld t) && !(P.eqGuardType P.depth t)
    | _=>false
  | _=>false
theorem eqFl_edit {u tc:TypeId} {D:TypeDesc} {fsc:Array Field} {size bytes b1 b2:Nat} {zero z1 z2:Value} (T:Ty P t D size bytes zero) (U:Ty P u (.int .i64) 1 b1 z1) (V:Ty P tc (.struct fsc) 2 b2 z2) (c:intCell P t u tc = true) (cc:twoInts P tc u = true):EqFl P t editF:=by
  unfold intCell at c
  split at c
  case h_2=>cases c
  rename_i fs ht
  split at c
  case h_2=>cases c
  rename_i f0 f1 hl
  simp only [Bool.and_eq_true,bne_iff_ne,ne_eq,Bool.not_eq_true'] at c
  obtain ⟨⟨⟨⟨⟨⟨⟨c1,c2⟩,c3⟩,c4⟩,c5⟩,c6⟩,c7⟩,c8⟩:=c
  have c3:=Nat.eq_of_beq_eq_true c3
  have c4:=Nat.eq_of_beq_eq_true c4
  have c5:=Nat.eq_of_beq_eq_true c5
  have c6:=Nat.eq_of_beq_eq_true c6
  have eD:D = .struct fs:=Option.some.inj (T.und.symm.trans ht)
  subst eD
  refine ⟨fun a b=>?_,c8⟩
  refine eqv_struct (d:=9999) T c7 ?_
  rw [hl]
  refine ⟨c1,.int .i64 a.at',.int .i64 b.at',decide (a.at' = b.at'),decide (a.cell = b.cell),?_,?_,?_,⟨c2,.agg (cellF.f a.cell).toArray,.agg (cellF.f b.cell).toArray,decide (a.cell = b.cell),true,?_,?_,?_,rfl,by simp⟩,?_⟩
  · rw [c3,c5]; exact partV_of U rfl
  · rw [c3,c5]; exact partV_of U rfl
  · rw [c5]; exact eqv_int U
  · rw [c4,c6]; exact partV_of V rfl
  · rw [c4,c6]; exact partV_of V rfl
  · rw [c6]; exact eqv_cell (d:=9997) V U cc _ _
  · obtain ⟨a1,c1⟩:=a
    obtain ⟨a2,c2⟩:=b
    by_cases e1:a1 = a2 <;> by_cases e2:c1 = c2 <;> simp [e1,e2]
end
section
variable {P:Program} {t:TypeId} {n:Nat} {L:Locals} {O:Own} {h:PHeap} {dd:Option Nat} {t' ty:TypeId} {pos:String} {af:Array Edge} {g:Option (Nat × Bool)} {x y:Operand} {α:Type} [DecidableEq α] {E:Flat α} {a b:α}
theorem q_eqS (C:EqFl P t E) (hx:ev L x = some (.agg (E.f a).toArray)) (hy:ev L y = some (.agg (E.f b).toArray)):Opq P n ⟨dd,.binOp .eql t x y t',ty,pos,af,g⟩ L O h (.bool (decide (a = b))):=by
  refine q_of fun H K Ee k=>o_val (s:=fun a=>do eqGuard .eql t x y (a.eval x) (a.eval y); binOp .eql t (a.eval x) (a.eval y)) (fun _ _=>rfl) fun ac ha=>?_
  rw [ha.ev hx,ha.ev hy,slp_bind]
  have eg:∀ (Kk:Unit→PHeap→Prop) (Ee:Value→PHeap→Prop) (H:PHeap),Kk () H→(eqGuard .eql t x y (.agg (E.f a).toArray) (.agg (E.f b).toArray)).slp P Kk Ee H:=fun Kk Ee H z=>by
    show Sem.slp P Kk Ee (if (!P.eqGuardType P.depth t) = true then _ else _) H
    rw [if_pos (by rw [C.grd]; rfl)]
    exact z
  refine eg _ _ _ ?_
  simp only [binOp]
  rw [slp_bind]
  refine C.eqv a b _ _ _ ?_
  rw [slp_pure]; exact k
end
end Go.Sl

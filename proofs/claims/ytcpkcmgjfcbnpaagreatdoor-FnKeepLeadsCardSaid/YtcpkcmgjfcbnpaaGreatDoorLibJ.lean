/- Rules of a calculus of our own, no program: SmS SmFz. -/
import Derived.Test.YtcpkcmgjfcbnpaaGreatDoorSmH
import Derived.Test.YtcpkcmgjfcbnpaaGreatDoorSmE
set_option linter.unusedVariables false
set_option linter.unusedSimpArgs false
set_option linter.unusedSectionVars false
namespace Go.Sl
open Go Go.Conc PHeap
def stOf (w r:Nat):Nat→Nat
  | 0=>0
  | 1=>w
  | 2=>w + r
  | 3=>2 * w + r
  | _=>2 * (w + r)
theorem stOf_le {w r:Nat} (hw:w ≤ 5) (hr:r ≤ 5):∀ i,stOf w r i ≤ 20:=by
  intro i
  unfold stOf; split <;> omega
theorem stOf_mono {w r:Nat}:∀ j,j < 4→stOf w r j ≤ stOf w r (j + 1):=by
  intro j hj
  obtain rfl | rfl | rfl | rfl:j = 0 ∨ j = 1 ∨ j = 2 ∨ j = 3:=by omega
  all_goals simp only [stOf]; omega
section
variable {P:Program} {M:Jdg→Prop} {n:Nat} {Q:Qf} {L:Locals} {O R A:Own} {h:PHeap} {ops:Array Oper} {rest:List Oper}
theorem retF_more {fn:Func} {RR:Value→Own→Prop} {E:List PanicEntry→Own→Prop} {e:Ex} (x:retF P fn n RR E e L O) (hE:∀ ch O,E ch O→E ch (A++O):=by exact fun _ _ x=>x):retF P fn n RR E e L (A++O):=by
  cases e with
  | nrm=>exact fun F h H r tm ha=>x F h H (r.drop (List.sublist_append_right _ _)) tm ha
  | ret=>exact fun F h H r tm ha=>x F h H (r.drop (List.sublist_append_right _ _)) tm ha
  | pan ch=>exact hE ch O x
  | exit _=>exact x
theorem sf_freeze {c:Code} (A:Own) [sp:Sp O A R] (x:∀ h',Le h h'→InB h' A→c.sf P M n Q L R h') (hQ:∀ e L O,Q e L O→Q e L (A++O):=by exact fun e L O x=>retF_more x):c.sf P M n Q L O h:=fun F H r=>by
  have r1:=r.perm sp.p.symm
  obtain ⟨r2,l,i⟩:=r1.lend
  exact sl_mono (x _ l i F H r2) fun e L H' ⟨O',y,z⟩=>⟨A++O',r1.unlend y,hQ e L O' z⟩
theorem sf_fz {c:Code} {fn:Func} {RR:Value→Own→Prop} (A:Own) [sp:Sp O A R] (x:∀ h',Le h h'→InB h' A→c.sf P M n (retF P fn n RR fun _ _=>False) L R h'):c.sf P M n (retF P fn n RR fun _ _=>False) L O h:=
  sf_freeze A x (fun _ _ _ x=>retF_more x (fun _ _ x=>x))
end
theorem R1o {G G' : Prop} (k : G') (h : Hole G' → G := by
    (intro x
     first
      | (refine fp ?_
         first
          | refine Rq ?_ oq
          | refine y_store ?_ (by rfl) (by rfl))
      | refine y_gF (by rfl) (by rfl) (by first|assumption | exact decide_eq_true (by assumption) | exact decide_eq_false (by assumption) | rfl) ?_
      | refine y_gU (by rfl) (by rfl) ?_
     exact x.out)):G:=h ⟨k⟩
section
variable {P:Program} {n:Nat} {L:Locals} {O:Own} {h:PHeap} {d:Nat} {ty:TypeId} {pos:String} {af:Array Edge} {g:Option (Nat × Bool)} {t e:TypeId} {size bytes:Nat} {zero:Value}
theorem z_indexSI {size' bytes' : Nat} {zero' v : Value} {D : TypeDesc} {x i : Operand} {α : Type} {E : Flat α} {xs : List α} {z : Int} (hx : ev L x = some v) (hi : ev L i = some (.int .i64 z)) (s : Sl h v E xs) (h0 : 0 ≤ z) (hk : z < xs.length) [S : Ty P t (.slice e) size' bytes' zero'] [T : Ty P e D size bytes zero] :
    Opq P n ⟨some d,.indexAddr t x i,ty,pos,af,g⟩ L O h (.pointer (some ⟨vb v,vo v + z.toNat * size + 0,none⟩)):=
  q_indexS S T hx hi s h0 (by omega)
end
theorem Dj {G G' : Prop} (k : G') (h : Hole G' → G := by
    (intro x
     repeat first
      | refine aq (by rfl) (by first|exact .inl rfl | exact .inr ⟨_,_,_,_,rfl,by rfl,by rfl,by first|assumption | exact decide_eq_true (by assumption) | exact decide_eq_false (by assumption) | rfl⟩) (fun X h' [_]=>z_indexS (by rfl) (by rfl) (by infer_instance) (by omega)) ?_
      | refine aq (by rfl) (by first|exact .inl rfl | exact .inr ⟨_,_,_,_,rfl,by rfl,by rfl,by first|assumption | exact decide_eq_true (by assumption) | exact decide_eq_false (by assumption) | rfl⟩) (fun X h' [_]=>z_indexSI (by rfl) (by rfl) (by infer_instance) (by omega) (by omega)) ?_
      | refine aq (by rfl) (by first|exact .inl rfl | exact .inr ⟨_,_,_,_,rfl,by rfl,by rfl,by first|assumption | exact decide_eq_true (by assumption) | exact decide_eq_false (by assumption) | rfl⟩) (fun X h' [_]=>oq) ?_
      | refine agF (by rfl) (by rfl) (by rfl) (by first|assumption | exact decide_eq_true (by assumption) | exact decide_eq_false (by assumption) | rfl) ?_
      | refine agU (by rfl) (by rfl) (by rfl) ?_
     exact x.out)):G:=h ⟨k⟩
theorem Wj {G G' : Prop} (k : G') (h : Hole G' → G := by
    (intro x
     repeat first
      | (refine fp ?_
         first
          | refine Rq ?_ (z_indexS (by rfl) (by rfl) (by infer_instance) (by omega))
          | refine Rq ?_ (z_indexSI (by rfl) (by rfl) (by infer_instance) (by omega) (by omega))
          | refine Rq ?_ oq
          | refine y_store ?_ (by rfl) (by rfl))
      | refine y_gF (by rfl) (by rfl) (by first|assumption | exact decide_eq_true (by assumption) | exact decide_eq_false (by assumption) | rfl) ?_
      | refine y_gU (by rfl) (by rfl) ?_
      | refine sf_seq (sf_reg ?_)
      | refine sf_nil ?_
      | refine sf_skip ?_
      | refine sf_reg ?_
      | refine sf_block ?_
      | refine sf_seq ?_
     exact x.out)):G:=h ⟨k⟩
end Go.Sl

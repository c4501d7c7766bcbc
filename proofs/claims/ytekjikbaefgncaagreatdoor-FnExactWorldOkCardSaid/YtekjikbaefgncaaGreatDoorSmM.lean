/- Reading words, scenes, painters, worlds out of a start's memory. No program. -/
import Derived.Test.YtekjikbaefgncaaGreatDoorSmO
set_option linter.unusedVariables false
set_option linter.unusedSimpArgs false
set_option linter.unusedSectionVars false

namespace Go.Sl
open Go Go.Conc PHeap
section
variable {P : Program} {τ : Tys} {t t1 t2 t3 t4 t5 t6 t7 : TypeId} {D : TypeDesc} {bytes : Nat} {zero : Value}
theorem opens_word [T : Ty P t D 10 bytes zero] [F : Flds P t [⟨t1, false, 0, 1⟩, ⟨t2, false, 1, 1⟩, ⟨t3, false, 2, 1⟩, ⟨t4, false, 3, 1⟩, ⟨t5, true, 4, 2⟩, ⟨t6, true, 6, 3⟩, ⟨t7, false, 9, 1⟩]]
    [O1 : OpensR P t1 intR] [O2 : OpensR P t2 intR] [O3 : OpensR P t3 intR] [O4 : OpensR P t4 intR] [O5 : OpensR P t5 (gridR τ)] [O6 : OpensR P t6 editR] [O7 : OpensR P t7 (sliceF intF τ.int)] : OpensR P t (wordR τ) :=
  opens_fs (T := T) (F := F) (fun a => ⟨a.1, a.2.1, a.2.2.1, a.2.2.2.1, a.2.2.2.2.1, a.2.2.2.2.2.1, a.2.2.2.2.2.2⟩) (fun _ => rfl) rfl
    (fs_cons rfl rfl (fs_cons rfl rfl (fs_cons rfl rfl (fs_cons rfl rfl (fs_cons rfl rfl (fs_cons rfl rfl (fs_one (R := sliceF intF τ.int) rfl)))))))
theorem opens_scene [T : Ty P t D 4 bytes zero] [F : Flds P t [⟨t1, true, 0, 2⟩, ⟨t2, false, 2, 1⟩, ⟨t3, false, 3, 1⟩]] [O1 : OpensR P t1 (gridR τ)] [O2 : OpensR P t2 (sliceF intF τ.int)] [O3 : OpensR P t3 (sliceR (sliceF intF τ.int) τ.ints)] : OpensR P t (sceneR τ) :=
  opens_fs (T := T) (F := F) (fun a => ⟨a.1, a.2.1, a.2.2⟩) (fun _ => rfl) rfl (fs_cons rfl rfl (fs_cons (R := sliceF intF τ.int) rfl rfl (fs_one (R := sliceR (sliceF intF τ.int) τ.ints) rfl)))
theorem opens_painter [T : Ty P t D 7 bytes zero] [F : Flds P t [⟨t1, false, 0, 1⟩, ⟨t2, false, 1, 1⟩, ⟨t3, false, 2, 1⟩, ⟨t4, true, 3, 4⟩]] [O1 : OpensR P t1 boolR] [O2 : OpensR P t2 boolR] [O3 : OpensR P t3 intR] [O4 : OpensR P t4 (sceneR τ)] : OpensR P t (painterR τ) :=
  opens_fs (T := T) (F := F) (fun a => ⟨a.1, a.2.1, a.2.2.1, a.2.2.2⟩) (fun _ => rfl) rfl (fs_cons rfl rfl (fs_cons rfl rfl (fs_cons rfl rfl (fs_one rfl))))
theorem opens_world [T : Ty P t D 7 bytes zero] [F : Flds P t [⟨t1, true, 0, 5⟩, ⟨t2, false, 5, 1⟩, ⟨t3, false, 6, 1⟩]] [O1 : OpensR P t1 (keeperR τ)] [O2 : OpensR P t2 (sliceR (painterR τ) τ.painter)] [O3 : OpensR P t3 (sliceR (wordR τ) τ.word)] : OpensR P t (worldR τ) :=
  opens_fs (T := T) (F := F) (fun a => ⟨a.1, a.2.1, a.2.2⟩) (fun _ => rfl) rfl (fs_cons rfl rfl (fs_cons rfl rfl (fs_one rfl)))
end
end Go.Sl

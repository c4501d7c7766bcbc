/-
  DERIVED. GIVEN WITH THE SEED: THE CARDS: each row of YtcefbjpebgofjaaGreatDoorRows.lean that lists a variable, with what it lists TIED to the program's text (the seventh form; the later family's looks); each row that meets fmt, with fmt's text TOLD by the authors' own Lean function (tested against real Go, not proved from fmt's source: count such statements apart). THE CARD IS WHAT COUNTS. Prove the row's statement (the work); the ties are given (YtcefbjpebgofjaaGreatDoorTie.lean); close each card by the builder's one call (the guide's Derived/Test/ToyasCard.lean, 'card_holds'). Laid BY PROGRAM, IN A SANDBOX (cutbox-door.mjs). By AI agents, Wed Nov 11 2026. No macro, syntax, notation, axiom, sorry.
-/
import Derived.Test.YtcefbjpebgofjaaGreatDoorRows
import GoSem.ClaimSeven
namespace Go.Proofs.YtcefbjpebgofjaaGreatDoor
namespace Rows

/-- THE TIED CARD OF 'laws.FnKeepNew'. -/
def fnKeepNewCard : Claim7 := { stood := { row := fnKeepNewRow, standIns := [], harness := (true, "ed8518eec801bf0d71576280b550edba30d01e7e48c7522bd2d5a45b9e430a30"), looks := true }, kinds := [], alts := [], goes := true, laidByText := true, laidKinds := [.handle], laidTests := true, laidLooks := .later }
def FnKeepNewCardSaid : Prop := Claim7.holds Tryz.pinned (.plain (OpenSpec.ofChange fnKeepNewSpec)) fnKeepNewCard

/-- THE SECOND FORM's CARD OF 'laws.FnKeepNew'. -/
def fnKeepNewUptoCard : Claim7 := { stood := { row := fnKeepNewUptoRow, standIns := [], harness := (true, "ed8518eec801bf0d71576280b550edba30d01e7e48c7522bd2d5a45b9e430a30"), looks := true }, kinds := [], alts := [], goes := true, laidByText := true, laidKinds := [.handle], laidTests := true, laidLooks := .later }
def FnKeepNewUptoCardSaid : Prop := Claim7.holds Tryz.pinned (.plain (OpenSpec.upto fnKeepNewSpec)) fnKeepNewUptoCard
end Rows
end Go.Proofs.YtcefbjpebgofjaaGreatDoor

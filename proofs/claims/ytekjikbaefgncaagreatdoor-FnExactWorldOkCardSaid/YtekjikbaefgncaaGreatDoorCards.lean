/-
  DERIVED. GIVEN WITH THE SEED: THE CARDS: each row of YtekjikbaefgncaaGreatDoorRows.lean that lists a variable, with what it lists TIED to the program's text (the seventh form; the later family's looks); each row that meets fmt, with fmt's text TOLD by the authors' own Lean function (tested against real Go, not proved from fmt's source: count such statements apart). THE CARD IS WHAT COUNTS. Prove the row's statement (the work); the ties are given (YtekjikbaefgncaaGreatDoorTie.lean); close each card by the builder's one call (the guide's Derived/Test/ToyasCard.lean, 'card_holds'). Laid BY PROGRAM, IN A SANDBOX (cutbox-door.mjs). By AI agents, Wed Nov 11 2026. No macro, syntax, notation, axiom, sorry.
-/
import Derived.Test.YtekjikbaefgncaaGreatDoorRows
import GoSem.ClaimSeven
namespace Go.Proofs.YtekjikbaefgncaaGreatDoor
namespace Rows

/-- THE TIED CARD OF 'laws.FnExactKeepOk'. -/
def fnExactKeepOkCard : Claim7 := { stood := { row := fnExactKeepOkRow, standIns := [], harness := (true, "ccef46c2e2b38a2a595d81478ee0f6ffc394c22174709775852040e1f68bceb3"), looks := true }, kinds := [], alts := [], goes := true, laidByText := true, laidKinds := [.handle], laidTests := true, laidLooks := .later }
def FnExactKeepOkCardSaid : Prop := Claim7.holds Tryz.pinned (.plain (OpenSpec.ofChange fnExactKeepOkSpec)) fnExactKeepOkCard

/-- THE TIED CARD OF 'laws.FnExactKeepGrid'. -/
def fnExactKeepGridCard : Claim7 := { stood := { row := fnExactKeepGridRow, standIns := [], harness := (true, "ccef46c2e2b38a2a595d81478ee0f6ffc394c22174709775852040e1f68bceb3"), looks := true }, kinds := [], alts := [], goes := true, laidByText := true, laidKinds := [.handle], laidTests := true, laidLooks := .later }
def FnExactKeepGridCardSaid : Prop := Claim7.holds Tryz.pinned (.plain (OpenSpec.ofChange fnExactKeepGridSpec)) fnExactKeepGridCard

/-- THE TIED CARD OF 'laws.FnExactWorldPlay'. -/
def fnExactWorldPlayCard : Claim7 := { stood := { row := fnExactWorldPlayRow, standIns := [], harness := (true, "ccef46c2e2b38a2a595d81478ee0f6ffc394c22174709775852040e1f68bceb3"), looks := true }, kinds := [], alts := [], goes := true, laidByText := true, laidKinds := [.handle], laidTests := true, laidLooks := .later }
def FnExactWorldPlayCardSaid : Prop := Claim7.holds Tryz.pinned (.plain (OpenSpec.ofChange fnExactWorldPlaySpec)) fnExactWorldPlayCard

/-- THE TIED CARD OF 'laws.FnExactKeepTell'. -/
def fnExactKeepTellCard : Claim7 := { stood := { row := fnExactKeepTellRow, standIns := [], harness := (true, "ccef46c2e2b38a2a595d81478ee0f6ffc394c22174709775852040e1f68bceb3"), looks := true }, kinds := [], alts := [], goes := true, laidByText := true, laidKinds := [.handle], laidTests := true, laidLooks := .later }
def FnExactKeepTellCardSaid : Prop := Claim7.holds Tryz.pinned (.plain (OpenSpec.ofChange fnExactKeepTellSpec)) fnExactKeepTellCard

/-- THE TIED CARD OF 'laws.FnExactWorldDo'. -/
def fnExactWorldDoCard : Claim7 := { stood := { row := fnExactWorldDoRow, standIns := [], harness := (true, "ccef46c2e2b38a2a595d81478ee0f6ffc394c22174709775852040e1f68bceb3"), looks := true }, kinds := [], alts := [], goes := true, laidByText := true, laidKinds := [.handle], laidTests := true, laidLooks := .later }
def FnExactWorldDoCardSaid : Prop := Claim7.holds Tryz.pinned (.plain (OpenSpec.ofChange fnExactWorldDoSpec)) fnExactWorldDoCard

/-- THE TIED CARD OF 'laws.FnExactKeepEdit'. -/
def fnExactKeepEditCard : Claim7 := { stood := { row := fnExactKeepEditRow, standIns := [], harness := (true, "ccef46c2e2b38a2a595d81478ee0f6ffc394c22174709775852040e1f68bceb3"), looks := true }, kinds := [], alts := [], goes := true, laidByText := true, laidKinds := [.handle], laidTests := true, laidLooks := .later }
def FnExactKeepEditCardSaid : Prop := Claim7.holds Tryz.pinned (.plain (OpenSpec.ofChange fnExactKeepEditSpec)) fnExactKeepEditCard

/-- THE TIED CARD OF 'laws.FnExactWorldCalm'. -/
def fnExactWorldCalmCard : Claim7 := { stood := { row := fnExactWorldCalmRow, standIns := [], harness := (true, "ccef46c2e2b38a2a595d81478ee0f6ffc394c22174709775852040e1f68bceb3"), looks := true }, kinds := [], alts := [], goes := true, laidByText := true, laidKinds := [.handle], laidTests := true, laidLooks := .later }
def FnExactWorldCalmCardSaid : Prop := Claim7.holds Tryz.pinned (.plain (OpenSpec.ofChange fnExactWorldCalmSpec)) fnExactWorldCalmCard

/-- THE TIED CARD OF 'laws.FnExactKeepHear'. -/
def fnExactKeepHearCard : Claim7 := { stood := { row := fnExactKeepHearRow, standIns := [], harness := (true, "ccef46c2e2b38a2a595d81478ee0f6ffc394c22174709775852040e1f68bceb3"), looks := true }, kinds := [], alts := [], goes := true, laidByText := true, laidKinds := [.handle], laidTests := true, laidLooks := .later }
def FnExactKeepHearCardSaid : Prop := Claim7.holds Tryz.pinned (.plain (OpenSpec.ofChange fnExactKeepHearSpec)) fnExactKeepHearCard

/-- THE TIED CARD OF 'laws.FnExactWorldOk'. -/
def fnExactWorldOkCard : Claim7 := { stood := { row := fnExactWorldOkRow, standIns := [], harness := (true, "ccef46c2e2b38a2a595d81478ee0f6ffc394c22174709775852040e1f68bceb3"), looks := true }, kinds := [], alts := [], goes := true, laidByText := true, laidKinds := [.handle], laidTests := true, laidLooks := .later }
def FnExactWorldOkCardSaid : Prop := Claim7.holds Tryz.pinned (.plain (OpenSpec.ofChange fnExactWorldOkSpec)) fnExactWorldOkCard

/-- THE SECOND FORM's CARD OF 'laws.FnExactKeepOk'. -/
def fnExactKeepOkUptoCard : Claim7 := { stood := { row := fnExactKeepOkUptoRow, standIns := [], harness := (true, "ccef46c2e2b38a2a595d81478ee0f6ffc394c22174709775852040e1f68bceb3"), looks := true }, kinds := [], alts := [], goes := true, laidByText := true, laidKinds := [.handle], laidTests := true, laidLooks := .later }
def FnExactKeepOkUptoCardSaid : Prop := Claim7.holds Tryz.pinned (.plain (OpenSpec.upto fnExactKeepOkSpec)) fnExactKeepOkUptoCard

/-- THE SECOND FORM's CARD OF 'laws.FnExactKeepGrid'. -/
def fnExactKeepGridUptoCard : Claim7 := { stood := { row := fnExactKeepGridUptoRow, standIns := [], harness := (true, "ccef46c2e2b38a2a595d81478ee0f6ffc394c22174709775852040e1f68bceb3"), looks := true }, kinds := [], alts := [], goes := true, laidByText := true, laidKinds := [.handle], laidTests := true, laidLooks := .later }
def FnExactKeepGridUptoCardSaid : Prop := Claim7.holds Tryz.pinned (.plain (OpenSpec.upto fnExactKeepGridSpec)) fnExactKeepGridUptoCard

/-- THE SECOND FORM's CARD OF 'laws.FnExactWorldPlay'. -/
def fnExactWorldPlayUptoCard : Claim7 := { stood := { row := fnExactWorldPlayUptoRow, standIns := [], harness := (true, "ccef46c2e2b38a2a595d81478ee0f6ffc394c22174709775852040e1f68bceb3"), looks := true }, kinds := [], alts := [], goes := true, laidByText := true, laidKinds := [.handle], laidTests := true, laidLooks := .later }
def FnExactWorldPlayUptoCardSaid : Prop := Claim7.holds Tryz.pinned (.plain (OpenSpec.upto fnExactWorldPlaySpec)) fnExactWorldPlayUptoCard

/-- THE SECOND FORM's CARD OF 'laws.FnExactKeepTell'. -/
def fnExactKeepTellUptoCard : Claim7 := { stood := { row := fnExactKeepTellUptoRow, standIns := [], harness := (true, "ccef46c2e2b38a2a595d81478ee0f6ffc394c22174709775852040e1f68bceb3"), looks := true }, kinds := [], alts := [], goes := true, laidByText := true, laidKinds := [.handle], laidTests := true, laidLooks := .later }
def FnExactKeepTellUptoCardSaid : Prop := Claim7.holds Tryz.pinned (.plain (OpenSpec.upto fnExactKeepTellSpec)) fnExactKeepTellUptoCard

/-- THE SECOND FORM's CARD OF 'laws.FnExactWorldDo'. -/
def fnExactWorldDoUptoCard : Claim7 := { stood := { row := fnExactWorldDoUptoRow, standIns := [], harness := (true, "ccef46c2e2b38a2a595d81478ee0f6ffc394c22174709775852040e1f68bceb3"), looks := true }, kinds := [], alts := [], goes := true, laidByText := true, laidKinds := [.handle], laidTests := true, laidLooks := .later }
def FnExactWorldDoUptoCardSaid : Prop := Claim7.holds Tryz.pinned (.plain (OpenSpec.upto fnExactWorldDoSpec)) fnExactWorldDoUptoCard

/-- THE SECOND FORM's CARD OF 'laws.FnExactKeepEdit'. -/
def fnExactKeepEditUptoCard : Claim7 := { stood := { row := fnExactKeepEditUptoRow, standIns := [], harness := (true, "ccef46c2e2b38a2a595d81478ee0f6ffc394c22174709775852040e1f68bceb3"), looks := true }, kinds := [], alts := [], goes := true, laidByText := true, laidKinds := [.handle], laidTests := true, laidLooks := .later }
def FnExactKeepEditUptoCardSaid : Prop := Claim7.holds Tryz.pinned (.plain (OpenSpec.upto fnExactKeepEditSpec)) fnExactKeepEditUptoCard

/-- THE SECOND FORM's CARD OF 'laws.FnExactWorldCalm'. -/
def fnExactWorldCalmUptoCard : Claim7 := { stood := { row := fnExactWorldCalmUptoRow, standIns := [], harness := (true, "ccef46c2e2b38a2a595d81478ee0f6ffc394c22174709775852040e1f68bceb3"), looks := true }, kinds := [], alts := [], goes := true, laidByText := true, laidKinds := [.handle], laidTests := true, laidLooks := .later }
def FnExactWorldCalmUptoCardSaid : Prop := Claim7.holds Tryz.pinned (.plain (OpenSpec.upto fnExactWorldCalmSpec)) fnExactWorldCalmUptoCard

/-- THE SECOND FORM's CARD OF 'laws.FnExactKeepHear'. -/
def fnExactKeepHearUptoCard : Claim7 := { stood := { row := fnExactKeepHearUptoRow, standIns := [], harness := (true, "ccef46c2e2b38a2a595d81478ee0f6ffc394c22174709775852040e1f68bceb3"), looks := true }, kinds := [], alts := [], goes := true, laidByText := true, laidKinds := [.handle], laidTests := true, laidLooks := .later }
def FnExactKeepHearUptoCardSaid : Prop := Claim7.holds Tryz.pinned (.plain (OpenSpec.upto fnExactKeepHearSpec)) fnExactKeepHearUptoCard

/-- THE SECOND FORM's CARD OF 'laws.FnExactWorldOk'. -/
def fnExactWorldOkUptoCard : Claim7 := { stood := { row := fnExactWorldOkUptoRow, standIns := [], harness := (true, "ccef46c2e2b38a2a595d81478ee0f6ffc394c22174709775852040e1f68bceb3"), looks := true }, kinds := [], alts := [], goes := true, laidByText := true, laidKinds := [.handle], laidTests := true, laidLooks := .later }
def FnExactWorldOkUptoCardSaid : Prop := Claim7.holds Tryz.pinned (.plain (OpenSpec.upto fnExactWorldOkSpec)) fnExactWorldOkUptoCard
end Rows
end Go.Proofs.YtekjikbaefgncaaGreatDoor

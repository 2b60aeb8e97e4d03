/-
  DERIVED. GIVEN WITH THE SEED: THE CARDS: each row of YtkdaiadfgfbgmaaGreatDoorRows.lean that lists a variable, with what it lists TIED to the program's text (the seventh form; the later family's looks); each row that meets fmt, with fmt's text TOLD by the authors' own Lean function (tested against real Go, not proved from fmt's source: count such statements apart). THE CARD IS WHAT COUNTS. Prove the row's statement (the work); the ties are given (YtkdaiadfgfbgmaaGreatDoorTie.lean); close each card by the builder's one call (the guide's Derived/Test/ToyasCard.lean, 'card_holds'). Laid BY PROGRAM, IN A SANDBOX (cutbox-door.mjs). By AI agents, Wed Nov 11 2026. No macro, syntax, notation, axiom, sorry.
-/
import Derived.Test.YtkdaiadfgfbgmaaGreatDoorRows
import GoSem.ClaimSeven
namespace Go.Proofs.YtkdaiadfgfbgmaaGreatDoor
namespace Rows

/-- THE TIED CARD OF 'ferialaw38.ToruleRules'. -/
def toruleRulesCard : Claim7 := { stood := { row := toruleRulesRow, standIns := [], harness := (true, "6ce972c746796534119284d36e1f7e01e308257cac7a4a2e70a35b9eaaa7f166"), looks := false }, kinds := [], alts := [], laidByText := true, laidKinds := [.data], laidTests := true, laidLooks := .later }
def ToruleRulesCardSaid : Prop := Claim7.holds Tryz.pinned (.plain (OpenSpec.ofChange toruleRulesSpec)) toruleRulesCard

/-- THE TIED CARD OF 'ferialaw38.ToruleFaces'. -/
def toruleFacesCard : Claim7 := { stood := { row := toruleFacesRow, standIns := [], harness := (true, "6ce972c746796534119284d36e1f7e01e308257cac7a4a2e70a35b9eaaa7f166"), looks := false }, kinds := [], alts := [], laidByText := true, laidKinds := [.data], laidTests := true, laidLooks := .later }
def ToruleFacesCardSaid : Prop := Claim7.holds Tryz.pinned (.plain (OpenSpec.ofChange toruleFacesSpec)) toruleFacesCard

/-- THE TIED CARD OF 'ferialaw38.ToruleAgain'. -/
def toruleAgainCard : Claim7 := { stood := { row := toruleAgainRow, standIns := [], harness := (true, "6ce972c746796534119284d36e1f7e01e308257cac7a4a2e70a35b9eaaa7f166"), looks := false }, kinds := [], alts := [], laidByText := true, laidKinds := [.data], laidTests := true, laidLooks := .later }
def ToruleAgainCardSaid : Prop := Claim7.holds Tryz.pinned (.plain (OpenSpec.ofChange toruleAgainSpec)) toruleAgainCard

/-- THE TIED CARD OF 'ferialaw38.ToruleSets'. -/
def toruleSetsCard : Claim7 := { stood := { row := toruleSetsRow, standIns := [], harness := (true, "6ce972c746796534119284d36e1f7e01e308257cac7a4a2e70a35b9eaaa7f166"), looks := false }, kinds := [], alts := [], laidByText := true, laidKinds := [.data], laidTests := true, laidLooks := .later }
def ToruleSetsCardSaid : Prop := Claim7.holds Tryz.pinned (.plain (OpenSpec.ofChange toruleSetsSpec)) toruleSetsCard

/-- THE SECOND FORM's CARD OF 'ferialaw38.ToruleRules'. -/
def toruleRulesUptoCard : Claim7 := { stood := { row := toruleRulesUptoRow, standIns := [], harness := (true, "6ce972c746796534119284d36e1f7e01e308257cac7a4a2e70a35b9eaaa7f166"), looks := false }, kinds := [], alts := [], laidByText := true, laidKinds := [.data], laidTests := true, laidLooks := .later }
def ToruleRulesUptoCardSaid : Prop := Claim7.holds Tryz.pinned (.plain (OpenSpec.upto toruleRulesSpec)) toruleRulesUptoCard

/-- THE SECOND FORM's CARD OF 'ferialaw38.ToruleFaces'. -/
def toruleFacesUptoCard : Claim7 := { stood := { row := toruleFacesUptoRow, standIns := [], harness := (true, "6ce972c746796534119284d36e1f7e01e308257cac7a4a2e70a35b9eaaa7f166"), looks := false }, kinds := [], alts := [], laidByText := true, laidKinds := [.data], laidTests := true, laidLooks := .later }
def ToruleFacesUptoCardSaid : Prop := Claim7.holds Tryz.pinned (.plain (OpenSpec.upto toruleFacesSpec)) toruleFacesUptoCard

/-- THE SECOND FORM's CARD OF 'ferialaw38.ToruleAgain'. -/
def toruleAgainUptoCard : Claim7 := { stood := { row := toruleAgainUptoRow, standIns := [], harness := (true, "6ce972c746796534119284d36e1f7e01e308257cac7a4a2e70a35b9eaaa7f166"), looks := false }, kinds := [], alts := [], laidByText := true, laidKinds := [.data], laidTests := true, laidLooks := .later }
def ToruleAgainUptoCardSaid : Prop := Claim7.holds Tryz.pinned (.plain (OpenSpec.upto toruleAgainSpec)) toruleAgainUptoCard

/-- THE SECOND FORM's CARD OF 'ferialaw38.ToruleSets'. -/
def toruleSetsUptoCard : Claim7 := { stood := { row := toruleSetsUptoRow, standIns := [], harness := (true, "6ce972c746796534119284d36e1f7e01e308257cac7a4a2e70a35b9eaaa7f166"), looks := false }, kinds := [], alts := [], laidByText := true, laidKinds := [.data], laidTests := true, laidLooks := .later }
def ToruleSetsUptoCardSaid : Prop := Claim7.holds Tryz.pinned (.plain (OpenSpec.upto toruleSetsSpec)) toruleSetsUptoCard
end Rows
end Go.Proofs.YtkdaiadfgfbgmaaGreatDoor

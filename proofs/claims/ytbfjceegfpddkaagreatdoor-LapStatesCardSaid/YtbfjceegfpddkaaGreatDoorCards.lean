/-
  DERIVED. GIVEN WITH THE SEED: THE CARDS: each row of YtbfjceegfpddkaaGreatDoorRows.lean that lists a variable, with what it lists TIED to the program's text (the seventh form; the later family's looks); each row that meets fmt, with fmt's text TOLD by the authors' own Lean function (tested against real Go, not proved from fmt's source: count such statements apart). THE CARD IS WHAT COUNTS. Prove the row's statement (the work); the ties are given (YtbfjceegfpddkaaGreatDoorTie.lean); close each card by the builder's one call (the guide's Derived/Test/ToyasCard.lean, 'card_holds'). Laid BY PROGRAM, IN A SANDBOX (cutbox-door.mjs). By AI agents, Wed Nov 11 2026. No macro, syntax, notation, axiom, sorry.
-/
import Derived.Test.YtbfjceegfpddkaaGreatDoorRows
import GoSem.ClaimSeven
namespace Go.Proofs.YtbfjceegfpddkaaGreatDoor
namespace Rows

/-- THE TIED CARD OF 'ferialaw16.LapStates'. -/
def lapStatesCard : Claim7 := { stood := { row := lapStatesRow, standIns := [], harness := (true, "2c9e04c78eeba32500ac657286e32b82f3d8e42fbbf8657db2d6b2b2d43a7444"), looks := false }, kinds := [], alts := [], laidByText := true, laidKinds := [.data], laidTests := true, laidLooks := .later }
def LapStatesCardSaid : Prop := Claim7.holds Tryz.pinned (.plain (OpenSpec.ofChange lapStatesSpec)) lapStatesCard

/-- THE TIED CARD OF 'ferialaw18.RollKnows'. -/
def rollKnowsCard : Claim7 := { stood := { row := rollKnowsRow, standIns := [], harness := (true, "2c9e04c78eeba32500ac657286e32b82f3d8e42fbbf8657db2d6b2b2d43a7444"), looks := false }, kinds := [], alts := [], laidByText := true, laidKinds := [.data], laidTests := true, laidLooks := .later }
def RollKnowsCardSaid : Prop := Claim7.holds Tryz.pinned (.plain (OpenSpec.ofChange rollKnowsSpec)) rollKnowsCard

/-- THE TIED CARD OF 'ferialaw18.RollDays'. -/
def rollDaysCard : Claim7 := { stood := { row := rollDaysRow, standIns := [], harness := (true, "2c9e04c78eeba32500ac657286e32b82f3d8e42fbbf8657db2d6b2b2d43a7444"), looks := false }, kinds := [], alts := [], laidByText := true, laidKinds := [.data], laidTests := true, laidLooks := .later }
def RollDaysCardSaid : Prop := Claim7.holds Tryz.pinned (.plain (OpenSpec.ofChange rollDaysSpec)) rollDaysCard

/-- THE TIED CARD OF 'ferialaw18.RollGoes'. -/
def rollGoesCard : Claim7 := { stood := { row := rollGoesRow, standIns := [], harness := (true, "2c9e04c78eeba32500ac657286e32b82f3d8e42fbbf8657db2d6b2b2d43a7444"), looks := false }, kinds := [], alts := [], laidByText := true, laidKinds := [.data], laidTests := true, laidLooks := .later }
def RollGoesCardSaid : Prop := Claim7.holds Tryz.pinned (.plain (OpenSpec.ofChange rollGoesSpec)) rollGoesCard

/-- THE SECOND FORM's CARD OF 'ferialaw16.LapStates'. -/
def lapStatesUptoCard : Claim7 := { stood := { row := lapStatesUptoRow, standIns := [], harness := (true, "2c9e04c78eeba32500ac657286e32b82f3d8e42fbbf8657db2d6b2b2d43a7444"), looks := false }, kinds := [], alts := [], laidByText := true, laidKinds := [.data], laidTests := true, laidLooks := .later }
def LapStatesUptoCardSaid : Prop := Claim7.holds Tryz.pinned (.plain (OpenSpec.upto lapStatesSpec)) lapStatesUptoCard

/-- THE SECOND FORM's CARD OF 'ferialaw18.RollKnows'. -/
def rollKnowsUptoCard : Claim7 := { stood := { row := rollKnowsUptoRow, standIns := [], harness := (true, "2c9e04c78eeba32500ac657286e32b82f3d8e42fbbf8657db2d6b2b2d43a7444"), looks := false }, kinds := [], alts := [], laidByText := true, laidKinds := [.data], laidTests := true, laidLooks := .later }
def RollKnowsUptoCardSaid : Prop := Claim7.holds Tryz.pinned (.plain (OpenSpec.upto rollKnowsSpec)) rollKnowsUptoCard

/-- THE SECOND FORM's CARD OF 'ferialaw18.RollDays'. -/
def rollDaysUptoCard : Claim7 := { stood := { row := rollDaysUptoRow, standIns := [], harness := (true, "2c9e04c78eeba32500ac657286e32b82f3d8e42fbbf8657db2d6b2b2d43a7444"), looks := false }, kinds := [], alts := [], laidByText := true, laidKinds := [.data], laidTests := true, laidLooks := .later }
def RollDaysUptoCardSaid : Prop := Claim7.holds Tryz.pinned (.plain (OpenSpec.upto rollDaysSpec)) rollDaysUptoCard

/-- THE SECOND FORM's CARD OF 'ferialaw18.RollGoes'. -/
def rollGoesUptoCard : Claim7 := { stood := { row := rollGoesUptoRow, standIns := [], harness := (true, "2c9e04c78eeba32500ac657286e32b82f3d8e42fbbf8657db2d6b2b2d43a7444"), looks := false }, kinds := [], alts := [], laidByText := true, laidKinds := [.data], laidTests := true, laidLooks := .later }
def RollGoesUptoCardSaid : Prop := Claim7.holds Tryz.pinned (.plain (OpenSpec.upto rollGoesSpec)) rollGoesUptoCard
end Rows
end Go.Proofs.YtbfjceegfpddkaaGreatDoor

/-
  DERIVED. GIVEN WITH THE SEED: THE CARDS: each row of YtcbanlgnanihhaaGreatDoorRows.lean that lists a variable, with what it lists TIED to the program's text (the seventh form; the later family's looks); each row that meets fmt, with fmt's text TOLD by the authors' own Lean function (tested against real Go, not proved from fmt's source: count such statements apart). THE CARD IS WHAT COUNTS. Prove the row's statement (the work); the ties are given (YtcbanlgnanihhaaGreatDoorTie.lean); close each card by the builder's one call (the guide's Derived/Test/ToyasCard.lean, 'card_holds'). Laid BY PROGRAM, IN A SANDBOX (cutbox-door.mjs). By AI agents, Wed Nov 11 2026. No macro, syntax, notation, axiom, sorry.
-/
import Derived.Test.YtcbanlgnanihhaaGreatDoorRows
import GoSem.ClaimSeven
namespace Go.Proofs.YtcbanlgnanihhaaGreatDoor
namespace Rows

/-- THE TIED CARD OF 'ferialaw18.RollKnows'. -/
def rollKnowsCard : Claim7 := { stood := { row := rollKnowsRow, standIns := [], harness := (true, "6ec4a2cda1ae1ebf95908d90e720309f4978e3f3efa28a62f840786ab646eccb"), looks := false }, kinds := [], alts := [], laidByText := true, laidKinds := [.data], laidTests := true, laidLooks := .later }
def RollKnowsCardSaid : Prop := Claim7.holds Tryz.pinned (.plain (OpenSpec.ofChange rollKnowsSpec)) rollKnowsCard

/-- THE TIED CARD OF 'ferialaw19.SeekSome'. -/
def seekSomeCard : Claim7 := { stood := { row := seekSomeRow, standIns := [], harness := (true, "6ec4a2cda1ae1ebf95908d90e720309f4978e3f3efa28a62f840786ab646eccb"), looks := false }, kinds := [], alts := [], laidByText := true, laidKinds := [.data], laidTests := true, laidLooks := .later }
def SeekSomeCardSaid : Prop := Claim7.holds Tryz.pinned (.plain (OpenSpec.ofChange seekSomeSpec)) seekSomeCard

/-- THE TIED CARD OF 'ferialaw18.RollDays'. -/
def rollDaysCard : Claim7 := { stood := { row := rollDaysRow, standIns := [], harness := (true, "6ec4a2cda1ae1ebf95908d90e720309f4978e3f3efa28a62f840786ab646eccb"), looks := false }, kinds := [], alts := [], laidByText := true, laidKinds := [.data], laidTests := true, laidLooks := .later }
def RollDaysCardSaid : Prop := Claim7.holds Tryz.pinned (.plain (OpenSpec.ofChange rollDaysSpec)) rollDaysCard

/-- THE TIED CARD OF 'ferialaw18.RollGoes'. -/
def rollGoesCard : Claim7 := { stood := { row := rollGoesRow, standIns := [], harness := (true, "6ec4a2cda1ae1ebf95908d90e720309f4978e3f3efa28a62f840786ab646eccb"), looks := false }, kinds := [], alts := [], laidByText := true, laidKinds := [.data], laidTests := true, laidLooks := .later }
def RollGoesCardSaid : Prop := Claim7.holds Tryz.pinned (.plain (OpenSpec.ofChange rollGoesSpec)) rollGoesCard

/-- THE TIED CARD OF 'ferialaw19.SeekNext'. -/
def seekNextCard : Claim7 := { stood := { row := seekNextRow, standIns := [], harness := (true, "6ec4a2cda1ae1ebf95908d90e720309f4978e3f3efa28a62f840786ab646eccb"), looks := false }, kinds := [], alts := [], laidByText := true, laidKinds := [.data], laidTests := true, laidLooks := .later }
def SeekNextCardSaid : Prop := Claim7.holds Tryz.pinned (.plain (OpenSpec.ofChange seekNextSpec)) seekNextCard

/-- THE TIED CARD OF 'ferialaw19.SeekBack'. -/
def seekBackCard : Claim7 := { stood := { row := seekBackRow, standIns := [], harness := (true, "6ec4a2cda1ae1ebf95908d90e720309f4978e3f3efa28a62f840786ab646eccb"), looks := false }, kinds := [], alts := [], laidByText := true, laidKinds := [.data], laidTests := true, laidLooks := .later }
def SeekBackCardSaid : Prop := Claim7.holds Tryz.pinned (.plain (OpenSpec.ofChange seekBackSpec)) seekBackCard

/-- THE TIED CARD OF 'ferialaw19.SeekPrev'. -/
def seekPrevCard : Claim7 := { stood := { row := seekPrevRow, standIns := [], harness := (true, "6ec4a2cda1ae1ebf95908d90e720309f4978e3f3efa28a62f840786ab646eccb"), looks := false }, kinds := [], alts := [], laidByText := true, laidKinds := [.data], laidTests := true, laidLooks := .later }
def SeekPrevCardSaid : Prop := Claim7.holds Tryz.pinned (.plain (OpenSpec.ofChange seekPrevSpec)) seekPrevCard

/-- THE SECOND FORM's CARD OF 'ferialaw18.RollKnows'. -/
def rollKnowsUptoCard : Claim7 := { stood := { row := rollKnowsUptoRow, standIns := [], harness := (true, "6ec4a2cda1ae1ebf95908d90e720309f4978e3f3efa28a62f840786ab646eccb"), looks := false }, kinds := [], alts := [], laidByText := true, laidKinds := [.data], laidTests := true, laidLooks := .later }
def RollKnowsUptoCardSaid : Prop := Claim7.holds Tryz.pinned (.plain (OpenSpec.upto rollKnowsSpec)) rollKnowsUptoCard

/-- THE SECOND FORM's CARD OF 'ferialaw19.SeekSome'. -/
def seekSomeUptoCard : Claim7 := { stood := { row := seekSomeUptoRow, standIns := [], harness := (true, "6ec4a2cda1ae1ebf95908d90e720309f4978e3f3efa28a62f840786ab646eccb"), looks := false }, kinds := [], alts := [], laidByText := true, laidKinds := [.data], laidTests := true, laidLooks := .later }
def SeekSomeUptoCardSaid : Prop := Claim7.holds Tryz.pinned (.plain (OpenSpec.upto seekSomeSpec)) seekSomeUptoCard

/-- THE SECOND FORM's CARD OF 'ferialaw18.RollDays'. -/
def rollDaysUptoCard : Claim7 := { stood := { row := rollDaysUptoRow, standIns := [], harness := (true, "6ec4a2cda1ae1ebf95908d90e720309f4978e3f3efa28a62f840786ab646eccb"), looks := false }, kinds := [], alts := [], laidByText := true, laidKinds := [.data], laidTests := true, laidLooks := .later }
def RollDaysUptoCardSaid : Prop := Claim7.holds Tryz.pinned (.plain (OpenSpec.upto rollDaysSpec)) rollDaysUptoCard

/-- THE SECOND FORM's CARD OF 'ferialaw18.RollGoes'. -/
def rollGoesUptoCard : Claim7 := { stood := { row := rollGoesUptoRow, standIns := [], harness := (true, "6ec4a2cda1ae1ebf95908d90e720309f4978e3f3efa28a62f840786ab646eccb"), looks := false }, kinds := [], alts := [], laidByText := true, laidKinds := [.data], laidTests := true, laidLooks := .later }
def RollGoesUptoCardSaid : Prop := Claim7.holds Tryz.pinned (.plain (OpenSpec.upto rollGoesSpec)) rollGoesUptoCard

/-- THE SECOND FORM's CARD OF 'ferialaw19.SeekNext'. -/
def seekNextUptoCard : Claim7 := { stood := { row := seekNextUptoRow, standIns := [], harness := (true, "6ec4a2cda1ae1ebf95908d90e720309f4978e3f3efa28a62f840786ab646eccb"), looks := false }, kinds := [], alts := [], laidByText := true, laidKinds := [.data], laidTests := true, laidLooks := .later }
def SeekNextUptoCardSaid : Prop := Claim7.holds Tryz.pinned (.plain (OpenSpec.upto seekNextSpec)) seekNextUptoCard

/-- THE SECOND FORM's CARD OF 'ferialaw19.SeekBack'. -/
def seekBackUptoCard : Claim7 := { stood := { row := seekBackUptoRow, standIns := [], harness := (true, "6ec4a2cda1ae1ebf95908d90e720309f4978e3f3efa28a62f840786ab646eccb"), looks := false }, kinds := [], alts := [], laidByText := true, laidKinds := [.data], laidTests := true, laidLooks := .later }
def SeekBackUptoCardSaid : Prop := Claim7.holds Tryz.pinned (.plain (OpenSpec.upto seekBackSpec)) seekBackUptoCard

/-- THE SECOND FORM's CARD OF 'ferialaw19.SeekPrev'. -/
def seekPrevUptoCard : Claim7 := { stood := { row := seekPrevUptoRow, standIns := [], harness := (true, "6ec4a2cda1ae1ebf95908d90e720309f4978e3f3efa28a62f840786ab646eccb"), looks := false }, kinds := [], alts := [], laidByText := true, laidKinds := [.data], laidTests := true, laidLooks := .later }
def SeekPrevUptoCardSaid : Prop := Claim7.holds Tryz.pinned (.plain (OpenSpec.upto seekPrevSpec)) seekPrevUptoCard
end Rows
end Go.Proofs.YtcbanlgnanihhaaGreatDoor

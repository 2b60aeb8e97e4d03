/-
  DERIVED. GIVEN WITH THE SEED: THE CARDS: each row of YtchceegpbfecaaaGreatDoorRows.lean that lists a variable, with what it lists TIED to the program's text (the seventh form; the later family's looks); each row that meets fmt, with fmt's text TOLD by the authors' own Lean function (tested against real Go, not proved from fmt's source: count such statements apart). THE CARD IS WHAT COUNTS. Prove the row's statement (the work); the ties are given (YtchceegpbfecaaaGreatDoorTie.lean); close each card by the builder's one call (the guide's Derived/Test/ToyasCard.lean, 'card_holds'). Laid BY PROGRAM, IN A SANDBOX (cutbox-door.mjs). By AI agents, Wed Nov 11 2026. No macro, syntax, notation, axiom, sorry.
-/
import Derived.Test.YtchceegpbfecaaaGreatDoorRows
import GoSem.ClaimSeven
namespace Go.Proofs.YtchceegpbfecaaaGreatDoor
namespace Rows

/-- THE TIED CARD OF 'ferialaw21.MeetEqual'. -/
def meetEqualCard : Claim7 := { stood := { row := meetEqualRow, standIns := [], harness := (true, "1612dae04aa09d03d2ee3575b3665391f7bef697904db3205a6dd9d893557661"), looks := false }, kinds := [], alts := [], laidByText := true, laidKinds := [.data], laidTests := true, laidLooks := .later }
def MeetEqualCardSaid : Prop := Claim7.holds Tryz.pinned (.plain (OpenSpec.ofChange meetEqualSpec)) meetEqualCard

/-- THE TIED CARD OF 'ferialaw21.MeetWork'. -/
def meetWorkCard : Claim7 := { stood := { row := meetWorkRow, standIns := [], harness := (true, "1612dae04aa09d03d2ee3575b3665391f7bef697904db3205a6dd9d893557661"), looks := false }, kinds := [], alts := [], laidByText := true, laidKinds := [.data], laidTests := true, laidLooks := .later }
def MeetWorkCardSaid : Prop := Claim7.holds Tryz.pinned (.plain (OpenSpec.ofChange meetWorkSpec)) meetWorkCard

/-- THE TIED CARD OF 'ferialaw21.MeetBoth'. -/
def meetBothCard : Claim7 := { stood := { row := meetBothRow, standIns := [], harness := (true, "1612dae04aa09d03d2ee3575b3665391f7bef697904db3205a6dd9d893557661"), looks := false }, kinds := [], alts := [], laidByText := true, laidKinds := [.data], laidTests := true, laidLooks := .later }
def MeetBothCardSaid : Prop := Claim7.holds Tryz.pinned (.plain (OpenSpec.ofChange meetBothSpec)) meetBothCard

/-- THE TIED CARD OF 'ferialaw21.MeetWithin'. -/
def meetWithinCard : Claim7 := { stood := { row := meetWithinRow, standIns := [], harness := (true, "1612dae04aa09d03d2ee3575b3665391f7bef697904db3205a6dd9d893557661"), looks := false }, kinds := [], alts := [], laidByText := true, laidKinds := [.data], laidTests := true, laidLooks := .later }
def MeetWithinCardSaid : Prop := Claim7.holds Tryz.pinned (.plain (OpenSpec.ofChange meetWithinSpec)) meetWithinCard

/-- THE TIED CARD OF 'ferialaw20.TallyCounts'. -/
def tallyCountsCard : Claim7 := { stood := { row := tallyCountsRow, standIns := [], harness := (true, "1612dae04aa09d03d2ee3575b3665391f7bef697904db3205a6dd9d893557661"), looks := false }, kinds := [], alts := [], laidByText := true, laidKinds := [.data], laidTests := true, laidLooks := .later }
def TallyCountsCardSaid : Prop := Claim7.holds Tryz.pinned (.plain (OpenSpec.ofChange tallyCountsSpec)) tallyCountsCard

/-- THE TIED CARD OF 'ferialaw20.TallyParts'. -/
def tallyPartsCard : Claim7 := { stood := { row := tallyPartsRow, standIns := [], harness := (true, "1612dae04aa09d03d2ee3575b3665391f7bef697904db3205a6dd9d893557661"), looks := false }, kinds := [], alts := [], laidByText := true, laidKinds := [.data], laidTests := true, laidLooks := .later }
def TallyPartsCardSaid : Prop := Claim7.holds Tryz.pinned (.plain (OpenSpec.ofChange tallyPartsSpec)) tallyPartsCard

/-- THE TIED CARD OF 'ferialaw20.TallyNth'. -/
def tallyNthCard : Claim7 := { stood := { row := tallyNthRow, standIns := [], harness := (true, "1612dae04aa09d03d2ee3575b3665391f7bef697904db3205a6dd9d893557661"), looks := false }, kinds := [], alts := [], laidByText := true, laidKinds := [.data], laidTests := true, laidLooks := .later }
def TallyNthCardSaid : Prop := Claim7.holds Tryz.pinned (.plain (OpenSpec.ofChange tallyNthSpec)) tallyNthCard

/-- THE TIED CARD OF 'ferialaw20.TallyYears'. -/
def tallyYearsCard : Claim7 := { stood := { row := tallyYearsRow, standIns := [], harness := (true, "1612dae04aa09d03d2ee3575b3665391f7bef697904db3205a6dd9d893557661"), looks := false }, kinds := [], alts := [], laidByText := true, laidKinds := [.data], laidTests := true, laidLooks := .later }
def TallyYearsCardSaid : Prop := Claim7.holds Tryz.pinned (.plain (OpenSpec.ofChange tallyYearsSpec)) tallyYearsCard

/-- THE SECOND FORM's CARD OF 'ferialaw21.MeetEqual'. -/
def meetEqualUptoCard : Claim7 := { stood := { row := meetEqualUptoRow, standIns := [], harness := (true, "1612dae04aa09d03d2ee3575b3665391f7bef697904db3205a6dd9d893557661"), looks := false }, kinds := [], alts := [], laidByText := true, laidKinds := [.data], laidTests := true, laidLooks := .later }
def MeetEqualUptoCardSaid : Prop := Claim7.holds Tryz.pinned (.plain (OpenSpec.upto meetEqualSpec)) meetEqualUptoCard

/-- THE SECOND FORM's CARD OF 'ferialaw21.MeetWork'. -/
def meetWorkUptoCard : Claim7 := { stood := { row := meetWorkUptoRow, standIns := [], harness := (true, "1612dae04aa09d03d2ee3575b3665391f7bef697904db3205a6dd9d893557661"), looks := false }, kinds := [], alts := [], laidByText := true, laidKinds := [.data], laidTests := true, laidLooks := .later }
def MeetWorkUptoCardSaid : Prop := Claim7.holds Tryz.pinned (.plain (OpenSpec.upto meetWorkSpec)) meetWorkUptoCard

/-- THE SECOND FORM's CARD OF 'ferialaw21.MeetBoth'. -/
def meetBothUptoCard : Claim7 := { stood := { row := meetBothUptoRow, standIns := [], harness := (true, "1612dae04aa09d03d2ee3575b3665391f7bef697904db3205a6dd9d893557661"), looks := false }, kinds := [], alts := [], laidByText := true, laidKinds := [.data], laidTests := true, laidLooks := .later }
def MeetBothUptoCardSaid : Prop := Claim7.holds Tryz.pinned (.plain (OpenSpec.upto meetBothSpec)) meetBothUptoCard

/-- THE SECOND FORM's CARD OF 'ferialaw21.MeetWithin'. -/
def meetWithinUptoCard : Claim7 := { stood := { row := meetWithinUptoRow, standIns := [], harness := (true, "1612dae04aa09d03d2ee3575b3665391f7bef697904db3205a6dd9d893557661"), looks := false }, kinds := [], alts := [], laidByText := true, laidKinds := [.data], laidTests := true, laidLooks := .later }
def MeetWithinUptoCardSaid : Prop := Claim7.holds Tryz.pinned (.plain (OpenSpec.upto meetWithinSpec)) meetWithinUptoCard

/-- THE SECOND FORM's CARD OF 'ferialaw20.TallyCounts'. -/
def tallyCountsUptoCard : Claim7 := { stood := { row := tallyCountsUptoRow, standIns := [], harness := (true, "1612dae04aa09d03d2ee3575b3665391f7bef697904db3205a6dd9d893557661"), looks := false }, kinds := [], alts := [], laidByText := true, laidKinds := [.data], laidTests := true, laidLooks := .later }
def TallyCountsUptoCardSaid : Prop := Claim7.holds Tryz.pinned (.plain (OpenSpec.upto tallyCountsSpec)) tallyCountsUptoCard

/-- THE SECOND FORM's CARD OF 'ferialaw20.TallyParts'. -/
def tallyPartsUptoCard : Claim7 := { stood := { row := tallyPartsUptoRow, standIns := [], harness := (true, "1612dae04aa09d03d2ee3575b3665391f7bef697904db3205a6dd9d893557661"), looks := false }, kinds := [], alts := [], laidByText := true, laidKinds := [.data], laidTests := true, laidLooks := .later }
def TallyPartsUptoCardSaid : Prop := Claim7.holds Tryz.pinned (.plain (OpenSpec.upto tallyPartsSpec)) tallyPartsUptoCard

/-- THE SECOND FORM's CARD OF 'ferialaw20.TallyNth'. -/
def tallyNthUptoCard : Claim7 := { stood := { row := tallyNthUptoRow, standIns := [], harness := (true, "1612dae04aa09d03d2ee3575b3665391f7bef697904db3205a6dd9d893557661"), looks := false }, kinds := [], alts := [], laidByText := true, laidKinds := [.data], laidTests := true, laidLooks := .later }
def TallyNthUptoCardSaid : Prop := Claim7.holds Tryz.pinned (.plain (OpenSpec.upto tallyNthSpec)) tallyNthUptoCard

/-- THE SECOND FORM's CARD OF 'ferialaw20.TallyYears'. -/
def tallyYearsUptoCard : Claim7 := { stood := { row := tallyYearsUptoRow, standIns := [], harness := (true, "1612dae04aa09d03d2ee3575b3665391f7bef697904db3205a6dd9d893557661"), looks := false }, kinds := [], alts := [], laidByText := true, laidKinds := [.data], laidTests := true, laidLooks := .later }
def TallyYearsUptoCardSaid : Prop := Claim7.holds Tryz.pinned (.plain (OpenSpec.upto tallyYearsSpec)) tallyYearsUptoCard
end Rows
end Go.Proofs.YtchceegpbfecaaaGreatDoor

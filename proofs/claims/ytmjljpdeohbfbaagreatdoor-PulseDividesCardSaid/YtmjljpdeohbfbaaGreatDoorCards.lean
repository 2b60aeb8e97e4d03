/-
  DERIVED. GIVEN WITH THE SEED: THE CARDS: each row of YtmjljpdeohbfbaaGreatDoorRows.lean that lists a variable, with what it lists TIED to the program's text (the seventh form; the later family's looks); each row that meets fmt, with fmt's text TOLD by the authors' own Lean function (tested against real Go, not proved from fmt's source: count such statements apart). THE CARD IS WHAT COUNTS. Prove the row's statement (the work); the ties are given (YtmjljpdeohbfbaaGreatDoorTie.lean); close each card by the builder's one call (the guide's Derived/Test/ToyasCard.lean, 'card_holds'). Laid BY PROGRAM, IN A SANDBOX (cutbox-door.mjs). By AI agents, Wed Nov 11 2026. No macro, syntax, notation, axiom, sorry.
-/
import Derived.Test.YtmjljpdeohbfbaaGreatDoorRows
import GoSem.ClaimSeven
namespace Go.Proofs.YtmjljpdeohbfbaaGreatDoor
namespace Rows

/-- THE TIED CARD OF 'ferialaw21.MeetEqual'. -/
def meetEqualCard : Claim7 := { stood := { row := meetEqualRow, standIns := [], harness := (true, "32c84720f7d26fc018e86c2b85a3cab257fe7c9e9ef35c53e91b898ded10b86f"), looks := false }, kinds := [], alts := [], laidByText := true, laidKinds := [.data], laidTests := true, laidLooks := .later }
def MeetEqualCardSaid : Prop := Claim7.holds Tryz.pinned (.plain (OpenSpec.ofChange meetEqualSpec)) meetEqualCard

/-- THE TIED CARD OF 'ferialaw21.MeetWork'. -/
def meetWorkCard : Claim7 := { stood := { row := meetWorkRow, standIns := [], harness := (true, "32c84720f7d26fc018e86c2b85a3cab257fe7c9e9ef35c53e91b898ded10b86f"), looks := false }, kinds := [], alts := [], laidByText := true, laidKinds := [.data], laidTests := true, laidLooks := .later }
def MeetWorkCardSaid : Prop := Claim7.holds Tryz.pinned (.plain (OpenSpec.ofChange meetWorkSpec)) meetWorkCard

/-- THE TIED CARD OF 'ferialaw21.MeetBoth'. -/
def meetBothCard : Claim7 := { stood := { row := meetBothRow, standIns := [], harness := (true, "32c84720f7d26fc018e86c2b85a3cab257fe7c9e9ef35c53e91b898ded10b86f"), looks := false }, kinds := [], alts := [], laidByText := true, laidKinds := [.data], laidTests := true, laidLooks := .later }
def MeetBothCardSaid : Prop := Claim7.holds Tryz.pinned (.plain (OpenSpec.ofChange meetBothSpec)) meetBothCard

/-- THE TIED CARD OF 'ferialaw21.MeetWithin'. -/
def meetWithinCard : Claim7 := { stood := { row := meetWithinRow, standIns := [], harness := (true, "32c84720f7d26fc018e86c2b85a3cab257fe7c9e9ef35c53e91b898ded10b86f"), looks := false }, kinds := [], alts := [], laidByText := true, laidKinds := [.data], laidTests := true, laidLooks := .later }
def MeetWithinCardSaid : Prop := Claim7.holds Tryz.pinned (.plain (OpenSpec.ofChange meetWithinSpec)) meetWithinCard

/-- THE TIED CARD OF 'ferialaw23.PulseBrief'. -/
def pulseBriefCard : Claim7 := { stood := { row := pulseBriefRow, standIns := [], harness := (true, "32c84720f7d26fc018e86c2b85a3cab257fe7c9e9ef35c53e91b898ded10b86f"), looks := false }, kinds := [], alts := [], laidByText := true, laidKinds := [.data], laidTests := true, laidLooks := .later }
def PulseBriefCardSaid : Prop := Claim7.holds Tryz.pinned (.plain (OpenSpec.ofChange pulseBriefSpec)) pulseBriefCard

/-- THE TIED CARD OF 'ferialaw23.PulseSeconds'. -/
def pulseSecondsCard : Claim7 := { stood := { row := pulseSecondsRow, standIns := [], harness := (true, "32c84720f7d26fc018e86c2b85a3cab257fe7c9e9ef35c53e91b898ded10b86f"), looks := false }, kinds := [], alts := [], laidByText := true, laidKinds := [.data], laidTests := true, laidLooks := .later }
def PulseSecondsCardSaid : Prop := Claim7.holds Tryz.pinned (.plain (OpenSpec.ofChange pulseSecondsSpec)) pulseSecondsCard

/-- THE TIED CARD OF 'ferialaw23.PulseDivides'. -/
def pulseDividesCard : Claim7 := { stood := { row := pulseDividesRow, standIns := [], harness := (true, "32c84720f7d26fc018e86c2b85a3cab257fe7c9e9ef35c53e91b898ded10b86f"), looks := false }, kinds := [], alts := [], laidByText := true, laidKinds := [.data], laidTests := true, laidLooks := .later }
def PulseDividesCardSaid : Prop := Claim7.holds Tryz.pinned (.plain (OpenSpec.ofChange pulseDividesSpec)) pulseDividesCard

/-- THE TIED CARD OF 'ferialaw45.BoundHolds'. -/
def boundHoldsCard : Claim7 := { stood := { row := boundHoldsRow, standIns := [], harness := (true, "32c84720f7d26fc018e86c2b85a3cab257fe7c9e9ef35c53e91b898ded10b86f"), looks := false }, kinds := [], alts := [], laidByText := true, laidKinds := [.data], laidTests := true, laidLooks := .later }
def BoundHoldsCardSaid : Prop := Claim7.holds Tryz.pinned (.plain (OpenSpec.ofChange boundHoldsSpec)) boundHoldsCard

/-- THE TIED CARD OF 'ferialaw22.CastBrief'. -/
def castBriefCard : Claim7 := { stood := { row := castBriefRow, standIns := [], harness := (true, "32c84720f7d26fc018e86c2b85a3cab257fe7c9e9ef35c53e91b898ded10b86f"), looks := false }, kinds := [], alts := [], laidByText := true, laidKinds := [.data], laidTests := true, laidLooks := .later }
def CastBriefCardSaid : Prop := Claim7.holds Tryz.pinned (.plain (OpenSpec.ofChange castBriefSpec)) castBriefCard

/-- THE SECOND FORM's CARD OF 'ferialaw21.MeetEqual'. -/
def meetEqualUptoCard : Claim7 := { stood := { row := meetEqualUptoRow, standIns := [], harness := (true, "32c84720f7d26fc018e86c2b85a3cab257fe7c9e9ef35c53e91b898ded10b86f"), looks := false }, kinds := [], alts := [], laidByText := true, laidKinds := [.data], laidTests := true, laidLooks := .later }
def MeetEqualUptoCardSaid : Prop := Claim7.holds Tryz.pinned (.plain (OpenSpec.upto meetEqualSpec)) meetEqualUptoCard

/-- THE SECOND FORM's CARD OF 'ferialaw21.MeetWork'. -/
def meetWorkUptoCard : Claim7 := { stood := { row := meetWorkUptoRow, standIns := [], harness := (true, "32c84720f7d26fc018e86c2b85a3cab257fe7c9e9ef35c53e91b898ded10b86f"), looks := false }, kinds := [], alts := [], laidByText := true, laidKinds := [.data], laidTests := true, laidLooks := .later }
def MeetWorkUptoCardSaid : Prop := Claim7.holds Tryz.pinned (.plain (OpenSpec.upto meetWorkSpec)) meetWorkUptoCard

/-- THE SECOND FORM's CARD OF 'ferialaw21.MeetBoth'. -/
def meetBothUptoCard : Claim7 := { stood := { row := meetBothUptoRow, standIns := [], harness := (true, "32c84720f7d26fc018e86c2b85a3cab257fe7c9e9ef35c53e91b898ded10b86f"), looks := false }, kinds := [], alts := [], laidByText := true, laidKinds := [.data], laidTests := true, laidLooks := .later }
def MeetBothUptoCardSaid : Prop := Claim7.holds Tryz.pinned (.plain (OpenSpec.upto meetBothSpec)) meetBothUptoCard

/-- THE SECOND FORM's CARD OF 'ferialaw21.MeetWithin'. -/
def meetWithinUptoCard : Claim7 := { stood := { row := meetWithinUptoRow, standIns := [], harness := (true, "32c84720f7d26fc018e86c2b85a3cab257fe7c9e9ef35c53e91b898ded10b86f"), looks := false }, kinds := [], alts := [], laidByText := true, laidKinds := [.data], laidTests := true, laidLooks := .later }
def MeetWithinUptoCardSaid : Prop := Claim7.holds Tryz.pinned (.plain (OpenSpec.upto meetWithinSpec)) meetWithinUptoCard

/-- THE SECOND FORM's CARD OF 'ferialaw23.PulseBrief'. -/
def pulseBriefUptoCard : Claim7 := { stood := { row := pulseBriefUptoRow, standIns := [], harness := (true, "32c84720f7d26fc018e86c2b85a3cab257fe7c9e9ef35c53e91b898ded10b86f"), looks := false }, kinds := [], alts := [], laidByText := true, laidKinds := [.data], laidTests := true, laidLooks := .later }
def PulseBriefUptoCardSaid : Prop := Claim7.holds Tryz.pinned (.plain (OpenSpec.upto pulseBriefSpec)) pulseBriefUptoCard

/-- THE SECOND FORM's CARD OF 'ferialaw23.PulseSeconds'. -/
def pulseSecondsUptoCard : Claim7 := { stood := { row := pulseSecondsUptoRow, standIns := [], harness := (true, "32c84720f7d26fc018e86c2b85a3cab257fe7c9e9ef35c53e91b898ded10b86f"), looks := false }, kinds := [], alts := [], laidByText := true, laidKinds := [.data], laidTests := true, laidLooks := .later }
def PulseSecondsUptoCardSaid : Prop := Claim7.holds Tryz.pinned (.plain (OpenSpec.upto pulseSecondsSpec)) pulseSecondsUptoCard

/-- THE SECOND FORM's CARD OF 'ferialaw23.PulseDivides'. -/
def pulseDividesUptoCard : Claim7 := { stood := { row := pulseDividesUptoRow, standIns := [], harness := (true, "32c84720f7d26fc018e86c2b85a3cab257fe7c9e9ef35c53e91b898ded10b86f"), looks := false }, kinds := [], alts := [], laidByText := true, laidKinds := [.data], laidTests := true, laidLooks := .later }
def PulseDividesUptoCardSaid : Prop := Claim7.holds Tryz.pinned (.plain (OpenSpec.upto pulseDividesSpec)) pulseDividesUptoCard

/-- THE SECOND FORM's CARD OF 'ferialaw45.BoundHolds'. -/
def boundHoldsUptoCard : Claim7 := { stood := { row := boundHoldsUptoRow, standIns := [], harness := (true, "32c84720f7d26fc018e86c2b85a3cab257fe7c9e9ef35c53e91b898ded10b86f"), looks := false }, kinds := [], alts := [], laidByText := true, laidKinds := [.data], laidTests := true, laidLooks := .later }
def BoundHoldsUptoCardSaid : Prop := Claim7.holds Tryz.pinned (.plain (OpenSpec.upto boundHoldsSpec)) boundHoldsUptoCard

/-- THE SECOND FORM's CARD OF 'ferialaw22.CastBrief'. -/
def castBriefUptoCard : Claim7 := { stood := { row := castBriefUptoRow, standIns := [], harness := (true, "32c84720f7d26fc018e86c2b85a3cab257fe7c9e9ef35c53e91b898ded10b86f"), looks := false }, kinds := [], alts := [], laidByText := true, laidKinds := [.data], laidTests := true, laidLooks := .later }
def CastBriefUptoCardSaid : Prop := Claim7.holds Tryz.pinned (.plain (OpenSpec.upto castBriefSpec)) castBriefUptoCard
end Rows
end Go.Proofs.YtmjljpdeohbfbaaGreatDoor

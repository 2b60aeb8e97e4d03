/-
  DERIVED. GIVEN WITH THE SEED: THE CARDS: each row of YtjahgimnfliooaaGreatDoorRows.lean that lists a variable, with what it lists TIED to the program's text (the seventh form; the later family's looks); each row that meets fmt, with fmt's text TOLD by the authors' own Lean function (tested against real Go, not proved from fmt's source: count such statements apart). THE CARD IS WHAT COUNTS. Prove the row's statement (the work); the ties are given (YtjahgimnfliooaaGreatDoorTie.lean); close each card by the builder's one call (the guide's Derived/Test/ToyasCard.lean, 'card_holds'). Laid BY PROGRAM, IN A SANDBOX (cutbox-door.mjs). By AI agents, Wed Nov 11 2026. No macro, syntax, notation, axiom, sorry.
-/
import Derived.Test.YtjahgimnfliooaaGreatDoorRows
import GoSem.ClaimSeven
namespace Go.Proofs.YtjahgimnfliooaaGreatDoor
namespace Rows

/-- THE TIED CARD OF 'ferialaw35.RulelowMeans'. -/
def rulelowMeansCard : Claim7 := { stood := { row := rulelowMeansRow, standIns := [], harness := (true, "ffa747dd16af11fc857293a1645cd907e273b8207778ab5a11ad2e2682f21606"), looks := false }, kinds := [], alts := [], laidByText := true, laidKinds := [.data], laidTests := true, laidLooks := .later }
def RulelowMeansCardSaid : Prop := Claim7.holds Tryz.pinned (.plain (OpenSpec.ofChange rulelowMeansSpec)) rulelowMeansCard

/-- THE TIED CARD OF 'ferialaw35.RulelowStarts'. -/
def rulelowStartsCard : Claim7 := { stood := { row := rulelowStartsRow, standIns := [], harness := (true, "ffa747dd16af11fc857293a1645cd907e273b8207778ab5a11ad2e2682f21606"), looks := false }, kinds := [], alts := [], laidByText := true, laidKinds := [.data], laidTests := true, laidLooks := .later }
def RulelowStartsCardSaid : Prop := Claim7.holds Tryz.pinned (.plain (OpenSpec.ofChange rulelowStartsSpec)) rulelowStartsCard

/-- THE TIED CARD OF 'ferialaw35.RulelowCounts'. -/
def rulelowCountsCard : Claim7 := { stood := { row := rulelowCountsRow, standIns := [], harness := (true, "ffa747dd16af11fc857293a1645cd907e273b8207778ab5a11ad2e2682f21606"), looks := false }, kinds := [], alts := [], laidByText := true, laidKinds := [.data], laidTests := true, laidLooks := .later }
def RulelowCountsCardSaid : Prop := Claim7.holds Tryz.pinned (.plain (OpenSpec.ofChange rulelowCountsSpec)) rulelowCountsCard

/-- THE SECOND FORM's CARD OF 'ferialaw35.RulelowMeans'. -/
def rulelowMeansUptoCard : Claim7 := { stood := { row := rulelowMeansUptoRow, standIns := [], harness := (true, "ffa747dd16af11fc857293a1645cd907e273b8207778ab5a11ad2e2682f21606"), looks := false }, kinds := [], alts := [], laidByText := true, laidKinds := [.data], laidTests := true, laidLooks := .later }
def RulelowMeansUptoCardSaid : Prop := Claim7.holds Tryz.pinned (.plain (OpenSpec.upto rulelowMeansSpec)) rulelowMeansUptoCard

/-- THE SECOND FORM's CARD OF 'ferialaw35.RulelowStarts'. -/
def rulelowStartsUptoCard : Claim7 := { stood := { row := rulelowStartsUptoRow, standIns := [], harness := (true, "ffa747dd16af11fc857293a1645cd907e273b8207778ab5a11ad2e2682f21606"), looks := false }, kinds := [], alts := [], laidByText := true, laidKinds := [.data], laidTests := true, laidLooks := .later }
def RulelowStartsUptoCardSaid : Prop := Claim7.holds Tryz.pinned (.plain (OpenSpec.upto rulelowStartsSpec)) rulelowStartsUptoCard

/-- THE SECOND FORM's CARD OF 'ferialaw35.RulelowCounts'. -/
def rulelowCountsUptoCard : Claim7 := { stood := { row := rulelowCountsUptoRow, standIns := [], harness := (true, "ffa747dd16af11fc857293a1645cd907e273b8207778ab5a11ad2e2682f21606"), looks := false }, kinds := [], alts := [], laidByText := true, laidKinds := [.data], laidTests := true, laidLooks := .later }
def RulelowCountsUptoCardSaid : Prop := Claim7.holds Tryz.pinned (.plain (OpenSpec.upto rulelowCountsSpec)) rulelowCountsUptoCard
end Rows
end Go.Proofs.YtjahgimnfliooaaGreatDoor

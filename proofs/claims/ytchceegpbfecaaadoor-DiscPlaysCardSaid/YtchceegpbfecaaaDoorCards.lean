/-
  DERIVED. GIVEN WITH THE SEED: THE CARDS: each row of YtchceegpbfecaaaDoorRows.lean that lists a variable, with what it lists TIED to the program's text (the seventh form; the later family's looks); each row that meets fmt, with fmt's text TOLD by the authors' own Lean function (tested against real Go, not proved from fmt's source: count such statements apart). THE CARD IS WHAT COUNTS. Prove the row's statement (the work); the ties are given (YtchceegpbfecaaaDoorTie.lean); close each card by the builder's one call (the guide's Derived/Test/ToyasCard.lean, 'card_holds'). Laid BY PROGRAM, IN A SANDBOX (cutbox-door.mjs). By AI agents, Wed Nov 11 2026. No macro, syntax, notation, axiom, sorry.
-/
import Derived.Test.YtchceegpbfecaaaDoorRows
import GoSem.ClaimSeven
namespace Go.Proofs.YtchceegpbfecaaaDoor
namespace Rows

/-- THE TIED CARD OF 'ferialaw15.DiscPlays'. -/
def discPlaysCard : Claim7 := { stood := { row := discPlaysRow, standIns := [], harness := (true, "70bddaa47f2760ad0161f31a0b13dc22dca79d89c01bb53920efc9b3ea096023"), looks := false }, kinds := [], alts := [], laidByText := true, laidKinds := [.data], laidTests := true, laidLooks := .later }
def DiscPlaysCardSaid : Prop := Claim7.holds Tryd.pinned (.plain (OpenSpec.ofChange discPlaysSpec)) discPlaysCard

/-- THE SECOND FORM's CARD OF 'ferialaw15.DiscPlays'. -/
def discPlaysUptoCard : Claim7 := { stood := { row := discPlaysUptoRow, standIns := [], harness := (true, "70bddaa47f2760ad0161f31a0b13dc22dca79d89c01bb53920efc9b3ea096023"), looks := false }, kinds := [], alts := [], laidByText := true, laidKinds := [.data], laidTests := true, laidLooks := .later }
def DiscPlaysUptoCardSaid : Prop := Claim7.holds Tryd.pinned (.plain (OpenSpec.upto discPlaysSpec)) discPlaysUptoCard
end Rows
end Go.Proofs.YtchceegpbfecaaaDoor

/-
  DERIVED. GIVEN WITH THE SEED: THE CARDS: each row of YtkpgfmonhfnhdaaGreatDoorRows.lean that lists a variable, with what it lists TIED to the program's text (the seventh form; the later family's looks); each row that meets fmt, with fmt's text TOLD by the authors' own Lean function (tested against real Go, not proved from fmt's source: count such statements apart). THE CARD IS WHAT COUNTS. Prove the row's statement (the work); the ties are given (YtkpgfmonhfnhdaaGreatDoorTie.lean); close each card by the builder's one call (the guide's Derived/Test/ToyasCard.lean, 'card_holds'). Laid BY PROGRAM, IN A SANDBOX (cutbox-door.mjs). By AI agents, Wed Nov 11 2026. No macro, syntax, notation, axiom, sorry.
-/
import Derived.Test.YtkpgfmonhfnhdaaGreatDoorRows
import GoSem.ClaimSeven
namespace Go.Proofs.YtkpgfmonhfnhdaaGreatDoor
namespace Rows

/-- THE TIED CARD OF 'ferialaw22.CastBrief'. -/
def castBriefCard : Claim7 := { stood := { row := castBriefRow, standIns := [], harness := (true, "6d818d7c9f4636509abead90a255585b26a1ab2a9d2e61d58d500a998a5a01ee"), looks := false }, kinds := [], alts := [], laidByText := true, laidKinds := [.data], laidTests := true, laidLooks := .later }
def CastBriefCardSaid : Prop := Claim7.holds Tryz.pinned (.plain (OpenSpec.ofChange castBriefSpec)) castBriefCard

/-- THE TIED CARD OF 'ferialaw22.CastBox'. -/
def castBoxCard : Claim7 := { stood := { row := castBoxRow, standIns := [], harness := (true, "6d818d7c9f4636509abead90a255585b26a1ab2a9d2e61d58d500a998a5a01ee"), looks := false }, kinds := [], alts := [], laidByText := true, laidKinds := [.data], laidTests := true, laidLooks := .later }
def CastBoxCardSaid : Prop := Claim7.holds Tryz.pinned (.plain (OpenSpec.ofChange castBoxSpec)) castBoxCard

/-- THE TIED CARD OF 'ferialaw22.CastBits'. -/
def castBitsCard : Claim7 := { stood := { row := castBitsRow, standIns := [], harness := (true, "6d818d7c9f4636509abead90a255585b26a1ab2a9d2e61d58d500a998a5a01ee"), looks := false }, kinds := [], alts := [], laidByText := true, laidKinds := [.data], laidTests := true, laidLooks := .later }
def CastBitsCardSaid : Prop := Claim7.holds Tryz.pinned (.plain (OpenSpec.ofChange castBitsSpec)) castBitsCard

/-- THE SECOND FORM's CARD OF 'ferialaw22.CastBrief'. -/
def castBriefUptoCard : Claim7 := { stood := { row := castBriefUptoRow, standIns := [], harness := (true, "6d818d7c9f4636509abead90a255585b26a1ab2a9d2e61d58d500a998a5a01ee"), looks := false }, kinds := [], alts := [], laidByText := true, laidKinds := [.data], laidTests := true, laidLooks := .later }
def CastBriefUptoCardSaid : Prop := Claim7.holds Tryz.pinned (.plain (OpenSpec.upto castBriefSpec)) castBriefUptoCard

/-- THE SECOND FORM's CARD OF 'ferialaw22.CastBox'. -/
def castBoxUptoCard : Claim7 := { stood := { row := castBoxUptoRow, standIns := [], harness := (true, "6d818d7c9f4636509abead90a255585b26a1ab2a9d2e61d58d500a998a5a01ee"), looks := false }, kinds := [], alts := [], laidByText := true, laidKinds := [.data], laidTests := true, laidLooks := .later }
def CastBoxUptoCardSaid : Prop := Claim7.holds Tryz.pinned (.plain (OpenSpec.upto castBoxSpec)) castBoxUptoCard

/-- THE SECOND FORM's CARD OF 'ferialaw22.CastBits'. -/
def castBitsUptoCard : Claim7 := { stood := { row := castBitsUptoRow, standIns := [], harness := (true, "6d818d7c9f4636509abead90a255585b26a1ab2a9d2e61d58d500a998a5a01ee"), looks := false }, kinds := [], alts := [], laidByText := true, laidKinds := [.data], laidTests := true, laidLooks := .later }
def CastBitsUptoCardSaid : Prop := Claim7.holds Tryz.pinned (.plain (OpenSpec.upto castBitsSpec)) castBitsUptoCard
end Rows
end Go.Proofs.YtkpgfmonhfnhdaaGreatDoor

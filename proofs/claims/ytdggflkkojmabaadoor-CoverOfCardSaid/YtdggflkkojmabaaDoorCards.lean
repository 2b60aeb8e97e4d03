/-
  DERIVED. GIVEN WITH THE SEED: THE CARDS: each row of YtdggflkkojmabaaDoorRows.lean that lists a variable, with what it lists TIED to the program's text (the seventh form; the later family's looks); each row that meets fmt, with fmt's text TOLD by the authors' own Lean function (tested against real Go, not proved from fmt's source: count such statements apart). THE CARD IS WHAT COUNTS. Prove the row's statement (the work); the ties are given (YtdggflkkojmabaaDoorTie.lean); close each card by the builder's one call (the guide's Derived/Test/ToyasCard.lean, 'card_holds'). Laid BY PROGRAM, IN A SANDBOX (cutbox-door.mjs). By AI agents, Wed Nov 11 2026. No macro, syntax, notation, axiom, sorry.
-/
import Derived.Test.YtdggflkkojmabaaDoorRows
import GoSem.ClaimSeven
namespace Go.Proofs.YtdggflkkojmabaaDoor
namespace Rows

/-- THE TIED CARD OF 'ferialaw02.MaskSpans'. -/
def maskSpansCard : Claim7 := { stood := { row := maskSpansRow, standIns := [], harness := (true, "516d58931de498882ad276a1601bfa3a24b0146e38c174079d27cf8ef286982e"), looks := false }, kinds := [], alts := [], laidByText := true, laidKinds := [.data], laidTests := true, laidLooks := .later }
def MaskSpansCardSaid : Prop := Claim7.holds Tryd.pinned (.plain (OpenSpec.ofChange maskSpansSpec)) maskSpansCard

/-- THE TIED CARD OF 'ferialaw02.MaskAll'. -/
def maskAllCard : Claim7 := { stood := { row := maskAllRow, standIns := [], harness := (true, "516d58931de498882ad276a1601bfa3a24b0146e38c174079d27cf8ef286982e"), looks := false }, kinds := [], alts := [], laidByText := true, laidKinds := [.data], laidTests := true, laidLooks := .later }
def MaskAllCardSaid : Prop := Claim7.holds Tryd.pinned (.plain (OpenSpec.ofChange maskAllSpec)) maskAllCard

/-- THE TIED CARD OF 'ferialaw15.DiscCompares'. -/
def discComparesCard : Claim7 := { stood := { row := discComparesRow, standIns := [], harness := (true, "516d58931de498882ad276a1601bfa3a24b0146e38c174079d27cf8ef286982e"), looks := false }, kinds := [], alts := [], laidByText := true, laidKinds := [.data], laidTests := true, laidLooks := .later }
def DiscComparesCardSaid : Prop := Claim7.holds Tryd.pinned (.plain (OpenSpec.ofChange discComparesSpec)) discComparesCard

/-- THE TIED CARD OF 'ferialaw02.MaskNext'. -/
def maskNextCard : Claim7 := { stood := { row := maskNextRow, standIns := [], harness := (true, "516d58931de498882ad276a1601bfa3a24b0146e38c174079d27cf8ef286982e"), looks := false }, kinds := [], alts := [], laidByText := true, laidKinds := [.data], laidTests := true, laidLooks := .later }
def MaskNextCardSaid : Prop := Claim7.holds Tryd.pinned (.plain (OpenSpec.ofChange maskNextSpec)) maskNextCard

/-- THE TIED CARD OF 'ferialaw07.TodParts'. -/
def todPartsCard : Claim7 := { stood := { row := todPartsRow, standIns := [], harness := (true, "516d58931de498882ad276a1601bfa3a24b0146e38c174079d27cf8ef286982e"), looks := false }, kinds := [], alts := [], laidByText := true, laidKinds := [.data], laidTests := true, laidLooks := .later }
def TodPartsCardSaid : Prop := Claim7.holds Tryd.pinned (.plain (OpenSpec.ofChange todPartsSpec)) todPartsCard

/-- THE TIED CARD OF 'ferialaw03.CoverOf'. -/
def coverOfCard : Claim7 := { stood := { row := coverOfRow, standIns := [], harness := (true, "516d58931de498882ad276a1601bfa3a24b0146e38c174079d27cf8ef286982e"), looks := false }, kinds := [], alts := [], laidByText := true, laidKinds := [.data], laidTests := true, laidLooks := .later }
def CoverOfCardSaid : Prop := Claim7.holds Tryd.pinned (.plain (OpenSpec.ofChange coverOfSpec)) coverOfCard

/-- THE TIED CARD OF 'ferialaw02.MaskBack'. -/
def maskBackCard : Claim7 := { stood := { row := maskBackRow, standIns := [], harness := (true, "516d58931de498882ad276a1601bfa3a24b0146e38c174079d27cf8ef286982e"), looks := false }, kinds := [], alts := [], laidByText := true, laidKinds := [.data], laidTests := true, laidLooks := .later }
def MaskBackCardSaid : Prop := Claim7.holds Tryd.pinned (.plain (OpenSpec.ofChange maskBackSpec)) maskBackCard

/-- THE TIED CARD OF 'ferialaw07.TodAll'. -/
def todAllCard : Claim7 := { stood := { row := todAllRow, standIns := [], harness := (true, "516d58931de498882ad276a1601bfa3a24b0146e38c174079d27cf8ef286982e"), looks := false }, kinds := [], alts := [], laidByText := true, laidKinds := [.data], laidTests := true, laidLooks := .later }
def TodAllCardSaid : Prop := Claim7.holds Tryd.pinned (.plain (OpenSpec.ofChange todAllSpec)) todAllCard

/-- THE TIED CARD OF 'ferialaw04.WideAll'. -/
def wideAllCard : Claim7 := { stood := { row := wideAllRow, standIns := [], harness := (true, "516d58931de498882ad276a1601bfa3a24b0146e38c174079d27cf8ef286982e"), looks := false }, kinds := [], alts := [], laidByText := true, laidKinds := [.data], laidTests := true, laidLooks := .later }
def WideAllCardSaid : Prop := Claim7.holds Tryd.pinned (.plain (OpenSpec.ofChange wideAllSpec)) wideAllCard

/-- THE TIED CARD OF 'ferialaw04.WideOf'. -/
def wideOfCard : Claim7 := { stood := { row := wideOfRow, standIns := [], harness := (true, "516d58931de498882ad276a1601bfa3a24b0146e38c174079d27cf8ef286982e"), looks := false }, kinds := [], alts := [], laidByText := true, laidKinds := [.data], laidTests := true, laidLooks := .later }
def WideOfCardSaid : Prop := Claim7.holds Tryd.pinned (.plain (OpenSpec.ofChange wideOfSpec)) wideOfCard

/-- THE TIED CARD OF 'ferialaw07.TodNext'. -/
def todNextCard : Claim7 := { stood := { row := todNextRow, standIns := [], harness := (true, "516d58931de498882ad276a1601bfa3a24b0146e38c174079d27cf8ef286982e"), looks := false }, kinds := [], alts := [], laidByText := true, laidKinds := [.data], laidTests := true, laidLooks := .later }
def TodNextCardSaid : Prop := Claim7.holds Tryd.pinned (.plain (OpenSpec.ofChange todNextSpec)) todNextCard

/-- THE TIED CARD OF 'ferialaw07.TodOn'. -/
def todOnCard : Claim7 := { stood := { row := todOnRow, standIns := [], harness := (true, "516d58931de498882ad276a1601bfa3a24b0146e38c174079d27cf8ef286982e"), looks := false }, kinds := [], alts := [], laidByText := true, laidKinds := [.data], laidTests := true, laidLooks := .later }
def TodOnCardSaid : Prop := Claim7.holds Tryd.pinned (.plain (OpenSpec.ofChange todOnSpec)) todOnCard

/-- THE TIED CARD OF 'ferialaw04.WideBoth'. -/
def wideBothCard : Claim7 := { stood := { row := wideBothRow, standIns := [], harness := (true, "516d58931de498882ad276a1601bfa3a24b0146e38c174079d27cf8ef286982e"), looks := false }, kinds := [], alts := [], laidByText := true, laidKinds := [.data], laidTests := true, laidLooks := .later }
def WideBothCardSaid : Prop := Claim7.holds Tryd.pinned (.plain (OpenSpec.ofChange wideBothSpec)) wideBothCard

/-- THE TIED CARD OF 'ferialaw04.WideBack'. -/
def wideBackCard : Claim7 := { stood := { row := wideBackRow, standIns := [], harness := (true, "516d58931de498882ad276a1601bfa3a24b0146e38c174079d27cf8ef286982e"), looks := false }, kinds := [], alts := [], laidByText := true, laidKinds := [.data], laidTests := true, laidLooks := .later }
def WideBackCardSaid : Prop := Claim7.holds Tryd.pinned (.plain (OpenSpec.ofChange wideBackSpec)) wideBackCard

/-- THE TIED CARD OF 'ferialaw15.DiscPlays'. -/
def discPlaysCard : Claim7 := { stood := { row := discPlaysRow, standIns := [], harness := (true, "516d58931de498882ad276a1601bfa3a24b0146e38c174079d27cf8ef286982e"), looks := false }, kinds := [], alts := [], laidByText := true, laidKinds := [.data], laidTests := true, laidLooks := .later }
def DiscPlaysCardSaid : Prop := Claim7.holds Tryd.pinned (.plain (OpenSpec.ofChange discPlaysSpec)) discPlaysCard

/-- THE SECOND FORM's CARD OF 'ferialaw02.MaskSpans'. -/
def maskSpansUptoCard : Claim7 := { stood := { row := maskSpansUptoRow, standIns := [], harness := (true, "516d58931de498882ad276a1601bfa3a24b0146e38c174079d27cf8ef286982e"), looks := false }, kinds := [], alts := [], laidByText := true, laidKinds := [.data], laidTests := true, laidLooks := .later }
def MaskSpansUptoCardSaid : Prop := Claim7.holds Tryd.pinned (.plain (OpenSpec.upto maskSpansSpec)) maskSpansUptoCard

/-- THE SECOND FORM's CARD OF 'ferialaw02.MaskAll'. -/
def maskAllUptoCard : Claim7 := { stood := { row := maskAllUptoRow, standIns := [], harness := (true, "516d58931de498882ad276a1601bfa3a24b0146e38c174079d27cf8ef286982e"), looks := false }, kinds := [], alts := [], laidByText := true, laidKinds := [.data], laidTests := true, laidLooks := .later }
def MaskAllUptoCardSaid : Prop := Claim7.holds Tryd.pinned (.plain (OpenSpec.upto maskAllSpec)) maskAllUptoCard

/-- THE SECOND FORM's CARD OF 'ferialaw15.DiscCompares'. -/
def discComparesUptoCard : Claim7 := { stood := { row := discComparesUptoRow, standIns := [], harness := (true, "516d58931de498882ad276a1601bfa3a24b0146e38c174079d27cf8ef286982e"), looks := false }, kinds := [], alts := [], laidByText := true, laidKinds := [.data], laidTests := true, laidLooks := .later }
def DiscComparesUptoCardSaid : Prop := Claim7.holds Tryd.pinned (.plain (OpenSpec.upto discComparesSpec)) discComparesUptoCard

/-- THE SECOND FORM's CARD OF 'ferialaw02.MaskNext'. -/
def maskNextUptoCard : Claim7 := { stood := { row := maskNextUptoRow, standIns := [], harness := (true, "516d58931de498882ad276a1601bfa3a24b0146e38c174079d27cf8ef286982e"), looks := false }, kinds := [], alts := [], laidByText := true, laidKinds := [.data], laidTests := true, laidLooks := .later }
def MaskNextUptoCardSaid : Prop := Claim7.holds Tryd.pinned (.plain (OpenSpec.upto maskNextSpec)) maskNextUptoCard

/-- THE SECOND FORM's CARD OF 'ferialaw07.TodParts'. -/
def todPartsUptoCard : Claim7 := { stood := { row := todPartsUptoRow, standIns := [], harness := (true, "516d58931de498882ad276a1601bfa3a24b0146e38c174079d27cf8ef286982e"), looks := false }, kinds := [], alts := [], laidByText := true, laidKinds := [.data], laidTests := true, laidLooks := .later }
def TodPartsUptoCardSaid : Prop := Claim7.holds Tryd.pinned (.plain (OpenSpec.upto todPartsSpec)) todPartsUptoCard

/-- THE SECOND FORM's CARD OF 'ferialaw03.CoverOf'. -/
def coverOfUptoCard : Claim7 := { stood := { row := coverOfUptoRow, standIns := [], harness := (true, "516d58931de498882ad276a1601bfa3a24b0146e38c174079d27cf8ef286982e"), looks := false }, kinds := [], alts := [], laidByText := true, laidKinds := [.data], laidTests := true, laidLooks := .later }
def CoverOfUptoCardSaid : Prop := Claim7.holds Tryd.pinned (.plain (OpenSpec.upto coverOfSpec)) coverOfUptoCard

/-- THE SECOND FORM's CARD OF 'ferialaw02.MaskBack'. -/
def maskBackUptoCard : Claim7 := { stood := { row := maskBackUptoRow, standIns := [], harness := (true, "516d58931de498882ad276a1601bfa3a24b0146e38c174079d27cf8ef286982e"), looks := false }, kinds := [], alts := [], laidByText := true, laidKinds := [.data], laidTests := true, laidLooks := .later }
def MaskBackUptoCardSaid : Prop := Claim7.holds Tryd.pinned (.plain (OpenSpec.upto maskBackSpec)) maskBackUptoCard

/-- THE SECOND FORM's CARD OF 'ferialaw07.TodAll'. -/
def todAllUptoCard : Claim7 := { stood := { row := todAllUptoRow, standIns := [], harness := (true, "516d58931de498882ad276a1601bfa3a24b0146e38c174079d27cf8ef286982e"), looks := false }, kinds := [], alts := [], laidByText := true, laidKinds := [.data], laidTests := true, laidLooks := .later }
def TodAllUptoCardSaid : Prop := Claim7.holds Tryd.pinned (.plain (OpenSpec.upto todAllSpec)) todAllUptoCard

/-- THE SECOND FORM's CARD OF 'ferialaw04.WideAll'. -/
def wideAllUptoCard : Claim7 := { stood := { row := wideAllUptoRow, standIns := [], harness := (true, "516d58931de498882ad276a1601bfa3a24b0146e38c174079d27cf8ef286982e"), looks := false }, kinds := [], alts := [], laidByText := true, laidKinds := [.data], laidTests := true, laidLooks := .later }
def WideAllUptoCardSaid : Prop := Claim7.holds Tryd.pinned (.plain (OpenSpec.upto wideAllSpec)) wideAllUptoCard

/-- THE SECOND FORM's CARD OF 'ferialaw04.WideOf'. -/
def wideOfUptoCard : Claim7 := { stood := { row := wideOfUptoRow, standIns := [], harness := (true, "516d58931de498882ad276a1601bfa3a24b0146e38c174079d27cf8ef286982e"), looks := false }, kinds := [], alts := [], laidByText := true, laidKinds := [.data], laidTests := true, laidLooks := .later }
def WideOfUptoCardSaid : Prop := Claim7.holds Tryd.pinned (.plain (OpenSpec.upto wideOfSpec)) wideOfUptoCard

/-- THE SECOND FORM's CARD OF 'ferialaw07.TodNext'. -/
def todNextUptoCard : Claim7 := { stood := { row := todNextUptoRow, standIns := [], harness := (true, "516d58931de498882ad276a1601bfa3a24b0146e38c174079d27cf8ef286982e"), looks := false }, kinds := [], alts := [], laidByText := true, laidKinds := [.data], laidTests := true, laidLooks := .later }
def TodNextUptoCardSaid : Prop := Claim7.holds Tryd.pinned (.plain (OpenSpec.upto todNextSpec)) todNextUptoCard

/-- THE SECOND FORM's CARD OF 'ferialaw07.TodOn'. -/
def todOnUptoCard : Claim7 := { stood := { row := todOnUptoRow, standIns := [], harness := (true, "516d58931de498882ad276a1601bfa3a24b0146e38c174079d27cf8ef286982e"), looks := false }, kinds := [], alts := [], laidByText := true, laidKinds := [.data], laidTests := true, laidLooks := .later }
def TodOnUptoCardSaid : Prop := Claim7.holds Tryd.pinned (.plain (OpenSpec.upto todOnSpec)) todOnUptoCard

/-- THE SECOND FORM's CARD OF 'ferialaw04.WideBoth'. -/
def wideBothUptoCard : Claim7 := { stood := { row := wideBothUptoRow, standIns := [], harness := (true, "516d58931de498882ad276a1601bfa3a24b0146e38c174079d27cf8ef286982e"), looks := false }, kinds := [], alts := [], laidByText := true, laidKinds := [.data], laidTests := true, laidLooks := .later }
def WideBothUptoCardSaid : Prop := Claim7.holds Tryd.pinned (.plain (OpenSpec.upto wideBothSpec)) wideBothUptoCard

/-- THE SECOND FORM's CARD OF 'ferialaw04.WideBack'. -/
def wideBackUptoCard : Claim7 := { stood := { row := wideBackUptoRow, standIns := [], harness := (true, "516d58931de498882ad276a1601bfa3a24b0146e38c174079d27cf8ef286982e"), looks := false }, kinds := [], alts := [], laidByText := true, laidKinds := [.data], laidTests := true, laidLooks := .later }
def WideBackUptoCardSaid : Prop := Claim7.holds Tryd.pinned (.plain (OpenSpec.upto wideBackSpec)) wideBackUptoCard

/-- THE SECOND FORM's CARD OF 'ferialaw15.DiscPlays'. -/
def discPlaysUptoCard : Claim7 := { stood := { row := discPlaysUptoRow, standIns := [], harness := (true, "516d58931de498882ad276a1601bfa3a24b0146e38c174079d27cf8ef286982e"), looks := false }, kinds := [], alts := [], laidByText := true, laidKinds := [.data], laidTests := true, laidLooks := .later }
def DiscPlaysUptoCardSaid : Prop := Claim7.holds Tryd.pinned (.plain (OpenSpec.upto discPlaysSpec)) discPlaysUptoCard
end Rows
end Go.Proofs.YtdggflkkojmabaaDoor

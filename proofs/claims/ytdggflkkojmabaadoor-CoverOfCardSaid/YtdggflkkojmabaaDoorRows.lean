/-
  NARROWER THAN 'FOR EVERY INPUT', by the rows' own cells (each row's printed sentence says how): MaskSpans: laid · MaskAll: laid · DiscCompares: laid · MaskNext: laid · TodParts: laid · CoverOf: laid · MaskBack: laid · TodAll: laid · WideAll: laid · WideOf: laid · TodNext: laid · TodOn: laid · WideBoth: laid · WideBack: laid · DiscPlays: laid.
  DERIVED. THE GIVEN ROWS OF THIS SEAT. 15 by the template 'for every input the law returns true; each argument reads behind the call as it read before'; 0 by the template 'total and deterministic' (their statements: YtdggflkkojmabaaDoorTotals.lean).
  GIVEN WITH THE SEED: the statements are not yours to turn. If you find one false, say at which input.
  Laid BY PROGRAM, IN A SANDBOX (cutbox-rows.mjs): the forced cells as the released guide's own fill.sh prints them over the translation f0bb7ff7ddc97e8c… (all of the seat's roots in one cut). By AI agents, Wed Nov 11 2026. No macro, syntax, notation, axiom, sorry.
-/
import Derived.Test.YtdggflkkojmabaaDoorChecked
import GoSem.Claim
import GoSem.ClaimJoined
import GoSem.ClaimMapViews
import Derived.JoinedTies
import Derived.KernelRfl
namespace Go.Proofs.YtdggflkkojmabaaDoor
/- THE CELL 'sum', in the pinned program and in every row, IS THE sha256 OF THE DUMP (.gsa) THAT YtdggflkkojmabaaDoorProg.lean LOADS. Nothing in Lean hashes anything: it is a label: what it is worth is what the hold of that sum in a sandbox is worth. -/
noncomputable def Tryd.pinned : Pinned := { name := "ytdggflkkojmabaadoor", sum := "f0bb7ff7ddc97e8cfdff3321dba2599770b7dc8bf4c5ae4b5b7e6cce8e0a12f9", checked := Tryd.checked }
namespace Rows
def none {H : Type} : Left H := { results := [], args := [] }

/- WHAT THE LISTED PACKAGE-LEVEL VARIABLES READ AS WHEN THE CALL BEGINS. Each datum BY PROGRAM (the guide's laid-datum.mjs) off the statement by which the dump's own 'gosem.cut.vars' lays the variable. In a bare row this is a premise. The card (YtdggflkkojmabaaDoorCards.lean) ties it to the program's text. -/
def laid_math_bits_deBruijn64tab {H : Type} : DataW H := .agg [.lit (.int .u8 0), .lit (.int .u8 1), .lit (.int .u8 56), .lit (.int .u8 2), .lit (.int .u8 57), .lit (.int .u8 49), .lit (.int .u8 28), .lit (.int .u8 3), .lit (.int .u8 61), .lit (.int .u8 58), .lit (.int .u8 42), .lit (.int .u8 50), .lit (.int .u8 38), .lit (.int .u8 29), .lit (.int .u8 17), .lit (.int .u8 4), .lit (.int .u8 62), .lit (.int .u8 47), .lit (.int .u8 59), .lit (.int .u8 36), .lit (.int .u8 45), .lit (.int .u8 43), .lit (.int .u8 51), .lit (.int .u8 22), .lit (.int .u8 53), .lit (.int .u8 39), .lit (.int .u8 33), .lit (.int .u8 30), .lit (.int .u8 24), .lit (.int .u8 18), .lit (.int .u8 12), .lit (.int .u8 5), .lit (.int .u8 63), .lit (.int .u8 55), .lit (.int .u8 48), .lit (.int .u8 27), .lit (.int .u8 60), .lit (.int .u8 41), .lit (.int .u8 37), .lit (.int .u8 16), .lit (.int .u8 46), .lit (.int .u8 35), .lit (.int .u8 44), .lit (.int .u8 21), .lit (.int .u8 52), .lit (.int .u8 32), .lit (.int .u8 23), .lit (.int .u8 11), .lit (.int .u8 54), .lit (.int .u8 26), .lit (.int .u8 40), .lit (.int .u8 15), .lit (.int .u8 34), .lit (.int .u8 20), .lit (.int .u8 31), .lit (.int .u8 10), .lit (.int .u8 25), .lit (.int .u8 14), .lit (.int .u8 19), .lit (.int .u8 9), .lit (.int .u8 13), .lit (.int .u8 8), .lit (.int .u8 7), .lit (.int .u8 6)]

/-- 'ferialaw02.MaskSpans': WHATEVER THE INPUT: true; the input reads as it did. -/
def maskSpansSpec : ChangeSpec := { name := "maskSpans", fn := fun _ => fun
  | [d1, d2, d3] => { results := [.lit (.bool true)], args := [d1, d2, d3] }
  | _ => none }
def maskSpansRow : OpenClaim := { program := "ytdggflkkojmabaadoor", sum := "f0bb7ff7ddc97e8cfdff3321dba2599770b7dc8bf4c5ae4b5b7e6cce8e0a12f9", func := "feria/ferialaw02.MaskSpans", spec := "maskSpans", named := ["math/bits.deBruijn64tab"], apart := false, laid := [("math/bits.deBruijn64tab", laid_math_bits_deBruijn64tab)] }
def MaskSpansSaid : Prop := maskSpansRow.holds Tryd.pinned (OpenSpec.ofChange maskSpansSpec)

/-- ITS FALSE NEIGHBOUR: 'it returns false'. Refute it at one input. -/
def maskSpansWrong : ChangeSpec := { name := "maskSpans", fn := fun _ => fun
  | [d1, d2, d3] => { results := [.lit (.bool false)], args := [d1, d2, d3] }
  | _ => none }
def MaskSpansWrongFalsely : Prop := maskSpansRow.holds Tryd.pinned (OpenSpec.ofChange maskSpansWrong)

/-- 'ferialaw02.MaskAll': WHATEVER THE INPUT: true; the input reads as it did. -/
def maskAllSpec : ChangeSpec := { name := "maskAll", fn := fun _ => fun
  | [d1, d2] => { results := [.lit (.bool true)], args := [d1, d2] }
  | _ => none }
def maskAllRow : OpenClaim := { program := "ytdggflkkojmabaadoor", sum := "f0bb7ff7ddc97e8cfdff3321dba2599770b7dc8bf4c5ae4b5b7e6cce8e0a12f9", func := "feria/ferialaw02.MaskAll", spec := "maskAll", unfollowed := true, recurses := true, named := ["math/bits.deBruijn64tab"], apart := false, laid := [("math/bits.deBruijn64tab", laid_math_bits_deBruijn64tab)] }
def MaskAllSaid : Prop := maskAllRow.holds Tryd.pinned (OpenSpec.ofChange maskAllSpec)

/-- ITS FALSE NEIGHBOUR: 'it returns false'. Refute it at one input. -/
def maskAllWrong : ChangeSpec := { name := "maskAll", fn := fun _ => fun
  | [d1, d2] => { results := [.lit (.bool false)], args := [d1, d2] }
  | _ => none }
def MaskAllWrongFalsely : Prop := maskAllRow.holds Tryd.pinned (OpenSpec.ofChange maskAllWrong)

/-- 'ferialaw15.DiscCompares': WHATEVER THE INPUT: true; the input reads as it did. -/
def discComparesSpec : ChangeSpec := { name := "discCompares", fn := fun _ => fun
  | [d1, d2] => { results := [.lit (.bool true)], args := [d1, d2] }
  | _ => none }
def discComparesRow : OpenClaim := { program := "ytdggflkkojmabaadoor", sum := "f0bb7ff7ddc97e8cfdff3321dba2599770b7dc8bf4c5ae4b5b7e6cce8e0a12f9", func := "feria/ferialaw15.DiscCompares", spec := "discCompares", unfollowed := true, recurses := true, named := ["math/bits.deBruijn64tab"], apart := false, laid := [("math/bits.deBruijn64tab", laid_math_bits_deBruijn64tab)] }
def DiscComparesSaid : Prop := discComparesRow.holds Tryd.pinned (OpenSpec.ofChange discComparesSpec)

/-- ITS FALSE NEIGHBOUR: 'it returns false'. Refute it at one input. -/
def discComparesWrong : ChangeSpec := { name := "discCompares", fn := fun _ => fun
  | [d1, d2] => { results := [.lit (.bool false)], args := [d1, d2] }
  | _ => none }
def DiscComparesWrongFalsely : Prop := discComparesRow.holds Tryd.pinned (OpenSpec.ofChange discComparesWrong)

/-- 'ferialaw02.MaskNext': WHATEVER THE INPUT: true; the input reads as it did. -/
def maskNextSpec : ChangeSpec := { name := "maskNext", fn := fun _ => fun
  | [d1, d2, d3] => { results := [.lit (.bool true)], args := [d1, d2, d3] }
  | _ => none }
def maskNextRow : OpenClaim := { program := "ytdggflkkojmabaadoor", sum := "f0bb7ff7ddc97e8cfdff3321dba2599770b7dc8bf4c5ae4b5b7e6cce8e0a12f9", func := "feria/ferialaw02.MaskNext", spec := "maskNext", named := ["math/bits.deBruijn64tab"], apart := false, laid := [("math/bits.deBruijn64tab", laid_math_bits_deBruijn64tab)] }
def MaskNextSaid : Prop := maskNextRow.holds Tryd.pinned (OpenSpec.ofChange maskNextSpec)

/-- ITS FALSE NEIGHBOUR: 'it returns false'. Refute it at one input. -/
def maskNextWrong : ChangeSpec := { name := "maskNext", fn := fun _ => fun
  | [d1, d2, d3] => { results := [.lit (.bool false)], args := [d1, d2, d3] }
  | _ => none }
def MaskNextWrongFalsely : Prop := maskNextRow.holds Tryd.pinned (OpenSpec.ofChange maskNextWrong)

/-- 'ferialaw07.TodParts': WHATEVER THE INPUT: true; the input reads as it did. -/
def todPartsSpec : ChangeSpec := { name := "todParts", fn := fun _ => fun
  | [d1, d2, d3] => { results := [.lit (.bool true)], args := [d1, d2, d3] }
  | _ => none }
def todPartsRow : OpenClaim := { program := "ytdggflkkojmabaadoor", sum := "f0bb7ff7ddc97e8cfdff3321dba2599770b7dc8bf4c5ae4b5b7e6cce8e0a12f9", func := "feria/ferialaw07.TodParts", spec := "todParts", named := ["math/bits.deBruijn64tab"], apart := false, laid := [("math/bits.deBruijn64tab", laid_math_bits_deBruijn64tab)] }
def TodPartsSaid : Prop := todPartsRow.holds Tryd.pinned (OpenSpec.ofChange todPartsSpec)

/-- ITS FALSE NEIGHBOUR: 'it returns false'. Refute it at one input. -/
def todPartsWrong : ChangeSpec := { name := "todParts", fn := fun _ => fun
  | [d1, d2, d3] => { results := [.lit (.bool false)], args := [d1, d2, d3] }
  | _ => none }
def TodPartsWrongFalsely : Prop := todPartsRow.holds Tryd.pinned (OpenSpec.ofChange todPartsWrong)

/-- 'ferialaw03.CoverOf': WHATEVER THE INPUT: true; the input reads as it did. -/
def coverOfSpec : ChangeSpec := { name := "coverOf", fn := fun _ => fun
  | [d1, d2] => { results := [.lit (.bool true)], args := [d1, d2] }
  | _ => none }
def coverOfRow : OpenClaim := { program := "ytdggflkkojmabaadoor", sum := "f0bb7ff7ddc97e8cfdff3321dba2599770b7dc8bf4c5ae4b5b7e6cce8e0a12f9", func := "feria/ferialaw03.CoverOf", spec := "coverOf", unfollowed := true, recurses := true, named := ["math/bits.deBruijn64tab"], apart := false, laid := [("math/bits.deBruijn64tab", laid_math_bits_deBruijn64tab)] }
def CoverOfSaid : Prop := coverOfRow.holds Tryd.pinned (OpenSpec.ofChange coverOfSpec)

/-- ITS FALSE NEIGHBOUR: 'it returns false'. Refute it at one input. -/
def coverOfWrong : ChangeSpec := { name := "coverOf", fn := fun _ => fun
  | [d1, d2] => { results := [.lit (.bool false)], args := [d1, d2] }
  | _ => none }
def CoverOfWrongFalsely : Prop := coverOfRow.holds Tryd.pinned (OpenSpec.ofChange coverOfWrong)

/-- 'ferialaw02.MaskBack': WHATEVER THE INPUT: true; the input reads as it did. -/
def maskBackSpec : ChangeSpec := { name := "maskBack", fn := fun _ => fun
  | [d] => { results := [.lit (.bool true)], args := [d] }
  | _ => none }
def maskBackRow : OpenClaim := { program := "ytdggflkkojmabaadoor", sum := "f0bb7ff7ddc97e8cfdff3321dba2599770b7dc8bf4c5ae4b5b7e6cce8e0a12f9", func := "feria/ferialaw02.MaskBack", spec := "maskBack", unfollowed := true, recurses := true, named := ["math/bits.deBruijn64tab"], apart := false, laid := [("math/bits.deBruijn64tab", laid_math_bits_deBruijn64tab)] }
def MaskBackSaid : Prop := maskBackRow.holds Tryd.pinned (OpenSpec.ofChange maskBackSpec)

/-- ITS FALSE NEIGHBOUR: 'it returns false'. Refute it at one input. -/
def maskBackWrong : ChangeSpec := { name := "maskBack", fn := fun _ => fun
  | [d] => { results := [.lit (.bool false)], args := [d] }
  | _ => none }
def MaskBackWrongFalsely : Prop := maskBackRow.holds Tryd.pinned (OpenSpec.ofChange maskBackWrong)

/-- 'ferialaw07.TodAll': WHATEVER THE INPUT: true; the input reads as it did. -/
def todAllSpec : ChangeSpec := { name := "todAll", fn := fun _ => fun
  | [d1, d2] => { results := [.lit (.bool true)], args := [d1, d2] }
  | _ => none }
def todAllRow : OpenClaim := { program := "ytdggflkkojmabaadoor", sum := "f0bb7ff7ddc97e8cfdff3321dba2599770b7dc8bf4c5ae4b5b7e6cce8e0a12f9", func := "feria/ferialaw07.TodAll", spec := "todAll", unfollowed := true, recurses := true, named := ["math/bits.deBruijn64tab"], apart := false, laid := [("math/bits.deBruijn64tab", laid_math_bits_deBruijn64tab)] }
def TodAllSaid : Prop := todAllRow.holds Tryd.pinned (OpenSpec.ofChange todAllSpec)

/-- ITS FALSE NEIGHBOUR: 'it returns false'. Refute it at one input. -/
def todAllWrong : ChangeSpec := { name := "todAll", fn := fun _ => fun
  | [d1, d2] => { results := [.lit (.bool false)], args := [d1, d2] }
  | _ => none }
def TodAllWrongFalsely : Prop := todAllRow.holds Tryd.pinned (OpenSpec.ofChange todAllWrong)

/-- 'ferialaw04.WideAll': WHATEVER THE INPUT: true; the input reads as it did. -/
def wideAllSpec : ChangeSpec := { name := "wideAll", fn := fun _ => fun
  | [d1, d2] => { results := [.lit (.bool true)], args := [d1, d2] }
  | _ => none }
def wideAllRow : OpenClaim := { program := "ytdggflkkojmabaadoor", sum := "f0bb7ff7ddc97e8cfdff3321dba2599770b7dc8bf4c5ae4b5b7e6cce8e0a12f9", func := "feria/ferialaw04.WideAll", spec := "wideAll", unfollowed := true, recurses := true, named := ["math/bits.deBruijn64tab"], apart := false, laid := [("math/bits.deBruijn64tab", laid_math_bits_deBruijn64tab)] }
def WideAllSaid : Prop := wideAllRow.holds Tryd.pinned (OpenSpec.ofChange wideAllSpec)

/-- ITS FALSE NEIGHBOUR: 'it returns false'. Refute it at one input. -/
def wideAllWrong : ChangeSpec := { name := "wideAll", fn := fun _ => fun
  | [d1, d2] => { results := [.lit (.bool false)], args := [d1, d2] }
  | _ => none }
def WideAllWrongFalsely : Prop := wideAllRow.holds Tryd.pinned (OpenSpec.ofChange wideAllWrong)

/-- 'ferialaw04.WideOf': WHATEVER THE INPUT: true; the input reads as it did. -/
def wideOfSpec : ChangeSpec := { name := "wideOf", fn := fun _ => fun
  | [d1, d2, d3] => { results := [.lit (.bool true)], args := [d1, d2, d3] }
  | _ => none }
def wideOfRow : OpenClaim := { program := "ytdggflkkojmabaadoor", sum := "f0bb7ff7ddc97e8cfdff3321dba2599770b7dc8bf4c5ae4b5b7e6cce8e0a12f9", func := "feria/ferialaw04.WideOf", spec := "wideOf", unfollowed := true, recurses := true, named := ["math/bits.deBruijn64tab"], apart := false, laid := [("math/bits.deBruijn64tab", laid_math_bits_deBruijn64tab)] }
def WideOfSaid : Prop := wideOfRow.holds Tryd.pinned (OpenSpec.ofChange wideOfSpec)

/-- ITS FALSE NEIGHBOUR: 'it returns false'. Refute it at one input. -/
def wideOfWrong : ChangeSpec := { name := "wideOf", fn := fun _ => fun
  | [d1, d2, d3] => { results := [.lit (.bool false)], args := [d1, d2, d3] }
  | _ => none }
def WideOfWrongFalsely : Prop := wideOfRow.holds Tryd.pinned (OpenSpec.ofChange wideOfWrong)

/-- 'ferialaw07.TodNext': WHATEVER THE INPUT: true; the input reads as it did. -/
def todNextSpec : ChangeSpec := { name := "todNext", fn := fun _ => fun
  | [d1, d2] => { results := [.lit (.bool true)], args := [d1, d2] }
  | _ => none }
def todNextRow : OpenClaim := { program := "ytdggflkkojmabaadoor", sum := "f0bb7ff7ddc97e8cfdff3321dba2599770b7dc8bf4c5ae4b5b7e6cce8e0a12f9", func := "feria/ferialaw07.TodNext", spec := "todNext", unfollowed := true, recurses := true, named := ["math/bits.deBruijn64tab"], apart := false, laid := [("math/bits.deBruijn64tab", laid_math_bits_deBruijn64tab)] }
def TodNextSaid : Prop := todNextRow.holds Tryd.pinned (OpenSpec.ofChange todNextSpec)

/-- ITS FALSE NEIGHBOUR: 'it returns false'. Refute it at one input. -/
def todNextWrong : ChangeSpec := { name := "todNext", fn := fun _ => fun
  | [d1, d2] => { results := [.lit (.bool false)], args := [d1, d2] }
  | _ => none }
def TodNextWrongFalsely : Prop := todNextRow.holds Tryd.pinned (OpenSpec.ofChange todNextWrong)

/-- 'ferialaw07.TodOn': WHATEVER THE INPUT: true; the input reads as it did. -/
def todOnSpec : ChangeSpec := { name := "todOn", fn := fun _ => fun
  | [d] => { results := [.lit (.bool true)], args := [d] }
  | _ => none }
def todOnRow : OpenClaim := { program := "ytdggflkkojmabaadoor", sum := "f0bb7ff7ddc97e8cfdff3321dba2599770b7dc8bf4c5ae4b5b7e6cce8e0a12f9", func := "feria/ferialaw07.TodOn", spec := "todOn", unfollowed := true, recurses := true, named := ["math/bits.deBruijn64tab"], apart := false, laid := [("math/bits.deBruijn64tab", laid_math_bits_deBruijn64tab)] }
def TodOnSaid : Prop := todOnRow.holds Tryd.pinned (OpenSpec.ofChange todOnSpec)

/-- ITS FALSE NEIGHBOUR: 'it returns false'. Refute it at one input. -/
def todOnWrong : ChangeSpec := { name := "todOn", fn := fun _ => fun
  | [d] => { results := [.lit (.bool false)], args := [d] }
  | _ => none }
def TodOnWrongFalsely : Prop := todOnRow.holds Tryd.pinned (OpenSpec.ofChange todOnWrong)

/-- 'ferialaw04.WideBoth': WHATEVER THE INPUT: true; the input reads as it did. -/
def wideBothSpec : ChangeSpec := { name := "wideBoth", fn := fun _ => fun
  | [d] => { results := [.lit (.bool true)], args := [d] }
  | _ => none }
def wideBothRow : OpenClaim := { program := "ytdggflkkojmabaadoor", sum := "f0bb7ff7ddc97e8cfdff3321dba2599770b7dc8bf4c5ae4b5b7e6cce8e0a12f9", func := "feria/ferialaw04.WideBoth", spec := "wideBoth", unfollowed := true, recurses := true, named := ["math/bits.deBruijn64tab"], apart := false, laid := [("math/bits.deBruijn64tab", laid_math_bits_deBruijn64tab)] }
def WideBothSaid : Prop := wideBothRow.holds Tryd.pinned (OpenSpec.ofChange wideBothSpec)

/-- ITS FALSE NEIGHBOUR: 'it returns false'. Refute it at one input. -/
def wideBothWrong : ChangeSpec := { name := "wideBoth", fn := fun _ => fun
  | [d] => { results := [.lit (.bool false)], args := [d] }
  | _ => none }
def WideBothWrongFalsely : Prop := wideBothRow.holds Tryd.pinned (OpenSpec.ofChange wideBothWrong)

/-- 'ferialaw04.WideBack': WHATEVER THE INPUT: true; the input reads as it did. -/
def wideBackSpec : ChangeSpec := { name := "wideBack", fn := fun _ => fun
  | [d] => { results := [.lit (.bool true)], args := [d] }
  | _ => none }
def wideBackRow : OpenClaim := { program := "ytdggflkkojmabaadoor", sum := "f0bb7ff7ddc97e8cfdff3321dba2599770b7dc8bf4c5ae4b5b7e6cce8e0a12f9", func := "feria/ferialaw04.WideBack", spec := "wideBack", unfollowed := true, recurses := true, named := ["math/bits.deBruijn64tab"], apart := false, laid := [("math/bits.deBruijn64tab", laid_math_bits_deBruijn64tab)] }
def WideBackSaid : Prop := wideBackRow.holds Tryd.pinned (OpenSpec.ofChange wideBackSpec)

/-- ITS FALSE NEIGHBOUR: 'it returns false'. Refute it at one input. -/
def wideBackWrong : ChangeSpec := { name := "wideBack", fn := fun _ => fun
  | [d] => { results := [.lit (.bool false)], args := [d] }
  | _ => none }
def WideBackWrongFalsely : Prop := wideBackRow.holds Tryd.pinned (OpenSpec.ofChange wideBackWrong)

/-- 'ferialaw15.DiscPlays': WHATEVER THE INPUT: true; the input reads as it did. -/
def discPlaysSpec : ChangeSpec := { name := "discPlays", fn := fun _ => fun
  | [d1, d2, d3] => { results := [.lit (.bool true)], args := [d1, d2, d3] }
  | _ => none }
def discPlaysRow : OpenClaim := { program := "ytdggflkkojmabaadoor", sum := "f0bb7ff7ddc97e8cfdff3321dba2599770b7dc8bf4c5ae4b5b7e6cce8e0a12f9", func := "feria/ferialaw15.DiscPlays", spec := "discPlays", unfollowed := true, recurses := true, named := ["math/bits.deBruijn64tab"], apart := false, laid := [("math/bits.deBruijn64tab", laid_math_bits_deBruijn64tab)] }
def DiscPlaysSaid : Prop := discPlaysRow.holds Tryd.pinned (OpenSpec.ofChange discPlaysSpec)

/-- ITS FALSE NEIGHBOUR: 'it returns false'. Refute it at one input. -/
def discPlaysWrong : ChangeSpec := { name := "discPlays", fn := fun _ => fun
  | [d1, d2, d3] => { results := [.lit (.bool false)], args := [d1, d2, d3] }
  | _ => none }
def DiscPlaysWrongFalsely : Prop := discPlaysRow.holds Tryd.pinned (OpenSpec.ofChange discPlaysWrong)

/- THE SECOND FORM. 'bulk': how many values and letters a reading holds, each counted each time it is reached (what is shared counts as often as it is met; a slice's spare places count too). A statement '..UptoSaid' is the law's where the arguments, and the package variables that the reading takes, are together of bulk at most 1048576: NARROWER than '..Said'. Prove '..Said' where nothing that the law and all that it calls make is longer than what came in: it says more and counts as full. Else prove '..UptoSaid'. A law counts once. -/
mutual
def uptoBulk {H : Type} : DataW H → Nat
  | .lit (.string bytes) => bytes.length + 1
  | .lit _ => 1
  | .nil => 1
  | .ptr d => uptoBulk d + 1
  | .slice elems spare => uptoBulkAll elems + uptoBulkAll spare + 1
  | .agg parts => uptoBulkAll parts + 1
  | .iface _ d => uptoBulk d + 1
  | .map entries => uptoBulkEntries entries + 1
  | .held _ => 1
def uptoBulkAll {H : Type} : List (DataW H) → Nat
  | [] => 0
  | d :: r => uptoBulk d + uptoBulkAll r
def uptoBulkEntries {H : Type} : List (Lit × DataW H) → Nat
  | [] => 0
  | x :: r => uptoBulkEntry x + uptoBulkEntries r
def uptoBulkEntry {H : Type} : Lit × DataW H → Nat
  | (.string bytes, d) => bytes.length + uptoBulk d + 1
  | (_, d) => uptoBulk d + 1
 end
def uptoSmall : (H : Type) → List (DataW H) → Bool := fun _ ds => decide (uptoBulkAll ds ≤ 1048576)
def OpenSpec.upto (s : _root_.Go.ChangeSpec) : _root_.Go.OpenSpec := { _root_.Go.OpenSpec.ofChange s with cond := some uptoSmall }

/-- 'ferialaw02.MaskSpans', WHERE WHAT IT READS IS OF BULK AT MOST 1048576: true; the input reads as it did. -/
def maskSpansUptoRow : OpenClaim := { program := "ytdggflkkojmabaadoor", sum := "f0bb7ff7ddc97e8cfdff3321dba2599770b7dc8bf4c5ae4b5b7e6cce8e0a12f9", func := "feria/ferialaw02.MaskSpans", spec := "maskSpans", named := ["math/bits.deBruijn64tab"], apart := false, laid := [("math/bits.deBruijn64tab", laid_math_bits_deBruijn64tab)], narrowed := true }
def MaskSpansUptoSaid : Prop := maskSpansUptoRow.holds Tryd.pinned (OpenSpec.upto maskSpansSpec)

/-- 'ferialaw02.MaskAll', WHERE WHAT IT READS IS OF BULK AT MOST 1048576: true; the input reads as it did. -/
def maskAllUptoRow : OpenClaim := { program := "ytdggflkkojmabaadoor", sum := "f0bb7ff7ddc97e8cfdff3321dba2599770b7dc8bf4c5ae4b5b7e6cce8e0a12f9", func := "feria/ferialaw02.MaskAll", spec := "maskAll", unfollowed := true, recurses := true, named := ["math/bits.deBruijn64tab"], apart := false, laid := [("math/bits.deBruijn64tab", laid_math_bits_deBruijn64tab)], narrowed := true }
def MaskAllUptoSaid : Prop := maskAllUptoRow.holds Tryd.pinned (OpenSpec.upto maskAllSpec)

/-- 'ferialaw15.DiscCompares', WHERE WHAT IT READS IS OF BULK AT MOST 1048576: true; the input reads as it did. -/
def discComparesUptoRow : OpenClaim := { program := "ytdggflkkojmabaadoor", sum := "f0bb7ff7ddc97e8cfdff3321dba2599770b7dc8bf4c5ae4b5b7e6cce8e0a12f9", func := "feria/ferialaw15.DiscCompares", spec := "discCompares", unfollowed := true, recurses := true, named := ["math/bits.deBruijn64tab"], apart := false, laid := [("math/bits.deBruijn64tab", laid_math_bits_deBruijn64tab)], narrowed := true }
def DiscComparesUptoSaid : Prop := discComparesUptoRow.holds Tryd.pinned (OpenSpec.upto discComparesSpec)

/-- 'ferialaw02.MaskNext', WHERE WHAT IT READS IS OF BULK AT MOST 1048576: true; the input reads as it did. -/
def maskNextUptoRow : OpenClaim := { program := "ytdggflkkojmabaadoor", sum := "f0bb7ff7ddc97e8cfdff3321dba2599770b7dc8bf4c5ae4b5b7e6cce8e0a12f9", func := "feria/ferialaw02.MaskNext", spec := "maskNext", named := ["math/bits.deBruijn64tab"], apart := false, laid := [("math/bits.deBruijn64tab", laid_math_bits_deBruijn64tab)], narrowed := true }
def MaskNextUptoSaid : Prop := maskNextUptoRow.holds Tryd.pinned (OpenSpec.upto maskNextSpec)

/-- 'ferialaw07.TodParts', WHERE WHAT IT READS IS OF BULK AT MOST 1048576: true; the input reads as it did. -/
def todPartsUptoRow : OpenClaim := { program := "ytdggflkkojmabaadoor", sum := "f0bb7ff7ddc97e8cfdff3321dba2599770b7dc8bf4c5ae4b5b7e6cce8e0a12f9", func := "feria/ferialaw07.TodParts", spec := "todParts", named := ["math/bits.deBruijn64tab"], apart := false, laid := [("math/bits.deBruijn64tab", laid_math_bits_deBruijn64tab)], narrowed := true }
def TodPartsUptoSaid : Prop := todPartsUptoRow.holds Tryd.pinned (OpenSpec.upto todPartsSpec)

/-- 'ferialaw03.CoverOf', WHERE WHAT IT READS IS OF BULK AT MOST 1048576: true; the input reads as it did. -/
def coverOfUptoRow : OpenClaim := { program := "ytdggflkkojmabaadoor", sum := "f0bb7ff7ddc97e8cfdff3321dba2599770b7dc8bf4c5ae4b5b7e6cce8e0a12f9", func := "feria/ferialaw03.CoverOf", spec := "coverOf", unfollowed := true, recurses := true, named := ["math/bits.deBruijn64tab"], apart := false, laid := [("math/bits.deBruijn64tab", laid_math_bits_deBruijn64tab)], narrowed := true }
def CoverOfUptoSaid : Prop := coverOfUptoRow.holds Tryd.pinned (OpenSpec.upto coverOfSpec)

/-- 'ferialaw02.MaskBack', WHERE WHAT IT READS IS OF BULK AT MOST 1048576: true; the input reads as it did. -/
def maskBackUptoRow : OpenClaim := { program := "ytdggflkkojmabaadoor", sum := "f0bb7ff7ddc97e8cfdff3321dba2599770b7dc8bf4c5ae4b5b7e6cce8e0a12f9", func := "feria/ferialaw02.MaskBack", spec := "maskBack", unfollowed := true, recurses := true, named := ["math/bits.deBruijn64tab"], apart := false, laid := [("math/bits.deBruijn64tab", laid_math_bits_deBruijn64tab)], narrowed := true }
def MaskBackUptoSaid : Prop := maskBackUptoRow.holds Tryd.pinned (OpenSpec.upto maskBackSpec)

/-- 'ferialaw07.TodAll', WHERE WHAT IT READS IS OF BULK AT MOST 1048576: true; the input reads as it did. -/
def todAllUptoRow : OpenClaim := { program := "ytdggflkkojmabaadoor", sum := "f0bb7ff7ddc97e8cfdff3321dba2599770b7dc8bf4c5ae4b5b7e6cce8e0a12f9", func := "feria/ferialaw07.TodAll", spec := "todAll", unfollowed := true, recurses := true, named := ["math/bits.deBruijn64tab"], apart := false, laid := [("math/bits.deBruijn64tab", laid_math_bits_deBruijn64tab)], narrowed := true }
def TodAllUptoSaid : Prop := todAllUptoRow.holds Tryd.pinned (OpenSpec.upto todAllSpec)

/-- 'ferialaw04.WideAll', WHERE WHAT IT READS IS OF BULK AT MOST 1048576: true; the input reads as it did. -/
def wideAllUptoRow : OpenClaim := { program := "ytdggflkkojmabaadoor", sum := "f0bb7ff7ddc97e8cfdff3321dba2599770b7dc8bf4c5ae4b5b7e6cce8e0a12f9", func := "feria/ferialaw04.WideAll", spec := "wideAll", unfollowed := true, recurses := true, named := ["math/bits.deBruijn64tab"], apart := false, laid := [("math/bits.deBruijn64tab", laid_math_bits_deBruijn64tab)], narrowed := true }
def WideAllUptoSaid : Prop := wideAllUptoRow.holds Tryd.pinned (OpenSpec.upto wideAllSpec)

/-- 'ferialaw04.WideOf', WHERE WHAT IT READS IS OF BULK AT MOST 1048576: true; the input reads as it did. -/
def wideOfUptoRow : OpenClaim := { program := "ytdggflkkojmabaadoor", sum := "f0bb7ff7ddc97e8cfdff3321dba2599770b7dc8bf4c5ae4b5b7e6cce8e0a12f9", func := "feria/ferialaw04.WideOf", spec := "wideOf", unfollowed := true, recurses := true, named := ["math/bits.deBruijn64tab"], apart := false, laid := [("math/bits.deBruijn64tab", laid_math_bits_deBruijn64tab)], narrowed := true }
def WideOfUptoSaid : Prop := wideOfUptoRow.holds Tryd.pinned (OpenSpec.upto wideOfSpec)

/-- 'ferialaw07.TodNext', WHERE WHAT IT READS IS OF BULK AT MOST 1048576: true; the input reads as it did. -/
def todNextUptoRow : OpenClaim := { program := "ytdggflkkojmabaadoor", sum := "f0bb7ff7ddc97e8cfdff3321dba2599770b7dc8bf4c5ae4b5b7e6cce8e0a12f9", func := "feria/ferialaw07.TodNext", spec := "todNext", unfollowed := true, recurses := true, named := ["math/bits.deBruijn64tab"], apart := false, laid := [("math/bits.deBruijn64tab", laid_math_bits_deBruijn64tab)], narrowed := true }
def TodNextUptoSaid : Prop := todNextUptoRow.holds Tryd.pinned (OpenSpec.upto todNextSpec)

/-- 'ferialaw07.TodOn', WHERE WHAT IT READS IS OF BULK AT MOST 1048576: true; the input reads as it did. -/
def todOnUptoRow : OpenClaim := { program := "ytdggflkkojmabaadoor", sum := "f0bb7ff7ddc97e8cfdff3321dba2599770b7dc8bf4c5ae4b5b7e6cce8e0a12f9", func := "feria/ferialaw07.TodOn", spec := "todOn", unfollowed := true, recurses := true, named := ["math/bits.deBruijn64tab"], apart := false, laid := [("math/bits.deBruijn64tab", laid_math_bits_deBruijn64tab)], narrowed := true }
def TodOnUptoSaid : Prop := todOnUptoRow.holds Tryd.pinned (OpenSpec.upto todOnSpec)

/-- 'ferialaw04.WideBoth', WHERE WHAT IT READS IS OF BULK AT MOST 1048576: true; the input reads as it did. -/
def wideBothUptoRow : OpenClaim := { program := "ytdggflkkojmabaadoor", sum := "f0bb7ff7ddc97e8cfdff3321dba2599770b7dc8bf4c5ae4b5b7e6cce8e0a12f9", func := "feria/ferialaw04.WideBoth", spec := "wideBoth", unfollowed := true, recurses := true, named := ["math/bits.deBruijn64tab"], apart := false, laid := [("math/bits.deBruijn64tab", laid_math_bits_deBruijn64tab)], narrowed := true }
def WideBothUptoSaid : Prop := wideBothUptoRow.holds Tryd.pinned (OpenSpec.upto wideBothSpec)

/-- 'ferialaw04.WideBack', WHERE WHAT IT READS IS OF BULK AT MOST 1048576: true; the input reads as it did. -/
def wideBackUptoRow : OpenClaim := { program := "ytdggflkkojmabaadoor", sum := "f0bb7ff7ddc97e8cfdff3321dba2599770b7dc8bf4c5ae4b5b7e6cce8e0a12f9", func := "feria/ferialaw04.WideBack", spec := "wideBack", unfollowed := true, recurses := true, named := ["math/bits.deBruijn64tab"], apart := false, laid := [("math/bits.deBruijn64tab", laid_math_bits_deBruijn64tab)], narrowed := true }
def WideBackUptoSaid : Prop := wideBackUptoRow.holds Tryd.pinned (OpenSpec.upto wideBackSpec)

/-- 'ferialaw15.DiscPlays', WHERE WHAT IT READS IS OF BULK AT MOST 1048576: true; the input reads as it did. -/
def discPlaysUptoRow : OpenClaim := { program := "ytdggflkkojmabaadoor", sum := "f0bb7ff7ddc97e8cfdff3321dba2599770b7dc8bf4c5ae4b5b7e6cce8e0a12f9", func := "feria/ferialaw15.DiscPlays", spec := "discPlays", unfollowed := true, recurses := true, named := ["math/bits.deBruijn64tab"], apart := false, laid := [("math/bits.deBruijn64tab", laid_math_bits_deBruijn64tab)], narrowed := true }
def DiscPlaysUptoSaid : Prop := discPlaysUptoRow.holds Tryd.pinned (OpenSpec.upto discPlaysSpec)

end Rows
end Go.Proofs.YtdggflkkojmabaaDoor

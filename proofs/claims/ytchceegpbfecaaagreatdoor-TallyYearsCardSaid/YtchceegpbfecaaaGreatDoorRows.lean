/-
  NARROWER THAN 'FOR EVERY INPUT', by the rows' own cells (each row's printed sentence says how): MeetEqual: laid · MeetWork: laid · MeetBoth: laid · MeetWithin: laid · TallyCounts: laid · TallyParts: laid · TallyNth: laid · TallyYears: laid.
  DERIVED. THE GIVEN ROWS OF THIS SEAT. 8 by the template 'for every input the law returns true; each argument reads behind the call as it read before'; 0 by the template 'total and deterministic' (their statements: YtchceegpbfecaaaGreatDoorTotals.lean).
  GIVEN WITH THE SEED: the statements are not yours to turn. If you find one false, say at which input.
  Laid BY PROGRAM, IN A SANDBOX (cutbox-rows.mjs): the forced cells as the released guide's own fill.sh prints them over the translation 2d9ce3d62ababa02… (all of the seat's roots in one cut). By AI agents, Wed Nov 11 2026. No macro, syntax, notation, axiom, sorry.
-/
import Derived.Test.YtchceegpbfecaaaGreatDoorChecked
import GoSem.Claim
import GoSem.ClaimJoined
import GoSem.ClaimMapViews
import Derived.JoinedTies
import Derived.KernelRfl
namespace Go.Proofs.YtchceegpbfecaaaGreatDoor
/- THE CELL 'sum', in the pinned program and in every row, IS THE sha256 OF THE DUMP (.gsa) THAT YtchceegpbfecaaaGreatDoorProg.lean LOADS. Nothing in Lean hashes anything: it is a label: what it is worth is what the hold of that sum in a sandbox is worth. -/
noncomputable def Tryz.pinned : Pinned := { name := "ytchceegpbfecaaagreatdoor", sum := "2d9ce3d62ababa022f2783572c51389f83b7b57489faedeb38675a3045e89643", checked := Tryz.checked }
namespace Rows
def none {H : Type} : Left H := { results := [], args := [] }

/- WHAT THE LISTED PACKAGE-LEVEL VARIABLES READ AS WHEN THE CALL BEGINS. Each datum BY PROGRAM (the guide's laid-datum.mjs) off the statement by which the dump's own 'gosem.cut.vars' lays the variable. In a bare row this is a premise. The card (YtchceegpbfecaaaGreatDoorCards.lean) ties it to the program's text. -/
def laid_math_bits_deBruijn64tab {H : Type} : DataW H := .agg [.lit (.int .u8 0), .lit (.int .u8 1), .lit (.int .u8 56), .lit (.int .u8 2), .lit (.int .u8 57), .lit (.int .u8 49), .lit (.int .u8 28), .lit (.int .u8 3), .lit (.int .u8 61), .lit (.int .u8 58), .lit (.int .u8 42), .lit (.int .u8 50), .lit (.int .u8 38), .lit (.int .u8 29), .lit (.int .u8 17), .lit (.int .u8 4), .lit (.int .u8 62), .lit (.int .u8 47), .lit (.int .u8 59), .lit (.int .u8 36), .lit (.int .u8 45), .lit (.int .u8 43), .lit (.int .u8 51), .lit (.int .u8 22), .lit (.int .u8 53), .lit (.int .u8 39), .lit (.int .u8 33), .lit (.int .u8 30), .lit (.int .u8 24), .lit (.int .u8 18), .lit (.int .u8 12), .lit (.int .u8 5), .lit (.int .u8 63), .lit (.int .u8 55), .lit (.int .u8 48), .lit (.int .u8 27), .lit (.int .u8 60), .lit (.int .u8 41), .lit (.int .u8 37), .lit (.int .u8 16), .lit (.int .u8 46), .lit (.int .u8 35), .lit (.int .u8 44), .lit (.int .u8 21), .lit (.int .u8 52), .lit (.int .u8 32), .lit (.int .u8 23), .lit (.int .u8 11), .lit (.int .u8 54), .lit (.int .u8 26), .lit (.int .u8 40), .lit (.int .u8 15), .lit (.int .u8 34), .lit (.int .u8 20), .lit (.int .u8 31), .lit (.int .u8 10), .lit (.int .u8 25), .lit (.int .u8 14), .lit (.int .u8 19), .lit (.int .u8 9), .lit (.int .u8 13), .lit (.int .u8 8), .lit (.int .u8 7), .lit (.int .u8 6)]

/-- 'ferialaw21.MeetEqual': WHATEVER THE INPUT: true; the input reads as it did. -/
def meetEqualSpec : ChangeSpec := { name := "meetEqual", fn := fun _ => fun
  | [d1, d2, d3] => { results := [.lit (.bool true)], args := [d1, d2, d3] }
  | _ => none }
def meetEqualRow : OpenClaim := { program := "ytchceegpbfecaaagreatdoor", sum := "2d9ce3d62ababa022f2783572c51389f83b7b57489faedeb38675a3045e89643", func := "feria/ferialaw21.MeetEqual", spec := "meetEqual", unfollowed := true, recurses := true, named := ["math/bits.deBruijn64tab"], plainKeys := false, apart := false, laid := [("math/bits.deBruijn64tab", laid_math_bits_deBruijn64tab)] }
def MeetEqualSaid : Prop := meetEqualRow.holds Tryz.pinned (OpenSpec.ofChange meetEqualSpec)

/-- ITS FALSE NEIGHBOUR: 'it returns false'. Refute it at one input. -/
def meetEqualWrong : ChangeSpec := { name := "meetEqual", fn := fun _ => fun
  | [d1, d2, d3] => { results := [.lit (.bool false)], args := [d1, d2, d3] }
  | _ => none }
def MeetEqualWrongFalsely : Prop := meetEqualRow.holds Tryz.pinned (OpenSpec.ofChange meetEqualWrong)

/-- 'ferialaw21.MeetWork': WHATEVER THE INPUT: true; the input reads as it did. -/
def meetWorkSpec : ChangeSpec := { name := "meetWork", fn := fun _ => fun
  | [d1, d2] => { results := [.lit (.bool true)], args := [d1, d2] }
  | _ => none }
def meetWorkRow : OpenClaim := { program := "ytchceegpbfecaaagreatdoor", sum := "2d9ce3d62ababa022f2783572c51389f83b7b57489faedeb38675a3045e89643", func := "feria/ferialaw21.MeetWork", spec := "meetWork", unfollowed := true, recurses := true, named := ["math/bits.deBruijn64tab"], plainKeys := false, apart := false, laid := [("math/bits.deBruijn64tab", laid_math_bits_deBruijn64tab)] }
def MeetWorkSaid : Prop := meetWorkRow.holds Tryz.pinned (OpenSpec.ofChange meetWorkSpec)

/-- ITS FALSE NEIGHBOUR: 'it returns false'. Refute it at one input. -/
def meetWorkWrong : ChangeSpec := { name := "meetWork", fn := fun _ => fun
  | [d1, d2] => { results := [.lit (.bool false)], args := [d1, d2] }
  | _ => none }
def MeetWorkWrongFalsely : Prop := meetWorkRow.holds Tryz.pinned (OpenSpec.ofChange meetWorkWrong)

/-- 'ferialaw21.MeetBoth': WHATEVER THE INPUT: true; the input reads as it did. -/
def meetBothSpec : ChangeSpec := { name := "meetBoth", fn := fun _ => fun
  | [d1, d2] => { results := [.lit (.bool true)], args := [d1, d2] }
  | _ => none }
def meetBothRow : OpenClaim := { program := "ytchceegpbfecaaagreatdoor", sum := "2d9ce3d62ababa022f2783572c51389f83b7b57489faedeb38675a3045e89643", func := "feria/ferialaw21.MeetBoth", spec := "meetBoth", unfollowed := true, recurses := true, named := ["math/bits.deBruijn64tab"], plainKeys := false, apart := false, laid := [("math/bits.deBruijn64tab", laid_math_bits_deBruijn64tab)] }
def MeetBothSaid : Prop := meetBothRow.holds Tryz.pinned (OpenSpec.ofChange meetBothSpec)

/-- ITS FALSE NEIGHBOUR: 'it returns false'. Refute it at one input. -/
def meetBothWrong : ChangeSpec := { name := "meetBoth", fn := fun _ => fun
  | [d1, d2] => { results := [.lit (.bool false)], args := [d1, d2] }
  | _ => none }
def MeetBothWrongFalsely : Prop := meetBothRow.holds Tryz.pinned (OpenSpec.ofChange meetBothWrong)

/-- 'ferialaw21.MeetWithin': WHATEVER THE INPUT: true; the input reads as it did. -/
def meetWithinSpec : ChangeSpec := { name := "meetWithin", fn := fun _ => fun
  | [d1, d2, d3] => { results := [.lit (.bool true)], args := [d1, d2, d3] }
  | _ => none }
def meetWithinRow : OpenClaim := { program := "ytchceegpbfecaaagreatdoor", sum := "2d9ce3d62ababa022f2783572c51389f83b7b57489faedeb38675a3045e89643", func := "feria/ferialaw21.MeetWithin", spec := "meetWithin", unfollowed := true, recurses := true, named := ["math/bits.deBruijn64tab"], plainKeys := false, apart := false, laid := [("math/bits.deBruijn64tab", laid_math_bits_deBruijn64tab)] }
def MeetWithinSaid : Prop := meetWithinRow.holds Tryz.pinned (OpenSpec.ofChange meetWithinSpec)

/-- ITS FALSE NEIGHBOUR: 'it returns false'. Refute it at one input. -/
def meetWithinWrong : ChangeSpec := { name := "meetWithin", fn := fun _ => fun
  | [d1, d2, d3] => { results := [.lit (.bool false)], args := [d1, d2, d3] }
  | _ => none }
def MeetWithinWrongFalsely : Prop := meetWithinRow.holds Tryz.pinned (OpenSpec.ofChange meetWithinWrong)

/-- 'ferialaw20.TallyCounts': WHATEVER THE INPUT: true; the input reads as it did. -/
def tallyCountsSpec : ChangeSpec := { name := "tallyCounts", fn := fun _ => fun
  | [d1, d2, d3] => { results := [.lit (.bool true)], args := [d1, d2, d3] }
  | _ => none }
def tallyCountsRow : OpenClaim := { program := "ytchceegpbfecaaagreatdoor", sum := "2d9ce3d62ababa022f2783572c51389f83b7b57489faedeb38675a3045e89643", func := "feria/ferialaw20.TallyCounts", spec := "tallyCounts", unfollowed := true, recurses := true, named := ["math/bits.deBruijn64tab"], plainKeys := false, apart := false, laid := [("math/bits.deBruijn64tab", laid_math_bits_deBruijn64tab)] }
def TallyCountsSaid : Prop := tallyCountsRow.holds Tryz.pinned (OpenSpec.ofChange tallyCountsSpec)

/-- ITS FALSE NEIGHBOUR: 'it returns false'. Refute it at one input. -/
def tallyCountsWrong : ChangeSpec := { name := "tallyCounts", fn := fun _ => fun
  | [d1, d2, d3] => { results := [.lit (.bool false)], args := [d1, d2, d3] }
  | _ => none }
def TallyCountsWrongFalsely : Prop := tallyCountsRow.holds Tryz.pinned (OpenSpec.ofChange tallyCountsWrong)

/-- 'ferialaw20.TallyParts': WHATEVER THE INPUT: true; the input reads as it did. -/
def tallyPartsSpec : ChangeSpec := { name := "tallyParts", fn := fun _ => fun
  | [d1, d2] => { results := [.lit (.bool true)], args := [d1, d2] }
  | _ => none }
def tallyPartsRow : OpenClaim := { program := "ytchceegpbfecaaagreatdoor", sum := "2d9ce3d62ababa022f2783572c51389f83b7b57489faedeb38675a3045e89643", func := "feria/ferialaw20.TallyParts", spec := "tallyParts", unfollowed := true, recurses := true, named := ["math/bits.deBruijn64tab"], plainKeys := false, apart := false, laid := [("math/bits.deBruijn64tab", laid_math_bits_deBruijn64tab)] }
def TallyPartsSaid : Prop := tallyPartsRow.holds Tryz.pinned (OpenSpec.ofChange tallyPartsSpec)

/-- ITS FALSE NEIGHBOUR: 'it returns false'. Refute it at one input. -/
def tallyPartsWrong : ChangeSpec := { name := "tallyParts", fn := fun _ => fun
  | [d1, d2] => { results := [.lit (.bool false)], args := [d1, d2] }
  | _ => none }
def TallyPartsWrongFalsely : Prop := tallyPartsRow.holds Tryz.pinned (OpenSpec.ofChange tallyPartsWrong)

/-- 'ferialaw20.TallyNth': WHATEVER THE INPUT: true; the input reads as it did. -/
def tallyNthSpec : ChangeSpec := { name := "tallyNth", fn := fun _ => fun
  | [d1, d2] => { results := [.lit (.bool true)], args := [d1, d2] }
  | _ => none }
def tallyNthRow : OpenClaim := { program := "ytchceegpbfecaaagreatdoor", sum := "2d9ce3d62ababa022f2783572c51389f83b7b57489faedeb38675a3045e89643", func := "feria/ferialaw20.TallyNth", spec := "tallyNth", unfollowed := true, recurses := true, named := ["math/bits.deBruijn64tab"], plainKeys := false, apart := false, laid := [("math/bits.deBruijn64tab", laid_math_bits_deBruijn64tab)] }
def TallyNthSaid : Prop := tallyNthRow.holds Tryz.pinned (OpenSpec.ofChange tallyNthSpec)

/-- ITS FALSE NEIGHBOUR: 'it returns false'. Refute it at one input. -/
def tallyNthWrong : ChangeSpec := { name := "tallyNth", fn := fun _ => fun
  | [d1, d2] => { results := [.lit (.bool false)], args := [d1, d2] }
  | _ => none }
def TallyNthWrongFalsely : Prop := tallyNthRow.holds Tryz.pinned (OpenSpec.ofChange tallyNthWrong)

/-- 'ferialaw20.TallyYears': WHATEVER THE INPUT: true; the input reads as it did. -/
def tallyYearsSpec : ChangeSpec := { name := "tallyYears", fn := fun _ => fun
  | [d1, d2] => { results := [.lit (.bool true)], args := [d1, d2] }
  | _ => none }
def tallyYearsRow : OpenClaim := { program := "ytchceegpbfecaaagreatdoor", sum := "2d9ce3d62ababa022f2783572c51389f83b7b57489faedeb38675a3045e89643", func := "feria/ferialaw20.TallyYears", spec := "tallyYears", unfollowed := true, recurses := true, named := ["math/bits.deBruijn64tab"], plainKeys := false, apart := false, laid := [("math/bits.deBruijn64tab", laid_math_bits_deBruijn64tab)] }
def TallyYearsSaid : Prop := tallyYearsRow.holds Tryz.pinned (OpenSpec.ofChange tallyYearsSpec)

/-- ITS FALSE NEIGHBOUR: 'it returns false'. Refute it at one input. -/
def tallyYearsWrong : ChangeSpec := { name := "tallyYears", fn := fun _ => fun
  | [d1, d2] => { results := [.lit (.bool false)], args := [d1, d2] }
  | _ => none }
def TallyYearsWrongFalsely : Prop := tallyYearsRow.holds Tryz.pinned (OpenSpec.ofChange tallyYearsWrong)

/- THE SECOND FORM. 'bulk': how many values and letters a reading holds, each counted each time it is reached (what is shared counts as often as it is met; a slice's spare places count too). A statement '..UptoSaid' is the law's where the arguments, and the package variables that the reading takes, are together of bulk at most 1048576: NARROWER than '..Said'. Prove '..Said' where nothing that the law and all that it calls make is longer than what came in: it says more and counts as full. Else prove '..UptoSaid'. A law counts once. -/
mutual
def uptoBulk {H : Type} : DataW H → Nat
  | .lit (.string bytes) => bytes.length + 1
  | .lit _ => 1
  | .nil => 1
  | .ptr d => uptoBulk d + 1
  | .slice elems spare => uptoBulkAll elems + uptoBulkAll spare + 1
  | .agg parts => uptoBulkAll parts + 1
  | .iface _ d => uptoBulk d + 1
  | .map entries => uptoBulkEntries entries + 1
  | .held _ => 1
def uptoBulkAll {H : Type} : List (DataW H) → Nat
  | [] => 0
  | d :: r => uptoBulk d + uptoBulkAll r
def uptoBulkEntries {H : Type} : List (Lit × DataW H) → Nat
  | [] => 0
  | x :: r => uptoBulkEntry x + uptoBulkEntries r
def uptoBulkEntry {H : Type} : Lit × DataW H → Nat
  | (.string bytes, d) => bytes.length + uptoBulk d + 1
  | (_, d) => uptoBulk d + 1
 end
def uptoSmall : (H : Type) → List (DataW H) → Bool := fun _ ds => decide (uptoBulkAll ds ≤ 1048576)
def OpenSpec.upto (s : _root_.Go.ChangeSpec) : _root_.Go.OpenSpec := { _root_.Go.OpenSpec.ofChange s with cond := some uptoSmall }

/-- 'ferialaw21.MeetEqual', WHERE WHAT IT READS IS OF BULK AT MOST 1048576: true; the input reads as it did. -/
def meetEqualUptoRow : OpenClaim := { program := "ytchceegpbfecaaagreatdoor", sum := "2d9ce3d62ababa022f2783572c51389f83b7b57489faedeb38675a3045e89643", func := "feria/ferialaw21.MeetEqual", spec := "meetEqual", unfollowed := true, recurses := true, named := ["math/bits.deBruijn64tab"], plainKeys := false, apart := false, laid := [("math/bits.deBruijn64tab", laid_math_bits_deBruijn64tab)], narrowed := true }
def MeetEqualUptoSaid : Prop := meetEqualUptoRow.holds Tryz.pinned (OpenSpec.upto meetEqualSpec)

/-- 'ferialaw21.MeetWork', WHERE WHAT IT READS IS OF BULK AT MOST 1048576: true; the input reads as it did. -/
def meetWorkUptoRow : OpenClaim := { program := "ytchceegpbfecaaagreatdoor", sum := "2d9ce3d62ababa022f2783572c51389f83b7b57489faedeb38675a3045e89643", func := "feria/ferialaw21.MeetWork", spec := "meetWork", unfollowed := true, recurses := true, named := ["math/bits.deBruijn64tab"], plainKeys := false, apart := false, laid := [("math/bits.deBruijn64tab", laid_math_bits_deBruijn64tab)], narrowed := true }
def MeetWorkUptoSaid : Prop := meetWorkUptoRow.holds Tryz.pinned (OpenSpec.upto meetWorkSpec)

/-- 'ferialaw21.MeetBoth', WHERE WHAT IT READS IS OF BULK AT MOST 1048576: true; the input reads as it did. -/
def meetBothUptoRow : OpenClaim := { program := "ytchceegpbfecaaagreatdoor", sum := "2d9ce3d62ababa022f2783572c51389f83b7b57489faedeb38675a3045e89643", func := "feria/ferialaw21.MeetBoth", spec := "meetBoth", unfollowed := true, recurses := true, named := ["math/bits.deBruijn64tab"], plainKeys := false, apart := false, laid := [("math/bits.deBruijn64tab", laid_math_bits_deBruijn64tab)], narrowed := true }
def MeetBothUptoSaid : Prop := meetBothUptoRow.holds Tryz.pinned (OpenSpec.upto meetBothSpec)

/-- 'ferialaw21.MeetWithin', WHERE WHAT IT READS IS OF BULK AT MOST 1048576: true; the input reads as it did. -/
def meetWithinUptoRow : OpenClaim := { program := "ytchceegpbfecaaagreatdoor", sum := "2d9ce3d62ababa022f2783572c51389f83b7b57489faedeb38675a3045e89643", func := "feria/ferialaw21.MeetWithin", spec := "meetWithin", unfollowed := true, recurses := true, named := ["math/bits.deBruijn64tab"], plainKeys := false, apart := false, laid := [("math/bits.deBruijn64tab", laid_math_bits_deBruijn64tab)], narrowed := true }
def MeetWithinUptoSaid : Prop := meetWithinUptoRow.holds Tryz.pinned (OpenSpec.upto meetWithinSpec)

/-- 'ferialaw20.TallyCounts', WHERE WHAT IT READS IS OF BULK AT MOST 1048576: true; the input reads as it did. -/
def tallyCountsUptoRow : OpenClaim := { program := "ytchceegpbfecaaagreatdoor", sum := "2d9ce3d62ababa022f2783572c51389f83b7b57489faedeb38675a3045e89643", func := "feria/ferialaw20.TallyCounts", spec := "tallyCounts", unfollowed := true, recurses := true, named := ["math/bits.deBruijn64tab"], plainKeys := false, apart := false, laid := [("math/bits.deBruijn64tab", laid_math_bits_deBruijn64tab)], narrowed := true }
def TallyCountsUptoSaid : Prop := tallyCountsUptoRow.holds Tryz.pinned (OpenSpec.upto tallyCountsSpec)

/-- 'ferialaw20.TallyParts', WHERE WHAT IT READS IS OF BULK AT MOST 1048576: true; the input reads as it did. -/
def tallyPartsUptoRow : OpenClaim := { program := "ytchceegpbfecaaagreatdoor", sum := "2d9ce3d62ababa022f2783572c51389f83b7b57489faedeb38675a3045e89643", func := "feria/ferialaw20.TallyParts", spec := "tallyParts", unfollowed := true, recurses := true, named := ["math/bits.deBruijn64tab"], plainKeys := false, apart := false, laid := [("math/bits.deBruijn64tab", laid_math_bits_deBruijn64tab)], narrowed := true }
def TallyPartsUptoSaid : Prop := tallyPartsUptoRow.holds Tryz.pinned (OpenSpec.upto tallyPartsSpec)

/-- 'ferialaw20.TallyNth', WHERE WHAT IT READS IS OF BULK AT MOST 1048576: true; the input reads as it did. -/
def tallyNthUptoRow : OpenClaim := { program := "ytchceegpbfecaaagreatdoor", sum := "2d9ce3d62ababa022f2783572c51389f83b7b57489faedeb38675a3045e89643", func := "feria/ferialaw20.TallyNth", spec := "tallyNth", unfollowed := true, recurses := true, named := ["math/bits.deBruijn64tab"], plainKeys := false, apart := false, laid := [("math/bits.deBruijn64tab", laid_math_bits_deBruijn64tab)], narrowed := true }
def TallyNthUptoSaid : Prop := tallyNthUptoRow.holds Tryz.pinned (OpenSpec.upto tallyNthSpec)

/-- 'ferialaw20.TallyYears', WHERE WHAT IT READS IS OF BULK AT MOST 1048576: true; the input reads as it did. -/
def tallyYearsUptoRow : OpenClaim := { program := "ytchceegpbfecaaagreatdoor", sum := "2d9ce3d62ababa022f2783572c51389f83b7b57489faedeb38675a3045e89643", func := "feria/ferialaw20.TallyYears", spec := "tallyYears", unfollowed := true, recurses := true, named := ["math/bits.deBruijn64tab"], plainKeys := false, apart := false, laid := [("math/bits.deBruijn64tab", laid_math_bits_deBruijn64tab)], narrowed := true }
def TallyYearsUptoSaid : Prop := tallyYearsUptoRow.holds Tryz.pinned (OpenSpec.upto tallyYearsSpec)

end Rows
end Go.Proofs.YtchceegpbfecaaaGreatDoor

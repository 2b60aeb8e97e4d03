/-
  NARROWER THAN 'FOR EVERY INPUT', by the rows' own cells (each row's printed sentence says how): RollKnows: laid · SeekSome: laid · RollDays: laid · RollGoes: laid · SeekNext: laid · SeekBack: laid · SeekPrev: laid.
  DERIVED. THE GIVEN ROWS OF THIS SEAT. 7 by the template 'for every input the law returns true; each argument reads behind the call as it read before'; 0 by the template 'total and deterministic' (their statements: YtcbanlgnanihhaaGreatDoorTotals.lean).
  GIVEN WITH THE SEED: the statements are not yours to turn. If you find one false, say at which input.
  Laid BY PROGRAM, IN A SANDBOX (cutbox-rows.mjs): the forced cells as the released guide's own fill.sh prints them over the translation a1b0de54d16a52f5… (all of the seat's roots in one cut). By AI agents, Wed Nov 11 2026. No macro, syntax, notation, axiom, sorry.
-/
import Derived.Test.YtcbanlgnanihhaaGreatDoorChecked
import GoSem.Claim
import GoSem.ClaimJoined
import GoSem.ClaimMapViews
import Derived.JoinedTies
import Derived.KernelRfl
namespace Go.Proofs.YtcbanlgnanihhaaGreatDoor
/- THE CELL 'sum', in the pinned program and in every row, IS THE sha256 OF THE DUMP (.gsa) THAT YtcbanlgnanihhaaGreatDoorProg.lean LOADS. Nothing in Lean hashes anything: it is a label: what it is worth is what the hold of that sum in a sandbox is worth. -/
noncomputable def Tryz.pinned : Pinned := { name := "ytcbanlgnanihhaagreatdoor", sum := "a1b0de54d16a52f545fcf057c271049c045fde1383357a4b40909e26ab72b16a", checked := Tryz.checked }
namespace Rows
def none {H : Type} : Left H := { results := [], args := [] }

/- WHAT THE LISTED PACKAGE-LEVEL VARIABLES READ AS WHEN THE CALL BEGINS. Each datum BY PROGRAM (the guide's laid-datum.mjs) off the statement by which the dump's own 'gosem.cut.vars' lays the variable. In a bare row this is a premise. The card (YtcbanlgnanihhaaGreatDoorCards.lean) ties it to the program's text. -/
def laid_math_bits_deBruijn64tab {H : Type} : DataW H := .agg [.lit (.int .u8 0), .lit (.int .u8 1), .lit (.int .u8 56), .lit (.int .u8 2), .lit (.int .u8 57), .lit (.int .u8 49), .lit (.int .u8 28), .lit (.int .u8 3), .lit (.int .u8 61), .lit (.int .u8 58), .lit (.int .u8 42), .lit (.int .u8 50), .lit (.int .u8 38), .lit (.int .u8 29), .lit (.int .u8 17), .lit (.int .u8 4), .lit (.int .u8 62), .lit (.int .u8 47), .lit (.int .u8 59), .lit (.int .u8 36), .lit (.int .u8 45), .lit (.int .u8 43), .lit (.int .u8 51), .lit (.int .u8 22), .lit (.int .u8 53), .lit (.int .u8 39), .lit (.int .u8 33), .lit (.int .u8 30), .lit (.int .u8 24), .lit (.int .u8 18), .lit (.int .u8 12), .lit (.int .u8 5), .lit (.int .u8 63), .lit (.int .u8 55), .lit (.int .u8 48), .lit (.int .u8 27), .lit (.int .u8 60), .lit (.int .u8 41), .lit (.int .u8 37), .lit (.int .u8 16), .lit (.int .u8 46), .lit (.int .u8 35), .lit (.int .u8 44), .lit (.int .u8 21), .lit (.int .u8 52), .lit (.int .u8 32), .lit (.int .u8 23), .lit (.int .u8 11), .lit (.int .u8 54), .lit (.int .u8 26), .lit (.int .u8 40), .lit (.int .u8 15), .lit (.int .u8 34), .lit (.int .u8 20), .lit (.int .u8 31), .lit (.int .u8 10), .lit (.int .u8 25), .lit (.int .u8 14), .lit (.int .u8 19), .lit (.int .u8 9), .lit (.int .u8 13), .lit (.int .u8 8), .lit (.int .u8 7), .lit (.int .u8 6)]

/-- 'ferialaw18.RollKnows': WHATEVER THE INPUT: true; the input reads as it did. -/
def rollKnowsSpec : ChangeSpec := { name := "rollKnows", fn := fun _ => fun
  | [d1, d2] => { results := [.lit (.bool true)], args := [d1, d2] }
  | _ => none }
def rollKnowsRow : OpenClaim := { program := "ytcbanlgnanihhaagreatdoor", sum := "a1b0de54d16a52f545fcf057c271049c045fde1383357a4b40909e26ab72b16a", func := "feria/ferialaw18.RollKnows", spec := "rollKnows", unfollowed := true, recurses := true, named := ["math/bits.deBruijn64tab"], plainKeys := false, apart := false, laid := [("math/bits.deBruijn64tab", laid_math_bits_deBruijn64tab)] }
def RollKnowsSaid : Prop := rollKnowsRow.holds Tryz.pinned (OpenSpec.ofChange rollKnowsSpec)

/-- ITS FALSE NEIGHBOUR: 'it returns false'. Refute it at one input. -/
def rollKnowsWrong : ChangeSpec := { name := "rollKnows", fn := fun _ => fun
  | [d1, d2] => { results := [.lit (.bool false)], args := [d1, d2] }
  | _ => none }
def RollKnowsWrongFalsely : Prop := rollKnowsRow.holds Tryz.pinned (OpenSpec.ofChange rollKnowsWrong)

/-- 'ferialaw19.SeekSome': WHATEVER THE INPUT: true; the input reads as it did. -/
def seekSomeSpec : ChangeSpec := { name := "seekSome", fn := fun _ => fun
  | [d1, d2, d3] => { results := [.lit (.bool true)], args := [d1, d2, d3] }
  | _ => none }
def seekSomeRow : OpenClaim := { program := "ytcbanlgnanihhaagreatdoor", sum := "a1b0de54d16a52f545fcf057c271049c045fde1383357a4b40909e26ab72b16a", func := "feria/ferialaw19.SeekSome", spec := "seekSome", unfollowed := true, recurses := true, named := ["math/bits.deBruijn64tab"], plainKeys := false, apart := false, laid := [("math/bits.deBruijn64tab", laid_math_bits_deBruijn64tab)] }
def SeekSomeSaid : Prop := seekSomeRow.holds Tryz.pinned (OpenSpec.ofChange seekSomeSpec)

/-- ITS FALSE NEIGHBOUR: 'it returns false'. Refute it at one input. -/
def seekSomeWrong : ChangeSpec := { name := "seekSome", fn := fun _ => fun
  | [d1, d2, d3] => { results := [.lit (.bool false)], args := [d1, d2, d3] }
  | _ => none }
def SeekSomeWrongFalsely : Prop := seekSomeRow.holds Tryz.pinned (OpenSpec.ofChange seekSomeWrong)

/-- 'ferialaw18.RollDays': WHATEVER THE INPUT: true; the input reads as it did. -/
def rollDaysSpec : ChangeSpec := { name := "rollDays", fn := fun _ => fun
  | [d1, d2] => { results := [.lit (.bool true)], args := [d1, d2] }
  | _ => none }
def rollDaysRow : OpenClaim := { program := "ytcbanlgnanihhaagreatdoor", sum := "a1b0de54d16a52f545fcf057c271049c045fde1383357a4b40909e26ab72b16a", func := "feria/ferialaw18.RollDays", spec := "rollDays", unfollowed := true, recurses := true, named := ["math/bits.deBruijn64tab"], plainKeys := false, apart := false, laid := [("math/bits.deBruijn64tab", laid_math_bits_deBruijn64tab)] }
def RollDaysSaid : Prop := rollDaysRow.holds Tryz.pinned (OpenSpec.ofChange rollDaysSpec)

/-- ITS FALSE NEIGHBOUR: 'it returns false'. Refute it at one input. -/
def rollDaysWrong : ChangeSpec := { name := "rollDays", fn := fun _ => fun
  | [d1, d2] => { results := [.lit (.bool false)], args := [d1, d2] }
  | _ => none }
def RollDaysWrongFalsely : Prop := rollDaysRow.holds Tryz.pinned (OpenSpec.ofChange rollDaysWrong)

/-- 'ferialaw18.RollGoes': WHATEVER THE INPUT: true; the input reads as it did. -/
def rollGoesSpec : ChangeSpec := { name := "rollGoes", fn := fun _ => fun
  | [d1, d2, d3] => { results := [.lit (.bool true)], args := [d1, d2, d3] }
  | _ => none }
def rollGoesRow : OpenClaim := { program := "ytcbanlgnanihhaagreatdoor", sum := "a1b0de54d16a52f545fcf057c271049c045fde1383357a4b40909e26ab72b16a", func := "feria/ferialaw18.RollGoes", spec := "rollGoes", unfollowed := true, recurses := true, named := ["math/bits.deBruijn64tab"], plainKeys := false, apart := false, laid := [("math/bits.deBruijn64tab", laid_math_bits_deBruijn64tab)] }
def RollGoesSaid : Prop := rollGoesRow.holds Tryz.pinned (OpenSpec.ofChange rollGoesSpec)

/-- ITS FALSE NEIGHBOUR: 'it returns false'. Refute it at one input. -/
def rollGoesWrong : ChangeSpec := { name := "rollGoes", fn := fun _ => fun
  | [d1, d2, d3] => { results := [.lit (.bool false)], args := [d1, d2, d3] }
  | _ => none }
def RollGoesWrongFalsely : Prop := rollGoesRow.holds Tryz.pinned (OpenSpec.ofChange rollGoesWrong)

/-- 'ferialaw19.SeekNext': WHATEVER THE INPUT: true; the input reads as it did. -/
def seekNextSpec : ChangeSpec := { name := "seekNext", fn := fun _ => fun
  | [d1, d2] => { results := [.lit (.bool true)], args := [d1, d2] }
  | _ => none }
def seekNextRow : OpenClaim := { program := "ytcbanlgnanihhaagreatdoor", sum := "a1b0de54d16a52f545fcf057c271049c045fde1383357a4b40909e26ab72b16a", func := "feria/ferialaw19.SeekNext", spec := "seekNext", unfollowed := true, recurses := true, named := ["math/bits.deBruijn64tab"], plainKeys := false, apart := false, laid := [("math/bits.deBruijn64tab", laid_math_bits_deBruijn64tab)] }
def SeekNextSaid : Prop := seekNextRow.holds Tryz.pinned (OpenSpec.ofChange seekNextSpec)

/-- ITS FALSE NEIGHBOUR: 'it returns false'. Refute it at one input. -/
def seekNextWrong : ChangeSpec := { name := "seekNext", fn := fun _ => fun
  | [d1, d2] => { results := [.lit (.bool false)], args := [d1, d2] }
  | _ => none }
def SeekNextWrongFalsely : Prop := seekNextRow.holds Tryz.pinned (OpenSpec.ofChange seekNextWrong)

/-- 'ferialaw19.SeekBack': WHATEVER THE INPUT: true; the input reads as it did. -/
def seekBackSpec : ChangeSpec := { name := "seekBack", fn := fun _ => fun
  | [d1, d2] => { results := [.lit (.bool true)], args := [d1, d2] }
  | _ => none }
def seekBackRow : OpenClaim := { program := "ytcbanlgnanihhaagreatdoor", sum := "a1b0de54d16a52f545fcf057c271049c045fde1383357a4b40909e26ab72b16a", func := "feria/ferialaw19.SeekBack", spec := "seekBack", unfollowed := true, recurses := true, named := ["math/bits.deBruijn64tab"], plainKeys := false, apart := false, laid := [("math/bits.deBruijn64tab", laid_math_bits_deBruijn64tab)] }
def SeekBackSaid : Prop := seekBackRow.holds Tryz.pinned (OpenSpec.ofChange seekBackSpec)

/-- ITS FALSE NEIGHBOUR: 'it returns false'. Refute it at one input. -/
def seekBackWrong : ChangeSpec := { name := "seekBack", fn := fun _ => fun
  | [d1, d2] => { results := [.lit (.bool false)], args := [d1, d2] }
  | _ => none }
def SeekBackWrongFalsely : Prop := seekBackRow.holds Tryz.pinned (OpenSpec.ofChange seekBackWrong)

/-- 'ferialaw19.SeekPrev': WHATEVER THE INPUT: true; the input reads as it did. -/
def seekPrevSpec : ChangeSpec := { name := "seekPrev", fn := fun _ => fun
  | [d1, d2] => { results := [.lit (.bool true)], args := [d1, d2] }
  | _ => none }
def seekPrevRow : OpenClaim := { program := "ytcbanlgnanihhaagreatdoor", sum := "a1b0de54d16a52f545fcf057c271049c045fde1383357a4b40909e26ab72b16a", func := "feria/ferialaw19.SeekPrev", spec := "seekPrev", unfollowed := true, recurses := true, named := ["math/bits.deBruijn64tab"], plainKeys := false, apart := false, laid := [("math/bits.deBruijn64tab", laid_math_bits_deBruijn64tab)] }
def SeekPrevSaid : Prop := seekPrevRow.holds Tryz.pinned (OpenSpec.ofChange seekPrevSpec)

/-- ITS FALSE NEIGHBOUR: 'it returns false'. Refute it at one input. -/
def seekPrevWrong : ChangeSpec := { name := "seekPrev", fn := fun _ => fun
  | [d1, d2] => { results := [.lit (.bool false)], args := [d1, d2] }
  | _ => none }
def SeekPrevWrongFalsely : Prop := seekPrevRow.holds Tryz.pinned (OpenSpec.ofChange seekPrevWrong)

/- THE SECOND FORM. 'bulk': how many values and letters a reading holds, each counted each time it is reached (what is shared counts as often as it is met; a slice's spare places count too). A statement '..UptoSaid' is the law's where the arguments, and the package variables that the reading takes, are together of bulk at most 1048576: NARROWER than '..Said'. Prove '..Said' where nothing that the law and all that it calls make is longer than what came in: it says more and counts as full. Else prove '..UptoSaid'. A law counts once. -/
mutual
def uptoBulk {H : Type} : DataW H → Nat
  | .lit (.string bytes) => bytes.length + 1
  | .lit _ => 1
  | .nil => 1
  | .ptr d => uptoBulk d + 1
  | .slice elems spare => uptoBulkAll elems + uptoBulkAll spare + 1
  | .agg parts => uptoBulkAll parts + 1
  | .iface _ d => uptoBulk d + 1
  | .map entries => uptoBulkEntries entries + 1
  | .held _ => 1
def uptoBulkAll {H : Type} : List (DataW H) → Nat
  | [] => 0
  | d :: r => uptoBulk d + uptoBulkAll r
def uptoBulkEntries {H : Type} : List (Lit × DataW H) → Nat
  | [] => 0
  | x :: r => uptoBulkEntry x + uptoBulkEntries r
def uptoBulkEntry {H : Type} : Lit × DataW H → Nat
  | (.string bytes, d) => bytes.length + uptoBulk d + 1
  | (_, d) => uptoBulk d + 1
 end
def uptoSmall : (H : Type) → List (DataW H) → Bool := fun _ ds => decide (uptoBulkAll ds ≤ 1048576)
def OpenSpec.upto (s : _root_.Go.ChangeSpec) : _root_.Go.OpenSpec := { _root_.Go.OpenSpec.ofChange s with cond := some uptoSmall }

/-- 'ferialaw18.RollKnows', WHERE WHAT IT READS IS OF BULK AT MOST 1048576: true; the input reads as it did. -/
def rollKnowsUptoRow : OpenClaim := { program := "ytcbanlgnanihhaagreatdoor", sum := "a1b0de54d16a52f545fcf057c271049c045fde1383357a4b40909e26ab72b16a", func := "feria/ferialaw18.RollKnows", spec := "rollKnows", unfollowed := true, recurses := true, named := ["math/bits.deBruijn64tab"], plainKeys := false, apart := false, laid := [("math/bits.deBruijn64tab", laid_math_bits_deBruijn64tab)], narrowed := true }
def RollKnowsUptoSaid : Prop := rollKnowsUptoRow.holds Tryz.pinned (OpenSpec.upto rollKnowsSpec)

/-- 'ferialaw19.SeekSome', WHERE WHAT IT READS IS OF BULK AT MOST 1048576: true; the input reads as it did. -/
def seekSomeUptoRow : OpenClaim := { program := "ytcbanlgnanihhaagreatdoor", sum := "a1b0de54d16a52f545fcf057c271049c045fde1383357a4b40909e26ab72b16a", func := "feria/ferialaw19.SeekSome", spec := "seekSome", unfollowed := true, recurses := true, named := ["math/bits.deBruijn64tab"], plainKeys := false, apart := false, laid := [("math/bits.deBruijn64tab", laid_math_bits_deBruijn64tab)], narrowed := true }
def SeekSomeUptoSaid : Prop := seekSomeUptoRow.holds Tryz.pinned (OpenSpec.upto seekSomeSpec)

/-- 'ferialaw18.RollDays', WHERE WHAT IT READS IS OF BULK AT MOST 1048576: true; the input reads as it did. -/
def rollDaysUptoRow : OpenClaim := { program := "ytcbanlgnanihhaagreatdoor", sum := "a1b0de54d16a52f545fcf057c271049c045fde1383357a4b40909e26ab72b16a", func := "feria/ferialaw18.RollDays", spec := "rollDays", unfollowed := true, recurses := true, named := ["math/bits.deBruijn64tab"], plainKeys := false, apart := false, laid := [("math/bits.deBruijn64tab", laid_math_bits_deBruijn64tab)], narrowed := true }
def RollDaysUptoSaid : Prop := rollDaysUptoRow.holds Tryz.pinned (OpenSpec.upto rollDaysSpec)

/-- 'ferialaw18.RollGoes', WHERE WHAT IT READS IS OF BULK AT MOST 1048576: true; the input reads as it did. -/
def rollGoesUptoRow : OpenClaim := { program := "ytcbanlgnanihhaagreatdoor", sum := "a1b0de54d16a52f545fcf057c271049c045fde1383357a4b40909e26ab72b16a", func := "feria/ferialaw18.RollGoes", spec := "rollGoes", unfollowed := true, recurses := true, named := ["math/bits.deBruijn64tab"], plainKeys := false, apart := false, laid := [("math/bits.deBruijn64tab", laid_math_bits_deBruijn64tab)], narrowed := true }
def RollGoesUptoSaid : Prop := rollGoesUptoRow.holds Tryz.pinned (OpenSpec.upto rollGoesSpec)

/-- 'ferialaw19.SeekNext', WHERE WHAT IT READS IS OF BULK AT MOST 1048576: true; the input reads as it did. -/
def seekNextUptoRow : OpenClaim := { program := "ytcbanlgnanihhaagreatdoor", sum := "a1b0de54d16a52f545fcf057c271049c045fde1383357a4b40909e26ab72b16a", func := "feria/ferialaw19.SeekNext", spec := "seekNext", unfollowed := true, recurses := true, named := ["math/bits.deBruijn64tab"], plainKeys := false, apart := false, laid := [("math/bits.deBruijn64tab", laid_math_bits_deBruijn64tab)], narrowed := true }
def SeekNextUptoSaid : Prop := seekNextUptoRow.holds Tryz.pinned (OpenSpec.upto seekNextSpec)

/-- 'ferialaw19.SeekBack', WHERE WHAT IT READS IS OF BULK AT MOST 1048576: true; the input reads as it did. -/
def seekBackUptoRow : OpenClaim := { program := "ytcbanlgnanihhaagreatdoor", sum := "a1b0de54d16a52f545fcf057c271049c045fde1383357a4b40909e26ab72b16a", func := "feria/ferialaw19.SeekBack", spec := "seekBack", unfollowed := true, recurses := true, named := ["math/bits.deBruijn64tab"], plainKeys := false, apart := false, laid := [("math/bits.deBruijn64tab", laid_math_bits_deBruijn64tab)], narrowed := true }
def SeekBackUptoSaid : Prop := seekBackUptoRow.holds Tryz.pinned (OpenSpec.upto seekBackSpec)

/-- 'ferialaw19.SeekPrev', WHERE WHAT IT READS IS OF BULK AT MOST 1048576: true; the input reads as it did. -/
def seekPrevUptoRow : OpenClaim := { program := "ytcbanlgnanihhaagreatdoor", sum := "a1b0de54d16a52f545fcf057c271049c045fde1383357a4b40909e26ab72b16a", func := "feria/ferialaw19.SeekPrev", spec := "seekPrev", unfollowed := true, recurses := true, named := ["math/bits.deBruijn64tab"], plainKeys := false, apart := false, laid := [("math/bits.deBruijn64tab", laid_math_bits_deBruijn64tab)], narrowed := true }
def SeekPrevUptoSaid : Prop := seekPrevUptoRow.holds Tryz.pinned (OpenSpec.upto seekPrevSpec)

end Rows
end Go.Proofs.YtcbanlgnanihhaaGreatDoor

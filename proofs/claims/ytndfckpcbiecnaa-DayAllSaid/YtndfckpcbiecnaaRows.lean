/-
  No cell of these rows narrows 'for every input' (looked for: loops, veiled, ifaces, maps, wideKeys, modest, calm, conditions, laid).
  DERIVED. THE GIVEN ROWS OF THIS SEAT. 12 by the template 'for every input the law returns true; each argument reads behind the call as it read before'; 0 by the template 'total and deterministic' (their statements: YtndfckpcbiecnaaTotals.lean).
  GIVEN WITH THE SEED: the statements are not yours to turn. If you find one false, say at which input.
  Laid BY PROGRAM, IN A SANDBOX (cutbox-rows.mjs): the forced cells as the released guide's own fill.sh prints them over the translation 5a7f522085306e85… (all of the seat's roots in one cut). By AI agents, Wed Nov 11 2026. No macro, syntax, notation, axiom, sorry.
-/
import Derived.Test.YtndfckpcbiecnaaChecked
import GoSem.Claim
import GoSem.ClaimJoined
import GoSem.ClaimMapViews
import Derived.JoinedTies
import Derived.KernelRfl
namespace Go.Proofs.Ytndfckpcbiecnaa
/- THE CELL 'sum', in the pinned program and in every row, IS THE sha256 OF THE DUMP (.gsa) THAT YtndfckpcbiecnaaProg.lean LOADS. Nothing in Lean hashes anything: it is a label: what it is worth is what the hold of that sum in a sandbox is worth. -/
noncomputable def Try.pinned : Pinned := { name := "ytndfckpcbiecnaa", sum := "5a7f522085306e85797fd5f00a4acaaf3a83dcfb9dc5bc94579fd10660b800c4", checked := Try.checked }
namespace Rows
def none {H : Type} : Left H := { results := [], args := [] }

/-- 'ferialaw13.ClauseMay': WHATEVER THE INPUT: true; the input reads as it did. -/
def clauseMaySpec : ChangeSpec := { name := "clauseMay", fn := fun _ => fun
  | [d] => { results := [.lit (.bool true)], args := [d] }
  | _ => none }
def clauseMayRow : OpenClaim := { program := "ytndfckpcbiecnaa", sum := "5a7f522085306e85797fd5f00a4acaaf3a83dcfb9dc5bc94579fd10660b800c4", func := "feria/ferialaw13.ClauseMay", spec := "clauseMay", unfollowed := true, recurses := true, apart := false }
def ClauseMaySaid : Prop := clauseMayRow.holds Try.pinned (OpenSpec.ofChange clauseMaySpec)

/-- ITS FALSE NEIGHBOUR: 'it returns false'. Refute it at one input. -/
def clauseMayWrong : ChangeSpec := { name := "clauseMay", fn := fun _ => fun
  | [d] => { results := [.lit (.bool false)], args := [d] }
  | _ => none }
def ClauseMayWrongFalsely : Prop := clauseMayRow.holds Try.pinned (OpenSpec.ofChange clauseMayWrong)

/-- 'ferialaw32.RuleChecks': WHATEVER THE INPUT: true; the input reads as it did. -/
def ruleChecksSpec : ChangeSpec := { name := "ruleChecks", fn := fun _ => fun
  | [d1, d2] => { results := [.lit (.bool true)], args := [d1, d2] }
  | _ => none }
def ruleChecksRow : OpenClaim := { program := "ytndfckpcbiecnaa", sum := "5a7f522085306e85797fd5f00a4acaaf3a83dcfb9dc5bc94579fd10660b800c4", func := "feria/ferialaw32.RuleChecks", spec := "ruleChecks", unfollowed := true, recurses := true, apart := false }
def RuleChecksSaid : Prop := ruleChecksRow.holds Try.pinned (OpenSpec.ofChange ruleChecksSpec)

/-- ITS FALSE NEIGHBOUR: 'it returns false'. Refute it at one input. -/
def ruleChecksWrong : ChangeSpec := { name := "ruleChecks", fn := fun _ => fun
  | [d1, d2] => { results := [.lit (.bool false)], args := [d1, d2] }
  | _ => none }
def RuleChecksWrongFalsely : Prop := ruleChecksRow.holds Try.pinned (OpenSpec.ofChange ruleChecksWrong)

/-- 'ferialaw32.RuleTimes': WHATEVER THE INPUT: true; the input reads as it did. -/
def ruleTimesSpec : ChangeSpec := { name := "ruleTimes", fn := fun _ => fun
  | [d1, d2] => { results := [.lit (.bool true)], args := [d1, d2] }
  | _ => none }
def ruleTimesRow : OpenClaim := { program := "ytndfckpcbiecnaa", sum := "5a7f522085306e85797fd5f00a4acaaf3a83dcfb9dc5bc94579fd10660b800c4", func := "feria/ferialaw32.RuleTimes", spec := "ruleTimes", unfollowed := true, recurses := true, apart := false }
def RuleTimesSaid : Prop := ruleTimesRow.holds Try.pinned (OpenSpec.ofChange ruleTimesSpec)

/-- ITS FALSE NEIGHBOUR: 'it returns false'. Refute it at one input. -/
def ruleTimesWrong : ChangeSpec := { name := "ruleTimes", fn := fun _ => fun
  | [d1, d2] => { results := [.lit (.bool false)], args := [d1, d2] }
  | _ => none }
def RuleTimesWrongFalsely : Prop := ruleTimesRow.holds Try.pinned (OpenSpec.ofChange ruleTimesWrong)

/-- 'ferialaw13.ClauseFull': WHATEVER THE INPUT: true; the input reads as it did. -/
def clauseFullSpec : ChangeSpec := { name := "clauseFull", fn := fun _ => fun
  | [d1, d2, d3] => { results := [.lit (.bool true)], args := [d1, d2, d3] }
  | _ => none }
def clauseFullRow : OpenClaim := { program := "ytndfckpcbiecnaa", sum := "5a7f522085306e85797fd5f00a4acaaf3a83dcfb9dc5bc94579fd10660b800c4", func := "feria/ferialaw13.ClauseFull", spec := "clauseFull", unfollowed := true, recurses := true, apart := false }
def ClauseFullSaid : Prop := clauseFullRow.holds Try.pinned (OpenSpec.ofChange clauseFullSpec)

/-- ITS FALSE NEIGHBOUR: 'it returns false'. Refute it at one input. -/
def clauseFullWrong : ChangeSpec := { name := "clauseFull", fn := fun _ => fun
  | [d1, d2, d3] => { results := [.lit (.bool false)], args := [d1, d2, d3] }
  | _ => none }
def ClauseFullWrongFalsely : Prop := clauseFullRow.holds Try.pinned (OpenSpec.ofChange clauseFullWrong)

/-- 'ferialaw13.ClauseHas': WHATEVER THE INPUT: true; the input reads as it did. -/
def clauseHasSpec : ChangeSpec := { name := "clauseHas", fn := fun _ => fun
  | [d1, d2, d3] => { results := [.lit (.bool true)], args := [d1, d2, d3] }
  | _ => none }
def clauseHasRow : OpenClaim := { program := "ytndfckpcbiecnaa", sum := "5a7f522085306e85797fd5f00a4acaaf3a83dcfb9dc5bc94579fd10660b800c4", func := "feria/ferialaw13.ClauseHas", spec := "clauseHas", unfollowed := true, recurses := true, apart := false }
def ClauseHasSaid : Prop := clauseHasRow.holds Try.pinned (OpenSpec.ofChange clauseHasSpec)

/-- ITS FALSE NEIGHBOUR: 'it returns false'. Refute it at one input. -/
def clauseHasWrong : ChangeSpec := { name := "clauseHas", fn := fun _ => fun
  | [d1, d2, d3] => { results := [.lit (.bool false)], args := [d1, d2, d3] }
  | _ => none }
def ClauseHasWrongFalsely : Prop := clauseHasRow.holds Try.pinned (OpenSpec.ofChange clauseHasWrong)

/-- 'ferialaw32.RuleDays': WHATEVER THE INPUT: true; the input reads as it did. -/
def ruleDaysSpec : ChangeSpec := { name := "ruleDays", fn := fun _ => fun
  | [d1, d2] => { results := [.lit (.bool true)], args := [d1, d2] }
  | _ => none }
def ruleDaysRow : OpenClaim := { program := "ytndfckpcbiecnaa", sum := "5a7f522085306e85797fd5f00a4acaaf3a83dcfb9dc5bc94579fd10660b800c4", func := "feria/ferialaw32.RuleDays", spec := "ruleDays", unfollowed := true, recurses := true, apart := false }
def RuleDaysSaid : Prop := ruleDaysRow.holds Try.pinned (OpenSpec.ofChange ruleDaysSpec)

/-- ITS FALSE NEIGHBOUR: 'it returns false'. Refute it at one input. -/
def ruleDaysWrong : ChangeSpec := { name := "ruleDays", fn := fun _ => fun
  | [d1, d2] => { results := [.lit (.bool false)], args := [d1, d2] }
  | _ => none }
def RuleDaysWrongFalsely : Prop := ruleDaysRow.holds Try.pinned (OpenSpec.ofChange ruleDaysWrong)

/-- 'ferialaw13.ClauseMeets': WHATEVER THE INPUT: true; the input reads as it did. -/
def clauseMeetsSpec : ChangeSpec := { name := "clauseMeets", fn := fun _ => fun
  | [d1, d2] => { results := [.lit (.bool true)], args := [d1, d2] }
  | _ => none }
def clauseMeetsRow : OpenClaim := { program := "ytndfckpcbiecnaa", sum := "5a7f522085306e85797fd5f00a4acaaf3a83dcfb9dc5bc94579fd10660b800c4", func := "feria/ferialaw13.ClauseMeets", spec := "clauseMeets", unfollowed := true, recurses := true, apart := false }
def ClauseMeetsSaid : Prop := clauseMeetsRow.holds Try.pinned (OpenSpec.ofChange clauseMeetsSpec)

/-- ITS FALSE NEIGHBOUR: 'it returns false'. Refute it at one input. -/
def clauseMeetsWrong : ChangeSpec := { name := "clauseMeets", fn := fun _ => fun
  | [d1, d2] => { results := [.lit (.bool false)], args := [d1, d2] }
  | _ => none }
def ClauseMeetsWrongFalsely : Prop := clauseMeetsRow.holds Try.pinned (OpenSpec.ofChange clauseMeetsWrong)

/-- 'ferialaw14.DayAll': WHATEVER THE INPUT: true; the input reads as it did. -/
def dayAllSpec : ChangeSpec := { name := "dayAll", fn := fun _ => fun
  | [d1, d2, d3] => { results := [.lit (.bool true)], args := [d1, d2, d3] }
  | _ => none }
def dayAllRow : OpenClaim := { program := "ytndfckpcbiecnaa", sum := "5a7f522085306e85797fd5f00a4acaaf3a83dcfb9dc5bc94579fd10660b800c4", func := "feria/ferialaw14.DayAll", spec := "dayAll", unfollowed := true, recurses := true, apart := false }
def DayAllSaid : Prop := dayAllRow.holds Try.pinned (OpenSpec.ofChange dayAllSpec)

/-- ITS FALSE NEIGHBOUR: 'it returns false'. Refute it at one input. -/
def dayAllWrong : ChangeSpec := { name := "dayAll", fn := fun _ => fun
  | [d1, d2, d3] => { results := [.lit (.bool false)], args := [d1, d2, d3] }
  | _ => none }
def DayAllWrongFalsely : Prop := dayAllRow.holds Try.pinned (OpenSpec.ofChange dayAllWrong)

/-- 'ferialaw14.DayActive': WHATEVER THE INPUT: true; the input reads as it did. -/
def dayActiveSpec : ChangeSpec := { name := "dayActive", fn := fun _ => fun
  | [d1, d2] => { results := [.lit (.bool true)], args := [d1, d2] }
  | _ => none }
def dayActiveRow : OpenClaim := { program := "ytndfckpcbiecnaa", sum := "5a7f522085306e85797fd5f00a4acaaf3a83dcfb9dc5bc94579fd10660b800c4", func := "feria/ferialaw14.DayActive", spec := "dayActive", unfollowed := true, recurses := true, apart := false }
def DayActiveSaid : Prop := dayActiveRow.holds Try.pinned (OpenSpec.ofChange dayActiveSpec)

/-- ITS FALSE NEIGHBOUR: 'it returns false'. Refute it at one input. -/
def dayActiveWrong : ChangeSpec := { name := "dayActive", fn := fun _ => fun
  | [d1, d2] => { results := [.lit (.bool false)], args := [d1, d2] }
  | _ => none }
def DayActiveWrongFalsely : Prop := dayActiveRow.holds Try.pinned (OpenSpec.ofChange dayActiveWrong)

/-- 'ferialaw14.DayMore': WHATEVER THE INPUT: true; the input reads as it did. -/
def dayMoreSpec : ChangeSpec := { name := "dayMore", fn := fun _ => fun
  | [d1, d2] => { results := [.lit (.bool true)], args := [d1, d2] }
  | _ => none }
def dayMoreRow : OpenClaim := { program := "ytndfckpcbiecnaa", sum := "5a7f522085306e85797fd5f00a4acaaf3a83dcfb9dc5bc94579fd10660b800c4", func := "feria/ferialaw14.DayMore", spec := "dayMore", unfollowed := true, recurses := true, apart := false }
def DayMoreSaid : Prop := dayMoreRow.holds Try.pinned (OpenSpec.ofChange dayMoreSpec)

/-- ITS FALSE NEIGHBOUR: 'it returns false'. Refute it at one input. -/
def dayMoreWrong : ChangeSpec := { name := "dayMore", fn := fun _ => fun
  | [d1, d2] => { results := [.lit (.bool false)], args := [d1, d2] }
  | _ => none }
def DayMoreWrongFalsely : Prop := dayMoreRow.holds Try.pinned (OpenSpec.ofChange dayMoreWrong)

/-- 'ferialaw14.DayNext': WHATEVER THE INPUT: true; the input reads as it did. -/
def dayNextSpec : ChangeSpec := { name := "dayNext", fn := fun _ => fun
  | [d1, d2, d3] => { results := [.lit (.bool true)], args := [d1, d2, d3] }
  | _ => none }
def dayNextRow : OpenClaim := { program := "ytndfckpcbiecnaa", sum := "5a7f522085306e85797fd5f00a4acaaf3a83dcfb9dc5bc94579fd10660b800c4", func := "feria/ferialaw14.DayNext", spec := "dayNext", unfollowed := true, recurses := true, apart := false }
def DayNextSaid : Prop := dayNextRow.holds Try.pinned (OpenSpec.ofChange dayNextSpec)

/-- ITS FALSE NEIGHBOUR: 'it returns false'. Refute it at one input. -/
def dayNextWrong : ChangeSpec := { name := "dayNext", fn := fun _ => fun
  | [d1, d2, d3] => { results := [.lit (.bool false)], args := [d1, d2, d3] }
  | _ => none }
def DayNextWrongFalsely : Prop := dayNextRow.holds Try.pinned (OpenSpec.ofChange dayNextWrong)

/-- 'ferialaw45.BoundLaps': WHATEVER THE INPUT: true; the input reads as it did. -/
def boundLapsSpec : ChangeSpec := { name := "boundLaps", fn := fun _ => fun
  | [d1, d2] => { results := [.lit (.bool true)], args := [d1, d2] }
  | _ => none }
def boundLapsRow : OpenClaim := { program := "ytndfckpcbiecnaa", sum := "5a7f522085306e85797fd5f00a4acaaf3a83dcfb9dc5bc94579fd10660b800c4", func := "feria/ferialaw45.BoundLaps", spec := "boundLaps", unfollowed := true, recurses := true, apart := false }
def BoundLapsSaid : Prop := boundLapsRow.holds Try.pinned (OpenSpec.ofChange boundLapsSpec)

/-- ITS FALSE NEIGHBOUR: 'it returns false'. Refute it at one input. -/
def boundLapsWrong : ChangeSpec := { name := "boundLaps", fn := fun _ => fun
  | [d1, d2] => { results := [.lit (.bool false)], args := [d1, d2] }
  | _ => none }
def BoundLapsWrongFalsely : Prop := boundLapsRow.holds Try.pinned (OpenSpec.ofChange boundLapsWrong)

/- THE SECOND FORM. 'bulk': how many values and letters a reading holds, each counted each time it is reached (what is shared counts as often as it is met; a slice's spare places count too). A statement '..UptoSaid' is the law's where the arguments, and the package variables that the reading takes, are together of bulk at most 1048576: NARROWER than '..Said'. Prove '..Said' where nothing that the law and all that it calls make is longer than what came in: it says more and counts as full. Else prove '..UptoSaid'. A law counts once. -/
mutual
def uptoBulk {H : Type} : DataW H → Nat
  | .lit (.string bytes) => bytes.length + 1
  | .lit _ => 1
  | .nil => 1
  | .ptr d => uptoBulk d + 1
  | .slice elems spare => uptoBulkAll elems + uptoBulkAll spare + 1
  | .agg parts => uptoBulkAll parts + 1
  | .iface _ d => uptoBulk d + 1
  | .map entries => uptoBulkEntries entries + 1
  | .held _ => 1
def uptoBulkAll {H : Type} : List (DataW H) → Nat
  | [] => 0
  | d :: r => uptoBulk d + uptoBulkAll r
def uptoBulkEntries {H : Type} : List (Lit × DataW H) → Nat
  | [] => 0
  | x :: r => uptoBulkEntry x + uptoBulkEntries r
def uptoBulkEntry {H : Type} : Lit × DataW H → Nat
  | (.string bytes, d) => bytes.length + uptoBulk d + 1
  | (_, d) => uptoBulk d + 1
 end
def uptoSmall : (H : Type) → List (DataW H) → Bool := fun _ ds => decide (uptoBulkAll ds ≤ 1048576)
def OpenSpec.upto (s : _root_.Go.ChangeSpec) : _root_.Go.OpenSpec := { _root_.Go.OpenSpec.ofChange s with cond := some uptoSmall }

/-- 'ferialaw13.ClauseMay', WHERE WHAT IT READS IS OF BULK AT MOST 1048576: true; the input reads as it did. -/
def clauseMayUptoRow : OpenClaim := { program := "ytndfckpcbiecnaa", sum := "5a7f522085306e85797fd5f00a4acaaf3a83dcfb9dc5bc94579fd10660b800c4", func := "feria/ferialaw13.ClauseMay", spec := "clauseMay", unfollowed := true, recurses := true, apart := false, narrowed := true }
def ClauseMayUptoSaid : Prop := clauseMayUptoRow.holds Try.pinned (OpenSpec.upto clauseMaySpec)

/-- 'ferialaw32.RuleChecks', WHERE WHAT IT READS IS OF BULK AT MOST 1048576: true; the input reads as it did. -/
def ruleChecksUptoRow : OpenClaim := { program := "ytndfckpcbiecnaa", sum := "5a7f522085306e85797fd5f00a4acaaf3a83dcfb9dc5bc94579fd10660b800c4", func := "feria/ferialaw32.RuleChecks", spec := "ruleChecks", unfollowed := true, recurses := true, apart := false, narrowed := true }
def RuleChecksUptoSaid : Prop := ruleChecksUptoRow.holds Try.pinned (OpenSpec.upto ruleChecksSpec)

/-- 'ferialaw32.RuleTimes', WHERE WHAT IT READS IS OF BULK AT MOST 1048576: true; the input reads as it did. -/
def ruleTimesUptoRow : OpenClaim := { program := "ytndfckpcbiecnaa", sum := "5a7f522085306e85797fd5f00a4acaaf3a83dcfb9dc5bc94579fd10660b800c4", func := "feria/ferialaw32.RuleTimes", spec := "ruleTimes", unfollowed := true, recurses := true, apart := false, narrowed := true }
def RuleTimesUptoSaid : Prop := ruleTimesUptoRow.holds Try.pinned (OpenSpec.upto ruleTimesSpec)

/-- 'ferialaw13.ClauseFull', WHERE WHAT IT READS IS OF BULK AT MOST 1048576: true; the input reads as it did. -/
def clauseFullUptoRow : OpenClaim := { program := "ytndfckpcbiecnaa", sum := "5a7f522085306e85797fd5f00a4acaaf3a83dcfb9dc5bc94579fd10660b800c4", func := "feria/ferialaw13.ClauseFull", spec := "clauseFull", unfollowed := true, recurses := true, apart := false, narrowed := true }
def ClauseFullUptoSaid : Prop := clauseFullUptoRow.holds Try.pinned (OpenSpec.upto clauseFullSpec)

/-- 'ferialaw13.ClauseHas', WHERE WHAT IT READS IS OF BULK AT MOST 1048576: true; the input reads as it did. -/
def clauseHasUptoRow : OpenClaim := { program := "ytndfckpcbiecnaa", sum := "5a7f522085306e85797fd5f00a4acaaf3a83dcfb9dc5bc94579fd10660b800c4", func := "feria/ferialaw13.ClauseHas", spec := "clauseHas", unfollowed := true, recurses := true, apart := false, narrowed := true }
def ClauseHasUptoSaid : Prop := clauseHasUptoRow.holds Try.pinned (OpenSpec.upto clauseHasSpec)

/-- 'ferialaw32.RuleDays', WHERE WHAT IT READS IS OF BULK AT MOST 1048576: true; the input reads as it did. -/
def ruleDaysUptoRow : OpenClaim := { program := "ytndfckpcbiecnaa", sum := "5a7f522085306e85797fd5f00a4acaaf3a83dcfb9dc5bc94579fd10660b800c4", func := "feria/ferialaw32.RuleDays", spec := "ruleDays", unfollowed := true, recurses := true, apart := false, narrowed := true }
def RuleDaysUptoSaid : Prop := ruleDaysUptoRow.holds Try.pinned (OpenSpec.upto ruleDaysSpec)

/-- 'ferialaw13.ClauseMeets', WHERE WHAT IT READS IS OF BULK AT MOST 1048576: true; the input reads as it did. -/
def clauseMeetsUptoRow : OpenClaim := { program := "ytndfckpcbiecnaa", sum := "5a7f522085306e85797fd5f00a4acaaf3a83dcfb9dc5bc94579fd10660b800c4", func := "feria/ferialaw13.ClauseMeets", spec := "clauseMeets", unfollowed := true, recurses := true, apart := false, narrowed := true }
def ClauseMeetsUptoSaid : Prop := clauseMeetsUptoRow.holds Try.pinned (OpenSpec.upto clauseMeetsSpec)

/-- 'ferialaw14.DayAll', WHERE WHAT IT READS IS OF BULK AT MOST 1048576: true; the input reads as it did. -/
def dayAllUptoRow : OpenClaim := { program := "ytndfckpcbiecnaa", sum := "5a7f522085306e85797fd5f00a4acaaf3a83dcfb9dc5bc94579fd10660b800c4", func := "feria/ferialaw14.DayAll", spec := "dayAll", unfollowed := true, recurses := true, apart := false, narrowed := true }
def DayAllUptoSaid : Prop := dayAllUptoRow.holds Try.pinned (OpenSpec.upto dayAllSpec)

/-- 'ferialaw14.DayActive', WHERE WHAT IT READS IS OF BULK AT MOST 1048576: true; the input reads as it did. -/
def dayActiveUptoRow : OpenClaim := { program := "ytndfckpcbiecnaa", sum := "5a7f522085306e85797fd5f00a4acaaf3a83dcfb9dc5bc94579fd10660b800c4", func := "feria/ferialaw14.DayActive", spec := "dayActive", unfollowed := true, recurses := true, apart := false, narrowed := true }
def DayActiveUptoSaid : Prop := dayActiveUptoRow.holds Try.pinned (OpenSpec.upto dayActiveSpec)

/-- 'ferialaw14.DayMore', WHERE WHAT IT READS IS OF BULK AT MOST 1048576: true; the input reads as it did. -/
def dayMoreUptoRow : OpenClaim := { program := "ytndfckpcbiecnaa", sum := "5a7f522085306e85797fd5f00a4acaaf3a83dcfb9dc5bc94579fd10660b800c4", func := "feria/ferialaw14.DayMore", spec := "dayMore", unfollowed := true, recurses := true, apart := false, narrowed := true }
def DayMoreUptoSaid : Prop := dayMoreUptoRow.holds Try.pinned (OpenSpec.upto dayMoreSpec)

/-- 'ferialaw14.DayNext', WHERE WHAT IT READS IS OF BULK AT MOST 1048576: true; the input reads as it did. -/
def dayNextUptoRow : OpenClaim := { program := "ytndfckpcbiecnaa", sum := "5a7f522085306e85797fd5f00a4acaaf3a83dcfb9dc5bc94579fd10660b800c4", func := "feria/ferialaw14.DayNext", spec := "dayNext", unfollowed := true, recurses := true, apart := false, narrowed := true }
def DayNextUptoSaid : Prop := dayNextUptoRow.holds Try.pinned (OpenSpec.upto dayNextSpec)

/-- 'ferialaw45.BoundLaps', WHERE WHAT IT READS IS OF BULK AT MOST 1048576: true; the input reads as it did. -/
def boundLapsUptoRow : OpenClaim := { program := "ytndfckpcbiecnaa", sum := "5a7f522085306e85797fd5f00a4acaaf3a83dcfb9dc5bc94579fd10660b800c4", func := "feria/ferialaw45.BoundLaps", spec := "boundLaps", unfollowed := true, recurses := true, apart := false, narrowed := true }
def BoundLapsUptoSaid : Prop := boundLapsUptoRow.holds Try.pinned (OpenSpec.upto boundLapsSpec)

end Rows
end Go.Proofs.Ytndfckpcbiecnaa

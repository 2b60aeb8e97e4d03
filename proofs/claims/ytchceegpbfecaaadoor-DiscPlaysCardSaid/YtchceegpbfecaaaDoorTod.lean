/-
  What tod.Of, tod.Parts, tod.In, tod.Next and feriaref07.In compute.
-/
import Derived.Test.YtchceegpbfecaaaDoorMaskTz
namespace Go.Proofs.YtchceegpbfecaaaDoor
open Go.RowKit
set_option linter.unusedVariables false

def todB (h m s : Int) : Bool := decide (0 ≤ h ∧ h < 24 ∧ 0 ≤ m ∧ m < 60 ∧ 0 ≤ s ∧ s < 60)
def todI (h m s : Int) : Int := if todB h m s = true then h * 3600 + m * 60 + s else 0
theorem tod_no {h m s : Int} (hn : ¬ (0 ≤ h ∧ h < 24 ∧ 0 ≤ m ∧ m < 60 ∧ 0 ≤ s ∧ s < 60)) : todI h m s = 0 ∧ todB h m s = false := by
  have : todB h m s = false := by simpa only [todB, decide_eq_false_iff_not] using hn
  exact ⟨by rw [todI, this]; simp, this⟩
theorem tod_yes {h m s : Int} (hn : 0 ≤ h ∧ h < 24 ∧ 0 ≤ m ∧ m < 60 ∧ 0 ≤ s ∧ s < 60) : todI h m s = h * 3600 + m * 60 + s ∧ todB h m s = true := by
  have : todB h m s = true := by simpa only [todB, decide_eq_true_eq] using hn
  exact ⟨by rw [todI, if_pos this], this⟩

/-- s is a second of the day -/
def dayB (s : Int) : Bool := decide (0 ≤ s ∧ s < 86400)
theorem day_cases (s : Int) : (dayB s = true ∧ 0 ≤ s ∧ s < 86400) ∨ (dayB s = false ∧ (s < 0 ∨ 86400 ≤ s)) := by
  by_cases h : 0 ≤ s ∧ s < 86400
  · exact .inl ⟨by simpa only [dayB, decide_eq_true_eq] using h, h.1, h.2⟩
  · exact .inr ⟨by simpa only [dayB, decide_eq_false_iff_not] using h, by omega⟩

/-- s is one of the masks' seconds -/
def todIn (s : Int) (hs ms ss : Nat) : Bool := dayB s && (hasB hs (s / 3600) && (hasB ms (s / 60 % 60) && hasB ss (s % 60)))

end Go.Proofs.YtchceegpbfecaaaDoor

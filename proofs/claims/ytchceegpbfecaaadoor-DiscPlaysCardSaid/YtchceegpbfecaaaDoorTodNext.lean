/-
  What tod.held, tod.from, tod.Next and feriaref07.In compute.
-/
import Derived.Test.YtchceegpbfecaaaDoorTod
namespace Go.Proofs.YtchceegpbfecaaaDoor
open Go.RowKit
set_option linter.unusedVariables false

/-- a mask's numbers up to t -/
def cutM (m : Nat) (t : Int) : Nat := m &&& spanM 0 t 1
theorem cutM_lt {m : Nat} (t : Int) (hm : m < 18446744073709551616) : cutM m t < 18446744073709551616 := and_lt (b := spanM 0 t 1) hm
theorem cutM_test (m : Nat) (t : Int) (k : Nat) : (cutM m t).testBit k = (m.testBit k && (decide (k < 64) && decide ((k : Int) ≤ t))) := by
  rw [cutM, Nat.testBit_and, spanM, mk_test]
  congr 2
  rw [spanB, Bool.eq_iff_iff]
  simp only [decide_eq_true_eq]
  omega

theorem leastI_bd (m : Nat) (hm : m < 18446744073709551616) : 0 ≤ leastI m ∧ leastI m ≤ 63 := by
  unfold leastI; split
  · omega
  · have := (lsb_spec (by assumption) hm).1; omega

def nextT (t : Int) (a b c : Nat) : Int × Bool :=
  if (hasB a (t / 3600) && (hasB b (t / 60 % 60) && leastB (aboveM c (t % 60 - 1)))) = true then (t / 3600 * 3600 + t / 60 % 60 * 60 + leastI (aboveM c (t % 60 - 1)), true)
  else if (hasB a (t / 3600) && leastB (aboveM b (t / 60 % 60))) = true then (t / 3600 * 3600 + leastI (aboveM b (t / 60 % 60)) * 60 + leastI c, true)
  else if leastB (aboveM a (t / 3600)) = true then (leastI (aboveM a (t / 3600)) * 3600 + leastI b * 60 + leastI c, true)
  else (0, false)
def nextF (s : Int) (a b c : Nat) : Int × Bool :=
  if a = 0 ∨ b = 0 ∨ c = 0 ∨ 86400 ≤ s then (0, false) else nextT (max s 0) a b c

theorem in_parts {s : Int} (h0 : 0 ≤ s) : s % 3600 / 60 = s / 60 % 60 := by omega

end Go.Proofs.YtchceegpbfecaaaDoor

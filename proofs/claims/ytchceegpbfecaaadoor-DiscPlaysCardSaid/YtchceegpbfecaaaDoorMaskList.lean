/-
  feriaref02.List makes the list of a mask's numbers.
-/
import Derived.Test.YtchceegpbfecaaaDoorMaskRSpan
import Derived.Test.YtchceegpbfecaaaDoorPops
namespace Go.Proofs.YtchceegpbfecaaaDoor
open Go.RowKit
set_option linter.unusedVariables false

theorem sel_pop (m : Nat) : (sel m.testBit 64).length = Lib.popAux 64 m := listM_len m 64
theorem hasB_nat (m n : Nat) : hasB m (n : Int) = m.testBit n := by simp [hasB]

end Go.Proofs.YtchceegpbfecaaaDoor

/-
  ferialaw07.lives answers true.
-/
import Derived.Test.YtdggflkkojmabaaDoorTodNext
namespace Go.Proofs.YtdggflkkojmabaaDoor
open Go.RowKit
set_option linter.unusedVariables false

theorem lives07_facts : todI 1 2 3 = 3723 ∧ todB 1 2 3 = true ∧ (nextF 3724 (cutM 2 23) (cutM 4 59) (cutM 1073741825 59)).1 = 3750 ∧ (nextF 3724 (cutM 2 23) (cutM 4 59) (cutM 1073741825 59)).2 = true := by
  refine ⟨?_, ?_, ?_, ?_⟩ <;> decide +kernel

theorem lives07_any (w : World) (hT : Tab w) : Calls Tryd.prog 44 #[] w fun e w' => e = .returned (.bool true) ∧ w = w' := by
  obtain ⟨h1, h2, h3, h4⟩ := lives07_facts
  have hn := TNext_any 3724 2 4 1073741825 w (by omega) (by omega) (by omega) hT
  rw [h3, h4] at hn
  have ho := TOf_any 1 2 3 w
  rw [h1, h2] at ho
  have Hn := hid hn
  have Ho := hid ho
  clear hn ho h1 h2 h3 h4
  go_enter Tryd.func44, Tryd.ntmps44
  go_wp2_with fail
  refine Ho.out.mono ?_
  rintro e w' ⟨rfl, rfl⟩
  go_wp2_with fail
  refine Hn.out.mono ?_
  rintro e w' ⟨rfl, rfl⟩
  go_wp2
  go_ret
  exact ⟨rfl, rfl⟩
end Go.Proofs.YtdggflkkojmabaaDoor

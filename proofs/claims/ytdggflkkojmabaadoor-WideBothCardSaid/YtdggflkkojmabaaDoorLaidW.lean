/-
  Sets of seven words that came in, as a row hands them over.
-/
import Derived.Test.YtdggflkkojmabaaDoorLaidU
import Derived.Test.YtdggflkkojmabaaDoorWideBase
namespace Go.Proofs.YtdggflkkojmabaaDoor
open Go.ChangeShapes Go.WideShapes Go.ChangeAt Go.RowKit
set_option linter.unusedVariables false

/-- seven numbers as a function -/
def of7 (x0 x1 x2 x3 x4 x5 x6 : Nat) : Nat → Nat
  | 0 => x0 | 1 => x1 | 2 => x2 | 3 => x3 | 4 => x4 | 5 => x5 | _ => x6
theorem oks_wv : ∀ {cs : List Value}, oks [.int .u64, .int .u64, .int .u64, .int .u64, .int .u64, .int .u64, .int .u64] cs → ∃ s : Nat → Nat, cs = [.int .u64 (s 0 : Nat), .int .u64 (s 1 : Nat), .int .u64 (s 2 : Nat), .int .u64 (s 3 : Nat), .int .u64 (s 4 : Nat), .int .u64 (s 5 : Nat), .int .u64 (s 6 : Nat)] ∧ ∀ i, i < 7 → s i < 18446744073709551616
  | [_, _, _, _, _, _, _], ⟨⟨y0, rfl, h0⟩, ⟨y1, rfl, h1⟩, ⟨y2, rfl, h2⟩, ⟨y3, rfl, h3⟩, ⟨y4, rfl, h4⟩, ⟨y5, rfl, h5⟩, ⟨y6, rfl, h6⟩, _⟩ => by
    obtain ⟨x0, rfl, g0⟩ := wf_u64 h0
    obtain ⟨x1, rfl, g1⟩ := wf_u64 h1
    obtain ⟨x2, rfl, g2⟩ := wf_u64 h2
    obtain ⟨x3, rfl, g3⟩ := wf_u64 h3
    obtain ⟨x4, rfl, g4⟩ := wf_u64 h4
    obtain ⟨x5, rfl, g5⟩ := wf_u64 h5
    obtain ⟨x6, rfl, g6⟩ := wf_u64 h6
    refine ⟨of7 x0 x1 x2 x3 x4 x5 x6, rfl, fun i hi => ?_⟩
    have : i = 0 ∨ i = 1 ∨ i = 2 ∨ i = 3 ∨ i = 4 ∨ i = 5 ∨ i = 6 := by omega
    rcases this with rfl | rfl | rfl | rfl | rfl | rfl | rfl
    · exact g0
    · exact g1
    · exact g2
    · exact g3
    · exact g4
    · exact g5
    · exact g6
end Go.Proofs.YtdggflkkojmabaaDoor

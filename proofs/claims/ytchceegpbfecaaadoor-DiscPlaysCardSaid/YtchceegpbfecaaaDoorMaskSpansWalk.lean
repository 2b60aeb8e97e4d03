/-
  ferialaw02.MaskSpans answers true for every list, span, mask.
-/
import Derived.Test.YtchceegpbfecaaaDoorMaskTz
import Derived.Deep.RegionHeld3
namespace Go.Proofs.YtchceegpbfecaaaDoor
open Go.RowKit
set_option linter.unusedVariables false

theorem lives02_facts : spanM 1 9 4 = 546 ∧ leastI (aboveM 546 5) = 9 ∧ leastB (aboveM 546 5) = true ∧ ofM [1, 5, 9] = 546 := by
  refine ⟨?_, ?_, ?_, ?_⟩ <;> decide +kernel

abbrev SpS (w : World) (x0 x1 x2 : Int) (W : World) : Prop :=
  W.cell? ⟨w.heap.size, 0, none⟩ = some (.int .i64 x0) ∧ W.cell? ⟨w.heap.size, 1, none⟩ = some (.int .i64 x1) ∧ W.cell? ⟨w.heap.size, 2, none⟩ = some (.int .i64 x2) ∧ Below w.heap.size w W ∧ w.heap.size < W.heap.size
theorem SpS.keep {w W W' : World} {x0 x1 x2 : Int} (h : SpS w x0 x1 x2 W) (hb : Below W.heap.size W W') : SpS w x0 x1 x2 W' := by
  obtain ⟨h1, h2, h3, h4, h5⟩ := h
  exact ⟨(hb.cell (p := ⟨w.heap.size, 0, none⟩) h5).trans h1, (hb.cell (p := ⟨w.heap.size, 1, none⟩) h5).trans h2, (hb.cell (p := ⟨w.heap.size, 2, none⟩) h5).trans h3, h4.trans (hb.mono (Nat.le_of_lt h5)), Nat.lt_of_lt_of_le h5 hb.size⟩

/-- a contract, with a condition on the world that it keeps -/
theorem keep_of {P : Program} {f : FuncId} {args : Array Value} {W : World} {v : Value} {S : World → Prop} (h : Calls P f args W fun e w' => e = .returned v ∧ Below W.heap.size W w') (hk : ∀ w', Below W.heap.size W w' → S w') :
    Calls P f args W fun e w' => e = .returned v ∧ S w' := h.mono fun e w' ⟨h1, h2⟩ => ⟨h1, hk w' h2⟩
theorem same_below {P : Program} {f : FuncId} {args : Array Value} {W : World} {v : Value} (h : Calls P f args W fun e w' => e = .returned v ∧ W = w') :
    Calls P f args W fun e w' => e = .returned v ∧ Below W.heap.size W w' := h.mono fun e w' ⟨h1, h2⟩ => ⟨h1, by rw [h2]; exact Below.refl _ _⟩

end Go.Proofs.YtchceegpbfecaaaDoor

/-
  The table of math/bits that this seat's rows list: what a row's premise gives of it, and a world that holds it.
-/
import Derived.Test.YtchceegpbfecaaaDoorCards
import Derived.Test.YtchceegpbfecaaaDoorTie
import Derived.Test.YtchceegpbfecaaaDoorMaskTz
import Derived.Test.YtchceegpbfecaaaDoorOpen
import Derived.Deep.DeepHandedRow
import Derived.Lib.LaidTab
namespace Go.Proofs.YtchceegpbfecaaaDoor
open Go.ChangeShapes Go.WideShapes Go.ChangeAt Go.RowKit
set_option linter.unusedVariables false

theorem ownKnobNone : ownKnob Tryd.prog.godebug = none := by kernel_rfl
theorem laidOut : laidOutB Tryd.prog = true := by kernel_rfl
theorem gTab : Tryd.prog.globalNamed "math/bits.deBruijn64tab" = some 0 := by kernel_rfl
theorem gTabType : (Tryd.prog.globals[0]?).map (·.type) = some 62 := by kernel_rfl
theorem cellsTab : Tryd.prog.cellsOf 62 = 64 := by kernel_rfl
theorem cellsU8 : Tryd.prog.cellsOf 5 = 1 := by kernel_rfl
theorem leafInt : leaves Tryd.prog 4 3 = some [.int .i64] := by kernel_rfl
theorem cellsInt : Tryd.prog.cellsOf 3 = 1 := by kernel_rfl
theorem leafU64 : leaves Tryd.prog 4 43 = some [.int .u64] := by kernel_rfl
theorem cellsU64 : Tryd.prog.cellsOf 43 = 1 := by kernel_rfl

def tabInts : List Int := Lib.deBruijn64tab.map fun (n : Nat) => (n : Int)
theorem tabInts_get : ∀ i, i < 64 → tabInts.getD i 0 = ((Lib.deBruijn64tab.getD i 0 : Nat) : Int) := by decide
theorem tab_of {W : World} (h : laidMetH Tryd.prog [("math/bits.deBruijn64tab", Rows.laid_math_bits_deBruijn64tab)] W) : Tab W := by
  have ht : Lib.TabIs Tryd.prog W "math/bits.deBruijn64tab" .u8 tabInts := Lib.tabIs_of_head (rest := []) gTab gTabType Tryd.underlying62 Tryd.underlying5 cellsU8 cellsTab h
  have hc : ∀ i, i < 64 → W.cell? ⟨0, i, none⟩ = some (.int .u8 (tabInts.getD i 0)) := fun i hi => ht.cell gTab i hi
  exact ⟨Nat.lt_of_le_of_lt (Nat.zero_le _) (World.block_lt_of_cell? W _ (hc 0 (by omega))), fun i hi => by rw [hc i hi, tabInts_get i hi]⟩

/-- A world for the witnesses: the settled one, the table holding what its initialiser lays. -/
noncomputable def laidWorld (os : Os) : World :=
  { World.holding Tryd.prog os ⟨#[], #[], []⟩ with heap := (World.holding Tryd.prog os ⟨#[], #[], []⟩).heap.modify 0 fun
      | .cells _ t frozen => .cells (tabInts.map (Value.int .u8)).toArray t frozen
      | o => o }

/-- ints that came in -/
theorem open_ints' {H : Type} {enc : TypeId × Value → H} {W : World} {a : Option Addr} {len cap : Nat} {d : DataW H} {p : List MemPlace} (h : DataW.Trod enc Tryd.prog W 0 (fun _ => true) true 22 (.slice a len cap) d p) :
    ∃ l : List Int, len = l.length ∧ l.length ≤ cap ∧ cap ≤ maxLen ∧ Sl W a (ints l) ∧ (a = none → cap = 0) ∧ ∀ x ∈ l, -9223372036854775808 ≤ x ∧ x ≤ 9223372036854775807 := by
  obtain ⟨fuel, hf⟩ := h
  obtain ⟨a', n, cap', cells, e, h1, h2, h3, h4, h6, h5⟩ := open_flat Tryd.underlying22 leafInt cellsInt.symm (by decide) (v := .slice a len cap) (by simpa [Value.cells] using hf)
  cases e
  obtain ⟨l, rfl, hll, hw⟩ := oks_ints h3 h5
  subst hll
  exact ⟨l, rfl, h1, h2, h4, h6, hw⟩
end Go.Proofs.YtchceegpbfecaaaDoor

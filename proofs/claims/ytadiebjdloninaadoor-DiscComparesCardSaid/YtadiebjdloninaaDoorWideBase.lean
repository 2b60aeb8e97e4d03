/-
  What the small functions of wide compute: sets of numbers as seven words.
-/
import Derived.Test.YtadiebjdloninaaDoorMaskSpansWalk
import Derived.Test.YtadiebjdloninaaDoorMaskList
namespace Go.Proofs.YtadiebjdloninaaDoor
open Go.RowKit
set_option linter.unusedVariables false

/-- a set, as a value -/
abbrev wv (s : Nat → Nat) : Value := .agg #[.int .u64 (s 0 : Nat), .int .u64 (s 1 : Nat), .int .u64 (s 2 : Nat), .int .u64 (s 3 : Nat), .int .u64 (s 4 : Nat), .int .u64 (s 5 : Nat), .int .u64 (s 6 : Nat)]
/-- a set, in a block -/
def WCells (W : World) (b : Nat) (s : Nat → Nat) : Prop := ∀ i, i < 7 → W.cell? ⟨b, i, none⟩ = some (.int .u64 (s i : Nat))
theorem WCells.below {W W' : World} {b B : Nat} {s : Nat → Nat} (h : WCells W b s) (hb : Below B W W') (hB : b < B) : WCells W' b s := fun i hi => (hb.cell (p := ⟨b, i, none⟩) hB).trans (h i hi)
theorem WCells.congr {W : World} {b : Nat} {s t : Nat → Nat} (h : WCells W b s) (e : ∀ i, i < 7 → s i = t i) : WCells W b t := fun i hi => by rw [← e i hi]; exact h i hi
theorem WCells.all {W : World} {b : Nat} {s : Nat → Nat} (h : WCells W b s) : W.cell? ⟨b, 0, none⟩ = some (.int .u64 (s 0 : Nat)) ∧ W.cell? ⟨b, 1, none⟩ = some (.int .u64 (s 1 : Nat)) ∧ W.cell? ⟨b, 2, none⟩ = some (.int .u64 (s 2 : Nat)) ∧
    W.cell? ⟨b, 3, none⟩ = some (.int .u64 (s 3 : Nat)) ∧ W.cell? ⟨b, 4, none⟩ = some (.int .u64 (s 4 : Nat)) ∧ W.cell? ⟨b, 5, none⟩ = some (.int .u64 (s 5 : Nat)) ∧ W.cell? ⟨b, 6, none⟩ = some (.int .u64 (s 6 : Nat)) :=
  ⟨h 0 (by omega), h 1 (by omega), h 2 (by omega), h 3 (by omega), h 4 (by omega), h 5 (by omega), h 6 (by omega)⟩
/-- a store into one word -/
theorem WCells.set {W : World} {b i : Nat} {s : Nat → Nat} {v : Nat} (h : WCells W b s) (hi : i < 7) : WCells (W.setCell ⟨b, i, none⟩ (.int .u64 v)) b (fun j => if j = i then v else s j) := by
  intro j hj
  by_cases e : j = i
  · subst e; simp [go_sem, h j hj]
  · simp [go_sem, h j hj, e]

def fullW (i : Nat) : Nat := spanM 0 (399 - 64 * (i : Int)) 1
theorem fullW_lt (i : Nat) : fullW i < 18446744073709551616 := mk_lt _
theorem fullW_test (i k : Nat) : (fullW i).testBit k = (decide (k < 64) && decide (64 * i + k < 400)) := by
  rw [fullW, spanM, mk_test, spanB, Bool.eq_iff_iff]
  simp only [Bool.and_eq_true, decide_eq_true_eq]
  omega

def WFree (W : World) (b : Nat) : Prop := ∀ j, W.frozen? ⟨b, j, none⟩ = false
theorem WFree.below {W W' : World} {b B : Nat} (h : WFree W b) (hb : Below B W W') (hB : b < B) : WFree W' b := fun i => (hb.frozen (p := ⟨b, i, none⟩) hB).trans (h i)
theorem WFree.set {W : World} {b : Nat} (h : WFree W b) (p : Addr) (v : Value) : WFree (W.setCell p v) b := fun j => by simp [go_sem, h j]

end Go.Proofs.YtadiebjdloninaaDoor

/-
  What the small functions of wide compute: sets of numbers as seven words.
  What within, may, May, Has, Len of wide compute.
  What may, May, Has and Len of wide, and Has and List of feriaref04, compute.
-/
import Derived.Test.YtchceegpbfecaaaDoorMaskSpansWalk
import Derived.Test.YtchceegpbfecaaaDoorMaskList
import Derived.Test.YtchceegpbfecaaaDoorPops
import Derived.ChangeKeysEq
import Derived.Deep.RegionHeld3
namespace Go.Proofs.YtchceegpbfecaaaDoor
open Go.RowKit
set_option linter.unusedVariables false

/-- a set, as a value -/
abbrev wv (s : Nat → Nat) : Value := .agg #[.int .u64 (s 0 : Nat), .int .u64 (s 1 : Nat), .int .u64 (s 2 : Nat), .int .u64 (s 3 : Nat), .int .u64 (s 4 : Nat), .int .u64 (s 5 : Nat), .int .u64 (s 6 : Nat)]
/-- a set, in a block -/
def WCells (W : World) (b : Nat) (s : Nat → Nat) : Prop := ∀ i, i < 7 → W.cell? ⟨b, i, none⟩ = some (.int .u64 (s i : Nat))
theorem WCells.below {W W' : World} {b B : Nat} {s : Nat → Nat} (h : WCells W b s) (hb : Below B W W') (hB : b < B) : WCells W' b s := fun i hi => (hb.cell (p := ⟨b, i, none⟩) hB).trans (h i hi)
theorem WCells.congr {W : World} {b : Nat} {s t : Nat → Nat} (h : WCells W b s) (e : ∀ i, i < 7 → s i = t i) : WCells W b t := fun i hi => by rw [← e i hi]; exact h i hi
theorem WCells.all {W : World} {b : Nat} {s : Nat → Nat} (h : WCells W b s) : W.cell? ⟨b, 0, none⟩ = some (.int .u64 (s 0 : Nat)) ∧ W.cell? ⟨b, 1, none⟩ = some (.int .u64 (s 1 : Nat)) ∧ W.cell? ⟨b, 2, none⟩ = some (.int .u64 (s 2 : Nat)) ∧
    W.cell? ⟨b, 3, none⟩ = some (.int .u64 (s 3 : Nat)) ∧ W.cell? ⟨b, 4, none⟩ = some (.int .u64 (s 4 : Nat)) ∧ W.cell? ⟨b, 5, none⟩ = some (.int .u64 (s 5 : Nat)) ∧ W.cell? ⟨b, 6, none⟩ = some (.int .u64 (s 6 : Nat)) :=
  ⟨h 0 (by omega), h 1 (by omega), h 2 (by omega), h 3 (by omega), h 4 (by omega), h 5 (by omega), h 6 (by omega)⟩
/-- a store into one word -/
theorem WCells.set {W : World} {b i : Nat} {s : Nat → Nat} {v : Nat} (h : WCells W b s) (hi : i < 7) : WCells (W.setCell ⟨b, i, none⟩ (.int .u64 v)) b (fun j => if j = i then v else s j) := by
  intro j hj
  by_cases e : j = i
  · subst e; simp [go_sem, h j hj]
  · simp [go_sem, h j hj, e]

def fullW (i : Nat) : Nat := spanM 0 (399 - 64 * (i : Int)) 1
theorem fullW_lt (i : Nat) : fullW i < 18446744073709551616 := mk_lt _
theorem fullW_test (i k : Nat) : (fullW i).testBit k = (decide (k < 64) && decide (64 * i + k < 400)) := by
  rw [fullW, spanM, mk_test, spanB, Bool.eq_iff_iff]
  simp only [Bool.and_eq_true, decide_eq_true_eq]
  omega

def WFree (W : World) (b : Nat) : Prop := ∀ j, W.frozen? ⟨b, j, none⟩ = false
theorem WFree.below {W W' : World} {b B : Nat} (h : WFree W b) (hb : Below B W W') (hB : b < B) : WFree W' b := fun i => (hb.frozen (p := ⟨b, i, none⟩) hB).trans (h i)
theorem WFree.set {W : World} {b : Nat} (h : WFree W b) (p : Addr) (v : Value) : WFree (W.setCell p v) b := fun j => by simp [go_sem, h j]

end Go.Proofs.YtchceegpbfecaaaDoor
namespace Go.Proofs.YtchceegpbfecaaaDoor
open Go.RowKit
set_option linter.unusedVariables false

def inW (s : Nat → Nat) (i : Nat) : Nat := s i &&& fullW i
theorem inW_lt {s : Nat → Nat} (i : Nat) (h : s i < 18446744073709551616) : inW s i < 18446744073709551616 := and_lt (b := fullW i) h
theorem seven {i : Nat} (h : i < 7) : i = 0 ∨ i = 1 ∨ i = 2 ∨ i = 3 ∨ i = 4 ∨ i = 5 ∨ i = 6 := by omega
/-- a block that has just been laid with a set's words -/
theorem wcells_new (w : World) (s : Nat → Nat) (t : TypeId) : WCells (w.alloc (.cells #[.int .u64 (s 0 : Nat), .int .u64 (s 1 : Nat), .int .u64 (s 2 : Nat), .int .u64 (s 3 : Nat), .int .u64 (s 4 : Nat), .int .u64 (s 5 : Nat), .int .u64 (s 6 : Nat)] t)) w.heap.size s := by
  intro i hi
  rcases seven hi with rfl | rfl | rfl | rfl | rfl | rfl | rfl <;> simp [go_sem]
theorem wfree_new (w : World) (s : Nat → Nat) (t : TypeId) : WFree (w.alloc (.cells #[.int .u64 (s 0 : Nat), .int .u64 (s 1 : Nat), .int .u64 (s 2 : Nat), .int .u64 (s 3 : Nat), .int .u64 (s 4 : Nat), .int .u64 (s 5 : Nat), .int .u64 (s 6 : Nat)] t)) w.heap.size := fun i => by simp [go_sem]

theorem infoU64 : (Tryd.prog.info? 43).map (fun i => (i.zero, i.size, i.bytes)) = some (some (.int .u64 0), 1, 8) := by kernel_rfl
end Go.Proofs.YtchceegpbfecaaaDoor
namespace Go.Proofs.YtchceegpbfecaaaDoor
open Go.RowKit
set_option linter.unusedVariables false

def eqW (s t : Nat → Nat) : Bool := (List.range 7).all (fun i => s i == t i)
theorem eqW_iff (s t : Nat → Nat) : eqW s t = true ↔ ∀ i, i < 7 → s i = t i := by
  rw [eqW, List.all_eq_true]
  simp
theorem part_wv (s : Nat → Nat) (i : Nat) (h : i < 7) (W : World) : (part 43 #[.int .u64 (s 0 : Nat), .int .u64 (s 1 : Nat), .int .u64 (s 2 : Nat), .int .u64 (s 3 : Nat), .int .u64 (s 4 : Nat), .int .u64 (s 5 : Nat), .int .u64 (s 6 : Nat)] (i * Tryd.prog.cellsOf 43)).run Tryd.prog W = .ok (.int .u64 (s i : Nat)) W := by
  rw [show Tryd.prog.cellsOf 43 = 1 by kernel_rfl]
  rcases seven h with rfl | rfl | rfl | rfl | rfl | rfl | rfl
  all_goals
    simp [go_sem, part]
def mayB (n : Int) : Bool := decide (0 ≤ n) && decide (n < 400)
/-- the box of a set -/
abbrev BoxS (w : World) (s : Nat → Nat) (W : World) : Prop :=
  W.cell? ⟨w.heap.size, 0, none⟩ = some (.int .u64 (s 0 : Nat)) ∧ W.cell? ⟨w.heap.size, 1, none⟩ = some (.int .u64 (s 1 : Nat)) ∧ W.cell? ⟨w.heap.size, 2, none⟩ = some (.int .u64 (s 2 : Nat)) ∧ W.cell? ⟨w.heap.size, 3, none⟩ = some (.int .u64 (s 3 : Nat)) ∧
  W.cell? ⟨w.heap.size, 4, none⟩ = some (.int .u64 (s 4 : Nat)) ∧ W.cell? ⟨w.heap.size, 5, none⟩ = some (.int .u64 (s 5 : Nat)) ∧ W.cell? ⟨w.heap.size, 6, none⟩ = some (.int .u64 (s 6 : Nat)) ∧ Below w.heap.size w W ∧ w.heap.size < W.heap.size
theorem BoxS.keep {w W W' : World} {s : Nat → Nat} (h : BoxS w s W) (hb : Below W.heap.size W W') : BoxS w s W' := by
  obtain ⟨h0, h1, h2, h3, h4, h5, h6, h7, h8⟩ := h
  exact ⟨(hb.cell (p := ⟨w.heap.size, 0, none⟩) h8).trans h0, (hb.cell (p := ⟨w.heap.size, 1, none⟩) h8).trans h1, (hb.cell (p := ⟨w.heap.size, 2, none⟩) h8).trans h2, (hb.cell (p := ⟨w.heap.size, 3, none⟩) h8).trans h3,
    (hb.cell (p := ⟨w.heap.size, 4, none⟩) h8).trans h4, (hb.cell (p := ⟨w.heap.size, 5, none⟩) h8).trans h5, (hb.cell (p := ⟨w.heap.size, 6, none⟩) h8).trans h6, h7.trans (hb.mono (by omega)), Nat.lt_of_lt_of_le h8 hb.size⟩

/-- which numbers a set has -/
def bitW (s : Nat → Nat) (k : Nat) : Bool := (s (k / 64)).testBit (k % 64)
def hasW (s : Nat → Nat) (n : Int) : Bool := mayB n && bitW s n.toNat

def lenW (t : Nat → Nat) : Nat → Nat
  | 0 => 0
  | n + 1 => lenW t n + Lib.popAux 64 (t n)
theorem lenW_succ (t : Nat → Nat) (n : Nat) : lenW t (n + 1) = lenW t n + Lib.popAux 64 (t n) := rfl
theorem lenW_le (t : Nat → Nat) : ∀ n, lenW t n ≤ 64 * n
  | 0 => Nat.le_refl _
  | n + 1 => by
    have := lenW_le t n
    have h : Lib.popAux 64 (t n) ≤ 64 := by rw [← sel_pop]; exact sel_len _ _
    rw [lenW]; omega
def lenOf (s : Nat → Nat) : Nat := lenW (inW s) 7
end Go.Proofs.YtchceegpbfecaaaDoor

/-
  What may, May, Has and Len of wide, and Has and List of feriaref04, compute.
-/
import Derived.Test.YtadiebjdloninaaDoorWideSet
import Derived.ChangeKeysEq
import Derived.Deep.RegionHeld3
namespace Go.Proofs.YtadiebjdloninaaDoor
open Go.RowKit
set_option linter.unusedVariables false

def eqW (s t : Nat → Nat) : Bool := (List.range 7).all (fun i => s i == t i)
theorem eqW_iff (s t : Nat → Nat) : eqW s t = true ↔ ∀ i, i < 7 → s i = t i := by
  rw [eqW, List.all_eq_true]
  simp
theorem part_wv (s : Nat → Nat) (i : Nat) (h : i < 7) (W : World) : (part 46 #[.int .u64 (s 0 : Nat), .int .u64 (s 1 : Nat), .int .u64 (s 2 : Nat), .int .u64 (s 3 : Nat), .int .u64 (s 4 : Nat), .int .u64 (s 5 : Nat), .int .u64 (s 6 : Nat)] (i * Tryd.prog.cellsOf 46)).run Tryd.prog W = .ok (.int .u64 (s i : Nat)) W := by
  rw [show Tryd.prog.cellsOf 46 = 1 by kernel_rfl]
  rcases seven h with rfl | rfl | rfl | rfl | rfl | rfl | rfl
  all_goals
    simp [go_sem, part]
def mayB (n : Int) : Bool := decide (0 ≤ n) && decide (n < 400)
/-- the box of a set -/
abbrev BoxS (w : World) (s : Nat → Nat) (W : World) : Prop :=
  W.cell? ⟨w.heap.size, 0, none⟩ = some (.int .u64 (s 0 : Nat)) ∧ W.cell? ⟨w.heap.size, 1, none⟩ = some (.int .u64 (s 1 : Nat)) ∧ W.cell? ⟨w.heap.size, 2, none⟩ = some (.int .u64 (s 2 : Nat)) ∧ W.cell? ⟨w.heap.size, 3, none⟩ = some (.int .u64 (s 3 : Nat)) ∧
  W.cell? ⟨w.heap.size, 4, none⟩ = some (.int .u64 (s 4 : Nat)) ∧ W.cell? ⟨w.heap.size, 5, none⟩ = some (.int .u64 (s 5 : Nat)) ∧ W.cell? ⟨w.heap.size, 6, none⟩ = some (.int .u64 (s 6 : Nat)) ∧ Below w.heap.size w W ∧ w.heap.size < W.heap.size
theorem BoxS.keep {w W W' : World} {s : Nat → Nat} (h : BoxS w s W) (hb : Below W.heap.size W W') : BoxS w s W' := by
  obtain ⟨h0, h1, h2, h3, h4, h5, h6, h7, h8⟩ := h
  exact ⟨(hb.cell (p := ⟨w.heap.size, 0, none⟩) h8).trans h0, (hb.cell (p := ⟨w.heap.size, 1, none⟩) h8).trans h1, (hb.cell (p := ⟨w.heap.size, 2, none⟩) h8).trans h2, (hb.cell (p := ⟨w.heap.size, 3, none⟩) h8).trans h3,
    (hb.cell (p := ⟨w.heap.size, 4, none⟩) h8).trans h4, (hb.cell (p := ⟨w.heap.size, 5, none⟩) h8).trans h5, (hb.cell (p := ⟨w.heap.size, 6, none⟩) h8).trans h6, h7.trans (hb.mono (by omega)), Nat.lt_of_lt_of_le h8 hb.size⟩

/-- which numbers a set has -/
def bitW (s : Nat → Nat) (k : Nat) : Bool := (s (k / 64)).testBit (k % 64)
def hasW (s : Nat → Nat) (n : Int) : Bool := mayB n && bitW s n.toNat

def lenW (t : Nat → Nat) : Nat → Nat
  | 0 => 0
  | n + 1 => lenW t n + Lib.popAux 64 (t n)
theorem lenW_succ (t : Nat → Nat) (n : Nat) : lenW t (n + 1) = lenW t n + Lib.popAux 64 (t n) := rfl
theorem lenW_le (t : Nat → Nat) : ∀ n, lenW t n ≤ 64 * n
  | 0 => Nat.le_refl _
  | n + 1 => by
    have := lenW_le t n
    have h : Lib.popAux 64 (t n) ≤ 64 := by rw [← sel_pop]; exact sel_len _ _
    rw [lenW]; omega
def lenOf (s : Nat → Nat) : Nat := lenW (inW s) 7
end Go.Proofs.YtadiebjdloninaaDoor

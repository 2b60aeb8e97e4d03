/-
  What within, may, May, Has, Len of wide compute.
-/
import Derived.Test.YtadiebjdloninaaDoorWideBase
import Derived.Test.YtadiebjdloninaaDoorPopWalk
namespace Go.Proofs.YtadiebjdloninaaDoor
open Go.RowKit
set_option linter.unusedVariables false

def inW (s : Nat → Nat) (i : Nat) : Nat := s i &&& fullW i
theorem inW_lt {s : Nat → Nat} (i : Nat) (h : s i < 18446744073709551616) : inW s i < 18446744073709551616 := and_lt (b := fullW i) h
theorem seven {i : Nat} (h : i < 7) : i = 0 ∨ i = 1 ∨ i = 2 ∨ i = 3 ∨ i = 4 ∨ i = 5 ∨ i = 6 := by omega
/-- a block that has just been laid with a set's words -/
theorem wcells_new (w : World) (s : Nat → Nat) (t : TypeId) : WCells (w.alloc (.cells #[.int .u64 (s 0 : Nat), .int .u64 (s 1 : Nat), .int .u64 (s 2 : Nat), .int .u64 (s 3 : Nat), .int .u64 (s 4 : Nat), .int .u64 (s 5 : Nat), .int .u64 (s 6 : Nat)] t)) w.heap.size s := by
  intro i hi
  rcases seven hi with rfl | rfl | rfl | rfl | rfl | rfl | rfl <;> simp [go_sem]
theorem wfree_new (w : World) (s : Nat → Nat) (t : TypeId) : WFree (w.alloc (.cells #[.int .u64 (s 0 : Nat), .int .u64 (s 1 : Nat), .int .u64 (s 2 : Nat), .int .u64 (s 3 : Nat), .int .u64 (s 4 : Nat), .int .u64 (s 5 : Nat), .int .u64 (s 6 : Nat)] t)) w.heap.size := fun i => by simp [go_sem]

theorem infoU64 : (Tryd.prog.info? 46).map (fun i => (i.zero, i.size, i.bytes)) = some (some (.int .u64 0), 1, 8) := by kernel_rfl
end Go.Proofs.YtadiebjdloninaaDoor

/-
  What wide.All, wide.Bounds and feriaref04.List compute.
-/
import Derived.Test.YtgiecadlliblpaaWideIter
namespace Go.Proofs.Ytgiecadlliblpaa
open Go.RowKit
set_option linter.unusedVariables false
attribute [local go_sem] Oper.semAt_some

/-- the words laid into a block that is there -/
theorem wcells_put {W : World} {b : Nat} {s v : Nat → Nat} (h : WCells W b s) :
    WCells (((((((W.setCell ⟨b, 0, none⟩ (.int .u64 (v 0 : Nat))).setCell ⟨b, 1, none⟩ (.int .u64 (v 1 : Nat))).setCell ⟨b, 2, none⟩ (.int .u64 (v 2 : Nat))).setCell ⟨b, 3, none⟩ (.int .u64 (v 3 : Nat))).setCell ⟨b, 4, none⟩ (.int .u64 (v 4 : Nat))).setCell ⟨b, 5, none⟩ (.int .u64 (v 5 : Nat))).setCell ⟨b, 6, none⟩ (.int .u64 (v 6 : Nat))) b v := by
  refine WCells.congr (((((((h.set (v := v 0) (by omega)).set (v := v 1) (by omega)).set (v := v 2) (by omega)).set (v := v 3) (by omega)).set (v := v 4) (by omega)).set (v := v 5) (by omega)).set (v := v 6) (by omega)) (fun i hi => ?_)
  rcases seven hi with rfl | rfl | rfl | rfl | rfl | rfl | rfl <;> simp
theorem below_put {B b : Nat} {A W : World} {v : Nat → Nat} (h : Below B A W) (hb : B ≤ b) :
    Below B A (((((((W.setCell ⟨b, 0, none⟩ (.int .u64 (v 0 : Nat))).setCell ⟨b, 1, none⟩ (.int .u64 (v 1 : Nat))).setCell ⟨b, 2, none⟩ (.int .u64 (v 2 : Nat))).setCell ⟨b, 3, none⟩ (.int .u64 (v 3 : Nat))).setCell ⟨b, 4, none⟩ (.int .u64 (v 4 : Nat))).setCell ⟨b, 5, none⟩ (.int .u64 (v 5 : Nat))).setCell ⟨b, 6, none⟩ (.int .u64 (v 6 : Nat))) :=
  below_set (below_set (below_set (below_set (below_set (below_set (below_set h hb) hb) hb) hb) hb) hb) hb

end Go.Proofs.Ytgiecadlliblpaa

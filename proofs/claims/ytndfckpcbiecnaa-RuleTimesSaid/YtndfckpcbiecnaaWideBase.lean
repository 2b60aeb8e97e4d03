/-
  What the small functions of wide compute: sets of numbers as seven words.
-/
import Derived.Test.YtndfckpcbiecnaaMaskSpansWalk
import Derived.Test.YtndfckpcbiecnaaMaskList
namespace Go.Proofs.Ytndfckpcbiecnaa
open Go.RowKit
set_option linter.unusedVariables false

/-- a set, as a value -/
abbrev wv (s : Nat → Nat) : Value := .agg #[.int .u64 (s 0 : Nat), .int .u64 (s 1 : Nat), .int .u64 (s 2 : Nat), .int .u64 (s 3 : Nat), .int .u64 (s 4 : Nat), .int .u64 (s 5 : Nat), .int .u64 (s 6 : Nat)]
/-- a set, in a block -/
def WCells (W : World) (b : Nat) (s : Nat → Nat) : Prop := ∀ i, i < 7 → W.cell? ⟨b, i, none⟩ = some (.int .u64 (s i : Nat))
theorem WCells.below {W W' : World} {b B : Nat} {s : Nat → Nat} (h : WCells W b s) (hb : Below B W W') (hB : b < B) : WCells W' b s := fun i hi => (hb.cell (p := ⟨b, i, none⟩) hB).trans (h i hi)
theorem WCells.congr {W : World} {b : Nat} {s t : Nat → Nat} (h : WCells W b s) (e : ∀ i, i < 7 → s i = t i) : WCells W b t := fun i hi => by rw [← e i hi]; exact h i hi
theorem WCells.all {W : World} {b : Nat} {s : Nat → Nat} (h : WCells W b s) : W.cell? ⟨b, 0, none⟩ = some (.int .u64 (s 0 : Nat)) ∧ W.cell? ⟨b, 1, none⟩ = some (.int .u64 (s 1 : Nat)) ∧ W.cell? ⟨b, 2, none⟩ = some (.int .u64 (s 2 : Nat)) ∧
    W.cell? ⟨b, 3, none⟩ = some (.int .u64 (s 3 : Nat)) ∧ W.cell? ⟨b, 4, none⟩ = some (.int .u64 (s 4 : Nat)) ∧ W.cell? ⟨b, 5, none⟩ = some (.int .u64 (s 5 : Nat)) ∧ W.cell? ⟨b, 6, none⟩ = some (.int .u64 (s 6 : Nat)) :=
  ⟨h 0 (by omega), h 1 (by omega), h 2 (by omega), h 3 (by omega), h 4 (by omega), h 5 (by omega), h 6 (by omega)⟩
/-- a store into one word -/
theorem WCells.set {W : World} {b i : Nat} {s : Nat → Nat} {v : Nat} (h : WCells W b s) (hi : i < 7) : WCells (W.setCell ⟨b, i, none⟩ (.int .u64 v)) b (fun j => if j = i then v else s j) := by
  intro j hj
  by_cases e : j = i
  · subst e; simp [go_sem, h j hj]
  · simp [go_sem, h j hj, e]

def fullW (i : Nat) : Nat := spanM 0 (399 - 64 * (i : Int)) 1
theorem fullW_lt (i : Nat) : fullW i < 18446744073709551616 := mk_lt _
theorem fullW_test (i k : Nat) : (fullW i).testBit k = (decide (k < 64) && decide (64 * i + k < 400)) := by
  rw [fullW, spanM, mk_test, spanB, Bool.eq_iff_iff]
  simp only [Bool.and_eq_true, decide_eq_true_eq]
  omega

def WFree (W : World) (b : Nat) : Prop := ∀ j, W.frozen? ⟨b, j, none⟩ = false
theorem WFree.below {W W' : World} {b B : Nat} (h : WFree W b) (hb : Below B W W') (hB : b < B) : WFree W' b := fun i => (hb.frozen (p := ⟨b, i, none⟩) hB).trans (h i)
theorem WFree.set {W : World} {b : Nat} (h : WFree W b) (p : Addr) (v : Value) : WFree (W.setCell p v) b := fun j => by simp [go_sem, h j]

set_option maxHeartbeats 800000 in
theorem WFull_any (w : World) : Calls Try.prog 91 #[] w fun e w' => e = .returned (wv fullW) ∧ Below w.heap.size w w' := by
  have c1 : Hid (∀ (i : Nat) W, (i : Int) < 7 → Calls Try.prog 89 #[.int .i64 0, .int .i64 (399 - (i : Int) * 64), .int .i64 1] W fun e w' => e = .returned (.int .u64 (fullW i)) ∧ W = w') := fun i W h => by
    have := Span_any 0 (399 - 64 * (i : Int)) 1 W (by omega) (by omega)
    rw [Int.mul_comm] at this
    have e : fullW i = spanM 0 (399 - (i : Int) * 64) 1 := by rw [fullW, Int.mul_comm]
    rw [e]; exact this
  go_enter Try.func91, Try.ntmps91
  go_wp2
  go_loopw [3] (fun v wr => ∃ i : Nat, v = .int .i64 i ∧ i ≤ 7 ∧ Hid (WCells wr (w.heap.size + 1) (fun j => if j < i then fullW j else 0)) ∧ Hid (WCells wr w.heap.size (fun _ => 0)) ∧ Hid (WFree wr (w.heap.size + 1)) ∧ Hid (WFree wr w.heap.size) ∧ Below w.heap.size w wr ∧ wr.heap.size = w.heap.size + 2) (fun v _ => 7 - (intOf v).toNat)
  case atStart =>
    refine ⟨0, rfl, by omega, fun j hj => ?_, fun j hj => ?_, fun j => by simp [go_sem], fun j => by simp [go_sem], below_new (below_new (Below.refl _ _) (Nat.le_refl _)) (by simp), by simp⟩
    · have : j = 0 ∨ j = 1 ∨ j = 2 ∨ j = 3 ∨ j = 4 ∨ j = 5 ∨ j = 6 := by omega
      rcases this with rfl | rfl | rfl | rfl | rfl | rfl | rfl <;> simp [go_sem]
    · have : j = 0 ∨ j = 1 ∨ j = 2 ∨ j = 3 ∨ j = 4 ∨ j = 5 ∨ j = 6 := by omega
      rcases this with rfl | rfl | rfl | rfl | rfl | rfl | rfl <;> simp [go_sem]
  case round =>
    obtain ⟨i, rfl, hi, hc, hc0, hf, hf0, hB, hsz⟩ := hrel
    by_cases hlt : i < 7
    · have e1 := hc.out i hlt
      have e2 := hf.out i
      go_wp2_with fail
      refine (c1.out i wr (by omega)).mono ?_
      rintro e w1 ⟨rfl, rfl⟩
      go_wp2
      refine ⟨⟨i + 1, by go_num, by omega, ?_, ?_, ?_, ?_, below_set hB (by omega), by simpa [go_sem] using hsz⟩, by simp [intOf]; omega⟩
      · exact (hc.out.set (v := fullW i) hlt).congr (fun j hj => by
          by_cases e : j = i
          · subst e; simp
          · have : (j < i + 1) = (j < i) := by simp; omega
            simp [e, this])
      · exact fun j hj => (World.cell?_of_block (w := wr) (a := ⟨w.heap.size, j, none⟩) (Below.heap_setCell _ _ _ _ (by simp))).trans (hc0.out j hj)
      · exact hf.out.set _ _
      · exact hf0.out.set _ _
    · obtain rfl : i = 7 := by omega
      have hc' : WCells wr (w.heap.size + 1) fullW := hc.out.congr (fun j hj => by simp [hj])
      obtain ⟨r0, r1, r2, r3, r4, r5, r6⟩ := hc'.all
      obtain ⟨z0, z1, z2, z3, z4, z5, z6⟩ := hc0.out.all
      have f0 := hf0.out 0
      have f1 := hf0.out 1
      have f2 := hf0.out 2
      have f3 := hf0.out 3
      have f4 := hf0.out 4
      have f5 := hf0.out 5
      have f6 := hf0.out 6
      clear hc hc0 hf hf0 hc'
      go_wp2
      refine bodyPost_ret (v := wv fullW) (by simp [results, Try.results91, go_sem, z0, z1, z2, z3, z4, z5, z6]) rfl ⟨rfl, ?_⟩
      exact below_set (below_set (below_set (below_set (below_set (below_set (below_set hB (Nat.le_refl _)) (Nat.le_refl _)) (Nat.le_refl _)) (Nat.le_refl _)) (Nat.le_refl _)) (Nat.le_refl _)) (Nat.le_refl _)
end Go.Proofs.Ytndfckpcbiecnaa

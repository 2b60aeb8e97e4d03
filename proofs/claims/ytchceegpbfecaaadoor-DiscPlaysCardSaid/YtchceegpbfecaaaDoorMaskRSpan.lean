/-
  What feriaref02.Span and feriaref02.List compute.
-/
import Derived.Test.YtchceegpbfecaaaDoorMaskSpan
namespace Go.Proofs.YtchceegpbfecaaaDoor
open Go.RowKit
set_option linter.unusedVariables false

theorem eInt : El Tryd.prog 22 3 (.int .i64 0) 1 8 := ⟨Tryd.underlying22, by kernel_rfl, by kernel_rfl, by decide⟩

/-- the numbers below n of which p holds, rising -/
def sel (p : Nat → Bool) (n : Nat) : List Int := ((List.range n).filter p).map (fun (k : Nat) => (k : Int))
theorem sel_zero (p : Nat → Bool) : sel p 0 = [] := rfl
theorem sel_yes {p : Nat → Bool} {n : Nat} (h : p n = true) : sel p (n + 1) = sel p n ++ [(n : Int)] := by simp [sel, List.range_succ, h]
theorem sel_no {p : Nat → Bool} {n : Nat} (h : p n = false) : sel p (n + 1) = sel p n := by simp [sel, List.range_succ, h]
theorem sel_len (p : Nat → Bool) (n : Nat) : (sel p n).length ≤ n := by
  simp only [sel, List.length_map]
  exact Nat.le_trans (List.length_filter_le _ _) (by simp)
theorem sel_mem {p : Nat → Bool} {n : Nat} {x : Int} : x ∈ sel p n ↔ ∃ k : Nat, k < n ∧ p k = true ∧ x = (k : Int) := by
  simp only [sel, List.mem_map, List.mem_filter, List.mem_range]
  constructor
  · rintro ⟨k, ⟨h1, h2⟩, rfl⟩; exact ⟨k, h1, h2, rfl⟩
  · rintro ⟨k, h1, h2, rfl⟩; exact ⟨k, ⟨h1, h2⟩, rfl⟩
theorem ofM_sel (p : Nat → Bool) : ofM (sel p 64) = mk p :=
  mk_congr fun i hi => by
    rw [Bool.eq_iff_iff, inB, decide_eq_true_eq, sel_mem]
    constructor
    · rintro ⟨k, _, h, e⟩
      obtain rfl : i = k := by omega
      exact h
    · intro h; exact ⟨i, hi, h, rfl⟩

theorem tmod_bd {f s : Int} (hs : 1 ≤ s) : -s < f.tmod s ∧ f.tmod s < s ∧ (f.tmod s < 0 → f % s = f.tmod s + s) ∧ (0 ≤ f.tmod s → f % s = f.tmod s) := by
  have h1 := Int.emod_nonneg f (show s ≠ 0 by omega)
  have h2 := Int.emod_lt_of_pos f (show 0 < s by omega)
  have h3 := Int.tmod_add_mul_tdiv f s
  have h4 : -s < f.tmod s ∧ f.tmod s < s := by
    by_cases h : 0 ≤ f
    · rw [Int.tmod_eq_emod_of_nonneg h]; omega
    · rw [show f = -(-f) by omega, Int.neg_tmod, Int.tmod_eq_emod_of_nonneg (by omega)]
      have := Int.emod_nonneg (-f) (show s ≠ 0 by omega)
      have := Int.emod_lt_of_pos (-f) (show 0 < s by omega)
      omega
  refine ⟨h4.1, h4.2, fun h => ?_, fun h => ?_⟩
  · rw [← h3, Int.add_mul_emod_self_left]
    have : (f.tmod s + s) % s = f.tmod s + s := Int.emod_eq_of_lt (by omega) (by omega)
    rw [h3, ← this, Int.add_emod_right]
  · rw [← h3, Int.add_mul_emod_self_left, h3]
    exact Int.emod_eq_of_lt h (by omega)

/-- the document's test is the program's -/
theorem spanB_iff {f t s : Int} {n : Nat} (hs : 1 ≤ s) : spanB f t s n = (decide (f ≤ (n : Int)) && decide ((n : Int) ≤ t) && ((n : Int) % s == f % s)) := by
  have e : ((n : Int) - f) % s = 0 ↔ (n : Int) % s = f % s := by
    rw [← Int.emod_eq_emod_iff_emod_sub_eq_zero]
  rw [Bool.eq_iff_iff]
  simp [spanB, hs, e, and_assoc]

end Go.Proofs.YtchceegpbfecaaaDoor

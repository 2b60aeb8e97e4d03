/-
  What a call of a disc makes of its seconds, in plain words.
-/
import Derived.Test.YtchceegpbfecaaaDoorDiscOps
import Derived.Test.YtchceegpbfecaaaDoorDiscLen
import Derived.Test.YtchceegpbfecaaaDoorDiscCmp
import Derived.Test.YtchceegpbfecaaaDoorDiscTold
namespace Go.Proofs.YtchceegpbfecaaaDoor
open Go.RowKit
set_option linter.unusedVariables false

theorem secL_congr {p q : Nat → Bool} (h : ∀ k, k < 86400 → p k = q k) : secL p = secL q := by
  have e : ∀ N, N ≤ 86400 → (List.range N).filter p = (List.range N).filter q := fun N hN => List.filter_congr fun k hk => h k (by have := List.mem_range.1 hk; omega)
  rw [secL, secL, sel, sel, e 86400 (Nat.le_refl _)]
theorem memD_secL (q : Nat → Bool) {k : Nat} (hk : k < 86400) : memD (secL q) k = q k := by
  rw [memD]
  cases e : q k
  · rw [decide_eq_false_iff_not, secL, sel_mem]
    rintro ⟨j, h1, h2, h3⟩
    have : j = k := by omega
    rw [this, e] at h2; cases h2
  · rw [decide_eq_true_eq, secL, sel_mem]
    exact ⟨k, hk, e, rfl⟩
theorem memD_append (l m : List Int) (k : Nat) : memD (l ++ m) k = (memD l k || memD m k) := by
  simp only [memD, List.mem_append]
  by_cases h1 : (k : Int) ∈ l <;> by_cases h2 : (k : Int) ∈ m <;> simp [h1, h2]
/-- behind Put, and behind Join of one -/
theorem sec_put (q : Nat → Bool) (l : List Int) : secL (memD (secL q ++ l)) = secL fun k => q k || memD l k :=
  secL_congr fun k hk => by rw [memD_append, memD_secL q hk]
theorem sec_join2 (q : Nat → Bool) (l m : List Int) : secL (memD (secL q ++ l ++ m)) = secL fun k => q k || [(some 0, memD l), (some 0, memD m), (none, fun _ => false)].any fun d => d.2 k :=
  secL_congr fun k hk => by rw [memD_append, memD_append, memD_secL q hk]; simp [Bool.or_assoc]
theorem both_sec (q r : Nat → Bool) : bothI (secL q) (secL r) = secL fun k => q k && r k := by
  obtain ⟨m, hm⟩ : ∃ m, secL r = m := ⟨_, rfl⟩
  have hr : ∀ k : Nat, k < 86400 → decide ((k : Int) ∈ m) = r k := fun k hk => by rw [← hm]; exact memD_secL r hk
  have e : ∀ N, N ≤ 86400 → (((List.range N).filter q).map fun (k : Nat) => (k : Int)).filter (fun x => decide (x ∈ m)) = ((List.range N).filter fun k => q k && r k).map fun (k : Nat) => (k : Int) := fun N hN => by
    rw [List.filter_map, List.filter_filter]
    refine congrArg (List.map _) (List.filter_congr fun k hk => ?_)
    simp only [Function.comp]
    rw [hr k (by have := List.mem_range.1 hk; omega), Bool.and_comm]
  rw [hm, bothI]
  exact e 86400 (Nat.le_refl _)
theorem sec_none : secL (fun _ => false) = [] := by rw [secL, sel_none fun _ _ => rfl]
theorem has_sec (q : Nat → Bool) (s : Int) : decide (s ∈ secL q) = (dsecB s && q s.toNat) := by
  cases e : (dsecB s && q s.toNat)
  · rw [decide_eq_false_iff_not, secL, sel_mem]
    rintro ⟨k, h1, h2, rfl⟩
    rw [dsecB_nat, decide_eq_true h1, Int.toNat_natCast, h2] at e; cases e
  · rw [Bool.and_eq_true] at e
    have h : 0 ≤ s ∧ s < 86400 := by simpa [dsecB] using e.1
    rw [decide_eq_true_eq, secL, sel_mem]
    exact ⟨s.toNat, by omega, e.2, by omega⟩
end Go.Proofs.YtchceegpbfecaaaDoor

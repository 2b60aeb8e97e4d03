/-
  What mask.Has, mask.Of, feriaref02.Has and feriaref02.Of compute.
-/
import Derived.Test.YtchceegpbfecaaaDoorMask
namespace Go.Proofs.YtchceegpbfecaaaDoor
open Go.RowKit
set_option linter.unusedVariables false

def hasB (m : Nat) (n : Int) : Bool := decide (0 ≤ n) && m.testBit n.toNat

set_option maxHeartbeats 400000 in
theorem Has_any (m : Nat) (n : Int) (w : World) (hm : m < 18446744073709551616) : Calls Tryd.prog 22 #[.int .u64 m, .int .i64 n] w fun e w' => e = .returned (.bool (hasB m n)) ∧ w = w' := by
  have hb := fun k => has_bit (n := k) hm
  have Hb := hid hb
  have Hm := hid (fun i (hi : 64 ≤ i) => test_big hm hi)
  clear hb
  by_cases h0 : n < 0
  · have hr : Hid (hasB m n = false) := by show hasB m n = false; simp [hasB]; omega
    go_enter Tryd.func22, Tryd.ntmps22
    go_wp2
    go_ret
    rw [hr.out]; exact ⟨rfl, rfl⟩
  by_cases h1 : 64 ≤ n
  · have hr : Hid (hasB m n = false) := by show hasB m n = false; rw [hasB, Hm.out n.toNat (by omega)]; simp
    go_enter Tryd.func22, Tryd.ntmps22
    go_wp2
    go_ret
    rw [hr.out]; exact ⟨rfl, rfl⟩
  obtain ⟨k, rfl⟩ := Int.eq_ofNat_of_zero_le (by omega : 0 ≤ n)
  have hr : Hid (hasB m (k : Int) = m.testBit k) := by show hasB m (k : Int) = m.testBit k; simp [hasB]
  go_enter Tryd.func22, Tryd.ntmps22
  go_wp2
  go_ret
  rw [hr.out, Hb.out]; exact ⟨rfl, rfl⟩

/-- is k in l? -/
def inB (l : List Int) (k : Nat) : Bool := decide ((k : Int) ∈ l)
def ofM (l : List Int) : Nat := mk (inB l)
theorem inB_snoc (l : List Int) (x : Int) (k : Nat) : inB (l ++ [x]) k = (inB l k || decide ((k : Int) = x)) := by simp [inB]
theorem ofM_out (l : List Int) (x : Int) (h : x < 0 ∨ 64 ≤ x) : ofM (l ++ [x]) = ofM l :=
  mk_congr fun i hi => by rw [inB_snoc]; simp; omega
theorem ofM_in (l : List Int) (k : Nat) (h : k < 64) : ofM l ||| 2 ^ k = ofM (l ++ [(k : Int)]) := by
  refine eq_mk (or_lt (mk_lt _) (pow_lt h)) (fun i hi => ?_)
  rw [Nat.testBit_or, ofM, mk_test, inB_snoc, Nat.testBit_two_pow]
  simp [hi]
  by_cases h2 : i = k
  · subst h2; simp
  · have h3 : ¬ k = i := fun e => h2 e.symm
    have h4 : ¬ (i : Int) = (k : Int) := by omega
    simp [h3, h4]
theorem ofM_nil : ofM [] = 0 := by rw [ofM, ← mk_false]; exact mk_congr fun i _ => by simp [inB]

/-! ### the document's -/
/-- one round of the document's Of: the bit n is in front -/
theorem shift_in (p : Nat → Bool) (n : Nat) : mkBits (fun i => p (n + i)) (64 - n) < 18446744073709551616 :=
  Nat.lt_of_lt_of_le (mkBits_lt _ _) (Nat.pow_le_pow_right (n := 2) (i := 64 - n) (j := 64) (by omega) (by omega))

theorem mkBits_cons (p : Nat → Bool) : ∀ (n : Nat), mkBits p (n + 1) = 2 * mkBits (fun i => p (i + 1)) n + (if p 0 then 1 else 0)
  | 0 => by simp [mkBits]
  | n + 1 => by
    rw [mkBits, mkBits_cons p n, mkBits, Nat.pow_succ]
    by_cases h : p (n + 1) = true
    · rw [if_pos h, if_pos h]; omega
    · rw [if_neg h, if_neg h]; omega

/-- what the document's Of holds when the numbers from n on are in -/
def upM (p : Nat → Bool) (n : Nat) : Nat := mkBits (fun i => p (n + i)) (64 - n)
theorem upM_step (p : Nat → Bool) (n : Nat) (h : n < 64) : upM p n = 2 * upM p (n + 1) + (if p n then 1 else 0) := by
  unfold upM
  rw [show 64 - n = (64 - (n + 1)) + 1 by omega, mkBits_cons]
  simp only [Nat.add_zero]
  congr 3
  funext i
  congr 1
  omega
theorem upM_64 (p : Nat → Bool) : upM p 64 = 0 := rfl
theorem upM_0 (p : Nat → Bool) : upM p 0 = mk p := by unfold upM mk; congr 1; funext i; rw [Nat.zero_add]
theorem upM_lt (p : Nat → Bool) (n : Nat) : upM p n < 18446744073709551616 := shift_in p n
theorem upM_half (p : Nat → Bool) (n : Nat) : 2 * upM p (n + 1) < 18446744073709551616 ∨ 64 ≤ n := by
  by_cases h : 64 ≤ n
  · exact .inr h
  · left
    have := upM_step p n (by omega)
    have h2 := upM_lt p n
    split at this <;> omega

end Go.Proofs.YtchceegpbfecaaaDoor

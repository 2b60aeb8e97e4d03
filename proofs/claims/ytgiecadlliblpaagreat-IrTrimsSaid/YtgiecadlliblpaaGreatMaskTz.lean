/-
  What math/bits.TrailingZeros64 computes where its table is laid; mask.Least and mask.Next.
-/
import Derived.Test.YtgiecadlliblpaaGreatMaskRSpan
import Derived.Lib.TrailingZeros
namespace Go.Proofs.YtgiecadlliblpaaGreat
open Go.RowKit
set_option linter.unusedVariables false

/-- the least bit of x -/
def lsb (x : Nat) : Nat := Lib.ctz 64 x
theorem lsb_spec {x : Nat} (h0 : x ≠ 0) (hx : x < 18446744073709551616) : lsb x < 64 ∧ x.testBit (lsb x) = true ∧ ∀ i, i < lsb x → x.testBit i = false := by
  obtain ⟨m, hm, hk⟩ := Lib.ctzFrom_spec 64 x (by omega) hx
  have e : lsb x = Lib.ctzFrom 64 x := by simp [lsb, Lib.ctz, h0]
  rw [e]
  obtain ⟨k, hk2⟩ : ∃ k, Lib.ctzFrom 64 x = k := ⟨_, rfl⟩
  rw [hk2] at hm hk ⊢
  subst hm
  refine ⟨hk, ?_, fun i hi => ?_⟩
  · rw [Nat.mul_comm, Nat.testBit_mul_two_pow]; simp
  · rw [Nat.mul_comm, Nat.testBit_mul_two_pow]; simp; omega

/-- the least bit, as Go answers it -/
def leastI (m : Nat) : Int := if m = 0 then 0 else (lsb m : Int)
def leastB (m : Nat) : Bool := decide (m ≠ 0)

/-- the bits of m from n on -/
def fromM (m n : Nat) : Nat := m / 2 ^ n * 2 ^ n
theorem fromM_lt {m n : Nat} (hm : m < 18446744073709551616) : fromM m n < 18446744073709551616 := Nat.lt_of_le_of_lt (Nat.div_mul_le_self _ _) hm
theorem fromM_test (m n i : Nat) : (fromM m n).testBit i = (decide (n ≤ i) && m.testBit i) := by
  rw [fromM, Nat.testBit_mul_two_pow, Nat.testBit_div_two_pow]
  by_cases h : n ≤ i
  · simp [h]
  · simp [h]

/-- what is left of m above n -/
def aboveM (m : Nat) (n : Int) : Nat := if n < 0 then m else if 63 ≤ n then 0 else fromM m (n.toNat + 1)
theorem aboveM_lt {m : Nat} {n : Int} (hm : m < 18446744073709551616) : aboveM m n < 18446744073709551616 := by
  unfold aboveM; split
  · exact hm
  · split
    · omega
    · exact fromM_lt hm
theorem aboveM_test {m : Nat} (n : Int) (i : Nat) (hm : m < 18446744073709551616) : (aboveM m n).testBit i = (decide (n < (i : Int)) && m.testBit i) := by
  unfold aboveM; split
  · simp; omega
  · split
    · by_cases h : 64 ≤ i
      · rw [test_big hm h]; simp
      · simp; omega
    · rw [fromM_test]
      congr 1
      simp; omega

theorem bits_andNot {a b : Nat} (ha : a < 18446744073709551616) (hb : b < 18446744073709551616) : bits .andNot .u64 (a : Int) (b : Int) = ((mk (fun k => a.testBit k && !b.testBit k) : Nat) : Int) := by
  show IntKind.u64.wrap ((BitVec.ofInt 64 (a : Int) &&& ~~~BitVec.ofInt 64 (b : Int)).toNat : Int) = _
  have hl : (BitVec.ofInt 64 (a : Int) &&& ~~~BitVec.ofInt 64 (b : Int)).toNat < 18446744073709551616 := BitVec.isLt _
  rw [wrap_nat hl]
  congr 1
  refine eq_mk hl (fun i hi => ?_)
  rw [BitVec.testBit_toNat, BitVec.getLsbD_and, BitVec.getLsbD_not, ← BitVec.testBit_toNat, ← BitVec.testBit_toNat, ofInt_nat ha, ofInt_nat hb]
  simp [hi]

end Go.Proofs.YtgiecadlliblpaaGreat

/-
  Masks as natural numbers below 2^64 given by their bits, and what Go's bit operations on uint64 make of them.
-/
import Derived.Test.YtchceegpbfecaaaDoorBase
namespace Go.Proofs.YtchceegpbfecaaaDoor
open Go.RowKit
set_option linter.unusedVariables false

/-- the number whose bits below n are p -/
def mkBits (p : Nat → Bool) : Nat → Nat
  | 0 => 0
  | n + 1 => mkBits p n + (if p n then 2 ^ n else 0)
theorem mkBits_lt (p : Nat → Bool) (n : Nat) : mkBits p n < 2 ^ n := by
  induction n with
  | zero => simp [mkBits]
  | succ n ih => rw [mkBits, Nat.pow_succ]; split <;> omega
theorem mkBits_test (p : Nat → Bool) (n i : Nat) : (mkBits p n).testBit i = (decide (i < n) && p i) := by
  induction n with
  | zero => simp [mkBits]
  | succ n ih =>
    have hlt := mkBits_lt p n
    rw [mkBits]
    by_cases hp : p n = true
    · rw [if_pos hp, Nat.add_comm]
      by_cases hi : i = n
      · subst hi
        rw [Nat.testBit_two_pow_add_eq, Nat.testBit_lt_two_pow hlt]
        simp [hp]
      · rcases Nat.lt_or_gt_of_ne hi with h | h
        · rw [Nat.testBit_two_pow_add_gt h, ih]
          simp [h, show i < n + 1 by omega]
        · have : (2 ^ n + mkBits p n) < 2 ^ i := Nat.lt_of_lt_of_le (by omega : 2 ^ n + mkBits p n < 2 ^ (n + 1)) (Nat.pow_le_pow_right (by omega) (by omega))
          rw [Nat.testBit_lt_two_pow this]
          simp [show ¬ i < n + 1 by omega]
    · rw [if_neg hp, Nat.add_zero, ih]
      by_cases hi : i = n
      · subst hi
        simp [Bool.eq_false_iff.2 hp]
      · by_cases h : i < n
        · simp [h, show i < n + 1 by omega]
        · simp [h, show ¬ i < n + 1 by omega]

/-- the mask of what p says of 0 .. 63 -/
def mk (p : Nat → Bool) : Nat := mkBits p 64
theorem mk_lt (p : Nat → Bool) : mk p < 18446744073709551616 := mkBits_lt p 64
theorem mk_test (p : Nat → Bool) (i : Nat) : (mk p).testBit i = (decide (i < 64) && p i) := mkBits_test p 64 i
theorem test_big {m i : Nat} (hm : m < 18446744073709551616) (hi : 64 ≤ i) : m.testBit i = false :=
  Nat.testBit_lt_two_pow (Nat.lt_of_lt_of_le hm (Nat.pow_le_pow_right (n := 2) (by omega) hi))
theorem eq_mk {m : Nat} {p : Nat → Bool} (hm : m < 18446744073709551616) (h : ∀ i, i < 64 → m.testBit i = p i) : m = mk p := by
  apply Nat.eq_of_testBit_eq
  intro i
  rw [mk_test]
  by_cases hi : i < 64
  · rw [h i hi]; simp [hi]
  · rw [test_big hm (by omega)]; simp [hi]
theorem mk_congr {p q : Nat → Bool} (h : ∀ i, i < 64 → p i = q i) : mk p = mk q :=
  eq_mk (mk_lt p) (fun i hi => by rw [mk_test]; simp [hi, h i hi])
theorem mk_self {m : Nat} (hm : m < 18446744073709551616) : mk m.testBit = m := (eq_mk hm fun _ _ => rfl).symm
theorem mk_false : mk (fun _ => false) = 0 := (eq_mk (by omega) (fun i _ => by simp)).symm

theorem ofInt_nat {a : Nat} (ha : a < 18446744073709551616) : (BitVec.ofInt 64 (a : Int)).toNat = a := by
  rw [BitVec.ofInt_natCast, BitVec.toNat_ofNat]; exact Nat.mod_eq_of_lt (by omega)
theorem wrap_nat {a : Nat} (ha : a < 18446744073709551616) : IntKind.u64.wrap (a : Int) = a := by
  rw [IntKind.wrap_u64]; omega

theorem bits_or {a b : Nat} (ha : a < 18446744073709551616) (hb : b < 18446744073709551616) : bits .or .u64 (a : Int) (b : Int) = ((a ||| b : Nat) : Int) := by
  show IntKind.u64.wrap ((BitVec.ofInt 64 (a : Int) ||| BitVec.ofInt 64 (b : Int)).toNat : Int) = _
  rw [BitVec.toNat_or, ofInt_nat ha, ofInt_nat hb]
  exact wrap_nat (Nat.or_lt_two_pow (n := 64) ha hb)
theorem bits_and {a b : Nat} (ha : a < 18446744073709551616) (hb : b < 18446744073709551616) : bits .and .u64 (a : Int) (b : Int) = ((a &&& b : Nat) : Int) := by
  show IntKind.u64.wrap ((BitVec.ofInt 64 (a : Int) &&& BitVec.ofInt 64 (b : Int)).toNat : Int) = _
  rw [BitVec.toNat_and, ofInt_nat ha, ofInt_nat hb]
  exact wrap_nat (Nat.lt_of_le_of_lt Nat.and_le_left ha)

theorem or_lt {a b : Nat} (ha : a < 18446744073709551616) (hb : b < 18446744073709551616) : a ||| b < 18446744073709551616 := Nat.or_lt_two_pow (n := 64) ha hb
theorem and_lt {a b : Nat} (ha : a < 18446744073709551616) : a &&& b < 18446744073709551616 := Nat.lt_of_le_of_lt Nat.and_le_left ha
theorem pow_lt {n : Nat} (h : n < 64) : 2 ^ n < 18446744073709551616 := Nat.pow_lt_pow_right (a := 2) (m := n) (n := 64) (by omega) h

theorem wrap_pow {n : Nat} (h : n < 64) : IntKind.u64.wrap ((2 : Int) ^ n) = ((2 ^ n : Nat) : Int) := by
  have e : ((2 : Int) ^ n) = ((2 ^ n : Nat) : Int) := by simp
  rw [e]; exact wrap_nat (pow_lt h)

/-- 'm>>n & 1 == 1' -/
theorem has_bit {m n : Nat} (hm : m < 18446744073709551616) : (bits .and .u64 ((m : Int) / 2 ^ n) 1 == 1) = m.testBit n := by
  have e : ((m : Int) / 2 ^ n) = ((m / 2 ^ n : Nat) : Int) := by simp
  have h := bits_and (a := m / 2 ^ n) (b := 1) (Nat.lt_of_le_of_lt (Nat.div_le_self _ _) hm) (by omega)
  rw [e, show (1 : Int) = ((1 : Nat) : Int) from rfl, h, Nat.and_one_is_mod, Nat.testBit_eq_decide_div_mod_eq]
  rw [Bool.eq_iff_iff]
  simp
  omega
end Go.Proofs.YtchceegpbfecaaaDoor

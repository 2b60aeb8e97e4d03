/-
  math/bits.OnesCount64 and mask.Len compute how many numbers a mask has.
-/
import Derived.Test.YtndfckpcbiecnaaPop
namespace Go.Proofs.Ytndfckpcbiecnaa
open Go.RowKit
set_option linter.unusedVariables false

theorem bytes_lits : bytesM 0x55 8 = 6148914691236517205 ∧ bytesM 0x33 8 = 3689348814741910323 ∧ bytesM 0x0f 8 = 1085102592571150095 := by decide
theorem and_le2 (x c : Nat) : x &&& c ≤ c := Nat.and_le_right
theorem pop_e1 (x : Nat) (hx : x < 18446744073709551616) : IntKind.u64.wrap (bits .and .u64 ((x : Int) / 2) 6148914691236517205 + bits .and .u64 (x : Int) 6148914691236517205) = ((sw1 8 x : Nat) : Int) := by
  have e : ((x : Int) / 2) = ((x / 2 : Nat) : Int) := by simp
  have h1 := bits_and (a := x / 2) (b := 6148914691236517205) (by omega) (by omega)
  have h2 := bits_and (a := x) (b := 6148914691236517205) hx (by omega)
  have l1 := and_le2 (x / 2) 6148914691236517205
  have l2 := and_le2 x 6148914691236517205
  rw [e, show (6148914691236517205 : Int) = ((6148914691236517205 : Nat) : Int) from rfl, h1, h2, ← Int.natCast_add, wrap_nat (by omega), sw1, bytes_lits.1]
theorem pop_e2 (x : Nat) (hx : x < 18446744073709551616) : IntKind.u64.wrap (bits .and .u64 ((x : Int) / 4) 3689348814741910323 + bits .and .u64 (x : Int) 3689348814741910323) = ((sw2 8 x : Nat) : Int) := by
  have e : ((x : Int) / 4) = ((x / 4 : Nat) : Int) := by simp
  have h1 := bits_and (a := x / 4) (b := 3689348814741910323) (by omega) (by omega)
  have h2 := bits_and (a := x) (b := 3689348814741910323) hx (by omega)
  have l1 := and_le2 (x / 4) 3689348814741910323
  have l2 := and_le2 x 3689348814741910323
  rw [e, show (3689348814741910323 : Int) = ((3689348814741910323 : Nat) : Int) from rfl, h1, h2, ← Int.natCast_add, wrap_nat (by omega), sw2, bytes_lits.2.1]
theorem pop_e3 (x : Nat) (hx : x ≤ 7378697629483820646) : bits .and .u64 (IntKind.u64.wrap ((x : Int) / 16 + (x : Int))) 1085102592571150095 = ((sw3 8 x : Nat) : Int) := by
  have e : ((x : Int) / 16) = ((x / 16 : Nat) : Int) := by simp
  have h1 := bits_and (a := x / 16 + x) (b := 1085102592571150095) (by omega) (by omega)
  rw [e, ← Int.natCast_add, wrap_nat (by omega), show (1085102592571150095 : Int) = ((1085102592571150095 : Nat) : Int) from rfl, h1, sw3, bytes_lits.2.2]
theorem pop_e4 (x k : Nat) (c : Int) (hc : c = (k : Int)) (hx : x ≤ 9223372036854775807) : IntKind.u64.wrap ((x : Int) + (x : Int) / c) = ((x + x / k : Nat) : Int) := by
  subst hc
  have e : ((x : Int) / (k : Int)) = ((x / k : Nat) : Int) := by simp
  have : x / k ≤ x := Nat.div_le_self _ _
  rw [e, ← Int.natCast_add, wrap_nat (by omega)]
theorem pop_e7 (x : Nat) (hx : x ≤ 9223372036854775807) : bits .and .i64 (x : Int) 127 = ((x % 128 : Nat) : Int) := by
  show IntKind.i64.wrap ((BitVec.ofInt 64 (x : Int) &&& BitVec.ofInt 64 (127 : Int)).toNat : Int) = _
  rw [BitVec.toNat_and, ofInt_nat (by omega), show (127 : Int) = ((127 : Nat) : Int) from rfl, ofInt_nat (by omega), show (127 : Nat) = 2 ^ 7 - 1 from rfl, Nat.and_two_pow_sub_one_eq_mod]
  exact IntWalk.i64_in _ (by omega)

/-- a mask's numbers, rising -/
def listM (m : Nat) (n : Nat) : List Int := ((List.range n).filter m.testBit).map Int.ofNat
theorem listM_snoc (m n : Nat) : listM m (n + 1) = if m.testBit n then listM m n ++ [(n : Int)] else listM m n := by
  unfold listM
  rw [List.range_succ, List.filter_append, List.map_append]
  by_cases h : m.testBit n <;> simp [h]
theorem popAux_snoc (n m : Nat) : Lib.popAux (n + 1) m = Lib.popAux n m + (if m.testBit n then 1 else 0) := by
  rw [popAux_add n 1 m, Lib.popAux, Lib.popAux, Nat.testBit_eq_decide_div_mod_eq]
  simp
  split <;> omega
theorem listM_len (m : Nat) : ∀ n, (listM m n).length = Lib.popAux n m
  | 0 => rfl
  | n + 1 => by
    rw [listM_snoc, popAux_snoc, ← listM_len m n]
    by_cases h : m.testBit n <;> simp [h]
end Go.Proofs.Ytndfckpcbiecnaa

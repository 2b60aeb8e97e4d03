/-
  What math/bits.TrailingZeros64 computes where its table is laid; mask.Least and mask.Next.
-/
import Derived.Test.YtchceegpbfecaaaDoorMaskRSpan
import Derived.Lib.TrailingZeros
namespace Go.Proofs.YtchceegpbfecaaaDoor
open Go.RowKit
set_option linter.unusedVariables false

/-- the table of math/bits lies as its text lays it -/
def Tab (w : World) : Prop := 0 < w.heap.size ∧ ∀ i, i < 64 → w.cell? ⟨0, i, none⟩ = some (.int .u8 ((Lib.deBruijn64tab.getD i 0 : Nat) : Int))
theorem Tab.below {w w' : World} {B : Nat} (h : Tab w) (hb : Below B w w') (hB : 0 < B) : Tab w' :=
  ⟨Nat.lt_of_lt_of_le h.1 hb.size, fun i hi => (hb.cell (p := ⟨0, i, none⟩) hB).trans (h.2 i hi)⟩
theorem Tab.later {w w' : World} (h : Tab w) (hb : Below w.heap.size w w') : Tab w' := h.below hb h.1

/-- the least bit of x -/
def lsb (x : Nat) : Nat := Lib.ctz 64 x
theorem lsb_spec {x : Nat} (h0 : x ≠ 0) (hx : x < 18446744073709551616) : lsb x < 64 ∧ x.testBit (lsb x) = true ∧ ∀ i, i < lsb x → x.testBit i = false := by
  obtain ⟨m, hm, hk⟩ := Lib.ctzFrom_spec 64 x (by omega) hx
  have e : lsb x = Lib.ctzFrom 64 x := by simp [lsb, Lib.ctz, h0]
  rw [e]
  obtain ⟨k, hk2⟩ : ∃ k, Lib.ctzFrom 64 x = k := ⟨_, rfl⟩
  rw [hk2] at hm hk ⊢
  subst hm
  refine ⟨hk, ?_, fun i hi => ?_⟩
  · rw [Nat.mul_comm, Nat.testBit_mul_two_pow]; simp
  · rw [Nat.mul_comm, Nat.testBit_mul_two_pow]; simp; omega

set_option maxHeartbeats 800000 in
theorem Tz_any (x : Nat) (w : World) (h0 : x ≠ 0) (hx : x < 18446744073709551616) (hT : Tab w) :
    Calls Tryd.prog 29 #[.int .u64 x] w fun e w' => e = .returned (.int .i64 (lsb x)) ∧ w = w' := by
  obtain ⟨hl, hk⟩ := Lib.lowest_bit 64 x h0 hx
  have hk64 : lsb x < 64 := hk
  obtain ⟨hd1, hd2⟩ := Lib.deBruijn64_at _ hk
  obtain ⟨q, hq⟩ : ∃ q, 2 ^ Lib.ctz 64 x * 285870213051353865 % 18446744073709551616 / 288230376151711744 = q := ⟨_, rfl⟩
  rw [hq] at hd1 hd2
  have hcell := hT.2 q hd1
  rw [hd2] at hcell
  have hz : ((x : Int) == 0) = false := by simp; omega
  have hneg : IntKind.u64.wrap (-(x : Int)) = ((18446744073709551616 - x : Nat) : Int) := by rw [IntKind.wrap_u64]; omega
  have hand := bits_and hx (b := 18446744073709551616 - x) (by omega)
  have hidx : IntKind.u64.wrap (bits .and .u64 (x : Int) (IntKind.u64.wrap (-(x : Int))) * 285870213051353865) / 288230376151711744 = (q : Int) := by
    rw [hneg, hand, show (18446744073709551616 : Nat) - x = 2 ^ 64 - x from rfl, hl, IntKind.wrap_u64, ← hq]
    generalize 2 ^ Lib.ctz 64 x = y
    omega
  have hk2 : Lib.ctz 64 x < 64 := hk
  clear hneg hand hl hd2 hq hT hk h0
  go_enter Tryd.func29, Tryd.ntmps29
  go_wp2
  go_ret
  exact ⟨rfl, rfl⟩

/-- the least bit, as Go answers it -/
def leastI (m : Nat) : Int := if m = 0 then 0 else (lsb m : Int)
def leastB (m : Nat) : Bool := decide (m ≠ 0)

set_option maxHeartbeats 400000 in
theorem Least_any (m : Nat) (w : World) (hm : m < 18446744073709551616) (hT : Tab w) :
    Calls Tryd.prog 23 #[.int .u64 m] w fun e w' => e = .returned (.tuple #[.int .i64 (leastI m), .bool (leastB m)]) ∧ w = w' := by
  by_cases h0 : m = 0
  · subst h0
    go_enter Tryd.func23, Tryd.ntmps23
    go_wp2
    go_ret2
    exact ⟨rfl, rfl⟩
  · have h1 : Hid (leastI m = (lsb m : Int)) := if_neg h0
    have h2 : Hid (leastB m = true) := by show leastB m = true; simp [leastB, h0]
    have hz : ((m : Int) == 0) = false := by simp; omega
    have Hc := hid (Tz_any m w h0 hm hT)
    clear h0
    go_enter Tryd.func23, Tryd.ntmps23
    go_wp2_with (go_at_call 29; refine Hc.out.mono ?_; rintro e w' ⟨rfl, rfl⟩)
    go_ret2
    rw [h1.out, h2.out]
    exact ⟨rfl, rfl⟩

/-- the bits of m from n on -/
def fromM (m n : Nat) : Nat := m / 2 ^ n * 2 ^ n
theorem fromM_lt {m n : Nat} (hm : m < 18446744073709551616) : fromM m n < 18446744073709551616 := Nat.lt_of_le_of_lt (Nat.div_mul_le_self _ _) hm
theorem fromM_test (m n i : Nat) : (fromM m n).testBit i = (decide (n ≤ i) && m.testBit i) := by
  rw [fromM, Nat.testBit_mul_two_pow, Nat.testBit_div_two_pow]
  by_cases h : n ≤ i
  · simp [h]
  · simp [h]

/-- what is left of m above n -/
def aboveM (m : Nat) (n : Int) : Nat := if n < 0 then m else if 63 ≤ n then 0 else fromM m (n.toNat + 1)
theorem aboveM_lt {m : Nat} {n : Int} (hm : m < 18446744073709551616) : aboveM m n < 18446744073709551616 := by
  unfold aboveM; split
  · exact hm
  · split
    · omega
    · exact fromM_lt hm
theorem aboveM_test {m : Nat} (n : Int) (i : Nat) (hm : m < 18446744073709551616) : (aboveM m n).testBit i = (decide (n < (i : Int)) && m.testBit i) := by
  unfold aboveM; split
  · simp; omega
  · split
    · by_cases h : 64 ≤ i
      · rw [test_big hm h]; simp
      · simp; omega
    · rw [fromM_test]
      congr 1
      simp; omega

set_option maxHeartbeats 400000 in
theorem Next_any (m : Nat) (n : Int) (w : World) (hm : m < 18446744073709551616) (hT : Tab w) :
    Calls Tryd.prog 32 #[.int .u64 m, .int .i64 n] w fun e w' => e = .returned (.tuple #[.int .i64 (leastI (aboveM m n)), .bool (leastB (aboveM m n))]) ∧ w = w' := by
  by_cases h0 : n < 0
  · have h1 : Hid (aboveM m n = m) := if_pos h0
    rw [h1.out]
    have Hc := hid (Least_any m w hm hT)
    go_enter Tryd.func32, Tryd.ntmps32
    go_wp2_with (go_at_call 23; refine Hc.out.mono ?_; rintro e w' ⟨rfl, rfl⟩)
    go_ret2
    exact ⟨rfl, rfl⟩
  by_cases h1 : 63 ≤ n
  · have h2 : Hid (aboveM m n = 0) := by show aboveM m n = 0; rw [aboveM, if_neg h0, if_pos h1]
    rw [h2.out]
    go_enter Tryd.func32, Tryd.ntmps32
    go_wp2
    go_ret2
    exact ⟨rfl, rfl⟩
  · obtain ⟨k, rfl⟩ := Int.eq_ofNat_of_zero_le (by omega : 0 ≤ n)
    have h2 : aboveM m (k : Int) = fromM m (k + 1) := by rw [aboveM, if_neg h0, if_neg h1]; rfl
    rw [h2]
    have Hc := hid (Least_any (fromM m (k + 1)) w (fromM_lt hm) hT)
    have hw : IntKind.u64.wrap ((m : Int) / 2 ^ (k + 1) * 2 ^ (k + 1)) = ((fromM m (k + 1) : Nat) : Int) := by
      have e : ((m : Int) / 2 ^ (k + 1) * 2 ^ (k + 1)) = ((fromM m (k + 1) : Nat) : Int) := by simp [fromM]
      rw [e]; exact wrap_nat (fromM_lt hm)
    clear h2
    go_enter Tryd.func32, Tryd.ntmps32
    go_wp2_with fail
    refine Hc.out.mono ?_
    rintro e w' ⟨rfl, rfl⟩
    go_wp2
    go_ret2
    exact ⟨rfl, rfl⟩

theorem bits_andNot {a b : Nat} (ha : a < 18446744073709551616) (hb : b < 18446744073709551616) : bits .andNot .u64 (a : Int) (b : Int) = ((mk (fun k => a.testBit k && !b.testBit k) : Nat) : Int) := by
  show IntKind.u64.wrap ((BitVec.ofInt 64 (a : Int) &&& ~~~BitVec.ofInt 64 (b : Int)).toNat : Int) = _
  have hl : (BitVec.ofInt 64 (a : Int) &&& ~~~BitVec.ofInt 64 (b : Int)).toNat < 18446744073709551616 := BitVec.isLt _
  rw [wrap_nat hl]
  congr 1
  refine eq_mk hl (fun i hi => ?_)
  rw [BitVec.testBit_toNat, BitVec.getLsbD_and, BitVec.getLsbD_not, ← BitVec.testBit_toNat, ← BitVec.testBit_toNat, ofInt_nat ha, ofInt_nat hb]
  simp [hi]

end Go.Proofs.YtchceegpbfecaaaDoor

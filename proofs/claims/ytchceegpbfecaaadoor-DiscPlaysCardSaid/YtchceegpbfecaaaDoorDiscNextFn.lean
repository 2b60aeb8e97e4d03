/-
  A disc's Next.
-/
import Derived.Test.YtchceegpbfecaaaDoorDiscLeast
namespace Go.Proofs.YtchceegpbfecaaaDoor
open Go.RowKit
set_option linter.unusedVariables false

/-- the words from a second on -/
def fromW (f : Nat → Nat) (s j : Nat) : Nat := mk (fun t => (f j).testBit t && decide (s ≤ 64 * j + t))
theorem fromW_lt (f : Nat → Nat) (s j : Nat) : fromW f s j < 18446744073709551616 := mk_lt _
theorem fromW_low (f : Nat → Nat) (s j : Nat) (h : j < s / 64) : fromW f s j = 0 := by
  rw [fromW, ← mk_false]
  exact mk_congr fun k hk => by rw [decide_eq_false (by omega), Bool.and_false]
theorem fromW_high (f : Nat → Nat) (s j : Nat) (h : s / 64 < j) (hf : f j < 18446744073709551616) : fromW f s j = f j := by
  refine (eq_mk hf fun k hk => ?_).symm
  rw [decide_eq_true (by omega), Bool.and_true]
theorem fromW_bit (f : Nat → Nat) (s k : Nat) : bitW (fromW f s) k = (bitW f k && decide (s ≤ k)) := by
  rw [bitW, fromW, mk_test, bitW, decide_eq_true (Nat.mod_lt _ (by omega)), Bool.true_and]
  have : 64 * (k / 64) + k % 64 = k := Nat.div_add_mod k 64
  rw [this]
theorem fromW_at (f : Nat → Nat) (s : Nat) (hf : f (s / 64) < 18446744073709551616) : fromW f s (s / 64) = f (s / 64) / 2 ^ (s % 64) * 2 ^ (s % 64) := by
  have h1 : f (s / 64) / 2 ^ (s % 64) * 2 ^ (s % 64) ≤ f (s / 64) := Nat.div_mul_le_self _ _
  refine (eq_mk (by omega) fun k hk => ?_).symm
  rw [← Nat.shiftRight_eq_div_pow, ← Nat.shiftLeft_eq, Nat.testBit_shiftLeft, Nat.testBit_shiftRight]
  by_cases h : s % 64 ≤ k
  · rw [show s % 64 + (k - s % 64) = k by omega, decide_eq_true (show k ≥ s % 64 from h), decide_eq_true (show s ≤ 64 * (s / 64) + k by omega), Bool.true_and, Bool.and_true]
  · rw [decide_eq_false (show ¬ k ≥ s % 64 from h), decide_eq_false (show ¬ s ≤ 64 * (s / 64) + k by omega), Bool.false_and, Bool.and_false]
set_option maxRecDepth 100000 in
set_option maxHeartbeats 3200000 in
theorem DcNext_any (b : Nat) (q : Nat → Bool) (s : Nat) (w : World) (hs : s < 86400) (hT : Tab w) (hd : DiscAt w b q) :
    Calls Tryd.prog 16 #[.pointer (some ⟨b, 0, none⟩), .int .i64 s] w fun r w' => (∃ n ok, r = .returned (.tuple #[.int .i64 n, .bool ok]) ∧ FirstOf (fun k => q k && decide (s ≤ k)) n ok) ∧ w = w' := by
  obtain ⟨f, f1, f2, f3, f4, f5⟩ := hd
  have c1 := hid (DMay_any (s : Int) w)
  rw [dsecB_nat, decide_eq_true hs] at c1
  have c2 := hid (fun m hm => Least_any m w hm hT)
  have HC := hid f1
  have Hf := hid f3
  have hlt := hid (fun j => fromW_lt f s j)
  have hlow := hid (fun j h => fromW_low f s j h)
  have hhigh := hid (fun j h hf => fromW_high f s j h hf)
  have hsh : Hid (IntKind.u64.wrap ((f (s / 64) : Int) / 2 ^ (s % 64) * 2 ^ (s % 64)) = ((fromW f s (s / 64) : Nat) : Int)) := by
    show _ = _
    have h1 : f (s / 64) / 2 ^ (s % 64) * 2 ^ (s % 64) ≤ f (s / 64) := Nat.div_mul_le_self _ _
    have h2 := f3 (s / 64) (by omega)
    have e : ((f (s / 64) : Int) / 2 ^ (s % 64) * 2 ^ (s % 64)) = ((f (s / 64) / 2 ^ (s % 64) * 2 ^ (s % 64) : Nat) : Int) := by simp
    rw [e, wrap_nat (by omega), fromW_at f s h2]
  have hbit : Hid (∀ k, k < 86400 → bitW (fromW f s) k = (q k && decide (s ≤ k))) := fun k hk => by rw [fromW_bit, f4 k hk]
  have hsI : (s : Int) < 87000 := by omega
  have hi : s / 64 < 1350 := by omega
  have e1 := f1 (s / 64) hi
  have hs0 : (0 : Int) ≤ s := by omega
  have hmx : max (s : Int) 0 = s := by omega
  clear hs f1 f2 f3 f4 f5 hT
  go_enter Tryd.func16, Tryd.ntmps16
  go_wp2_with fail
  refine c1.out.mono ?_
  rintro e w' ⟨rfl, rfl⟩
  go_wp2_with fail
  rw [hsh.out]
  clear hsh e1
  go_loopw [6, 7] (fun m i wr => ∃ k : Nat, i = .int .i64 k ∧ m = .int .u64 (fromW f s k : Nat) ∧ Hid (s / 64 ≤ k) ∧ k < 1350 ∧ Hid (∀ j, j < k → fromW f s j = 0) ∧ wr = w) (fun _ i _ => 1350 - (intOf i).toNat)
  case atStart => exact ⟨s / 64, by simp, rfl, Nat.le_refl _, hi, hlow.out, rfl⟩
  case round =>
    obtain ⟨k, rfl, rfl, hsk, hk2, hz, rfl⟩ := hrel
    have d4 := hid (c2.out _ (hlt.out k))
    have hfw := hid (first_word (fromW f s) k hk2 hz.out (hlt.out k))
    obtain ⟨b1, b2⟩ := leastI_bdD (hlt.out k)
    have hb0 : Hid (leastB (fromW f s k) = false → fromW f s k = 0) := fun h => by simpa [leastB] using h
    obtain ⟨L, hL⟩ : ∃ L, leastI (fromW f s k) = L := ⟨_, rfl⟩
    rw [hL] at d4 hfw b1 b2
    clear hL
    cases hB : leastB (fromW f s k)
    · rw [hB] at d4
      have hz2 : Hid (∀ j, j < k + 1 → fromW f s j = 0) := fun j hj => by
        by_cases e : j = k
        · rw [e]; exact hb0.out hB
        · exact hz.out j (by omega)
      clear hB
      by_cases hlast : k + 1 = 1350
      · have hbq : Hid (((k : Int) + 1 == 1350) = true) := by show _ = _; simp; omega
        have hz3 : Hid (FirstOf (bitW (fromW f s)) 0 false) := first_none _ (fun j hj => hz2.out j (by omega))
        have hbq' := hbq.out
        clear hlast
        go_wp2_with fail
        refine d4.out.mono ?_
        rintro e w' ⟨rfl, rfl⟩
        go_wp2
        go_ret2
        exact ⟨⟨_, _, rfl, hz3.out.congr hbit.out⟩, rfl⟩
      · have hk3 : k + 1 < 1350 := by omega
        have hbq : ((k : Int) + 1 == 1350) = false := by simp; omega
        have e5 := HC.out (k + 1) hk3
        have e6 := hhigh.out (k + 1) (by have := hsk.out; omega) (Hf.out _ hk3)
        rw [← e6] at e5
        have hsk2 : Hid (s / 64 ≤ k + 1) := Nat.le_succ_of_le hsk.out
        clear hlast e6
        go_wp2_with fail
        refine d4.out.mono ?_
        rintro e w' ⟨rfl, rfl⟩
        go_wp2
        exact ⟨⟨k + 1, by go_num, rfl, hsk2.out, hk3, hz2.out, by trivial⟩, by simp [intOf]; omega⟩
    · rw [hB] at d4
      have hr := hid (hfw.out hB)
      clear hB
      go_wp2_with fail
      refine d4.out.mono ?_
      rintro e w' ⟨rfl, rfl⟩
      go_wp2
      go_ret2
      exact ⟨⟨_, _, rfl, hr.out.congr hbit.out⟩, rfl⟩
end Go.Proofs.YtchceegpbfecaaaDoor

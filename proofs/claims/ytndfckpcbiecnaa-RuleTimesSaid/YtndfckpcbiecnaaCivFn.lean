/-
  What the small functions of num, civil, feriaref01 and feriaref05 compute, of the window's years.
-/
import Derived.Test.YtndfckpcbiecnaaCivLaw
namespace Go.Proofs.Ytndfckpcbiecnaa
open Go.RowKit
set_option linter.unusedVariables false

theorem Floor_pos (a b : Int) (w : World) (ha : 0 ≤ a) (hb : 1 ≤ b) (ha2 : a ≤ 9223372036854775807) : Calls Try.prog 164 #[.int .i64 a, .int .i64 b] w fun e w' => e = .returned (.int .i64 (a / b)) ∧ w = w' := by
  have h1 : ¬ b < 1 := by omega
  have h2 : ¬ a % b < 0 := by have := Int.emod_nonneg a (show b ≠ 0 by omega); omega
  have h3 : a / b ≤ a := Int.ediv_le_self b ha
  have h4 : 0 ≤ a / b := Int.ediv_nonneg ha (by omega)
  go_enter Try.func164, Try.ntmps164
  go_wp2
  go_ret
  exact ⟨rfl, rfl⟩
theorem RFloor_pos (a b : Int) (w : World) (ha : 0 ≤ a) (hb : 1 ≤ b) (ha2 : a ≤ 9223372036854775807) : Calls Try.prog 148 #[.int .i64 a, .int .i64 b] w fun e w' => e = .returned (.int .i64 (a / b)) ∧ w = w' := by
  have h1 : ¬ b < 1 := by omega
  have h2 : ¬ a % b < 0 := by have := Int.emod_nonneg a (show b ≠ 0 by omega); omega
  have h3 : a / b ≤ a := Int.ediv_le_self b ha
  have h4 : 0 ≤ a / b := Int.ediv_nonneg ha (by omega)
  go_enter Try.func148, Try.ntmps148
  go_wp2
  go_ret
  exact ⟨rfl, rfl⟩
theorem Mod_pos (a b : Int) (w : World) (ha : 0 ≤ a) (hb : 1 ≤ b) : Calls Try.prog 156 #[.int .i64 a, .int .i64 b] w fun e w' => e = .returned (.int .i64 (a % b)) ∧ w = w' := by
  have h1 : ¬ b < 1 := by omega
  have h2 : ¬ a % b < 0 := by have := Int.emod_nonneg a (show b ≠ 0 by omega); omega
  go_enter Try.func156, Try.ntmps156
  go_wp2
  go_ret
  exact ⟨rfl, rfl⟩
theorem RMod_pos (a b : Int) (w : World) (ha : 0 ≤ a) (hb : 1 ≤ b) (ha2 : a ≤ 9223372036854775807) : Calls Try.prog 150 #[.int .i64 a, .int .i64 b] w fun e w' => e = .returned (.int .i64 (a % b)) ∧ w = w' := by
  have c1 := hid (RFloor_pos a b w ha hb ha2)
  have h1 : ¬ b < 1 := by omega
  have h3 : b * (a / b) ≤ a := Int.mul_ediv_self_le (by omega)
  have h4 : 0 ≤ b * (a / b) := Int.mul_nonneg (by omega) (Int.ediv_nonneg ha (by omega))
  have h5 : Hid (a - b * (a / b) = a % b) := by show _ = _; rw [Int.emod_def]
  obtain ⟨q, hq⟩ : ∃ q, a / b = q := ⟨_, rfl⟩
  rw [hq] at c1 h3 h4 h5
  clear hq
  go_enter Try.func150, Try.ntmps150
  go_wp2_with fail
  refine c1.out.mono ?_
  rintro e w' ⟨rfl, rfl⟩
  go_wp2
  go_ret
  rw [← h5.out]
  exact ⟨rfl, rfl⟩

theorem Leap_any (y : Int) (w : World) (h0 : 0 ≤ y) : Calls Try.prog 166 #[.int .i64 y] w fun e w' => e = .returned (.bool (leapB y)) ∧ w = w' := by
  by_cases h4 : y % 4 = 0
  · by_cases h100 : y % 100 = 0
    · by_cases h400 : y % 400 = 0
      · have hr : Hid (leapB y = true) := decide_eq_true (by omega)
        go_enter Try.func166, Try.ntmps166
        go_wp2
        go_ret
        exact ⟨by rw [hr.out]; rfl, rfl⟩
      · have hr : Hid (leapB y = false) := decide_eq_false (by omega)
        have hb : (y % 400 == 0) = false := by simpa using h400
        go_enter Try.func166, Try.ntmps166
        go_wp2
        go_ret
        exact ⟨by rw [hr.out]; rfl, rfl⟩
    · have hr : Hid (leapB y = true) := decide_eq_true (by omega)
      have hb : (y % 100 == 0) = false := by simpa using h100
      have hb2 : (y % 100 != 0) = true := by simpa using h100
      go_enter Try.func166, Try.ntmps166
      go_wp2
      go_ret
      exact ⟨by rw [hr.out]; rfl, rfl⟩
  · have hr : Hid (leapB y = false) := decide_eq_false (by omega)
    have hb : (y % 4 == 0) = false := by simpa using h4
    go_enter Try.func166, Try.ntmps166
    go_wp2
    go_ret
    exact ⟨by rw [hr.out]; rfl, rfl⟩
theorem RLeap_any (y : Int) (w : World) (h0 : 0 ≤ y) : Calls Try.prog 149 #[.int .i64 y] w fun e w' => e = .returned (.bool (leapB y)) ∧ w = w' := by
  by_cases h400 : y % 400 = 0
  · have hr : Hid (leapB y = true) := decide_eq_true (by omega)
    go_enter Try.func149, Try.ntmps149
    go_wp2
    go_ret
    exact ⟨by rw [hr.out]; rfl, rfl⟩
  · have hb4 : (y % 400 == 0) = false := by simpa using h400
    by_cases h4 : y % 4 = 0
    · by_cases h100 : y % 100 = 0
      · have hr : Hid (leapB y = false) := decide_eq_false (by omega)
        go_enter Try.func149, Try.ntmps149
        go_wp2
        go_ret
        exact ⟨by rw [hr.out]; rfl, rfl⟩
      · have hr : Hid (leapB y = true) := decide_eq_true (by omega)
        have hb : (y % 100 == 0) = false := by simpa using h100
        have hb2 : (y % 100 != 0) = true := by simpa using h100
        go_enter Try.func149, Try.ntmps149
        go_wp2
        go_ret
        exact ⟨by rw [hr.out]; rfl, rfl⟩
    · have hr : Hid (leapB y = false) := decide_eq_false (by omega)
      have hb : (y % 4 == 0) = false := by simpa using h4
      go_enter Try.func149, Try.ntmps149
      go_wp2
      go_ret
      exact ⟨by rw [hr.out]; rfl, rfl⟩

theorem twelve {m : Int} (h1 : 1 ≤ m) (h2 : m ≤ 12) : m = 1 ∨ m = 2 ∨ m = 3 ∨ m = 4 ∨ m = 5 ∨ m = 6 ∨ m = 7 ∨ m = 8 ∨ m = 9 ∨ m = 10 ∨ m = 11 ∨ m = 12 := by omega
set_option maxHeartbeats 1600000 in
theorem Length_any (y m : Int) (w : World) (h0 : 0 ≤ y) (h1 : 1 ≤ m) (h2 : m ≤ 12) : Calls Try.prog 160 #[.int .i64 y, .int .i64 m] w fun e w' => e = .returned (.int .i64 (lenI y m)) ∧ Below w.heap.size w w' := by
  have c1 := hid (fun W => Leap_any y W h0)
  have hl := leapB_I y
  rcases twelve h1 h2 with rfl | rfl | rfl | rfl | rfl | rfl | rfl | rfl | rfl | rfl | rfl | rfl
  case inr.inl =>
    clear h0 h1 h2
    rcases hl with ⟨e1, e2⟩ | ⟨e1, e2⟩
    all_goals
      have hr : lenI y 2 = 28 + leapI y := by simp [lenI]
      rw [e2] at hr
      rw [e1] at c1
      have Hr := hid hr
      clear e1 e2 hr
      go_enter Try.func160, Try.ntmps160
      go_wp2_with fail
      refine (c1.out _).mono ?_
      rintro e w' ⟨rfl, rfl⟩
      go_wp2
      go_ret
      exact ⟨by rw [Hr.out]; rfl, below_new (Below.refl _ _) (Nat.le_refl _)⟩
  all_goals
    clear h0 h1 h2 hl
    go_enter Try.func160, Try.ntmps160
    go_wp2
    go_ret
    exact ⟨by simp [lenI], below_new (Below.refl _ _) (Nat.le_refl _)⟩
set_option maxHeartbeats 1600000 in
theorem RLength_any (y m : Int) (w : World) (h0 : 0 ≤ y) (h1 : 1 ≤ m) (h2 : m ≤ 12) : Calls Try.prog 96 #[.int .i64 y, .int .i64 m] w fun e w' => e = .returned (.int .i64 (lenI y m)) ∧ w = w' := by
  have c1 := hid (fun W => RLeap_any y W h0)
  have hl := leapB_I y
  rcases twelve h1 h2 with rfl | rfl | rfl | rfl | rfl | rfl | rfl | rfl | rfl | rfl | rfl | rfl
  case inr.inl =>
    clear h0 h1 h2
    rcases hl with ⟨e1, e2⟩ | ⟨e1, e2⟩
    all_goals
      have hr : lenI y 2 = 28 + leapI y := by simp [lenI]
      rw [e2] at hr
      rw [e1] at c1
      have Hr := hid hr
      clear e1 e2 hr
      go_enter Try.func96, Try.ntmps96
      go_wp2_with fail
      refine (c1.out _).mono ?_
      rintro e w' ⟨rfl, rfl⟩
      go_wp2
      go_ret
      exact ⟨by rw [Hr.out]; rfl, rfl⟩
  all_goals
    clear h0 h1 h2 hl
    go_enter Try.func96, Try.ntmps96
    go_wp2
    go_ret
    exact ⟨by simp [lenI], rfl⟩
theorem RYear_any (y : Int) (w : World) (h0 : 0 ≤ y) : Calls Try.prog 99 #[.int .i64 y] w fun e w' => e = .returned (.int .i64 (365 + leapI y)) ∧ w = w' := by
  have c1 := hid (fun W => RLeap_any y W h0)
  rcases leapB_I y with ⟨e1, e2⟩ | ⟨e1, e2⟩
  all_goals
    rw [e1] at c1
    rw [e2]
    clear e1 e2
    go_enter Try.func99, Try.ntmps99
    go_wp2_with fail
    refine (c1.out _).mono ?_
    rintro e w' ⟨rfl, rfl⟩
    go_wp2
    go_ret
    exact ⟨rfl, rfl⟩
theorem CMay_yes (y m d : Int) (w : World) (h0 : 0 ≤ y) (hy : y ≤ 3000) (h1 : 1 ≤ m) (h2 : m ≤ 12) (h3 : 1 ≤ d) (h4 : d ≤ lenI y m) : Calls Try.prog 165 #[.int .i64 y, .int .i64 m, .int .i64 d] w fun e w' => e = .returned (.bool true) ∧ Below w.heap.size w w' := by
  have c1 := hid (fun W => Length_any y m W h0 h1 h2)
  obtain ⟨l, hl⟩ : ∃ l, lenI y m = l := ⟨_, rfl⟩
  rw [hl] at c1 h4
  clear hl
  go_enter Try.func165, Try.ntmps165
  go_wp2_with fail
  refine (c1.out _).mono ?_
  rintro e w' ⟨rfl, hB⟩
  have HB := hid hB
  clear hB
  go_wp2
  go_ret
  exact ⟨ret_bool (by first | (simp; done) | (simp; omega)), HB.out⟩
end Go.Proofs.Ytndfckpcbiecnaa

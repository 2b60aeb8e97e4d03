/-
  The dates of the window's days, as plain arithmetic: by the program's formula, and by years and months one behind the other.
  What the small functions of num, civil, feriaref01 and feriaref05 compute, of the window's years.
-/
import Derived.Test.YtgiecadlliblpaaGreatBase
namespace Go.Proofs.YtgiecadlliblpaaGreat
open Go.RowKit
set_option linter.unusedVariables false

/-! ### years of 400 years -/
def cg (o : Nat) : Nat := o - o / 1460 + o / 36524 - o / 146096
def cst (k : Nat) : Nat := 365 * k + k / 4 - k / 100
def cen (k : Nat) : Nat := if k = 399 then 146097 else cst (k + 1)
theorem cg_step (o : Nat) : cg o ≤ cg (o + 1) := by unfold cg; omega
theorem cg_mono (a : Nat) : ∀ d, cg a ≤ cg (a + d)
  | 0 => Nat.le_refl _
  | d + 1 => Nat.le_trans (cg_mono a d) (cg_step (a + d))
theorem cg_ends : ∀ k, k < 400 → 365 * k ≤ cg (cst k) ∧ cg (cen k - 1) < 365 * (k + 1) := by decide +kernel
theorem cg_at (k o : Nat) (hk : k < 400) (h1 : cst k ≤ o) (h2 : o < cen k) : cg o / 365 = k := by
  obtain ⟨e1, e2⟩ := cg_ends k hk
  have m1 := cg_mono (cst k) (o - cst k)
  have m2 := cg_mono o (cen k - 1 - o)
  rw [show cst k + (o - cst k) = o by omega] at m1
  rw [show o + (cen k - 1 - o) = cen k - 1 by omega] at m2
  omega
theorem cst_find (o : Nat) : ∀ m, m < 400 → o < cen m → ∃ k, k < 400 ∧ cst k ≤ o ∧ o < cen k
  | 0, _, h => ⟨0, by omega, by simp [cst], h⟩
  | m + 1, hm, h => by
    by_cases h0 : cst (m + 1) ≤ o
    · exact ⟨m + 1, hm, h0, h⟩
    · refine cst_find o m (by omega) ?_
      unfold cen
      rw [if_neg (by omega)]; omega

/-! ### months -/
/-- is a year a leap year: 1 or 0 -/
def leapI (y : Int) : Int := y / 4 - (y - 1) / 4 - (y / 100 - (y - 1) / 100) + (y / 400 - (y - 1) / 400)
theorem leapI_bd (y : Int) : leapI y = 0 ∨ leapI y = 1 := by unfold leapI; omega
theorem leapI_iff (y : Int) : leapI y = 1 ↔ y % 4 = 0 ∧ (y % 100 ≠ 0 ∨ y % 400 = 0) := by unfold leapI; omega
def leapB (y : Int) : Bool := decide (y % 4 = 0 ∧ (y % 100 ≠ 0 ∨ y % 400 = 0))
theorem leapB_I (y : Int) : (leapB y = true ∧ leapI y = 1) ∨ (leapB y = false ∧ leapI y = 0) := by
  have h := leapI_iff y
  rcases leapI_bd y with h0 | h0
  · refine .inr ⟨decide_eq_false fun hh => ?_, h0⟩
    have := h.mpr hh; omega
  · exact .inl ⟨decide_eq_true (h.mp h0), h0⟩
/-- how many days a month has -/
def lenI (y m : Int) : Int := if m = 2 then 28 + leapI y else if m = 4 ∨ m = 6 ∨ m = 9 ∨ m = 11 then 30 else 31
/-- the days ahead of a month -/
def msI (y : Int) : Nat → Int
  | 0 => 0 | 1 => 0 | 2 => 31 | 3 => 59 + leapI y | 4 => 90 + leapI y | 5 => 120 + leapI y | 6 => 151 + leapI y | 7 => 181 + leapI y | 8 => 212 + leapI y | 9 => 243 + leapI y | 10 => 273 + leapI y | 11 => 304 + leapI y | _ => 334 + leapI y
/-- the days from 1970 ahead of a year -/
def ysI (y : Int) : Int := 365 * (y - 1970) + (y - 1) / 4 - (y - 1) / 100 + (y - 1) / 400 - 477
theorem ysI_next (y : Int) : ysI (y + 1) = ysI y + 365 + leapI y := by
  unfold ysI leapI; rw [show y + 1 - 1 = y by omega]; omega
theorem ysI_first : ysI 1970 = 0 := by decide
theorem msI_next (y : Int) (m : Nat) (h1 : 1 ≤ m) (h2 : m < 12) : msI y (m + 1) = msI y m + lenI y m := by
  have : m = 1 ∨ m = 2 ∨ m = 3 ∨ m = 4 ∨ m = 5 ∨ m = 6 ∨ m = 7 ∨ m = 8 ∨ m = 9 ∨ m = 10 ∨ m = 11 := by omega
  rcases this with rfl | rfl | rfl | rfl | rfl | rfl | rfl | rfl | rfl | rfl | rfl <;> simp [msI, lenI] <;> omega
theorem msI_last (y : Int) : msI y 12 + lenI y 12 = 365 + leapI y := by simp [msI, lenI]; omega
theorem lenI_bd (y m : Int) : 28 ≤ lenI y m ∧ lenI y m ≤ 31 := by
  have := leapI_bd y
  unfold lenI
  split
  · omega
  · split <;> omega

/-- y, m, d is the date of day n -/
structure IsDate (n y : Int) (m : Nat) (d : Int) : Prop where
  y0 : 1970 ≤ y
  y1 : y ≤ 2369
  m0 : 1 ≤ m
  m1 : m ≤ 12
  d0 : 1 ≤ d
  d1 : d ≤ lenI y m
  sum : ysI y + msI y m + d - 1 = n
theorem msI_bd {y : Int} {m : Nat} {d : Int} (h1 : 1 ≤ m) (h2 : m ≤ 12) (d0 : 1 ≤ d) (d1 : d ≤ lenI y m) : 0 ≤ msI y m + d - 1 ∧ msI y m + d - 1 < 365 + leapI y := by
  have hl := leapI_bd y
  have : m = 1 ∨ m = 2 ∨ m = 3 ∨ m = 4 ∨ m = 5 ∨ m = 6 ∨ m = 7 ∨ m = 8 ∨ m = 9 ∨ m = 10 ∨ m = 11 ∨ m = 12 := by omega
  rcases this with rfl | rfl | rfl | rfl | rfl | rfl | rfl | rfl | rfl | rfl | rfl | rfl <;> simp [msI, lenI] at d1 ⊢ <;> omega
theorem ysI_mono (y : Int) (d : Nat) : ysI y + 365 * d ≤ ysI (y + d) := by
  induction d with
  | zero => simp
  | succ d ih =>
    have := ysI_next (y + d)
    have hl := leapI_bd (y + d)
    rw [show y + ((d + 1 : Nat) : Int) = y + d + 1 by omega]; omega
theorem ysI_lt {y z : Int} (h : y < z) : ysI y + 365 + leapI y ≤ ysI z := by
  have := ysI_mono (y + 1) (z - (y + 1)).toNat
  have h2 := ysI_next y
  rw [show y + 1 + ((z - (y + 1)).toNat : Int) = z by omega] at this
  omega
theorem msI_lt {y : Int} {m k : Nat} (h1 : 1 ≤ m) (h : m < k) (h2 : k ≤ 12) : msI y m + lenI y m ≤ msI y k := by
  have hl := leapI_bd y
  rw [← msI_next y m h1 (by omega)]
  obtain ⟨d, rfl⟩ : ∃ d, k = m + 1 + d := ⟨k - (m + 1), by omega⟩
  induction d with
  | zero => exact Int.le_refl _
  | succ d ih =>
    have := ih (by omega) (by omega)
    have h3 := msI_next y (m + 1 + d) (by omega) (by omega)
    have h4 := lenI_bd y ((m + 1 + d : Nat) : Int)
    rw [show m + 1 + (d + 1) = m + 1 + d + 1 by omega, h3]; omega
theorem IsDate.unique {n y z : Int} {m k : Nat} {d e : Int} (h : IsDate n y m d) (g : IsDate n z k e) : y = z ∧ m = k ∧ d = e := by
  obtain ⟨_, _, a1, a2, a3, a4, a5⟩ := h
  obtain ⟨_, _, b1, b2, b3, b4, b5⟩ := g
  have u := msI_bd a1 a2 a3 a4
  have v := msI_bd b1 b2 b3 b4
  have hyz : y = z := by
    rcases Int.lt_trichotomy y z with h | h | h
    · have := ysI_lt h; omega
    · exact h
    · have := ysI_lt h; omega
  subst hyz
  have hmk : m = k := by
    rcases Nat.lt_trichotomy m k with h | h | h
    · have := msI_lt (y := y) a1 h b2; omega
    · exact h
    · have := msI_lt (y := y) b1 h a2; omega
  subst hmk
  exact ⟨rfl, rfl, by omega⟩

/-! ### the program's formula -/
def fN (n : Int) : Int := n + 719468
def fO (n : Int) : Int := fN n % 146097
def fK (n : Int) : Int := (fO n - fO n / 1460 + fO n / 36524 - fO n / 146096) / 365
def fL (n : Int) : Int := fO n - (fK n * 365 + fK n / 4 - fK n / 100)
def fM (n : Int) : Int := (5 * fL n + 2) / 153
def fD (n : Int) : Int := fL n - (153 * fM n + 2) / 5 + 1
def fMo (n : Int) : Int := (fM n + 2) % 12 + 1
def fY (n : Int) : Int := fN n / 146097 * 400 + fK n + (if fMo n ≤ 2 then 1 else 0)
theorem fK_spec (n : Int) : ∃ k : Nat, k < 400 ∧ fK n = k ∧ (cst k : Int) ≤ fO n ∧ fO n < cen k := by
  obtain ⟨o, ho⟩ : ∃ o : Nat, fO n = o := ⟨(fO n).toNat, by unfold fO; omega⟩
  have hlt : o < 146097 := by unfold fO at ho; omega
  obtain ⟨k, hk, h1, h2⟩ := cst_find o 399 (by omega) (by simpa [cen] using hlt)
  refine ⟨k, hk, ?_, by rw [ho]; omega, by rw [ho]; omega⟩
  have := cg_at k o hk h1 h2
  unfold fK
  rw [ho]
  unfold cg at this
  omega
theorem fDate (n : Int) (h0 : 0 ≤ n) (h1 : n < 146097) : ∃ m : Nat, fMo n = m ∧ IsDate n (fY n) m (fD n) ∧ 0 ≤ fK n ∧ fK n < 400 ∧ 0 ≤ fL n ∧ fL n < 366 := by
  obtain ⟨k, hk, eK, c1, c2⟩ := fK_spec n
  have hera : (fN n / 146097 = 4 ∧ fO n = n + 135080) ∨ (fN n / 146097 = 5 ∧ fO n = n - 11017) := by unfold fO fN; omega
  have hcst : (cst k : Int) = 365 * k + k / 4 - k / 100 := by unfold cst; omega
  have hcen : (cen k : Int) = if k = 399 then 146097 else 365 * (k + 1) + ((k : Int) + 1) / 4 - ((k : Int) + 1) / 100 := by
    unfold cen cst; split <;> omega
  have hL : fL n = fO n - (365 * k + (k : Int) / 4 - k / 100) := by unfold fL; rw [eK]; omega
  have hL0 : 0 ≤ fL n := by omega
  have hL1 : fL n < 366 := by split at hcen <;> omega
  obtain ⟨L, hLL⟩ : ∃ L, fL n = L := ⟨_, rfl⟩
  have hyear : ∀ e : Int, (e = 4 ∨ e = 5) → fN n / 146097 = e → (fN n / 146097 * 400 + fK n) = 400 * e + k := by intro e _ h; rw [h, eK]; omega
  obtain ⟨e, he, hfe, hoe⟩ : ∃ e : Int, (e = 4 ∨ e = 5) ∧ fN n / 146097 = e ∧ fO n = n + 719468 - 146097 * e := by
    rcases hera with ⟨a, b⟩ | ⟨a, b⟩
    · exact ⟨4, .inl rfl, a, by omega⟩
    · exact ⟨5, .inr rfl, a, by omega⟩
  have hmp : fM n = (5 * L + 2) / 153 := by unfold fM; rw [hLL]
  obtain ⟨M, hM⟩ : ∃ M, fM n = M := ⟨_, rfl⟩
  have hMb : 0 ≤ M ∧ M ≤ 11 := by omega
  have hD : fD n = L - (153 * M + 2) / 5 + 1 := by unfold fD; rw [hLL, hM]
  have hMo : fMo n = (M + 2) % 12 + 1 := by unfold fMo; rw [hM]
  have hY : fY n = 400 * e + k + (if (M + 2) % 12 + 1 ≤ 2 then 1 else 0) := by unfold fY; rw [hMo, hfe, eK]; split <;> omega
  rw [hLL] at hL hL0 hL1
  rw [hM] at hmp
  rw [hoe] at hL c1 c2
  rw [hcst] at c1
  rw [hcen] at c2
  have fin : 0 ≤ fK n ∧ fK n < 400 ∧ 0 ≤ fL n ∧ fL n < 366 := by omega
  refine ⟨((M + 2) % 12 + 1).toNat, by rw [hMo]; omega, ?_, fin⟩
  clear fin
  have : M = 0 ∨ M = 1 ∨ M = 2 ∨ M = 3 ∨ M = 4 ∨ M = 5 ∨ M = 6 ∨ M = 7 ∨ M = 8 ∨ M = 9 ∨ M = 10 ∨ M = 11 := by omega
  have hk9 : (k : Int) ≤ 399 := by omega
  have hk0 : (0 : Int) ≤ k := by omega
  obtain ⟨K, hK⟩ : ∃ K : Int, (k : Int) = K := ⟨_, rfl⟩
  have hc2 : n + 719468 - 146097 * e < 365 * (K + 1) + (K + 1) / 4 - (K + 1) / 100 + (if K = 399 then 1 else 0) := by
    rw [← hK]; split at c2 <;> rename_i h5
    · subst h5; simp; omega
    · rw [if_neg (by omega)]; omega
  rw [hK] at c1 hL hY hk9 hk0
  clear c2 hyear hera hcst hcen hfe hoe hLL hM eK hk hK
  have hif : (if K = 399 then (1 : Int) else 0) = 1 ∧ K = 399 ∨ (if K = 399 then (1 : Int) else 0) = 0 ∧ K ≠ 399 := by
    by_cases h : K = 399
    · exact .inl ⟨if_pos h, h⟩
    · exact .inr ⟨if_neg h, h⟩
  obtain ⟨I, hI⟩ : ∃ I, (if K = 399 then (1 : Int) else 0) = I := ⟨_, rfl⟩
  rw [hI] at hc2 hif
  clear hI
  obtain ⟨Y, hYY⟩ : ∃ Y, 400 * e + K = Y := ⟨_, rfl⟩
  have A : Y / 4 = 100 * e + K / 4 ∧ Y / 100 = 4 * e + K / 100 ∧ Y / 400 = e := by omega
  have B : (Y + 1) / 4 = 100 * e + (K + 1) / 4 ∧ (Y + 1) / 100 = 4 * e + (K + 1) / 100 ∧ (Y + 1) / 400 = e + I := by omega
  have H1 : ysI Y + leapI Y = 365 * (Y - 1970) + (100 * e + K / 4) - (4 * e + K / 100) + e - 477 := by
    unfold ysI leapI; rw [A.1, A.2.1, A.2.2]; omega
  have H2 : ysI (Y + 1) = 365 * (Y + 1 - 1970) + (100 * e + K / 4) - (4 * e + K / 100) + e - 477 := by
    unfold ysI; rw [show Y + 1 - 1 = Y by omega, A.1, A.2.1, A.2.2]
  have H3 : leapI (Y + 1) = (K + 1) / 4 - K / 4 - ((K + 1) / 100 - K / 100) + I := by
    unfold leapI; rw [show Y + 1 - 1 = Y by omega, A.1, A.2.1, A.2.2, B.1, B.2.1, B.2.2]; omega
  have H4 : 2369 ≤ Y → 146097 ≤ ysI (Y + 1) := fun h => by
    have h1 := ysI_mono 2370 (Y + 1 - 2370).toNat
    have h2 : ysI 2370 = 146097 := by decide
    rw [show (2370 : Int) + ((Y + 1 - 2370).toNat : Int) = Y + 1 by omega] at h1
    omega
  rw [hY, hD, hYY]
  clear hY hD hMo hMb A B
  rcases this with rfl | rfl | rfl | rfl | rfl | rfl | rfl | rfl | rfl | rfl | rfl | rfl
  all_goals
    refine ⟨?_, ?_, by decide, by decide, ?_, ?_, ?_⟩ <;> simp [lenI, msI] <;> omega
theorem fDate_year {n : Int} (h0 : 0 ≤ n) (h1 : n < 146097) : 1970 ≤ fY n ∧ fY n ≤ 2369 ∧ 1 ≤ fMo n ∧ fMo n ≤ 12 ∧ 1 ≤ fD n ∧ fD n ≤ lenI (fY n) (fMo n) := by
  obtain ⟨m, e, hd, _⟩ := fDate n h0 h1
  rw [e]
  exact ⟨hd.y0, hd.y1, by have := hd.m0; omega, by have := hd.m1; omega, hd.d0, hd.d1⟩
end Go.Proofs.YtgiecadlliblpaaGreat
namespace Go.Proofs.YtgiecadlliblpaaGreat
open Go.RowKit
set_option linter.unusedVariables false

theorem Floor_pos (a b : Int) (w : World) (ha : 0 ≤ a) (hb : 1 ≤ b) (ha2 : a ≤ 9223372036854775807) : Calls Tryz.prog 84 #[.int .i64 a, .int .i64 b] w fun e w' => e = .returned (.int .i64 (a / b)) ∧ w = w' := by
  have h1 : ¬ b < 1 := by omega
  have h2 : ¬ a % b < 0 := by have := Int.emod_nonneg a (show b ≠ 0 by omega); omega
  have h3 : a / b ≤ a := Int.ediv_le_self b ha
  have h4 : 0 ≤ a / b := Int.ediv_nonneg ha (by omega)
  go_enter Tryz.func84, Tryz.ntmps84
  go_wp2
  go_ret
  exact ⟨rfl, rfl⟩
theorem RFloor_pos (a b : Int) (w : World) (ha : 0 ≤ a) (hb : 1 ≤ b) (ha2 : a ≤ 9223372036854775807) : Calls Tryz.prog 96 #[.int .i64 a, .int .i64 b] w fun e w' => e = .returned (.int .i64 (a / b)) ∧ w = w' := by
  have h1 : ¬ b < 1 := by omega
  have h2 : ¬ a % b < 0 := by have := Int.emod_nonneg a (show b ≠ 0 by omega); omega
  have h3 : a / b ≤ a := Int.ediv_le_self b ha
  have h4 : 0 ≤ a / b := Int.ediv_nonneg ha (by omega)
  go_enter Tryz.func96, Tryz.ntmps96
  go_wp2
  go_ret
  exact ⟨rfl, rfl⟩
theorem Mod_pos (a b : Int) (w : World) (ha : 0 ≤ a) (hb : 1 ≤ b) : Calls Tryz.prog 85 #[.int .i64 a, .int .i64 b] w fun e w' => e = .returned (.int .i64 (a % b)) ∧ w = w' := by
  have h1 : ¬ b < 1 := by omega
  have h2 : ¬ a % b < 0 := by have := Int.emod_nonneg a (show b ≠ 0 by omega); omega
  go_enter Tryz.func85, Tryz.ntmps85
  go_wp2
  go_ret
  exact ⟨rfl, rfl⟩
theorem RMod_pos (a b : Int) (w : World) (ha : 0 ≤ a) (hb : 1 ≤ b) (ha2 : a ≤ 9223372036854775807) : Calls Tryz.prog 98 #[.int .i64 a, .int .i64 b] w fun e w' => e = .returned (.int .i64 (a % b)) ∧ w = w' := by
  have c1 := hid (RFloor_pos a b w ha hb ha2)
  have h1 : ¬ b < 1 := by omega
  have h3 : b * (a / b) ≤ a := Int.mul_ediv_self_le (by omega)
  have h4 : 0 ≤ b * (a / b) := Int.mul_nonneg (by omega) (Int.ediv_nonneg ha (by omega))
  have h5 : Hid (a - b * (a / b) = a % b) := by show _ = _; rw [Int.emod_def]
  obtain ⟨q, hq⟩ : ∃ q, a / b = q := ⟨_, rfl⟩
  rw [hq] at c1 h3 h4 h5
  clear hq
  go_enter Tryz.func98, Tryz.ntmps98
  go_wp2_with fail
  refine c1.out.mono ?_
  rintro e w' ⟨rfl, rfl⟩
  go_wp2
  go_ret
  rw [← h5.out]
  exact ⟨rfl, rfl⟩

theorem Leap_any (y : Int) (w : World) (h0 : 0 ≤ y) : Calls Tryz.prog 88 #[.int .i64 y] w fun e w' => e = .returned (.bool (leapB y)) ∧ w = w' := by
  by_cases h4 : y % 4 = 0
  · by_cases h100 : y % 100 = 0
    · by_cases h400 : y % 400 = 0
      · have hr : Hid (leapB y = true) := decide_eq_true (by omega)
        go_enter Tryz.func88, Tryz.ntmps88
        go_wp2
        go_ret
        exact ⟨by rw [hr.out]; rfl, rfl⟩
      · have hr : Hid (leapB y = false) := decide_eq_false (by omega)
        have hb : (y % 400 == 0) = false := by simpa using h400
        go_enter Tryz.func88, Tryz.ntmps88
        go_wp2
        go_ret
        exact ⟨by rw [hr.out]; rfl, rfl⟩
    · have hr : Hid (leapB y = true) := decide_eq_true (by omega)
      have hb : (y % 100 == 0) = false := by simpa using h100
      have hb2 : (y % 100 != 0) = true := by simpa using h100
      go_enter Tryz.func88, Tryz.ntmps88
      go_wp2
      go_ret
      exact ⟨by rw [hr.out]; rfl, rfl⟩
  · have hr : Hid (leapB y = false) := decide_eq_false (by omega)
    have hb : (y % 4 == 0) = false := by simpa using h4
    go_enter Tryz.func88, Tryz.ntmps88
    go_wp2
    go_ret
    exact ⟨by rw [hr.out]; rfl, rfl⟩
theorem RLeap_any (y : Int) (w : World) (h0 : 0 ≤ y) : Calls Tryz.prog 97 #[.int .i64 y] w fun e w' => e = .returned (.bool (leapB y)) ∧ w = w' := by
  by_cases h400 : y % 400 = 0
  · have hr : Hid (leapB y = true) := decide_eq_true (by omega)
    go_enter Tryz.func97, Tryz.ntmps97
    go_wp2
    go_ret
    exact ⟨by rw [hr.out]; rfl, rfl⟩
  · have hb4 : (y % 400 == 0) = false := by simpa using h400
    by_cases h4 : y % 4 = 0
    · by_cases h100 : y % 100 = 0
      · have hr : Hid (leapB y = false) := decide_eq_false (by omega)
        go_enter Tryz.func97, Tryz.ntmps97
        go_wp2
        go_ret
        exact ⟨by rw [hr.out]; rfl, rfl⟩
      · have hr : Hid (leapB y = true) := decide_eq_true (by omega)
        have hb : (y % 100 == 0) = false := by simpa using h100
        have hb2 : (y % 100 != 0) = true := by simpa using h100
        go_enter Tryz.func97, Tryz.ntmps97
        go_wp2
        go_ret
        exact ⟨by rw [hr.out]; rfl, rfl⟩
    · have hr : Hid (leapB y = false) := decide_eq_false (by omega)
      have hb : (y % 4 == 0) = false := by simpa using h4
      go_enter Tryz.func97, Tryz.ntmps97
      go_wp2
      go_ret
      exact ⟨by rw [hr.out]; rfl, rfl⟩

theorem twelve {m : Int} (h1 : 1 ≤ m) (h2 : m ≤ 12) : m = 1 ∨ m = 2 ∨ m = 3 ∨ m = 4 ∨ m = 5 ∨ m = 6 ∨ m = 7 ∨ m = 8 ∨ m = 9 ∨ m = 10 ∨ m = 11 ∨ m = 12 := by omega
set_option maxHeartbeats 1600000 in
theorem Length_any (y m : Int) (w : World) (h0 : 0 ≤ y) (h1 : 1 ≤ m) (h2 : m ≤ 12) : Calls Tryz.prog 87 #[.int .i64 y, .int .i64 m] w fun e w' => e = .returned (.int .i64 (lenI y m)) ∧ Below w.heap.size w w' := by
  have c1 := hid (fun W => Leap_any y W h0)
  have hl := leapB_I y
  rcases twelve h1 h2 with rfl | rfl | rfl | rfl | rfl | rfl | rfl | rfl | rfl | rfl | rfl | rfl
  case inr.inl =>
    clear h0 h1 h2
    rcases hl with ⟨e1, e2⟩ | ⟨e1, e2⟩
    all_goals
      have hr : lenI y 2 = 28 + leapI y := by simp [lenI]
      rw [e2] at hr
      rw [e1] at c1
      have Hr := hid hr
      clear e1 e2 hr
      go_enter Tryz.func87, Tryz.ntmps87
      go_wp2_with fail
      refine (c1.out _).mono ?_
      rintro e w' ⟨rfl, rfl⟩
      go_wp2
      go_ret
      exact ⟨by rw [Hr.out]; rfl, below_new (Below.refl _ _) (Nat.le_refl _)⟩
  all_goals
    clear h0 h1 h2 hl
    go_enter Tryz.func87, Tryz.ntmps87
    go_wp2
    go_ret
    exact ⟨by simp [lenI], below_new (Below.refl _ _) (Nat.le_refl _)⟩
set_option maxHeartbeats 1600000 in
theorem RLength_any (y m : Int) (w : World) (h0 : 0 ≤ y) (h1 : 1 ≤ m) (h2 : m ≤ 12) : Calls Tryz.prog 71 #[.int .i64 y, .int .i64 m] w fun e w' => e = .returned (.int .i64 (lenI y m)) ∧ w = w' := by
  have c1 := hid (fun W => RLeap_any y W h0)
  have hl := leapB_I y
  rcases twelve h1 h2 with rfl | rfl | rfl | rfl | rfl | rfl | rfl | rfl | rfl | rfl | rfl | rfl
  case inr.inl =>
    clear h0 h1 h2
    rcases hl with ⟨e1, e2⟩ | ⟨e1, e2⟩
    all_goals
      have hr : lenI y 2 = 28 + leapI y := by simp [lenI]
      rw [e2] at hr
      rw [e1] at c1
      have Hr := hid hr
      clear e1 e2 hr
      go_enter Tryz.func71, Tryz.ntmps71
      go_wp2_with fail
      refine (c1.out _).mono ?_
      rintro e w' ⟨rfl, rfl⟩
      go_wp2
      go_ret
      exact ⟨by rw [Hr.out]; rfl, rfl⟩
  all_goals
    clear h0 h1 h2 hl
    go_enter Tryz.func71, Tryz.ntmps71
    go_wp2
    go_ret
    exact ⟨by simp [lenI], rfl⟩
theorem RYear_any (y : Int) (w : World) (h0 : 0 ≤ y) : Calls Tryz.prog 74 #[.int .i64 y] w fun e w' => e = .returned (.int .i64 (365 + leapI y)) ∧ w = w' := by
  have c1 := hid (fun W => RLeap_any y W h0)
  rcases leapB_I y with ⟨e1, e2⟩ | ⟨e1, e2⟩
  all_goals
    rw [e1] at c1
    rw [e2]
    clear e1 e2
    go_enter Tryz.func74, Tryz.ntmps74
    go_wp2_with fail
    refine (c1.out _).mono ?_
    rintro e w' ⟨rfl, rfl⟩
    go_wp2
    go_ret
    exact ⟨rfl, rfl⟩
theorem CMay_yes (y m d : Int) (w : World) (h0 : 0 ≤ y) (hy : y ≤ 3000) (h1 : 1 ≤ m) (h2 : m ≤ 12) (h3 : 1 ≤ d) (h4 : d ≤ lenI y m) : Calls Tryz.prog 86 #[.int .i64 y, .int .i64 m, .int .i64 d] w fun e w' => e = .returned (.bool true) ∧ Below w.heap.size w w' := by
  have c1 := hid (fun W => Length_any y m W h0 h1 h2)
  obtain ⟨l, hl⟩ : ∃ l, lenI y m = l := ⟨_, rfl⟩
  rw [hl] at c1 h4
  clear hl
  go_enter Tryz.func86, Tryz.ntmps86
  go_wp2_with fail
  refine (c1.out _).mono ?_
  rintro e w' ⟨rfl, hB⟩
  have HB := hid hB
  clear hB
  go_wp2
  go_ret
  exact ⟨ret_bool (by first | (simp; done) | (simp; omega)), HB.out⟩
end Go.Proofs.YtgiecadlliblpaaGreat

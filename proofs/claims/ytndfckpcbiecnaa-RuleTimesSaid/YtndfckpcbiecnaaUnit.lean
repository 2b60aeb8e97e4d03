/-
  What the functions of moment, unit, feriaref08 and feriaref10 compute, of the window.
-/
import Derived.Test.YtndfckpcbiecnaaCivShape
import Derived.Test.YtndfckpcbiecnaaTod
import Derived.OwnWalk
namespace Go.Proofs.Ytndfckpcbiecnaa
open Go.RowKit
set_option linter.unusedVariables false

def winB (t : Int) : Bool := decide (0 ≤ t ∧ t < 12622780800)
theorem win_cases (t : Int) : (winB t = true ∧ 0 ≤ t ∧ t < 12622780800) ∨ (winB t = false ∧ (t < 0 ∨ 12622780800 ≤ t)) := by
  by_cases h : 0 ≤ t ∧ t < 12622780800
  · exact .inl ⟨decide_eq_true h, h⟩
  · exact .inr ⟨decide_eq_false h, by omega⟩
theorem MIn_any (t : Int) (w : World) : Calls Try.prog 64 #[.int .i64 t] w fun e w' => e = .returned (.bool (winB t)) ∧ w = w' := by
  rcases win_cases t with ⟨e, h0, h1⟩ | ⟨e, h⟩
  · rw [e]; clear e
    go_enter Try.func64, Try.ntmps64
    go_wp2
    go_ret
    exact ⟨rfl, rfl⟩
  · rw [e]; clear e
    rcases h with h | h
    · go_enter Try.func64, Try.ntmps64
      go_wp2
      go_ret
      exact ⟨rfl, rfl⟩
    · have h0 : 0 ≤ t := by omega
      go_enter Try.func64, Try.ntmps64
      go_wp2
      go_ret
      exact ⟨by first | rfl | exact ret_bool (by simp; omega), rfl⟩
theorem RMIn_any (t : Int) (w : World) : Calls Try.prog 34 #[.int .i64 t] w fun e w' => e = .returned (.bool (winB t)) ∧ w = w' := by
  rcases win_cases t with ⟨e, h0, h1⟩ | ⟨e, h⟩
  · rw [e]; clear e
    have h2 : t ≤ 12622780799 := by omega
    go_enter Try.func34, Try.ntmps34
    go_wp2
    go_ret
    exact ⟨by first | rfl | exact ret_bool (by simp; omega), rfl⟩
  · rw [e]; clear e
    rcases h with h | h
    · go_enter Try.func34, Try.ntmps34
      go_wp2
      go_ret
      exact ⟨rfl, rfl⟩
    · have h0 : 0 ≤ t := by omega
      have h2 : ¬ t ≤ 12622780799 := by omega
      go_enter Try.func34, Try.ntmps34
      go_wp2
      go_ret
      exact ⟨by first | rfl | exact ret_bool (by simp; omega), rfl⟩
theorem Split_yes (t : Int) (w : World) (h0 : 0 ≤ t) (h1 : t < 12622780800) : Calls Try.prog 85 #[.int .i64 t] w fun e w' => e = .returned (.tuple #[.int .i64 (t / 86400), .int .i64 (t % 86400), .bool true]) ∧ w = w' := by
  have c1 := hid (MIn_any t w)
  rw [show winB t = true from decide_eq_true ⟨h0, h1⟩] at c1
  go_enter Try.func85, Try.ntmps85
  go_wp2_with fail
  refine c1.out.mono ?_
  rintro e w' ⟨rfl, rfl⟩
  go_wp2
  refine bodyPost_ret (results_tmp3 rfl _ _ _) rfl ?_
  exact ⟨rfl, rfl⟩
theorem Split_no (t : Int) (w : World) (h : winB t = false) : Calls Try.prog 85 #[.int .i64 t] w fun e w' => e = .returned (.tuple #[.int .i64 0, .int .i64 0, .bool false]) ∧ w = w' := by
  have c1 := hid (MIn_any t w)
  rw [h] at c1
  clear h
  go_enter Try.func85, Try.ntmps85
  go_wp2_with fail
  refine c1.out.mono ?_
  rintro e w' ⟨rfl, rfl⟩
  go_wp2
  refine bodyPost_ret (results_tmp3 rfl _ _ _) rfl ?_
  exact ⟨rfl, rfl⟩

/-! ### weeks -/
def wkN (n : Int) : Int := n / 7 + (if 4 ≤ n % 7 then 1 else 0)
theorem WNumber_any (n : Int) (w : World) (h0 : 0 ≤ n) (h1 : n < 200000) : Calls Try.prog 177 #[.int .i64 n] w fun e w' => e = .returned (.int .i64 (wkN n)) ∧ w = w' := by
  have c1 := hid (Floor_pos n 7 w h0 (by omega) (by omega))
  have c2 := hid (Mod_pos n 7 w h0 (by omega))
  have b1 : 0 ≤ n / 7 ∧ n / 7 < 200000 := by omega
  have hr : Hid (wkN n = n / 7 + (if 4 ≤ n % 7 then 1 else 0)) := rfl
  obtain ⟨q, hq⟩ : ∃ q, n / 7 = q := ⟨_, rfl⟩
  obtain ⟨m, hm⟩ : ∃ q, n % 7 = q := ⟨_, rfl⟩
  rw [hq] at c1 b1 hr
  rw [hm] at c2 hr
  clear hq hm
  by_cases h4 : 4 ≤ m
  · rw [if_pos h4] at hr
    go_enter Try.func177, Try.ntmps177
    go_wp2_with fail
    refine c1.out.mono ?_
    rintro e w' ⟨rfl, rfl⟩
    go_wp2_with fail
    refine c2.out.mono ?_
    rintro e w' ⟨rfl, rfl⟩
    go_wp2
    go_ret
    exact ⟨by rw [hr.out]; rfl, rfl⟩
  · rw [if_neg h4, Int.add_zero] at hr
    go_enter Try.func177, Try.ntmps177
    go_wp2_with fail
    refine c1.out.mono ?_
    rintro e w' ⟨rfl, rfl⟩
    go_wp2_with fail
    refine c2.out.mono ?_
    rintro e w' ⟨rfl, rfl⟩
    go_wp2
    go_ret
    exact ⟨by rw [hr.out]; rfl, rfl⟩
theorem RNumber_any (n : Int) (w : World) (h0 : 0 ≤ n) (h1 : n < 200000) : Calls Try.prog 176 #[.int .i64 n] w fun e w' => e = .returned (.int .i64 (wkN n)) ∧ w = w' := by
  have c1 := hid (RFloor_pos n 7 w h0 (by omega) (by omega))
  have c2 := hid (RMod_pos n 7 w h0 (by omega) (by omega))
  have b1 : 0 ≤ n / 7 ∧ n / 7 < 200000 := by omega
  have hr : Hid (wkN n = n / 7 + (if 4 ≤ n % 7 then 1 else 0)) := rfl
  obtain ⟨q, hq⟩ : ∃ q, n / 7 = q := ⟨_, rfl⟩
  obtain ⟨m, hm⟩ : ∃ q, n % 7 = q := ⟨_, rfl⟩
  rw [hq] at c1 b1 hr
  rw [hm] at c2 hr
  clear hq hm
  by_cases h4 : 4 ≤ m
  · rw [if_pos h4] at hr
    go_enter Try.func176, Try.ntmps176
    go_wp2_with fail
    refine c1.out.mono ?_
    rintro e w' ⟨rfl, rfl⟩
    go_wp2_with fail
    refine c2.out.mono ?_
    rintro e w' ⟨rfl, rfl⟩
    go_wp2
    go_ret
    exact ⟨by rw [hr.out]; rfl, rfl⟩
  · rw [if_neg h4, Int.add_zero] at hr
    go_enter Try.func176, Try.ntmps176
    go_wp2_with fail
    refine c1.out.mono ?_
    rintro e w' ⟨rfl, rfl⟩
    go_wp2_with fail
    refine c2.out.mono ?_
    rintro e w' ⟨rfl, rfl⟩
    go_wp2
    go_ret
    exact ⟨by rw [hr.out]; rfl, rfl⟩

/-! ### units -/
def sizeU (u : Int) : Int := if u = 0 then 1 else if u = 1 then 60 else if u = 2 then 3600 else 0
theorem unit_cases (u : Int) : u = 0 ∨ u = 1 ∨ u = 2 ∨ (u ≠ 0 ∧ u ≠ 1 ∧ u ≠ 2 ∧ sizeU u = 0) := by
  by_cases h0 : u = 0
  · exact .inl h0
  · by_cases h1 : u = 1
    · exact .inr (.inl h1)
    · by_cases h2 : u = 2
      · exact .inr (.inr (.inl h2))
      · exact .inr (.inr (.inr ⟨h0, h1, h2, by simp [sizeU, h0, h1, h2]⟩))
theorem Size_any (u : Int) (w : World) : Calls Try.prog 118 #[.int .i64 u] w fun e w' => e = .returned (.int .i64 (sizeU u)) ∧ Below w.heap.size w w' := by
  rcases unit_cases u with rfl | rfl | rfl | ⟨h0, h1, h2, h3⟩
  case inr.inr.inr =>
    rw [h3]
    clear h3
    by_cases hn : u < 0
    · go_enter Try.func118, Try.ntmps118
      go_wp2
      go_ret
      exact ⟨rfl, below_new (Below.refl _ _) (Nat.le_refl _)⟩
    · have h3 : 3 ≤ u := by omega
      clear h0 h1 h2
      go_enter Try.func118, Try.ntmps118
      go_wp2
      go_ret
      exact ⟨rfl, below_new (Below.refl _ _) (Nat.le_refl _)⟩
  all_goals
    go_enter Try.func118, Try.ntmps118
    go_wp2
    go_ret
    exact ⟨rfl, below_new (Below.refl _ _) (Nat.le_refl _)⟩
theorem RSize_any (u : Int) (w : World) : Calls Try.prog 107 #[.int .i64 u] w fun e w' => e = .returned (.int .i64 (sizeU u)) ∧ w = w' := by
  rcases unit_cases u with rfl | rfl | rfl | ⟨h0, h1, h2, h3⟩
  case inr.inr.inr =>
    rw [h3]
    have b0 : (u == 0) = false := by simpa using h0
    have b1 : (u == 1) = false := by simpa using h1
    have b2 : (u == 2) = false := by simpa using h2
    clear h0 h1 h2 h3
    go_enter Try.func107, Try.ntmps107
    go_wp2
    go_ret
    exact ⟨rfl, rfl⟩
  all_goals
    go_enter Try.func107, Try.ntmps107
    go_wp2
    go_ret
    exact ⟨rfl, rfl⟩
/-- which unit, of a day or more, a day lies in -/
def whD (u n : Int) : Int := if u = 3 then n else if u = 4 then wkN n else if u = 5 then 12 * fY n + fMo n - 1 else fY n
def whU (u t : Int) : Int := if u = 0 then t else if u = 1 then t / 60 else if u = 2 then t / 3600 else whD u (t / 86400)
theorem wkN_bd {n : Int} (h0 : 0 ≤ n) (h1 : n < 146097) : 0 ≤ wkN n ∧ wkN n < 30000 := by unfold wkN; split <;> omega
theorem whD_bd {u n : Int} (h0 : 0 ≤ n) (h1 : n < 146097) : 0 ≤ whD u n ∧ whD u n < 200000 := by
  obtain ⟨y0, y1, m0, m1, _⟩ := fDate_year h0 h1
  have := wkN_bd h0 h1
  unfold whD
  split
  · omega
  · split
    · omega
    · split <;> omega
theorem whU_bd {u t : Int} (h0 : 0 ≤ t) (h1 : t < 12622780800) : 0 ≤ whU u t ∧ whU u t < 12622780800 := by
  have := whD_bd (u := u) (n := t / 86400) (by omega) (by omega)
  unfold whU
  split
  · omega
  · split
    · omega
    · split <;> omega
set_option maxHeartbeats 800000 in
theorem OfDay_any (u n : Int) (w : World) (hu0 : 3 ≤ u) (hu1 : u ≤ 6) (h0 : 0 ≤ n) (h1 : n < 146097) : Calls Try.prog 154 #[.int .i64 u, shN n] w fun e w' => e = .returned (.int .i64 (whD u n)) ∧ Below w.heap.size w w' := by
  obtain ⟨y0, y1, m0, m1, _⟩ := fDate_year h0 h1
  have c1 := hid (fun W => WNumber_any n W h0 (by omega))
  have hcase : u = 3 ∨ u = 4 ∨ u = 5 ∨ u = 6 := by omega
  have hr : Hid (whD 3 n = n ∧ whD 4 n = wkN n ∧ whD 5 n = 12 * fY n + fMo n - 1 ∧ whD 6 n = fY n) := ⟨rfl, rfl, rfl, rfl⟩
  unfold shN shv sh10
  obtain ⟨a4, h4⟩ : ∃ x, lenI (fY n) (fMo n) - fD n + 1 = x := ⟨_, rfl⟩
  obtain ⟨a5, h5⟩ : ∃ x, (n % 7 + 3) % 7 + 1 = x := ⟨_, rfl⟩
  obtain ⟨a6, h6⟩ : ∃ x, (fD n - 1) / 7 + 1 = x := ⟨_, rfl⟩
  obtain ⟨a7, h7⟩ : ∃ x, (lenI (fY n) (fMo n) - fD n) / 7 + 1 = x := ⟨_, rfl⟩
  obtain ⟨a8, h8⟩ : ∃ x, (fOr n - 1) / 7 + 1 = x := ⟨_, rfl⟩
  obtain ⟨a9, h9⟩ : ∃ x, (365 + leapI (fY n) - fOr n) / 7 + 1 = x := ⟨_, rfl⟩
  rw [h4, h5, h6, h7, h8, h9]
  clear h4 h5 h6 h7 h8 h9
  obtain ⟨y, hy⟩ : ∃ x, fY n = x := ⟨_, rfl⟩
  obtain ⟨m, hm⟩ : ∃ x, fMo n = x := ⟨_, rfl⟩
  obtain ⟨d, hd⟩ : ∃ x, fD n = x := ⟨_, rfl⟩
  rw [hy, hm] at hr
  rw [hy] at y0 y1
  rw [hm] at m0 m1
  rw [hy, hm, hd]
  clear hy hm hd hu0 hu1
  rcases hcase with rfl | rfl | rfl | rfl
  case inr.inl =>
    rw [hr.out.2.1]
    go_enter Try.func154, Try.ntmps154
    go_wp2_with fail
    refine (c1.out _).mono ?_
    rintro e w' ⟨rfl, rfl⟩
    go_wp2
    go_ret
    exact ⟨rfl, below_new (Below.refl _ _) (Nat.le_refl _)⟩
  · rw [hr.out.1]
    go_enter Try.func154, Try.ntmps154
    go_wp2
    go_ret
    exact ⟨rfl, below_new (Below.refl _ _) (Nat.le_refl _)⟩
  · rw [hr.out.2.2.1]
    go_enter Try.func154, Try.ntmps154
    go_wp2
    go_ret
    exact ⟨rfl, below_new (Below.refl _ _) (Nat.le_refl _)⟩
  · rw [hr.out.2.2.2]
    go_enter Try.func154, Try.ntmps154
    go_wp2
    go_ret
    exact ⟨rfl, below_new (Below.refl _ _) (Nat.le_refl _)⟩

theorem whU_day {u t : Int} (h : 3 ≤ u) : whU u t = whD u (t / 86400) := by
  unfold whU; rw [if_neg (by omega), if_neg (by omega), if_neg (by omega)]
set_option maxHeartbeats 1600000 in
theorem UWhich_yes (u t : Int) (w : World) (hu0 : 0 ≤ u) (hu1 : u ≤ 6) (h0 : 0 ≤ t) (h1 : t < 12622780800) :
    Calls Try.prog 144 #[.int .i64 u, .int .i64 t] w fun e w' => e = .returned (.tuple #[.int .i64 (whU u t), .bool true]) ∧ Below w.heap.size w w' := by
  have c1 := hid (Split_yes t w h0 h1)
  have c2 := hid (fun W => Size_any u W)
  have c3 := hid (fun W => Shape_any (t / 86400) W (by omega) (by omega))
  have hsh : ∃ a0 a1 a2 a3 a4 a5 a6 a7 a8 a9 : Int, shN (t / 86400) = sh10 a0 a1 a2 a3 a4 a5 a6 a7 a8 a9 := ⟨_, _, _, _, _, _, _, _, _, _, rfl⟩
  by_cases h3 : 3 ≤ u
  · rw [whU_day h3]
    have hz : sizeU u = 0 := by unfold sizeU; rw [if_neg (by omega), if_neg (by omega), if_neg (by omega)]
    have c4 := hid (fun W => OfDay_any u (t / 86400) W h3 hu1 (by omega) (by omega))
    rw [hz] at c2
    have hq0 : 0 ≤ t / 86400 := by omega
    have hq1 : t / 86400 < 146097 := by omega
    obtain ⟨q, hq⟩ : ∃ q, t / 86400 = q := ⟨_, rfl⟩
    simp only [hq] at c1 c3 c4 hsh hq0 hq1 ⊢
    obtain ⟨a0, a1, a2, a3, a4, a5, a6, a7, a8, a9, hs⟩ := hsh
    have q4 : 0 ≤ t % 86400 ∧ t % 86400 ≤ 12622780800 := by omega
    simp only [hs] at c3 c4
    have hn0 : ¬ u < 0 := by omega
    have hn7 : ¬ 7 ≤ u := by omega
    clear hq hz hs
    go_enter Try.func144, Try.ntmps144
    go_wp2_with fail
    refine c1.out.mono ?_
    rintro e w' ⟨rfl, rfl⟩
    go_wp2_with fail
    refine (c2.out _).mono ?_
    rintro e w1 ⟨rfl, hB1⟩
    have HB1 := hid hB1
    clear hB1
    go_wp2_with fail
    refine (c3.out _).mono ?_
    rintro e w2 ⟨rfl, hB2⟩
    have HB2 : Hid (Below w.heap.size w w2) := HB1.out.trans (hB2.mono HB1.out.size)
    clear hB2
    go_wp2_with fail
    refine (c4.out _).mono ?_
    rintro e w3 ⟨rfl, hB3⟩
    have HB3 : Hid (Below w.heap.size w w3) := (below_new HB2.out HB2.out.size).trans (hB3.mono (by have := HB2.out.size; simp; omega))
    clear hB3
    go_wp2
    go_ret2
    exact ⟨rfl, HB3.out⟩
  · have hcase : u = 0 ∨ u = 1 ∨ u = 2 := by omega
    clear c3 hsh hu0 hu1 h3
    have q1 : 0 ≤ t / 60 ∧ t / 60 ≤ 12622780800 := by omega
    have q2 : 0 ≤ t / 3600 ∧ t / 3600 ≤ 12622780800 := by omega
    have q3 : 0 ≤ t / 86400 ∧ t / 86400 ≤ 12622780800 := by omega
    have q4 : 0 ≤ t % 86400 ∧ t % 86400 ≤ 12622780800 := by omega
    rcases hcase with rfl | rfl | rfl
    · have c2' : Hid (∀ W, Calls Try.prog 118 #[.int .i64 0] W fun e w' => e = .returned (.int .i64 1) ∧ Below W.heap.size W w') := c2.out
      rw [show whU 0 t = t from rfl]
      clear c2
      go_enter Try.func144, Try.ntmps144
      go_wp2_with fail
      refine c1.out.mono ?_
      rintro e w' ⟨rfl, rfl⟩
      go_wp2_with fail
      refine (c2'.out _).mono ?_
      rintro e w1 ⟨rfl, hB1⟩
      have HB1 := hid hB1
      clear hB1
      go_wp2
      go_ret2
      exact ⟨by simp, HB1.out⟩
    · have c2' : Hid (∀ W, Calls Try.prog 118 #[.int .i64 1] W fun e w' => e = .returned (.int .i64 60) ∧ Below W.heap.size W w') := c2.out
      rw [show whU 1 t = t / 60 from rfl]
      clear c2
      go_enter Try.func144, Try.ntmps144
      go_wp2_with fail
      refine c1.out.mono ?_
      rintro e w' ⟨rfl, rfl⟩
      go_wp2_with fail
      refine (c2'.out _).mono ?_
      rintro e w1 ⟨rfl, hB1⟩
      have HB1 := hid hB1
      clear hB1
      go_wp2
      go_ret2
      exact ⟨rfl, HB1.out⟩
    · have c2' : Hid (∀ W, Calls Try.prog 118 #[.int .i64 2] W fun e w' => e = .returned (.int .i64 3600) ∧ Below W.heap.size W w') := c2.out
      rw [show whU 2 t = t / 3600 from rfl]
      clear c2
      go_enter Try.func144, Try.ntmps144
      go_wp2_with fail
      refine c1.out.mono ?_
      rintro e w' ⟨rfl, rfl⟩
      go_wp2_with fail
      refine (c2'.out _).mono ?_
      rintro e w1 ⟨rfl, hB1⟩
      have HB1 := hid hB1
      clear hB1
      go_wp2
      go_ret2
      exact ⟨rfl, HB1.out⟩
theorem UWhich_out (u t : Int) (w : World) (h : winB t = false) : Calls Try.prog 144 #[.int .i64 u, .int .i64 t] w fun e w' => e = .returned (.tuple #[.int .i64 0, .bool false]) ∧ Below w.heap.size w w' := by
  have c1 := hid (Split_no t w h)
  clear h
  go_enter Try.func144, Try.ntmps144
  go_wp2_with fail
  refine c1.out.mono ?_
  rintro e w' ⟨rfl, rfl⟩
  go_wp2
  go_ret2
  exact ⟨rfl, Below.refl _ _⟩
theorem UWhich_bad (u t : Int) (w : World) (h : u < 0 ∨ 6 < u) : Calls Try.prog 144 #[.int .i64 u, .int .i64 t] w fun e w' => e = .returned (.tuple #[.int .i64 0, .bool false]) ∧ Below w.heap.size w w' := by
  rcases win_cases t with ⟨e, h0, h1⟩ | ⟨e, _⟩
  · have c1 := hid (Split_yes t w h0 h1)
    have q3 : 0 ≤ t / 86400 ∧ t / 86400 ≤ 12622780800 := by omega
    have q4 : 0 ≤ t % 86400 ∧ t % 86400 ≤ 12622780800 := by omega
    clear e
    rcases h with h | h
    · go_enter Try.func144, Try.ntmps144
      go_wp2_with fail
      refine c1.out.mono ?_
      rintro e w' ⟨rfl, rfl⟩
      go_wp2
      go_ret2
      exact ⟨rfl, Below.refl _ _⟩
    · have hn0 : ¬ u < 0 := by omega
      have hn7 : 7 ≤ u := by omega
      go_enter Try.func144, Try.ntmps144
      go_wp2_with fail
      refine c1.out.mono ?_
      rintro e w' ⟨rfl, rfl⟩
      go_wp2
      go_ret2
      exact ⟨rfl, Below.refl _ _⟩
  · exact UWhich_out u t w e
end Go.Proofs.Ytndfckpcbiecnaa

/-
  Whether an instant is on a step: unit.On and feriaref10.On.
-/
import Derived.Test.YtndfckpcbiecnaaUnit
namespace Go.Proofs.Ytndfckpcbiecnaa
open Go.RowKit
set_option linter.unusedVariables false

def unB (u : Int) : Bool := decide (0 ≤ u ∧ u ≤ 6)
def whichB (u t : Int) : Bool := unB u && winB t
def whichI (u t : Int) : Int := if whichB u t then whU u t else 0
theorem unB_cases (u : Int) : (unB u = true ∧ 0 ≤ u ∧ u ≤ 6) ∨ (unB u = false ∧ (u < 0 ∨ 6 < u)) := by
  by_cases h : 0 ≤ u ∧ u ≤ 6
  · exact .inl ⟨decide_eq_true h, h⟩
  · exact .inr ⟨decide_eq_false h, by omega⟩
theorem whichI_bd (u t : Int) : 0 ≤ whichI u t ∧ whichI u t < 12622780800 := by
  unfold whichI whichB
  rcases win_cases t with ⟨e, h0, h1⟩ | ⟨e, _⟩
  · rw [e, Bool.and_true]
    split
    · exact whU_bd h0 h1
    · omega
  · rw [e, Bool.and_false, if_neg (by simp)]; omega
theorem UWhich_any (u t : Int) (w : World) : Calls Try.prog 144 #[.int .i64 u, .int .i64 t] w fun e w' => e = .returned (.tuple #[.int .i64 (whichI u t), .bool (whichB u t)]) ∧ Below w.heap.size w w' := by
  unfold whichI whichB
  rcases unB_cases u with ⟨e1, u0, u1⟩ | ⟨e1, hu⟩
  · rcases win_cases t with ⟨e2, h0, h1⟩ | ⟨e2, h⟩
    · rw [e1, e2]; exact UWhich_yes u t w u0 u1 h0 h1
    · rw [e1, e2]; exact UWhich_out u t w e2
  · rw [e1, Bool.false_and]; exact UWhich_bad u t w hu
/-- is the difference a multiple of the step? -/
def stepB (s d : Int) : Bool := decide (1 ≤ s) && decide (d % s = 0)
def onB (u s a t : Int) : Bool := whichB u a && (whichB u t && stepB s (whichI u t - whichI u a))
theorem tmod_zero (d s : Int) : (d.tmod s == 0) = decide (d % s = 0) := by
  rw [Bool.eq_iff_iff, beq_iff_eq, decide_eq_true_eq, ← Int.dvd_iff_tmod_eq_zero, ← Int.dvd_iff_emod_eq_zero]
theorem neg_mod_zero (d s : Int) : ((-d) % s = 0) = (d % s = 0) := by
  rw [← Int.dvd_iff_emod_eq_zero, ← Int.dvd_iff_emod_eq_zero, Int.dvd_neg]
set_option maxHeartbeats 1600000 in
theorem UOn_any (u s a t : Int) (w : World) (hs : -9223372036854775808 ≤ s ∧ s ≤ 9223372036854775807) : Calls Try.prog 88 #[.int .i64 u, .int .i64 s, .int .i64 a, .int .i64 t] w fun e w' => e = .returned (.bool (onB u s a t)) ∧ Below w.heap.size w w' := by
  have c1 := hid (fun W => UWhich_any u a W)
  have c2 := hid (fun W => UWhich_any u t W)
  have b1 := whichI_bd u a
  have b2 := whichI_bd u t
  unfold onB
  obtain ⟨x, hx⟩ : ∃ x, whichI u a = x := ⟨_, rfl⟩
  obtain ⟨y, hy⟩ : ∃ x, whichI u t = x := ⟨_, rfl⟩
  obtain ⟨bx, hbx⟩ : ∃ x, whichB u a = x := ⟨_, rfl⟩
  obtain ⟨bt, hbt⟩ : ∃ x, whichB u t = x := ⟨_, rfl⟩
  rw [hx] at c1 b1 ⊢
  rw [hy] at c2 b2 ⊢
  rw [hbx] at c1 ⊢
  rw [hbt] at c2 ⊢
  clear hx hy hbx hbt
  have hr : Hid (1 ≤ s → stepB s (y - x) = ((y - x).tmod s == 0)) := fun h => by rw [stepB, decide_eq_true h, Bool.true_and, tmod_zero]
  have hr0 : Hid (s < 1 → stepB s (y - x) = false) := fun h => by rw [stepB, decide_eq_false (by omega), Bool.false_and]
  obtain ⟨s0, s1⟩ := hs
  by_cases h1 : 1 ≤ s
  · have hr' := hr.out h1
    cases hq : ((y - x).tmod s == 0)
    all_goals
      rw [hq] at hr'
      rw [hr']
      clear hr hr0 hr'
      cases bx <;> cases bt
      all_goals
        go_enter Try.func88, Try.ntmps88
        go_wp2_with fail
        refine (c1.out _).mono ?_
        rintro e w1 ⟨rfl, hB1⟩
        have HB1 := hid hB1
        clear hB1
        go_wp2_with fail
        refine (c2.out _).mono ?_
        rintro e w2 ⟨rfl, hB2⟩
        have HB2 : Hid (Below w.heap.size w w2) := HB1.out.trans (hB2.mono HB1.out.size)
        clear hB2
        go_wp2
        go_ret
        exact ⟨rfl, HB2.out⟩
  · rw [hr0.out (by omega)]
    clear hr hr0
    cases bx <;> cases bt
    all_goals
      go_enter Try.func88, Try.ntmps88
      go_wp2_with fail
      refine (c1.out _).mono ?_
      rintro e w1 ⟨rfl, hB1⟩
      have HB1 := hid hB1
      clear hB1
      go_wp2_with fail
      refine (c2.out _).mono ?_
      rintro e w2 ⟨rfl, hB2⟩
      have HB2 : Hid (Below w.heap.size w w2) := HB1.out.trans (hB2.mono HB1.out.size)
      clear hB2
      go_wp2
      go_ret
      exact ⟨rfl, HB2.out⟩
theorem RUMay_any (u : Int) (w : World) : Calls Try.prog 69 #[.int .i64 u] w fun e w' => e = .returned (.bool (unB u)) ∧ w = w' := by
  rcases unB_cases u with ⟨e, h0, h1⟩ | ⟨e, h⟩
  · rw [e]; clear e
    go_enter Try.func69, Try.ntmps69
    go_wp2
    go_ret
    exact ⟨by first | rfl | exact ret_bool (by simp; omega), rfl⟩
  · rw [e]; clear e
    rcases h with h | h
    · go_enter Try.func69, Try.ntmps69
      go_wp2
      go_ret
      exact ⟨by first | rfl | exact ret_bool (by simp; omega), rfl⟩
    · have h0 : 0 ≤ u := by omega
      have h2 : ¬ u ≤ 6 := by omega
      go_enter Try.func69, Try.ntmps69
      go_wp2
      go_ret
      exact ⟨by first | rfl | exact ret_bool (by simp; omega), rfl⟩
set_option maxHeartbeats 1600000 in
theorem RUWhich_yes (u t : Int) (w : World) (hu0 : 0 ≤ u) (hu1 : u ≤ 6) (h0 : 0 ≤ t) (h1 : t < 12622780800) :
    Calls Try.prog 147 #[.int .i64 u, .int .i64 t] w fun e w' => e = .returned (.int .i64 (whU u t)) ∧ w = w' := by
  have c1 := hid (fun W => RDate_any (t / 86400) W (by omega) (by omega))
  have c2 := hid (fun W => RNumber_any (t / 86400) W (by omega) (by omega))
  have hq0 : 0 ≤ t / 86400 := by omega
  have hq1 : t / 86400 < 146097 := by omega
  obtain ⟨y0, y1, m0, m1, _⟩ := fDate_year hq0 hq1
  have hr : Hid (whU 0 t = t ∧ whU 1 t = t / 60 ∧ whU 2 t = t / 3600 ∧ whU 3 t = t / 86400 ∧ whU 4 t = wkN (t / 86400) ∧ whU 5 t = 12 * fY (t / 86400) + fMo (t / 86400) - 1 ∧ whU 6 t = fY (t / 86400)) := ⟨rfl, rfl, rfl, rfl, rfl, rfl, rfl⟩
  have hcase : u = 0 ∨ u = 1 ∨ u = 2 ∨ u = 3 ∨ u = 4 ∨ u = 5 ∨ u = 6 := by omega
  obtain ⟨y, hy⟩ : ∃ x, fY (t / 86400) = x := ⟨_, rfl⟩
  obtain ⟨m, hm⟩ : ∃ x, fMo (t / 86400) = x := ⟨_, rfl⟩
  rw [hy, hm] at hr c1
  rw [hy] at y0 y1
  rw [hm] at m0 m1
  clear hy hm hu0 hu1
  obtain ⟨r0, r1, r2, r3, r4, r5, r6⟩ := hr.out
  rcases hcase with rfl | rfl | rfl | rfl | rfl | rfl | rfl
  · rw [r0]; clear r0 r1 r2 r3 r4 r5 r6
    go_enter Try.func147, Try.ntmps147
    go_wp2
    go_ret
    exact ⟨rfl, rfl⟩
  · rw [r1]; clear r0 r1 r2 r3 r4 r5 r6
    go_enter Try.func147, Try.ntmps147
    go_wp2
    go_ret
    exact ⟨rfl, rfl⟩
  · rw [r2]; clear r0 r1 r2 r3 r4 r5 r6
    go_enter Try.func147, Try.ntmps147
    go_wp2
    go_ret
    exact ⟨rfl, rfl⟩
  · rw [r3]; clear r0 r1 r2 r3 r4 r5 r6
    go_enter Try.func147, Try.ntmps147
    go_wp2
    go_ret
    exact ⟨rfl, rfl⟩
  · rw [r4]; clear r0 r1 r2 r3 r4 r5 r6
    go_enter Try.func147, Try.ntmps147
    go_wp2_with fail
    refine (c2.out _).mono ?_
    rintro e w' ⟨rfl, rfl⟩
    go_wp2
    go_ret
    exact ⟨rfl, rfl⟩
  · rw [r5]; clear r0 r1 r2 r3 r4 r5 r6
    go_enter Try.func147, Try.ntmps147
    go_wp2_with fail
    refine (c1.out _).mono ?_
    rintro e w' ⟨rfl, rfl⟩
    go_wp2
    go_ret
    exact ⟨rfl, rfl⟩
  · rw [r6]; clear r0 r1 r2 r3 r4 r5 r6
    go_enter Try.func147, Try.ntmps147
    go_wp2_with fail
    refine (c1.out _).mono ?_
    rintro e w' ⟨rfl, rfl⟩
    go_wp2
    go_ret
    exact ⟨rfl, rfl⟩

set_option maxHeartbeats 1600000 in
theorem RUOn_any (u s a t : Int) (w : World) (hs : -9223372036854775808 ≤ s ∧ s ≤ 9223372036854775807) : Calls Try.prog 94 #[.int .i64 u, .int .i64 s, .int .i64 a, .int .i64 t] w fun e w' => e = .returned (.bool (onB u s a t)) ∧ w = w' := by
  have c1 := hid (RUMay_any u w)
  have c2 := hid (RMIn_any a w)
  have c3 := hid (RMIn_any t w)
  unfold onB whichB
  obtain ⟨s0, s1⟩ := hs
  rcases unB_cases u with ⟨e1, u0, u1⟩ | ⟨e1, -⟩
  case inr =>
    rw [e1] at c1 ⊢
    rw [Bool.false_and, Bool.false_and]
    clear e1
    go_enter Try.func94, Try.ntmps94
    go_wp2_with fail
    refine c1.out.mono ?_
    rintro e w' ⟨rfl, rfl⟩
    go_wp2
    go_ret
    exact ⟨rfl, rfl⟩
  rcases win_cases a with ⟨e2, a0, a1⟩ | ⟨e2, -⟩
  case inr =>
    rw [e1] at c1 ⊢
    rw [e2] at c2 ⊢
    rw [Bool.and_false, Bool.false_and]
    clear e1 e2
    go_enter Try.func94, Try.ntmps94
    go_wp2_with fail
    refine c1.out.mono ?_
    rintro e w' ⟨rfl, rfl⟩
    go_wp2_with fail
    refine c2.out.mono ?_
    rintro e w' ⟨rfl, rfl⟩
    go_wp2
    go_ret
    exact ⟨rfl, rfl⟩
  rcases win_cases t with ⟨e3, t0, t1⟩ | ⟨e3, -⟩
  case inr =>
    rw [e1] at c1 ⊢
    rw [e2] at c2 ⊢
    rw [e3] at c3 ⊢
    rw [Bool.and_false, Bool.false_and, Bool.and_false]
    clear e1 e2 e3
    go_enter Try.func94, Try.ntmps94
    go_wp2_with fail
    refine c1.out.mono ?_
    rintro e w' ⟨rfl, rfl⟩
    go_wp2_with fail
    refine c2.out.mono ?_
    rintro e w' ⟨rfl, rfl⟩
    go_wp2_with fail
    refine c3.out.mono ?_
    rintro e w' ⟨rfl, rfl⟩
    go_wp2
    go_ret
    exact ⟨rfl, rfl⟩
  have c4 := hid (RUWhich_yes u t w u0 u1 t0 t1)
  have c5 := hid (RUWhich_yes u a w u0 u1 a0 a1)
  have bt := whU_bd (u := u) t0 t1
  have ba := whU_bd (u := u) a0 a1
  have hI : whichI u t = whU u t ∧ whichI u a = whU u a := by
    unfold whichI whichB; rw [e1, e2, e3]; exact ⟨rfl, rfl⟩
  rw [hI.1, hI.2]
  rw [e1] at c1 ⊢
  rw [e2] at c2 ⊢
  rw [e3] at c3 ⊢
  rw [Bool.true_and, Bool.true_and]
  obtain ⟨x, hx⟩ : ∃ x, whU u a = x := ⟨_, rfl⟩
  obtain ⟨y, hy⟩ : ∃ x, whU u t = x := ⟨_, rfl⟩
  rw [hx] at c5 ba ⊢
  rw [hy] at c4 bt ⊢
  clear hx hy hI e1 e2 e3 a0 a1 t0 t1
  by_cases h1 : 1 ≤ s
  · have hr : Hid (stepB s (y - x) = decide ((y - x) % s = 0)) := by show _ = _; rw [stepB, decide_eq_true h1, Bool.true_and]
    have hns : ¬ s < 1 := by omega
    by_cases hneg : y - x < 0
    · have hr2 : Hid (((-(y - x)) % s == 0) = stepB s (y - x)) := by
        show _ = _
        rw [hr.out, Bool.eq_iff_iff, beq_iff_eq, decide_eq_true_eq, neg_mod_zero]
      have hr3 : Hid ((-(y - x).tmod s == 0) = stepB s (y - x)) := by
        show _ = _
        rw [hr.out, ← tmod_zero, Bool.eq_iff_iff, beq_iff_eq, beq_iff_eq, Int.neg_eq_zero]
      go_enter Try.func94, Try.ntmps94
      go_wp2_with fail
      refine c1.out.mono ?_
      rintro e w' ⟨rfl, rfl⟩
      go_wp2_with fail
      refine c2.out.mono ?_
      rintro e w' ⟨rfl, rfl⟩
      go_wp2_with fail
      refine c3.out.mono ?_
      rintro e w' ⟨rfl, rfl⟩
      go_wp2_with fail
      refine c4.out.mono ?_
      rintro e w' ⟨rfl, rfl⟩
      go_wp2_with fail
      refine c5.out.mono ?_
      rintro e w' ⟨rfl, rfl⟩
      go_wp2
      go_ret
      exact ⟨ret_bool (by first | exact hr3.out | exact hr2.out | (rw [← hr3.out]; rfl)), rfl⟩
    · have hr2 : Hid (((y - x) % s == 0) = stepB s (y - x)) := by
        show _ = _
        rw [hr.out, Bool.eq_iff_iff, beq_iff_eq, decide_eq_true_eq]
      go_enter Try.func94, Try.ntmps94
      go_wp2_with fail
      refine c1.out.mono ?_
      rintro e w' ⟨rfl, rfl⟩
      go_wp2_with fail
      refine c2.out.mono ?_
      rintro e w' ⟨rfl, rfl⟩
      go_wp2_with fail
      refine c3.out.mono ?_
      rintro e w' ⟨rfl, rfl⟩
      go_wp2_with fail
      refine c4.out.mono ?_
      rintro e w' ⟨rfl, rfl⟩
      go_wp2_with fail
      refine c5.out.mono ?_
      rintro e w' ⟨rfl, rfl⟩
      go_wp2
      go_ret
      exact ⟨ret_bool (by rw [← hr2.out]; rfl), rfl⟩
  · have hr : Hid (stepB s (y - x) = false) := by show _ = _; rw [stepB, decide_eq_false h1, Bool.false_and]
    have hns : s < 1 := by omega
    rw [hr.out]
    go_enter Try.func94, Try.ntmps94
    go_wp2_with fail
    refine c1.out.mono ?_
    rintro e w' ⟨rfl, rfl⟩
    go_wp2_with fail
    refine c2.out.mono ?_
    rintro e w' ⟨rfl, rfl⟩
    go_wp2_with fail
    refine c3.out.mono ?_
    rintro e w' ⟨rfl, rfl⟩
    go_wp2
    go_ret
    exact ⟨rfl, rfl⟩
end Go.Proofs.Ytndfckpcbiecnaa

/-
  feriaref13.Day; what the document says of a clause and an instant.
-/
import Derived.Test.YtndfckpcbiecnaaClHasFn
import Derived.Test.YtndfckpcbiecnaaClDate
namespace Go.Proofs.Ytndfckpcbiecnaa
open Go.RowKit
set_option linter.unusedVariables false

attribute [local go_sem ↓] loadAt_cl
/-- has a day a clause, by the document -/
def rdayC (c : Cl) (n : Int) : Bool := mayC c && (dateB c (shF n) && (decide (0 < sizeU c.unit) || onB c.unit c.step c.anchor (86400 * n)))
theorem which_yes {u t : Int} (hu : unB u = true) (ht : winB t = true) : whichB u t = true ∧ whichI u t = whU u t := by
  have h : whichB u t = true := by rw [whichB, hu, ht]; rfl
  exact ⟨h, by rw [whichI, if_pos h]⟩
theorem unit_range {u : Int} (h : unB u = true) : 0 ≤ u ∧ u ≤ 6 := by simpa only [unB, decide_eq_true_eq] using h
theorem win_of {t : Int} (h0 : 0 ≤ t) (h1 : t < 12622780800) : winB t = true := by simp only [winB, decide_eq_true_eq]; exact ⟨h0, h1⟩
theorem stepB_one (d : Int) : stepB 1 d = true := by rw [stepB]; simp
theorem dayOn_on {u s a t : Int} (hu : unB u = true) (ha : winB a = true) (hs : 1 ≤ s) (h0 : 0 ≤ t) (h1 : t < 12622780800) (hz : sizeU u = 0) : dayOn u s a (t / 86400) = onB u s a t := by
  obtain ⟨e1, e2⟩ := which_yes hu ha
  obtain ⟨e3, e4⟩ := which_yes hu (win_of h0 h1)
  have hu3 : 3 ≤ u := sizeU_day hz (unit_range hu).1
  rw [dayOn, onB, e1, e3, e4, whU_day hu3, decide_eq_true hs, Bool.true_and, Bool.true_and, Bool.true_and, Bool.true_and]
  by_cases h : s = 1
  · subst h
    rw [stepB_one, Bool.or_true]
  · rw [decide_eq_false (by omega), Bool.false_or]
theorem dayOn_size {u s a n : Int} (hu : unB u = true) (ha : winB a = true) (hs : 1 ≤ s) (hz : 0 < sizeU u) : dayOn u s a n = true := by
  obtain ⟨e1, e2⟩ := which_yes hu ha
  rw [dayOn, e1, decide_eq_true hs, decide_eq_true (.inl hz)]; rfl
theorem day_eq (c : Cl) (n : Int) (h0 : 0 ≤ n) (h1 : n < 146097) : dayC c n = rdayC c n := by
  cases hm : mayC c
  · rw [dayC, rdayC, hm]; rfl
  · obtain ⟨-, hs, hu, ha⟩ := may_ord hm
    rw [dayC, rdayC]
    rcases sizeU_cases c.unit with hz | hz
    · rw [dayOn_size hu ha hs hz, decide_eq_true hz, Bool.true_or]
    · have e := dayOn_on (t := 86400 * n) hu ha hs (by omega) (by omega) hz
      rw [show 86400 * n / 86400 = n by omega] at e
      rw [e, decide_eq_false (by omega), Bool.false_or]
theorem on_day {u s a t : Int} (hu : unB u = true) (ha : winB a = true) (hs : 1 ≤ s) (h0 : 0 ≤ t) (h1 : t < 12622780800) (h : onB u s a t = true) : dayOn u s a (t / 86400) = true := by
  rcases sizeU_cases u with hz | hz
  · exact dayOn_size hu ha hs hz
  · rw [dayOn_on hu ha hs h0 h1 hz]; exact h
/-- has an instant a clause, by the document -/
def hasR (c : Cl) (t : Int) : Bool := winB t && (mayC c && (!decide (t < c.fr) && (!decide (c.un < t) && (dateB c (shF (t / 86400)) && (onB c.unit c.step c.anchor t && (hasB (c.m 2) (t % 86400 / 3600) && (hasB (c.m 1) (t % 86400 % 3600 / 60) && hasB (c.m 0) (t % 86400 % 60))))))))
theorem has_eq (c : Cl) (t : Int) : hasC c t = hasR c t := by
  rcases win_cases t with ⟨hw, h0, h1⟩ | ⟨hw, h⟩
  · cases hm : mayC c
    · rw [hasC, hasR, hm, Bool.false_and, Bool.false_and]
    · obtain ⟨-, hs, hu, ha⟩ := may_ord hm
      have e1 : todIn (t % 86400) (c.m 2) (c.m 1) (c.m 0) = (hasB (c.m 2) (t % 86400 / 3600) && (hasB (c.m 1) (t % 86400 % 3600 / 60) && hasB (c.m 0) (t % 86400 % 60))) := by
        have hd : dayB (t % 86400) = true := by simp only [dayB, decide_eq_true_eq]; omega
        rw [todIn, hd, show t % 86400 / 60 % 60 = t % 86400 % 3600 / 60 by omega, Bool.true_and]
      have e2 : betB c.fr c.un t = (!decide (t < c.fr) && !decide (c.un < t)) := by
        rw [betB, Bool.eq_iff_iff]
        simp only [Bool.and_eq_true, decide_eq_true_eq, Bool.not_eq_true', decide_eq_false_iff_not]
        omega
      have e3 : dayC c (t / 86400) = (dateB c (shF (t / 86400)) && dayOn c.unit c.step c.anchor (t / 86400)) := by rw [dayC, hm, Bool.true_and]
      rw [hasC, hasR, e1, e2, e3]
      cases ho : onB c.unit c.step c.anchor t
      · simp
      · rw [on_day hu ha hs h0 h1 ho]
        generalize (!decide (t < c.fr)) = x1
        generalize (!decide (c.un < t)) = x2
        generalize dateB c (shF (t / 86400)) = x3
        generalize hasB (c.m 2) (t % 86400 / 3600) = x4
        generalize hasB (c.m 1) (t % 86400 % 3600 / 60) = x5
        generalize hasB (c.m 0) (t % 86400 % 60) = x6
        cases x1 <;> cases x2 <;> cases x3 <;> simp
  · rw [hasC, hasR, hw, Bool.false_and, Bool.false_and]

set_option maxRecDepth 100000 in
set_option maxHeartbeats 3200000 in
theorem RDay13_any (c : Cl) (n : Int) (w : World) (hc : c.Ok) (h0 : 0 ≤ n) (h1 : n < 146097) : Calls Try.prog 37 #[clv c, shN n] w fun e w' => e = .returned (.bool (dayC c n)) ∧ Below w.heap.size w w' := by
  rw [day_eq c n h0 h1, rdayC]
  have HD0 : Hid (DaS w c (shF n) ((w.alloc (.cells (clList c).toArray 28)).alloc (.cells (shList (shF n)).toArray 60))) := daS_new w c (shF n) _ _
  have cM := hid (fun W => RMayCl_any c W hc)
  cases hm : mayC c
  · rw [hm] at cM
    rw [← shq_shF]
    obtain ⟨s, hs⟩ : ∃ s, shF n = s := ⟨_, rfl⟩
    rw [hs] at HD0 ⊢
    clear hs hm
    rw [shq]
    have l0 := HD0.out.1.ld
    go_enter Try.func37, Try.ntmps37
    go_wp2_with fail
    refine (cM.out _).mono ?_
    rintro e w1 ⟨rfl, hB⟩
    have HD1 := hid (HD0.out.keep hB)
    clear hB l0
    go_wp2
    go_ret
    exact ⟨rfl, HD1.out.2.2.1⟩
  · obtain ⟨ho, hst, hu, ha⟩ := may_ord hm
    rw [hm] at cM
    have cD := hid (fun W => RDate13_any c (shF n) W hc ho (shF_wk n) (shF_yr h0 h1))
    have cZ := hid (fun W => RSize_any c.unit W)
    have cO := hid (fun W => RUOn_any c.unit c.step c.anchor (86400 * n) W hc.step)
    have hz := sizeU_cases c.unit
    have hmul := hid (IntWalk.i64_in (86400 * n) (by omega))
    have hn : shF n 0 = n := rfl
    rw [← shq_shF]
    obtain ⟨z, hzz⟩ : ∃ z, sizeU c.unit = z := ⟨_, rfl⟩
    rw [hzz] at cZ hz ⊢
    obtain ⟨b2, hb2⟩ : ∃ b, dateB c (shF n) = b := ⟨_, rfl⟩
    obtain ⟨b3, hb3⟩ : ∃ b, onB c.unit c.step c.anchor (86400 * n) = b := ⟨_, rfl⟩
    rw [hb2] at cD ⊢
    rw [hb3] at cO ⊢
    rw [← hn] at cO hmul
    obtain ⟨s, hs⟩ : ∃ s, shF n = s := ⟨_, rfl⟩
    rw [hs] at HD0 cD cO hmul ⊢
    clear hs hm hn hb2 hb3 hzz hc ho hst hu ha h0 h1
    rw [shq] at cD ⊢
    have l0 := HD0.out.1.ld
    go_enter Try.func37, Try.ntmps37
    go_wp2_with fail
    refine (cM.out _).mono ?_
    rintro e w1 ⟨rfl, hB⟩
    have HD1 := hid (HD0.out.keep hB)
    clear hB l0
    have l1 := HD1.out.1.ld
    obtain ⟨q0, q1, q2, q3, q4, q5, q6, q7, q8, q9⟩ := HD1.out.2.1
    go_wp2_with fail
    refine (cD.out _).mono ?_
    rintro e w2 ⟨rfl, hB⟩
    have HD2 := hid (HD1.out.keep hB)
    clear hB l1 q0 q1 q2 q3 q4 q5 q6 q7 q8 q9
    cases b2
    · go_wp2
      go_ret
      exact ⟨rfl, HD2.out.2.2.1⟩
    obtain ⟨t0, t1, t2, -, -⟩ := HD2.out.1.tail
    obtain ⟨q0, -, -, -, -, -, -, -, -, -⟩ := HD2.out.2.1
    go_wp2_with fail
    refine (cZ.out _).mono ?_
    rintro e w' ⟨rfl, rfl⟩
    rcases hz with hz | hz
    · have hd : decide (0 < z) = true := decide_eq_true hz
      go_wp2
      go_ret
      exact ⟨ret_bool (by rw [hd, Bool.true_or]; rfl), HD2.out.2.2.1⟩
    · subst hz
      have hmu := hmul.out
      go_wp2_with fail
      refine (cO.out _).mono ?_
      rintro e w' ⟨rfl, rfl⟩
      go_wp2
      go_ret
      exact ⟨rfl, HD2.out.2.2.1⟩

end Go.Proofs.Ytndfckpcbiecnaa

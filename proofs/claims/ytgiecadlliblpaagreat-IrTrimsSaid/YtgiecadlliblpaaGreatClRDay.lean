/-
  feriaref13.Day; what the document says of a clause and an instant.
-/
import Derived.Test.YtgiecadlliblpaaGreatClHasFn
import Derived.Test.YtgiecadlliblpaaGreatClDate
namespace Go.Proofs.YtgiecadlliblpaaGreat
open Go.RowKit
set_option linter.unusedVariables false

attribute [local go_sem ↓] loadAt_cl
/-- has a day a clause, by the document -/
def rdayC (c : Cl) (n : Int) : Bool := mayC c && (dateB c (shF n) && (decide (0 < sizeU c.unit) || onB c.unit c.step c.anchor (86400 * n)))
theorem which_yes {u t : Int} (hu : unB u = true) (ht : winB t = true) : whichB u t = true ∧ whichI u t = whU u t := by
  have h : whichB u t = true := by rw [whichB, hu, ht]; rfl
  exact ⟨h, by rw [whichI, if_pos h]⟩
theorem unit_range {u : Int} (h : unB u = true) : 0 ≤ u ∧ u ≤ 6 := by simpa only [unB, decide_eq_true_eq] using h
theorem win_of {t : Int} (h0 : 0 ≤ t) (h1 : t < 12622780800) : winB t = true := by simp only [winB, decide_eq_true_eq]; exact ⟨h0, h1⟩
theorem stepB_one (d : Int) : stepB 1 d = true := by rw [stepB]; simp
theorem dayOn_on {u s a t : Int} (hu : unB u = true) (ha : winB a = true) (hs : 1 ≤ s) (h0 : 0 ≤ t) (h1 : t < 12622780800) (hz : sizeU u = 0) : dayOn u s a (t / 86400) = onB u s a t := by
  obtain ⟨e1, e2⟩ := which_yes hu ha
  obtain ⟨e3, e4⟩ := which_yes hu (win_of h0 h1)
  have hu3 : 3 ≤ u := sizeU_day hz (unit_range hu).1
  rw [dayOn, onB, e1, e3, e4, whU_day hu3, decide_eq_true hs, Bool.true_and, Bool.true_and, Bool.true_and, Bool.true_and]
  by_cases h : s = 1
  · subst h
    rw [stepB_one, Bool.or_true]
  · rw [decide_eq_false (by omega), Bool.false_or]
theorem dayOn_size {u s a n : Int} (hu : unB u = true) (ha : winB a = true) (hs : 1 ≤ s) (hz : 0 < sizeU u) : dayOn u s a n = true := by
  obtain ⟨e1, e2⟩ := which_yes hu ha
  rw [dayOn, e1, decide_eq_true hs, decide_eq_true (.inl hz)]; rfl
theorem day_eq (c : Cl) (n : Int) (h0 : 0 ≤ n) (h1 : n < 146097) : dayC c n = rdayC c n := by
  cases hm : mayC c
  · rw [dayC, rdayC, hm]; rfl
  · obtain ⟨-, hs, hu, ha⟩ := may_ord hm
    rw [dayC, rdayC]
    rcases sizeU_cases c.unit with hz | hz
    · rw [dayOn_size hu ha hs hz, decide_eq_true hz, Bool.true_or]
    · have e := dayOn_on (t := 86400 * n) hu ha hs (by omega) (by omega) hz
      rw [show 86400 * n / 86400 = n by omega] at e
      rw [e, decide_eq_false (by omega), Bool.false_or]
theorem on_day {u s a t : Int} (hu : unB u = true) (ha : winB a = true) (hs : 1 ≤ s) (h0 : 0 ≤ t) (h1 : t < 12622780800) (h : onB u s a t = true) : dayOn u s a (t / 86400) = true := by
  rcases sizeU_cases u with hz | hz
  · exact dayOn_size hu ha hs hz
  · rw [dayOn_on hu ha hs h0 h1 hz]; exact h
/-- has an instant a clause, by the document -/
def hasR (c : Cl) (t : Int) : Bool := winB t && (mayC c && (!decide (t < c.fr) && (!decide (c.un < t) && (dateB c (shF (t / 86400)) && (onB c.unit c.step c.anchor t && (hasB (c.m 2) (t % 86400 / 3600) && (hasB (c.m 1) (t % 86400 % 3600 / 60) && hasB (c.m 0) (t % 86400 % 60))))))))
theorem has_eq (c : Cl) (t : Int) : hasC c t = hasR c t := by
  rcases win_cases t with ⟨hw, h0, h1⟩ | ⟨hw, h⟩
  · cases hm : mayC c
    · rw [hasC, hasR, hm, Bool.false_and, Bool.false_and]
    · obtain ⟨-, hs, hu, ha⟩ := may_ord hm
      have e1 : todIn (t % 86400) (c.m 2) (c.m 1) (c.m 0) = (hasB (c.m 2) (t % 86400 / 3600) && (hasB (c.m 1) (t % 86400 % 3600 / 60) && hasB (c.m 0) (t % 86400 % 60))) := by
        have hd : dayB (t % 86400) = true := by simp only [dayB, decide_eq_true_eq]; omega
        rw [todIn, hd, show t % 86400 / 60 % 60 = t % 86400 % 3600 / 60 by omega, Bool.true_and]
      have e2 : betB c.fr c.un t = (!decide (t < c.fr) && !decide (c.un < t)) := by
        rw [betB, Bool.eq_iff_iff]
        simp only [Bool.and_eq_true, decide_eq_true_eq, Bool.not_eq_true', decide_eq_false_iff_not]
        omega
      have e3 : dayC c (t / 86400) = (dateB c (shF (t / 86400)) && dayOn c.unit c.step c.anchor (t / 86400)) := by rw [dayC, hm, Bool.true_and]
      rw [hasC, hasR, e1, e2, e3]
      cases ho : onB c.unit c.step c.anchor t
      · simp
      · rw [on_day hu ha hs h0 h1 ho]
        generalize (!decide (t < c.fr)) = x1
        generalize (!decide (c.un < t)) = x2
        generalize dateB c (shF (t / 86400)) = x3
        generalize hasB (c.m 2) (t % 86400 / 3600) = x4
        generalize hasB (c.m 1) (t % 86400 % 3600 / 60) = x5
        generalize hasB (c.m 0) (t % 86400 % 60) = x6
        cases x1 <;> cases x2 <;> cases x3 <;> simp
  · rw [hasC, hasR, hw, Bool.false_and, Bool.false_and]

end Go.Proofs.YtgiecadlliblpaaGreat

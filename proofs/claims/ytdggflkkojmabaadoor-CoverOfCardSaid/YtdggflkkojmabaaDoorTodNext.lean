/-
  What tod.held, tod.from, tod.Next and feriaref07.In compute.
-/
import Derived.Test.YtdggflkkojmabaaDoorTod
namespace Go.Proofs.YtdggflkkojmabaaDoor
open Go.RowKit
set_option linter.unusedVariables false

/-- a mask's numbers up to t -/
def cutM (m : Nat) (t : Int) : Nat := m &&& spanM 0 t 1
theorem cutM_lt {m : Nat} (t : Int) (hm : m < 18446744073709551616) : cutM m t < 18446744073709551616 := and_lt (b := spanM 0 t 1) hm
theorem cutM_test (m : Nat) (t : Int) (k : Nat) : (cutM m t).testBit k = (m.testBit k && (decide (k < 64) && decide ((k : Int) ≤ t))) := by
  rw [cutM, Nat.testBit_and, spanM, mk_test]
  congr 2
  rw [spanB, Bool.eq_iff_iff]
  simp only [decide_eq_true_eq]
  omega

theorem Held_any (hs ms ss : Nat) (w : World) (hh : hs < 18446744073709551616) (hm : ms < 18446744073709551616) (hss : ss < 18446744073709551616) :
    Calls Tryd.prog 92 #[.int .u64 hs, .int .u64 ms, .int .u64 ss] w fun e w' => e = .returned (.tuple #[.int .u64 (cutM hs 23), .int .u64 (cutM ms 59), .int .u64 (cutM ss 59)]) ∧ w = w' := by
  have e1 := hid (bits_and hh (mk_lt (spanB 0 23 1)))
  have e2 := hid (bits_and hm (mk_lt (spanB 0 59 1)))
  have e3 := hid (bits_and hss (mk_lt (spanB 0 59 1)))
  have H1 := hid (Span_any 0 23 1 w (by omega) (by omega))
  have H2 := hid (Span_any 0 59 1 w (by omega) (by omega))
  go_enter Tryd.func92, Tryd.ntmps92
  go_wp2_with fail
  refine H2.out.mono ?_
  rintro e w' ⟨rfl, rfl⟩
  go_wp2_with fail
  refine H1.out.mono ?_
  rintro e w' ⟨rfl, rfl⟩
  go_wp2
  refine bodyPost_ret (v := .tuple #[.int .u64 (cutM hs 23), .int .u64 (cutM ms 59), .int .u64 (cutM ss 59)]) ?_ rfl ⟨rfl, rfl⟩
  simp [results, Tryd.results92, go_sem]
  exact ⟨e1.out, e2.out, e3.out⟩

theorem leastI_bd (m : Nat) (hm : m < 18446744073709551616) : 0 ≤ leastI m ∧ leastI m ≤ 63 := by
  unfold leastI; split
  · omega
  · have := (lsb_spec (by assumption) hm).1; omega

theorem From_any (m : Nat) (n : Int) (w : World) (hm : m < 18446744073709551616) (hT : Tab w) (hn : 0 ≤ n ∧ n ≤ 63) :
    Calls Tryd.prog 97 #[.int .u64 m, .int .i64 n] w fun e w' => e = .returned (.tuple #[.int .i64 (leastI (aboveM m (n - 1))), .bool (leastB (aboveM m (n - 1)))]) ∧ w = w' := by
  have H := hid (Next_any m (n - 1) w hm hT)
  obtain ⟨h1, h2⟩ := hn
  go_enter Tryd.func97, Tryd.ntmps97
  go_wp2_with fail
  refine H.out.mono ?_
  rintro e w' ⟨rfl, rfl⟩
  go_wp2
  go_ret2
  exact ⟨rfl, rfl⟩

def nextT (t : Int) (a b c : Nat) : Int × Bool :=
  if (hasB a (t / 3600) && (hasB b (t / 60 % 60) && leastB (aboveM c (t % 60 - 1)))) = true then (t / 3600 * 3600 + t / 60 % 60 * 60 + leastI (aboveM c (t % 60 - 1)), true)
  else if (hasB a (t / 3600) && leastB (aboveM b (t / 60 % 60))) = true then (t / 3600 * 3600 + leastI (aboveM b (t / 60 % 60)) * 60 + leastI c, true)
  else if leastB (aboveM a (t / 3600)) = true then (leastI (aboveM a (t / 3600)) * 3600 + leastI b * 60 + leastI c, true)
  else (0, false)
def nextF (s : Int) (a b c : Nat) : Int × Bool :=
  if a = 0 ∨ b = 0 ∨ c = 0 ∨ 86400 ≤ s then (0, false) else nextT (max s 0) a b c

set_option maxHeartbeats 1600000 in
theorem TNext_any (s : Int) (hs ms ss : Nat) (w : World) (hh : hs < 18446744073709551616) (hm : ms < 18446744073709551616) (hss : ss < 18446744073709551616) (hT : Tab w) :
    Calls Tryd.prog 66 #[.int .i64 s, .int .u64 hs, .int .u64 ms, .int .u64 ss] w fun e w' => e = .returned (.tuple #[.int .i64 (nextF s (cutM hs 23) (cutM ms 59) (cutM ss 59)).1, .bool (nextF s (cutM hs 23) (cutM ms 59) (cutM ss 59)).2]) ∧ w = w' := by
  have ha := cutM_lt 23 hh
  have hb := cutM_lt 59 hm
  have hc := cutM_lt 59 hss
  have Hh := hid (Held_any hs ms ss w hh hm hss)
  clear hh hm hss
  obtain ⟨a, ea⟩ : ∃ a, cutM hs 23 = a := ⟨_, rfl⟩
  obtain ⟨b, eb⟩ : ∃ a, cutM ms 59 = a := ⟨_, rfl⟩
  obtain ⟨c, ec⟩ : ∃ a, cutM ss 59 = a := ⟨_, rfl⟩
  rw [ea, eb, ec] at Hh ⊢
  rw [ea] at ha
  rw [eb] at hb
  rw [ec] at hc
  clear ea eb ec
  by_cases h4 : a = 0 ∨ b = 0 ∨ c = 0 ∨ 86400 ≤ s
  · have hr : nextF s a b c = (0, false) := if_pos h4
    rw [hr]
    clear hr
    by_cases a1 : a = 0
    · subst a1
      go_enter Tryd.func66, Tryd.ntmps66
      go_wp2_with (go_at_call 92; refine Hh.out.mono ?_; rintro e w' ⟨rfl, rfl⟩)
      go_ret2
      exact ⟨rfl, rfl⟩
    by_cases a2 : b = 0
    · subst a2
      go_enter Tryd.func66, Tryd.ntmps66
      go_wp2_with (go_at_call 92; refine Hh.out.mono ?_; rintro e w' ⟨rfl, rfl⟩)
      go_ret2
      exact ⟨rfl, rfl⟩
    by_cases a3 : c = 0
    · subst a3
      go_enter Tryd.func66, Tryd.ntmps66
      go_wp2_with (go_at_call 92; refine Hh.out.mono ?_; rintro e w' ⟨rfl, rfl⟩)
      go_ret2
      exact ⟨rfl, rfl⟩
    · have h5 : 86400 ≤ s := by omega
      clear h4
      go_enter Tryd.func66, Tryd.ntmps66
      go_wp2_with (go_at_call 92; refine Hh.out.mono ?_; rintro e w' ⟨rfl, rfl⟩)
      go_ret2
      exact ⟨rfl, rfl⟩
  · have hr : nextF s a b c = nextT (max s 0) a b c := if_neg h4
    rw [hr]
    clear hr
    have t1 : ((a : Int) == 0) = false := by simp only [beq_eq_false_iff_ne, ne_eq]; omega
    have t2 : ((b : Int) == 0) = false := by simp only [beq_eq_false_iff_ne, ne_eq]; omega
    have t3 : ((c : Int) == 0) = false := by simp only [beq_eq_false_iff_ne, ne_eq]; omega
    have t4 : s < 86400 := by omega
    clear h4
    have hm0 : 0 ≤ max s 0 ∧ max s 0 < 86400 := by omega
    obtain ⟨t, et⟩ : ∃ t, max s 0 = t := ⟨_, rfl⟩
    have Hp : Hid (Calls Tryd.prog 41 #[.int .i64 (max s 0)] w fun e w' => e = .returned (.tuple #[.int .i64 (t / 3600), .int .i64 (t / 60 % 60), .int .i64 (t % 60), .bool true]) ∧ w = w') := by rw [← et]; exact Parts_yes (max s 0) w hm0.1 hm0.2
    rw [et] at hm0 ⊢
    clear et
    unfold nextT
    have q1 : 0 ≤ t / 3600 ∧ t / 3600 ≤ 23 := by omega
    have q2 : 0 ≤ t / 60 % 60 ∧ t / 60 % 60 ≤ 59 := by omega
    have q3 : 0 ≤ t % 60 ∧ t % 60 ≤ 59 := by omega
    obtain ⟨u, eh⟩ : ∃ x, t / 3600 = x := ⟨_, rfl⟩
    obtain ⟨m, em⟩ : ∃ x, t / 60 % 60 = x := ⟨_, rfl⟩
    obtain ⟨z, ez⟩ : ∃ x, t % 60 = x := ⟨_, rfl⟩
    rw [eh, em, ez] at Hp ⊢
    rw [eh] at q1
    rw [em] at q2
    rw [ez] at q3
    clear eh em ez
    have HP : (0 < s ∧ Hid (Calls Tryd.prog 41 #[.int .i64 s] w fun e w' => e = .returned (.tuple #[.int .i64 u, .int .i64 m, .int .i64 z, .bool true]) ∧ w = w')) ∨ ((s < 0 ∨ s = 0) ∧ Hid (Calls Tryd.prog 41 #[.int .i64 0] w fun e w' => e = .returned (.tuple #[.int .i64 u, .int .i64 m, .int .i64 z, .bool true]) ∧ w = w')) := by
      have := Hp.out
      by_cases h0 : 0 < s
      · rw [show max s 0 = s by omega] at this; exact .inl ⟨h0, this⟩
      · rw [show max s 0 = 0 by omega] at this; exact .inr ⟨by omega, this⟩
    clear Hp
    have c1 := hid (Has_any a u w ha)
    have c2 := hid (Has_any b m w hb)
    have c3 := hid (From_any c z w hc hT (by omega))
    have c4 := hid (Next_any b m w hb hT)
    have c5 := hid (Next_any a u w ha hT)
    have c6 := hid (Least_any b w hb hT)
    have c7 := hid (Least_any c w hc hT)
    have b1 := leastI_bd (aboveM c (z - 1)) (aboveM_lt hc)
    have b2 := leastI_bd (aboveM b m) (aboveM_lt hb)
    have b3 := leastI_bd (aboveM a u) (aboveM_lt ha)
    have b4 := leastI_bd b hb
    have b5 := leastI_bd c hc
    obtain ⟨x1, e1⟩ : ∃ x, leastI (aboveM c (z - 1)) = x := ⟨_, rfl⟩
    obtain ⟨x2, e2⟩ : ∃ x, leastI (aboveM b m) = x := ⟨_, rfl⟩
    obtain ⟨x3, e3⟩ : ∃ x, leastI (aboveM a u) = x := ⟨_, rfl⟩
    obtain ⟨x4, e4⟩ : ∃ x, leastI b = x := ⟨_, rfl⟩
    obtain ⟨x5, e5⟩ : ∃ x, leastI c = x := ⟨_, rfl⟩
    obtain ⟨y1, f1⟩ : ∃ x, leastB (aboveM c (z - 1)) = x := ⟨_, rfl⟩
    obtain ⟨y2, f2⟩ : ∃ x, leastB (aboveM b m) = x := ⟨_, rfl⟩
    obtain ⟨y3, f3⟩ : ∃ x, leastB (aboveM a u) = x := ⟨_, rfl⟩
    obtain ⟨g1, f4⟩ : ∃ x, hasB a u = x := ⟨_, rfl⟩
    obtain ⟨g2, f5⟩ : ∃ x, hasB b m = x := ⟨_, rfl⟩
    rw [e1, e2, e3, e4, e5, f1, f2, f3, f4, f5]
    rw [f4] at c1
    rw [f5] at c2
    rw [e1, f1] at c3
    rw [e2, f2] at c4
    rw [e3, f3] at c5
    rw [e4] at c6
    rw [e5] at c7
    rw [e1] at b1
    rw [e2] at b2
    rw [e3] at b3
    rw [e4] at b4
    rw [e5] at b5
    clear e1 e2 e3 e4 e5 f1 f2 f3 f4 f5 hT hm0
    have Ha := hid ha
    have Hb := hid hb
    have Hc := hid hc
    clear ha hb hc
    obtain ⟨q11, q12⟩ := q1
    obtain ⟨q21, q22⟩ := q2
    obtain ⟨q31, q32⟩ := q3
    obtain ⟨b11, b12⟩ := b1
    obtain ⟨b21, b22⟩ := b2
    obtain ⟨b31, b32⟩ := b3
    obtain ⟨b41, b42⟩ := b4
    obtain ⟨b51, b52⟩ := b5
    cases g1
    · cases y3
      · simp only [Bool.false_and, Bool.false_eq_true, ↓reduceIte]
        rcases HP with ⟨hs0, Hp⟩ | ⟨hs0 | rfl, Hp⟩
        all_goals
        go_enter Tryd.func66, Tryd.ntmps66
        go_wp2_with (first
          | (go_at_call 92; refine Hh.out.mono ?_; rintro e w' ⟨rfl, rfl⟩)
          | (go_at_call 41; refine Hp.out.mono ?_; rintro e w' ⟨rfl, rfl⟩)
          | (go_at_call 23; first | (with_reducible refine c1.out.mono ?_; rintro e w' ⟨rfl, rfl⟩) | (with_reducible refine c2.out.mono ?_; rintro e w' ⟨rfl, rfl⟩))
          | (go_at_call 97; refine c3.out.mono ?_; rintro e w' ⟨rfl, rfl⟩)
          | (go_at_call 37; first | (with_reducible refine c4.out.mono ?_; rintro e w' ⟨rfl, rfl⟩) | (with_reducible refine c5.out.mono ?_; rintro e w' ⟨rfl, rfl⟩))
          | (go_at_call 36; first | (with_reducible refine c6.out.mono ?_; rintro e w' ⟨rfl, rfl⟩) | (with_reducible refine c7.out.mono ?_; rintro e w' ⟨rfl, rfl⟩)))
        all_goals (refine bodyPost_ret (v := _) ?_ rfl ⟨rfl, rfl⟩; simp [results, Tryd.results66, go_sem])
      · simp only [Bool.false_and, Bool.false_eq_true, ↓reduceIte]
        rcases HP with ⟨hs0, Hp⟩ | ⟨hs0 | rfl, Hp⟩
        all_goals
        go_enter Tryd.func66, Tryd.ntmps66
        go_wp2_with (first
          | (go_at_call 92; refine Hh.out.mono ?_; rintro e w' ⟨rfl, rfl⟩)
          | (go_at_call 41; refine Hp.out.mono ?_; rintro e w' ⟨rfl, rfl⟩)
          | (go_at_call 23; first | (with_reducible refine c1.out.mono ?_; rintro e w' ⟨rfl, rfl⟩) | (with_reducible refine c2.out.mono ?_; rintro e w' ⟨rfl, rfl⟩))
          | (go_at_call 97; refine c3.out.mono ?_; rintro e w' ⟨rfl, rfl⟩)
          | (go_at_call 37; first | (with_reducible refine c4.out.mono ?_; rintro e w' ⟨rfl, rfl⟩) | (with_reducible refine c5.out.mono ?_; rintro e w' ⟨rfl, rfl⟩))
          | (go_at_call 36; first | (with_reducible refine c6.out.mono ?_; rintro e w' ⟨rfl, rfl⟩) | (with_reducible refine c7.out.mono ?_; rintro e w' ⟨rfl, rfl⟩)))
        all_goals (refine bodyPost_ret (v := _) ?_ rfl ⟨rfl, rfl⟩; simp [results, Tryd.results66, go_sem])
    · cases g2
      · cases y2
        · cases y3
          · simp only [Bool.false_and, Bool.and_false, Bool.false_eq_true, ↓reduceIte]
            rcases HP with ⟨hs0, Hp⟩ | ⟨hs0 | rfl, Hp⟩
            all_goals
            go_enter Tryd.func66, Tryd.ntmps66
            go_wp2_with (first
              | (go_at_call 92; refine Hh.out.mono ?_; rintro e w' ⟨rfl, rfl⟩)
              | (go_at_call 41; refine Hp.out.mono ?_; rintro e w' ⟨rfl, rfl⟩)
              | (go_at_call 23; first | (with_reducible refine c1.out.mono ?_; rintro e w' ⟨rfl, rfl⟩) | (with_reducible refine c2.out.mono ?_; rintro e w' ⟨rfl, rfl⟩))
              | (go_at_call 97; refine c3.out.mono ?_; rintro e w' ⟨rfl, rfl⟩)
              | (go_at_call 37; first | (with_reducible refine c4.out.mono ?_; rintro e w' ⟨rfl, rfl⟩) | (with_reducible refine c5.out.mono ?_; rintro e w' ⟨rfl, rfl⟩))
              | (go_at_call 36; first | (with_reducible refine c6.out.mono ?_; rintro e w' ⟨rfl, rfl⟩) | (with_reducible refine c7.out.mono ?_; rintro e w' ⟨rfl, rfl⟩)))
            all_goals (refine bodyPost_ret (v := _) ?_ rfl ⟨rfl, rfl⟩; simp [results, Tryd.results66, go_sem])
          · simp only [Bool.false_and, Bool.and_false, Bool.false_eq_true, ↓reduceIte]
            rcases HP with ⟨hs0, Hp⟩ | ⟨hs0 | rfl, Hp⟩
            all_goals
            go_enter Tryd.func66, Tryd.ntmps66
            go_wp2_with (first
              | (go_at_call 92; refine Hh.out.mono ?_; rintro e w' ⟨rfl, rfl⟩)
              | (go_at_call 41; refine Hp.out.mono ?_; rintro e w' ⟨rfl, rfl⟩)
              | (go_at_call 23; first | (with_reducible refine c1.out.mono ?_; rintro e w' ⟨rfl, rfl⟩) | (with_reducible refine c2.out.mono ?_; rintro e w' ⟨rfl, rfl⟩))
              | (go_at_call 97; refine c3.out.mono ?_; rintro e w' ⟨rfl, rfl⟩)
              | (go_at_call 37; first | (with_reducible refine c4.out.mono ?_; rintro e w' ⟨rfl, rfl⟩) | (with_reducible refine c5.out.mono ?_; rintro e w' ⟨rfl, rfl⟩))
              | (go_at_call 36; first | (with_reducible refine c6.out.mono ?_; rintro e w' ⟨rfl, rfl⟩) | (with_reducible refine c7.out.mono ?_; rintro e w' ⟨rfl, rfl⟩)))
            all_goals (refine bodyPost_ret (v := _) ?_ rfl ⟨rfl, rfl⟩; simp [results, Tryd.results66, go_sem])
        · simp only [Bool.false_and, Bool.and_true, Bool.and_false, Bool.false_eq_true, ↓reduceIte]
          rcases HP with ⟨hs0, Hp⟩ | ⟨hs0 | rfl, Hp⟩
          all_goals
          go_enter Tryd.func66, Tryd.ntmps66
          go_wp2_with (first
            | (go_at_call 92; refine Hh.out.mono ?_; rintro e w' ⟨rfl, rfl⟩)
            | (go_at_call 41; refine Hp.out.mono ?_; rintro e w' ⟨rfl, rfl⟩)
            | (go_at_call 23; first | (with_reducible refine c1.out.mono ?_; rintro e w' ⟨rfl, rfl⟩) | (with_reducible refine c2.out.mono ?_; rintro e w' ⟨rfl, rfl⟩))
            | (go_at_call 97; refine c3.out.mono ?_; rintro e w' ⟨rfl, rfl⟩)
            | (go_at_call 37; first | (with_reducible refine c4.out.mono ?_; rintro e w' ⟨rfl, rfl⟩) | (with_reducible refine c5.out.mono ?_; rintro e w' ⟨rfl, rfl⟩))
            | (go_at_call 36; first | (with_reducible refine c6.out.mono ?_; rintro e w' ⟨rfl, rfl⟩) | (with_reducible refine c7.out.mono ?_; rintro e w' ⟨rfl, rfl⟩)))
          all_goals (refine bodyPost_ret (v := _) ?_ rfl ⟨rfl, rfl⟩; simp [results, Tryd.results66, go_sem])
      · cases y1
        · cases y2
          · cases y3
            · simp only [Bool.and_false, Bool.false_eq_true, ↓reduceIte]
              rcases HP with ⟨hs0, Hp⟩ | ⟨hs0 | rfl, Hp⟩
              all_goals
              go_enter Tryd.func66, Tryd.ntmps66
              go_wp2_with (first
                | (go_at_call 92; refine Hh.out.mono ?_; rintro e w' ⟨rfl, rfl⟩)
                | (go_at_call 41; refine Hp.out.mono ?_; rintro e w' ⟨rfl, rfl⟩)
                | (go_at_call 23; first | (with_reducible refine c1.out.mono ?_; rintro e w' ⟨rfl, rfl⟩) | (with_reducible refine c2.out.mono ?_; rintro e w' ⟨rfl, rfl⟩))
                | (go_at_call 97; refine c3.out.mono ?_; rintro e w' ⟨rfl, rfl⟩)
                | (go_at_call 37; first | (with_reducible refine c4.out.mono ?_; rintro e w' ⟨rfl, rfl⟩) | (with_reducible refine c5.out.mono ?_; rintro e w' ⟨rfl, rfl⟩))
                | (go_at_call 36; first | (with_reducible refine c6.out.mono ?_; rintro e w' ⟨rfl, rfl⟩) | (with_reducible refine c7.out.mono ?_; rintro e w' ⟨rfl, rfl⟩)))
              all_goals (refine bodyPost_ret (v := _) ?_ rfl ⟨rfl, rfl⟩; simp [results, Tryd.results66, go_sem])
            · simp only [Bool.and_false, Bool.false_eq_true, ↓reduceIte]
              rcases HP with ⟨hs0, Hp⟩ | ⟨hs0 | rfl, Hp⟩
              all_goals
              go_enter Tryd.func66, Tryd.ntmps66
              go_wp2_with (first
                | (go_at_call 92; refine Hh.out.mono ?_; rintro e w' ⟨rfl, rfl⟩)
                | (go_at_call 41; refine Hp.out.mono ?_; rintro e w' ⟨rfl, rfl⟩)
                | (go_at_call 23; first | (with_reducible refine c1.out.mono ?_; rintro e w' ⟨rfl, rfl⟩) | (with_reducible refine c2.out.mono ?_; rintro e w' ⟨rfl, rfl⟩))
                | (go_at_call 97; refine c3.out.mono ?_; rintro e w' ⟨rfl, rfl⟩)
                | (go_at_call 37; first | (with_reducible refine c4.out.mono ?_; rintro e w' ⟨rfl, rfl⟩) | (with_reducible refine c5.out.mono ?_; rintro e w' ⟨rfl, rfl⟩))
                | (go_at_call 36; first | (with_reducible refine c6.out.mono ?_; rintro e w' ⟨rfl, rfl⟩) | (with_reducible refine c7.out.mono ?_; rintro e w' ⟨rfl, rfl⟩)))
              all_goals (refine bodyPost_ret (v := _) ?_ rfl ⟨rfl, rfl⟩; simp [results, Tryd.results66, go_sem])
          · simp only [Bool.and_true, Bool.and_false, Bool.false_eq_true, ↓reduceIte]
            rcases HP with ⟨hs0, Hp⟩ | ⟨hs0 | rfl, Hp⟩
            all_goals
            go_enter Tryd.func66, Tryd.ntmps66
            go_wp2_with (first
              | (go_at_call 92; refine Hh.out.mono ?_; rintro e w' ⟨rfl, rfl⟩)
              | (go_at_call 41; refine Hp.out.mono ?_; rintro e w' ⟨rfl, rfl⟩)
              | (go_at_call 23; first | (with_reducible refine c1.out.mono ?_; rintro e w' ⟨rfl, rfl⟩) | (with_reducible refine c2.out.mono ?_; rintro e w' ⟨rfl, rfl⟩))
              | (go_at_call 97; refine c3.out.mono ?_; rintro e w' ⟨rfl, rfl⟩)
              | (go_at_call 37; first | (with_reducible refine c4.out.mono ?_; rintro e w' ⟨rfl, rfl⟩) | (with_reducible refine c5.out.mono ?_; rintro e w' ⟨rfl, rfl⟩))
              | (go_at_call 36; first | (with_reducible refine c6.out.mono ?_; rintro e w' ⟨rfl, rfl⟩) | (with_reducible refine c7.out.mono ?_; rintro e w' ⟨rfl, rfl⟩)))
            all_goals (refine bodyPost_ret (v := _) ?_ rfl ⟨rfl, rfl⟩; simp [results, Tryd.results66, go_sem])
        · simp only [Bool.and_true, ↓reduceIte]
          rcases HP with ⟨hs0, Hp⟩ | ⟨hs0 | rfl, Hp⟩
          all_goals
          go_enter Tryd.func66, Tryd.ntmps66
          go_wp2_with (first
            | (go_at_call 92; refine Hh.out.mono ?_; rintro e w' ⟨rfl, rfl⟩)
            | (go_at_call 41; refine Hp.out.mono ?_; rintro e w' ⟨rfl, rfl⟩)
            | (go_at_call 23; first | (with_reducible refine c1.out.mono ?_; rintro e w' ⟨rfl, rfl⟩) | (with_reducible refine c2.out.mono ?_; rintro e w' ⟨rfl, rfl⟩))
            | (go_at_call 97; refine c3.out.mono ?_; rintro e w' ⟨rfl, rfl⟩)
            | (go_at_call 37; first | (with_reducible refine c4.out.mono ?_; rintro e w' ⟨rfl, rfl⟩) | (with_reducible refine c5.out.mono ?_; rintro e w' ⟨rfl, rfl⟩))
            | (go_at_call 36; first | (with_reducible refine c6.out.mono ?_; rintro e w' ⟨rfl, rfl⟩) | (with_reducible refine c7.out.mono ?_; rintro e w' ⟨rfl, rfl⟩)))
          all_goals (refine bodyPost_ret (v := _) ?_ rfl ⟨rfl, rfl⟩; simp [results, Tryd.results66, go_sem])

theorem in_parts {s : Int} (h0 : 0 ≤ s) : s % 3600 / 60 = s / 60 % 60 := by omega

set_option maxHeartbeats 800000 in
theorem RIn_any (s : Int) (hs ms ss : Nat) (w : World) (hh : hs < 18446744073709551616) (hm : ms < 18446744073709551616) (hss : ss < 18446744073709551616) :
    Calls Tryd.prog 43 #[.int .i64 s, .int .u64 hs, .int .u64 ms, .int .u64 ss] w fun e w' => e = .returned (.bool (todIn s hs ms ss)) ∧ w = w' := by
  rcases day_cases s with ⟨hd, h0, h1⟩ | ⟨hd, h⟩
  · have hr : todIn s hs ms ss = (hasB hs (s / 3600) && (hasB ms (s / 60 % 60) && hasB ss (s % 60))) := by simp [todIn, hd]
    have e := in_parts h0
    have H1 := hid (RHas_any hs (s / 3600) w hh)
    have H2 := hid (RHas_any ms (s % 3600 / 60) w hm)
    have H3 := hid (RHas_any ss (s % 60) w hss)
    rw [hr, ← e]
    clear e hr hd
    obtain ⟨b1, hb1⟩ : ∃ b, hasB hs (s / 3600) = b := ⟨_, rfl⟩
    obtain ⟨b2, hb2⟩ : ∃ b, hasB ms (s % 3600 / 60) = b := ⟨_, rfl⟩
    obtain ⟨b3, hb3⟩ : ∃ b, hasB ss (s % 60) = b := ⟨_, rfl⟩
    rw [hb1, hb2, hb3]
    rw [hb1] at H1
    rw [hb2] at H2
    rw [hb3] at H3
    clear hb1 hb2 hb3
    cases b1
    · go_enter Tryd.func43, Tryd.ntmps43
      go_wp2_with fail
      refine H1.out.mono ?_
      rintro e w' ⟨rfl, rfl⟩
      go_wp2
      go_ret
      exact ⟨rfl, rfl⟩
    cases b2
    · go_enter Tryd.func43, Tryd.ntmps43
      go_wp2_with fail
      refine H1.out.mono ?_
      rintro e w' ⟨rfl, rfl⟩
      go_wp2_with fail
      refine H2.out.mono ?_
      rintro e w' ⟨rfl, rfl⟩
      go_wp2
      go_ret
      exact ⟨rfl, rfl⟩
    · go_enter Tryd.func43, Tryd.ntmps43
      go_wp2_with fail
      refine H1.out.mono ?_
      rintro e w' ⟨rfl, rfl⟩
      go_wp2_with fail
      refine H2.out.mono ?_
      rintro e w' ⟨rfl, rfl⟩
      go_wp2_with fail
      refine H3.out.mono ?_
      rintro e w' ⟨rfl, rfl⟩
      go_wp2
      go_ret
      exact ⟨rfl, rfl⟩
  · have hr : todIn s hs ms ss = false := by simp [todIn, hd]
    rw [hr]
    clear hr hd
    rcases h with h | h
    · go_enter Tryd.func43, Tryd.ntmps43
      go_wp2
      go_ret
      exact ⟨rfl, rfl⟩
    · go_enter Tryd.func43, Tryd.ntmps43
      go_wp2
      go_ret
      exact ⟨rfl, rfl⟩
end Go.Proofs.YtdggflkkojmabaaDoor

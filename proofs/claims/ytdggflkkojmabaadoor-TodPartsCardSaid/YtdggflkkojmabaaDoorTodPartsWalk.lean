/-
  ferialaw07.TodParts answers true for every second, parts and masks.
-/
import Derived.Test.YtdggflkkojmabaaDoorTodNext
import Derived.Test.YtdggflkkojmabaaDoorMaskSpansWalk
import Derived.Deep.RegionHeld3
namespace Go.Proofs.YtdggflkkojmabaaDoor
open Go.RowKit
set_option linter.unusedVariables false

theorem lives07_facts : todI 1 2 3 = 3723 ∧ todB 1 2 3 = true ∧ (nextF 3724 (cutM 2 23) (cutM 4 59) (cutM 1073741825 59)).1 = 3750 ∧ (nextF 3724 (cutM 2 23) (cutM 4 59) (cutM 1073741825 59)).2 = true := by
  refine ⟨?_, ?_, ?_, ?_⟩ <;> decide +kernel

theorem lives07_any (w : World) (hT : Tab w) : Calls Tryd.prog 44 #[] w fun e w' => e = .returned (.bool true) ∧ w = w' := by
  obtain ⟨h1, h2, h3, h4⟩ := lives07_facts
  have hn := TNext_any 3724 2 4 1073741825 w (by omega) (by omega) (by omega) hT
  rw [h3, h4] at hn
  have ho := TOf_any 1 2 3 w
  rw [h1, h2] at ho
  have Hn := hid hn
  have Ho := hid ho
  clear hn ho h1 h2 h3 h4
  go_enter Tryd.func44, Tryd.ntmps44
  go_wp2_with fail
  refine Ho.out.mono ?_
  rintro e w' ⟨rfl, rfl⟩
  go_wp2_with fail
  refine Hn.out.mono ?_
  rintro e w' ⟨rfl, rfl⟩
  go_wp2
  go_ret
  exact ⟨rfl, rfl⟩

/-- the boxes of the statement's arrays -/
abbrev TpS (w : World) (y0 y1 y2 : Nat) (W : World) : Prop :=
  W.cell? ⟨w.heap.size + 1, 0, none⟩ = some (.int .u64 y0) ∧ W.cell? ⟨w.heap.size + 1, 1, none⟩ = some (.int .u64 y1) ∧ W.cell? ⟨w.heap.size + 1, 2, none⟩ = some (.int .u64 y2) ∧ Below w.heap.size w W ∧ w.heap.size + 1 < W.heap.size
theorem TpS.keep {w W W' : World} {y0 y1 y2 : Nat} (h : TpS w y0 y1 y2 W) (hb : Below W.heap.size W W') : TpS w y0 y1 y2 W' := by
  obtain ⟨h1, h2, h3, h4, h5⟩ := h
  exact ⟨(hb.cell (p := ⟨w.heap.size + 1, 0, none⟩) h5).trans h1, (hb.cell (p := ⟨w.heap.size + 1, 1, none⟩) h5).trans h2, (hb.cell (p := ⟨w.heap.size + 1, 2, none⟩) h5).trans h3, h4.trans (hb.mono (by omega)), Nat.lt_of_lt_of_le h5 hb.size⟩

set_option maxRecDepth 100000 in
set_option maxHeartbeats 8000000 in
theorem TodParts_walk (x0 x1 x2 s : Int) (y0 y1 y2 : Nat) (w : World)
    (hx0 : -9223372036854775808 ≤ x0 ∧ x0 ≤ 9223372036854775807) (hx1 : -9223372036854775808 ≤ x1 ∧ x1 ≤ 9223372036854775807) (hx2 : -9223372036854775808 ≤ x2 ∧ x2 ≤ 9223372036854775807)
    (hs : -9223372036854775808 ≤ s ∧ s ≤ 9223372036854775807)
    (hy0 : y0 < 18446744073709551616) (hy1 : y1 < 18446744073709551616) (hy2 : y2 < 18446744073709551616) (hT : Tab w) :
    Calls Tryd.prog 7 #[.agg #[.int .i64 x0, .int .i64 x1, .int .i64 x2], .int .i64 s, .agg #[.int .u64 y0, .int .u64 y1, .int .u64 y2]] w fun e w' => e = .returned (.bool true) ∧ Below w.heap.size w w' := by
  obtain ⟨hs1, hs2⟩ := hs
  have HT := hid hT
  clear hT
  have c1 := hid (fun W => TOf_any x0 x1 x2 W)
  have hB0 : Below w.heap.size w ((w.alloc (.cells #[.int .i64 x0, .int .i64 x1, .int .i64 x2] 23)).alloc (.cells #[.int .u64 y0, .int .u64 y1, .int .u64 y2] 52)) := below_new (below_new (Below.refl _ _) (Nat.le_refl _)) (by simp)
  have hS0 : TpS w y0 y1 y2 ((w.alloc (.cells #[.int .i64 x0, .int .i64 x1, .int .i64 x2] 23)).alloc (.cells #[.int .u64 y0, .int .u64 y1, .int .u64 y2] 52)).drew := ⟨by simp [go_sem], by simp [go_sem], by simp [go_sem], hB0.drew, by simp [go_sem]⟩
  have c3 := hid (fun W (h : TpS w y0 y1 y2 W) => keep_of (same_below (In_any s y0 y1 y2 W hy0 hy1 hy2)) (fun _ => h.keep))
  have c4 := hid (fun W (h : TpS w y0 y1 y2 W) => keep_of (same_below (RIn_any s y0 y1 y2 W hy0 hy1 hy2)) (fun _ => h.keep))
  have c5 := hid (fun W (h : TpS w y0 y1 y2 W) => keep_of (same_below (lives07_any W (HT.out.later h.2.2.2.1))) (fun _ => h.keep))
  have HS0 := hid hS0
  clear hS0 hB0 HT
  have hx : (0 ≤ x0 ∧ x0 < 24 ∧ 0 ≤ x1 ∧ x1 < 60 ∧ 0 ≤ x2 ∧ x2 < 60) ∨ x0 < 0 ∨ 24 ≤ x0 ∨ (0 ≤ x0 ∧ x0 < 24 ∧ x1 < 0) ∨ (0 ≤ x0 ∧ x0 < 24 ∧ 60 ≤ x1) ∨ (0 ≤ x0 ∧ x0 < 24 ∧ 0 ≤ x1 ∧ x1 < 60 ∧ x2 < 0) ∨ (0 ≤ x0 ∧ x0 < 24 ∧ 0 ≤ x1 ∧ x1 < 60 ∧ 60 ≤ x2) := by omega
  have hd : (∃ a b c, (0 ≤ s ∧ s < 86400) ∧ a = s / 3600 ∧ b = s / 60 % 60 ∧ c = s % 60 ∧ Hid (∀ W, Calls Tryd.prog 41 #[.int .i64 s] W fun e w' => e = .returned (.tuple #[.int .i64 a, .int .i64 b, .int .i64 c, .bool true]) ∧ W = w')) ∨ (s < 0 ∨ 86400 ≤ s) ∧ Hid (∀ W, Calls Tryd.prog 41 #[.int .i64 s] W fun e w' => e = .returned (.tuple #[.int .i64 0, .int .i64 0, .int .i64 0, .bool false]) ∧ W = w') := by
    by_cases h : 0 ≤ s ∧ s < 86400
    · exact .inl ⟨_, _, _, h, rfl, rfl, rfl, fun W => Parts_yes s W h.1 h.2⟩
    · exact .inr ⟨by omega, fun W => Parts_no s W (by omega)⟩
  obtain ⟨v, b, hvb, c1⟩ : ∃ v b, (todI x0 x1 x2 = v ∧ todB x0 x1 x2 = b) ∧ Hid (∀ W, Calls Tryd.prog 40 #[.int .i64 x0, .int .i64 x1, .int .i64 x2] W fun e w' => e = .returned (.tuple #[.int .i64 v, .bool b]) ∧ W = w') := ⟨_, _, ⟨rfl, rfl⟩, c1⟩
  rcases hx with ⟨h1, h2, h3, h4, h5, h6⟩ | h1 | h1 | ⟨h1, h2, h3⟩ | ⟨h1, h2, h3⟩ | ⟨h1, h2, h3, h4, h5⟩ | ⟨h1, h2, h3, h4, h5⟩
  · have := tod_yes ⟨h1, h2, h3, h4, h5, h6⟩
    rw [this.1, this.2] at hvb
    clear this hx0 hx1 hx2
    obtain ⟨rfl, rfl⟩ := hvb
    rcases hd with ⟨a, b, c, ⟨d1, d2⟩, ea, eb, ec, c2⟩ | ⟨d1 | d1, c2⟩
    · have eb' : b = s % 3600 / 60 := by omega
      have g1 : (a != s / 3600) = false := by simp [ea]
      have g2 : (b != s % 3600 / 60) = false := by simp [eb']
      have g3 : (c != s % 60) = false := by simp [ec]
      clear ea eb ec eb'
      go_enter Tryd.func7, Tryd.ntmps7
      go_wp2_with (first
        | (go_at_call 40; refine (c1.out _).mono ?_; rintro e w' ⟨rfl, rfl⟩)
        | (go_at_call 41; refine (c2.out _).mono ?_; rintro e w' ⟨rfl, rfl⟩))
      go_region_held3 (fun w' => TpS w y0 y1 y2 w') (first | exact HS0.out | assumption)
        (first
          | (go_at_call 42; refine (c3.out _ (by assumption)).mono ?_; rintro e w' ⟨rfl, hS⟩)
          | (go_at_call 43; refine (c4.out _ (by assumption)).mono ?_; rintro e w' ⟨rfl, hS⟩)
          | (go_at_call 44; refine (c5.out _ (by assumption)).mono ?_; rintro e w' ⟨rfl, hS⟩))
      go_wp2
      go_ret
      exact ⟨rfl, (‹TpS w y0 y1 y2 _›).2.2.2.1⟩
    · go_enter Tryd.func7, Tryd.ntmps7
      go_wp2_with (first
        | (go_at_call 40; refine (c1.out _).mono ?_; rintro e w' ⟨rfl, rfl⟩)
        | (go_at_call 41; refine (c2.out _).mono ?_; rintro e w' ⟨rfl, rfl⟩))
      go_region_held3 (fun w' => TpS w y0 y1 y2 w') (first | exact HS0.out | assumption)
        (first
          | (go_at_call 42; refine (c3.out _ (by assumption)).mono ?_; rintro e w' ⟨rfl, hS⟩)
          | (go_at_call 43; refine (c4.out _ (by assumption)).mono ?_; rintro e w' ⟨rfl, hS⟩)
          | (go_at_call 44; refine (c5.out _ (by assumption)).mono ?_; rintro e w' ⟨rfl, hS⟩))
      go_wp2
      go_ret
      exact ⟨rfl, (‹TpS w y0 y1 y2 _›).2.2.2.1⟩
    · go_enter Tryd.func7, Tryd.ntmps7
      go_wp2_with (first
        | (go_at_call 40; refine (c1.out _).mono ?_; rintro e w' ⟨rfl, rfl⟩)
        | (go_at_call 41; refine (c2.out _).mono ?_; rintro e w' ⟨rfl, rfl⟩))
      go_region_held3 (fun w' => TpS w y0 y1 y2 w') (first | exact HS0.out | assumption)
        (first
          | (go_at_call 42; refine (c3.out _ (by assumption)).mono ?_; rintro e w' ⟨rfl, hS⟩)
          | (go_at_call 43; refine (c4.out _ (by assumption)).mono ?_; rintro e w' ⟨rfl, hS⟩)
          | (go_at_call 44; refine (c5.out _ (by assumption)).mono ?_; rintro e w' ⟨rfl, hS⟩))
      go_wp2
      go_ret
      exact ⟨rfl, (‹TpS w y0 y1 y2 _›).2.2.2.1⟩
  all_goals
    have := tod_no (h := x0) (m := x1) (s := x2) (by omega)
    rw [this.1, this.2] at hvb
    clear this
    obtain ⟨hx01, hx02⟩ := hx0
    obtain ⟨hx11, hx12⟩ := hx1
    obtain ⟨hx21, hx22⟩ := hx2
    obtain ⟨rfl, rfl⟩ := hvb
    rcases hd with ⟨a, b, c, ⟨d1, d2⟩, ea, eb, ec, c2⟩ | ⟨d1 | d1, c2⟩
    · have eb' : b = s % 3600 / 60 := by omega
      have g1 : (a != s / 3600) = false := by simp [ea]
      have g2 : (b != s % 3600 / 60) = false := by simp [eb']
      have g3 : (c != s % 60) = false := by simp [ec]
      clear ea eb ec eb'
      go_enter Tryd.func7, Tryd.ntmps7
      go_wp2_with (first
        | (go_at_call 40; refine (c1.out _).mono ?_; rintro e w' ⟨rfl, rfl⟩)
        | (go_at_call 41; refine (c2.out _).mono ?_; rintro e w' ⟨rfl, rfl⟩))
      go_region_held3 (fun w' => TpS w y0 y1 y2 w') (first | exact HS0.out | assumption)
        (first
          | (go_at_call 42; refine (c3.out _ (by assumption)).mono ?_; rintro e w' ⟨rfl, hS⟩)
          | (go_at_call 43; refine (c4.out _ (by assumption)).mono ?_; rintro e w' ⟨rfl, hS⟩)
          | (go_at_call 44; refine (c5.out _ (by assumption)).mono ?_; rintro e w' ⟨rfl, hS⟩))
      go_wp2
      go_ret
      exact ⟨rfl, (‹TpS w y0 y1 y2 _›).2.2.2.1⟩
    · go_enter Tryd.func7, Tryd.ntmps7
      go_wp2_with (first
        | (go_at_call 40; refine (c1.out _).mono ?_; rintro e w' ⟨rfl, rfl⟩)
        | (go_at_call 41; refine (c2.out _).mono ?_; rintro e w' ⟨rfl, rfl⟩))
      go_region_held3 (fun w' => TpS w y0 y1 y2 w') (first | exact HS0.out | assumption)
        (first
          | (go_at_call 42; refine (c3.out _ (by assumption)).mono ?_; rintro e w' ⟨rfl, hS⟩)
          | (go_at_call 43; refine (c4.out _ (by assumption)).mono ?_; rintro e w' ⟨rfl, hS⟩)
          | (go_at_call 44; refine (c5.out _ (by assumption)).mono ?_; rintro e w' ⟨rfl, hS⟩))
      go_wp2
      go_ret
      exact ⟨rfl, (‹TpS w y0 y1 y2 _›).2.2.2.1⟩
    · go_enter Tryd.func7, Tryd.ntmps7
      go_wp2_with (first
        | (go_at_call 40; refine (c1.out _).mono ?_; rintro e w' ⟨rfl, rfl⟩)
        | (go_at_call 41; refine (c2.out _).mono ?_; rintro e w' ⟨rfl, rfl⟩))
      go_region_held3 (fun w' => TpS w y0 y1 y2 w') (first | exact HS0.out | assumption)
        (first
          | (go_at_call 42; refine (c3.out _ (by assumption)).mono ?_; rintro e w' ⟨rfl, hS⟩)
          | (go_at_call 43; refine (c4.out _ (by assumption)).mono ?_; rintro e w' ⟨rfl, hS⟩)
          | (go_at_call 44; refine (c5.out _ (by assumption)).mono ?_; rintro e w' ⟨rfl, hS⟩))
      go_wp2
      go_ret
      exact ⟨rfl, (‹TpS w y0 y1 y2 _›).2.2.2.1⟩
end Go.Proofs.YtdggflkkojmabaaDoor

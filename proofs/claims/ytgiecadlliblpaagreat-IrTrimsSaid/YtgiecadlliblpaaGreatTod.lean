/-
  What tod.Of, tod.Parts, tod.In, tod.Next and feriaref07.In compute.
-/
import Derived.Test.YtgiecadlliblpaaGreatMaskTz
namespace Go.Proofs.YtgiecadlliblpaaGreat
open Go.RowKit
set_option linter.unusedVariables false

def todB (h m s : Int) : Bool := decide (0 ≤ h ∧ h < 24 ∧ 0 ≤ m ∧ m < 60 ∧ 0 ≤ s ∧ s < 60)
def todI (h m s : Int) : Int := if todB h m s = true then h * 3600 + m * 60 + s else 0
theorem tod_no {h m s : Int} (hn : ¬ (0 ≤ h ∧ h < 24 ∧ 0 ≤ m ∧ m < 60 ∧ 0 ≤ s ∧ s < 60)) : todI h m s = 0 ∧ todB h m s = false := by
  have : todB h m s = false := by simpa only [todB, decide_eq_false_iff_not] using hn
  exact ⟨by rw [todI, this]; simp, this⟩
theorem tod_yes {h m s : Int} (hn : 0 ≤ h ∧ h < 24 ∧ 0 ≤ m ∧ m < 60 ∧ 0 ≤ s ∧ s < 60) : todI h m s = h * 3600 + m * 60 + s ∧ todB h m s = true := by
  have : todB h m s = true := by simpa only [todB, decide_eq_true_eq] using hn
  exact ⟨by rw [todI, if_pos this], this⟩

/-- s is a second of the day -/
def dayB (s : Int) : Bool := decide (0 ≤ s ∧ s < 86400)
theorem day_cases (s : Int) : (dayB s = true ∧ 0 ≤ s ∧ s < 86400) ∨ (dayB s = false ∧ (s < 0 ∨ 86400 ≤ s)) := by
  by_cases h : 0 ≤ s ∧ s < 86400
  · exact .inl ⟨by simpa only [dayB, decide_eq_true_eq] using h, h.1, h.2⟩
  · exact .inr ⟨by simpa only [dayB, decide_eq_false_iff_not] using h, by omega⟩

set_option maxHeartbeats 400000 in
theorem Parts_no (s : Int) (w : World) (h : s < 0 ∨ 86400 ≤ s) : Calls Tryz.prog 61 #[.int .i64 s] w fun e w' => e = .returned (.tuple #[.int .i64 0, .int .i64 0, .int .i64 0, .bool false]) ∧ w = w' := by
  rcases h with h | h
  · go_enter Tryz.func61, Tryz.ntmps61
    go_wp2
    exact bodyPost_ret (v := .tuple #[.int .i64 0, .int .i64 0, .int .i64 0, .bool false]) (by simp [results, Tryz.results61, go_sem]) rfl ⟨rfl, rfl⟩
  · go_enter Tryz.func61, Tryz.ntmps61
    go_wp2
    exact bodyPost_ret (v := .tuple #[.int .i64 0, .int .i64 0, .int .i64 0, .bool false]) (by simp [results, Tryz.results61, go_sem]) rfl ⟨rfl, rfl⟩
set_option maxHeartbeats 400000 in
theorem Parts_yes (s : Int) (w : World) (h0 : 0 ≤ s) (h1 : s < 86400) : Calls Tryz.prog 61 #[.int .i64 s] w fun e w' => e = .returned (.tuple #[.int .i64 (s / 3600), .int .i64 (s / 60 % 60), .int .i64 (s % 60), .bool true]) ∧ w = w' := by
  go_enter Tryz.func61, Tryz.ntmps61
  go_wp2
  exact bodyPost_ret (v := .tuple #[.int .i64 (s / 3600), .int .i64 (s / 60 % 60), .int .i64 (s % 60), .bool true]) (by simp [results, Tryz.results61, go_sem]) rfl ⟨rfl, rfl⟩

/-- s is one of the masks' seconds -/
def todIn (s : Int) (hs ms ss : Nat) : Bool := dayB s && (hasB hs (s / 3600) && (hasB ms (s / 60 % 60) && hasB ss (s % 60)))

set_option maxHeartbeats 800000 in
theorem In_any (s : Int) (hs ms ss : Nat) (w : World) (hh : hs < 18446744073709551616) (hm : ms < 18446744073709551616) (hss : ss < 18446744073709551616) :
    Calls Tryz.prog 40 #[.int .i64 s, .int .u64 hs, .int .u64 ms, .int .u64 ss] w fun e w' => e = .returned (.bool (todIn s hs ms ss)) ∧ w = w' := by
  rcases day_cases s with ⟨hd, h0, h1⟩ | ⟨hd, h⟩
  · have hr : todIn s hs ms ss = (hasB hs (s / 3600) && (hasB ms (s / 60 % 60) && hasB ss (s % 60))) := by simp [todIn, hd]
    have Hp := hid (Parts_yes s w h0 h1)
    have H1 := hid (fun n => Has_any hs n w hh)
    have H2 := hid (fun n => Has_any ms n w hm)
    have H3 := hid (fun n => Has_any ss n w hss)
    obtain ⟨b1, hb1⟩ : ∃ b, hasB hs (s / 3600) = b := ⟨_, rfl⟩
    obtain ⟨b2, hb2⟩ : ∃ b, hasB ms (s / 60 % 60) = b := ⟨_, rfl⟩
    obtain ⟨b3, hb3⟩ : ∃ b, hasB ss (s % 60) = b := ⟨_, rfl⟩
    rw [hr, hb1, hb2, hb3]
    have H1' := hid (hb1 ▸ H1.out (s / 3600))
    have H2' := hid (hb2 ▸ H2.out (s / 60 % 60))
    have H3' := hid (hb3 ▸ H3.out (s % 60))
    clear hr hb1 hb2 hb3 H1 H2 H3 hd
    cases b1
    · go_enter Tryz.func40, Tryz.ntmps40
      go_wp2_with fail
      refine Hp.out.mono ?_
      rintro e w' ⟨rfl, rfl⟩
      go_wp2_with fail
      refine H1'.out.mono ?_
      rintro e w' ⟨rfl, rfl⟩
      go_wp2
      go_ret
      exact ⟨rfl, rfl⟩
    cases b2
    · go_enter Tryz.func40, Tryz.ntmps40
      go_wp2_with fail
      refine Hp.out.mono ?_
      rintro e w' ⟨rfl, rfl⟩
      go_wp2_with fail
      refine H1'.out.mono ?_
      rintro e w' ⟨rfl, rfl⟩
      go_wp2_with fail
      refine H2'.out.mono ?_
      rintro e w' ⟨rfl, rfl⟩
      go_wp2
      go_ret
      exact ⟨rfl, rfl⟩
    · go_enter Tryz.func40, Tryz.ntmps40
      go_wp2_with fail
      refine Hp.out.mono ?_
      rintro e w' ⟨rfl, rfl⟩
      go_wp2_with fail
      refine H1'.out.mono ?_
      rintro e w' ⟨rfl, rfl⟩
      go_wp2_with fail
      refine H2'.out.mono ?_
      rintro e w' ⟨rfl, rfl⟩
      go_wp2_with fail
      refine H3'.out.mono ?_
      rintro e w' ⟨rfl, rfl⟩
      go_wp2
      go_ret
      exact ⟨rfl, rfl⟩
  · have hr : todIn s hs ms ss = false := by simp [todIn, hd]
    rw [hr]
    have Hp := hid (Parts_no s w h)
    clear hr hd h
    go_enter Tryz.func40, Tryz.ntmps40
    go_wp2_with fail
    refine Hp.out.mono ?_
    rintro e w' ⟨rfl, rfl⟩
    go_wp2
    go_ret
    exact ⟨rfl, rfl⟩
end Go.Proofs.YtgiecadlliblpaaGreat

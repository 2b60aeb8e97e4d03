/-
  ferialaw02.MaskSpans answers true for every list, span, mask.
-/
import Derived.Test.YtdggflkkojmabaaDoorMaskTz
import Derived.Deep.RegionHeld3
namespace Go.Proofs.YtdggflkkojmabaaDoor
open Go.RowKit
set_option linter.unusedVariables false

theorem lives02_facts : spanM 1 9 4 = 546 ∧ leastI (aboveM 546 5) = 9 ∧ leastB (aboveM 546 5) = true ∧ ofM [1, 5, 9] = 546 := by
  refine ⟨?_, ?_, ?_, ?_⟩ <;> decide +kernel

set_option maxHeartbeats 400000 in
theorem lives02_any (w : World) (hT : Tab w) : Calls Tryd.prog 18 #[] w fun e w' => e = .returned (.bool true) ∧ Below w.heap.size w w' := by
  obtain ⟨h1, h2, h3, h4⟩ := lives02_facts
  have hs := fun w => Span_any 1 9 4 w (by omega) (by omega)
  rw [h1] at hs
  have hn := Next_any 546 5 w (by omega) hT
  rw [h2, h3] at hn
  have ho := MOf_any (some ⟨w.heap.size, 0, none⟩) 3 [1, 5, 9] (w.alloc (.cells #[.int .i64 1, .int .i64 5, .int .i64 9] 3)) (by decide) (by
    refine .inr ⟨w.heap.size, 0, rfl, by simp, fun j hj => ?_⟩
    simp [ints])
  rw [h4] at ho
  have Hs := hid hs
  have Hn := hid hn
  have Ho := hid ho
  clear hs hn ho h1 h2 h3 h4
  go_enter Tryd.func18, Tryd.ntmps18
  go_wp2_with (first | (go_at_call 21; refine (Hs.out _).mono ?_; rintro e w' ⟨rfl, rfl⟩) | (go_at_call 37; refine Hn.out.mono ?_; rintro e w' ⟨rfl, rfl⟩) | (go_at_call 19; refine Ho.out.mono ?_; rintro e w' ⟨rfl, hb⟩))
  go_ret
  exact ⟨rfl, (below_new (Below.refl _ _) (Nat.le_refl _)).trans (hb.mono (by simp))⟩

abbrev SpS (w : World) (x0 x1 x2 : Int) (W : World) : Prop :=
  W.cell? ⟨w.heap.size, 0, none⟩ = some (.int .i64 x0) ∧ W.cell? ⟨w.heap.size, 1, none⟩ = some (.int .i64 x1) ∧ W.cell? ⟨w.heap.size, 2, none⟩ = some (.int .i64 x2) ∧ Below w.heap.size w W ∧ w.heap.size < W.heap.size
theorem SpS.keep {w W W' : World} {x0 x1 x2 : Int} (h : SpS w x0 x1 x2 W) (hb : Below W.heap.size W W') : SpS w x0 x1 x2 W' := by
  obtain ⟨h1, h2, h3, h4, h5⟩ := h
  exact ⟨(hb.cell (p := ⟨w.heap.size, 0, none⟩) h5).trans h1, (hb.cell (p := ⟨w.heap.size, 1, none⟩) h5).trans h2, (hb.cell (p := ⟨w.heap.size, 2, none⟩) h5).trans h3, h4.trans (hb.mono (Nat.le_of_lt h5)), Nat.lt_of_lt_of_le h5 hb.size⟩

/-- a contract, with a condition on the world that it keeps -/
theorem keep_of {P : Program} {f : FuncId} {args : Array Value} {W : World} {v : Value} {S : World → Prop} (h : Calls P f args W fun e w' => e = .returned v ∧ Below W.heap.size W w') (hk : ∀ w', Below W.heap.size W w' → S w') :
    Calls P f args W fun e w' => e = .returned v ∧ S w' := h.mono fun e w' ⟨h1, h2⟩ => ⟨h1, hk w' h2⟩
theorem same_below {P : Program} {f : FuncId} {args : Array Value} {W : World} {v : Value} (h : Calls P f args W fun e w' => e = .returned v ∧ W = w') :
    Calls P f args W fun e w' => e = .returned v ∧ Below W.heap.size W w' := h.mono fun e w' ⟨h1, h2⟩ => ⟨h1, by rw [h2]; exact Below.refl _ _⟩

set_option maxHeartbeats 1600000 in
theorem MaskSpans_walk (a : Option Addr) (cap : Nat) (l : List Int) (x0 x1 x2 : Int) (m : Nat) (w : World) (hl : l.length ≤ 9223372036854775807) (_ : l.length ≤ cap) (hs : Sl w a (ints l)) (_ : ∀ x ∈ l, -9223372036854775808 ≤ x ∧ x ≤ 9223372036854775807)
    (hx0 : -9223372036854775808 ≤ x0 ∧ x0 ≤ 9223372036854775807) (_ : -9223372036854775808 ≤ x1 ∧ x1 ≤ 9223372036854775807) (hx2' : -9223372036854775808 ≤ x2 ∧ x2 ≤ 9223372036854775807) (hm : m < 18446744073709551616) (hT : Tab w) :
    Calls Tryd.prog 3 #[.slice a l.length cap, .agg #[.int .i64 x0, .int .i64 x1, .int .i64 x2], .int .u64 m] w fun e w' => e = .returned (.bool true) ∧ Below w.heap.size w w' := by
  have hx2 := hx2'.2
  have hB0 : Below w.heap.size w (w.alloc (.cells #[.int .i64 x0, .int .i64 x1, .int .i64 x2] 23)) := below_new (Below.refl _ _) (Nat.le_refl _)
  have hS0 : SpS w x0 x1 x2 (w.alloc (.cells #[.int .i64 x0, .int .i64 x1, .int .i64 x2] 23)).drew := ⟨by simp [go_sem], by simp [go_sem], by simp [go_sem], hB0.drew, by simp [go_sem]⟩
  have cL := hid (fun W => lives02_any W)
  by_cases h200 : 200 < l.length
  · go_enter Tryd.func3, Tryd.ntmps3
    go_wp2_with fail
    refine (cL.out _ (hT.later hB0)).mono ?_
    rintro e w1 ⟨rfl, hb1⟩
    go_wp2
    go_ret
    exact ⟨rfl, hB0.trans (hb1.mono (by simp))⟩
  · have c1 := hid (fun W (h : SpS w x0 x1 x2 W) => keep_of (MOf_any a cap l W hl (hs.below h.2.2.2.1)) (fun _ => h.keep))
    have c2 := hid (fun W (h : SpS w x0 x1 x2 W) => keep_of (ROf_any a cap l W hl (hs.below h.2.2.2.1)) (fun _ => h.keep))
    have c3 := hid (fun W (h : SpS w x0 x1 x2 W) => keep_of (same_below (Span_any x0 x1 x2 W hx0 hx2)) (fun _ => h.keep))
    have c4 := hid (fun W (h : SpS w x0 x1 x2 W) => keep_of (RSpan_any x0 x1 x2 W hx0 hx2) (fun _ => h.keep))
    have c5 := hid (fun W (h : SpS w x0 x1 x2 W) => keep_of (same_below (Has_any m x0 W hm)) (fun _ => h.keep))
    have c6 := hid (fun W (h : SpS w x0 x1 x2 W) => keep_of (same_below (RHas_any m x0 W hm)) (fun _ => h.keep))
    have c7 := hid (fun W (h : SpS w x0 x1 x2 W) => keep_of (cL.out W (hT.later h.2.2.2.1)) (fun _ => h.keep))
    have HS0 := hid hS0
    clear hS0
    go_enter Tryd.func3, Tryd.ntmps3
    go_wp2_with fail
    go_region_held3 (fun w' => SpS w x0 x1 x2 w') (first | exact HS0.out | assumption)
      (first
        | (go_at_call 19; refine (c1.out _ (by assumption)).mono ?_; rintro e w' ⟨rfl, hS⟩)
        | (go_at_call 20; refine (c2.out _ (by assumption)).mono ?_; rintro e w' ⟨rfl, hS⟩)
        | (go_at_call 21; refine (c3.out _ (by assumption)).mono ?_; rintro e w' ⟨rfl, hS⟩)
        | (go_at_call 22; refine (c4.out _ (by assumption)).mono ?_; rintro e w' ⟨rfl, hS⟩)
        | (go_at_call 23; refine (c5.out _ (by assumption)).mono ?_; rintro e w' ⟨rfl, hS⟩)
        | (go_at_call 24; refine (c6.out _ (by assumption)).mono ?_; rintro e w' ⟨rfl, hS⟩)
        | (go_at_call 18; refine (c7.out _ (by assumption)).mono ?_; rintro e w' ⟨rfl, hS⟩))
    go_wp2
    go_ret
    exact ⟨rfl, (‹SpS w x0 x1 x2 _›).2.2.2.1⟩
end Go.Proofs.YtdggflkkojmabaaDoor

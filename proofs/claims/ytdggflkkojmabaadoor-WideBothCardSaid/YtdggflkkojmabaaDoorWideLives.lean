/-
  ferialaw04.lives answers true.
-/
import Derived.Test.YtdggflkkojmabaaDoorWideBounds
import Derived.Test.YtdggflkkojmabaaDoorWideOfFun
namespace Go.Proofs.YtdggflkkojmabaaDoor
open Go.RowKit
set_option linter.unusedVariables false

theorem lives04_sel : wsel (wof [0, 64, 399]) = [0, 64, 399] := by
  have : wsel (wof [0, 64, 399]) = sel (fun n => inWB [0, 64, 399] (n / 64) (n % 64)) 400 :=
    sel_congr fun n hn => by rw [bitW, wof, mk_test]; simp; omega
  rw [this]
  decide +kernel
theorem lives04_facts : firstZ (wsel (wof [0, 64, 399])) (wsel (wof [0, 64, 399])).length = 0 ∧ lastZ (wsel (wof [0, 64, 399])) (wsel (wof [0, 64, 399])).length = 399 ∧ decide (0 < (wsel (wof [0, 64, 399])).length) = true ∧ lenOf (wof [0, 64, 399]) = 3 := by
  rw [lenOf_eq, lives04_sel]
  refine ⟨?_, ?_, ?_, ?_⟩ <;> decide

set_option maxHeartbeats 1600000 in
theorem lives04_any (w : World) (hT : Tab w) : Calls Tryd.prog 58 #[] w fun e w' => e = .returned (.bool true) ∧ Below w.heap.size w w' := by
  obtain ⟨h1, h2, h3, h4⟩ := lives04_facts
  have ho := WOf_any (some ⟨w.heap.size, 0, none⟩) 3 [0, 64, 399] (w.alloc (.cells #[.int .i64 0, .int .i64 64, .int .i64 399] 3)) (by decide) (by
    refine .inr ⟨w.heap.size, 0, rfl, by simp, fun j hj => ?_⟩
    simp [ints])
  have hlt := hid (fun i (hi : i < 7) => wof_lt [0, 64, 399] i)
  have hb : Hid (∀ W, Tab W → Calls Tryd.prog 55 #[wv (wof [0, 64, 399])] W fun e w' => e = .returned (.tuple #[.int .i64 0, .int .i64 399, .bool true]) ∧ Below W.heap.size W w') := fun W h => by
    have := WBounds_any (wof [0, 64, 399]) W hlt.out h
    rw [h1, h2, h3] at this; exact this
  have hl : Hid (∀ W, Calls Tryd.prog 64 #[wv (wof [0, 64, 399])] W fun e w' => e = .returned (.int .i64 3) ∧ Below W.heap.size W w') := fun W => by
    have := WLen_any (wof [0, 64, 399]) W hlt.out
    rw [h4] at this; exact this
  have Ho := hid ho
  have HT := hid hT
  have hB0 : Hid (Below w.heap.size w (w.alloc (.cells #[.int .i64 0, .int .i64 64, .int .i64 399] 3))) := below_new (Below.refl _ _) (Nat.le_refl _)
  obtain ⟨s, hs⟩ : ∃ s, wof [0, 64, 399] = s := ⟨_, rfl⟩
  rw [hs] at Ho hb hl
  clear ho hT hs h1 h2 h3 h4 hlt
  go_enter Tryd.func58, Tryd.ntmps58
  go_wp2_with fail
  refine Ho.out.mono ?_
  rintro e w1 ⟨rfl, hb1⟩
  have HB1 : Hid (Below w.heap.size w w1) := hB0.out.trans (hb1.mono (by simp))
  obtain ⟨w2, hw2⟩ : ∃ w2, w1.alloc (.cells #[.int .u64 (s 0 : Nat), .int .u64 (s 1 : Nat), .int .u64 (s 2 : Nat), .int .u64 (s 3 : Nat), .int .u64 (s 4 : Nat), .int .u64 (s 5 : Nat), .int .u64 (s 6 : Nat)] 70) = w2 := ⟨_, rfl⟩
  have HB2 : Hid (Below w.heap.size w w2) := by rw [← hw2]; exact below_new HB1.out HB1.out.size
  have hc2 : WCells w2 w1.heap.size s := by rw [← hw2]; exact wcells_new w1 s _
  have s2 : w1.heap.size < w2.heap.size := by rw [← hw2]; simp
  have HW2 := hid hw2
  have HC2 := hid hc2
  clear hb1 hw2 hc2
  go_wp2_with fail
  rw [HW2.out]
  refine (hb.out w2 (HT.out.later HB2.out)).mono ?_
  rintro e w3 ⟨rfl, hb3⟩
  obtain ⟨r0, r1, r2, r3, r4, r5, r6⟩ := (HC2.out.below hb3 s2).all
  have HB3 : Hid (Below w.heap.size w w3) := HB2.out.trans (hb3.mono HB2.out.size)
  clear hb3
  go_wp2_with fail
  refine (hl.out w3).mono ?_
  rintro e w4 ⟨rfl, hb4⟩
  have HB4 : Hid (Below w.heap.size w w4) := HB3.out.trans (hb4.mono HB3.out.size)
  clear hb4
  go_wp2
  go_ret
  exact ⟨rfl, HB4.out⟩
end Go.Proofs.YtdggflkkojmabaaDoor

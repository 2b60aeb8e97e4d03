/-
  ferialaw32.lives: the chapter's example.
-/
import Derived.Test.YtndfckpcbiecnaaRuleWeek2
import Derived.Test.YtndfckpcbiecnaaRuleRSame
namespace Go.Proofs.Ytndfckpcbiecnaa
open Go.RowKit
set_option linter.unusedVariables false

abbrev litR (b b' : Nat) : Ru := { st := 0, fq := 6, iv := 1, co := 0, un := -1, l5 := [3], a5 := some ⟨b, 0, none⟩, c5 := 1, l6 := [], a6 := none, c6 := 0, l7 := [(-1, 5)], a7 := some ⟨b', 0, none⟩, c7 := 1, l8 := [], a8 := none, c8 := 0, l9 := [], a9 := none, c9 := 0, lx := [], ax := none, cx := 0 }
theorem litR_week (b b' : Nat) : weekM (litR b b') = 254 ∧ weekO (litR b b') = .agg #[.int .i64 1, .bool true, .int .u64 0, .int .u64 0, .int .u64 0, .int .u64 0, .int .u64 0, .int .u64 2, .int .u64 0, .int .u64 0] := ⟨by kernel_rfl, by kernel_rfl⟩
set_option maxRecDepth 100000 in
set_option maxHeartbeats 3200000 in
theorem Lives32_any (w : World) : Calls Try.prog 19 #[] w fun e w' => e = .returned (.bool true) ∧ Below w.heap.size w w' := by
  have hb1 : Below w.heap.size w (w.alloc (.cells #[.int .i64 3] 3)) := below_new (Below.refl _ _) (Nat.le_refl _)
  have hb2 : Below (w.heap.size + 1) (w.alloc (.cells #[.int .i64 3] 3)) ((w.alloc (.cells #[.int .i64 3] 3)).alloc (.cells #[.int .i64 (-1), .int .i64 5] 37)) := below_new (Below.refl _ _) (by simp)
  have hb : Below w.heap.size w ((w.alloc (.cells #[.int .i64 3] 3)).alloc (.cells #[.int .i64 (-1), .int .i64 5] 37)) := hb1.trans (hb2.mono (by omega))
  have h5 : Sl ((w.alloc (.cells #[.int .i64 3] 3)).alloc (.cells #[.int .i64 (-1), .int .i64 5] 37)) (some ⟨w.heap.size, 0, none⟩) (ints [3]) := (sl_range (range_new w [.int .i64 3] 3) (by simp)).below (by rw [World.size_alloc]; exact hb2)
  have h7 : Sl ((w.alloc (.cells #[.int .i64 3] 3)).alloc (.cells #[.int .i64 (-1), .int .i64 5] 37)) (some ⟨w.heap.size + 1, 0, none⟩) (nths [(-1, 5)]) := by
    have h := range_newR w (.cells #[.int .i64 3] 3) [.int .i64 (-1), .int .i64 5] 37
    exact sl_range h (by simp only [World.size_alloc]; omega)
  have c1 := hid (Week_any (litR w.heap.size (w.heap.size + 1)) _ ⟨h5, .inl rfl, h7, .inl rfl, .inl rfl, .inl rfl⟩ ⟨by simp, by simp, by simp, by simp, by simp, by simp⟩)
  rw [(litR_week _ _).1, (litR_week _ _).2] at c1
  have HB := hid hb
  clear hb1 hb2 hb h5 h7
  go_enter Try.func19, Try.ntmps19
  go_wp2_with fail
  refine c1.out.mono ?_
  rintro e w1 ⟨rfl, hB1⟩
  have HB1 := hid ((HB.out.trans (hB1.mono HB.out.size)).trans ((below_new (o := .cells #[.int .i64 1, .bool true, .int .u64 0, .int .u64 0, .int .u64 0, .int .u64 0, .int .u64 0, .int .u64 2, .int .u64 0, .int .u64 0] 25) (Below.refl w1.heap.size w1) (Nat.le_refl _)).mono (Nat.le_trans HB.out.size hB1.size)))
  clear hB1
  go_wp2
  go_ret
  exact ⟨rfl, HB1.out⟩
end Go.Proofs.Ytndfckpcbiecnaa

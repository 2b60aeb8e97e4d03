/-
  rule.parts' functions; rule.days.
-/
import Derived.Test.YtndfckpcbiecnaaRuleHead
namespace Go.Proofs.Ytndfckpcbiecnaa
open Go.RowKit
set_option linter.unusedVariables false

theorem Part1_any (r : Ru) (w : World) (hr : RuS w r) (hm : r.Sm 1000000) : Calls Try.prog 130 #[ruv r] w fun e w' => e = .returned (.int .i64 (listE 1 12 r.l5)) ∧ Below w.heap.size w w' := by
  have hB0 : Below w.heap.size w (w.alloc (.cells (ruList r).toArray 34)) := below_new (Below.refl _ _) (Nat.le_refl _)
  have c1 := hid (List_any32 r.a5 r.c5 r.l5 1 12 _ (by have := hm.n5; omega) (hr.below hB0).s5)
  have HB0 := hid hB0
  clear hB0 hr hm
  go_enter Try.func130, Try.ntmps130
  go_wp2_with fail
  refine c1.out.mono ?_
  rintro e w1 ⟨rfl, hB1⟩
  have HB1 := hid (HB0.out.trans (hB1.mono HB0.out.size))
  clear hB1
  go_wp2
  go_ret
  exact ⟨rfl, HB1.out⟩
theorem Part2_any (r : Ru) (w : World) (hr : RuS w r) (hm : r.Sm 1000000) : Calls Try.prog 134 #[ruv r] w fun e w' => e = .returned (.int .i64 (listE 0 23 r.l8)) ∧ Below w.heap.size w w' := by
  have hB0 : Below w.heap.size w (w.alloc (.cells (ruList r).toArray 34)) := below_new (Below.refl _ _) (Nat.le_refl _)
  have c1 := hid (List_any32 r.a8 r.c8 r.l8 0 23 _ (by have := hm.n8; omega) (hr.below hB0).s8)
  have HB0 := hid hB0
  clear hB0 hr hm
  go_enter Try.func134, Try.ntmps134
  go_wp2_with fail
  refine c1.out.mono ?_
  rintro e w1 ⟨rfl, hB1⟩
  have HB1 := hid (HB0.out.trans (hB1.mono HB0.out.size))
  clear hB1
  go_wp2
  go_ret
  exact ⟨rfl, HB1.out⟩
theorem Part3_any (r : Ru) (w : World) (hr : RuS w r) (hm : r.Sm 1000000) : Calls Try.prog 135 #[ruv r] w fun e w' => e = .returned (.int .i64 (listE 0 59 r.l9)) ∧ Below w.heap.size w w' := by
  have hB0 : Below w.heap.size w (w.alloc (.cells (ruList r).toArray 34)) := below_new (Below.refl _ _) (Nat.le_refl _)
  have c1 := hid (List_any32 r.a9 r.c9 r.l9 0 59 _ (by have := hm.n9; omega) (hr.below hB0).s9)
  have HB0 := hid hB0
  clear hB0 hr hm
  go_enter Try.func135, Try.ntmps135
  go_wp2_with fail
  refine c1.out.mono ?_
  rintro e w1 ⟨rfl, hB1⟩
  have HB1 := hid (HB0.out.trans (hB1.mono HB0.out.size))
  clear hB1
  go_wp2
  go_ret
  exact ⟨rfl, HB1.out⟩
theorem Part4_any (r : Ru) (w : World) (hr : RuS w r) (hm : r.Sm 1000000) : Calls Try.prog 136 #[ruv r] w fun e w' => e = .returned (.int .i64 (listE 0 59 r.lx)) ∧ Below w.heap.size w w' := by
  have hB0 : Below w.heap.size w (w.alloc (.cells (ruList r).toArray 34)) := below_new (Below.refl _ _) (Nat.le_refl _)
  have c1 := hid (List_any32 r.ax r.cx r.lx 0 59 _ (by have := hm.nx; omega) (hr.below hB0).sx)
  have HB0 := hid hB0
  clear hB0 hr hm
  go_enter Try.func136, Try.ntmps136
  go_wp2_with fail
  refine c1.out.mono ?_
  rintro e w1 ⟨rfl, hB1⟩
  have HB1 := hid (HB0.out.trans (hB1.mono HB0.out.size))
  clear hB1
  go_wp2
  go_ret
  exact ⟨rfl, HB1.out⟩
def daysE (r : Ru) : Int :=
  if listE (-31) 31 r.l6 = 0 then (if r.l6.any (fun n => n == 0) = true then 4 else if 0 < r.l6.length ∧ r.fq = 4 then 12 else if mixB r.l6 = true then 12 else 0) else listE (-31) 31 r.l6
set_option maxHeartbeats 1600000 in
theorem RuDays_any (r : Ru) (w : World) (hr : RuS w r) (hm : r.Sm 1000000) : Calls Try.prog 132 #[ruv r] w fun e w' => e = .returned (.int .i64 (daysE r)) ∧ Below w.heap.size w w' := by
  have hB0 : Below w.heap.size w (w.alloc (.cells (ruList r).toArray 34)) := below_new (Below.refl _ _) (Nat.le_refl _)
  have c1 := hid (List_any32 r.a6 r.c6 r.l6 (-31) 31 _ (by have := hm.n6; omega) (hr.below hB0).s6)
  have c2 := hid (fun W hs => ContInt_any r.a6 r.c6 r.l6 0 W (by have := hm.n6; omega) hs)
  have c3 := hid (fun W hs => Mixed_any r.a6 r.c6 r.l6 W (by have := hm.n6; omega) hs)
  have HB0 := hid hB0
  have HR0 := hid (ruB_new w r 34)
  have Hs0 : Hid (w.heap.size < (w.alloc (.cells (ruList r).toArray 34)).heap.size) := by show _ < _; simp
  have H6 := hid (hr.below hB0).s6
  rw [daysE]
  obtain ⟨E, hE⟩ : ∃ q, listE (-31) 31 r.l6 = q := ⟨_, rfl⟩
  obtain ⟨p, hp⟩ : ∃ q, r.l6.any (fun n => n == 0) = q := ⟨_, rfl⟩
  obtain ⟨m, hmx⟩ : ∃ q, mixB r.l6 = q := ⟨_, rfl⟩
  rw [hE] at c1 ⊢
  rw [hp] at c2 ⊢
  rw [hmx] at c3 ⊢
  clear hE hp hmx hr hm hB0
  by_cases hE0 : E = 0
  rotate_left
  · rw [if_neg hE0]
    have hb : (E != 0) = true := by simp [hE0]
    clear hE0
    go_enter Try.func132, Try.ntmps132
    go_wp2_with fail
    refine c1.out.mono ?_
    rintro e w1 ⟨rfl, hB1⟩
    have HB1 := hid (HB0.out.trans (hB1.mono HB0.out.size))
    clear hB1
    go_wp2
    go_ret
    exact ⟨rfl, HB1.out⟩
  subst hE0
  rw [if_pos rfl]
  cases p
  rotate_left
  · rw [if_pos rfl]
    go_enter Try.func132, Try.ntmps132
    go_wp2_with fail
    refine c1.out.mono ?_
    rintro e w1 ⟨rfl, hB1⟩
    have HB1 := hid (HB0.out.trans (hB1.mono HB0.out.size))
    have HR1 := hid (HR0.out.below hB1 Hs0.out)
    have H61 := hid (H6.out.below hB1)
    obtain ⟨k5, k6, k7, k8, k9, kx⟩ := HR1.out.lists
    clear hB1
    go_wp2_with fail
    refine (c2.out _ H61.out).mono ?_
    rintro e w2 ⟨rfl, rfl⟩
    go_wp2
    go_ret
    exact ⟨rfl, HB1.out⟩
  rw [if_neg (by simp)]
  by_cases h0 : 0 < r.l6.length
  · have h0I : (0 : Int) < r.l6.length := by omega
    by_cases h4 : r.fq = 4
    · rw [if_pos ⟨h0, h4⟩]
      have hb4 : (r.fq == 4) = true := by simp [h4]
      clear h0 h4
      go_enter Try.func132, Try.ntmps132
      go_wp2_with fail
      refine c1.out.mono ?_
      rintro e w1 ⟨rfl, hB1⟩
      have HB1 := hid (HB0.out.trans (hB1.mono HB0.out.size))
      have HR1 := hid (HR0.out.below hB1 Hs0.out)
      have H61 := hid (H6.out.below hB1)
      obtain ⟨k5, k6, k7, k8, k9, kx⟩ := HR1.out.lists
      obtain ⟨k0, k1, k2, k3, k4⟩ := HR1.out.nums
      clear hB1
      go_wp2_with fail
      refine (c2.out _ H61.out).mono ?_
      rintro e w2 ⟨rfl, rfl⟩
      go_wp2
      go_ret
      exact ⟨rfl, HB1.out⟩
    · rw [if_neg (fun h => h4 h.2)]
      have hb4 : (r.fq == 4) = false := by simp [h4]
      clear h0 h4
      go_enter Try.func132, Try.ntmps132
      go_wp2_with fail
      refine c1.out.mono ?_
      rintro e w1 ⟨rfl, hB1⟩
      have HB1 := hid (HB0.out.trans (hB1.mono HB0.out.size))
      have HR1 := hid (HR0.out.below hB1 Hs0.out)
      have H61 := hid (H6.out.below hB1)
      obtain ⟨k5, k6, k7, k8, k9, kx⟩ := HR1.out.lists
      obtain ⟨k0, k1, k2, k3, k4⟩ := HR1.out.nums
      clear hB1
      go_wp2_with fail
      refine (c2.out _ H61.out).mono ?_
      rintro e w2 ⟨rfl, rfl⟩
      go_wp2_with fail
      refine (c3.out _ H61.out).mono ?_
      rintro e w2 ⟨rfl, rfl⟩
      cases m
      · go_wp2
        go_ret
        exact ⟨rfl, HB1.out⟩
      · go_wp2
        go_ret
        exact ⟨rfl, HB1.out⟩
  · have h0I : ¬ (0 : Int) < r.l6.length := by omega
    rw [if_neg (fun h => h0 h.1)]
    clear h0
    go_enter Try.func132, Try.ntmps132
    go_wp2_with fail
    refine c1.out.mono ?_
    rintro e w1 ⟨rfl, hB1⟩
    have HB1 := hid (HB0.out.trans (hB1.mono HB0.out.size))
    have HR1 := hid (HR0.out.below hB1 Hs0.out)
    have H61 := hid (H6.out.below hB1)
    obtain ⟨k5, k6, k7, k8, k9, kx⟩ := HR1.out.lists
    obtain ⟨k0, k1, k2, k3, k4⟩ := HR1.out.nums
    clear hB1
    go_wp2_with fail
    refine (c2.out _ H61.out).mono ?_
    rintro e w2 ⟨rfl, rfl⟩
    go_wp2_with fail
    refine (c3.out _ H61.out).mono ?_
    rintro e w2 ⟨rfl, rfl⟩
    cases m
    · go_wp2
      go_ret
      exact ⟨rfl, HB1.out⟩
    · go_wp2
      go_ret
      exact ⟨rfl, HB1.out⟩
end Go.Proofs.Ytndfckpcbiecnaa

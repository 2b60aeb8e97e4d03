/-
  rule.head.
-/
import Derived.Test.YtndfckpcbiecnaaRuleWhich
namespace Go.Proofs.Ytndfckpcbiecnaa
open Go.RowKit
set_option linter.unusedVariables false

/-- a rule, in a block -/
def RuB (W : World) (b : Nat) (r : Ru) : Prop := W.rangeAt b 0 (ruList r)
theorem RuB.below {W W' : World} {b B : Nat} {r : Ru} (h : RuB W b r) (hb : Below B W W') (hB : b < B) : RuB W' b r := fun j v hv => (hb.cell (p := ⟨b, 0 + j, none⟩) hB).trans (h j v hv)
theorem ruB_new (w : World) (r : Ru) (t : TypeId) : RuB (w.alloc (.cells (ruList r).toArray t)) w.heap.size r := range_new w _ _
theorem RuB.at {W : World} {b : Nat} {r : Ru} (h : RuB W b r) (j : Nat) {v : Value} (hv : (ruList r)[j]? = some v) : W.cell? ⟨b, j, none⟩ = some v := by
  have := h j v hv
  rwa [Nat.zero_add] at this
theorem RuB.nums {W : World} {b : Nat} {r : Ru} (h : RuB W b r) : W.cell? ⟨b, 0, none⟩ = some (.int .i64 r.st) ∧ W.cell? ⟨b, 1, none⟩ = some (.int .i64 r.fq) ∧ W.cell? ⟨b, 2, none⟩ = some (.int .i64 r.iv) ∧ W.cell? ⟨b, 3, none⟩ = some (.int .i64 r.co) ∧ W.cell? ⟨b, 4, none⟩ = some (.int .i64 r.un) :=
  ⟨h.at 0 rfl, h.at 1 rfl, h.at 2 rfl, h.at 3 rfl, h.at 4 rfl⟩
theorem RuB.lists {W : World} {b : Nat} {r : Ru} (h : RuB W b r) : W.cell? ⟨b, 5, none⟩ = some (.slice r.a5 r.l5.length r.c5) ∧ W.cell? ⟨b, 6, none⟩ = some (.slice r.a6 r.l6.length r.c6) ∧ W.cell? ⟨b, 7, none⟩ = some (.slice r.a7 r.l7.length r.c7) ∧
    W.cell? ⟨b, 8, none⟩ = some (.slice r.a8 r.l8.length r.c8) ∧ W.cell? ⟨b, 9, none⟩ = some (.slice r.a9 r.l9.length r.c9) ∧ W.cell? ⟨b, 10, none⟩ = some (.slice r.ax r.lx.length r.cx) :=
  ⟨h.at 5 rfl, h.at 6 rfl, h.at 7 rfl, h.at 8 rfl, h.at 9 rfl, h.at 10 rfl⟩
def headE (r : Ru) : Int :=
  if winB r.st = false then 4 else if unB r.fq = false then 4 else if r.iv < 1 then 4 else if 1000000000000000 < r.iv then 4 else if r.co < 0 then 4 else if 1000000000000000 < r.co then 4 else
  if r.un = -1 then 0 else if winB r.un = false then 4 else if 0 < r.co then 12 else 0
set_option maxRecDepth 100000 in
set_option maxHeartbeats 3200000 in
theorem Head_any (r : Ru) (w : World) : Calls Try.prog 129 #[ruv r] w fun e w' => e = .returned (.int .i64 (headE r)) ∧ Below w.heap.size w w' := by
  have cI := hid (fun W => MIn_any r.st W)
  have cU := hid (fun W => MIn_any r.un W)
  have cN := hid (fun W => Name_any r.fq W)
  have HB0 : Hid (Below w.heap.size w (w.alloc (.cells (ruList r).toArray 34))) := below_new (Below.refl _ _) (Nat.le_refl _)
  have HR0 := hid (ruB_new w r 34)
  have Hs0 : Hid (w.heap.size < (w.alloc (.cells (ruList r).toArray 34)).heap.size) := by show _ < _; simp
  rw [headE]
  obtain ⟨i, hi⟩ : ∃ q, winB r.st = q := ⟨_, rfl⟩
  obtain ⟨u, hu⟩ : ∃ q, unB r.fq = q := ⟨_, rfl⟩
  obtain ⟨j, hj⟩ : ∃ q, winB r.un = q := ⟨_, rfl⟩
  rw [hi] at cI ⊢
  rw [hu] at cN ⊢
  rw [hj] at cU ⊢
  clear hi hu hj
  cases i
  · rw [if_pos rfl]
    have HB1 := HB0
    clear HB0
    go_enter Try.func129, Try.ntmps129
    go_wp2_with fail
    refine (cI.out _).mono ?_
    rintro e w1 ⟨rfl, rfl⟩
    go_wp2
    go_ret
    exact ⟨rfl, HB1.out⟩
  rw [if_neg (by simp)]
  cases u
  · rw [if_pos rfl]
    go_enter Try.func129, Try.ntmps129
    go_wp2_with fail
    refine (cI.out _).mono ?_
    rintro e w1 ⟨rfl, rfl⟩
    go_wp2_with fail
    refine (cN.out _).mono ?_
    rintro e w1 ⟨⟨s, rfl, hs⟩, hB1⟩
    have HB1 := hid (HB0.out.trans (hB1.mono (Nat.le_of_lt Hs0.out)))
    obtain ⟨k0, k1, k2, k3, k4⟩ := (HR0.out.below hB1 Hs0.out).nums
    clear hB1
    go_wp2
    go_ret
    exact ⟨rfl, HB1.out⟩
  rw [if_neg (by simp)]
  by_cases h0 : r.iv < 1
  · rw [if_pos h0]
    go_enter Try.func129, Try.ntmps129
    go_wp2_with fail
    refine (cI.out _).mono ?_
    rintro e w1 ⟨rfl, rfl⟩
    go_wp2_with fail
    refine (cN.out _).mono ?_
    rintro e w1 ⟨⟨s, rfl, hs⟩, hB1⟩
    have HB1 := hid (HB0.out.trans (hB1.mono (Nat.le_of_lt Hs0.out)))
    obtain ⟨k0, k1, k2, k3, k4⟩ := (HR0.out.below hB1 Hs0.out).nums
    clear hB1
    go_wp2
    go_ret
    exact ⟨rfl, HB1.out⟩
  rw [if_neg h0]
  by_cases h1 : 1000000000000000 < r.iv
  · rw [if_pos h1]
    go_enter Try.func129, Try.ntmps129
    go_wp2_with fail
    refine (cI.out _).mono ?_
    rintro e w1 ⟨rfl, rfl⟩
    go_wp2_with fail
    refine (cN.out _).mono ?_
    rintro e w1 ⟨⟨s, rfl, hs⟩, hB1⟩
    have HB1 := hid (HB0.out.trans (hB1.mono (Nat.le_of_lt Hs0.out)))
    obtain ⟨k0, k1, k2, k3, k4⟩ := (HR0.out.below hB1 Hs0.out).nums
    clear hB1
    go_wp2
    go_ret
    exact ⟨rfl, HB1.out⟩
  rw [if_neg h1]
  by_cases h2 : r.co < 0
  · rw [if_pos h2]
    go_enter Try.func129, Try.ntmps129
    go_wp2_with fail
    refine (cI.out _).mono ?_
    rintro e w1 ⟨rfl, rfl⟩
    go_wp2_with fail
    refine (cN.out _).mono ?_
    rintro e w1 ⟨⟨s, rfl, hs⟩, hB1⟩
    have HB1 := hid (HB0.out.trans (hB1.mono (Nat.le_of_lt Hs0.out)))
    obtain ⟨k0, k1, k2, k3, k4⟩ := (HR0.out.below hB1 Hs0.out).nums
    clear hB1
    go_wp2
    go_ret
    exact ⟨rfl, HB1.out⟩
  rw [if_neg h2]
  by_cases h3 : 1000000000000000 < r.co
  · rw [if_pos h3]
    go_enter Try.func129, Try.ntmps129
    go_wp2_with fail
    refine (cI.out _).mono ?_
    rintro e w1 ⟨rfl, rfl⟩
    go_wp2_with fail
    refine (cN.out _).mono ?_
    rintro e w1 ⟨⟨s, rfl, hs⟩, hB1⟩
    have HB1 := hid (HB0.out.trans (hB1.mono (Nat.le_of_lt Hs0.out)))
    obtain ⟨k0, k1, k2, k3, k4⟩ := (HR0.out.below hB1 Hs0.out).nums
    clear hB1
    go_wp2
    go_ret
    exact ⟨rfl, HB1.out⟩
  rw [if_neg h3]
  by_cases h4 : r.un = -1
  · rw [if_pos h4]
    have hb : (r.un != -1) = false := by simp [h4]
    clear h4
    go_enter Try.func129, Try.ntmps129
    go_wp2_with fail
    refine (cI.out _).mono ?_
    rintro e w1 ⟨rfl, rfl⟩
    go_wp2_with fail
    refine (cN.out _).mono ?_
    rintro e w1 ⟨⟨s, rfl, hs⟩, hB1⟩
    have HB1 := hid (HB0.out.trans (hB1.mono (Nat.le_of_lt Hs0.out)))
    obtain ⟨k0, k1, k2, k3, k4⟩ := (HR0.out.below hB1 Hs0.out).nums
    clear hB1
    go_wp2
    go_ret
    exact ⟨rfl, HB1.out⟩
  rw [if_neg h4]
  have hb : (r.un != -1) = true := by simp [h4]
  clear h4
  cases j
  · rw [if_pos rfl]
    go_enter Try.func129, Try.ntmps129
    go_wp2_with fail
    refine (cI.out _).mono ?_
    rintro e w1 ⟨rfl, rfl⟩
    go_wp2_with fail
    refine (cN.out _).mono ?_
    rintro e w1 ⟨⟨s, rfl, hs⟩, hB1⟩
    have HB1 := hid (HB0.out.trans (hB1.mono (Nat.le_of_lt Hs0.out)))
    obtain ⟨k0, k1, k2, k3, k4⟩ := (HR0.out.below hB1 Hs0.out).nums
    clear hB1
    go_wp2_with fail
    refine (cU.out _).mono ?_
    rintro e w2 ⟨rfl, rfl⟩
    go_wp2
    go_ret
    exact ⟨rfl, HB1.out⟩
  rw [if_neg (by simp)]
  by_cases h5 : 0 < r.co
  · rw [if_pos h5]
    go_enter Try.func129, Try.ntmps129
    go_wp2_with fail
    refine (cI.out _).mono ?_
    rintro e w1 ⟨rfl, rfl⟩
    go_wp2_with fail
    refine (cN.out _).mono ?_
    rintro e w1 ⟨⟨s, rfl, hs⟩, hB1⟩
    have HB1 := hid (HB0.out.trans (hB1.mono (Nat.le_of_lt Hs0.out)))
    obtain ⟨k0, k1, k2, k3, k4⟩ := (HR0.out.below hB1 Hs0.out).nums
    clear hB1
    go_wp2_with fail
    refine (cU.out _).mono ?_
    rintro e w2 ⟨rfl, rfl⟩
    go_wp2
    go_ret
    exact ⟨rfl, HB1.out⟩
  · rw [if_neg h5]
    go_enter Try.func129, Try.ntmps129
    go_wp2_with fail
    refine (cI.out _).mono ?_
    rintro e w1 ⟨rfl, rfl⟩
    go_wp2_with fail
    refine (cN.out _).mono ?_
    rintro e w1 ⟨⟨s, rfl, hs⟩, hB1⟩
    have HB1 := hid (HB0.out.trans (hB1.mono (Nat.le_of_lt Hs0.out)))
    obtain ⟨k0, k1, k2, k3, k4⟩ := (HR0.out.below hB1 Hs0.out).nums
    clear hB1
    go_wp2_with fail
    refine (cU.out _).mono ?_
    rintro e w2 ⟨rfl, rfl⟩
    go_wp2
    go_ret
    exact ⟨rfl, HB1.out⟩
end Go.Proofs.Ytndfckpcbiecnaa

/-
  rule.weeks.
-/
import Derived.Test.YtndfckpcbiecnaaRuleDays
namespace Go.Proofs.Ytndfckpcbiecnaa
open Go.RowKit
set_option linter.unusedVariables false

def weeksK (o d m z f5 f6 n q : Bool) : Int := bif o || d then 4 else bif m || (z && (!f5 && !f6)) then 12 else bif (f5 || n) && q then 4 else 0
def weeksE (r : Ru) : Int := if 64 < r.l7.length then 5 else weeksK (outB (-53) 53 (nsL r)) (r.l7.any dayP) (mixB (nsL r)) (outB 0 0 (nsL r)) (r.fq == 5) (r.fq == 6) (decide (0 < r.l5.length)) (outB (-5) 5 (nsL r))
theorem RuB.all {W : World} {b : Nat} {r : Ru} (h : RuB W b r) : (W.cell? ⟨b, 0, none⟩ = some (.int .i64 r.st) ∧ W.cell? ⟨b, 1, none⟩ = some (.int .i64 r.fq) ∧ W.cell? ⟨b, 2, none⟩ = some (.int .i64 r.iv) ∧ W.cell? ⟨b, 3, none⟩ = some (.int .i64 r.co) ∧ W.cell? ⟨b, 4, none⟩ = some (.int .i64 r.un)) ∧
    W.cell? ⟨b, 5, none⟩ = some (.slice r.a5 r.l5.length r.c5) ∧ W.cell? ⟨b, 6, none⟩ = some (.slice r.a6 r.l6.length r.c6) ∧ W.cell? ⟨b, 7, none⟩ = some (.slice r.a7 r.l7.length r.c7) ∧
    W.cell? ⟨b, 8, none⟩ = some (.slice r.a8 r.l8.length r.c8) ∧ W.cell? ⟨b, 9, none⟩ = some (.slice r.a9 r.l9.length r.c9) ∧ W.cell? ⟨b, 10, none⟩ = some (.slice r.ax r.lx.length r.cx) := ⟨h.nums, h.lists⟩
/-- the rule's block, its lists, a slice of the N -/
structure WkS (w : World) (r : Ru) (a : Option Addr) (W : World) : Prop where
  b : RuB W w.heap.size r
  s : RuS W r
  n : Sl W a (ints (nsL r))
  be : Below w.heap.size w W
  l : w.heap.size < W.heap.size
theorem WkS.keep {w W W' : World} {r : Ru} {a : Option Addr} (h : WkS w r a W) (hb : Below W.heap.size W W') : WkS w r a W' :=
  ⟨h.b.below hb h.l, h.s.below hb, h.n.below hb, h.be.trans (hb.mono (Nat.le_of_lt h.l)), Nat.lt_of_lt_of_le h.l hb.size⟩
set_option maxRecDepth 100000 in
set_option maxHeartbeats 6400000 in
theorem RuWeeks_any (r : Ru) (w : World) (hr : RuS w r) (hm : r.Sm 1000000) : Calls Try.prog 133 #[ruv r] w fun e w' => e = .returned (.int .i64 (weeksE r)) ∧ Below w.heap.size w w' := by
  have hB0 : Below w.heap.size w (w.alloc (.cells (ruList r).toArray 34)) := below_new (Below.refl _ _) (Nat.le_refl _)
  by_cases h64 : 64 < r.l7.length
  · rw [weeksE, if_pos h64]
    have hI : (64 : Int) < r.l7.length := by omega
    have HB0 := hid hB0
    clear hB0 hr hm h64
    go_enter Try.func133, Try.ntmps133
    go_wp2
    go_ret
    exact ⟨rfl, HB0.out⟩
  have hI : ¬ (64 : Int) < r.l7.length := by omega
  have Hln : Hid ((nsL r).length = r.l7.length) := List.length_map _
  have c1 := hid (RuWhich_any r _ (hr.below hB0) hm.n7)
  have hSt : ∀ a W, Below (w.alloc (.cells (ruList r).toArray 34)).heap.size (w.alloc (.cells (ruList r).toArray 34)) W → Sl W a (ints (nsL r)) → WkS w r a W := fun a W hb hs =>
    ⟨(ruB_new w r _).below hb (by simp), (hr.below hB0).below hb, hs, hB0.trans (hb.mono (by simp)), Nat.lt_of_lt_of_le (by simp) hb.size⟩
  have HSt := hid hSt
  have kA := hid (fun a cap W (h : WkS w r a W) => keep_of' (by have h' := Outside_any a cap (nsL r) (-53) 53 W (by have := hm.n7; have := Hln.out; omega) h.n; rw [Hln.out] at h'; exact h') (fun _ => h.keep))
  have kB := hid (fun a cap W (h : WkS w r a W) => keep_of' (by have h' := Outside_any a cap (nsL r) (-5) 5 W (by have := hm.n7; have := Hln.out; omega) h.n; rw [Hln.out] at h'; exact h') (fun _ => h.keep))
  have kM : Hid (∀ a cap W, WkS w r a W → Calls Try.prog 172 #[.slice a r.l7.length cap] W fun e w' => e = .returned (.bool (mixB (nsL r))) ∧ W = w') := fun a cap W h => by have h' := Mixed_any a cap (nsL r) W (by have := hm.n7; have := Hln.out; omega) h.n; rw [Hln.out] at h'; exact h'
  have kC := hid (fun a W (h : WkS w r a W) => keep_of' (ContNth_any r.a7 r.c7 r.l7 W (by have := hm.n7; omega) h.s.s7) (fun _ => h.keep))
  have kP := hid (fun a W (h : WkS w r a W) => keep_of' (Plain_any r W h.s hm.n7) (fun _ => h.keep))
  rw [weeksE, if_neg h64]
  obtain ⟨n5, hn5⟩ : ∃ q, decide (0 < r.l5.length) = q := ⟨_, rfl⟩
  obtain ⟨f5, hf5⟩ : ∃ q, (r.fq == 5) = q := ⟨_, rfl⟩
  obtain ⟨f6, hf6⟩ : ∃ q, (r.fq == 6) = q := ⟨_, rfl⟩
  have hf5' : (r.fq != 5) = !f5 := by rw [bne, hf5]
  have hf6' : (r.fq != 6) = !f6 := by rw [bne, hf6]
  have hn5' : decide ((0 : Int) < r.l5.length) = n5 := by rw [← hn5, decide_eq_decide]; omega
  obtain ⟨o, ho⟩ : ∃ q, outB (-53) 53 (nsL r) = q := ⟨_, rfl⟩
  obtain ⟨d, hd⟩ : ∃ q, r.l7.any dayP = q := ⟨_, rfl⟩
  obtain ⟨m, hmx⟩ : ∃ q, mixB (nsL r) = q := ⟨_, rfl⟩
  obtain ⟨z, hz⟩ : ∃ q, outB 0 0 (nsL r) = q := ⟨_, rfl⟩
  obtain ⟨q, hq⟩ : ∃ q, outB (-5) 5 (nsL r) = q := ⟨_, rfl⟩
  rw [hn5, hf5, hf6, ho, hd, hmx, hz, hq]
  rw [ho] at kA
  rw [hd] at kC
  rw [hmx] at kM
  rw [hz] at kP
  rw [hq] at kB
  clear hr hm h64 hB0 hSt hn5 hf6 ho hd hmx hz hq
  go_enter Try.func133, Try.ntmps133
  go_wp2_with fail
  refine c1.out.mono ?_
  rintro e w1 ⟨v, rfl, hown, hB1⟩
  obtain ⟨a, cap, rfl, hsl, -⟩ := owns_form hown
  have hS := HSt.out a w1 hB1 hsl
  clear hown hB1 hsl
  obtain ⟨⟨k0, k1, k2, k3, k4⟩, k5, k6, k7, k8, k9, kx⟩ := hS.b.all
  go_wp2_with fail
  refine (kA.out a cap w1 hS).mono ?_
  rintro e w2 ⟨rfl, hS2⟩
  clear k0 k1 k2 k3 k4 k5 k6 k7 k8 k9 kx
  obtain ⟨⟨k0, k1, k2, k3, k4⟩, k5, k6, k7, k8, k9, kx⟩ := hS2.b.all
  cases o
  rotate_left
  · go_wp2
    go_ret
    exact ⟨rfl, hS2.be⟩
  go_wp2_with fail
  refine (kC.out a w2 hS2).mono ?_
  rintro e w3 ⟨rfl, hS3⟩
  clear k0 k1 k2 k3 k4 k5 k6 k7 k8 k9 kx
  obtain ⟨⟨k0, k1, k2, k3, k4⟩, k5, k6, k7, k8, k9, kx⟩ := hS3.b.all
  cases d
  rotate_left
  · go_wp2
    go_ret
    exact ⟨rfl, hS3.be⟩
  go_wp2_with fail
  refine (kM.out a cap w3 hS3).mono ?_
  rintro e w4 ⟨rfl, rfl⟩
  cases m
  rotate_left
  · go_wp2
    go_ret
    exact ⟨rfl, hS3.be⟩
  go_wp2_with fail
  refine (kP.out a w3 hS3).mono ?_
  rintro e w4 ⟨rfl, hS4⟩
  clear k0 k1 k2 k3 k4 k5 k6 k7 k8 k9 kx
  obtain ⟨⟨k0, k1, k2, k3, k4⟩, k5, k6, k7, k8, k9, kx⟩ := hS4.b.all
  cases z <;> cases f5 <;> cases f6 <;> cases n5
  all_goals
    simp only [Bool.not_true, Bool.not_false] at hf5' hf6'
    simp only [decide_eq_true_eq, decide_eq_false_iff_not] at hn5'
    first
      | (go_wp2; go_ret; exact ⟨rfl, hS4.be⟩)
      | (go_wp2_with fail
         refine (kB.out a cap w4 hS4).mono ?_
         rintro e w5 ⟨rfl, hS5⟩
         cases q
         · go_wp2
           go_ret
           exact ⟨rfl, hS5.be⟩
         · go_wp2
           go_ret
           exact ⟨rfl, hS5.be⟩)
end Go.Proofs.Ytndfckpcbiecnaa

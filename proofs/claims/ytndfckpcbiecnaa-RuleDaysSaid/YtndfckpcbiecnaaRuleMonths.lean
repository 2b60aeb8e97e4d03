/-
  rule.Months.
-/
import Derived.Test.YtndfckpcbiecnaaRuleTimes
namespace Go.Proofs.Ytndfckpcbiecnaa
open Go.RowKit
set_option linter.unusedVariables false

structure MoF (w : World) (r : Ru) (b3 : Nat) (y mo d h m s : Int) (W : World) : Prop where
  rb : RuB W w.heap.size r
  six : Six W b3 (.int .i64 y) (.int .i64 mo) (.int .i64 d) (.int .i64 h) (.int .i64 m) (.int .i64 s)
  be : Below w.heap.size w W
  l : w.heap.size < W.heap.size ∧ b3 < W.heap.size
theorem MoF.keep {w W W' : World} {r : Ru} {b3 : Nat} {y mo d h m s : Int} (k : MoF w r b3 y mo d h m s W) (hb : Below W.heap.size W W') : MoF w r b3 y mo d h m s W' := by
  have hs := hb.size
  obtain ⟨l1, l2⟩ := k.l
  exact ⟨k.rb.below hb l1, k.six.below hb l2, k.be.trans (hb.mono (by omega)), by omega, by omega⟩
def monthsV (r : Ru) : Nat := if checkE r = 0 then (if 0 < r.l5.length then ofM r.l5 else if r.fq = 6 ∧ r.l6.length = 0 ∧ r.l7.length = 0 then ofM [fMo (r.st / 86400)] else fullCl.m 3) else 0
theorem field3_run (F : Cl) (W : World) : (Instr.field 28 (clv F) 3).run Try.prog W = .ok (.int .u64 (F.m 3 : Nat)) W := by kernel_rfl
set_option maxRecDepth 100000 in
set_option maxHeartbeats 6400000 in
theorem Months_any (r : Ru) (w : World) (hr : RuS w r) (hm : r.Sm 1000000) : Calls Try.prog 39 #[ruv r] w fun e w' => e = .returned (.int .u64 (monthsV r : Nat)) ∧ Below w.heap.size w w' := by
  have hB0 : Below w.heap.size w (w.alloc (.cells (ruList r).toArray 34)) := below_new (Below.refl _ _) (Nat.le_refl _)
  have cB := hid (Begin_any r _ (hr.below hB0) hm)
  have HB0 := hid hB0
  have HRB := hid (ruB_new w r 34)
  have HR := hid hr
  have cF := hid (fun W => Full_any W)
  have cM := hid (fun W (h : RuS W r) => MOf_any r.a5 r.c5 r.l5 W (by have := hm.n5; omega) h.s5)
  have hfd : ∀ W, (Instr.field 28 (clv fullCl) 3).run Try.prog W = .ok (.int .u64 (fullCl.m 3 : Nat)) W := fun W => field3_run fullCl W
  have cO := hid (fun x W => MOf1_any x W 3)
  rw [monthsV]
  have hst : checkE r = 0 → stampV r.st = stpv (fY (r.st / 86400)) (fMo (r.st / 86400)) (fD (r.st / 86400)) (r.st % 86400 / 3600) (r.st % 86400 / 60 % 60) (r.st % 86400 % 60) := fun hc => stampV_yes (head_ok (check_ok hc).h).1
  obtain ⟨y, mo, d, h, m, s, hsv⟩ := stampV_six r.st
  have hmo : checkE r = 0 → fMo (r.st / 86400) = mo := fun hc => by
    have e := hst hc
    rw [hsv] at e
    simp only [stpv, stpL, Value.agg.injEq, Array.mk.injEq, List.cons.injEq, Value.int.injEq, true_and, and_true] at e
    exact e.2.1.symm
  rw [hsv] at cB
  obtain ⟨F, hF⟩ : ∃ F, fullCl = F := ⟨_, rfl⟩
  rw [hF] at cF hfd ⊢
  obtain ⟨M, hM⟩ : ∃ M, ofM r.l5 = M := ⟨_, rfl⟩
  rw [hM] at cM ⊢
  by_cases hc : checkE r = 0
  rotate_left
  · rw [if_neg hc]
    have hb : (checkE r == 0) = false := by simpa using hc
    rw [hb] at cB
    clear hc hb hst hsv hmo hF hM hr hm hB0
    go_enter Try.func39, Try.ntmps39
    go_wp2_with fail
    refine cB.out.mono ?_
    rintro e w1 ⟨rfl, hB1⟩
    have hz1 := hB1.size
    rw [World.size_alloc] at hz1
    have hn := below_new (o := .cells #[.int .i64 y, .int .i64 mo, .int .i64 d, .int .i64 h, .int .i64 m, .int .i64 s] 123) (Below.refl w1.heap.size w1) (Nat.le_refl _)
    have HF1 : Hid (MoF w r w1.heap.size y mo d h m s (w1.alloc (.cells #[.int .i64 y, .int .i64 mo, .int .i64 d, .int .i64 h, .int .i64 m, .int .i64 s] 123))) := ⟨(HRB.out.below hB1 (by rw [World.size_alloc]; omega)).below hn (by omega), six_new w1 (.int .i64 y) (.int .i64 mo) (.int .i64 d) (.int .i64 h) (.int .i64 m) (.int .i64 s) 123, (HB0.out.trans (hB1.mono (by rw [World.size_alloc]; omega))).trans (hn.mono (by omega)), by rw [World.size_alloc]; omega, by rw [World.size_alloc]; omega⟩
    obtain ⟨⟨k0, k1, k2, k3, k4⟩, k5, k6, k7, k8, k9, kx⟩ := HF1.out.rb.all
    clear hB1 hn hz1
    go_wp2
    go_ret
    exact ⟨rfl, HF1.out.be⟩
  rw [if_pos hc, hmo hc]
  have hb : (checkE r == 0) = true := by simpa using hc
  rw [hb] at cB
  clear hc hb hst hsv hmo hF hM hr hm hB0
  by_cases h5 : 0 < r.l5.length
  · rw [if_pos h5]
    have hI : (0 : Int) < r.l5.length := by omega
    clear h5
    go_enter Try.func39, Try.ntmps39
    go_wp2_with fail
    refine cB.out.mono ?_
    rintro e w1 ⟨rfl, hB1⟩
    have hz1 := hB1.size
    rw [World.size_alloc] at hz1
    have hn := below_new (o := .cells #[.int .i64 y, .int .i64 mo, .int .i64 d, .int .i64 h, .int .i64 m, .int .i64 s] 123) (Below.refl w1.heap.size w1) (Nat.le_refl _)
    have HF1 : Hid (MoF w r w1.heap.size y mo d h m s (w1.alloc (.cells #[.int .i64 y, .int .i64 mo, .int .i64 d, .int .i64 h, .int .i64 m, .int .i64 s] 123))) := ⟨(HRB.out.below hB1 (by rw [World.size_alloc]; omega)).below hn (by omega), six_new w1 (.int .i64 y) (.int .i64 mo) (.int .i64 d) (.int .i64 h) (.int .i64 m) (.int .i64 s) 123, (HB0.out.trans (hB1.mono (by rw [World.size_alloc]; omega))).trans (hn.mono (by omega)), by rw [World.size_alloc]; omega, by rw [World.size_alloc]; omega⟩
    obtain ⟨⟨k0, k1, k2, k3, k4⟩, k5, k6, k7, k8, k9, kx⟩ := HF1.out.rb.all
    clear hB1 hn hz1
    go_wp2_with fail
    refine (cM.out _ (HR.out.below HF1.out.be)).mono ?_
    rintro e w2 ⟨rfl, hB2⟩
    have HF2 := hid (HF1.out.keep hB2)
    clear hB2
    go_wp2
    go_ret
    exact ⟨rfl, HF2.out.be⟩
  rw [if_neg h5]
  have hI : ¬ (0 : Int) < r.l5.length := by omega
  clear h5
  by_cases h6 : r.fq = 6
  rotate_left
  · rw [if_neg (fun h => h6 h.1)]
    have hb6 : (r.fq == 6) = false := by simpa using h6
    clear h6
    go_enter Try.func39, Try.ntmps39
    go_wp2_with fail
    refine cB.out.mono ?_
    rintro e w1 ⟨rfl, hB1⟩
    have hz1 := hB1.size
    rw [World.size_alloc] at hz1
    have hn := below_new (o := .cells #[.int .i64 y, .int .i64 mo, .int .i64 d, .int .i64 h, .int .i64 m, .int .i64 s] 123) (Below.refl w1.heap.size w1) (Nat.le_refl _)
    have HF1 : Hid (MoF w r w1.heap.size y mo d h m s (w1.alloc (.cells #[.int .i64 y, .int .i64 mo, .int .i64 d, .int .i64 h, .int .i64 m, .int .i64 s] 123))) := ⟨(HRB.out.below hB1 (by rw [World.size_alloc]; omega)).below hn (by omega), six_new w1 (.int .i64 y) (.int .i64 mo) (.int .i64 d) (.int .i64 h) (.int .i64 m) (.int .i64 s) 123, (HB0.out.trans (hB1.mono (by rw [World.size_alloc]; omega))).trans (hn.mono (by omega)), by rw [World.size_alloc]; omega, by rw [World.size_alloc]; omega⟩
    obtain ⟨⟨k0, k1, k2, k3, k4⟩, k5, k6, k7, k8, k9, kx⟩ := HF1.out.rb.all
    clear hB1 hn hz1
    go_wp2_with fail
    refine (cF.out _).mono ?_
    rintro e w2 ⟨rfl, hB2⟩
    have HF2 := hid (HF1.out.keep hB2)
    clear hB2
    go_wp2
    go_ret
    exact ⟨rfl, HF2.out.be⟩
  by_cases h7 : r.l6.length = 0
  rotate_left
  · rw [if_neg (fun h => h7 h.2.1)]
    have hb6 : (r.fq == 6) = true := by simpa using h6
    have hb7 : ((r.l6.length : Int) == 0) = false := by simpa using h7
    clear h6 h7
    go_enter Try.func39, Try.ntmps39
    go_wp2_with fail
    refine cB.out.mono ?_
    rintro e w1 ⟨rfl, hB1⟩
    have hz1 := hB1.size
    rw [World.size_alloc] at hz1
    have hn := below_new (o := .cells #[.int .i64 y, .int .i64 mo, .int .i64 d, .int .i64 h, .int .i64 m, .int .i64 s] 123) (Below.refl w1.heap.size w1) (Nat.le_refl _)
    have HF1 : Hid (MoF w r w1.heap.size y mo d h m s (w1.alloc (.cells #[.int .i64 y, .int .i64 mo, .int .i64 d, .int .i64 h, .int .i64 m, .int .i64 s] 123))) := ⟨(HRB.out.below hB1 (by rw [World.size_alloc]; omega)).below hn (by omega), six_new w1 (.int .i64 y) (.int .i64 mo) (.int .i64 d) (.int .i64 h) (.int .i64 m) (.int .i64 s) 123, (HB0.out.trans (hB1.mono (by rw [World.size_alloc]; omega))).trans (hn.mono (by omega)), by rw [World.size_alloc]; omega, by rw [World.size_alloc]; omega⟩
    obtain ⟨⟨k0, k1, k2, k3, k4⟩, k5, k6, k7, k8, k9, kx⟩ := HF1.out.rb.all
    clear hB1 hn hz1
    go_wp2_with fail
    refine (cF.out _).mono ?_
    rintro e w2 ⟨rfl, hB2⟩
    have HF2 := hid (HF1.out.keep hB2)
    clear hB2
    go_wp2
    go_ret
    exact ⟨rfl, HF2.out.be⟩
  by_cases h8 : r.l7.length = 0
  rotate_left
  · rw [if_neg (fun h => h8 h.2.2)]
    have hb6 : (r.fq == 6) = true := by simpa using h6
    have hb7 : ((r.l6.length : Int) == 0) = true := by simpa using h7
    have hb8 : ((r.l7.length : Int) == 0) = false := by simpa using h8
    clear h6 h7 h8
    go_enter Try.func39, Try.ntmps39
    go_wp2_with fail
    refine cB.out.mono ?_
    rintro e w1 ⟨rfl, hB1⟩
    have hz1 := hB1.size
    rw [World.size_alloc] at hz1
    have hn := below_new (o := .cells #[.int .i64 y, .int .i64 mo, .int .i64 d, .int .i64 h, .int .i64 m, .int .i64 s] 123) (Below.refl w1.heap.size w1) (Nat.le_refl _)
    have HF1 : Hid (MoF w r w1.heap.size y mo d h m s (w1.alloc (.cells #[.int .i64 y, .int .i64 mo, .int .i64 d, .int .i64 h, .int .i64 m, .int .i64 s] 123))) := ⟨(HRB.out.below hB1 (by rw [World.size_alloc]; omega)).below hn (by omega), six_new w1 (.int .i64 y) (.int .i64 mo) (.int .i64 d) (.int .i64 h) (.int .i64 m) (.int .i64 s) 123, (HB0.out.trans (hB1.mono (by rw [World.size_alloc]; omega))).trans (hn.mono (by omega)), by rw [World.size_alloc]; omega, by rw [World.size_alloc]; omega⟩
    obtain ⟨⟨k0, k1, k2, k3, k4⟩, k5, k6, k7, k8, k9, kx⟩ := HF1.out.rb.all
    clear hB1 hn hz1
    go_wp2_with fail
    refine (cF.out _).mono ?_
    rintro e w2 ⟨rfl, hB2⟩
    have HF2 := hid (HF1.out.keep hB2)
    clear hB2
    go_wp2
    go_ret
    exact ⟨rfl, HF2.out.be⟩
  rw [if_pos ⟨h6, h7, h8⟩]
  have hb6 : (r.fq == 6) = true := by simpa using h6
  have hb7 : ((r.l6.length : Int) == 0) = true := by simpa using h7
  have hb8 : ((r.l7.length : Int) == 0) = true := by simpa using h8
  clear h6 h7 h8
  go_enter Try.func39, Try.ntmps39
  go_wp2_with fail
  refine cB.out.mono ?_
  rintro e w1 ⟨rfl, hB1⟩
  have hz1 := hB1.size
  rw [World.size_alloc] at hz1
  have hn := below_new (o := .cells #[.int .i64 y, .int .i64 mo, .int .i64 d, .int .i64 h, .int .i64 m, .int .i64 s] 123) (Below.refl w1.heap.size w1) (Nat.le_refl _)
  have HF1 : Hid (MoF w r w1.heap.size y mo d h m s (w1.alloc (.cells #[.int .i64 y, .int .i64 mo, .int .i64 d, .int .i64 h, .int .i64 m, .int .i64 s] 123))) := ⟨(HRB.out.below hB1 (by rw [World.size_alloc]; omega)).below hn (by omega), six_new w1 (.int .i64 y) (.int .i64 mo) (.int .i64 d) (.int .i64 h) (.int .i64 m) (.int .i64 s) 123, (HB0.out.trans (hB1.mono (by rw [World.size_alloc]; omega))).trans (hn.mono (by omega)), by rw [World.size_alloc]; omega, by rw [World.size_alloc]; omega⟩
  obtain ⟨⟨k0, k1, k2, k3, k4⟩, k5, k6, k7, k8, k9, kx⟩ := HF1.out.rb.all
  clear hB1 hn hz1
  obtain ⟨⟨s0, s1, s2, s3, s4, s5⟩, -⟩ := HF1.out.six
  have cO1 := hid (cO.out mo (w1.alloc (.cells #[.int .i64 y, .int .i64 mo, .int .i64 d, .int .i64 h, .int .i64 m, .int .i64 s] 123)))
  rw [World.size_alloc] at cO1
  go_wp2_with fail
  refine cO1.out.mono ?_
  rintro e w2 ⟨rfl, hB2⟩
  have HF2 := hid (HF1.out.keep (by rw [World.size_alloc]; exact hB2))
  clear hB2
  go_wp2
  go_ret
  exact ⟨rfl, HF2.out.be⟩
end Go.Proofs.Ytndfckpcbiecnaa

/-
  ferialaw32.RuleTimes answers true.
-/
import Derived.Test.YtndfckpcbiecnaaRuleTmLaw
namespace Go.Proofs.Ytndfckpcbiecnaa
open Go.RowKit
set_option linter.unusedVariables false

theorem oneE_lt (l : List Int) (at' freq : Int) (full : Nat) (fq : Int) (h : full < 18446744073709551616) : oneE l at' freq full fq < 18446744073709551616 := by
  rw [oneE]; split
  · exact mk_lt _
  · split
    · exact mk_lt _
    · exact h
theorem tm_lt (r : Ru) : tmH r < 18446744073709551616 ∧ tmM r < 18446744073709551616 ∧ tmS r < 18446744073709551616 := by
  refine ⟨?_, ?_, ?_⟩
  · rw [tmH]; split
    · exact oneE_lt _ _ _ _ _ (by decide +kernel)
    · omega
  · rw [tmM]; split
    · exact oneE_lt _ _ _ _ _ (by decide +kernel)
    · omega
  · rw [tmS]; split
    · exact oneE_lt _ _ _ _ _ (by decide +kernel)
    · omega
set_option maxRecDepth 100000 in
set_option maxHeartbeats 6400000 in
theorem RuleTimes_walk (r : Ru) (d : Int) (w : World) (hr : RuS w r) (hm : r.Sm 281474976710656) (hn : r.Num) (hd : 0 ≤ d ∧ d ≤ 4294967295) : Calls Try.prog 5 #[ruv r, .int .u32 d] w fun e w' => e = .returned (.bool true) ∧ Below w.heap.size w w' := by
  obtain ⟨hd0, hd1⟩ := hd
  have HF0 := hid (rcS_new w r 34 hr)
  have cG := hid (fun W => Great_any r W hm)
  have cL := hid (fun W => Lives32_any W)
  by_cases hg : greatB r = true
  · rw [hg] at cG
    clear hg hr hm hn
    go_enter Try.func5, Try.ntmps5
    go_wp2_with fail
    refine (cG.out _).mono ?_
    rintro e w1 ⟨rfl, hB1⟩
    have HF1 := hid (HF0.out.keep hB1)
    clear hB1
    go_wp2_with fail
    refine (cL.out _).mono ?_
    rintro e w2 ⟨rfl, hB2⟩
    have HF2 := hid (HF1.out.keep hB2)
    clear hB2
    go_wp2
    go_ret
    exact ⟨rfl, HF2.out.2.2.2.1⟩
  have hg0 : greatB r = false := by simpa using hg
  rw [hg0] at cG
  have m0 := great_sm hg0
  have sm : r.Sm 1000000 := ⟨by have := m0.n5; omega, by have := m0.n6; omega, by have := m0.n7; omega, by have := m0.n8; omega, by have := m0.n9; omega, by have := m0.nx; omega⟩
  have kT := hid (fun W (h : RcS w r W) => keep_of' (Times_any r W h.2.2.1 sm) (fun _ => h.keep))
  have kC := hid (fun W (h : RcS w r W) => keep_of' (RCheck_any r W h.2.2.1 sm) (fun _ => h.keep))
  have kL := hid (fun W (h : RcS w r W) => keep_of' (Lives32_any W) (fun _ => h.keep))
  have b8 := tm_lt r
  have hA := hid (fun x W => RHas_any (tmH r) x W b8.1)
  have hB := hid (fun x W => RHas_any (tmM r) x W b8.2.1)
  have hC := hid (fun x W => RHas_any (tmS r) x W b8.2.2)
  by_cases hc : checkE r = 0
  rotate_left
  · rw [show tmH r = 0 by rw [tmH, if_neg hc], show tmM r = 0 by rw [tmM, if_neg hc], show tmS r = 0 by rw [tmS, if_neg hc]] at kT
    obtain ⟨E, hE⟩ : ∃ E, checkE r = E := ⟨_, rfl⟩
    rw [hE] at kC hc
    have hb : (E != 0) = true := by simpa using hc
    clear hg hg0 hE hc hr hm hn m0 sm b8 hA hB hC
    go_enter Try.func5, Try.ntmps5
    go_wp2_with fail
    refine (cG.out _).mono ?_
    rintro e w1 ⟨rfl, hB1⟩
    have HF1 := hid (HF0.out.keep hB1)
    obtain ⟨⟨k0, k1, k2, k3, k4⟩, k5, k6, k7, k8, k9, kx⟩ := HF1.out.1
    clear hB1
    go_wp2_with fail
    refine (kT.out _ HF1.out).mono ?_
    rintro e w2 ⟨rfl, hS2⟩
    have HF2 := hid hS2
    clear hS2 k0 k1 k2 k3 k4 k5 k6 k7 k8 k9 kx
    obtain ⟨⟨k0, k1, k2, k3, k4⟩, k5, k6, k7, k8, k9, kx⟩ := HF2.out.1
    go_wp2_with fail
    refine (kC.out _ HF2.out).mono ?_
    rintro e w3 ⟨rfl, hS3⟩
    have HF3 := hid hS3
    clear hS3 k0 k1 k2 k3 k4 k5 k6 k7 k8 k9 kx
    go_wp2_with fail
    refine (kL.out _ HF3.out).mono ?_
    rintro e w4 ⟨rfl, hS4⟩
    have HF4 := hid hS4
    clear hS4
    go_wp2
    go_ret
    exact ⟨rfl, HF4.out.2.2.2.1⟩
  rw [hc] at kC
  have hq0 : 0 ≤ d % 86400 := Int.emod_nonneg _ (by omega)
  have hq1 : d % 86400 < 86400 := Int.emod_lt_of_pos _ (by omega)
  have kM := hid (fun W (h : RcS w r W) => keep_of' (RTime_any r (d % 86400) W h.2.2.1 sm (head_ok (check_ok hc).h).1 hq0 hq1) (fun _ => h.keep))
  rw [← time_law hc hq0 hq1] at kM
  obtain ⟨x, hx⟩ : ∃ x, d % 86400 = x := ⟨_, rfl⟩
  rw [hx] at kM hq0 hq1
  have hA := hid (hA.out (x / 3600))
  have hB := hid (hB.out (x % 3600 / 60))
  have hC := hid (hC.out (x % 60))
  obtain ⟨u1, hu1⟩ : ∃ u, hasB (tmH r) (x / 3600) = u := ⟨_, rfl⟩
  obtain ⟨u2, hu2⟩ : ∃ u, hasB (tmM r) (x % 3600 / 60) = u := ⟨_, rfl⟩
  obtain ⟨u3, hu3⟩ : ∃ u, hasB (tmS r) (x % 60) = u := ⟨_, rfl⟩
  rw [hu1] at hA kM
  rw [hu2] at hB kM
  rw [hu3] at hC kM
  obtain ⟨M1, hM1⟩ : ∃ u, tmH r = u := ⟨_, rfl⟩
  obtain ⟨M2, hM2⟩ : ∃ u, tmM r = u := ⟨_, rfl⟩
  obtain ⟨M3, hM3⟩ : ∃ u, tmS r = u := ⟨_, rfl⟩
  rw [hM1] at hA
  rw [hM2] at hB
  rw [hM3] at hC
  rw [hM1, hM2, hM3] at kT
  clear hg hg0 hc hr hm hn m0 sm b8 hu1 hu2 hu3 hM1 hM2 hM3
  cases u1 <;> cases u2 <;> cases u3
  all_goals
    go_enter Try.func5, Try.ntmps5
    go_wp2_with fail
    refine (cG.out _).mono ?_
    rintro e w1 ⟨rfl, hB1⟩
    have HF1 := hid (HF0.out.keep hB1)
    obtain ⟨⟨k0, k1, k2, k3, k4⟩, k5, k6, k7, k8, k9, kx⟩ := HF1.out.1
    clear hB1
    go_wp2_with fail
    refine (kT.out _ HF1.out).mono ?_
    rintro e w2 ⟨rfl, hS2⟩
    have HF2 := hid hS2
    clear hS2 k0 k1 k2 k3 k4 k5 k6 k7 k8 k9 kx
    obtain ⟨⟨k0, k1, k2, k3, k4⟩, k5, k6, k7, k8, k9, kx⟩ := HF2.out.1
    go_wp2_with fail
    refine (kC.out _ HF2.out).mono ?_
    rintro e w3 ⟨rfl, hS3⟩
    have HF3 := hid hS3
    clear hS3 k0 k1 k2 k3 k4 k5 k6 k7 k8 k9 kx
    obtain ⟨⟨k0, k1, k2, k3, k4⟩, k5, k6, k7, k8, k9, kx⟩ := HF3.out.1
    go_upto_region 7 with fail
    rw [hx]
    go_wp2_with (first
      | (go_at_call 26; with_reducible refine (hA.out _).mono ?_; rintro e w' ⟨rfl, rfl⟩)
      | (go_at_call 26; with_reducible refine (hB.out _).mono ?_; rintro e w' ⟨rfl, rfl⟩)
      | (go_at_call 26; with_reducible refine (hC.out _).mono ?_; rintro e w' ⟨rfl, rfl⟩))
    refine (kM.out _ HF3.out).mono ?_
    rintro e w4 ⟨rfl, hS4⟩
    have HF4 := hid hS4
    clear hS4 k0 k1 k2 k3 k4 k5 k6 k7 k8 k9 kx
    go_wp2_with fail
    refine (kL.out _ HF4.out).mono ?_
    rintro e w5 ⟨rfl, hS5⟩
    have HF5 := hid hS5
    clear hS5
    go_wp2
    go_ret
    exact ⟨rfl, HF5.out.2.2.2.1⟩
end Go.Proofs.Ytndfckpcbiecnaa

/-
  feriaref32.Time, and what it has to do with rule.Times' masks.
-/
import Derived.Test.YtndfckpcbiecnaaRuleTimes
import Derived.Deep.CutRange
namespace Go.Proofs.Ytndfckpcbiecnaa
open Go.RowKit
set_option linter.unusedVariables false

def partB (l : List Int) (at' freq fq x : Int) : Bool := (decide (l.length = 0) && (decide (fq < freq) || decide (x = at'))) || decide (x ∈ l)
theorem ofM_has {l : List Int} {x : Int} (h0 : 0 ≤ x) (h1 : x < 64) : hasB (ofM l) x = decide (x ∈ l) := by
  rw [hasB, decide_eq_true h0, Bool.true_and, ofM, mk_test, decide_eq_true (by omega : x.toNat < 64), Bool.true_and, inB, decide_eq_decide]
  rw [Int.toNat_of_nonneg h0]
theorem part_one {l : List Int} {at' freq fq x : Int} {full : Nat} (h0 : 0 ≤ x) (h1 : x < 64) (hf : hasB full x = true) : hasB (oneE l at' freq full fq) x = partB l at' freq fq x := by
  rw [oneE, partB]
  by_cases h : 0 < l.length
  · rw [if_pos h, ofM_has h0 h1, decide_eq_false (by omega : ¬ l.length = 0), Bool.false_and, Bool.false_or]
  · have hl : l = [] := List.eq_nil_of_length_eq_zero (by omega)
    subst hl
    rw [if_neg h]
    by_cases h2 : freq ≤ fq
    · rw [if_pos h2, ofM_has h0 h1, decide_eq_false (by omega : ¬ fq < freq)]
      simp
    · rw [if_neg h2, hf, decide_eq_true (by omega : fq < freq)]
      simp
theorem full_has : (∀ n : Nat, n < 24 → (fullCl.m 2).testBit n = true) ∧ (∀ n : Nat, n < 60 → (fullCl.m 1).testBit n = true) ∧ (∀ n : Nat, n < 60 → (fullCl.m 0).testBit n = true) := by
  refine ⟨?_, ?_, ?_⟩ <;> decide +kernel
theorem hasB_full {m : Nat} {x : Int} {k : Nat} (h : ∀ n : Nat, n < k → m.testBit n = true) (h0 : 0 ≤ x) (h1 : x < k) : hasB m x = true := by
  rw [hasB, decide_eq_true h0, Bool.true_and]; exact h _ (by omega)
def timeB (r : Ru) (n : Int) : Bool := partB r.l8 (r.st % 86400 / 3600) 3 r.fq (n / 3600) && (partB r.l9 (r.st % 86400 / 60 % 60) 2 r.fq (n % 3600 / 60) && partB r.lx (r.st % 86400 % 60) 1 r.fq (n % 60))
theorem time_law {r : Ru} {n : Int} (hc : checkE r = 0) (h0 : 0 ≤ n) (h1 : n < 86400) : (hasB (tmH r) (n / 3600) && (hasB (tmM r) (n % 3600 / 60) && hasB (tmS r) (n % 60))) = timeB r n := by
  rw [tmH, tmM, tmS, if_pos hc, if_pos hc, if_pos hc, timeB,
    part_one (by omega) (by omega) (hasB_full full_has.1 (by omega) (by omega)),
    part_one (by omega) (by omega) (hasB_full full_has.2.1 (by omega) (by omega)),
    part_one (by omega) (by omega) (hasB_full full_has.2.2 (by omega) (by omega))]
set_option maxRecDepth 100000 in
set_option maxHeartbeats 6400000 in
theorem RTime_any (r : Ru) (n : Int) (w : World) (hr : RuS w r) (hm : r.Sm 1000000) (hw : winB r.st = true) (h0 : 0 ≤ n) (h1 : n < 86400) : Calls Try.prog 27 #[ruv r, .int .i64 n] w fun e w' => e = .returned (.bool (timeB r n)) ∧ Below w.heap.size w w' := by
  have hB0 : Below w.heap.size w (w.alloc (.cells (ruList r).toArray 34)) := below_new (Below.refl _ _) (Nat.le_refl _)
  have cS := hid (RStamp_any r.st (w.alloc (.cells (ruList r).toArray 34)) hw)
  rw [stampV_yes hw] at cS
  have HB0 := hid hB0
  have HRB := hid (ruB_new w r 34)
  rw [timeB]
  have k8 := hid (fun W (h : RuS W r) => RHas32_any r.a8 r.c8 r.l8 (n / 3600) W (by have := hm.n8; omega) h.s8)
  have k9 := hid (fun W (h : RuS W r) => RHas32_any r.a9 r.c9 r.l9 (n % 3600 / 60) W (by have := hm.n9; omega) h.s9)
  have kx := hid (fun W (h : RuS W r) => RHas32_any r.ax r.cx r.lx (n % 60) W (by have := hm.nx; omega) h.sx)
  obtain ⟨y, hy⟩ : ∃ y, fY (r.st / 86400) = y := ⟨_, rfl⟩
  obtain ⟨mo, hmo⟩ : ∃ y, fMo (r.st / 86400) = y := ⟨_, rfl⟩
  obtain ⟨d, hd⟩ : ∃ y, fD (r.st / 86400) = y := ⟨_, rfl⟩
  obtain ⟨h, hh⟩ : ∃ y, r.st % 86400 / 3600 = y := ⟨_, rfl⟩
  obtain ⟨m, hmm⟩ : ∃ y, r.st % 86400 / 60 % 60 = y := ⟨_, rfl⟩
  obtain ⟨s, hss⟩ : ∃ y, r.st % 86400 % 60 = y := ⟨_, rfl⟩
  rw [hy, hmo, hd, hh, hmm, hss] at cS
  rw [hh, hmm, hss]
  have P8 := hid (rfl : partB r.l8 h 3 r.fq (n / 3600) = partB r.l8 h 3 r.fq (n / 3600))
  have P9 := hid (rfl : partB r.l9 m 2 r.fq (n % 3600 / 60) = partB r.l9 m 2 r.fq (n % 3600 / 60))
  have Px := hid (rfl : partB r.lx s 1 r.fq (n % 60) = partB r.lx s 1 r.fq (n % 60))
  obtain ⟨p8, e8⟩ : ∃ p, partB r.l8 h 3 r.fq (n / 3600) = p := ⟨_, rfl⟩
  obtain ⟨p9, e9⟩ : ∃ p, partB r.l9 m 2 r.fq (n % 3600 / 60) = p := ⟨_, rfl⟩
  obtain ⟨px, ex⟩ : ∃ p, partB r.lx s 1 r.fq (n % 60) = p := ⟨_, rfl⟩
  have E8 := hid e8
  have E9 := hid e9
  have Ex := hid ex
  rw [e8, e9, ex]
  rw [partB] at E8 E9 Ex
  have HR := hid hr
  clear hr hm hw hB0 hy hmo hd hh hmm hss e8 e9 ex P8 P9 Px
  go_enter Try.func27, Try.ntmps27
  go_wp2_with fail
  refine cS.out.mono ?_
  rintro e w1 ⟨rfl, hB1⟩
  have hz1 := hB1.size
  rw [World.size_alloc] at hz1
  have hn := below_new (o := .cells #[.int .i64 y, .int .i64 mo, .int .i64 d, .int .i64 h, .int .i64 m, .int .i64 s] 123) (Below.refl w1.heap.size w1) (Nat.le_refl _)
  have HB1 := hid ((HB0.out.trans (hB1.mono (by rw [World.size_alloc]; omega))).trans (hn.mono (by omega)))
  have HR1 := hid ((HRB.out.below hB1 (by rw [World.size_alloc]; omega)).below hn (by omega))
  have hX1 := six_new w1 (.int .i64 y) (.int .i64 mo) (.int .i64 d) (.int .i64 h) (.int .i64 m) (.int .i64 s) 123
  obtain ⟨W1, hW1⟩ : ∃ W1, w1.alloc (.cells #[.int .i64 y, .int .i64 mo, .int .i64 d, .int .i64 h, .int .i64 m, .int .i64 s] 123) = W1 := ⟨_, rfl⟩
  obtain ⟨b5, hb5⟩ : ∃ b, w1.heap.size = b := ⟨_, rfl⟩
  rw [hW1] at HB1 HR1 hX1
  rw [hb5] at hX1
  have HW := hid hW1
  have Hb := hid hb5
  have HS1 := hid (HR.out.below HB1.out)
  obtain ⟨⟨s0, s1, s2, s3, s4, s5⟩, -⟩ := hX1
  obtain ⟨⟨k0, k1, k2, k3, k4⟩, q5, q6, q7, q8, q9, qx⟩ := HR1.out.all
  clear hB1 hn hz1 HRB HB0 hW1 hb5
  go_upto_region 2 with fail
  rw [HW.out, Hb.out]
  go_upto_region 3 with fail
  go_cut [9] from 21 to 41 (fun x9 wx => x9 = .bool p8 ∧ W1 = wx)
  case first =>
    by_cases c0 : r.l8.length = 0
    · have cb : ((r.l8.length : Int) == 0) = true := by simpa using c0
      have hl0 : r.l8 = [] := List.eq_nil_of_length_eq_zero c0
      by_cases c1 : r.fq < 3
      · have hf : Hid (p8 = true) := by show _ = _; rw [← E8.out, decide_eq_true c0, decide_eq_true c1]; rfl
        clear c0 hl0
        go_wp2
        go_meet
        exact ⟨by rw [hf.out], by trivial⟩
      · by_cases c2 : n / 3600 = h
        · have hf : Hid (p8 = true) := by show _ = _; rw [← E8.out, decide_eq_true c0, decide_eq_true c2, Bool.or_true]; rfl
          have cb2 : (n / 3600 == h) = true := by simpa using c2
          clear c0 hl0 c2
          go_wp2
          go_meet
          exact ⟨by rw [hf.out], by trivial⟩
        · have hf : Hid (p8 = decide (n / 3600 ∈ r.l8)) := by show _ = _; rw [← E8.out, decide_eq_false c1, decide_eq_false c2, Bool.or_false, Bool.and_false, Bool.false_or]
          have cb2 : (n / 3600 == h) = false := by simpa using c2
          clear c0 hl0 c2
          go_wp2_with fail
          refine (k8.out _ HS1.out).mono ?_
          rintro e w3 ⟨rfl, rfl⟩
          go_wp2
          go_meet
          exact ⟨by rw [hf.out], by trivial⟩
    · have cb : ((r.l8.length : Int) == 0) = false := by simpa using c0
      have hf : Hid (p8 = decide (n / 3600 ∈ r.l8)) := by show _ = _; rw [← E8.out, decide_eq_false c0, Bool.false_and, Bool.false_or]
      clear c0
      go_wp2_with fail
      refine (k8.out _ HS1.out).mono ?_
      rintro e w3 ⟨rfl, rfl⟩
      go_wp2
      go_meet
      exact ⟨by rw [hf.out], by trivial⟩
  case rest =>
    obtain ⟨rfl, rfl⟩ := hcut
    go_upto_region 4 with fail
    go_cut [10] from 42 to 62 (fun x10 wx => x10 = .bool p9 ∧ W1 = wx)
    case first =>
      by_cases c0 : r.l9.length = 0
      · have cb : ((r.l9.length : Int) == 0) = true := by simpa using c0
        have hl0 : r.l9 = [] := List.eq_nil_of_length_eq_zero c0
        by_cases c1 : r.fq < 2
        · have hf : Hid (p9 = true) := by show _ = _; rw [← E9.out, decide_eq_true c0, decide_eq_true c1]; rfl
          clear c0 hl0
          go_wp2
          go_meet
          exact ⟨by rw [hf.out], by trivial⟩
        · by_cases c2 : n % 3600 / 60 = m
          · have hf : Hid (p9 = true) := by show _ = _; rw [← E9.out, decide_eq_true c0, decide_eq_true c2, Bool.or_true]; rfl
            have cb2 : (n % 3600 / 60 == m) = true := by simpa using c2
            clear c0 hl0 c2
            go_wp2
            go_meet
            exact ⟨by rw [hf.out], by trivial⟩
          · have hf : Hid (p9 = decide (n % 3600 / 60 ∈ r.l9)) := by show _ = _; rw [← E9.out, decide_eq_false c1, decide_eq_false c2, Bool.or_false, Bool.and_false, Bool.false_or]
            have cb2 : (n % 3600 / 60 == m) = false := by simpa using c2
            clear c0 hl0 c2
            go_wp2_with fail
            refine (k9.out _ HS1.out).mono ?_
            rintro e w3 ⟨rfl, rfl⟩
            go_wp2
            go_meet
            exact ⟨by rw [hf.out], by trivial⟩
      · have cb : ((r.l9.length : Int) == 0) = false := by simpa using c0
        have hf : Hid (p9 = decide (n % 3600 / 60 ∈ r.l9)) := by show _ = _; rw [← E9.out, decide_eq_false c0, Bool.false_and, Bool.false_or]
        clear c0
        go_wp2_with fail
        refine (k9.out _ HS1.out).mono ?_
        rintro e w3 ⟨rfl, rfl⟩
        go_wp2
        go_meet
        exact ⟨by rw [hf.out], by trivial⟩
    case rest =>
      obtain ⟨rfl, rfl⟩ := hcut
      cases p8
      · go_wp2
        go_ret
        exact ⟨rfl, HB1.out⟩
      cases p9
      · go_wp2
        go_ret
        exact ⟨rfl, HB1.out⟩
      by_cases c0 : r.lx.length = 0
      · have cb : ((r.lx.length : Int) == 0) = true := by simpa using c0
        have hl0 : r.lx = [] := List.eq_nil_of_length_eq_zero c0
        by_cases c1 : r.fq < 1
        · have hf : Hid (px = true) := by show _ = _; rw [← Ex.out, decide_eq_true c0, decide_eq_true c1]; rfl
          clear c0 hl0
          go_wp2
          go_ret
          exact ⟨by rw [hf.out]; rfl, HB1.out⟩
        · by_cases c2 : n % 60 = s
          · have hf : Hid (px = true) := by show _ = _; rw [← Ex.out, decide_eq_true c0, decide_eq_true c2, Bool.or_true]; rfl
            have cb2 : (n % 60 == s) = true := by simpa using c2
            clear c0 hl0 c2
            go_wp2
            go_ret
            exact ⟨by rw [hf.out]; rfl, HB1.out⟩
          · have hf : Hid (px = decide (n % 60 ∈ r.lx)) := by show _ = _; rw [← Ex.out, decide_eq_false c1, decide_eq_false c2, Bool.or_false, Bool.and_false, Bool.false_or]
            have cb2 : (n % 60 == s) = false := by simpa using c2
            clear c0 hl0 c2
            go_wp2_with fail
            refine (kx.out _ HS1.out).mono ?_
            rintro e w3 ⟨rfl, rfl⟩
            go_wp2
            go_ret
            exact ⟨by rw [hf.out]; rfl, HB1.out⟩
      · have cb : ((r.lx.length : Int) == 0) = false := by simpa using c0
        have hf : Hid (px = decide (n % 60 ∈ r.lx)) := by show _ = _; rw [← Ex.out, decide_eq_false c0, Bool.false_and, Bool.false_or]
        clear c0
        go_wp2_with fail
        refine (kx.out _ HS1.out).mono ?_
        rintro e w3 ⟨rfl, rfl⟩
        go_wp2
        go_ret
        exact ⟨by rw [hf.out]; rfl, HB1.out⟩
end Go.Proofs.Ytndfckpcbiecnaa

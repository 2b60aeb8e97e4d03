/-
  feriaref32.Same.
-/
import Derived.Test.YtndfckpcbiecnaaRuleSame
import Derived.Test.YtndfckpcbiecnaaInts
namespace Go.Proofs.Ytndfckpcbiecnaa
open Go.RowKit
set_option linter.unusedVariables false

set_option maxRecDepth 100000 in
set_option maxHeartbeats 12800000 in
theorem RSame_any (r s : Ru) (w : World) (hr : RuS w r) (hs : RuS w s) (hm : r.Sm 1000000) (hm' : s.Sm 1000000) :
    Calls Try.prog 24 #[ruv r, ruv s] w fun e w' => e = .returned (.bool (sameB r s)) ∧ Below w.heap.size w w' := by
  have HF0 := hid (saF_new w r s 34 hr hs)
  have n7 := hm.n7
  have n7' := hm'.n7
  have hlI : (r.l7.length : Int) ≤ 1000000 := by omega
  have hlI' : (s.l7.length : Int) ≤ 1000000 := by omega
  have k5 := hid (fun W (h : SaF w r s W) => keep_of' (Ints_any r.a5 s.a5 r.c5 s.c5 r.l5 s.l5 W (by have := hm.n5; omega) (by have := hm'.n5; omega) h.s1.s5 h.s2.s5) (fun _ => h.keep))
  have k6 := hid (fun W (h : SaF w r s W) => keep_of' (Ints_any r.a6 s.a6 r.c6 s.c6 r.l6 s.l6 W (by have := hm.n6; omega) (by have := hm'.n6; omega) h.s1.s6 h.s2.s6) (fun _ => h.keep))
  have k8 := hid (fun W (h : SaF w r s W) => keep_of' (Ints_any r.a8 s.a8 r.c8 s.c8 r.l8 s.l8 W (by have := hm.n8; omega) (by have := hm'.n8; omega) h.s1.s8 h.s2.s8) (fun _ => h.keep))
  have k9 := hid (fun W (h : SaF w r s W) => keep_of' (Ints_any r.a9 s.a9 r.c9 s.c9 r.l9 s.l9 W (by have := hm.n9; omega) (by have := hm'.n9; omega) h.s1.s9 h.s2.s9) (fun _ => h.keep))
  have kx := hid (fun W (h : SaF w r s W) => keep_of' (Ints_any r.ax s.ax r.cx s.cx r.lx s.lx W (by have := hm.nx; omega) (by have := hm'.nx; omega) h.s1.sx h.s2.sx) (fun _ => h.keep))
  have hsame := hid (rfl : sameB r s = sameB r s)
  obtain ⟨V, hV⟩ : ∃ V, sameB r s = V := ⟨_, rfl⟩
  have HV := hid hV
  rw [sameB] at HV
  rw [hV]
  clear hV hr hs hm hm' hsame
  by_cases hst : r.st = s.st
  rotate_left
  · have hb : (r.st != s.st) = true := by simp [hst]
    have hf : Hid (V = false) := by
      show _ = _
      rw [← HV.out, hdSame, decide_eq_false (by intro h; exact hst (by obtain ⟨a1, a2, a3, a4, a5⟩ := h; assumption)), Bool.false_and]
    clear hst
    go_enter Try.func24, Try.ntmps24
    go_wp2
    go_ret
    exact ⟨by rw [hf.out]; rfl, HF0.out.be⟩
  have gst : (r.st != s.st) = false := by simp [hst]
  by_cases hfq : r.fq = s.fq
  rotate_left
  · have hb : (r.fq != s.fq) = true := by simp [hfq]
    have hf : Hid (V = false) := by
      show _ = _
      rw [← HV.out, hdSame, decide_eq_false (by intro h; exact hfq (by obtain ⟨a1, a2, a3, a4, a5⟩ := h; assumption)), Bool.false_and]
    clear hfq
    go_enter Try.func24, Try.ntmps24
    go_wp2
    go_ret
    exact ⟨by rw [hf.out]; rfl, HF0.out.be⟩
  have gfq : (r.fq != s.fq) = false := by simp [hfq]
  by_cases hiv : r.iv = s.iv
  rotate_left
  · have hb : (r.iv != s.iv) = true := by simp [hiv]
    have hf : Hid (V = false) := by
      show _ = _
      rw [← HV.out, hdSame, decide_eq_false (by intro h; exact hiv (by obtain ⟨a1, a2, a3, a4, a5⟩ := h; assumption)), Bool.false_and]
    clear hiv
    go_enter Try.func24, Try.ntmps24
    go_wp2
    go_ret
    exact ⟨by rw [hf.out]; rfl, HF0.out.be⟩
  have giv : (r.iv != s.iv) = false := by simp [hiv]
  by_cases hco : r.co = s.co
  rotate_left
  · have hb : (r.co != s.co) = true := by simp [hco]
    have hf : Hid (V = false) := by
      show _ = _
      rw [← HV.out, hdSame, decide_eq_false (by intro h; exact hco (by obtain ⟨a1, a2, a3, a4, a5⟩ := h; assumption)), Bool.false_and]
    clear hco
    go_enter Try.func24, Try.ntmps24
    go_wp2
    go_ret
    exact ⟨by rw [hf.out]; rfl, HF0.out.be⟩
  have gco : (r.co != s.co) = false := by simp [hco]
  by_cases hun : r.un = s.un
  rotate_left
  · have hb : (r.un != s.un) = true := by simp [hun]
    have hf : Hid (V = false) := by
      show _ = _
      rw [← HV.out, hdSame, decide_eq_false (by intro h; exact hun (by obtain ⟨a1, a2, a3, a4, a5⟩ := h; assumption)), Bool.false_and]
    clear hun
    go_enter Try.func24, Try.ntmps24
    go_wp2
    go_ret
    exact ⟨by rw [hf.out]; rfl, HF0.out.be⟩
  have gun : (r.un != s.un) = false := by simp [hun]
  have hh : Hid (hdSame r s = true) := decide_eq_true ⟨hst, hiv, hco, hun, hfq⟩
  clear hst hiv hco hun hfq
  by_cases hl : r.l7.length = s.l7.length
  rotate_left
  · have hb : ((r.l7.length : Int) != (s.l7.length : Int)) = true := by simp; omega
    have hf : Hid (V = false) := by
      show _ = _
      rw [← HV.out, decide_eq_false (by intro h; exact hl (by rw [h]) : ¬ r.l7 = s.l7), Bool.false_and, Bool.and_false, Bool.and_false, Bool.and_false]
    clear hl
    go_enter Try.func24, Try.ntmps24
    go_wp2
    go_ret
    exact ⟨by rw [hf.out]; rfl, HF0.out.be⟩
  have hb : ((r.l7.length : Int) != (s.l7.length : Int)) = false := by simp; omega
  have HL := hid hl
  clear hl
  obtain ⟨b5, g5⟩ : ∃ q, decide (r.l5 = s.l5) = q := ⟨_, rfl⟩
  obtain ⟨b6, g6⟩ : ∃ q, decide (r.l6 = s.l6) = q := ⟨_, rfl⟩
  obtain ⟨b8, g8⟩ : ∃ q, decide (r.l8 = s.l8) = q := ⟨_, rfl⟩
  obtain ⟨b9, g9⟩ : ∃ q, decide (r.l9 = s.l9) = q := ⟨_, rfl⟩
  obtain ⟨bx, gx⟩ : ∃ q, decide (r.lx = s.lx) = q := ⟨_, rfl⟩
  rw [g5, g6, g8, g9, gx, hh.out, Bool.true_and] at HV
  rw [g5] at k5
  rw [g6] at k6
  rw [g8] at k8
  rw [g9] at k9
  rw [gx] at kx
  clear g5 g6 g8 g9 gx hh
  go_enter Try.func24, Try.ntmps24
  go_wp2
  clear gst gfq giv gco gun hb
  go_loopw [5] (fun i wr => ∃ k : Nat, i = .int .i64 k ∧ k ≤ r.l7.length ∧ Hid (r.l7.take k = s.l7.take k) ∧ Hid (SaF w r s wr)) (fun i _ => r.l7.length - (intOf i).toNat)
  case atStart => exact ⟨0, rfl, by omega, by rfl, HF0⟩
  case round =>
    obtain ⟨k, rfl, hk, hT, hF⟩ := hrel
    obtain ⟨⟨-, q5, q6, q7, q8, q9, qx⟩, ⟨-, p5, p6, p7, p8, p9, px⟩⟩ := hF.out.sas.1
    by_cases hlt : k < r.l7.length
    · obtain ⟨d1, o1, ha1, hb1, hc1⟩ := hF.out.s1.s7.atNth hlt
      have hy' : k < s.l7.length := by rw [← HL.out]; exact hlt
      obtain ⟨d2, o2, ha2, hb2, hc2⟩ := hF.out.s2.s7.atNth hy'
      have e1 := (hc1 k hlt).1
      have e1' := (hc1 k hlt).2
      have e2 := (hc2 k hy').1
      have e2' := (hc2 k hy').2
      have ht1 := hid (take_snoc r.l7 k hlt)
      have ht2 := hid (take_snoc s.l7 k hy')
      have HFd := hid (hF.out.keep (Below.refl _ _).drew)
      obtain ⟨⟨u1, u2⟩, hu⟩ : ∃ q, r.l7[k] = q := ⟨_, rfl⟩
      obtain ⟨⟨v1, v2⟩, hv⟩ : ∃ q, s.l7[k] = q := ⟨_, rfl⟩
      have Hne : Hid ((u1, u2) ≠ (v1, v2) → V = false) := fun h => by
        rw [← HV.out]
        have : ¬ r.l7 = s.l7 := fun e => h (by rw [← hu, ← hv]; simp only [e])
        rw [decide_eq_false this, Bool.false_and, Bool.and_false, Bool.and_false]
      rw [hu] at e1 e1' ht1
      rw [hv] at e2 e2' ht2
      rw [ha1] at q7
      rw [ha2] at p7
      clear hc1 hc2 hu hv ha1 ha2
      by_cases w1 : u1 = v1
      · by_cases w2 : u2 = v2
        · have hf : Hid (r.l7.take (k + 1) = s.l7.take (k + 1)) := by show _ = _; rw [ht1.out, ht2.out, hT.out, w1, w2]
          subst w1 w2
          go_wp2
          go_quiet (fail)
          go_wp2
          exact ⟨⟨k + 1, by go_num, by omega, hf, hF.out.keep (below_drewN (Below.refl _ _) _)⟩, by simp [intOf]; omega⟩
        · have hf : Hid (V = false) := Hne.out (fun e => w2 (Prod.mk.inj e).2)
          have gb : (u1 == v1) = true := by simp [w1]
          have gb2 : (u2 == v2) = false := by simp [w2]
          clear w1 w2
          go_wp2
          go_quiet (fail)
          go_wp2
          go_ret
          exact ⟨by rw [hf.out]; rfl, (hF.out.keep (below_drewN (Below.refl _ _) _)).be⟩
      · have hf : Hid (V = false) := Hne.out (fun e => w1 (Prod.mk.inj e).1)
        have gb : (u1 == v1) = false := by simp [w1]
        clear w1
        go_wp2
        go_quiet (fail)
        go_wp2
        go_ret
        exact ⟨by rw [hf.out]; rfl, (hF.out.keep (below_drewN (Below.refl _ _) _)).be⟩
    · have hT' : r.l7 = s.l7 := by
        have := hT.out
        rwa [List.take_of_length_le (by omega), List.take_of_length_le (by rw [← HL.out]; omega)] at this
      have HV2 : Hid ((b5 && (b6 && (b8 && (b9 && bx)))) = V) := by
        show _ = _
        rw [← HV.out, decide_eq_true hT', Bool.true_and]
      clear hT'
      go_wp2_with fail
      refine (k5.out _ hF.out).mono ?_
      rintro e w2 ⟨rfl, hS5⟩
      clear q5 q6 q7 q8 q9 qx p5 p6 p7 p8 p9 px
      obtain ⟨⟨-, q5, q6, q7, q8, q9, qx⟩, ⟨-, p5, p6, p7, p8, p9, px⟩⟩ := hS5.sas.1
      cases b5
      · have hf : Hid (V = false) := by show _ = _; rw [← HV2.out]; simp
        go_wp2
        go_ret
        exact ⟨by rw [hf.out]; rfl, hS5.be⟩
      go_wp2_with fail
      refine (k6.out _ hS5).mono ?_
      rintro e w3 ⟨rfl, hS6⟩
      clear q5 q6 q7 q8 q9 qx p5 p6 p7 p8 p9 px
      obtain ⟨⟨-, q5, q6, q7, q8, q9, qx⟩, ⟨-, p5, p6, p7, p8, p9, px⟩⟩ := hS6.sas.1
      cases b6
      · have hf : Hid (V = false) := by show _ = _; rw [← HV2.out]; simp
        go_wp2
        go_ret
        exact ⟨by rw [hf.out]; rfl, hS6.be⟩
      go_wp2_with fail
      refine (k8.out _ hS6).mono ?_
      rintro e w4 ⟨rfl, hS8⟩
      clear q5 q6 q7 q8 q9 qx p5 p6 p7 p8 p9 px
      obtain ⟨⟨-, q5, q6, q7, q8, q9, qx⟩, ⟨-, p5, p6, p7, p8, p9, px⟩⟩ := hS8.sas.1
      cases b8
      · have hf : Hid (V = false) := by show _ = _; rw [← HV2.out]; simp
        go_wp2
        go_ret
        exact ⟨by rw [hf.out]; rfl, hS8.be⟩
      go_wp2_with fail
      refine (k9.out _ hS8).mono ?_
      rintro e w5 ⟨rfl, hS9⟩
      clear q5 q6 q7 q8 q9 qx p5 p6 p7 p8 p9 px
      obtain ⟨⟨-, q5, q6, q7, q8, q9, qx⟩, ⟨-, p5, p6, p7, p8, p9, px⟩⟩ := hS9.sas.1
      cases b9
      · have hf : Hid (V = false) := by show _ = _; rw [← HV2.out]; simp
        go_wp2
        go_ret
        exact ⟨by rw [hf.out]; rfl, hS9.be⟩
      go_wp2_with fail
      refine (kx.out _ hS9).mono ?_
      rintro e w6 ⟨rfl, hSx⟩
      clear q5 q6 q7 q8 q9 qx p5 p6 p7 p8 p9 px
      obtain ⟨⟨-, q5, q6, q7, q8, q9, qx⟩, ⟨-, p5, p6, p7, p8, p9, px⟩⟩ := hSx.sas.1
      have hf : Hid (V = bx) := by show _ = _; rw [← HV2.out]; simp
      go_wp2
      go_ret
      exact ⟨by rw [hf.out]; rfl, hSx.be⟩
end Go.Proofs.Ytndfckpcbiecnaa

/-
  feriaref32.days and weeks.
-/
import Derived.Test.YtndfckpcbiecnaaRuleWeeks
namespace Go.Proofs.Ytndfckpcbiecnaa
open Go.RowKit
set_option linter.unusedVariables false

set_option maxHeartbeats 1600000 in
theorem RefDays_any (r : Ru) (w : World) (hr : RuS w r) (hm : r.Sm 1000000) : Calls Try.prog 72 #[ruv r] w fun e w' => e = .returned (.int .i64 (daysE r)) ∧ Below w.heap.size w w' := by
  have hB0 : Below w.heap.size w (w.alloc (.cells (ruList r).toArray 34)) := below_new (Below.refl _ _) (Nat.le_refl _)
  have c1 := hid (RList_of r.a6 r.c6 r.l6 (-31) 31 _ (by have := hm.n6; omega) (hr.below hB0).s6)
  have c3 := hid (Signs_any r.a6 r.c6 r.l6 _ (by have := hm.n6; omega) (hr.below hB0).s6)
  have HB0 := hid hB0
  have Hs := hid (hr.below hB0).s6
  have hlI : (r.l6.length : Int) ≤ 1000000 := by have := hm.n6; omega
  rw [daysE]
  obtain ⟨E, hE⟩ : ∃ q, listE (-31) 31 r.l6 = q := ⟨_, rfl⟩
  obtain ⟨m, hmx⟩ : ∃ q, mixB r.l6 = q := ⟨_, rfl⟩
  rw [hE] at c1 ⊢
  rw [hmx] at c3 ⊢
  clear hE hmx hr hm hB0
  by_cases hE0 : E = 0
  rotate_left
  · rw [if_neg hE0]
    have hb : (E != 0) = true := by simp [hE0]
    clear hE0
    go_enter Try.func72, Try.ntmps72
    go_wp2_with fail
    refine c1.out.mono ?_
    rintro e w1 ⟨rfl, rfl⟩
    go_wp2
    go_ret
    exact ⟨rfl, HB0.out⟩
  subst hE0
  rw [if_pos rfl]
  obtain ⟨V, hV⟩ : ∃ V, (if r.l6.any (fun n => n == 0) = true then (4 : Int) else if 0 < r.l6.length ∧ r.fq = 4 then 12 else if m = true then 12 else 0) = V := ⟨_, rfl⟩
  have HV := hid hV
  rw [hV]
  clear hV
  go_enter Try.func72, Try.ntmps72
  go_wp2_with fail
  refine c1.out.mono ?_
  rintro e w1 ⟨rfl, rfl⟩
  clear c1
  go_wp2_with fail
  go_loopw [4] (fun i wr => ∃ k : Nat, i = .int .i64 k ∧ k ≤ r.l6.length ∧ Hid (∀ x ∈ r.l6.take k, (fun n : Int => n == 0) x = false) ∧ wr = w.alloc (.cells (ruList r).toArray 34)) (fun i _ => r.l6.length - (intOf i).toNat)
  case atStart => exact ⟨0, rfl, by omega, by show ∀ x, _; simp, by rfl⟩
  case round =>
    obtain ⟨k, rfl, hk, hI, rfl⟩ := hrel
    by_cases hlt : k < r.l6.length
    · obtain ⟨b, off, ha, hb, hc⟩ := Hs.out.atInt hlt
      have e1 := hc k hlt
      have ht := hid (take_snoc r.l6 k hlt)
      have hmm := hid (List.getElem_mem hlt)
      obtain ⟨y, hy⟩ : ∃ y, r.l6[k] = y := ⟨_, rfl⟩
      rw [hy] at e1 ht hmm
      rw [ha]
      clear hc hy
      by_cases h : y = 0
      · have hz : (y == 0) = true := by simpa using h
        have hf : Hid (V = 4) := by
          show _ = _
          rw [← HV.out, if_pos (List.any_eq_true.2 ⟨y, hmm.out, hz⟩)]
        clear h
        go_wp2
        go_ret
        exact ⟨by rw [hf.out]; rfl, HB0.out⟩
      · have hz : (y == 0) = false := by simpa using h
        have hf := hid (mem_snoc (p := fun n : Int => n == 0) ht.out hI.out hz)
        clear h
        go_wp2
        exact ⟨⟨k + 1, by go_num, by omega, hf, by trivial⟩, by simp [intOf]; omega⟩
    · have hke : r.l6.take k = r.l6 := List.take_of_length_le (by omega)
      rw [hke] at hI
      have hf : Hid (V = if 0 < r.l6.length ∧ r.fq = 4 then 12 else if m = true then 12 else 0) := by
        show _ = _
        rw [← HV.out, if_neg]
        intro h
        obtain ⟨x, hx, h⟩ := List.any_eq_true.1 h
        have h2 : (x == 0) = false := hI.out x hx
        rw [h2] at h
        cases h
      clear hke
      by_cases h0 : 0 < r.l6.length
      · have h0I : (0 : Int) < r.l6.length := by omega
        by_cases h4 : r.fq = 4
        · have hf2 : Hid (V = 12) := by show _ = _; rw [hf.out, if_pos ⟨h0, h4⟩]
          have hb4 : (r.fq == 4) = true := by simp [h4]
          clear h4
          go_wp2
          go_ret
          exact ⟨by rw [hf2.out]; rfl, HB0.out⟩
        · have hf2 : Hid (V = if m = true then 12 else 0) := by show _ = _; rw [hf.out, if_neg (fun h => h4 h.2)]
          have hb4 : (r.fq == 4) = false := by simp [h4]
          clear h4
          go_wp2_with fail
          refine c3.out.mono ?_
          rintro e w2 ⟨rfl, hB2⟩
          have HB2 := hid (HB0.out.trans (hB2.mono HB0.out.size))
          clear hB2
          cases m
          · go_wp2
            go_ret
            exact ⟨by rw [hf2.out]; rfl, HB2.out⟩
          · go_wp2
            go_ret
            exact ⟨by rw [hf2.out]; rfl, HB2.out⟩
      · have h0I : ¬ (0 : Int) < r.l6.length := by omega
        have hf2 : Hid (V = if m = true then 12 else 0) := by show _ = _; rw [hf.out, if_neg (fun h => h0 h.1)]
        go_wp2_with fail
        refine c3.out.mono ?_
        rintro e w2 ⟨rfl, hB2⟩
        have HB2 := hid (HB0.out.trans (hB2.mono HB0.out.size))
        clear hB2
        cases m
        · go_wp2
          go_ret
          exact ⟨by rw [hf2.out]; rfl, HB2.out⟩
        · go_wp2
          go_ret
          exact ⟨by rw [hf2.out]; rfl, HB2.out⟩
def wkP (x : Int × Int) : Bool := outP (-53) 53 x.1 || dayP x
theorem any_or {α : Type} (p q : α → Bool) : ∀ l : List α, l.any (fun x => p x || q x) = (l.any p || l.any q)
  | [] => rfl
  | x :: l => by
    rw [List.any_cons, List.any_cons, List.any_cons, any_or p q l]
    cases p x <;> cases q x <;> cases l.any p <;> rfl
theorem wk_any (r : Ru) : r.l7.any wkP = (outB (-53) 53 (nsL r) || r.l7.any dayP) := by
  rw [show r.l7.any wkP = r.l7.any (fun x => (fun y : Int × Int => outP (-53) 53 y.1) x || dayP x) from rfl, any_or, outB, List.any_map]; rfl
set_option maxRecDepth 100000 in
set_option maxHeartbeats 6400000 in
theorem RefWeeks_any (r : Ru) (w : World) (hr : RuS w r) (hm : r.Sm 1000000) (hu : 0 ≤ r.fq ∧ r.fq ≤ 6) : Calls Try.prog 73 #[ruv r] w fun e w' => e = .returned (.int .i64 (weeksE r)) ∧ Below w.heap.size w w' := by
  have hB0 : Below w.heap.size w (w.alloc (.cells (ruList r).toArray 34)) := below_new (Below.refl _ _) (Nat.le_refl _)
  have Hln : Hid ((nsL r).length = r.l7.length) := List.length_map _
  have c1 := hid (Ns_any r.a7 r.c7 r.l7 _ hm.n7 (hr.below hB0).s7)
  have hSt : ∀ a W, Below (w.alloc (.cells (ruList r).toArray 34)).heap.size (w.alloc (.cells (ruList r).toArray 34)) W → Sl W a (ints (nsL r)) → WkS w r a W := fun a W hb hs =>
    ⟨(ruB_new w r _).below hb (by simp), (hr.below hB0).below hb, hs, hB0.trans (hb.mono (by simp)), Nat.lt_of_lt_of_le (by simp) hb.size⟩
  have HSt := hid hSt
  have kM : Hid (∀ a cap W, WkS w r a W → Calls Try.prog 138 #[.slice a r.l7.length cap] W fun e w' => e = .returned (.bool (mixB (nsL r))) ∧ WkS w r a w') := fun a cap W h => keep_of' (by have h' := Signs_any a cap (nsL r) W (by have := hm.n7; have := Hln.out; omega) h.n; rw [Hln.out] at h'; exact h') (fun _ => h.keep)
  have kZ : Hid (∀ a cap W, WkS w r a W → Calls Try.prog 137 #[.slice a r.l7.length cap, .int .i64 0, .int .i64 0] W fun e w' => e = .returned (.bool (outB 0 0 (nsL r))) ∧ W = w') := fun a cap W h => by have h' := ROut_any a cap (nsL r) 0 0 W (by have := hm.n7; have := Hln.out; omega) h.n; rw [Hln.out] at h'; exact h'
  have kB : Hid (∀ a cap W, WkS w r a W → Calls Try.prog 137 #[.slice a r.l7.length cap, .int .i64 (-5), .int .i64 5] W fun e w' => e = .returned (.bool (outB (-5) 5 (nsL r))) ∧ W = w') := fun a cap W h => by have h' := ROut_any a cap (nsL r) (-5) 5 W (by have := hm.n7; have := Hln.out; omega) h.n; rw [Hln.out] at h'; exact h'
  have h7 := hm.n7
  have hnI : (r.l7.length : Int) ≤ 1000000 := by omega
  have hwk := hid (wk_any r)
  by_cases h64 : 64 < r.l7.length
  · rw [weeksE, if_pos h64]
    have hI : (64 : Int) < r.l7.length := by omega
    clear hB0 hr hm h64 hSt
    go_enter Try.func73, Try.ntmps73
    go_wp2_with fail
    refine c1.out.mono ?_
    rintro e w1 ⟨v, rfl, hown, hB1⟩
    obtain ⟨a, cap, rfl, hsl, -⟩ := owns_form hown
    have hS := HSt.out a w1 hB1 hsl
    clear hown hB1 hsl
    go_wp2
    go_ret
    exact ⟨rfl, hS.be⟩
  have hI : ¬ (64 : Int) < r.l7.length := by omega
  rw [weeksE, if_neg h64]
  obtain ⟨n5, hn5⟩ : ∃ q, decide (0 < r.l5.length) = q := ⟨_, rfl⟩
  obtain ⟨f5, hf5⟩ : ∃ q, (r.fq == 5) = q := ⟨_, rfl⟩
  obtain ⟨f6, hf6⟩ : ∃ q, (r.fq == 6) = q := ⟨_, rfl⟩
  have hlt5 : decide (r.fq < 5) = (!f5 && !f6) := by
    rw [← hf5, ← hf6, Bool.eq_iff_iff]; simp; omega
  have hn5' : decide ((0 : Int) < r.l5.length) = n5 := by rw [← hn5, decide_eq_decide]; omega
  obtain ⟨o, ho⟩ : ∃ q, outB (-53) 53 (nsL r) = q := ⟨_, rfl⟩
  obtain ⟨d, hd⟩ : ∃ q, r.l7.any dayP = q := ⟨_, rfl⟩
  obtain ⟨m, hmx⟩ : ∃ q, mixB (nsL r) = q := ⟨_, rfl⟩
  obtain ⟨z, hz⟩ : ∃ q, outB 0 0 (nsL r) = q := ⟨_, rfl⟩
  obtain ⟨q, hq⟩ : ∃ q, outB (-5) 5 (nsL r) = q := ⟨_, rfl⟩
  rw [hn5, hf5, hf6, ho, hd, hmx, hz, hq]
  rw [ho, hd] at hwk
  rw [hmx] at kM
  rw [hz] at kZ
  rw [hq] at kB
  have hK : Hid (weeksK o d m z f5 f6 n5 q = if (o || d) = true then 4 else weeksK false false m z f5 f6 n5 q) := by
    show _ = _
    cases o <;> cases d <;> rfl
  obtain ⟨V, hV⟩ : ∃ V, weeksK o d m z f5 f6 n5 q = V := ⟨_, rfl⟩
  rw [hV] at hK ⊢
  obtain ⟨U, hU⟩ : ∃ V, (o || d) = V := ⟨_, rfl⟩
  rw [hU] at hK hwk
  clear hm h64 hB0 hSt hn5 hf6 ho hd hmx hz hq hu hV hU
  have H7 : Hid (∀ W, WkS w r none W ∨ True → True) := fun _ _ => trivial
  go_enter Try.func73, Try.ntmps73
  go_wp2_with fail
  refine c1.out.mono ?_
  rintro e w1 ⟨v, rfl, hown, hB1⟩
  obtain ⟨a, cap, rfl, hsl, -⟩ := owns_form hown
  have hS := HSt.out a w1 hB1 hsl
  have HS := hid hS
  clear hown hB1 hsl H7 c1 HSt hr
  go_wp2_with fail
  go_loopw [4] (fun i wr => ∃ k : Nat, i = .int .i64 k ∧ k ≤ r.l7.length ∧ Hid (∀ x ∈ r.l7.take k, wkP x = false) ∧ wr = w1) (fun i _ => r.l7.length - (intOf i).toNat)
  case atStart => exact ⟨0, rfl, by omega, by show ∀ x, _; simp, by trivial⟩
  case round =>
    obtain ⟨k, rfl, hk, hI', rfl⟩ := hrel
    obtain ⟨⟨k0, k1, k2, k3, k4⟩, k5, k6, k7, k8, k9, kx⟩ := hS.b.all
    by_cases hlt : k < r.l7.length
    · obtain ⟨b, off, ha, hb, hc⟩ := hS.s.s7.atNth hlt
      obtain ⟨b', off', ha', hb', hc'⟩ := hS.n.atInt (l := nsL r) (k := k) (by rw [Hln.out]; exact hlt)
      have e1 := hc' k (by rw [Hln.out]; exact hlt)
      rw [List.getElem_map] at e1
      have e2 := (hc k hlt).2
      have ht := hid (take_snoc r.l7 k hlt)
      have hmm := hid (List.getElem_mem hlt)
      obtain ⟨y, hy⟩ : ∃ y, r.l7[k] = y := ⟨_, rfl⟩
      rw [hy] at e1 e2 ht hmm
      subst ha'
      rw [ha] at k7
      clear hc hy hc' ha
      by_cases g0 : y.1 < -53
      · have hf : Hid (U = true) := by
          show _ = _
          rw [← hwk.out, List.any_eq_true]
          exact ⟨y, hmm.out, by rw [wkP, outP, decide_eq_true g0]; rfl⟩
        go_wp2
        go_ret
        exact ⟨by rw [hK.out, hf.out]; rfl, HS.out.be⟩
      by_cases g1 : 53 < y.1
      · have hf : Hid (U = true) := by
          show _ = _
          rw [← hwk.out, List.any_eq_true]
          exact ⟨y, hmm.out, by rw [wkP, outP, decide_eq_true g1, Bool.or_true]; rfl⟩
        go_wp2
        go_ret
        exact ⟨by rw [hK.out, hf.out]; rfl, HS.out.be⟩
      by_cases g2 : y.2 < 1
      · have hf : Hid (U = true) := by
          show _ = _
          rw [← hwk.out, List.any_eq_true]
          exact ⟨y, hmm.out, by rw [wkP, dayP, decide_eq_true g2, Bool.true_or, Bool.or_true]⟩
        go_wp2
        go_ret
        exact ⟨by rw [hK.out, hf.out]; rfl, HS.out.be⟩
      by_cases g3 : 7 < y.2
      · have hf : Hid (U = true) := by
          show _ = _
          rw [← hwk.out, List.any_eq_true]
          exact ⟨y, hmm.out, by rw [wkP, dayP, decide_eq_true g3, Bool.or_true, Bool.or_true]⟩
        go_wp2
        go_ret
        exact ⟨by rw [hK.out, hf.out]; rfl, HS.out.be⟩
      have hf := hid (memN_snoc (p := wkP) ht.out hI'.out (by rw [wkP, outP, dayP, decide_eq_false g0, decide_eq_false g1, decide_eq_false g2, decide_eq_false g3]; rfl))
      go_wp2
      exact ⟨⟨k + 1, by go_num, by omega, hf, by trivial⟩, by simp [intOf]; omega⟩
    · have hke : r.l7.take k = r.l7 := List.take_of_length_le (by omega)
      rw [hke] at hI'
      have hf : Hid (U = false) := by
        show _ = _
        rw [← hwk.out, ← Bool.not_eq_true, List.any_eq_true]
        rintro ⟨x, hx, h⟩
        rw [hI'.out x hx] at h
        cases h
      have hVV : Hid (V = weeksK false false m z f5 f6 n5 q) := by show _ = _; rw [hK.out, hf.out]; rfl
      clear hke
      go_wp2_with fail
      refine (kM.out a cap _ HS.out).mono ?_
      rintro e w4 ⟨rfl, hS4⟩
      clear k0 k1 k2 k3 k4 k5 k6 k7 k8 k9 kx
      obtain ⟨⟨k0, k1, k2, k3, k4⟩, k5, k6, k7, k8, k9, kx⟩ := hS4.b.all
      cases m
      rotate_left
      · go_wp2
        go_ret
        exact ⟨by rw [hVV.out]; rfl, hS4.be⟩
      go_wp2_with fail
      refine (kZ.out a cap w4 hS4).mono ?_
      rintro e w5 ⟨rfl, rfl⟩
      cases z <;> cases f5 <;> cases f6
      all_goals
        simp only [Bool.not_true, Bool.not_false, Bool.and_true, Bool.and_false] at hlt5
        first
          | (go_wp2; go_ret; exact ⟨by rw [hVV.out]; rfl, hS4.be⟩)
          | (go_wp2_with fail
             refine (kB.out a cap w4 hS4).mono ?_
             rintro e w5 ⟨rfl, rfl⟩
             cases q <;> cases n5
             all_goals
               simp only [decide_eq_true_eq, decide_eq_false_iff_not] at hn5'
               go_wp2
               go_ret
               exact ⟨by rw [hVV.out]; rfl, hS4.be⟩)
end Go.Proofs.Ytndfckpcbiecnaa

/-
  ferialaw32.RuleDays answers true.
-/
import Derived.Test.YtndfckpcbiecnaaRuleOrd
import Derived.Test.YtndfckpcbiecnaaRuleRDate
import Derived.Test.YtndfckpcbiecnaaRuleDaysY
import Derived.Test.YtndfckpcbiecnaaRuleTimesWalk
namespace Go.Proofs.Ytndfckpcbiecnaa
open Go.RowKit
set_option linter.unusedVariables false

/-- the comparison of two Ords, kept whole in a walk -/
def eqlOrdS (a b : Value) : Sem Value := binOp .eql 25 a b
theorem eql_ordS (a b : Value) : binOp .eql 25 a b = eqlOrdS a b := rfl
attribute [local go_sem ↓] eql_ordS
theorem eqlOrd_zero (W : World) : (eqlOrdS (.agg #[.int .i64 0, .bool false, .int .u64 0, .int .u64 0, .int .u64 0, .int .u64 0, .int .u64 0, .int .u64 0, .int .u64 0, .int .u64 0]) (.agg #[.int .i64 0, .bool false, .int .u64 0, .int .u64 0, .int .u64 0, .int .u64 0, .int .u64 0, .int .u64 0, .int .u64 0, .int .u64 0])).run Try.prog W = .ok (.bool true) W :=
  eql_ord 0 false (fun _ => 0) 0 false (fun _ => 0) W ⟨by decide, by decide⟩ (fun i _ => by show 0 < _; decide) ⟨by decide, by decide⟩ (fun i _ => by show 0 < _; decide)
attribute [local go_sem] eqlOrd_zero
theorem shF_bd {n : Int} (h0 : 0 ≤ n) (h1 : n < 146097) : (∀ i, 0 ≤ shF n i ∧ shF n i ≤ 1000000) ∧ (1 ≤ shF n 2 ∧ shF n 2 ≤ 12) ∧ (1 ≤ shF n 3 ∧ shF n 3 ≤ 31) ∧ (1 ≤ shF n 4 ∧ shF n 4 ≤ 31) ∧ (1 ≤ shF n 6 ∧ shF n 6 < 64) ∧ (1 ≤ shF n 7 ∧ shF n 7 < 64) ∧ (1 ≤ shF n 8 ∧ shF n 8 < 64) ∧ (1 ≤ shF n 9 ∧ shF n 9 < 64) := by
  obtain ⟨y0, y1, m0, m1, d0, d1⟩ := fDate_year h0 h1
  obtain ⟨-, g2, g3⟩ := fOr_ms h0 h1
  obtain ⟨l0, l1⟩ := lenI_bd (fY n) (fMo n)
  have lp := leapI_bd (fY n)
  have e0 : shF n 0 = n := rfl
  have e1 : shF n 1 = fY n := rfl
  have e2 : shF n 2 = fMo n := rfl
  have e3 : shF n 3 = fD n := rfl
  have e4 : shF n 4 = lenI (fY n) (fMo n) - fD n + 1 := rfl
  have e5 : shF n 5 = (n % 7 + 3) % 7 + 1 := rfl
  have e6 : shF n 6 = (fD n - 1) / 7 + 1 := rfl
  have e7 : shF n 7 = (lenI (fY n) (fMo n) - fD n) / 7 + 1 := rfl
  have e8 : shF n 8 = (fOr n - 1) / 7 + 1 := rfl
  have e9 : ∀ i, 9 ≤ i → shF n i = (365 + leapI (fY n) - fOr n) / 7 + 1 := fun i hi => by
    match i, hi with
    | (k + 9), _ => rfl
  have e9' := e9 9 (by omega)
  refine ⟨fun i => ?_, by omega, by omega, by omega, by omega, by omega, by omega, by omega⟩
  by_cases h : 9 ≤ i
  · have := e9 i h; omega
  · have : i = 0 ∨ i = 1 ∨ i = 2 ∨ i = 3 ∨ i = 4 ∨ i = 5 ∨ i = 6 ∨ i = 7 ∨ i = 8 := by omega
    rcases this with rfl | rfl | rfl | rfl | rfl | rfl | rfl | rfl | rfl <;> omega
theorem rd_lt (r : Ru) : monthsV r < 18446744073709551616 ∧ domV r < 18446744073709551616 ∧ endV r < 18446744073709551616 ∧ weekM r < 18446744073709551616 ∧ ∀ j, j < 8 → woD r j < 18446744073709551616 := by
  refine ⟨?_, ?_, ?_, ?_, fun j _ => ?_⟩
  · rw [monthsV]; repeat' split
    all_goals first | exact mk_lt _ | decide +kernel | omega
  · rw [domV]; repeat' split
    all_goals first | exact mk_lt _ | decide +kernel | omega
  · rw [endV]; repeat' split
    all_goals first | exact negM_lt _ | decide +kernel | omega
  · rw [weekM]; repeat' split
    all_goals first | exact mk_lt _ | exact wkM_lt _ | decide +kernel | omega
  · rw [woD]; split
    · exact wkD_lt _ _
    · omega
theorem woI_in (r : Ru) : woI r = 0 ∨ woI r = 1 ∨ woI r = 2 := by
  rw [woI]; split
  · rw [weekIn]; split
    · exact .inr (.inr rfl)
    · exact .inr (.inl rfl)
  · exact .inl rfl
/-- what the law says of a day -/
theorem days_eq {r : Ru} {n : Int} (hc : checkE r = 0) (h0 : 0 ≤ n) (h1 : n < 146097) : dateR r (shF n) = (hasB (monthsV r) (shF n 2) && (hasB (domV r) (shF n 3) && (hasB (endV r) (shF n 4) && (hasB (weekM r) (shF n 5) && nthB (woI r) (woB r) (woD r) (shF n))))) := by
  obtain ⟨-, b2, b3, b4, b6, b7, b8, b9⟩ := shF_bd h0 h1
  rw [dateR, month_law hc b2.1 b2.2, ← day_law hc b3.1 b3.2 b4.1 b4.2, ← week_law hc (shF_wk n) b6 b7 b8 b9, Bool.and_assoc]
structure DwF (w : World) (r : Ru) (b9 : Nat) (oI : Int) (oB : Bool) (oD : Nat → Nat) (W : World) : Prop where
  rc : RcS w r W
  ot : OrdT W b9 oI oB oD
  l : b9 < W.heap.size
theorem DwF.keep {w W W' : World} {r : Ru} {b9 : Nat} {oI : Int} {oB : Bool} {oD : Nat → Nat} (h : DwF w r b9 oI oB oD W) (hb : Below W.heap.size W W') : DwF w r b9 oI oB oD W' :=
  ⟨h.rc.keep hb, h.ot.below hb h.l, Nat.lt_of_lt_of_le h.l hb.size⟩
structure DxF (w : World) (r : Ru) (b9 : Nat) (oI : Int) (oB : Bool) (oD : Nat → Nat) (b10 : Nat) (s : Nat → Int) (W : World) : Prop where
  dw : DwF w r b9 oI oB oD W
  sh : ShS W b10 s
  l : b10 < W.heap.size
theorem DxF.keep {w W W' : World} {r : Ru} {b9 : Nat} {oI : Int} {oB : Bool} {oD : Nat → Nat} {b10 : Nat} {s : Nat → Int} (h : DxF w r b9 oI oB oD b10 s W) (hb : Below W.heap.size W W') : DxF w r b9 oI oB oD b10 s W' :=
  ⟨h.dw.keep hb, h.sh.below hb h.l, Nat.lt_of_lt_of_le h.l hb.size⟩
set_option maxRecDepth 100000 in
set_option maxHeartbeats 6400000 in
theorem RuleDays_walk (r : Ru) (d : Int) (w : World) (hr : RuS w r) (hm : r.Sm 281474976710656) (hn : r.Num) (hd : 0 ≤ d ∧ d ≤ 4294967295) : Calls Try.prog 8 #[ruv r, .int .u32 d] w fun e w' => e = .returned (.bool true) ∧ Below w.heap.size w w' := by
  obtain ⟨hd0, hd1⟩ := hd
  have HF0 := hid (rcS_new w r 34 hr)
  have cG := hid (fun W => Great_any r W hm)
  have cL := hid (fun W => Lives32_any W)
  by_cases hg : greatB r = true
  · rw [hg] at cG
    clear hg hr hm hn
    go_enter Try.func8, Try.ntmps8
    go_wp2_with fail
    refine (cG.out _).mono ?_
    rintro e w1 ⟨rfl, hB1⟩
    have HF1 := hid (HF0.out.keep hB1)
    clear hB1
    go_wp2_with fail
    refine (cL.out _).mono ?_
    rintro e w2 ⟨rfl, hB2⟩
    have HF2 := hid (HF1.out.keep hB2)
    clear hB2
    go_wp2
    go_ret
    exact ⟨rfl, HF2.out.2.2.2.1⟩
  have hg0 : greatB r = false := by simpa using hg
  rw [hg0] at cG
  have m0 := great_sm hg0
  have sm : r.Sm 1000000 := ⟨by have := m0.n5; omega, by have := m0.n6; omega, by have := m0.n7; omega, by have := m0.n8; omega, by have := m0.n9; omega, by have := m0.nx; omega⟩
  have kM := hid (fun W (h : RcS w r W) => keep_of' (Months_any r W h.2.2.1 sm) (fun _ => h.keep))
  have kD := hid (fun W (h : RcS w r W) => keep_of' (Days_any r W h.2.2.1 sm) (fun _ => h.keep))
  have kW := hid (fun W (h : RcS w r W) => keep_of' (Week_any r W h.2.2.1 sm) (fun _ => h.keep))
  have kC := hid (fun W (h : RcS w r W) => RCheck_any r W h.2.2.1 sm)
  have b8 := rd_lt r
  have hA := hid (fun x W => RHas_any (monthsV r) x W b8.1)
  have hB := hid (fun x W => RHas_any (domV r) x W b8.2.1)
  have hC := hid (fun x W => RHas_any (endV r) x W b8.2.2.1)
  have hE := hid (fun x W => RHas_any (weekM r) x W b8.2.2.2.1)
  have hO := hid (fun s (hs : 1 ≤ s 5 ∧ s 5 ≤ 7) W => LOrd_any (woI r) (woB r) (woD r) s W (woI_in r) b8.2.2.2.2 hs)
  rw [weekO_ord] at kW
  by_cases hc : checkE r = 0
  rotate_left
  · rw [show monthsV r = 0 by rw [monthsV, if_neg hc]] at kM
    rw [show domV r = 0 by rw [domV, if_neg hc], show endV r = 0 by rw [endV, if_neg hc]] at kD
    rw [show weekM r = 0 by rw [weekM, if_neg hc], show woI r = 0 by rw [woI, if_neg (fun e => hc e.1)], show woB r = false by rw [woB, if_neg (fun e => hc e.1)], show woD r = (fun _ => 0) by funext j; rw [woD, if_neg (fun e => hc e.1)]] at kW
    obtain ⟨E, hE'⟩ : ∃ E, checkE r = E := ⟨_, rfl⟩
    rw [hE'] at kC hc
    have hb : (E != 0) = true := by simpa using hc
    clear hg hg0 hE' hc hr hm hn m0 sm b8 hA hB hC hE hO
    go_enter Try.func8, Try.ntmps8
    go_wp2_with fail
    refine (cG.out _).mono ?_
    rintro e w1 ⟨rfl, hB1⟩
    have HF1 := hid (HF0.out.keep hB1)
    clear hB1
    obtain ⟨⟨k0, k1, k2, k3, k4⟩, k5, k6, k7, k8, k9, kx⟩ := HF1.out.1
    go_wp2_with fail
    refine (kM.out _ HF1.out).mono ?_
    rintro e w2 ⟨rfl, hS2⟩
    have HF2 := hid hS2
    clear k0 k1 k2 k3 k4 k5 k6 k7 k8 k9 kx hS2
    obtain ⟨⟨k0, k1, k2, k3, k4⟩, k5, k6, k7, k8, k9, kx⟩ := HF2.out.1
    go_wp2_with fail
    refine (kD.out _ HF2.out).mono ?_
    rintro e w3 ⟨rfl, hS3⟩
    have HF3 := hid hS3
    clear k0 k1 k2 k3 k4 k5 k6 k7 k8 k9 kx hS3
    obtain ⟨⟨k0, k1, k2, k3, k4⟩, k5, k6, k7, k8, k9, kx⟩ := HF3.out.1
    go_wp2_with fail
    refine (kW.out _ HF3.out).mono ?_
    rintro e w4 ⟨rfl, hS4⟩
    have HD4 : Hid (DwF w r w4.heap.size 0 false (fun _ => 0) (w4.alloc (.cells #[.int .i64 0, .bool false, .int .u64 0, .int .u64 0, .int .u64 0, .int .u64 0, .int .u64 0, .int .u64 0, .int .u64 0, .int .u64 0] 25))) := ⟨hS4.keep (below_new (Below.refl _ _) (Nat.le_refl _)), tenX_new w4 (.int .i64 0) (.bool false) (.int .u64 0) (.int .u64 0) (.int .u64 0) (.int .u64 0) (.int .u64 0) (.int .u64 0) (.int .u64 0) (.int .u64 0) 25, by rw [World.size_alloc]; omega⟩
    obtain ⟨W4, hW4⟩ : ∃ W, w4.alloc (.cells #[.int .i64 0, .bool false, .int .u64 0, .int .u64 0, .int .u64 0, .int .u64 0, .int .u64 0, .int .u64 0, .int .u64 0, .int .u64 0] 25) = W := ⟨_, rfl⟩
    obtain ⟨b9, hb9⟩ : ∃ b, w4.heap.size = b := ⟨_, rfl⟩
    rw [hW4, hb9] at HD4
    have HW4 := hid hW4
    have Hb9 := hid hb9
    clear k0 k1 k2 k3 k4 k5 k6 k7 k8 k9 kx hS4 hW4 hb9
    go_upto_region 6 with fail
    rw [HW4.out, Hb9.out]
    obtain ⟨⟨k0, k1, k2, k3, k4⟩, k5, k6, k7, k8, k9, kx⟩ := HD4.out.rc.1
    go_wp2_with fail
    refine (kC.out _ HD4.out.rc).mono ?_
    rintro e w5 ⟨rfl, hB5⟩
    have HD5 := hid (HD4.out.keep hB5)
    clear k0 k1 k2 k3 k4 k5 k6 k7 k8 k9 kx hB5
    obtain ⟨⟨o0, o1, o2, o3, o4, o5, o6, o7, o8, o9⟩, -⟩ := HD5.out.ot
    go_wp2_with fail
    refine (cL.out _).mono ?_
    rintro e w6 ⟨rfl, hB6⟩
    have HD6 := hid (HD5.out.keep hB6)
    clear hB6 o0 o1 o2 o3 o4 o5 o6 o7 o8 o9
    go_wp2
    go_ret
    exact ⟨rfl, HD6.out.rc.2.2.2.1⟩
  have hst := (head_ok (check_ok hc).h).1
  have hq0 : 0 ≤ d % 146097 := Int.emod_nonneg _ (by omega)
  have hq1 : d % 146097 < 146097 := Int.emod_lt_of_pos _ (by omega)
  have kT := hid (fun W (h : RcS w r W) => RDate32_any r (shF (d % 146097)) W h.2.2.1 sm hst (shF_bd hq0 hq1).1)
  rw [days_eq hc hq0 hq1] at kT
  rw [hc] at kC
  have cS := hid (fun W => RShape_any (d % 146097) W hq0 hq1)
  rw [← shq_shF] at cS
  have hO' := hid (hO.out (shF (d % 146097)) (shF_wk _))
  obtain ⟨x, hx⟩ : ∃ x, d % 146097 = x := ⟨_, rfl⟩
  rw [hx] at kT cS hO' hq0 hq1
  have Hx := hid hx
  obtain ⟨s, hs⟩ : ∃ s, shF x = s := ⟨_, rfl⟩
  rw [hs] at kT cS hO'
  rw [shq] at kT cS hO'
  have hA' := hid (hA.out (s 2))
  have hB' := hid (hB.out (s 3))
  have hC' := hid (hC.out (s 4))
  have hE' := hid (hE.out (s 5))
  obtain ⟨u1, hu1⟩ : ∃ u, hasB (monthsV r) (s 2) = u := ⟨_, rfl⟩
  rw [hu1] at hA' kT
  obtain ⟨u2, hu2⟩ : ∃ u, hasB (domV r) (s 3) = u := ⟨_, rfl⟩
  rw [hu2] at hB' kT
  obtain ⟨u3, hu3⟩ : ∃ u, hasB (endV r) (s 4) = u := ⟨_, rfl⟩
  rw [hu3] at hC' kT
  obtain ⟨u4, hu4⟩ : ∃ u, hasB (weekM r) (s 5) = u := ⟨_, rfl⟩
  rw [hu4] at hE' kT
  obtain ⟨u5, hu5⟩ : ∃ u, nthB (woI r) (woB r) (woD r) s = u := ⟨_, rfl⟩
  rw [hu5] at hO' kT
  obtain ⟨M1, hM1⟩ : ∃ u, monthsV r = u := ⟨_, rfl⟩
  rw [hM1] at hA' kM
  obtain ⟨M2, hM2⟩ : ∃ u, domV r = u := ⟨_, rfl⟩
  rw [hM2] at hB' kD
  obtain ⟨M3, hM3⟩ : ∃ u, endV r = u := ⟨_, rfl⟩
  rw [hM3] at hC' kD
  obtain ⟨M4, hM4⟩ : ∃ u, weekM r = u := ⟨_, rfl⟩
  rw [hM4] at hE' kW
  obtain ⟨oI, hoI⟩ : ∃ u, woI r = u := ⟨_, rfl⟩
  rw [hoI] at hO' kW
  obtain ⟨oB, hoB⟩ : ∃ u, woB r = u := ⟨_, rfl⟩
  rw [hoB] at hO' kW
  obtain ⟨oD, hoD⟩ : ∃ u, woD r = u := ⟨_, rfl⟩
  rw [hoD] at hO' kW
  clear hg hg0 hc hr hm hn m0 sm b8 hu1 hu2 hu3 hu4 hu5 hM1 hM2 hM3 hM4 hoI hoB hoD hA hB hC hE hO hs hst hx
  go_enter Try.func8, Try.ntmps8
  go_wp2_with fail
  refine (cG.out _).mono ?_
  rintro e w1 ⟨rfl, hB1⟩
  have HF1 := hid (HF0.out.keep hB1)
  clear hB1
  obtain ⟨⟨k0, k1, k2, k3, k4⟩, k5, k6, k7, k8, k9, kx⟩ := HF1.out.1
  go_wp2_with fail
  refine (kM.out _ HF1.out).mono ?_
  rintro e w2 ⟨rfl, hS2⟩
  have HF2 := hid hS2
  clear k0 k1 k2 k3 k4 k5 k6 k7 k8 k9 kx hS2
  obtain ⟨⟨k0, k1, k2, k3, k4⟩, k5, k6, k7, k8, k9, kx⟩ := HF2.out.1
  go_wp2_with fail
  refine (kD.out _ HF2.out).mono ?_
  rintro e w3 ⟨rfl, hS3⟩
  have HF3 := hid hS3
  clear k0 k1 k2 k3 k4 k5 k6 k7 k8 k9 kx hS3
  obtain ⟨⟨k0, k1, k2, k3, k4⟩, k5, k6, k7, k8, k9, kx⟩ := HF3.out.1
  go_wp2_with fail
  refine (kW.out _ HF3.out).mono ?_
  rintro e w4 ⟨rfl, hS4⟩
  have HD4 : Hid (DwF w r w4.heap.size oI oB oD (w4.alloc (.cells #[.int .i64 oI, .bool oB, .int .u64 (oD 0 : Nat), .int .u64 (oD 1 : Nat), .int .u64 (oD 2 : Nat), .int .u64 (oD 3 : Nat), .int .u64 (oD 4 : Nat), .int .u64 (oD 5 : Nat), .int .u64 (oD 6 : Nat), .int .u64 (oD 7 : Nat)] 25))) := ⟨hS4.keep (below_new (Below.refl _ _) (Nat.le_refl _)), tenX_new w4 (.int .i64 oI) (.bool oB) (.int .u64 (oD 0 : Nat)) (.int .u64 (oD 1 : Nat)) (.int .u64 (oD 2 : Nat)) (.int .u64 (oD 3 : Nat)) (.int .u64 (oD 4 : Nat)) (.int .u64 (oD 5 : Nat)) (.int .u64 (oD 6 : Nat)) (.int .u64 (oD 7 : Nat)) 25, by rw [World.size_alloc]; omega⟩
  obtain ⟨W4, hW4⟩ : ∃ W, w4.alloc (.cells #[.int .i64 oI, .bool oB, .int .u64 (oD 0 : Nat), .int .u64 (oD 1 : Nat), .int .u64 (oD 2 : Nat), .int .u64 (oD 3 : Nat), .int .u64 (oD 4 : Nat), .int .u64 (oD 5 : Nat), .int .u64 (oD 6 : Nat), .int .u64 (oD 7 : Nat)] 25) = W := ⟨_, rfl⟩
  obtain ⟨b9, hb9⟩ : ∃ b, w4.heap.size = b := ⟨_, rfl⟩
  rw [hW4, hb9] at HD4
  have HW4 := hid hW4
  have Hb9 := hid hb9
  clear k0 k1 k2 k3 k4 k5 k6 k7 k8 k9 kx hS4 hW4 hb9
  go_upto_region 6 with fail
  rw [HW4.out, Hb9.out]
  obtain ⟨⟨k0, k1, k2, k3, k4⟩, k5, k6, k7, k8, k9, kx⟩ := HD4.out.rc.1
  go_wp2_with fail
  refine (kC.out _ HD4.out.rc).mono ?_
  rintro e w5 ⟨rfl, hB5⟩
  have HD5 := hid (HD4.out.keep hB5)
  clear k0 k1 k2 k3 k4 k5 k6 k7 k8 k9 kx hB5
  go_upto_region 8 with fail
  go_wp2_with fail
  (try rw [Hx.out])
  refine (cS.out _).mono ?_
  rintro e w6 ⟨rfl, hB6⟩
  have HX6 : Hid (DxF w r b9 oI oB oD w6.heap.size s (w6.alloc (.cells #[.int .i64 (s 0), .int .i64 (s 1), .int .i64 (s 2), .int .i64 (s 3), .int .i64 (s 4), .int .i64 (s 5), .int .i64 (s 6), .int .i64 (s 7), .int .i64 (s 8), .int .i64 (s 9)] 60))) := ⟨(HD5.out.keep hB6).keep (below_new (Below.refl _ _) (Nat.le_refl _)), shC_new w6 60 (s 0) (s 1) (s 2) (s 3) (s 4) (s 5) (s 6) (s 7) (s 8) (s 9), by rw [World.size_alloc]; omega⟩
  obtain ⟨W6, hW6⟩ : ∃ W, w6.alloc (.cells #[.int .i64 (s 0), .int .i64 (s 1), .int .i64 (s 2), .int .i64 (s 3), .int .i64 (s 4), .int .i64 (s 5), .int .i64 (s 6), .int .i64 (s 7), .int .i64 (s 8), .int .i64 (s 9)] 60) = W := ⟨_, rfl⟩
  obtain ⟨b10, hb10⟩ : ∃ b, w6.heap.size = b := ⟨_, rfl⟩
  rw [hW6, hb10] at HX6
  have HW6 := hid hW6
  have Hb10 := hid hb10
  clear hB6 hW6 hb10
  go_upto_region 9 with fail
  rw [HW6.out, Hb10.out]
  obtain ⟨⟨k0, k1, k2, k3, k4⟩, k5, k6, k7, k8, k9, kx⟩ := HX6.out.dw.rc.1
  obtain ⟨⟨o0, o1, o2, o3, o4, o5, o6, o7, o8, o9⟩, -⟩ := HX6.out.dw.ot
  obtain ⟨s0, s1, s2, s3, s4, s5, s6, s7, s8, s9⟩ := HX6.out.sh
  cases u1
  · simp only [Bool.false_and] at kT
    go_wp2_with (first
      | (go_at_call 26; with_reducible refine (hA'.out _).mono ?_; rintro e w' ⟨rfl, rfl⟩)
      | (go_at_call 26; with_reducible refine (hB'.out _).mono ?_; rintro e w' ⟨rfl, rfl⟩)
      | (go_at_call 26; with_reducible refine (hC'.out _).mono ?_; rintro e w' ⟨rfl, rfl⟩)
      | (go_at_call 26; with_reducible refine (hE'.out _).mono ?_; rintro e w' ⟨rfl, rfl⟩))
    refine (kT.out _ HX6.out.dw.rc).mono ?_
    rintro e w8 ⟨rfl, hB8⟩
    have HX8 := hid (HX6.out.keep hB8)
    clear k0 k1 k2 k3 k4 k5 k6 k7 k8 k9 kx hB8 s0 s1 s2 s3 s4 s5 s6 s7 s8 s9
    go_wp2_with fail
    refine (cL.out _).mono ?_
    rintro e w9 ⟨rfl, hB9⟩
    have HX9 := hid (HX8.out.keep hB9)
    clear hB9
    go_wp2
    go_ret
    exact ⟨rfl, HX9.out.dw.rc.2.2.2.1⟩
  · cases u2
    · simp only [Bool.true_and, Bool.false_and] at kT
      go_wp2_with (first
        | (go_at_call 26; with_reducible refine (hA'.out _).mono ?_; rintro e w' ⟨rfl, rfl⟩)
        | (go_at_call 26; with_reducible refine (hB'.out _).mono ?_; rintro e w' ⟨rfl, rfl⟩)
        | (go_at_call 26; with_reducible refine (hC'.out _).mono ?_; rintro e w' ⟨rfl, rfl⟩)
        | (go_at_call 26; with_reducible refine (hE'.out _).mono ?_; rintro e w' ⟨rfl, rfl⟩))
      refine (kT.out _ HX6.out.dw.rc).mono ?_
      rintro e w8 ⟨rfl, hB8⟩
      have HX8 := hid (HX6.out.keep hB8)
      clear k0 k1 k2 k3 k4 k5 k6 k7 k8 k9 kx hB8 s0 s1 s2 s3 s4 s5 s6 s7 s8 s9
      go_wp2_with fail
      refine (cL.out _).mono ?_
      rintro e w9 ⟨rfl, hB9⟩
      have HX9 := hid (HX8.out.keep hB9)
      clear hB9
      go_wp2
      go_ret
      exact ⟨rfl, HX9.out.dw.rc.2.2.2.1⟩
    · cases u3
      · simp only [Bool.true_and, Bool.false_and] at kT
        go_wp2_with (first
          | (go_at_call 26; with_reducible refine (hA'.out _).mono ?_; rintro e w' ⟨rfl, rfl⟩)
          | (go_at_call 26; with_reducible refine (hB'.out _).mono ?_; rintro e w' ⟨rfl, rfl⟩)
          | (go_at_call 26; with_reducible refine (hC'.out _).mono ?_; rintro e w' ⟨rfl, rfl⟩)
          | (go_at_call 26; with_reducible refine (hE'.out _).mono ?_; rintro e w' ⟨rfl, rfl⟩))
        refine (kT.out _ HX6.out.dw.rc).mono ?_
        rintro e w8 ⟨rfl, hB8⟩
        have HX8 := hid (HX6.out.keep hB8)
        clear k0 k1 k2 k3 k4 k5 k6 k7 k8 k9 kx hB8 s0 s1 s2 s3 s4 s5 s6 s7 s8 s9
        go_wp2_with fail
        refine (cL.out _).mono ?_
        rintro e w9 ⟨rfl, hB9⟩
        have HX9 := hid (HX8.out.keep hB9)
        clear hB9
        go_wp2
        go_ret
        exact ⟨rfl, HX9.out.dw.rc.2.2.2.1⟩
      · cases u4
        · simp only [Bool.true_and, Bool.false_and] at kT
          go_wp2_with (first
            | (go_at_call 26; with_reducible refine (hA'.out _).mono ?_; rintro e w' ⟨rfl, rfl⟩)
            | (go_at_call 26; with_reducible refine (hB'.out _).mono ?_; rintro e w' ⟨rfl, rfl⟩)
            | (go_at_call 26; with_reducible refine (hC'.out _).mono ?_; rintro e w' ⟨rfl, rfl⟩)
            | (go_at_call 26; with_reducible refine (hE'.out _).mono ?_; rintro e w' ⟨rfl, rfl⟩))
          refine (kT.out _ HX6.out.dw.rc).mono ?_
          rintro e w8 ⟨rfl, hB8⟩
          have HX8 := hid (HX6.out.keep hB8)
          clear k0 k1 k2 k3 k4 k5 k6 k7 k8 k9 kx hB8 s0 s1 s2 s3 s4 s5 s6 s7 s8 s9
          go_wp2_with fail
          refine (cL.out _).mono ?_
          rintro e w9 ⟨rfl, hB9⟩
          have HX9 := hid (HX8.out.keep hB9)
          clear hB9
          go_wp2
          go_ret
          exact ⟨rfl, HX9.out.dw.rc.2.2.2.1⟩
        · cases u5
          · simp only [Bool.true_and] at kT
            go_wp2_with (first
              | (go_at_call 26; with_reducible refine (hA'.out _).mono ?_; rintro e w' ⟨rfl, rfl⟩)
              | (go_at_call 26; with_reducible refine (hB'.out _).mono ?_; rintro e w' ⟨rfl, rfl⟩)
              | (go_at_call 26; with_reducible refine (hC'.out _).mono ?_; rintro e w' ⟨rfl, rfl⟩)
              | (go_at_call 26; with_reducible refine (hE'.out _).mono ?_; rintro e w' ⟨rfl, rfl⟩))
            refine (hO'.out _).mono ?_
            rintro e w7 ⟨rfl, hB7⟩
            have HX7 := hid (HX6.out.keep hB7)
            clear k0 k1 k2 k3 k4 k5 k6 k7 k8 k9 kx hB7 o0 o1 o2 o3 o4 o5 o6 o7 o8 o9 s0 s1 s2 s3 s4 s5 s6 s7 s8 s9
            obtain ⟨⟨k0, k1, k2, k3, k4⟩, k5, k6, k7, k8, k9, kx⟩ := HX7.out.dw.rc.1
            obtain ⟨s0, s1, s2, s3, s4, s5, s6, s7, s8, s9⟩ := HX7.out.sh
            go_wp2_with fail
            refine (kT.out _ HX7.out.dw.rc).mono ?_
            rintro e w8 ⟨rfl, hB8⟩
            have HX8 := hid (HX7.out.keep hB8)
            clear k0 k1 k2 k3 k4 k5 k6 k7 k8 k9 kx hB8 s0 s1 s2 s3 s4 s5 s6 s7 s8 s9
            go_wp2_with fail
            refine (cL.out _).mono ?_
            rintro e w9 ⟨rfl, hB9⟩
            have HX9 := hid (HX8.out.keep hB9)
            clear hB9
            go_wp2
            go_ret
            exact ⟨rfl, HX9.out.dw.rc.2.2.2.1⟩
          · simp only [Bool.true_and] at kT
            go_wp2_with (first
              | (go_at_call 26; with_reducible refine (hA'.out _).mono ?_; rintro e w' ⟨rfl, rfl⟩)
              | (go_at_call 26; with_reducible refine (hB'.out _).mono ?_; rintro e w' ⟨rfl, rfl⟩)
              | (go_at_call 26; with_reducible refine (hC'.out _).mono ?_; rintro e w' ⟨rfl, rfl⟩)
              | (go_at_call 26; with_reducible refine (hE'.out _).mono ?_; rintro e w' ⟨rfl, rfl⟩))
            refine (hO'.out _).mono ?_
            rintro e w7 ⟨rfl, hB7⟩
            have HX7 := hid (HX6.out.keep hB7)
            clear k0 k1 k2 k3 k4 k5 k6 k7 k8 k9 kx hB7 o0 o1 o2 o3 o4 o5 o6 o7 o8 o9 s0 s1 s2 s3 s4 s5 s6 s7 s8 s9
            obtain ⟨⟨k0, k1, k2, k3, k4⟩, k5, k6, k7, k8, k9, kx⟩ := HX7.out.dw.rc.1
            obtain ⟨s0, s1, s2, s3, s4, s5, s6, s7, s8, s9⟩ := HX7.out.sh
            go_wp2_with fail
            refine (kT.out _ HX7.out.dw.rc).mono ?_
            rintro e w8 ⟨rfl, hB8⟩
            have HX8 := hid (HX7.out.keep hB8)
            clear k0 k1 k2 k3 k4 k5 k6 k7 k8 k9 kx hB8 s0 s1 s2 s3 s4 s5 s6 s7 s8 s9
            go_wp2_with fail
            refine (cL.out _).mono ?_
            rintro e w9 ⟨rfl, hB9⟩
            have HX9 := hid (HX8.out.keep hB9)
            clear hB9
            go_wp2
            go_ret
            exact ⟨rfl, HX9.out.dw.rc.2.2.2.1⟩
end Go.Proofs.Ytndfckpcbiecnaa

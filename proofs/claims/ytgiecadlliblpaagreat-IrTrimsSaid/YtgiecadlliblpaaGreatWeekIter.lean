/-
  week.Days makes a function that tells the shapes of days, from one to another one.
-/
import Derived.Test.YtgiecadlliblpaaGreatIterN
import Derived.Test.YtgiecadlliblpaaGreatWeekLaw
import Derived.Test.YtgiecadlliblpaaGreatCivShape
import Derived.BigQuiet
import Derived.Deep.CutRange
namespace Go.Proofs.YtgiecadlliblpaaGreat
open Go.RowKit
set_option linter.unusedVariables false

set_option maxHeartbeats 1600000 in
theorem WDays_any (a b : Int) (w : World) : Calls Tryz.prog 80 #[.int .i64 a, .int .i64 b] w fun e w' => e = .returned (.func (.func 101) #[] #[.pointer (some ⟨w.heap.size, 0, none⟩), .pointer (some ⟨w.heap.size + 1, 0, none⟩)]) ∧
    w'.cell? ⟨w.heap.size, 0, none⟩ = some (.int .i64 (max a 0)) ∧ w'.cell? ⟨w.heap.size + 1, 0, none⟩ = some (.int .i64 (min b 146096)) ∧ Below w.heap.size w w' ∧ w.heap.size + 1 < w'.heap.size := by
  go_enter Tryz.func80, Tryz.ntmps80
  go_upto_region 1 with fail
  go_region
  go_wp2
  all_goals
    go_ret
    refine ⟨rfl, ?_, ?_, (below_new (below_new (Below.refl _ _) (Nat.le_refl _)) (by simp)).drew, by simp⟩
  · simp [go_sem]; omega
  · simp [go_sem]; omega
  · simp [go_sem]; omega
  · simp [go_sem]; omega
  · simp [go_sem]; omega
  · simp [go_sem]; omega
  · simp [go_sem]; omega
  · simp [go_sem]; omega

/-- what is told of each day -/
def shTell (l : List Int) : List (Array Value) := l.map fun n => #[shN n]
theorem shTell_len (l : List Int) : (shTell l).length = l.length := by simp [shTell]
theorem shTell_get {l : List Int} {k : Nat} (h : k < (shTell l).length) : (shTell l)[k] = #[shN (l[k]'(by rw [shTell_len] at h; exact h))] := by simp [shTell]
theorem week_start {f : Int} (h0 : 0 ≤ f) (h1 : f < 146097) : ∃ y m d o : Int, (y = fY f ∧ m = fMo f ∧ d = fD f ∧ o = fOr f) ∧
    (∀ W, Calls Tryz.prog 64 #[.int .i64 f] W fun e w' => e = .returned (.tuple #[.int .i64 y, .int .i64 m, .int .i64 d, .bool true]) ∧ Below W.heap.size W w') ∧
    (∀ W, Calls Tryz.prog 65 #[.int .i64 y, .int .i64 m, .int .i64 d] W fun e w' => e = .returned (.tuple #[.int .i64 o, .bool true]) ∧ Below W.heap.size W w') := by
  obtain ⟨y0, y1, m0, m1, d0, d1⟩ := fDate_year h0 h1
  obtain ⟨g1, g2, g3⟩ := fOr_ms h0 h1
  have hm : ((fMo f).toNat : Int) = fMo f := by omega
  refine ⟨_, _, _, _, ⟨rfl, rfl, rfl, rfl⟩, fun W => CDate_any f W h0 h1, fun W => ?_⟩
  have := COrd_any (fY f) (fMo f).toNat (fD f) W (by omega) (by omega) (by omega) (by omega) d0 (by rw [hm]; exact d1)
  rw [hm, g1] at this; exact this
/-- the values of a day that is told -/
theorem week_round {n y m d o : Int} (h0 : 0 ≤ n) (h1 : n < 146097) (hv : y = fY n ∧ m = fMo n ∧ d = fD n ∧ o = fOr n) :
    (∀ W, Calls Tryz.prog 66 #[.int .i64 n, .int .i64 y, .int .i64 m, .int .i64 d, .int .i64 o] W fun e w' => e = .returned (shN n) ∧ Below W.heap.size W w') ∧
    (∀ W, Calls Tryz.prog 87 #[.int .i64 y, .int .i64 m] W fun e w' => e = .returned (.int .i64 (lenI y m)) ∧ Below W.heap.size W w') ∧
    0 ≤ y ∧ y ≤ 3000 ∧ 1 ≤ m ∧ m ≤ 12 ∧ 1 ≤ d ∧ d ≤ 31 ∧ 1 ≤ o ∧ o ≤ 366 := by
  obtain ⟨rfl, rfl, rfl, rfl⟩ := hv
  obtain ⟨y0, y1, m0, m1, d0, d1⟩ := fDate_year h0 h1
  obtain ⟨g1, g2, g3⟩ := fOr_ms h0 h1
  have hl := lenI_bd (fY n) (fMo n)
  have hp := leapI_bd (fY n)
  exact ⟨fun W => shaped_any n _ _ _ _ W h0 (by omega) y0 (by omega) m0 m1 d0 d1 g2 g3, fun W => Length_any _ _ W (by omega) m0 m1, by omega, by omega, m0, m1, d0, by omega, g2, by omega⟩
theorem week_next {n y m d o : Int} (h0 : 0 ≤ n) (h1 : n < 146097) (hv : y = fY n ∧ m = fMo n ∧ d = fD n ∧ o = fOr n) :
    (d + 1 ≤ lenI y m → n + 1 < 146097 → y = fY (n + 1) ∧ m = fMo (n + 1) ∧ d + 1 = fD (n + 1) ∧ o + 1 = fOr (n + 1)) ∧
    (¬ d + 1 ≤ lenI y m → m + 1 ≤ 12 → n + 1 < 146097 → y = fY (n + 1) ∧ m + 1 = fMo (n + 1) ∧ 1 = fD (n + 1) ∧ o + 1 = fOr (n + 1)) ∧
    (¬ d + 1 ≤ lenI y m → ¬ m + 1 ≤ 12 → n + 1 < 146097 → y + 1 = fY (n + 1) ∧ 1 = fMo (n + 1) ∧ 1 = fD (n + 1) ∧ 1 = fOr (n + 1)) := by
  obtain ⟨rfl, rfl, rfl, rfl⟩ := hv
  refine ⟨fun h hn => ?_, fun h h2 hn => ?_, fun h h2 hn => ?_⟩
  · obtain ⟨a, b, c, e⟩ := (next_date h0 hn).1 h; exact ⟨a.symm, b.symm, c.symm, e.symm⟩
  · obtain ⟨a, b, c, e⟩ := (next_date h0 hn).2.1 h h2; exact ⟨a.symm, b.symm, c.symm, e.symm⟩
  · obtain ⟨a, b, c, e⟩ := (next_date h0 hn).2.2 h h2; exact ⟨a.symm, b.symm, c.symm, e.symm⟩

set_option maxRecDepth 100000 in
set_option maxHeartbeats 3200000 in
theorem WeekIter_any (f t : Int) (b1 b2 : Nat) (y : Value) (J Jx : OwnP) (O : Nat → Prop) (W : World) (h0 : 0 ≤ f) (hf1 : f ≤ 146097) (h1 : t ≤ 146096) (ht0 : -1 ≤ t)
    (hC : ClientV Tryz.prog y (shTell (daysL f t)) J Jx O W) (hJ : J 0 O W) (hb1 : b1 < W.heap.size) (hb2 : b2 < W.heap.size) (n1 : ¬ O b1) (n2 : ¬ O b2)
    (c1 : W.cell? ⟨b1, 0, none⟩ = some (.int .i64 f)) (c2 : W.cell? ⟨b2, 0, none⟩ = some (.int .i64 t)) :
    Calls Tryz.prog 101 #[y, .pointer (some ⟨b1, 0, none⟩), .pointer (some ⟨b2, 0, none⟩)] W fun e W' => (∃ v, e = .returned v) ∧ ToldV (shTell (daysL f t)) J Jx O W W' := by
  obtain ⟨yf, yi, yc, rfl⟩ := hC.form
  have HC := hid hC
  have HJ := hid hJ
  have HN := hid (And.intro n1 n2)
  refine (wf_calls (r := none) (n := 1)).mp ?_
  by_cases hft : t < f
  · have hx : daysL f t = [] := daysL_nil hft
    rw [hx]
    clear hC hJ n1 n2 hx HC
    gi_enter Tryz.func101, Tryz.ntmps101
    gi_wp2
    refine bodyPost_ret (results_none rfl _ _ _) rfl ?_
    exact ⟨⟨_, rfl⟩, O, fun _ h => h, fun _ h => .inl h, Eff.refl _ _, .inl HJ.out⟩
  · obtain ⟨L, hL⟩ : ∃ L, (daysL f t).length = L := ⟨_, rfl⟩
    have hLe : f + (L : Int) = t + 1 := by rw [← hL, daysL_len]; omega
    have HL : Hid ((shTell (daysL f t)).length = L) := by show _ = _; rw [shTell_len, hL]
    have hget : Hid (∀ k (hk : k < (shTell (daysL f t)).length), (shTell (daysL f t))[k] = #[shN (f + k)]) := fun k hk => by rw [shTell_get hk, daysL_get]
    obtain ⟨xs, hxs⟩ : ∃ xs, shTell (daysL f t) = xs := ⟨_, rfl⟩
    rw [hxs] at HL hget HC ⊢
    obtain ⟨vy, vm, vd, vo, hv, cD, cO⟩ := week_start h0 (show f < 146097 by omega)
    have HV := hid hv
    have CD := hid cD
    have CO := hid cO
    have HC1 := hid c1
    have HC2 := hid c2
    clear hC hJ n1 n2 hxs hL hv cD cO
    gi_enter Tryz.func101, Tryz.ntmps101
    gi_wp2_with fail
    refine (wf_calls.mpr (CD.out _)).mono ?_
    rintro e w1 ⟨rfl, hB1⟩
    have HB1 := hid hB1
    clear hB1
    gi_wp2_with fail
    refine (wf_calls.mpr (CO.out _)).mono ?_
    rintro e w2 ⟨rfl, hB2⟩
    have hB2' : Below W.heap.size W w2 := HB1.out.trans (hB2.mono HB1.out.size)
    have HB2 := hid hB2'
    have k1 := (hB2'.cell (p := ⟨b1, 0, none⟩) hb1).trans HC1.out
    have HJ2 : Hid (J 0 O w2) := HC.out.stab 0 O W w2 HJ.out hB2'.size (fun b hb => hB2'.block b (HC.out.lt 0 O W HJ.out b hb))
    clear hB2 hB2' c1 c2
    gi_wp2_with fail
    gi_loopw [4, 5, 6, 8, 10] (fun y4 m5 d6 o8 n10 wr => ∃ (k : Nat) (vy vm vd vo : Int) (O' : Nat → Prop), y4 = .int .i64 vy ∧ m5 = .int .i64 vm ∧ d6 = .int .i64 vd ∧ o8 = .int .i64 vo ∧ n10 = .int .i64 (f + k) ∧ k ≤ L ∧
      Hid (k < L → vy = fY (f + k) ∧ vm = fMo (f + k) ∧ vd = fD (f + k) ∧ vo = fOr (f + k)) ∧ Hid (J k O' wr ∧ (∀ b, O b → O' b) ∧ (∀ b, O' b → O b ∨ W.heap.size ≤ b) ∧ Eff O W wr)) (fun y4 m5 d6 o8 n10 wr => (t + 1 - intOf n10).toNat)
    case atStart => exact ⟨0, vy, vm, vd, vo, O, rfl, rfl, rfl, rfl, by simp, by omega, fun _ => by simpa using HV.out, HJ2.out, fun _ h => h, fun _ h => .inl h, Eff.of_below HB2.out⟩
    case round =>
      obtain ⟨k, vy, vm, vd, vo, O', rfl, rfl, rfl, rfl, rfl, hk, hvv, hI⟩ := hrel
      have q2 := (hI.out.2.2.2.cell (p := ⟨b2, 0, none⟩) hb2 HN.out.2).trans HC2.out
      by_cases hlt : k < L
      · obtain ⟨cS, cL, v0, v1, v2, v3, v4, v5, v6, v7⟩ := week_round (show 0 ≤ f + k by omega) (show f + k < 146097 by omega) (hvv.out hlt)
        obtain ⟨x1, x2, x3⟩ := week_next (show 0 ≤ f + k by omega) (show f + k < 146097 by omega) (hvv.out hlt)
        have X1 := hid x1
        have X2 := hid x2
        have X3 := hid x3
        have CS := hid cS
        have CL := hid cL
        obtain ⟨ln, hln⟩ : ∃ ln, lenI vy vm = ln := ⟨_, rfl⟩
        rw [hln] at X1 X2 X3 CL
        have hkx : k < xs.length := by rw [HL.out]; exact hlt
        have Hkx := hid hkx
        clear x1 x2 x3 cS cL hln hvv hkx
        gi_wp2_with fail
        refine (wf_calls.mpr (CS.out _)).mono ?_
        rintro e w3 ⟨rfl, hB3⟩
        have hE3 : Eff O W w3 := hI.out.2.2.2.trans (Eff.of_below (O := O') hB3) hI.out.2.2.1
        have hJ3 : J k O' w3 := HC.out.stab k O' wr w3 hI.out.1 hB3.size (fun b hb => hB3.block b (HC.out.lt k O' wr hI.out.1 b hb))
        have hcall := HC.out.call k O' w3 Hkx.out hJ3 ⟨hI.out.2.1, hI.out.2.2.1, hE3⟩
        rw [hget.out k Hkx.out] at hcall
        have Hcall := hid hcall
        have HE3 := hid hE3
        clear hB3 hE3 hJ3 hcall
        gi_wp2_with (refine callv (.tmp 34) (.tmp 40) _ rfl rfl rfl rfl Hcall.out ?_)
        rintro e W4 O4 hOO hO4 hE4 hend
        have hE44 : Eff O W W4 := HE3.out.trans hE4 hI.out.2.2.1
        have hOs : Hid ((∀ b, O b → O4 b) ∧ (∀ b, O4 b → O b ∨ W.heap.size ≤ b) ∧ Eff O W W4) := ⟨fun b h => hOO b (hI.out.2.1 b h), fun b h => by
          rcases hO4 b h with h1 | h1
          · exact hI.out.2.2.1 b h1
          · have := HE3.out.size; exact .inr (by omega), hE44⟩
        clear hOO hO4 hE4 hE44 q2
        rcases hend with ⟨rfl, hJ4⟩ | ⟨rfl, hJ4⟩
        · have HJ4 := hid hJ4
          clear hJ4
          refine ⟨_, rfl, ?_⟩
          have stab : Hid (∀ w5, Below W4.heap.size W4 w5 → J (k + 1) O4 w5 ∧ (∀ b, O b → O4 b) ∧ (∀ b, O4 b → O b ∨ W.heap.size ≤ b) ∧ Eff O W w5) := fun w5 hB5 =>
            ⟨HC.out.stab (k + 1) O4 W4 w5 HJ4.out hB5.size (fun b hb => hB5.block b (HC.out.lt (k + 1) O4 W4 HJ4.out b hb)), hOs.out.1, hOs.out.2.1, hOs.out.2.2.trans (Eff.of_below (O := O4) hB5) hOs.out.2.1⟩
          gi_wp2_with fail
          refine (wf_calls.mpr (CL.out _)).mono ?_
          rintro e w5 ⟨rfl, hB5⟩
          have HB5 := hid hB5
          clear hB5
          by_cases g1 : vd + 1 ≤ ln
          · gi_wp2
            refine ⟨⟨k + 1, _, _, _, _, O4, rfl, rfl, rfl, rfl, by go_num, by omega, fun hk1 => ?_, stab.out _ HB5.out⟩, by simp [intOf]; omega⟩
            have := X1.out g1 (by omega)
            rwa [show f + (k : Int) + 1 = f + ((k + 1 : Nat) : Int) by omega] at this
          · by_cases g2 : vm + 1 ≤ 12
            · gi_wp2
              refine ⟨⟨k + 1, _, _, _, _, O4, rfl, rfl, rfl, rfl, by go_num, by omega, fun hk1 => ?_, stab.out _ HB5.out⟩, by simp [intOf]; omega⟩
              have := X2.out g1 g2 (by omega)
              rwa [show f + (k : Int) + 1 = f + ((k + 1 : Nat) : Int) by omega] at this
            · gi_wp2
              refine ⟨⟨k + 1, _, _, _, _, O4, rfl, rfl, rfl, rfl, by go_num, by omega, fun hk1 => ?_, stab.out _ HB5.out⟩, by simp [intOf]; omega⟩
              have := X3.out g1 g2 (by omega)
              rwa [show f + (k : Int) + 1 = f + ((k + 1 : Nat) : Int) by omega] at this
        · have HJ4 := hid hJ4
          clear hJ4
          refine ⟨_, rfl, ?_⟩
          gi_wp2
          refine bodyPost_ret (results_none rfl _ _ _) rfl ?_
          exact ⟨⟨_, rfl⟩, O4, hOs.out.1, hOs.out.2.1, hOs.out.2.2, .inr ⟨k + 1, by omega, by rw [HL.out]; omega, HJ4.out⟩⟩
      · obtain rfl : k = L := by omega
        gi_wp2
        go_end0
        exact ⟨⟨_, rfl⟩, O', hI.out.2.1, hI.out.2.2.1, hI.out.2.2.2, .inl (by rw [HL.out]; exact hI.out.1)⟩
theorem week_tells (f t : Int) (b1 b2 : Nat) (Ow : Nat → Prop) (w : World) (h0 : 0 ≤ f) (hf1 : f ≤ 146097) (h1 : t ≤ 146096) (ht0 : -1 ≤ t) (hb1 : b1 < w.heap.size) (hb2 : b2 < w.heap.size) (n1 : ¬ Ow b1) (n2 : ¬ Ow b2)
    (c1 : w.cell? ⟨b1, 0, none⟩ = some (.int .i64 f)) (c2 : w.cell? ⟨b2, 0, none⟩ = some (.int .i64 t)) :
    TellsV Tryz.prog 101 #[.pointer (some ⟨b1, 0, none⟩), .pointer (some ⟨b2, 0, none⟩)] (shTell (daysL f t)) Ow w := by
  intro y J Jx O W hO hB hC hJ
  exact WeekIter_any f t b1 b2 y J Jx O W h0 hf1 h1 ht0 hC hJ (Nat.lt_of_lt_of_le hb1 hB.size) (Nat.lt_of_lt_of_le hb2 hB.size) (fun h => by rcases hO b1 h with h1 | h1; exact n1 h1; omega) (fun h => by rcases hO b2 h with h1 | h1; exact n2 h1; omega)
    ((hB.cell (p := ⟨b1, 0, none⟩) hb1).trans c1) ((hB.cell (p := ⟨b2, 0, none⟩) hb2).trans c2)
theorem week_enters (args : Array Value) (w : World) : (callFunc 101 args).run Tryz.prog w = .ok (.enter 101 args) w := by simp [go_sem]
end Go.Proofs.YtgiecadlliblpaaGreat

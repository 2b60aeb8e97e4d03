/-
  ferialaw20.TallyYears answers true for every clauses and year.
  The table of math/bits that this seat's rows list: what a row's premise gives of it, and a world that holds it.
-/
import Derived.Test.YtchceegpbfecaaaGreatDoorQ46436d
import Derived.Test.YtchceegpbfecaaaGreatDoorQc8d347
import Derived.Test.YtchceegpbfecaaaGreatDoorQ84b4c9
import Derived.BigRegion
import Derived.Deep.Cut
import Derived.Test.YtchceegpbfecaaaGreatDoorCards
import Derived.Test.YtchceegpbfecaaaGreatDoorTie
import Derived.Test.YtchceegpbfecaaaGreatDoorQ98891f
import Derived.Test.YtchceegpbfecaaaGreatDoorQ7b8650
import Derived.Deep.DeepHandedRow
import Derived.Lib.LaidTab
namespace Go.Proofs.YtchceegpbfecaaaGreatDoor
set_option linter.unusedVariables false
section
open Go.RowKit Go.Maps
attribute [local go_sem ↓] loadAt_a24 storeAt_a24

def eql24S (u v : Value) : Sem Value := binOp .eql 63 u v
theorem eql_a24 (u v : Value) : binOp .eql 63 u v = eql24S u v := rfl
attribute [local go_sem ↓] eql_a24
theorem run_eqg24 (W : World) : (eqGuard .eql 63 (.tmp 41) (.tmp 42) (arrV fun _ => 0) (.agg #[.int .i64 0, .int .i64 0, .int .i64 0, .int .i64 0, .int .i64 0, .int .i64 0, .int .i64 0, .int .i64 0, .int .i64 0, .int .i64 0, .int .i64 0, .int .i64 0, .int .i64 0, .int .i64 0, .int .i64 0, .int .i64 0, .int .i64 0, .int .i64 0, .int .i64 0, .int .i64 0, .int .i64 0, .int .i64 0, .int .i64 0, .int .i64 0])).run Tryz.prog W = .ok () W := by kernel_rfl
theorem run_eql24 (W : World) : (eql24S (arrV fun _ => 0) (.agg #[.int .i64 0, .int .i64 0, .int .i64 0, .int .i64 0, .int .i64 0, .int .i64 0, .int .i64 0, .int .i64 0, .int .i64 0, .int .i64 0, .int .i64 0, .int .i64 0, .int .i64 0, .int .i64 0, .int .i64 0, .int .i64 0, .int .i64 0, .int .i64 0, .int .i64 0, .int .i64 0, .int .i64 0, .int .i64 0, .int .i64 0, .int .i64 0])).run Tryz.prog W = .ok (.bool true) W := by kernel_rfl
attribute [local go_sem] run_eqg24 run_eql24
set_option maxRecDepth 100000 in
set_option maxHeartbeats 12800000 in
theorem TallyYears_walk (a : Option Addr) (cap : Nat) (l : List Cl) (y : Nat) (w : World) (hl : l.length ≤ 9223372036854775807) (hlc : l.length ≤ cap) (hs : Sl w a (cls l)) (hno : a = none → cap = 0) (hok : ∀ c ∈ l, c.Ok) (hy : y < 65536) (hT : Tab w) :
    Calls Tryz.prog 10 #[.slice a l.length cap, .int .u16 y] w fun e w' => e = .returned (.bool true) ∧ Below w.heap.size w w' := by
  have cL := hid (fun W (hB : Below w.heap.size w W) => Lives20_any W (hT.later hB))
  obtain ⟨yi, hyi⟩ : ∃ yi : Int, (y : Int) = yi := ⟨_, rfl⟩
  have hy0 : 0 ≤ yi := by omega
  have hy1 : yi < 65536 := by omega
  rw [hyi]
  clear hyi hy
  by_cases h20 : 20 < l.length
  · clear hs hok hno hT
    have q1 := hid (cL.out w (Below.refl _ _))
    go_enter Tryz.func10, Tryz.ntmps10
    go_wp2_with fail
    refine q1.out.mono ?_
    rintro e w1 ⟨rfl, hB⟩
    have HB1 := hid (hB)
    clear hB q1 
    go_wp2
    go_ret
    exact ⟨rfl, HB1.out⟩
  have hl1 : l.length ≤ 1000 := by omega
  have cC := hid (fun (f u : Int) W (hB : Below w.heap.size w W) => Count_tally a cap l f u W hl hlc (hs.below hB) hno hok (hT.later hB))
  have cF := hid (fun W (hB : Below w.heap.size w W) => Fault20_any a cap l W hl hlc (hs.below hB) hno hok)
  have cY := hid (Years_any a cap l w hl hlc hs hno hok hT)
  have cH := hid (fun W (hB : Below w.heap.size w W) => Hours_any a cap l W hl hlc (hs.below hB) hno hok (hT.later hB))
  clear hs hok hno hT
  go_enter Tryz.func10, Tryz.ntmps10
  go_wp2_with fail
  refine cY.out.mono ?_
  rintro e w1 ⟨hYr, hB1⟩
  have HB1 := hid hB1
  have q2 := hid (cH.out w1 HB1.out)
  have hA2 : ∀ W : World, Arr24 W.heap.size (fun _ => 0) (W.alloc (.cells #[.int .i64 0, .int .i64 0, .int .i64 0, .int .i64 0, .int .i64 0, .int .i64 0, .int .i64 0, .int .i64 0, .int .i64 0, .int .i64 0, .int .i64 0, .int .i64 0, .int .i64 0, .int .i64 0, .int .i64 0, .int .i64 0, .int .i64 0, .int .i64 0, .int .i64 0, .int .i64 0, .int .i64 0, .int .i64 0, .int .i64 0, .int .i64 0] 63)) := fun W => arr24_new W 63 (fun _ => 0) (fun h => rfl)
  have HA2 := hid hA2
  clear hB1 cH hA2
  rcases hYr with ⟨hf, rfl⟩ | ⟨hf, bs, rfl, hbs, hY⟩
  · have eH : HoursP l = (fun _ => 0, faultL l) := by rw [HoursP, if_pos hf]
    rw [eH] at q2
    obtain ⟨X, hX⟩ : ∃ X, faultL l = X := ⟨_, rfl⟩
    rw [hX] at q2 cF hf
    rw [hX]
    have hX0 : (X == 0) = false := by simpa using hf
    have hX1 : (X != 0) = true := by simpa using hf
    clear eH hX hf cC
    go_wp2_with fail
    refine q2.out.mono ?_
    rintro e w2 ⟨rfl, hB2⟩
    have HB2 := hid (HB1.out.trans (hB2.mono HB1.out.size))
    have hst := (HA2.out w2).st (fun _ => 0)
    have HA3 := hid ((HA2.out w2).put (fun _ => 0))
    have HE3 : Hid (Below w2.heap.size w2 ((w2.alloc (.cells #[.int .i64 0, .int .i64 0, .int .i64 0, .int .i64 0, .int .i64 0, .int .i64 0, .int .i64 0, .int .i64 0, .int .i64 0, .int .i64 0, .int .i64 0, .int .i64 0, .int .i64 0, .int .i64 0, .int .i64 0, .int .i64 0, .int .i64 0, .int .i64 0, .int .i64 0, .int .i64 0, .int .i64 0, .int .i64 0, .int .i64 0, .int .i64 0] 63)).setCells w2.heap.size 0 (L24 (fun _ => 0)))) :=
      (below_new (Below.refl _ _) (zG _)).trans ((Eff.setCells (O := fun x => x = w2.heap.size) rfl (L24 (fun _ => 0)) 0 _ (Eff.refl _ _)).below (by rintro b rfl; exact zG _) (by simp))
    clear hB2
    go_upto_region 5 with fail
    obtain ⟨w3, hw3⟩ : ∃ w3, (w2.alloc (.cells #[.int .i64 0, .int .i64 0, .int .i64 0, .int .i64 0, .int .i64 0, .int .i64 0, .int .i64 0, .int .i64 0, .int .i64 0, .int .i64 0, .int .i64 0, .int .i64 0, .int .i64 0, .int .i64 0, .int .i64 0, .int .i64 0, .int .i64 0, .int .i64 0, .int .i64 0, .int .i64 0, .int .i64 0, .int .i64 0, .int .i64 0, .int .i64 0] 63)).setCells w2.heap.size 0 (L24 (fun _ => 0)) = w3 := ⟨_, rfl⟩
    rw [hw3] at HA3 HE3
    rw [hw3]
    have HB3 := hid (HB2.out.trans (HE3.out.mono HB2.out.size))
    have q3 := hid (cF.out w3 HB3.out)
    clear hw3 hst
    go_wp2_with fail
    refine q3.out.mono ?_
    rintro e w4 ⟨rfl, hB4⟩
    have HB4 := hid (HB3.out.trans (hB4.mono HB3.out.size))
    have hld := (HA3.out.block hB4.size (hB4.block _ HA3.out.lt)).ld
    have q4 := hid (cF.out w4 HB4.out)
    clear hB4
    go_wp2_with fail
    refine q4.out.mono ?_
    rintro e w5 ⟨rfl, hB5⟩
    have HB5 := hid (HB4.out.trans (hB5.mono HB4.out.size))
    have q5 := hid (cL.out w5 HB5.out)
    clear hB5 hld
    go_wp2_with fail
    refine q5.out.mono ?_
    rintro e w6 ⟨rfl, hB6⟩
    have HB6 := hid (HB5.out.trans (hB6.mono HB5.out.size))
    clear hB6
    go_wp2
    go_ret
    exact ⟨rfl, HB6.out⟩
  · have eH : HoursP l = (hrT l (dayS l (daysL 0 146096)) (dayS l (daysL 0 146096)).length, 0) := by rw [HoursP, if_neg (by rw [hf]; simp)]
    rw [eH] at q2
    have htY := yr_total l
    have htH := hr_total l
    have hyr := fun j (hj : j < 400) => yrC_all l (j := j) hj
    obtain ⟨f, hfe⟩ : ∃ f, yrC l (dayS l (daysL 0 146096)) (dayS l (daysL 0 146096)).length = f := ⟨_, rfl⟩
    obtain ⟨g, hge⟩ : ∃ g, hrT l (dayS l (daysL 0 146096)) (dayS l (daysL 0 146096)).length = g := ⟨_, rfl⟩
    rw [hge] at q2 htH
    rw [hfe] at htY hY hyr
    have hNb := cntT_le l 0 12622780799
    have cCN := cC.out 0 12622780799
    rw [countP, if_neg (by rw [hf]; simp)] at cCN
    obtain ⟨N, hN⟩ : ∃ N, cntT l 0 12622780799 = N := ⟨_, rfl⟩
    rw [hN] at htY htH hNb cCN
    have CN := hid cCN
    obtain ⟨kk, hkk⟩ : ∃ kk : Int, yi % 400 = kk := ⟨_, rfl⟩
    have hk0 : 0 ≤ kk := by omega
    have hk1 : kk < 400 := by omega
    obtain ⟨j, hj⟩ : ∃ j : Nat, kk = (j : Int) := ⟨kk.toNat, by omega⟩
    have hj4 : j < 400 := by omega
    obtain ⟨dd, hdd⟩ : ∃ dd, ysI (1970 + kk) = dd := ⟨_, rfl⟩
    have hdys := days_ys kk hk0 hk1
    rw [hdd] at hdys
    have hdd0 : 0 ≤ dd := by have := ysI_mono 1970 j; rw [ysI_first] at this; rw [← hdd, hj]; omega
    have hdd1 : dd ≤ 146097 := by omega
    obtain ⟨b400, b4, b100, lng, e400, e4, e100, hlng, hll⟩ : ∃ b400 b4 b100 : Bool, ∃ lng : Int, ((1970 + kk) % 400 == 0) = b400 ∧ ((1970 + kk) % 4 == 0) = b4 ∧ ((1970 + kk) % 100 != 0) = b100 ∧ lng = (if (b400 || (b4 && b100)) = true then 366 else 365) ∧ lng = 365 + leapI (1970 + kk) := by
      refine ⟨_, _, _, _, rfl, rfl, rfl, rfl, ?_⟩
      have h1 := leapI_iff (1970 + kk)
      have h2 := leapI_bd (1970 + kk)
      by_cases p400 : (1970 + kk) % 400 = 0
      · rw [if_pos (by simp [p400])]; omega
      · by_cases p4 : (1970 + kk) % 4 = 0
        · by_cases p100 : (1970 + kk) % 100 = 0
          · rw [if_neg (by simp [p400, p4, p100])]; omega
          · rw [if_pos (by simp [p400, p4, p100])]; omega
        · rw [if_neg (by simp [p400, p4])]; omega
    have CK : Hid (∀ v, v = lng → ∀ W, Below w.heap.size w W → Calls Tryz.prog 26 #[.slice a l.length cap, .int .i64 (86400 * dd), .int .i64 (86400 * (dd + v) - 1)] W fun e w' => e = .returned (.tuple #[.int .i64 (f j : Nat), .int .i64 0]) ∧ Below W.heap.size W w') := by
      rintro v rfl W hB
      have h := cC.out (86400 * dd) (86400 * (dd + v) - 1) W hB
      have e := hyr j hj4
      have hn := ysI_next (1970 + (j : Int))
      rw [show (1970 : Int) + ((j + 1 : Nat) : Int) = 1970 + (j : Int) + 1 by omega, hn, ← hj, hdd] at e
      rw [countP, if_neg (by rw [hf]; simp), show 86400 * (dd + v) - 1 = 86400 * (dd + 365 + leapI (1970 + kk)) - 1 by omega, ← e] at h
      rw [show 86400 * (dd + v) - 1 = 86400 * (dd + 365 + leapI (1970 + kk)) - 1 by omega]
      exact h
    have hfj : f j ≤ 12622780800 := by have := sumL_le (f := f) hj4; omega
    have hSf : Hid (∀ i, i ≤ 400 → sumL f i ≤ 12622780800) := fun i hi => by have := sumL_mono (f := f) hi; omega
    have hSg : Hid (∀ i, i ≤ 24 → sumL g i ≤ 12622780800) := fun i hi => by have := sumL_mono (f := g) hi; omega
    rw [hf] at cF
    have HtY := hid htY
    have HtH := hid htH
    have HY := hid hY
    have Hdys := hid hdys
    have Hkk := hid hkk
    have Hj := hid hj
    have Hlng := hid (And.intro e400 (And.intro e4 (And.intro e100 hlng)))
    clear eH htY htH hyr hfe hge hN cCN hkk hdd hdys hlng hll hf cC hY hbs e400 e4 e100 hj
    go_wp2_with fail
    refine q2.out.mono ?_
    rintro e w2 ⟨rfl, hB2⟩
    have HB2 := hid (HB1.out.trans (hB2.mono HB1.out.size))
    have hst := (HA2.out w2).st g
    have HA3 := hid ((HA2.out w2).put g)
    have HE3 : Hid (Below w2.heap.size w2 ((w2.alloc (.cells #[.int .i64 0, .int .i64 0, .int .i64 0, .int .i64 0, .int .i64 0, .int .i64 0, .int .i64 0, .int .i64 0, .int .i64 0, .int .i64 0, .int .i64 0, .int .i64 0, .int .i64 0, .int .i64 0, .int .i64 0, .int .i64 0, .int .i64 0, .int .i64 0, .int .i64 0, .int .i64 0, .int .i64 0, .int .i64 0, .int .i64 0, .int .i64 0] 63)).setCells w2.heap.size 0 (L24 g))) :=
      (below_new (Below.refl _ _) (zG _)).trans ((Eff.setCells (O := fun x => x = w2.heap.size) rfl (L24 g) 0 _ (Eff.refl _ _)).below (by rintro b rfl; exact zG _) (by simp))
    have HY2 := hid (HY.out.block hB2.size (hB2.block _ HY.out.lt))
    clear hB2
    go_upto_region 5 with fail
    obtain ⟨w3, hw3⟩ : ∃ w3, (w2.alloc (.cells #[.int .i64 0, .int .i64 0, .int .i64 0, .int .i64 0, .int .i64 0, .int .i64 0, .int .i64 0, .int .i64 0, .int .i64 0, .int .i64 0, .int .i64 0, .int .i64 0, .int .i64 0, .int .i64 0, .int .i64 0, .int .i64 0, .int .i64 0, .int .i64 0, .int .i64 0, .int .i64 0, .int .i64 0, .int .i64 0, .int .i64 0, .int .i64 0] 63)).setCells w2.heap.size 0 (L24 g) = w3 := ⟨_, rfl⟩
    rw [hw3] at HA3 HE3
    rw [hw3]
    obtain ⟨b7, hb7⟩ : ∃ b, w2.heap.size = b := ⟨_, rfl⟩
    have HB3 := hid (HB2.out.trans (HE3.out.mono HB2.out.size))
    have HY3 := hid (HY2.out.block HE3.out.size (HE3.out.block _ HY2.out.lt))
    rw [hb7] at HA3
    rw [hb7]
    have q3 := hid (cF.out w3 HB3.out)
    clear hw3 hst hb7 HE3
    go_wp2_with fail
    refine q3.out.mono ?_
    rintro e w4 ⟨rfl, hB4⟩
    have HB4 := hid (HB3.out.trans (hB4.mono HB3.out.size))
    have HA4 := hid (HA3.out.block hB4.size (hB4.block _ HA3.out.lt))
    have HY4 := hid (HY3.out.block hB4.size (hB4.block _ HY3.out.lt))
    have q4 := hid (CN.out w4 HB4.out)
    clear hB4
    go_wp2_with fail
    refine q4.out.mono ?_
    rintro e w5 ⟨rfl, hB5⟩
    have HB5 := hid (HB4.out.trans (hB5.mono HB4.out.size))
    have HA5 := hid (HA4.out.block hB5.size (hB5.block _ HA4.out.lt))
    have HY5 := hid (HY4.out.block hB5.size (hB5.block _ HY4.out.lt))
    clear hB5 q4 q3 q2
    go_wp2_with fail
    go_loopw [11, 13] (fun av iv wr => ∃ (i s : Nat), av = .int .i64 s ∧ iv = .int .i64 i ∧ i ≤ 400 ∧ wr = w5 ∧ s ≤ 12622780800 ∧ Hid (s = sumL f i)) (fun _ iv _ => 400 - (intOf iv).toNat)
    case atStart => exact ⟨0, 0, rfl, rfl, by omega, rfl, by omega, rfl⟩
    case round =>
      obtain ⟨i, s, rfl, rfl, hi, rfl, hsb, HS⟩ := hrel
      by_cases hil : i < 400
      · have hc := HY5.out.c i hil
        have hn1 := hSf.out (i + 1) (by omega)
        have hi1 : (i : Int) < 400 := by omega
        have hi0 : (0 : Int) ≤ i := by omega
        have HS2 : Hid (s + f i = sumL f (i + 1)) := by show _ = _; rw [sumL, HS.out]
        have hsf : s + f i ≤ 12622780800 := by rw [HS2.out]; exact hn1
        obtain ⟨x, hx⟩ : ∃ x, f i = x := ⟨_, rfl⟩
        rw [hx] at hc HS2 hsf
        clear hx hn1 HS
        go_wp2
        refine ⟨⟨i + 1, s + x, by go_num, by go_num, by omega, by trivial, hsf, HS2.out⟩, by simp [intOf]; omega⟩
      · obtain rfl : i = 400 := by omega
        obtain rfl : s = N := by rw [HS.out]; exact HtY.out
        clear HS hil
        go_wp2_with fail
        go_loopw [12, 14] (fun av iv wr2 => ∃ (i s2 : Nat), av = .int .i64 s2 ∧ iv = .int .i64 i ∧ i ≤ 24 ∧ wr2 = wr ∧ s2 ≤ 12622780800 ∧ Hid (s2 = sumL g i)) (fun _ iv _ => 24 - (intOf iv).toNat)
        case atStart => exact ⟨0, 0, rfl, rfl, by omega, rfl, by omega, rfl⟩
        case round =>
          obtain ⟨i, s2, rfl, rfl, hi, rfl, hsb, HS⟩ := hrel
          by_cases hil : i < 24
          · have hc := HA5.out.c i hil
            have hn1 := hSg.out (i + 1) (by omega)
            have hi1 : (i : Int) < 24 := by omega
            have hi0 : (0 : Int) ≤ i := by omega
            have HS2 : Hid (s2 + g i = sumL g (i + 1)) := by show _ = _; rw [sumL, HS.out]
            have hsf : s2 + g i ≤ 12622780800 := by rw [HS2.out]; exact hn1
            obtain ⟨x, hx⟩ : ∃ x, g i = x := ⟨_, rfl⟩
            rw [hx] at hc HS2 hsf
            clear hx hn1 HS
            go_wp2
            refine ⟨⟨i + 1, s2 + x, by go_num, by go_num, by omega, by trivial, hsf, HS2.out⟩, by simp [intOf]; omega⟩
          · obtain rfl : i = 24 := by omega
            obtain rfl : s2 = s := by rw [HS.out]; exact HtH.out
            clear HS hil
            go_upto_region 20 with fail
            rw [Hkk.out]
            go_upto_region 22 with fail
            rw [Hdys.out]
            obtain ⟨e400, e4, e100, hlng⟩ := Hlng.out
            have hyj := HY5.out.c j hj4
            have hkj := Hj.out
            have hkj' : kk.toNat = j := by omega
            have HKj := hid hkj'
            clear hkj hkj' Hlng
            cases b400 <;> cases b4 <;> cases b100 <;> simp at hlng
            all_goals
              have q6 := hid (CK.out _ hlng.symm _ HB5.out)
              clear hlng CK
              go_wp2_with fail
              refine q6.out.mono ?_
              rintro e w6 ⟨rfl, hB6⟩
              have HB6 := hid (HB5.out.trans (hB6.mono HB5.out.size))
              have hy6 := (HY5.out.block hB6.size (hB6.block _ HY5.out.lt)).c j hj4
              have hkj' := HKj.out
              have q7 := hid (cL.out w6 HB6.out)
              clear hB6 q6 hyj
              go_wp2_with fail
              refine q7.out.mono ?_
              rintro e w7 ⟨rfl, hB7⟩
              have HB7 := hid (HB6.out.trans (hB7.mono HB6.out.size))
              clear hB7
              go_wp2
              go_ret
              exact ⟨rfl, HB7.out⟩
end
section
open Go.ChangeShapes Go.WideShapes Go.ChangeAt Go.RowKit

theorem ownKnobNone : ownKnob Tryz.prog.godebug = none := by kernel_rfl
theorem laidOut : laidOutB Tryz.prog = true := by kernel_rfl
theorem gTab : Tryz.prog.globalNamed "math/bits.deBruijn64tab" = some 0 := by kernel_rfl
theorem gTabType : (Tryz.prog.globals[0]?).map (·.type) = some 222 := by kernel_rfl
theorem cellsTab : Tryz.prog.cellsOf 222 = 64 := by kernel_rfl
theorem cellsU8 : Tryz.prog.cellsOf 5 = 1 := by kernel_rfl
def tabInts : List Int := Lib.deBruijn64tab.map fun (n : Nat) => (n : Int)
theorem tabInts_get : ∀ i, i < 64 → tabInts.getD i 0 = ((Lib.deBruijn64tab.getD i 0 : Nat) : Int) := by decide
theorem tab_of {W : World} (h : laidMetH Tryz.prog [("math/bits.deBruijn64tab", Rows.laid_math_bits_deBruijn64tab)] W) : Tab W := by
  have ht : Lib.TabIs Tryz.prog W "math/bits.deBruijn64tab" .u8 tabInts := Lib.tabIs_of_head (rest := []) gTab gTabType Tryz.underlying222 Tryz.underlying5 cellsU8 cellsTab h
  have hc : ∀ i, i < 64 → W.cell? ⟨0, i, none⟩ = some (.int .u8 (tabInts.getD i 0)) := fun i hi => ht.cell gTab i hi
  exact ⟨Nat.lt_of_le_of_lt (Nat.zero_le _) (World.block_lt_of_cell? W _ (hc 0 (by omega))), fun i hi => by rw [hc i hi, tabInts_get i hi]⟩

noncomputable def laidWorld (os : Os) : World :=
  { World.holding Tryz.prog os ⟨#[], #[], []⟩ with heap := (World.holding Tryz.prog os ⟨#[], #[], []⟩).heap.modify 0 fun
      | .cells _ t frozen => .cells (tabInts.map (Value.int .u8)).toArray t frozen
      | o => o }
end
end Go.Proofs.YtchceegpbfecaaaGreatDoor

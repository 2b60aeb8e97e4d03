/-
  ferialaw17.Has: the document's answer for sets.
  ferialaw19.between and ferialaw19.lives.
  ferialaw19.SeekNext answers true for every clauses and instant.
  The table of math/bits that this seat's rows list: what a row's premise gives of it, and a world that holds it.
  ferialaw19.SeekBack answers true for every clauses and instant.
-/
import Derived.Test.YtcbanlgnanihhaaGreatDoorQ21d611
import Derived.Test.YtcbanlgnanihhaaGreatDoorQ18bcd4
import Derived.Test.YtcbanlgnanihhaaGreatDoorQ3e7fd2
import Derived.Test.YtcbanlgnanihhaaGreatDoorQ880962
import Derived.BigRegion
import Derived.Test.YtcbanlgnanihhaaGreatDoorCards
import Derived.Test.YtcbanlgnanihhaaGreatDoorTie
import Derived.Test.YtcbanlgnanihhaaGreatDoorQd12de8
import Derived.Test.YtcbanlgnanihhaaGreatDoorQ447a60
import Derived.Deep.DeepHandedRow
import Derived.Lib.LaidTab
namespace Go.Proofs.YtcbanlgnanihhaaGreatDoor
open Go.RowKit
set_option linter.unusedVariables false

attribute [local go_sem ↓] loadAt_cl
set_option maxRecDepth 100000 in
set_option maxHeartbeats 3200000 in
theorem RHas17_any (a : Option Addr) (cap : Nat) (l : List Cl) (t : Int) (w : World) (hl : l.length ≤ 1000) (hs : Sl w a (cls l)) (hok : ∀ c ∈ l, c.Ok) :
    Calls Tryz.prog 33 #[.slice a l.length cap, .int .i64 t] w fun e w' => e = .returned (.bool (hasL l t)) ∧ Below w.heap.size w w' := by
  have cM := hid (fun W (h : Sl W a (cls l)) => RMay17_any a cap l W hl h hok)
  have Hs := hid hs
  have Hok := hid hok
  have hhas : hasL l t = (mayL l && l.any (fun c => hasC c t)) := rfl
  rw [hhas]
  obtain ⟨m, hm⟩ : ∃ m, mayL l = m := ⟨_, rfl⟩
  rw [hm] at cM ⊢
  clear hs hok hm hhas
  go_enter Tryz.func33, Tryz.ntmps33
  go_wp2_with fail
  go_loopw [5, 6] (fun v i wr => ∃ k : Nat, i = .int .i64 k ∧ k ≤ l.length ∧ v = .bool ((l.take k).any (fun c => hasC c t)) ∧ Hid (m = false → k = 0) ∧ Hid (Below w.heap.size w wr)) (fun _ i _ => l.length - (intOf i).toNat)
  case atStart => exact ⟨0, rfl, by omega, rfl, fun _ => rfl, Below.refl _ _⟩
  case round =>
    obtain ⟨k, rfl, hk, rfl, hm0, HB⟩ := hrel
    obtain ⟨v, hv⟩ : ∃ v, (l.take k).any (fun c => hasC c t) = v := ⟨_, rfl⟩
    have Hv := hid hv
    rw [hv]
    by_cases hlt : k < l.length
    · have hltI : (k : Int) < l.length := by omega
      have cM1 := hid (cM.out wr (Hs.out.below HB.out))
      cases m
      · have hz : Hid (k = 0) := hm0.out rfl
        have hvf : v = false := by rw [← hv, hz.out]; rfl
        clear hv
        go_wp2_with fail
        refine cM1.out.mono ?_
        rintro e w1 ⟨rfl, hB1⟩
        have HB1 := hid (HB.out.trans (hB1.mono HB.out.size))
        have Hvf := hid hvf
        clear hB1 hvf
        go_wp2
        go_ret
        exact ⟨ret_bool rfl, HB1.out⟩
      · obtain ⟨b, off, rfl, hbk, hr⟩ := Hs.out.atCl hlt
        have hr' := range_below hr HB.out hbk
        have hbw : b < wr.heap.size := Nat.lt_of_lt_of_le hbk HB.out.size
        have hcOk := hid (Hok.out _ (List.getElem_mem hlt))
        have ts := hid (take_snoc l k hlt)
        obtain ⟨c, hc⟩ : ∃ c, l[k] = c := ⟨_, rfl⟩
        rw [hc] at hr' hcOk ts
        have cH := hid (fun W => RHas13_any c t W hcOk.out)
        obtain ⟨x, hx⟩ : ∃ x, hasC c t = x := ⟨_, rfl⟩
        rw [hx] at cH
        have hnx : Hid ((l.take (k + 1)).any (fun c => hasC c t) = (v || x)) := by show _ = _; rw [ts.out, List.any_append, Hv.out, List.any_cons, hx]; simp
        clear hr hc hx hv
        have Hr' := hid hr'
        go_wp2_with fail
        refine cM1.out.mono ?_
        rintro e w1 ⟨rfl, hB1⟩
        have HB1 := hid (HB.out.trans (hB1.mono HB.out.size))
        have le := ld_at (range_below Hr'.out hB1 hbw)
        clear hB1 hr'
        cases v
        · go_wp2_with fail
          refine (cH.out _).mono ?_
          rintro e w2 ⟨rfl, hB2⟩
          have HB2 := hid (HB1.out.trans (hB2.mono HB1.out.size))
          clear hB2 le
          go_wp2
          exact ⟨⟨k + 1, by go_num, by omega, by rw [hnx.out, Bool.false_or], hid (fun h => (by cases h)), HB2⟩, by simp [intOf]; omega⟩
        · go_wp2
          exact ⟨⟨k + 1, by go_num, by omega, by rw [hnx.out, Bool.true_or], hid (fun h => (by cases h)), HB1⟩, by simp [intOf]; omega⟩
    · have hltI : ¬ (k : Int) < l.length := by omega
      have hres : Hid (v = (m && l.any (fun c => hasC c t))) := by
        show _ = _
        rw [← hv, List.take_of_length_le (by omega)]
        cases m
        · have h0 := hm0.out rfl
          have hn : l = [] := List.eq_nil_of_length_eq_zero (by omega)
          rw [hn]; rfl
        · rw [Bool.true_and]
      clear hv
      go_wp2
      go_ret
      exact ⟨ret_bool hres.out, HB.out⟩
end Go.Proofs.YtcbanlgnanihhaaGreatDoor
namespace Go.Proofs.YtcbanlgnanihhaaGreatDoor
open Go.RowKit Go.Maps
set_option linter.unusedVariables false

set_option maxRecDepth 100000 in
set_option maxHeartbeats 3200000 in
theorem Btw_any (a : Option Addr) (cap : Nat) (l : List Cl) (f u : Int) (w : World) (hl : l.length ≤ 1000) (hs : Sl w a (cls l)) (hok : ∀ c ∈ l, c.Ok) (hf : f ≤ 9223372036854775807) (hu : -9223372036854775808 ≤ u) (hno : ∀ t, f ≤ t → t ≤ u → instB l t = false) :
    Calls Tryz.prog 31 #[.slice a l.length cap, .int .i64 f, .int .i64 u] w fun e w' => e = .returned (.bool false) ∧ Below w.heap.size w w' := by
  have Hs := hid hs
  have Hok := hid hok
  obtain ⟨F, hF⟩ : ∃ F, max f 0 = F := ⟨_, rfl⟩
  obtain ⟨U, hU⟩ : ∃ U, min u 12622780799 = U := ⟨_, rfl⟩
  have hN : Hid (∀ t, F ≤ t → t ≤ U → instB l t = false) := fun t h1 h2 => hno t (by omega) (by omega)
  have HFi := hid hF
  have HUi := hid hU
  have F0 : 0 ≤ F := by omega
  have F1 : F ≤ 9223372036854775807 := by omega
  have U0 : -9223372036854775808 ≤ U := by omega
  have U1 : U < 12622780800 := by omega
  clear hs hok hno hF hU
  go_enter Tryz.func31, Tryz.ntmps31
  go_upto_region 3 with fail
  rw [HFi.out, HUi.out]
  clear HFi HUi
  go_wp2_with fail
  obtain ⟨G, hG⟩ : ∃ G, F / 86400 = G := ⟨_, rfl⟩
  have G0 : 0 ≤ G := by omega
  have hG1 := hid hG
  rw [hG]
  go_loopw [7, 8, 9, 10] (fun dv _ _ _ wr => ∃ n : Int, dv = .int .i64 n ∧ G ≤ n ∧ n ≤ G + 20 ∧ Hid (Below w.heap.size w wr)) (fun dv _ _ _ _ => (G + 20 - intOf dv).toNat)
  case atStart => exact ⟨G, rfl, by omega, by omega, Below.refl _ _⟩
  case round =>
    obtain ⟨n, rfl, hn0, hn1, HB⟩ := hrel
    by_cases h1 : F ≤ U
    rotate_left
    · have d1 : decide (F ≤ U) = false := decide_eq_false h1
      clear h1
      go_wp2
      go_ret
      exact ⟨rfl, HB.out⟩
    have U2 : 0 ≤ U := by omega
    by_cases h2 : n ≤ U / 86400
    rotate_left
    · have d1 : decide (F ≤ U) = true := decide_eq_true h1
      have d2 : decide (n ≤ U / 86400) = false := decide_eq_false h2
      clear h1 h2 hG
      go_wp2
      go_ret
      exact ⟨rfl, HB.out⟩
    by_cases h3 : n < G + 20
    rotate_left
    · have d1 : decide (F ≤ U) = true := decide_eq_true h1
      have d2 : decide (n ≤ U / 86400) = true := decide_eq_true h2
      have d3 : decide (n < F / 86400 + 20) = false := decide_eq_false (by rw [hG]; exact h3)
      clear h1 h2 h3 hG
      go_wp2
      go_ret
      exact ⟨rfl, HB.out⟩
    have d1 : decide (F ≤ U) = true := decide_eq_true h1
    have d2 : decide (n ≤ U / 86400) = true := decide_eq_true h2
    have d3 : decide (n < F / 86400 + 20) = true := decide_eq_true (by rw [hG]; exact h3)
    have n1 : n < 146097 := by omega
    have n0 : 0 ≤ n := by omega
    have cA := hid (own_ret (RLapAll16_any a cap l n wr hl (Hs.out.below HB.out) Hok.out n0 n1))
    have hlen := secL_len (dayQ l n)
    have hmem : Hid (∀ x ∈ secL (dayQ l n), 0 ≤ x ∧ x < 86400 ∧ instB l (86400 * n + x) = true) := fun x hx => by
      rw [secL, sel_mem] at hx; obtain ⟨k, hk, hq, rfl⟩ := hx
      exact ⟨by omega, by omega, hq⟩
    obtain ⟨X, hX⟩ : ∃ X, secL (dayQ l n) = X := ⟨_, rfl⟩
    rw [hX] at cA hlen hmem
    have hm1 : n + 1 ≤ G + 20 := by omega
    clear hX h1 h2 h3 hG
    go_wp2_with fail
    refine cA.out.mono ?_
    rintro e w6 ⟨a6, m6, c6, rfl, hm6, hs6, -, hB6⟩
    obtain rfl := hm6.out
    have HB6 := hid (HB.out.trans (hB6.mono HB.out.size))
    have Hs6 := hid hs6
    clear hB6 hm6 cA hs6 d1 d2 d3
    go_wp2_with fail
    go_loopw [9, 10] (fun i _ wr' => ∃ j : Nat, i = .int .i64 j ∧ j ≤ X.length ∧ wr' = w6) (fun i _ _ => X.length - (intOf i).toNat)
    case atStart => exact ⟨0, rfl, Nat.zero_le _, rfl⟩
    case round =>
      obtain ⟨j, rfl, hj, rfl⟩ := hrel
      by_cases hjl : j < X.length
      · obtain ⟨b6, o6, rfl, -, hc⟩ := Hs6.out.atInt hjl
        have e6 := hc j hjl
        have hx := hmem.out _ (List.getElem_mem hjl)
        obtain ⟨x, hxe⟩ : ∃ x, X[j] = x := ⟨_, rfl⟩
        rw [hxe] at e6 hx
        obtain ⟨x0, x1, hi⟩ := hx
        have Hi := hid hi
        clear hc hxe hi
        have hj1 : (j : Int) < X.length := by omega
        by_cases g1 : F ≤ 86400 * n + x
        · have g2 : ¬ 86400 * n + x ≤ U := fun h => by have := hN.out _ g1 h; rw [Hi.out] at this; cases this
          have d4 : decide (F ≤ 86400 * n + x) = true := decide_eq_true g1
          have d5 : decide (86400 * n + x ≤ U) = false := decide_eq_false g2
          clear g1 g2
          go_wp2
          exact ⟨⟨j + 1, by go_num, by omega, by trivial⟩, by simp [intOf]; omega⟩
        · have d4 : decide (F ≤ 86400 * n + x) = false := decide_eq_false g1
          clear g1
          go_wp2
          exact ⟨⟨j + 1, by go_num, by omega, by trivial⟩, by simp [intOf]; omega⟩
      · obtain rfl : j = X.length := by omega
        go_wp2
        exact ⟨⟨n + 1, rfl, by omega, by omega, HB6⟩, by simp [intOf]; omega⟩
theorem inst_full {t : Int} (h0 : 0 ≤ t) (h1 : t < 12622780800) : instB [fullCl] t = true := by
  rw [instB, List.any_cons, full_has (show winB t = true by simp only [winB, decide_eq_true_eq]; omega)]; rfl
theorem inst_out {l : List Cl} {t : Int} (h : t < 0 ∨ 12622780800 ≤ t) : instB l t = false := by
  cases e : instB l t
  · rfl
  · have := inst_win e; omega
theorem next_full5 : nextP [fullCl] 5 = (6, 0) := nextP_is fault_full ⟨inst_full (by omega) (by omega), by omega, fun y h1 h2 => by omega⟩
theorem next_full0 : nextP [fullCl] (-9) = (0, 0) := nextP_is fault_full ⟨inst_full (by omega) (by omega), by omega, fun y h1 h2 => inst_out (by omega)⟩
theorem next_fullE : nextP [fullCl] 12622780799 = (0, 15) := nextP_none fault_full fun y h => inst_out (by omega)
set_option maxRecDepth 100000 in
set_option maxHeartbeats 1600000 in
theorem Lives19_any (w : World) (hT : Tab w) : Calls Tryz.prog 18 #[] w fun e w' => e = .returned (.bool true) ∧ Below w.heap.size w w' := by
  have HT := hid hT
  have cW := hid (fun W => IWhole_any W)
  have cN := hid (fun (t : Int) (g : Nat) (w0 W : World) (hB : Below w.heap.size w W) (ho : OwnR w0 W [fullCl] (.slice (some ⟨g, 0, none⟩) 1 1)) => SkNext_any (some ⟨g, 0, none⟩) 1 [fullCl] t W (by simp) (by simp) (owns_sl ho) (by simp) full_okL (HT.out.later hB))
  have c5 := cN.out 5
  have c9 := cN.out (-9)
  have cE := cN.out 12622780799
  rw [next_full5] at c5
  rw [next_full0] at c9
  rw [next_fullE] at cE
  have C5 := hid c5
  have C9 := hid c9
  have CE := hid cE
  clear hT c5 c9 cE cN
  go_enter Tryz.func18, Tryz.ntmps18
  go_wp2_with fail
  refine (cW.out w).mono ?_
  rintro e w1 ⟨⟨g, rfl, ho⟩, hB1⟩
  have HB1 := hid hB1
  have k1 := hid (C5.out g w w1 hB1 ho)
  clear ho hB1
  go_wp2_with fail
  refine k1.out.mono ?_
  rintro e w2 ⟨rfl, hB2⟩
  have HB2 := hid (HB1.out.trans (hB2.mono HB1.out.size))
  clear hB2 k1
  go_wp2_with fail
  refine (cW.out w2).mono ?_
  rintro e w3 ⟨⟨g3, rfl, ho⟩, hB3⟩
  have HB3 := hid (HB2.out.trans (hB3.mono HB2.out.size))
  have k3 := hid (C9.out g3 w2 w3 HB3.out ho)
  clear ho hB3
  go_wp2_with fail
  refine k3.out.mono ?_
  rintro e w4 ⟨rfl, hB4⟩
  have HB4 := hid (HB3.out.trans (hB4.mono HB3.out.size))
  clear hB4 k3
  go_wp2_with fail
  refine (cW.out w4).mono ?_
  rintro e w5 ⟨⟨g5, rfl, ho⟩, hB5⟩
  have HB5 := hid (HB4.out.trans (hB5.mono HB4.out.size))
  have k5 := hid (CE.out g5 w4 w5 HB5.out ho)
  clear ho hB5
  go_wp2_with fail
  refine k5.out.mono ?_
  rintro e w6 ⟨rfl, hB6⟩
  have HB6 := hid (HB5.out.trans (hB6.mono HB5.out.size))
  clear hB6 k5
  go_wp2
  go_ret
  exact ⟨rfl, HB6.out⟩
end Go.Proofs.YtcbanlgnanihhaaGreatDoor
namespace Go.Proofs.YtcbanlgnanihhaaGreatDoor
open Go.RowKit Go.Maps
set_option linter.unusedVariables false

set_option maxRecDepth 100000 in
set_option maxHeartbeats 6400000 in
theorem SeekNext_walk (a : Option Addr) (cap : Nat) (l : List Cl) (t : Int) (w : World) (hl : l.length ≤ 9223372036854775807) (hlc : l.length ≤ cap) (hs : Sl w a (cls l)) (hno : a = none → cap = 0) (hok : ∀ c ∈ l, c.Ok) (ht0 : -9223372036854775808 ≤ t) (ht1 : t ≤ 9223372036854775807) (hT : Tab w) :
    Calls Tryz.prog 7 #[.slice a l.length cap, .int .i64 t] w fun e w' => e = .returned (.bool true) ∧ Below w.heap.size w w' := by
  have cL := hid (fun W (hB : Below w.heap.size w W) => Lives19_any W (hT.later hB))
  by_cases h20 : 20 < l.length
  · clear hs hok hno hT
    have q1 := hid (cL.out w (Below.refl _ _))
    go_enter Tryz.func7, Tryz.ntmps7
    go_wp2_with fail
    refine q1.out.mono ?_
    rintro e w1 ⟨rfl, hB⟩
    have HB1 := hid (hB)
    clear hB q1 
    go_wp2
    go_ret
    exact ⟨rfl, HB1.out⟩
  have hl1 : l.length ≤ 1000 := by omega
  have cN := hid (fun (x : Int) W (hB : Below w.heap.size w W) => SkNext_any a cap l x W hl hlc (hs.below hB) hno hok (hT.later hB))
  have cP := hid (fun (x : Int) W (hB : Below w.heap.size w W) => SkPrev_any a cap l x W hl hlc (hs.below hB) hno hok (hT.later hB))
  have cO := hid (fun W (hB : Below w.heap.size w W) => IOf_any a cap l W hl hlc (hs.below hB) hno hok)
  have cH := hid (fun (x : Int) W (hB : Below w.heap.size w W) => RHas17_any a cap l x W hl1 (hs.below hB) hok)
  have cB := hid (fun (f u : Int) h1 h2 h3 W (hB : Below w.heap.size w W) => Btw_any a cap l f u W hl1 (hs.below hB) hok h1 h2 h3)
  have HH : Hid (∀ x, faultL l = 0 → instB l x = true → hasL l x = true) := fun x h1 h2 => by
    rw [hasL, may_fault, decide_eq_true h1, Bool.true_and]; exact h2
  clear hs hok hno hT
  by_cases hf : faultL l = 0
  rotate_left
  · have hn := next_fault (t := t) hf
    have q1 := hid (cN.out t w (Below.refl _ _))
    rw [hn] at q1
    have cO2 := hid (fun W (hB : Below w.heap.size w W) => (cO.out W hB).mono fun e w' h => (show (∃ v, e = .returned (.tuple #[v, .int .i64 (faultL l)])) ∧ Below W.heap.size W w' from ⟨⟨_, h.1.choose_spec.1⟩, h.2⟩))
    obtain ⟨X, hX⟩ : ∃ X, faultL l = X := ⟨_, rfl⟩
    rw [hX] at q1 cO2 hf
    have hX0 : (X == 0) = false := by simpa using hf
    have hX1 : (X != 0) = true := by simpa using hf
    clear hn cO hX HH
    go_enter Tryz.func7, Tryz.ntmps7
    go_wp2_with fail
    refine q1.out.mono ?_
    rintro e w1 ⟨rfl, hB⟩
    have HB1 := hid (hB)
    clear hB q1 
    have q2 := hid (cO2.out w1 HB1.out)
    go_wp2_with fail
    refine q2.out.mono ?_
    rintro e w2 ⟨⟨v, rfl⟩, hB⟩
    have HB2 := hid (HB1.out.trans (hB.mono HB1.out.size))
    clear hB q2 
    have q3 := hid (cL.out w2 HB2.out)
    go_wp2_with fail
    refine q3.out.mono ?_
    rintro e w3 ⟨rfl, hB⟩
    have HB3 := hid (HB2.out.trans (hB.mono HB2.out.size))
    clear hB q3 
    go_wp2
    go_ret
    exact ⟨rfl, HB3.out⟩
  have cO2 := hid (fun W (hB : Below w.heap.size w W) => (cO.out W hB).mono fun e w' h => (show (∃ v, e = .returned (.tuple #[v, .int .i64 0])) ∧ Below W.heap.size W w' from ⟨⟨_, by rw [← hf]; exact h.1.choose_spec.1⟩, h.2⟩))
  have Hf := hid hf
  clear cO
  by_cases h1 : 12622780799 ≤ t
  · have hn : nextP l t = (0, 15) := nextP_none hf fun y hy => inst_out (by omega)
    have q1 := hid (cN.out t w (Below.refl _ _))
    rw [hn] at q1
    have d1 : decide (12622780799 ≤ t) = true := decide_eq_true h1
    clear hn hf h1
    go_enter Tryz.func7, Tryz.ntmps7
    go_wp2_with fail
    refine q1.out.mono ?_
    rintro e w1 ⟨rfl, hB⟩
    have HB1 := hid (hB)
    clear hB q1 
    have q2 := hid (cO2.out w1 HB1.out)
    go_wp2_with fail
    refine q2.out.mono ?_
    rintro e w2 ⟨⟨v, rfl⟩, hB⟩
    have HB2 := hid (HB1.out.trans (hB.mono HB1.out.size))
    clear hB q2 
    have q3 := hid (cL.out w2 HB2.out)
    go_wp2_with fail
    refine q3.out.mono ?_
    rintro e w3 ⟨rfl, hB⟩
    have HB3 := hid (HB2.out.trans (hB.mono HB2.out.size))
    clear hB q3 
    go_wp2
    go_ret
    exact ⟨rfl, HB3.out⟩
  rcases next_cases (t := t) hf with ⟨x, hn, hx⟩ | ⟨hn, hx⟩
  · have hwin := inst_win hx.1
    have htx := hx.2.1
    have hb := cB.out (t + 1) (x - 1) (by omega) (by omega) (fun y h2 h3 => hx.2.2 y (by omega) (by omega))
    have hh := HH.out x hf hx.1
    have q1 := hid (cN.out t w (Below.refl _ _))
    rw [hn] at q1
    have HBt := hid hb
    have qP := hid (fun W (hB : Below w.heap.size w W) => cP.out x W hB)
    have qH := hid (fun W (hB : Below w.heap.size w W) => cH.out x W hB)
    rw [hh] at qH
    have d1 : decide (12622780799 ≤ t) = false := decide_eq_false h1
    have d2 : decide (t < x) = true := decide_eq_true htx
    have hw0 := hwin.1
    have hw1 := hwin.2
    have ht2 : t < 12622780799 := by omega
    have hpc : Hid ((∃ p, prevP l x = (p, 0) ∧ p ≤ t) ∨ prevP l x = (0, 15)) := by
      rcases prev_cases (t := x) hf with ⟨p, e1, g1, g2, g3⟩ | ⟨e1, -⟩
      · refine .inl ⟨p, e1, ?_⟩
        apply Int.le_of_not_gt
        intro h
        have := hx.2.2 p h g2
        rw [g1] at this; cases this
      · exact .inr e1
    clear hx hn hf h1 hb hh hwin htx
    rcases hpc.out with ⟨p, hpe, hpt⟩ | hpe
    · rw [hpe] at qP
      have d3 : decide (p ≤ t) = true := decide_eq_true hpt
      clear hpt
      clear hpe
      go_enter Tryz.func7, Tryz.ntmps7
      go_wp2_with fail
      refine q1.out.mono ?_
      rintro e w1 ⟨rfl, hB⟩
      have HB1 := hid (hB)
      clear hB q1 
      have q2 := hid (cO2.out w1 HB1.out)
      go_wp2_with fail
      refine q2.out.mono ?_
      rintro e w2 ⟨⟨v, rfl⟩, hB⟩
      have HB2 := hid (HB1.out.trans (hB.mono HB1.out.size))
      clear hB q2 
      have q3 := hid (qP.out w2 HB2.out)
      go_wp2_with fail
      refine q3.out.mono ?_
      rintro e w3 ⟨rfl, hB⟩
      have HB3 := hid (HB2.out.trans (hB.mono HB2.out.size))
      clear hB q3 
      have q4 := hid (qH.out w3 HB3.out)
      go_wp2_with fail
      refine q4.out.mono ?_
      rintro e w4 ⟨rfl, hB⟩
      have HB4 := hid (HB3.out.trans (hB.mono HB3.out.size))
      clear hB q4 
      have q5 := hid (HBt.out w4 HB4.out)
      go_wp2_with fail
      refine q5.out.mono ?_
      rintro e w5 ⟨rfl, hB⟩
      have HB5 := hid (HB4.out.trans (hB.mono HB4.out.size))
      clear hB q5 
      have q6 := hid (cL.out w5 HB5.out)
      go_wp2_with fail
      refine q6.out.mono ?_
      rintro e w6 ⟨rfl, hB⟩
      have HB6 := hid (HB5.out.trans (hB.mono HB5.out.size))
      clear hB q6 
      go_wp2
      go_ret
      exact ⟨rfl, HB6.out⟩
    · rw [hpe] at qP

      clear hpe
      go_enter Tryz.func7, Tryz.ntmps7
      go_wp2_with fail
      refine q1.out.mono ?_
      rintro e w1 ⟨rfl, hB⟩
      have HB1 := hid (hB)
      clear hB q1 
      have q2 := hid (cO2.out w1 HB1.out)
      go_wp2_with fail
      refine q2.out.mono ?_
      rintro e w2 ⟨⟨v, rfl⟩, hB⟩
      have HB2 := hid (HB1.out.trans (hB.mono HB1.out.size))
      clear hB q2 
      have q3 := hid (qP.out w2 HB2.out)
      go_wp2_with fail
      refine q3.out.mono ?_
      rintro e w3 ⟨rfl, hB⟩
      have HB3 := hid (HB2.out.trans (hB.mono HB2.out.size))
      clear hB q3 
      have q4 := hid (qH.out w3 HB3.out)
      go_wp2_with fail
      refine q4.out.mono ?_
      rintro e w4 ⟨rfl, hB⟩
      have HB4 := hid (HB3.out.trans (hB.mono HB3.out.size))
      clear hB q4 
      have q5 := hid (HBt.out w4 HB4.out)
      go_wp2_with fail
      refine q5.out.mono ?_
      rintro e w5 ⟨rfl, hB⟩
      have HB5 := hid (HB4.out.trans (hB.mono HB4.out.size))
      clear hB q5 
      have q6 := hid (cL.out w5 HB5.out)
      go_wp2_with fail
      refine q6.out.mono ?_
      rintro e w6 ⟨rfl, hB⟩
      have HB6 := hid (HB5.out.trans (hB.mono HB5.out.size))
      clear hB q6 
      go_wp2
      go_ret
      exact ⟨rfl, HB6.out⟩
  · have hb := cB.out (t + 1) 12622780799 (by omega) (by omega) (fun y h2 h3 => hx y (by omega))
    have q1 := hid (cN.out t w (Below.refl _ _))
    rw [hn] at q1
    have HBt := hid hb
    have d1 : decide (12622780799 ≤ t) = false := decide_eq_false h1
    have ht2 : t < 12622780799 := by omega
    clear hx hn hf h1 hb
    go_enter Tryz.func7, Tryz.ntmps7
    go_wp2_with fail
    refine q1.out.mono ?_
    rintro e w1 ⟨rfl, hB⟩
    have HB1 := hid (hB)
    clear hB q1 
    have q2 := hid (cO2.out w1 HB1.out)
    go_wp2_with fail
    refine q2.out.mono ?_
    rintro e w2 ⟨⟨v, rfl⟩, hB⟩
    have HB2 := hid (HB1.out.trans (hB.mono HB1.out.size))
    clear hB q2 
    have q3 := hid (HBt.out w2 HB2.out)
    go_wp2_with fail
    refine q3.out.mono ?_
    rintro e w3 ⟨rfl, hB⟩
    have HB3 := hid (HB2.out.trans (hB.mono HB2.out.size))
    clear hB q3 
    have q4 := hid (cL.out w3 HB3.out)
    go_wp2_with fail
    refine q4.out.mono ?_
    rintro e w4 ⟨rfl, hB⟩
    have HB4 := hid (HB3.out.trans (hB.mono HB3.out.size))
    clear hB q4 
    go_wp2
    go_ret
    exact ⟨rfl, HB4.out⟩
end Go.Proofs.YtcbanlgnanihhaaGreatDoor
namespace Go.Proofs.YtcbanlgnanihhaaGreatDoor
open Go.ChangeShapes Go.WideShapes Go.ChangeAt Go.RowKit
set_option linter.unusedVariables false

theorem ownKnobNone : ownKnob Tryz.prog.godebug = none := by kernel_rfl
theorem laidOut : laidOutB Tryz.prog = true := by kernel_rfl
theorem gTab : Tryz.prog.globalNamed "math/bits.deBruijn64tab" = some 0 := by kernel_rfl
theorem gTabType : (Tryz.prog.globals[0]?).map (·.type) = some 199 := by kernel_rfl
theorem cellsTab : Tryz.prog.cellsOf 199 = 64 := by kernel_rfl
theorem cellsU8 : Tryz.prog.cellsOf 5 = 1 := by kernel_rfl
def tabInts : List Int := Lib.deBruijn64tab.map fun (n : Nat) => (n : Int)
theorem tabInts_get : ∀ i, i < 64 → tabInts.getD i 0 = ((Lib.deBruijn64tab.getD i 0 : Nat) : Int) := by decide
theorem tab_of {W : World} (h : laidMetH Tryz.prog [("math/bits.deBruijn64tab", Rows.laid_math_bits_deBruijn64tab)] W) : Tab W := by
  have ht : Lib.TabIs Tryz.prog W "math/bits.deBruijn64tab" .u8 tabInts := Lib.tabIs_of_head (rest := []) gTab gTabType Tryz.underlying199 Tryz.underlying5 cellsU8 cellsTab h
  have hc : ∀ i, i < 64 → W.cell? ⟨0, i, none⟩ = some (.int .u8 (tabInts.getD i 0)) := fun i hi => ht.cell gTab i hi
  exact ⟨Nat.lt_of_le_of_lt (Nat.zero_le _) (World.block_lt_of_cell? W _ (hc 0 (by omega))), fun i hi => by rw [hc i hi, tabInts_get i hi]⟩

noncomputable def laidWorld (os : Os) : World :=
  { World.holding Tryz.prog os ⟨#[], #[], []⟩ with heap := (World.holding Tryz.prog os ⟨#[], #[], []⟩).heap.modify 0 fun
      | .cells _ t frozen => .cells (tabInts.map (Value.int .u8)).toArray t frozen
      | o => o }

end Go.Proofs.YtcbanlgnanihhaaGreatDoor
namespace Go.Proofs.YtcbanlgnanihhaaGreatDoor
open Go.RowKit Go.Maps
set_option linter.unusedVariables false

set_option maxRecDepth 100000 in
set_option maxHeartbeats 6400000 in
theorem SeekBack_walk (a : Option Addr) (cap : Nat) (l : List Cl) (t : Int) (w : World) (hl : l.length ≤ 9223372036854775807) (hlc : l.length ≤ cap) (hs : Sl w a (cls l)) (hno : a = none → cap = 0) (hok : ∀ c ∈ l, c.Ok) (ht0 : -9223372036854775808 ≤ t) (ht1 : t ≤ 9223372036854775807) (hT : Tab w) :
    Calls Tryz.prog 8 #[.slice a l.length cap, .int .i64 t] w fun e w' => e = .returned (.bool true) ∧ Below w.heap.size w w' := by
  have cL := hid (fun W (hB : Below w.heap.size w W) => Lives19_any W (hT.later hB))
  by_cases h20 : 20 < l.length
  · clear hs hok hno hT
    have q1 := hid (cL.out w (Below.refl _ _))
    go_enter Tryz.func8, Tryz.ntmps8
    go_wp2_with fail
    refine q1.out.mono ?_
    rintro e w1 ⟨rfl, hB⟩
    have HB1 := hid (hB)
    clear hB q1 
    go_wp2
    go_ret
    exact ⟨rfl, HB1.out⟩
  have hl1 : l.length ≤ 1000 := by omega
  have cN := hid (fun (x : Int) W (hB : Below w.heap.size w W) => SkNext_any a cap l x W hl hlc (hs.below hB) hno hok (hT.later hB))
  have cP := hid (fun (x : Int) W (hB : Below w.heap.size w W) => SkPrev_any a cap l x W hl hlc (hs.below hB) hno hok (hT.later hB))
  have cH := hid (fun (x : Int) W (hB : Below w.heap.size w W) => RHas17_any a cap l x W hl1 (hs.below hB) hok)
  clear hs hok hno hT
  by_cases hh : hasL l t = true
  rotate_left
  · have q1 := hid (cH.out t w (Below.refl _ _))
    rw [show hasL l t = false by simpa using hh] at q1
    clear hh
    go_enter Tryz.func8, Tryz.ntmps8
    go_wp2_with fail
    refine q1.out.mono ?_
    rintro e w1 ⟨rfl, hB⟩
    have HB1 := hid (hB)
    clear hB q1 
    have q2 := hid (cL.out w1 HB1.out)
    go_wp2_with fail
    refine q2.out.mono ?_
    rintro e w2 ⟨rfl, hB⟩
    have HB2 := hid (HB1.out.trans (hB.mono HB1.out.size))
    clear hB q2 
    go_wp2
    go_ret
    exact ⟨rfl, HB2.out⟩
  have hf : faultL l = 0 := by
    rw [hasL, may_fault, Bool.and_eq_true, decide_eq_true_eq] at hh; exact hh.1
  have hi : instB l t = true := by rw [hasL, Bool.and_eq_true] at hh; exact hh.2
  have hnc : (∃ x, nextP l t = (x, 0) ∧ prevP l x = (t, 0)) ∨ nextP l t = (0, 15) := by
    rcases next_cases (t := t) hf with ⟨x, e, hx⟩ | ⟨e, -⟩
    · exact .inl ⟨x, e, next_prev hf hi hx⟩
    · exact .inr e
  have hpc : (∃ x, prevP l t = (x, 0) ∧ nextP l x = (t, 0)) ∨ prevP l t = (0, 15) := by
    rcases prev_cases (t := t) hf with ⟨x, e, hx⟩ | ⟨e, -⟩
    · exact .inl ⟨x, e, prev_next hf hi hx⟩
    · exact .inr e
  have q1 := hid (cH.out t w (Below.refl _ _))
  rw [hh] at q1
  clear hf hi hh
  rcases hnc with ⟨x, en, ep⟩ | en <;> rcases hpc with ⟨y, fp, fn⟩ | fp
  · have qN := hid (fun W (hB : Below w.heap.size w W) => cN.out t W hB)
    rw [en] at qN
    have qP := hid (fun W (hB : Below w.heap.size w W) => cP.out t W hB)
    rw [fp] at qP
    have qB := hid (fun W (hB : Below w.heap.size w W) => cP.out x W hB)
    rw [ep] at qB
    have qF := hid (fun W (hB : Below w.heap.size w W) => cN.out y W hB)
    rw [fn] at qF
    clear en fp ep fn
    go_enter Tryz.func8, Tryz.ntmps8
    go_wp2_with fail
    refine q1.out.mono ?_
    rintro e w1 ⟨rfl, hB⟩
    have HB1 := hid (hB)
    clear hB q1 
    have q2 := hid (qN.out w1 HB1.out)
    go_wp2_with fail
    refine q2.out.mono ?_
    rintro e w2 ⟨rfl, hB⟩
    have HB2 := hid (HB1.out.trans (hB.mono HB1.out.size))
    clear hB q2 
    have q3 := hid (qP.out w2 HB2.out)
    go_wp2_with fail
    refine q3.out.mono ?_
    rintro e w3 ⟨rfl, hB⟩
    have HB3 := hid (HB2.out.trans (hB.mono HB2.out.size))
    clear hB q3 
    have q4 := hid (qB.out w3 HB3.out)
    go_wp2_with fail
    refine q4.out.mono ?_
    rintro e w4 ⟨rfl, hB⟩
    have HB4 := hid (HB3.out.trans (hB.mono HB3.out.size))
    clear hB q4 
    have q5 := hid (qF.out w4 HB4.out)
    go_wp2_with fail
    refine q5.out.mono ?_
    rintro e w5 ⟨rfl, hB⟩
    have HB5 := hid (HB4.out.trans (hB.mono HB4.out.size))
    clear hB q5 
    have q6 := hid (cL.out w5 HB5.out)
    go_wp2_with fail
    refine q6.out.mono ?_
    rintro e w6 ⟨rfl, hB⟩
    have HB6 := hid (HB5.out.trans (hB.mono HB5.out.size))
    clear hB q6 
    go_wp2
    go_ret
    exact ⟨rfl, HB6.out⟩
  · have qN := hid (fun W (hB : Below w.heap.size w W) => cN.out t W hB)
    rw [en] at qN
    have qP := hid (fun W (hB : Below w.heap.size w W) => cP.out t W hB)
    rw [fp] at qP
    have qB := hid (fun W (hB : Below w.heap.size w W) => cP.out x W hB)
    rw [ep] at qB
    clear en fp ep 
    go_enter Tryz.func8, Tryz.ntmps8
    go_wp2_with fail
    refine q1.out.mono ?_
    rintro e w1 ⟨rfl, hB⟩
    have HB1 := hid (hB)
    clear hB q1 
    have q2 := hid (qN.out w1 HB1.out)
    go_wp2_with fail
    refine q2.out.mono ?_
    rintro e w2 ⟨rfl, hB⟩
    have HB2 := hid (HB1.out.trans (hB.mono HB1.out.size))
    clear hB q2 
    have q3 := hid (qP.out w2 HB2.out)
    go_wp2_with fail
    refine q3.out.mono ?_
    rintro e w3 ⟨rfl, hB⟩
    have HB3 := hid (HB2.out.trans (hB.mono HB2.out.size))
    clear hB q3 
    have q4 := hid (qB.out w3 HB3.out)
    go_wp2_with fail
    refine q4.out.mono ?_
    rintro e w4 ⟨rfl, hB⟩
    have HB4 := hid (HB3.out.trans (hB.mono HB3.out.size))
    clear hB q4 
    have q5 := hid (cL.out w4 HB4.out)
    go_wp2_with fail
    refine q5.out.mono ?_
    rintro e w5 ⟨rfl, hB⟩
    have HB5 := hid (HB4.out.trans (hB.mono HB4.out.size))
    clear hB q5 
    go_wp2
    go_ret
    exact ⟨rfl, HB5.out⟩
  · have qN := hid (fun W (hB : Below w.heap.size w W) => cN.out t W hB)
    rw [en] at qN
    have qP := hid (fun W (hB : Below w.heap.size w W) => cP.out t W hB)
    rw [fp] at qP
    have qF := hid (fun W (hB : Below w.heap.size w W) => cN.out y W hB)
    rw [fn] at qF
    clear en fp fn
    go_enter Tryz.func8, Tryz.ntmps8
    go_wp2_with fail
    refine q1.out.mono ?_
    rintro e w1 ⟨rfl, hB⟩
    have HB1 := hid (hB)
    clear hB q1 
    have q2 := hid (qN.out w1 HB1.out)
    go_wp2_with fail
    refine q2.out.mono ?_
    rintro e w2 ⟨rfl, hB⟩
    have HB2 := hid (HB1.out.trans (hB.mono HB1.out.size))
    clear hB q2 
    have q3 := hid (qP.out w2 HB2.out)
    go_wp2_with fail
    refine q3.out.mono ?_
    rintro e w3 ⟨rfl, hB⟩
    have HB3 := hid (HB2.out.trans (hB.mono HB2.out.size))
    clear hB q3 
    have q4 := hid (qF.out w3 HB3.out)
    go_wp2_with fail
    refine q4.out.mono ?_
    rintro e w4 ⟨rfl, hB⟩
    have HB4 := hid (HB3.out.trans (hB.mono HB3.out.size))
    clear hB q4 
    have q5 := hid (cL.out w4 HB4.out)
    go_wp2_with fail
    refine q5.out.mono ?_
    rintro e w5 ⟨rfl, hB⟩
    have HB5 := hid (HB4.out.trans (hB.mono HB4.out.size))
    clear hB q5 
    go_wp2
    go_ret
    exact ⟨rfl, HB5.out⟩
  · have qN := hid (fun W (hB : Below w.heap.size w W) => cN.out t W hB)
    rw [en] at qN
    have qP := hid (fun W (hB : Below w.heap.size w W) => cP.out t W hB)
    rw [fp] at qP
    clear en fp 
    go_enter Tryz.func8, Tryz.ntmps8
    go_wp2_with fail
    refine q1.out.mono ?_
    rintro e w1 ⟨rfl, hB⟩
    have HB1 := hid (hB)
    clear hB q1 
    have q2 := hid (qN.out w1 HB1.out)
    go_wp2_with fail
    refine q2.out.mono ?_
    rintro e w2 ⟨rfl, hB⟩
    have HB2 := hid (HB1.out.trans (hB.mono HB1.out.size))
    clear hB q2 
    have q3 := hid (qP.out w2 HB2.out)
    go_wp2_with fail
    refine q3.out.mono ?_
    rintro e w3 ⟨rfl, hB⟩
    have HB3 := hid (HB2.out.trans (hB.mono HB2.out.size))
    clear hB q3 
    have q4 := hid (cL.out w3 HB3.out)
    go_wp2_with fail
    refine q4.out.mono ?_
    rintro e w4 ⟨rfl, hB⟩
    have HB4 := hid (HB3.out.trans (hB.mono HB3.out.size))
    clear hB q4 
    go_wp2
    go_ret
    exact ⟨rfl, HB4.out⟩
end Go.Proofs.YtcbanlgnanihhaaGreatDoor

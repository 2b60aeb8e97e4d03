/-
  ferialaw17.Has: the document's answer for sets.
  ferialaw19.between and ferialaw19.lives.
  ferialaw20.lives answers true.
  ferialaw20.TallyParts answers true for every clauses and number.
  The table of math/bits that this seat's rows list: what a row's premise gives of it, and a world that holds it.
  ferialaw20.TallyNth answers true for every clauses and number.
  ferialaw20.TallyCounts answers true for every clauses and number.
-/
import Derived.Test.YtchceegpbfecaaaGreatDoorQ465ed0
import Derived.Test.YtchceegpbfecaaaGreatDoorQ404515
import Derived.Test.YtchceegpbfecaaaGreatDoorQ8fc910
import Derived.Test.YtchceegpbfecaaaGreatDoorQb297f6
import Derived.Test.YtchceegpbfecaaaGreatDoorQf3ecab
import Derived.Test.YtchceegpbfecaaaGreatDoorQ51d00c
import Derived.BigRegion
import Derived.Deep.Cut
import Derived.Test.YtchceegpbfecaaaGreatDoorCards
import Derived.Test.YtchceegpbfecaaaGreatDoorTie
import Derived.Test.YtchceegpbfecaaaGreatDoorQe1f446
import Derived.Test.YtchceegpbfecaaaGreatDoorQe5c96c
import Derived.Deep.DeepHandedRow
import Derived.Lib.LaidTab
namespace Go.Proofs.YtchceegpbfecaaaGreatDoor
set_option linter.unusedVariables false
section
open Go.RowKit

attribute [local go_sem ↓] loadAt_cl
set_option maxRecDepth 100000 in
set_option maxHeartbeats 3200000 in
theorem RHas17_any (a : Option Addr) (cap : Nat) (l : List Cl) (t : Int) (w : World) (hl : l.length ≤ 1000) (hs : Sl w a (cls l)) (hok : ∀ c ∈ l, c.Ok) :
    Calls Tryz.prog 29 #[.slice a l.length cap, .int .i64 t] w fun e w' => e = .returned (.bool (hasL l t)) ∧ Below w.heap.size w w' := by
  have cM := hid (fun W (h : Sl W a (cls l)) => RMay17_any a cap l W hl h hok)
  have Hs := hid hs
  have Hok := hid hok
  have hhas : hasL l t = (mayL l && l.any (fun c => hasC c t)) := rfl
  rw [hhas]
  obtain ⟨m, hm⟩ : ∃ m, mayL l = m := ⟨_, rfl⟩
  rw [hm] at cM ⊢
  clear hs hok hm hhas
  go_enter Tryz.func29, Tryz.ntmps29
  go_wp2_with fail
  go_loopw [5, 6] (fun v i wr => ∃ k : Nat, i = .int .i64 k ∧ k ≤ l.length ∧ v = .bool ((l.take k).any (fun c => hasC c t)) ∧ Hid (m = false → k = 0) ∧ Hid (Below w.heap.size w wr)) (fun _ i _ => l.length - (intOf i).toNat)
  case atStart => exact ⟨0, rfl, by omega, rfl, fun _ => rfl, Below.refl _ _⟩
  case round =>
    obtain ⟨k, rfl, hk, rfl, hm0, HB⟩ := hrel
    obtain ⟨v, hv⟩ : ∃ v, (l.take k).any (fun c => hasC c t) = v := ⟨_, rfl⟩
    have Hv := hid hv
    rw [hv]
    by_cases hlt : k < l.length
    · have hltI : (k : Int) < l.length := by omega
      have cM1 := hid (cM.out wr (Hs.out.below HB.out))
      cases m
      · have hz : Hid (k = 0) := hm0.out rfl
        have hvf : v = false := by rw [← hv, hz.out]; rfl
        clear hv
        go_wp2_with fail
        refine cM1.out.mono ?_
        rintro e w1 ⟨rfl, hB1⟩
        have HB1 := hid (HB.out.trans (hB1.mono HB.out.size))
        have Hvf := hid hvf
        clear hB1 hvf
        go_wp2
        go_ret
        exact ⟨ret_bool rfl, HB1.out⟩
      · obtain ⟨b, off, rfl, hbk, hr⟩ := Hs.out.atCl hlt
        have hr' := range_below hr HB.out hbk
        have hbw : b < wr.heap.size := zH hbk HB.out.size
        have hcOk := hid (Hok.out _ (List.getElem_mem hlt))
        have ts := hid (take_snoc l k hlt)
        obtain ⟨c, hc⟩ : ∃ c, l[k] = c := ⟨_, rfl⟩
        rw [hc] at hr' hcOk ts
        have cH := hid (fun W => RHas13_any c t W hcOk.out)
        obtain ⟨x, hx⟩ : ∃ x, hasC c t = x := ⟨_, rfl⟩
        rw [hx] at cH
        have hnx : Hid ((l.take (k + 1)).any (fun c => hasC c t) = (v || x)) := by show _ = _; rw [ts.out, List.any_append, Hv.out, List.any_cons, hx]; simp
        clear hr hc hx hv
        have Hr' := hid hr'
        go_wp2_with fail
        refine cM1.out.mono ?_
        rintro e w1 ⟨rfl, hB1⟩
        have HB1 := hid (HB.out.trans (hB1.mono HB.out.size))
        have le := ld_at (range_below Hr'.out hB1 hbw)
        clear hB1 hr'
        cases v
        · go_wp2_with fail
          refine (cH.out _).mono ?_
          rintro e w2 ⟨rfl, hB2⟩
          have HB2 := hid (HB1.out.trans (hB2.mono HB1.out.size))
          clear hB2 le
          go_wp2
          exact ⟨⟨k + 1, by go_num, by omega, by rw [hnx.out, Bool.false_or], hid (fun h => (by cases h)), HB2⟩, by simp [intOf]; omega⟩
        · go_wp2
          exact ⟨⟨k + 1, by go_num, by omega, by rw [hnx.out, Bool.true_or], hid (fun h => (by cases h)), HB1⟩, by simp [intOf]; omega⟩
    · have hltI : ¬ (k : Int) < l.length := by omega
      have hres : Hid (v = (m && l.any (fun c => hasC c t))) := by
        show _ = _
        rw [← hv, List.take_of_length_le (by omega)]
        cases m
        · have h0 := hm0.out rfl
          have hn : l = [] := List.eq_nil_of_length_eq_zero (by omega)
          rw [hn]; rfl
        · rw [Bool.true_and]
      clear hv
      go_wp2
      go_ret
      exact ⟨ret_bool hres.out, HB.out⟩
end
section
open Go.RowKit Go.Maps

theorem inst_full {t : Int} (h0 : 0 ≤ t) (h1 : t < 12622780800) : instB [fullCl] t = true := by
  rw [instB, List.any_cons, full_has (show winB t = true by simp only [winB, decide_eq_true_eq]; omega)]; rfl
end
section
open Go.RowKit Go.Maps

theorem nth_full1 : nthP [fullCl] 1 = (0, 0) := by
  have h0 : (0 : Int) ∈ allI [fullCl] := allI_mem.2 (inst_full (by omega) (by omega))
  have hl : 0 < (allI [fullCl]).length := List.length_pos_of_mem h0
  have hp : (allI [fullCl]).Pairwise (· < ·) := instA_up _ _ _
  obtain ⟨j, hj, hje⟩ := List.mem_iff_getElem.1 h0
  have hz : (allI [fullCl])[0] = 0 := by
    have h1 := (inst_win (allI_mem.1 (List.getElem_mem hl))).1
    rcases Nat.eq_zero_or_pos j with h2 | h2
    · subst h2; exact hje
    · have := (up_lt hp hl hj).2 h2
      omega
  rw [nthP, if_neg (by rw [fault_full]; simp), if_neg (by omega), if_pos (by omega)]
  rw [show (1 : Int).toNat - 1 = 0 from rfl, List.getD_eq_getElem?_getD, List.getElem?_eq_getElem hl, hz]; rfl
theorem count_full59 : countP [fullCl] 5 9 = (5, 0) := by
  have e : instA [fullCl] 5 9 = [5, 6, 7, 8, 9] := by
    refine rising_ext (instA_up _ _ _) (by simp) (fun x => ?_)
    rw [instA_mem]
    constructor
    · rintro ⟨h1, h2, -⟩
      simp only [List.mem_cons, List.not_mem_nil, or_false]; omega
    · intro h
      simp only [List.mem_cons, List.not_mem_nil, or_false] at h
      exact ⟨by omega, by omega, inst_full (by omega) (by omega)⟩
  rw [countP, if_neg (by rw [fault_full]; simp), cntT, e]; rfl
set_option maxRecDepth 100000 in
set_option maxHeartbeats 1600000 in
theorem Lives20_any (w : World) (hT : Tab w) : Calls Tryz.prog 25 #[] w fun e w' => e = .returned (.bool true) ∧ Below w.heap.size w w' := by
  have HT := hid hT
  have cW := hid (fun W => IWhole_any W)
  have cN := fun (g : Nat) (w0 W : World) (hB : Below w.heap.size w W) (ho : OwnR w0 W [fullCl] (.slice (some ⟨g, 0, none⟩) 1 1)) => NthT_any (some ⟨g, 0, none⟩) 1 [fullCl] 1 W (by simp) (by simp) (owns_sl ho) (by simp) full_okL (by omega) (HT.out.later hB)
  have cC := fun (g : Nat) (w0 W : World) (hB : Below w.heap.size w W) (ho : OwnR w0 W [fullCl] (.slice (some ⟨g, 0, none⟩) 1 1)) => Count_tally (some ⟨g, 0, none⟩) 1 [fullCl] 5 9 W (by simp) (by simp) (owns_sl ho) (by simp) full_okL (HT.out.later hB)
  rw [nth_full1] at cN
  rw [count_full59] at cC
  have CN := hid cN
  have CC := hid cC
  clear hT cN cC
  go_enter Tryz.func25, Tryz.ntmps25
  go_wp2_with fail
  refine (cW.out w).mono ?_
  rintro e w1 ⟨⟨g, rfl, ho⟩, hB1⟩
  have HB1 := hid hB1
  have k1 := hid (CN.out g w w1 hB1 ho)
  clear ho hB1
  go_wp2_with fail
  refine k1.out.mono ?_
  rintro e w2 ⟨rfl, hB2⟩
  have HB2 := hid (HB1.out.trans (hB2.mono HB1.out.size))
  clear hB2 k1
  go_wp2_with fail
  refine (cW.out w2).mono ?_
  rintro e w3 ⟨⟨g3, rfl, ho⟩, hB3⟩
  have HB3 := hid (HB2.out.trans (hB3.mono HB2.out.size))
  have k3 := hid (CC.out g3 w2 w3 HB3.out ho)
  clear ho hB3
  go_wp2_with fail
  refine k3.out.mono ?_
  rintro e w4 ⟨rfl, hB4⟩
  have HB4 := hid (HB3.out.trans (hB4.mono HB3.out.size))
  clear hB4 k3
  go_wp2
  go_ret
  exact ⟨rfl, HB4.out⟩
theorem Fault20_any (a : Option Addr) (cap : Nat) (l : List Cl) (w : World) (hl : l.length ≤ 9223372036854775807) (hlc : l.length ≤ cap) (hs : Sl w a (cls l)) (hno : a = none → cap = 0) (hok : ∀ c ∈ l, c.Ok) :
    Calls Tryz.prog 27 #[.slice a l.length cap] w fun e w' => e = .returned (.int .i64 (faultL l)) ∧ Below w.heap.size w w' := by
  have cO := hid ((IOf_any a cap l w hl hlc hs hno hok).mono fun e w' h => (show (∃ v, e = .returned (.tuple #[v, .int .i64 (faultL l)])) ∧ Below w.heap.size w w' from ⟨⟨_, h.1.choose_spec.1⟩, h.2⟩))
  obtain ⟨X, hX⟩ : ∃ X, faultL l = X := ⟨_, rfl⟩
  rw [hX] at cO ⊢
  clear hs hno hok hX
  go_enter Tryz.func27, Tryz.ntmps27
  go_wp2_with fail
  refine cO.out.mono ?_
  rintro e w1 ⟨⟨v, rfl⟩, hB⟩
  have HB := hid hB
  clear hB
  go_wp2
  go_ret
  exact ⟨rfl, HB.out⟩
end
section
open Go.RowKit Go.Maps

set_option maxRecDepth 100000 in
set_option maxHeartbeats 6400000 in
theorem TallyParts_walk (a : Option Addr) (cap : Nat) (l : List Cl) (t : Int) (w : World) (hl : l.length ≤ 9223372036854775807) (hlc : l.length ≤ cap) (hs : Sl w a (cls l)) (hno : a = none → cap = 0) (hok : ∀ c ∈ l, c.Ok) (htr : -9223372036854775808 ≤ t ∧ t ≤ 9223372036854775807) (hT : Tab w) :
    Calls Tryz.prog 8 #[.slice a l.length cap, .int .i64 t] w fun e w' => e = .returned (.bool true) ∧ Below w.heap.size w w' := by
  obtain ⟨ht0, ht1⟩ := htr
  have cL := hid (fun W (hB : Below w.heap.size w W) => Lives20_any W (hT.later hB))
  by_cases h20 : 20 < l.length
  · clear hs hok hno hT
    have q1 := hid (cL.out w (Below.refl _ _))
    go_enter Tryz.func8, Tryz.ntmps8
    go_wp2_with fail
    refine q1.out.mono ?_
    rintro e w1 ⟨rfl, hB⟩
    have HB1 := hid (hB)
    clear hB q1 
    go_wp2
    go_ret
    exact ⟨rfl, HB1.out⟩
  have hl1 : l.length ≤ 1000 := by omega
  have cM := hid (fun W (hB : Below w.heap.size w W) => RMay17_any a cap l W hl1 (hs.below hB) hok)
  have cC := hid (fun (f u : Int) W (hB : Below w.heap.size w W) => Count_tally a cap l f u W hl hlc (hs.below hB) hno hok (hT.later hB))
  have cH := hid (fun (x : Int) W (hB : Below w.heap.size w W) => RHas17_any a cap l x W hl1 (hs.below hB) hok)
  have cF := hid (fun W (hB : Below w.heap.size w W) => Fault20_any a cap l W hl hlc (hs.below hB) hno hok)
  clear hs hok hno hT
  by_cases hf : faultL l = 0
  rotate_left
  · have q1 := hid (cM.out w (Below.refl _ _))
    rw [may_fault, decide_eq_false hf] at q1
    clear hf
    go_enter Tryz.func8, Tryz.ntmps8
    go_wp2_with fail
    refine q1.out.mono ?_
    rintro e w1 ⟨rfl, hB⟩
    have HB1 := hid (hB)
    clear hB q1 
    have q2 := hid (cL.out w1 HB1.out)
    go_wp2_with fail
    refine q2.out.mono ?_
    rintro e w2 ⟨rfl, hB⟩
    have HB2 := hid (HB1.out.trans (hB.mono HB1.out.size))
    clear hB q2 
    go_wp2
    go_ret
    exact ⟨rfl, HB2.out⟩
  obtain ⟨T, hT⟩ : ∃ T, max 0 (min t 12622780799) = T := ⟨_, rfl⟩
  have T0 : 0 ≤ T := by omega
  have T1 : T ≤ 12622780799 := by omega
  have eA : countP l (-9223372036854775807) 9223372036854775807 = (((cntT l 0 T + cntT l (T + 1) 12622780799 : Nat) : Int), 0) := by
    rw [countP, if_neg (by rw [hf]; simp), ← cntT_win, show max (-9223372036854775807 : Int) 0 = 0 by omega, show min (9223372036854775807 : Int) 12622780799 = 12622780799 by omega, cntT_cut l (f := 0) (m := T) (u := 12622780799) (by omega) (by omega)]
  have eB : countP l 0 T = (((cntT l 0 T : Nat) : Int), 0) := by rw [countP, if_neg (by rw [hf]; simp)]
  have eC : countP l (T + 1) 12622780799 = (((cntT l (T + 1) 12622780799 : Nat) : Int), 0) := by rw [countP, if_neg (by rw [hf]; simp)]
  have eD : countP l T T = (((if instB l T then 1 else 0 : Nat) : Int), 0) := by rw [countP, if_neg (by rw [hf]; simp), cntT_one]
  have eH : hasL l T = instB l T := by rw [hasL, may_fault, decide_eq_true hf, Bool.true_and]; rfl
  have b1 := cntT_le l 0 T
  have b2 := cntT_le l (T + 1) 12622780799
  have cCA := cC.out (-9223372036854775807) 9223372036854775807
  have cCB := cC.out 0 T
  have cCC := cC.out (T + 1) 12622780799
  have cCD := cC.out T T
  have cHT := cH.out T
  rw [eA] at cCA
  rw [eB] at cCB
  rw [eC] at cCC
  rw [eD] at cCD
  rw [eH] at cHT
  obtain ⟨p, hp⟩ : ∃ p, cntT l 0 T = p := ⟨_, rfl⟩
  obtain ⟨q, hq⟩ : ∃ q, cntT l (T + 1) 12622780799 = q := ⟨_, rfl⟩
  rw [hp, hq] at cCA
  rw [hp] at cCB b1
  rw [hq] at cCC b2
  have hpq : ((p : Int) + (q : Int) != ((p + q : Nat) : Int)) = false := by simp
  have CA := hid cCA
  have CB := hid cCB
  have CC := hid cCC
  have CD := hid cCD
  have CH := hid cHT
  have HT := hid hT
  clear cCA cCB cCC cCD cHT eA eB eC eD eH hp hq hT cC cH
  have q1 := hid (cM.out w (Below.refl _ _))
  rw [may_fault, decide_eq_true hf] at q1
  clear hf
  go_enter Tryz.func8, Tryz.ntmps8
  go_wp2_with fail
  refine q1.out.mono ?_
  rintro e w1 ⟨rfl, hB⟩
  have HB1 := hid (hB)
  clear hB q1 
  go_upto_region 4 with fail
  rw [HT.out]
  have q2 := hid (CA.out w1 HB1.out)
  go_wp2_with fail
  refine q2.out.mono ?_
  rintro e w2 ⟨rfl, hB⟩
  have HB2 := hid (HB1.out.trans (hB.mono HB1.out.size))
  clear hB q2 
  have q3 := hid (CB.out w2 HB2.out)
  go_wp2_with fail
  refine q3.out.mono ?_
  rintro e w3 ⟨rfl, hB⟩
  have HB3 := hid (HB2.out.trans (hB.mono HB2.out.size))
  clear hB q3 
  have q4 := hid (CC.out w3 HB3.out)
  go_wp2_with fail
  refine q4.out.mono ?_
  rintro e w4 ⟨rfl, hB⟩
  have HB4 := hid (HB3.out.trans (hB.mono HB3.out.size))
  clear hB q4 
  have q5 := hid (CD.out w4 HB4.out)
  go_wp2_with fail
  refine q5.out.mono ?_
  rintro e w5 ⟨rfl, hB⟩
  have HB5 := hid (HB4.out.trans (hB.mono HB4.out.size))
  clear hB q5 
  have q6 := hid (CH.out w5 HB5.out)
  obtain ⟨ib, hib⟩ : ∃ b, instB l T = b := ⟨_, rfl⟩
  rw [hib] at q6 ⊢
  clear hib
  cases ib
  all_goals
    go_wp2_with fail
    refine q6.out.mono ?_
    rintro e w6 ⟨rfl, hB⟩
    have HB6 := hid (HB5.out.trans (hB.mono HB5.out.size))
    clear hB q6 
    have q7 := hid (cL.out w6 HB6.out)
    go_wp2_with fail
    refine q7.out.mono ?_
    rintro e w7 ⟨rfl, hB⟩
    have HB7 := hid (HB6.out.trans (hB.mono HB6.out.size))
    clear hB q7 
    go_wp2
    go_ret
    exact ⟨rfl, HB7.out⟩
end
section
open Go.ChangeShapes Go.WideShapes Go.ChangeAt Go.RowKit

theorem ownKnobNone : ownKnob Tryz.prog.godebug = none := by kernel_rfl
theorem laidOut : laidOutB Tryz.prog = true := by kernel_rfl
theorem gTab : Tryz.prog.globalNamed "math/bits.deBruijn64tab" = some 0 := by kernel_rfl
theorem gTabType : (Tryz.prog.globals[0]?).map (·.type) = some 222 := by kernel_rfl
theorem cellsTab : Tryz.prog.cellsOf 222 = 64 := by kernel_rfl
theorem cellsU8 : Tryz.prog.cellsOf 5 = 1 := by kernel_rfl
def tabInts : List Int := Lib.deBruijn64tab.map fun (n : Nat) => (n : Int)
theorem tabInts_get : ∀ i, i < 64 → tabInts.getD i 0 = ((Lib.deBruijn64tab.getD i 0 : Nat) : Int) := by decide
theorem tab_of {W : World} (h : laidMetH Tryz.prog [("math/bits.deBruijn64tab", Rows.laid_math_bits_deBruijn64tab)] W) : Tab W := by
  have ht : Lib.TabIs Tryz.prog W "math/bits.deBruijn64tab" .u8 tabInts := Lib.tabIs_of_head (rest := []) gTab gTabType Tryz.underlying222 Tryz.underlying5 cellsU8 cellsTab h
  have hc : ∀ i, i < 64 → W.cell? ⟨0, i, none⟩ = some (.int .u8 (tabInts.getD i 0)) := fun i hi => ht.cell gTab i hi
  exact ⟨Nat.lt_of_le_of_lt (Nat.zero_le _) (World.block_lt_of_cell? W _ (hc 0 (by omega))), fun i hi => by rw [hc i hi, tabInts_get i hi]⟩

noncomputable def laidWorld (os : Os) : World :=
  { World.holding Tryz.prog os ⟨#[], #[], []⟩ with heap := (World.holding Tryz.prog os ⟨#[], #[], []⟩).heap.modify 0 fun
      | .cells _ t frozen => .cells (tabInts.map (Value.int .u8)).toArray t frozen
      | o => o }
end
section
open Go.RowKit Go.Maps

set_option maxRecDepth 100000 in
set_option maxHeartbeats 6400000 in
theorem TallyNth_walk (a : Option Addr) (cap : Nat) (l : List Cl) (n : Int) (w : World) (hl : l.length ≤ 9223372036854775807) (hlc : l.length ≤ cap) (hs : Sl w a (cls l)) (hno : a = none → cap = 0) (hok : ∀ c ∈ l, c.Ok) (htr : -9223372036854775808 ≤ n ∧ n ≤ 9223372036854775807) (hT : Tab w) :
    Calls Tryz.prog 9 #[.slice a l.length cap, .int .i64 n] w fun e w' => e = .returned (.bool true) ∧ Below w.heap.size w w' := by
  obtain ⟨ht0, ht1⟩ := htr
  have cL := hid (fun W (hB : Below w.heap.size w W) => Lives20_any W (hT.later hB))
  by_cases h20 : 20 < l.length
  · clear hs hok hno hT
    have q1 := hid (cL.out w (Below.refl _ _))
    go_enter Tryz.func9, Tryz.ntmps9
    go_wp2_with fail
    refine q1.out.mono ?_
    rintro e w1 ⟨rfl, hB⟩
    have HB1 := hid (hB)
    clear hB q1 
    go_wp2
    go_ret
    exact ⟨rfl, HB1.out⟩
  have hl1 : l.length ≤ 1000 := by omega
  have cM := hid (fun W (hB : Below w.heap.size w W) => RMay17_any a cap l W hl1 (hs.below hB) hok)
  have cC := hid (fun (f u : Int) W (hB : Below w.heap.size w W) => Count_tally a cap l f u W hl hlc (hs.below hB) hno hok (hT.later hB))
  have cH := hid (fun (x : Int) W (hB : Below w.heap.size w W) => RHas17_any a cap l x W hl1 (hs.below hB) hok)
  have cF := hid (fun W (hB : Below w.heap.size w W) => Fault20_any a cap l W hl hlc (hs.below hB) hno hok)
  have cN := hid (fun W (hB : Below w.heap.size w W) => NthT_any a cap l n W hl hlc (hs.below hB) hno hok ht1 (hT.later hB))
  have cS := hid (fun W (hB : Below w.heap.size w W) => SkFirst_any a cap l W hl hlc (hs.below hB) hno hok (hT.later hB))
  clear hs hok hno hT cM
  by_cases hf : faultL l = 0
  rotate_left
  · have q1 := hid (cN.out w (Below.refl _ _))
    rw [nthP, if_pos hf] at q1
    obtain ⟨X, hX⟩ : ∃ X, faultL l = X := ⟨_, rfl⟩
    rw [hX] at q1 cF hf
    have hX0 : (X == 0) = false := by simpa using hf
    have hX1 : (X != 0) = true := by simpa using hf
    clear hX cC cS cH
    go_enter Tryz.func9, Tryz.ntmps9
    go_wp2_with fail
    refine q1.out.mono ?_
    rintro e w1 ⟨rfl, hB⟩
    have HB1 := hid (hB)
    clear hB q1 
    have q2 := hid (cF.out w1 HB1.out)
    go_wp2_with fail
    refine q2.out.mono ?_
    rintro e w2 ⟨rfl, hB⟩
    have HB2 := hid (HB1.out.trans (hB.mono HB1.out.size))
    clear hB q2 
    have q3 := hid (cF.out w2 HB2.out)
    go_wp2_with fail
    refine q3.out.mono ?_
    rintro e w3 ⟨rfl, hB⟩
    have HB3 := hid (HB2.out.trans (hB.mono HB2.out.size))
    clear hB q3 
    have q4 := hid (cL.out w3 HB3.out)
    go_wp2_with fail
    refine q4.out.mono ?_
    rintro e w4 ⟨rfl, hB⟩
    have HB4 := hid (HB3.out.trans (hB.mono HB3.out.size))
    clear hB q4 
    go_wp2
    go_ret
    exact ⟨rfl, HB4.out⟩
  have hf0 := hid hf
  rw [hf] at cF
  by_cases hn : n < 1
  · have q1 := hid (cN.out w (Below.refl _ _))
    rw [nthP, if_neg (by rw [hf]; simp), if_pos hn] at q1
    have d1 : decide (n < 1) = true := decide_eq_true hn
    clear hn hf cC cS cH
    go_enter Tryz.func9, Tryz.ntmps9
    go_wp2_with fail
    refine q1.out.mono ?_
    rintro e w1 ⟨rfl, hB⟩
    have HB1 := hid (hB)
    clear hB q1 
    have q2 := hid (cF.out w1 HB1.out)
    go_wp2_with fail
    refine q2.out.mono ?_
    rintro e w2 ⟨rfl, hB⟩
    have HB2 := hid (HB1.out.trans (hB.mono HB1.out.size))
    clear hB q2 
    have q3 := hid (cL.out w2 HB2.out)
    go_wp2_with fail
    refine q3.out.mono ?_
    rintro e w3 ⟨rfl, hB⟩
    have HB3 := hid (HB2.out.trans (hB.mono HB2.out.size))
    clear hB q3 
    go_wp2
    go_ret
    exact ⟨rfl, HB3.out⟩
  have d1 : decide (n < 1) = false := decide_eq_false hn
  have eE : countP l 0 12622780799 = (((cntT l 0 12622780799 : Nat) : Int), 0) := by rw [countP, if_neg (by rw [hf]; simp)]
  have cCE := cC.out 0 12622780799
  rw [eE] at cCE
  have CE := hid cCE
  have hb := cntT_le l 0 12622780799
  have hnc := nth_cases hf (show 1 ≤ n by omega)
  obtain ⟨N, hN⟩ : ∃ N, cntT l 0 12622780799 = N := ⟨_, rfl⟩
  rw [hN] at CE hb hnc
  clear hN cCE eE hn
  rcases hnc with ⟨x, hx, hi, hc, hle, y, hy, hxy⟩ | ⟨hx, hlt⟩
  rotate_left
  · have q1 := hid (cN.out w (Below.refl _ _))
    rw [hx] at q1
    have d2 : decide ((N : Int) < n) = true := decide_eq_true hlt
    clear hx hlt hf cC cS cH
    go_enter Tryz.func9, Tryz.ntmps9
    go_wp2_with fail
    refine q1.out.mono ?_
    rintro e w1 ⟨rfl, hB⟩
    have HB1 := hid (hB)
    clear hB q1 
    have q2 := hid (cF.out w1 HB1.out)
    go_wp2_with fail
    refine q2.out.mono ?_
    rintro e w2 ⟨rfl, hB⟩
    have HB2 := hid (HB1.out.trans (hB.mono HB1.out.size))
    clear hB q2 
    have q3 := hid (CE.out w2 HB2.out)
    go_wp2_with fail
    refine q3.out.mono ?_
    rintro e w3 ⟨rfl, hB⟩
    have HB3 := hid (HB2.out.trans (hB.mono HB2.out.size))
    clear hB q3 
    have q4 := hid (cL.out w3 HB3.out)
    go_wp2_with fail
    refine q4.out.mono ?_
    rintro e w4 ⟨rfl, hB⟩
    have HB4 := hid (HB3.out.trans (hB.mono HB3.out.size))
    clear hB q4 
    go_wp2
    go_ret
    exact ⟨rfl, HB4.out⟩
  have q1 := hid (cN.out w (Below.refl _ _))
  rw [hx] at q1
  have eX : countP l 0 x = (n, 0) := by rw [countP, if_neg (by rw [hf]; simp), hc]
  have eH : hasL l x = true := by rw [hasL, may_fault, decide_eq_true hf, Bool.true_and]; exact hi
  have cCX := cC.out 0 x
  have cHX := cH.out x
  rw [eX] at cCX
  rw [eH] at cHX
  rw [hy] at cS
  have CX := hid cCX
  have CH := hid cHX
  have d2 : decide (n ≤ (N : Int)) = true := decide_eq_true hle
  have hbb : ∃ b, (n == 1) = b ∧ (x == y) = b := by
    by_cases h : n = 1
    · exact ⟨true, by simpa using h, by simpa using hxy.1 h⟩
    · exact ⟨false, by simpa using h, by simpa using fun e => h (hxy.2 e)⟩
  obtain ⟨b, b1, b2⟩ := hbb
  clear hx hc hle hy hxy eX eH hi hf cC cH cCX cHX
  cases b
  all_goals
    go_enter Tryz.func9, Tryz.ntmps9
    go_wp2_with fail
    refine q1.out.mono ?_
    rintro e w1 ⟨rfl, hB⟩
    have HB1 := hid (hB)
    clear hB q1 
    have q2 := hid (cF.out w1 HB1.out)
    go_wp2_with fail
    refine q2.out.mono ?_
    rintro e w2 ⟨rfl, hB⟩
    have HB2 := hid (HB1.out.trans (hB.mono HB1.out.size))
    clear hB q2 
    have q3 := hid (CE.out w2 HB2.out)
    go_wp2_with fail
    refine q3.out.mono ?_
    rintro e w3 ⟨rfl, hB⟩
    have HB3 := hid (HB2.out.trans (hB.mono HB2.out.size))
    clear hB q3 
    have q4 := hid (CX.out w3 HB3.out)
    go_wp2_with fail
    refine q4.out.mono ?_
    rintro e w4 ⟨rfl, hB⟩
    have HB4 := hid (HB3.out.trans (hB.mono HB3.out.size))
    clear hB q4 
    have q5 := hid (cS.out w4 HB4.out)
    go_wp2_with fail
    refine q5.out.mono ?_
    rintro e w5 ⟨rfl, hB⟩
    have HB5 := hid (HB4.out.trans (hB.mono HB4.out.size))
    clear hB q5 
    have q6 := hid (CH.out w5 HB5.out)
    go_wp2_with fail
    refine q6.out.mono ?_
    rintro e w6 ⟨rfl, hB⟩
    have HB6 := hid (HB5.out.trans (hB.mono HB5.out.size))
    clear hB q6 
    have q7 := hid (cL.out w6 HB6.out)
    go_wp2_with fail
    refine q7.out.mono ?_
    rintro e w7 ⟨rfl, hB⟩
    have HB7 := hid (HB6.out.trans (hB.mono HB6.out.size))
    clear hB q7 
    go_wp2
    go_ret
    exact ⟨rfl, HB7.out⟩
end
section
open Go.RowKit Go.Maps

theorem instL_up (cs : List Cl) (f u : Int) : ∀ ds : List Int, ds.Pairwise (· < ·) → (instL cs f u ds).Pairwise (· < ·)
  | [], _ => List.Pairwise.nil
  | n :: ds, hp => by
    rw [List.pairwise_cons] at hp
    rw [instL, List.flatMap_cons, List.pairwise_append]
    refine ⟨dayI_pair _ _ _ _, instL_up cs f u ds hp.2, fun a ha b hb => ?_⟩
    rw [List.mem_flatMap] at hb
    obtain ⟨n', hn', hb⟩ := hb
    obtain ⟨h1, -⟩ := dayI_mem.1 ha
    obtain ⟨h2, -⟩ := dayI_mem.1 hb
    have := hp.1 n' hn'
    omega
theorem cntT_span (cs : List Cl) {f u G H : Int} (h : ∀ t, f ≤ t → t ≤ u → 0 ≤ t → t ≤ 12622780799 → G ≤ t / 86400 ∧ t / 86400 ≤ H) : cntT cs f u = (instL cs f u (daysL G H)).length := by
  have e : instA cs f u = instL cs f u (daysL G H) := by
    refine rising_ext (instA_up _ _ _) (instL_up _ _ _ _ (daysL_up _ _)) (fun t => ?_)
    rw [instA_mem, instL, List.mem_flatMap]
    constructor
    · rintro ⟨h1, h2, h3⟩
      have := inst_win h3
      exact ⟨t / 86400, daysL_mem.2 (h t h1 h2 this.1 (by omega)), dayI_mem.2 ⟨rfl, h1, h2, h3⟩⟩
    · rintro ⟨n, -, hn⟩
      exact (dayI_mem.1 hn).2
  rw [cntT, e]
theorem daysL_at {G H : Int} {k : Nat} (h : G + k ≤ H) : (daysL G H)[k]? = some (G + k) := by
  have hk : k < (daysL G H).length := by rw [daysL_len]; omega
  rw [List.getElem?_eq_getElem hk, daysL_get hk]
set_option maxRecDepth 100000 in
set_option maxHeartbeats 6400000 in
theorem TallyCounts_walk (a : Option Addr) (cap : Nat) (l : List Cl) (t : Int) (m : Nat) (w : World) (hl : l.length ≤ 9223372036854775807) (hlc : l.length ≤ cap) (hs : Sl w a (cls l)) (hno : a = none → cap = 0) (hok : ∀ c ∈ l, c.Ok) (htr : -9223372036854775808 ≤ t ∧ t ≤ 9223372036854775807) (hm : m < 4294967296) (hT : Tab w) :
    Calls Tryz.prog 7 #[.slice a l.length cap, .int .i64 t, .int .u32 m] w fun e w' => e = .returned (.bool true) ∧ Below w.heap.size w w' := by
  obtain ⟨ht0, ht1⟩ := htr
  have cL := hid (fun W (hB : Below w.heap.size w W) => Lives20_any W (hT.later hB))
  obtain ⟨mi, hmi⟩ : ∃ mi : Int, (m : Int) = mi := ⟨_, rfl⟩
  have hm0 : 0 ≤ mi := by omega
  have hm1 : mi < 4294967296 := by omega
  rw [hmi]
  clear hmi hm
  by_cases h20 : 20 < l.length
  · clear hs hok hno hT
    have q1 := hid (cL.out w (Below.refl _ _))
    go_enter Tryz.func7, Tryz.ntmps7
    go_wp2_with fail
    refine q1.out.mono ?_
    rintro e w1 ⟨rfl, hB⟩
    have HB1 := hid (hB)
    clear hB q1 
    go_wp2
    go_ret
    exact ⟨rfl, HB1.out⟩
  have hl1 : l.length ≤ 1000 := by omega
  have cM := hid (fun W (hB : Below w.heap.size w W) => RMay17_any a cap l W hl1 (hs.below hB) hok)
  have cC := hid (fun (f u : Int) W (hB : Below w.heap.size w W) => Count_tally a cap l f u W hl hlc (hs.below hB) hno hok (hT.later hB))
  have cH := hid (fun (x : Int) W (hB : Below w.heap.size w W) => RHas17_any a cap l x W hl1 (hs.below hB) hok)
  have cF := hid (fun W (hB : Below w.heap.size w W) => Fault20_any a cap l W hl hlc (hs.below hB) hno hok)
  have cA := hid (fun (n : Int) W (hB : Below w.heap.size w W) h0 h1 => own_ret (RLapAll16_any a cap l n W hl1 (hs.below hB) hok h0 h1))
  clear hs hok hno hT cM cH
  obtain ⟨F, hF⟩ : ∃ F, max (-1000) (min t 12622780000) = F := ⟨_, rfl⟩
  have F0 : -1000 ≤ F := by omega
  have F1 : F ≤ 12622780000 := by omega
  obtain ⟨r, hr⟩ : ∃ r : Int, mi % 2000000 = r := ⟨_, rfl⟩
  have r0 : 0 ≤ r := by omega
  have r1 : r < 2000000 := by omega
  have HF := hid hF
  have Hr := hid hr
  clear hF hr
  by_cases hf : faultL l = 0
  rotate_left
  · have q1 := hid (cC.out F (F + r) w (Below.refl _ _))
    rw [countP, if_pos hf] at q1
    obtain ⟨X, hX⟩ : ∃ X, faultL l = X := ⟨_, rfl⟩
    rw [hX] at q1 cF hf
    have hX0 : (X == 0) = false := by simpa using hf
    have hX1 : (X != 0) = true := by simpa using hf
    clear hX cC cA
    go_enter Tryz.func7, Tryz.ntmps7
    go_upto_region 4 with fail
    rw [HF.out]
    go_upto_region 5 with fail
    rw [Hr.out]
    go_wp2_with fail
    refine q1.out.mono ?_
    rintro e w1 ⟨rfl, hB⟩
    have HB1 := hid (hB)
    clear hB q1 
    have q2 := hid (cF.out w1 HB1.out)
    go_wp2_with fail
    refine q2.out.mono ?_
    rintro e w2 ⟨rfl, hB⟩
    have HB2 := hid (HB1.out.trans (hB.mono HB1.out.size))
    clear hB q2 
    have q3 := hid (cF.out w2 HB2.out)
    go_wp2_with fail
    refine q3.out.mono ?_
    rintro e w3 ⟨rfl, hB⟩
    have HB3 := hid (HB2.out.trans (hB.mono HB2.out.size))
    clear hB q3 
    have q4 := hid (cL.out w3 HB3.out)
    go_wp2_with fail
    refine q4.out.mono ?_
    rintro e w4 ⟨rfl, hB⟩
    have HB4 := hid (HB3.out.trans (hB.mono HB3.out.size))
    clear hB q4 
    go_wp2
    go_ret
    exact ⟨rfl, HB4.out⟩
  have q1 := hid (cC.out F (F + r) w (Below.refl _ _))
  rw [countP, if_neg (by rw [hf]; simp)] at q1
  obtain ⟨U, hU⟩ : ∃ U, F + r = U := ⟨_, rfl⟩
  obtain ⟨G, hG⟩ : ∃ G, max F 0 / 86400 = G := ⟨_, rfl⟩
  obtain ⟨H, hH⟩ : ∃ H, (if 0 ≤ U then U / 86400 else 0) = H := ⟨_, rfl⟩
  have hUH : Hid (U.tdiv 86400 = H) := by
    show _ = _
    rw [← hH]
    split
    · exact Int.tdiv_eq_ediv_of_nonneg (by assumption)
    · rw [show U = -(-U) by omega, Int.neg_tdiv, Int.tdiv_eq_ediv_of_nonneg (by omega)]; omega
  have hsp := cntT_span l (f := F) (u := U) (G := G) (H := min H 146096) (fun t h1 h2 h3 h4 => by
    have : 0 ≤ U := by omega
    rw [if_pos this] at hH
    omega)
  rw [hU] at q1
  have hG0 : 0 ≤ G := by omega
  have hG1 : G ≤ 146096 := by omega
  have hH0 : 0 ≤ H := by rw [← hH]; split <;> omega
  have hH1 : H ≤ 146200 := by rw [← hH]; split <;> omega
  have hGH : G ≤ min H 146096 + 1 := by
    have : 0 ≤ min H 146096 := by omega
    rw [← hG]
    by_cases h : 0 ≤ U
    · rw [if_pos h] at hH; omega
    · omega
  have hN := cntT_le l F U
  obtain ⟨N, hNe⟩ : ∃ N, cntT l F U = N := ⟨_, rfl⟩
  rw [hNe] at q1 hsp hN
  have HSP := hid hsp
  have HU := hid hU
  have HG := hid hG
  have U0 : -1000 ≤ U := by omega
  have U1 : U ≤ 12624780000 := by omega
  rw [hf] at cF
  clear hsp hU hG hH hf cC hNe
  go_enter Tryz.func7, Tryz.ntmps7
  go_upto_region 4 with fail
  rw [HF.out]
  go_upto_region 5 with fail
  rw [Hr.out, HU.out]
  go_wp2_with fail
  refine q1.out.mono ?_
  rintro e w1 ⟨rfl, hB⟩
  have HB1 := hid (hB)
  clear hB q1 
  have q2 := hid (cF.out w1 HB1.out)
  go_wp2_with fail
  refine q2.out.mono ?_
  rintro e w2 ⟨rfl, hB⟩
  have HB2 := hid (HB1.out.trans (hB.mono HB1.out.size))
  clear hB q2 
  go_upto_region 10 with fail
  rw [HG.out]
  obtain ⟨M, hM⟩ : ∃ M, min H 146096 = M := ⟨_, rfl⟩
  have M0 : G ≤ M + 1 := by omega
  have M1 : M ≤ 146096 := by omega
  have M2 : M ≤ H := by omega
  have M3 : H ≤ M ∨ M = 146096 := by omega
  rw [hM] at HSP
  clear hM hGH
  have hciv : ∀ k, cntI l F U (daysL G M) k ≤ 12622780800 := fun k => zI (cntI_le l F U (daysL G M) k) (by rw [← HSP.out]; exact hN)
  have Hciv := hid hciv
  clear hciv
  go_wp2_with fail
  go_loopw [10, 11, 12, 13, 14] (fun wv dv _ _ _ wr => ∃ (n : Int) (c : Nat), wv = .int .i64 c ∧ dv = .int .i64 n ∧ G ≤ n ∧ n ≤ M + 1 ∧ c ≤ 12622780800 ∧ Hid (c = cntI l F U (daysL G M) (n - G).toNat ∧ Below w.heap.size w wr)) (fun _ dv _ _ _ _ => (M + 1 - intOf dv).toNat)
  case atStart => exact ⟨G, 0, rfl, rfl, Int.le_refl _, M0, by omega, by rw [Int.sub_self]; rfl, HB2.out⟩
  case round =>
    obtain ⟨n, c, rfl, rfl, n0, n1, hc, HI⟩ := hrel
    have hud := hUH.out
    by_cases hend : n = M + 1
    · have hcN : Hid (c = N) := by
        show _ = _
        rw [HI.out.1, HSP.out, hend, ← cntI_all, daysL_len]; congr 1; omega
      have qL := hid (cL.out wr HI.out.2)
      have HB9 := hid HI.out.2
      have d1 : (decide (n ≤ H) && decide (n < 146097)) = false := by
        rw [Bool.and_eq_false_iff, decide_eq_false_iff_not, decide_eq_false_iff_not]; omega
      clear HI
      rw [hcN.out]
      by_cases h1 : n ≤ H
      · have d2 : decide (n ≤ H) = true := decide_eq_true h1
        have d3 : decide (n < 146097) = false := decide_eq_false (by omega)
        clear d1 h1 hend
        go_wp2_with fail
        refine qL.out.mono ?_
        rintro e w9 ⟨rfl, hB⟩
        have HBf := hid (HB9.out.trans (hB.mono HB9.out.size))
        clear hB
        go_wp2
        go_ret
        exact ⟨rfl, HBf.out⟩
      · have d2 : decide (n ≤ H) = false := decide_eq_false h1
        clear d1 h1 hend
        go_wp2_with fail
        refine qL.out.mono ?_
        rintro e w9 ⟨rfl, hB⟩
        have HBf := hid (HB9.out.trans (hB.mono HB9.out.size))
        clear hB
        go_wp2
        go_ret
        exact ⟨rfl, HBf.out⟩
    have n2 : n ≤ M := by omega
    have d2 : decide (n ≤ H) = true := decide_eq_true (by omega)
    have d3 : decide (n < 146097) = true := decide_eq_true (by omega)
    have cAn := hid (cA.out n wr HI.out.2 (by omega) (by omega))
    have hlen := secL_len (dayQ l n)
    have hmem : Hid (∀ x ∈ secL (dayQ l n), 0 ≤ x ∧ x < 86400) := fun x hx => by
      rw [secL, sel_mem] at hx; obtain ⟨k, hk, hq, rfl⟩ := hx
      omega
    have hall := cntS_all l F U n
    obtain ⟨X, hX⟩ : ∃ X, secL (dayQ l n) = X := ⟨_, rfl⟩
    rw [hX] at cAn hlen hmem hall
    have Hall := hid hall
    have HBr := hid HI.out.2
    have Hci := hid HI.out.1
    clear hX hend hall HI
    go_wp2_with fail
    refine cAn.out.mono ?_
    rintro e w6 ⟨a6, m6, c6, rfl, hm6, hs6, -, hB6⟩
    obtain rfl := hm6.out
    have HB6 := hid (HBr.out.trans (hB6.mono HBr.out.size))
    have Hs6 := hid hs6
    clear hB6 hm6 cAn hs6 d2 d3
    go_wp2_with fail
    go_loopw [10, 13, 14] (fun wv iv _ wr' => ∃ (j c2 : Nat), wv = .int .i64 c2 ∧ iv = .int .i64 j ∧ j ≤ X.length ∧ wr' = w6 ∧ c2 ≤ 12622780800 + j ∧ Hid (c2 = c + cntS F U n X j)) (fun _ iv _ _ => X.length - (intOf iv).toNat)
    case atStart => exact ⟨0, c, rfl, rfl, Nat.zero_le _, rfl, by omega, by rw [cntS_zero]; rfl⟩
    case round =>
      obtain ⟨j, c2, rfl, rfl, hj, rfl, hc2, HC⟩ := hrel
      by_cases hjl : j < X.length
      · obtain ⟨b6, o6, rfl, -, hcc⟩ := Hs6.out.atInt hjl
        have e6 := hcc j hjl
        have hx := hmem.out _ (List.getElem_mem hjl)
        have hsn := cntS_snoc F U n hjl
        obtain ⟨x, hxe⟩ : ∃ x, X[j] = x := ⟨_, rfl⟩
        rw [hxe] at e6 hx hsn
        obtain ⟨x0, x1⟩ := hx
        have Hsn := hid hsn
        have hj1 : (j : Int) < X.length := by omega
        clear hcc hxe hsn
        by_cases g1 : F ≤ 86400 * n + x
        · have d4 : decide (F ≤ 86400 * n + x) = true := decide_eq_true g1
          by_cases g2 : 86400 * n + x ≤ U
          · have d5 : decide (86400 * n + x ≤ U) = true := decide_eq_true g2
            have HC2 : Hid (c2 + 1 = c + cntS F U n X (j + 1)) := by
              show _ = _
              rw [Hsn.out, d4, d5, HC.out]; simp; omega
            clear g1 g2
            go_wp2
            refine ⟨⟨j + 1, c2 + 1, by go_num, by go_num, by omega, by trivial, by omega, HC2.out⟩, by simp [intOf]; omega⟩
          · have d5 : decide (86400 * n + x ≤ U) = false := decide_eq_false g2
            have HC2 : Hid (c2 = c + cntS F U n X (j + 1)) := by
              show _ = _
              rw [Hsn.out, d4, d5, HC.out]; simp
            clear g1 g2
            go_wp2
            refine ⟨⟨j + 1, c2, by trivial, by go_num, by omega, by trivial, by omega, HC2.out⟩, by simp [intOf]; omega⟩
        · have d4 : decide (F ≤ 86400 * n + x) = false := decide_eq_false g1
          have HC2 : Hid (c2 = c + cntS F U n X (j + 1)) := by
            show _ = _
            rw [Hsn.out, d4, HC.out]; simp
          clear g1
          go_wp2
          refine ⟨⟨j + 1, c2, by trivial, by go_num, by omega, by trivial, by omega, HC2.out⟩, by simp [intOf]; omega⟩
      · obtain rfl : j = X.length := by omega
        have hk : G + ((n - G).toNat : Int) = n := by omega
        have hat := daysL_at (G := G) (H := M) (k := (n - G).toNat) (by omega)
        rw [hk] at hat
        have hcn : Hid (c2 = cntI l F U (daysL G M) (n + 1 - G).toNat) := by
          show _ = _
          rw [show (n + 1 - G).toNat = (n - G).toNat + 1 by omega, cntI_snoc hat, HC.out, Hall.out, Hci.out]
        have hcb : c2 ≤ 12622780800 := by rw [hcn.out]; exact Hciv.out _
        have n3 : n + 1 ≤ M + 1 := by omega
        clear hk hat HC
        go_wp2
        refine ⟨⟨n + 1, c2, rfl, by go_num, by omega, n3, hcb, hcn.out, HB6.out⟩, by simp [intOf]; omega⟩
end
end Go.Proofs.YtchceegpbfecaaaGreatDoor

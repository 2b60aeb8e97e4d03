/-
  ferialaw17.May, Has, same, fault: the document's answer for sets.
-/
import Derived.Test.YtgiecadlliblpaaGreatIrTrims
import Derived.Test.YtgiecadlliblpaaGreatClRMay
import Derived.Test.YtgiecadlliblpaaGreatClRHas
namespace Go.Proofs.YtgiecadlliblpaaGreat
open Go.RowKit
set_option linter.unusedVariables false

attribute [local go_sem ↓] loadAt_cl
set_option maxRecDepth 100000 in
set_option maxHeartbeats 3200000 in
theorem RMay17_any (a : Option Addr) (cap : Nat) (l : List Cl) (w : World) (hl : l.length ≤ 1000) (hs : Sl w a (cls l)) (hok : ∀ c ∈ l, c.Ok) :
    Calls Tryz.prog 14 #[.slice a l.length cap] w fun e w' => e = .returned (.bool (mayL l)) ∧ Below w.heap.size w w' := by
  have Hs := hid hs
  have Hok := hid hok
  clear hs hok
  go_enter Tryz.func14, Tryz.ntmps14
  go_wp2_with fail
  go_loopw [3] (fun i wr => ∃ k : Nat, i = .int .i64 k ∧ k ≤ l.length ∧ k ≤ 9 ∧ Hid ((l.take k).all mayC = true) ∧ Hid (Below w.heap.size w wr)) (fun i _ => l.length - (intOf i).toNat)
  case atStart => exact ⟨0, rfl, by omega, by omega, by show _ = _; rfl, Below.refl _ _⟩
  case round =>
    obtain ⟨k, rfl, hk, hk9, hall, HB⟩ := hrel
    by_cases hlt : k < l.length
    · by_cases h9 : k < 9
      · have hltI : (k : Int) < l.length := by omega
        have h9I : (k : Int) < 9 := by omega
        obtain ⟨b, off, rfl, hbk, hr⟩ := Hs.out.atCl hlt
        have hr' := range_below hr HB.out hbk
        have hcOk := hid (Hok.out _ (List.getElem_mem hlt))
        have ts := hid (take_snoc l k hlt)
        have hmem := hid (List.getElem_mem hlt)
        obtain ⟨c, hc⟩ : ∃ c, l[k] = c := ⟨_, rfl⟩
        rw [hc] at hr' hcOk ts hmem
        have le := ld_at hr'
        have cM := hid (fun W => RMayCl_any c W hcOk.out)
        cases hm : mayC c
        · rw [hm] at cM
          have hno : Hid (mayL l = false) := by
            show _ = _
            rw [mayL, show l.all mayC = false by rw [List.all_eq_false]; exact ⟨c, hmem.out, by rw [hm]; simp⟩, Bool.and_false]
          clear hr hr' hc hm
          go_wp2_with fail
          refine (cM.out _).mono ?_
          rintro e w1 ⟨rfl, hB1⟩
          have HB1 := hid (HB.out.trans (hB1.mono HB.out.size))
          clear hB1 le
          go_wp2
          go_ret
          rw [hno.out]
          exact ⟨rfl, HB1.out⟩
        · rw [hm] at cM
          have hyes : Hid ((l.take (k + 1)).all mayC = true) := by show _ = _; rw [ts.out, List.all_append, hall.out, List.all_cons, hm]; rfl
          clear hr hr' hc hm
          go_wp2_with fail
          refine (cM.out _).mono ?_
          rintro e w1 ⟨rfl, hB1⟩
          have HB1 := hid (HB.out.trans (hB1.mono HB.out.size))
          clear hB1 le
          go_wp2
          exact ⟨⟨k + 1, by go_num, by omega, by omega, hyes, HB1⟩, by simp [intOf]; omega⟩
      · have hltI : (k : Int) < l.length := by omega
        have h9I : ¬ (k : Int) < 9 := by omega
        have hno : Hid (mayL l = false) := by show _ = _; rw [mayL, decide_eq_false (by omega)]; rfl
        have h8J : decide ((l.length : Int) ≤ 8) = false := decide_eq_false (by omega)
        have h8I : ¬ (l.length : Int) ≤ 8 := by omega
        go_wp2
        go_ret
        rw [hno.out]
        exact ⟨rfl, HB.out⟩
    · have hltI : ¬ (k : Int) < l.length := by omega
      have hke : l.take k = l := List.take_of_length_le (by omega)
      rw [hke] at hall
      clear hke
      by_cases h8 : l.length ≤ 8
      · have hno : Hid (mayL l = true) := by show _ = _; rw [mayL, decide_eq_true h8, hall.out]; rfl
        have h8I : (l.length : Int) ≤ 8 := by omega
        clear hall
        go_wp2
        go_ret
        rw [hno.out]
        exact ⟨rfl, HB.out⟩
      · have hno : Hid (mayL l = false) := by show _ = _; rw [mayL, decide_eq_false h8]; rfl
        have h8I : ¬ (l.length : Int) ≤ 8 := by omega
        clear hall
        go_wp2
        go_ret
        rw [hno.out]
        exact ⟨rfl, HB.out⟩
set_option maxRecDepth 100000 in
set_option maxHeartbeats 3200000 in
theorem RHas17_any (a : Option Addr) (cap : Nat) (l : List Cl) (t : Int) (w : World) (hl : l.length ≤ 1000) (hs : Sl w a (cls l)) (hok : ∀ c ∈ l, c.Ok) :
    Calls Tryz.prog 11 #[.slice a l.length cap, .int .i64 t] w fun e w' => e = .returned (.bool (hasL l t)) ∧ Below w.heap.size w w' := by
  have cM := hid (fun W (h : Sl W a (cls l)) => RMay17_any a cap l W hl h hok)
  have Hs := hid hs
  have Hok := hid hok
  have hhas : hasL l t = (mayL l && l.any (fun c => hasC c t)) := rfl
  rw [hhas]
  obtain ⟨m, hm⟩ : ∃ m, mayL l = m := ⟨_, rfl⟩
  rw [hm] at cM ⊢
  clear hs hok hm hhas
  go_enter Tryz.func11, Tryz.ntmps11
  go_wp2_with fail
  go_loopw [5, 6] (fun v i wr => ∃ k : Nat, i = .int .i64 k ∧ k ≤ l.length ∧ v = .bool ((l.take k).any (fun c => hasC c t)) ∧ Hid (m = false → k = 0) ∧ Hid (Below w.heap.size w wr)) (fun _ i _ => l.length - (intOf i).toNat)
  case atStart => exact ⟨0, rfl, by omega, rfl, fun _ => rfl, Below.refl _ _⟩
  case round =>
    obtain ⟨k, rfl, hk, rfl, hm0, HB⟩ := hrel
    obtain ⟨v, hv⟩ : ∃ v, (l.take k).any (fun c => hasC c t) = v := ⟨_, rfl⟩
    have Hv := hid hv
    rw [hv]
    by_cases hlt : k < l.length
    · have hltI : (k : Int) < l.length := by omega
      have cM1 := hid (cM.out wr (Hs.out.below HB.out))
      cases m
      · have hz : Hid (k = 0) := hm0.out rfl
        have hvf : v = false := by rw [← hv, hz.out]; rfl
        clear hv
        go_wp2_with fail
        refine cM1.out.mono ?_
        rintro e w1 ⟨rfl, hB1⟩
        have HB1 := hid (HB.out.trans (hB1.mono HB.out.size))
        have Hvf := hid hvf
        clear hB1 hvf
        go_wp2
        go_ret
        exact ⟨ret_bool rfl, HB1.out⟩
      · obtain ⟨b, off, rfl, hbk, hr⟩ := Hs.out.atCl hlt
        have hr' := range_below hr HB.out hbk
        have hbw : b < wr.heap.size := Nat.lt_of_lt_of_le hbk HB.out.size
        have hcOk := hid (Hok.out _ (List.getElem_mem hlt))
        have ts := hid (take_snoc l k hlt)
        obtain ⟨c, hc⟩ : ∃ c, l[k] = c := ⟨_, rfl⟩
        rw [hc] at hr' hcOk ts
        have cH := hid (fun W => RHas13_any c t W hcOk.out)
        obtain ⟨x, hx⟩ : ∃ x, hasC c t = x := ⟨_, rfl⟩
        rw [hx] at cH
        have hnx : Hid ((l.take (k + 1)).any (fun c => hasC c t) = (v || x)) := by show _ = _; rw [ts.out, List.any_append, Hv.out, List.any_cons, hx]; simp
        clear hr hc hx hv
        have Hr' := hid hr'
        go_wp2_with fail
        refine cM1.out.mono ?_
        rintro e w1 ⟨rfl, hB1⟩
        have HB1 := hid (HB.out.trans (hB1.mono HB.out.size))
        have le := ld_at (range_below Hr'.out hB1 hbw)
        clear hB1 hr'
        cases v
        · go_wp2_with fail
          refine (cH.out _).mono ?_
          rintro e w2 ⟨rfl, hB2⟩
          have HB2 := hid (HB1.out.trans (hB2.mono HB1.out.size))
          clear hB2 le
          go_wp2
          exact ⟨⟨k + 1, by go_num, by omega, by rw [hnx.out, Bool.false_or], hid (fun h => (by cases h)), HB2⟩, by simp [intOf]; omega⟩
        · go_wp2
          exact ⟨⟨k + 1, by go_num, by omega, by rw [hnx.out, Bool.true_or], hid (fun h => (by cases h)), HB1⟩, by simp [intOf]; omega⟩
    · have hltI : ¬ (k : Int) < l.length := by omega
      have hres : Hid (v = (m && l.any (fun c => hasC c t))) := by
        show _ = _
        rw [← hv, List.take_of_length_le (by omega)]
        cases m
        · have h0 := hm0.out rfl
          have hn : l = [] := List.eq_nil_of_length_eq_zero (by omega)
          rw [hn]; rfl
        · rw [Bool.true_and]
      clear hv
      go_wp2
      go_ret
      exact ⟨ret_bool hres.out, HB.out⟩
def neqClS (a b : Value) : Sem Value := binOp .neq 40 a b
theorem neq_clS (a b : Value) : binOp .neq 40 a b = neqClS a b := rfl
theorem neqS_self (c : Cl) (w : World) (h : c.Ok) : (neqClS (clv c) (clv c)).run Tryz.prog w = .ok (.bool false) w := by
  rw [neqClS, clv, run_neq_struct]
  have := eqIn_cl c c w h h
  rw [clv, clSame_self] at this
  rw [this]; rfl
attribute [local go_sem ↓] neq_clS
set_option maxRecDepth 100000 in
set_option maxHeartbeats 3200000 in
theorem Same17_any (a a2 : Option Addr) (cap cap2 : Nat) (l : List Cl) (w : World) (hl : l.length ≤ 1000) (hs : Sl w a (cls l)) (hs2 : Sl w a2 (cls l)) (hok : ∀ c ∈ l, c.Ok) :
    Calls Tryz.prog 12 #[.slice a l.length cap, .slice a2 l.length cap2] w fun e w' => e = .returned (.bool true) ∧ Below w.heap.size w w' := by
  have Hs := hid hs
  have Hs2 := hid hs2
  have Hok := hid hok
  clear hs hs2 hok
  go_enter Tryz.func12, Tryz.ntmps12
  go_wp2_with fail
  go_loopw [5] (fun i wr => ∃ k : Nat, i = .int .i64 k ∧ k ≤ l.length ∧ Hid (Below w.heap.size w wr)) (fun i _ => l.length - (intOf i).toNat)
  case atStart => exact ⟨0, rfl, by omega, Below.refl _ _⟩
  case round =>
    obtain ⟨k, rfl, hk, HB⟩ := hrel
    by_cases hlt : k < l.length
    · have hltI : (k : Int) < l.length := by omega
      obtain ⟨b, off, rfl, hbk, hr⟩ := Hs.out.atCl hlt
      obtain ⟨b2, off2, rfl, hbk2, hr2⟩ := Hs2.out.atCl hlt
      have hd : Below w.heap.size w wr.drew := HB.out.drew
      have hr' := range_below hr hd hbk
      have hr2' := range_below hr2 hd hbk2
      have hq := range_below hr HB.out hbk
      have hq2 := range_below hr2 HB.out hbk2
      have hcOk := Hok.out _ (List.getElem_mem hlt)
      obtain ⟨c, hc⟩ : ∃ c, l[k] = c := ⟨_, rfl⟩
      rw [hc] at hr' hr2' hcOk hq hq2
      have l1 := ld_at hr'
      have l2 := ld_at hr2'
      have l3 := ld_at hq
      have l4 := ld_at hq2
      have hne := fun W => neqS_self c W hcOk
      have Hd := hid hd
      clear hr hr2 hr' hr2' hq hq2 hc hd hcOk
      go_upto_region 6 with fail
      go_region
      go_wp2
      exact ⟨⟨k + 1, by go_num, by omega, Hd⟩, by simp [intOf]; omega⟩
    · have hltI : ¬ (k : Int) < l.length := by omega
      go_wp2
      go_ret
      exact ⟨rfl, HB.out⟩
set_option maxHeartbeats 1600000 in
theorem Fault17_any (a : Option Addr) (cap : Nat) (l : List Cl) (w : World) (hl : l.length ≤ 1000) (hs : Sl w a (cls l)) (hok : ∀ c ∈ l, c.Ok) :
    Calls Tryz.prog 8 #[.slice a l.length cap] w fun e w' => e = .returned (.int .i64 (faultL l)) ∧ Below w.heap.size w w' := by
  have cM := hid (RMay17_any a cap l w hl hs hok)
  have hmf := may_fault l
  by_cases h8 : 8 < l.length
  · have hf : Hid (faultL l = 5) := if_pos h8
    have h8I : (8 : Int) < l.length := by omega
    clear hs hok hmf
    go_enter Tryz.func8, Tryz.ntmps8
    go_wp2
    go_ret
    rw [hf.out]
    exact ⟨rfl, Below.refl _ _⟩
  · have h8I : ¬ (8 : Int) < l.length := by omega
    cases hm : l.all mayC
    · have hf : faultL l = 1 := by rw [faultL, if_neg h8, hm]; rfl
      rw [hmf, hf] at cM
      have cM' : Hid (Calls Tryz.prog 14 #[.slice a l.length cap] w fun e w' => e = .returned (.bool false) ∧ Below w.heap.size w w') := cM.out
      rw [hf]
      clear hs hok hmf hm hf
      go_enter Tryz.func8, Tryz.ntmps8
      go_wp2_with fail
      refine cM'.out.mono ?_
      rintro e w1 ⟨rfl, hB1⟩
      have HB1 := hid hB1
      clear hB1
      go_wp2
      go_ret
      exact ⟨rfl, HB1.out⟩
    · have hf : faultL l = 0 := by rw [faultL, if_neg h8, hm]; rfl
      rw [hmf, hf] at cM
      have cM' : Hid (Calls Tryz.prog 14 #[.slice a l.length cap] w fun e w' => e = .returned (.bool true) ∧ Below w.heap.size w w') := cM.out
      rw [hf]
      clear hs hok hmf hm hf
      go_enter Tryz.func8, Tryz.ntmps8
      go_wp2_with fail
      refine cM'.out.mono ?_
      rintro e w1 ⟨rfl, hB1⟩
      have HB1 := hid hB1
      clear hB1
      go_wp2
      go_ret
      exact ⟨rfl, HB1.out⟩
end Go.Proofs.YtgiecadlliblpaaGreat

/-
  rule.headOf; slices.Equal of numbers and of weekdays.
-/
import Derived.Test.YtndfckpcbiecnaaRuleRef2
namespace Go.Proofs.Ytndfckpcbiecnaa
open Go.RowKit
set_option linter.unusedVariables false

abbrev hdv (r : Ru) : Value := .agg #[.int .i64 r.st, .int .i64 r.iv, .int .i64 r.co, .int .i64 r.un, .int .i64 r.fq]
theorem infoHd : (Try.prog.info? 118).map (·.size) = some 5 := by kernel_rfl
theorem range_newR (w : World) (x : Obj) (l : List Value) (t : TypeId) : ((w.alloc x).alloc (.cells l.toArray t)).rangeAt (w.heap.size + 1) 0 l := by
  have h := range_new (w.alloc x) l t
  rwa [World.size_alloc] at h
theorem HeadOf_any (r : Ru) (w : World) : Calls Try.prog 76 #[ruv r] w fun e w' => e = .returned (hdv r) ∧ Below w.heap.size w w' := by
  go_enter Try.func76, Try.ntmps76
  go_wp2
  exact bodyPost_ret (results_cell_mid rfl _ _ (w.heap.size + 1) 0 _ _ rfl (range_newR w _ _ _) Try.underlying118 rfl infoHd) rfl ⟨rfl, below_new (below_new (Below.refl _ _) (Nat.le_refl _)) (by simp)⟩
set_option maxHeartbeats 800000 in
theorem EqInt_any (a b : Option Addr) (cn cm : Nat) (x y : List Int) (w : World)
   (hxl : x.length ≤ 9223372036854775807) (hyl : y.length ≤ 9223372036854775807)
   (hx : Sl w a (ints x)) (hy : Sl w b (ints y)) :
    Calls Try.prog 77 #[.slice a x.length cn, .slice b y.length cm] w fun e w' => e = .returned (.bool (decide (x = y))) ∧ Below w.heap.size w w' := by
  by_cases hnm : x.length = y.length
  · have hb' : ((x.length : Int) != (y.length : Int)) = false := by simp; omega
    have HH := hid hnm
    clear hnm
    go_enter Try.func77, Try.ntmps77
    go_wp2
    go_loopw [13] (fun i wr => ∃ k : Nat, i = .int .i64 k ∧ k ≤ x.length ∧ x.take k = y.take k ∧ Below w.heap.size w wr) (fun i _ => x.length - (intOf i).toNat)
    case atStart => exact ⟨0, rfl, by omega, rfl, Below.refl _ _⟩
    case round =>
      obtain ⟨k, rfl, hk, ht, hB⟩ := hrel
      by_cases hlt : k < x.length
      · obtain ⟨b1, o1, rfl, hb1, hc1⟩ := hx.atInt hlt
        have hy' : k < y.length := by rw [← HH.out]; exact hlt
        obtain ⟨b2, o2, rfl, hb2, hc2⟩ := hy.atInt hy'
        have e1 := (hB.cell (p := ⟨b1, o1 + k, none⟩) hb1).trans (hc1 k hlt)
        have e2 := (hB.cell (p := ⟨b2, o2 + k, none⟩) hb2).trans (hc2 k hy')
        have hT := hid ht
        clear hc1 hc2 ht hx hy
        go_wp2
        go_quiet (fail)
        go_wp2
        · have hne : (x[k] != y[k]) = true := by assumption
          go_ret
          refine ⟨ret_bool ?_, below_drewN hB _⟩
          symm
          rw [decide_eq_false_iff_not]
          intro e
          subst e
          simp at hne
        · have hne : (x[k] != y[k]) = false := by assumption
          refine ⟨⟨k + 1, by go_num, by omega, ?_, below_drewN hB _⟩, by simp [intOf]; omega⟩
          rw [take_snoc _ _ hlt, take_snoc _ _ hy', hT.out]
          simp at hne
          rw [hne]
      · have hT := hid ht
        clear ht hx hy
        have hge : x.length ≤ k := by omega
        go_wp2
        go_ret
        refine ⟨ret_bool ?_, hB⟩
        symm
        rw [decide_eq_true_eq]
        have := hT.out
        rwa [List.take_of_length_le hge, List.take_of_length_le (by rw [← HH.out]; exact hge)] at this
  · have hb' : ((x.length : Int) != (y.length : Int)) = true := by simp; omega
    have hf : decide (x = y) = false := by
      rw [decide_eq_false_iff_not]; intro e; subst e; exact hnm rfl
    rw [hf]
    clear hf
    go_enter Try.func77, Try.ntmps77
    go_wp2
    go_ret
    exact ⟨rfl, Below.refl _ _⟩
set_option maxHeartbeats 1600000 in
theorem EqNth_any (a b : Option Addr) (cn cm : Nat) (x y : List (Int × Int)) (w : World)
   (hxl : x.length ≤ 1000000000000) (hyl : y.length ≤ 1000000000000)
   (hx : Sl w a (nths x)) (hy : Sl w b (nths y)) :
    Calls Try.prog 78 #[.slice a x.length cn, .slice b y.length cm] w fun e w' => e = .returned (.bool (decide (x = y))) ∧ Below w.heap.size w w' := by
  by_cases hnm : x.length = y.length
  · have hb' : ((x.length : Int) != (y.length : Int)) = false := by simp; omega
    have HH := hid hnm
    clear hnm
    go_enter Try.func78, Try.ntmps78
    go_wp2
    go_loopw [13] (fun i wr => ∃ k : Nat, i = .int .i64 k ∧ k ≤ x.length ∧ Hid (x.take k = y.take k) ∧ Below w.heap.size w wr) (fun i _ => x.length - (intOf i).toNat)
    case atStart => exact ⟨0, rfl, by omega, by rfl, Below.refl _ _⟩
    case round =>
      obtain ⟨k, rfl, hk, hT, hB⟩ := hrel
      by_cases hlt : k < x.length
      · obtain ⟨b1, o1, rfl, hb1, hc1⟩ := hx.atNth hlt
        have hy' : k < y.length := by rw [← HH.out]; exact hlt
        obtain ⟨b2, o2, rfl, hb2, hc2⟩ := hy.atNth hy'
        have e1 := (hB.cell (p := ⟨b1, o1 + k * 2, none⟩) hb1).trans (hc1 k hlt).1
        have e1' := (hB.cell (p := ⟨b1, o1 + k * 2 + 1, none⟩) hb1).trans (hc1 k hlt).2
        have e2 := (hB.cell (p := ⟨b2, o2 + k * 2, none⟩) hb2).trans (hc2 k hy').1
        have e2' := (hB.cell (p := ⟨b2, o2 + k * 2 + 1, none⟩) hb2).trans (hc2 k hy').2
        have ht1 := hid (take_snoc x k hlt)
        have ht2 := hid (take_snoc y k hy')
        obtain ⟨⟨u1, u2⟩, hu⟩ : ∃ q, x[k] = q := ⟨_, rfl⟩
        obtain ⟨⟨v1, v2⟩, hv⟩ : ∃ q, y[k] = q := ⟨_, rfl⟩
        have Hu := hid hu
        have Hv := hid hv
        rw [hu] at e1 e1' ht1
        rw [hv] at e2 e2' ht2
        clear hc1 hc2 hx hy hu hv
        by_cases g1 : u1 = v1
        · by_cases g2 : u2 = v2
          · have hf : Hid (x.take (k + 1) = y.take (k + 1)) := by show _ = _; rw [ht1.out, ht2.out, hT.out, g1, g2]
            subst g1 g2
            go_wp2
            go_quiet (fail)
            go_wp2
            exact ⟨⟨k + 1, by go_num, by omega, hf, below_drewN hB _⟩, by simp [intOf]; omega⟩
          · have hf : Hid (decide (x = y) = false) := by
              show _ = _
              rw [decide_eq_false_iff_not]
              rintro rfl
              exact g2 (Prod.mk.inj (Hu.out.symm.trans Hv.out)).2
            have gb : (u1 == v1) = true := by simp [g1]
            have gb2 : (u2 == v2) = false := by simp [g2]
            clear g1 g2
            go_wp2
            go_quiet (fail)
            go_wp2
            go_ret
            exact ⟨by rw [hf.out]; rfl, below_drewN hB _⟩
        · have hf : Hid (decide (x = y) = false) := by
            show _ = _
            rw [decide_eq_false_iff_not]
            rintro rfl
            exact g1 (Prod.mk.inj (Hu.out.symm.trans Hv.out)).1
          have gb : (u1 == v1) = false := by simp [g1]
          clear g1
          go_wp2
          go_quiet (fail)
          go_wp2
          go_ret
          exact ⟨by rw [hf.out]; rfl, below_drewN hB _⟩
      · clear hx hy
        have hge : x.length ≤ k := by omega
        go_wp2
        go_ret
        refine ⟨ret_bool ?_, hB⟩
        symm
        rw [decide_eq_true_eq]
        have := hT.out
        rwa [List.take_of_length_le hge, List.take_of_length_le (by rw [← HH.out]; exact hge)] at this
  · have hb' : ((x.length : Int) != (y.length : Int)) = true := by simp; omega
    have hf : decide (x = y) = false := by
      rw [decide_eq_false_iff_not]; intro e; subst e; exact hnm rfl
    rw [hf]
    clear hf
    go_enter Try.func78, Try.ntmps78
    go_wp2
    go_ret
    exact ⟨rfl, Below.refl _ _⟩
end Go.Proofs.Ytndfckpcbiecnaa

/-
  What feriaref02.Ints computes.
-/
import Derived.Test.YtchceegpbfecaaaDoorBase
namespace Go.Proofs.YtchceegpbfecaaaDoor
open Go.RowKit
set_option linter.unusedVariables false

set_option maxHeartbeats 400000 in
theorem Ints_any (a b : Option Addr) (cn cm : Nat) (x y : List Int) (w : World)
   (hxl : x.length ≤ 9223372036854775807) (hyl : y.length ≤ 9223372036854775807)
   (hx : Sl w a (ints x)) (hy : Sl w b (ints y)) :
    Calls Tryd.prog 12 #[.slice a x.length cn, .slice b y.length cm] w fun e w' => e = .returned (.bool (decide (x = y))) ∧ Below w.heap.size w w' := by
  by_cases hnm : x.length = y.length
  · have hb' : ((x.length : Int) != (y.length : Int)) = false := by simp; omega
    have HH := hid hnm
    clear hnm
    go_enter Tryd.func12, Tryd.ntmps12
    go_wp2
    go_loopw [5] (fun i wr => ∃ k : Nat, i = .int .i64 k ∧ k ≤ x.length ∧ x.take k = y.take k ∧ Below w.heap.size w wr) (fun i _ => x.length - (intOf i).toNat)
    case atStart => exact ⟨0, rfl, by omega, rfl, Below.refl _ _⟩
    case round =>
      obtain ⟨k, rfl, hk, ht, hB⟩ := hrel
      by_cases hlt : k < x.length
      · obtain ⟨b1, o1, rfl, hb1, hc1⟩ := hx.atInt hlt
        have hy' : k < y.length := by rw [← HH.out]; exact hlt
        obtain ⟨b2, o2, rfl, hb2, hc2⟩ := hy.atInt hy'
        have e1 := (hB.cell (p := ⟨b1, o1 + k, none⟩) hb1).trans (hc1 k hlt)
        have e2 := (hB.cell (p := ⟨b2, o2 + k, none⟩) hb2).trans (hc2 k hy')
        have hT := hid ht
        clear hc1 hc2 ht hx hy
        go_wp2
        go_quiet (fail)
        go_wp2
        · have hne : (x[k] != y[k]) = true := by assumption
          go_ret
          refine ⟨ret_bool ?_, below_drewN hB _⟩
          symm
          rw [decide_eq_false_iff_not]
          intro e
          subst e
          simp at hne
        · have hne : (x[k] != y[k]) = false := by assumption
          refine ⟨⟨k + 1, by go_num, by omega, ?_, below_drewN hB _⟩, by simp [intOf]; omega⟩
          rw [take_snoc _ _ hlt, take_snoc _ _ hy', hT.out]
          simp at hne
          rw [hne]
      · have hT := hid ht
        clear ht hx hy
        have hge : x.length ≤ k := by omega
        go_wp2
        go_ret
        refine ⟨ret_bool ?_, hB⟩
        symm
        rw [decide_eq_true_eq]
        have := hT.out
        rwa [List.take_of_length_le hge, List.take_of_length_le (by rw [← HH.out]; exact hge)] at this
  · have hb' : ((x.length : Int) != (y.length : Int)) = true := by simp; omega
    have hf : decide (x = y) = false := by
      rw [decide_eq_false_iff_not]; intro e; subst e; exact hnm rfl
    rw [hf]
    clear hf
    go_enter Tryd.func12, Tryd.ntmps12
    go_wp2
    go_ret
    exact ⟨rfl, Below.refl _ _⟩

end Go.Proofs.YtchceegpbfecaaaDoor

/-
  feriaref02.List makes the list of a mask's numbers.
-/
import Derived.Test.YtdggflkkojmabaaDoorMaskRSpan
import Derived.Test.YtdggflkkojmabaaDoorPopWalk
namespace Go.Proofs.YtdggflkkojmabaaDoor
open Go.RowKit
set_option linter.unusedVariables false

theorem sel_pop (m : Nat) : (sel m.testBit 64).length = Lib.popAux 64 m := listM_len m 64
theorem hasB_nat (m n : Nat) : hasB m (n : Int) = m.testBit n := by simp [hasB]

set_option maxHeartbeats 800000 in
theorem RList_any (x : Nat) (w : World) (hx : x < 18446744073709551616) :
    Calls Tryd.prog 35 #[.int .u64 x] w fun e w' => ∃ v, e = .returned v ∧ w'.ownsRow w.heap.size 3 1 v (sel x.testBit 64).length (ints (sel x.testBit 64)) ∧ Below w.heap.size w w' := by
  have H1 := hid (fun n W => RHas_any x n W hx)
  go_enter Tryd.func35, Tryd.ntmps35
  go_wp2
  go_loopw [3, 4] (fun v i wr => ∃ (n m cap : Nat) (a : Option Addr), i = .int .i64 n ∧ n ≤ 64 ∧ v = .slice a m cap ∧ m = (sel x.testBit n).length ∧ m ≤ n ∧ wr.ownsRow w.heap.size 3 1 (.slice a m cap) m (ints (sel x.testBit n)) ∧ Below w.heap.size w wr) (fun _ i _ => (64 - intOf i).toNat)
  case atStart => exact ⟨0, 0, 0, none, rfl, by omega, rfl, rfl, by omega, World.ownsRow_nil _ _ _ _, Below.refl _ _⟩
  case round =>
    obtain ⟨n, m, cap, a, rfl, hn, rfl, hme, hm, hown, hB⟩ := hrel
    by_cases hlt : n < 64
    · have hsz := hB.size
      have H2 := hid (hasB_nat x n ▸ H1.out n wr)
      have Hme := hid hme
      clear hme
      by_cases hb : x.testBit n = true
      · have Hy := hid (sel_yes hb)
        rw [hb] at H2
        clear hb
        go_wp2_with fail
        refine H2.out.mono ?_
        rintro e w1 ⟨rfl, rfl⟩
        go_wp2_with (at_builtin; refine app1 eInt (.tmp 12) (.tmp 14) rfl rfl rfl rfl rfl hown rfl (by omega) (by omega) hsz ?_)
        intro a' cap' w' hown2 hg2 hb2 hf2
        have hB2 := hB.trans hb2
        rw [← ints_one, ← ints_append, ← Hy.out] at hown2
        go_wp2
        exact ⟨⟨n + 1, m + 1, cap', a', by go_num, by omega, rfl, by rw [Hy.out, List.length_append, ← Hme.out]; rfl, by omega, hown2, hB2⟩, by simp [intOf]; omega⟩
      · have hb' : x.testBit n = false := by simpa using hb
        have Hy := hid (sel_no hb')
        rw [hb'] at H2
        clear hb hb'
        go_wp2_with (go_at_call 24; refine H2.out.mono ?_; rintro e w1 ⟨rfl, rfl⟩)
        exact ⟨⟨n + 1, m, cap, a, by go_num, by omega, rfl, by rw [Hy.out]; exact Hme.out, by omega, by rw [Hy.out]; exact hown, hB⟩, by simp [intOf]; omega⟩
    · obtain rfl : n = 64 := by omega
      have Hme := hid hme
      clear hme
      go_wp2
      go_ret
      refine ⟨_, rfl, ?_, hB⟩
      rw [← Hme.out]; exact hown
end Go.Proofs.YtdggflkkojmabaaDoor

/-
  The function that mask.All makes tells the numbers of its mask, rising, as long as more are wanted.
-/
import Derived.Test.YtgiecadlliblpaaGreatIter
import Derived.TacticsInMore
import Derived.LoopNIn
import Derived.LoopIn
namespace Go.Proofs.YtgiecadlliblpaaGreat
open Go.RowKit
set_option linter.unusedVariables false

theorem sel_rising (p : Nat → Bool) : ∀ n, (sel p n).Pairwise (· < ·)
  | 0 => by simp [sel_zero]
  | n + 1 => by
    by_cases h : p n = true
    · rw [sel_yes h, List.pairwise_append]
      refine ⟨sel_rising p n, by simp, fun x hx y hy => ?_⟩
      obtain ⟨k, hk, _, rfl⟩ := sel_mem.mp hx
      obtain rfl : y = (n : Int) := by simpa using hy
      omega
    · rw [sel_no (by simpa using h)]; exact sel_rising p n
theorem wantF_skip (n : Int) (r : List Int) : ∀ l : List Int, (∀ x ∈ l, ¬ n < x) → wantF n (l ++ r) = wantF n r
  | [], _ => rfl
  | x :: xs, h => by rw [List.cons_append, wantF, if_neg (h x (by simp)), wantF_skip n r xs (fun z hz => h z (by simp [hz]))]
theorem wantF_next {l : List Int} (h : l.Pairwise (· < ·)) (k : Nat) (hk : k < l.length) : wantF l[k] l = if hn : k + 1 < l.length then l[k + 1] else -1 := by
  have h1 : wantF l[k] l = wantF l[k] (l.drop (k + 1)) := by
    have gen : ∀ x, (∀ y ∈ l.take (k + 1), ¬ x < y) → wantF x l = wantF x (l.drop (k + 1)) := fun x hx => by
      have := wantF_skip x (l.drop (k + 1)) (l.take (k + 1)) hx
      rwa [List.take_append_drop] at this
    refine gen _ (fun x hx => ?_)
    obtain ⟨j, hj, rfl⟩ := List.mem_take_iff_getElem.mp hx
    have hj' : j ≤ k := by omega
    rcases Nat.lt_or_ge j k with hjk | hjk
    · have := List.pairwise_iff_getElem.mp h j k (by omega) hk hjk; omega
    · obtain rfl : j = k := by omega
      omega
  rw [h1]
  by_cases hn : k + 1 < l.length
  · rw [dif_pos hn, List.drop_eq_getElem_cons hn, wantF, if_pos (List.pairwise_iff_getElem.mp h k (k + 1) hk hn (by omega))]
  · rw [dif_neg hn, List.drop_of_length_le (by omega)]; rfl

theorem sel_nonneg {p : Nat → Bool} {n : Nat} (k : Nat) (hk : k < (sel p n).length) : 0 ≤ (sel p n)[k] := by
  obtain ⟨j, _, _, e⟩ := sel_mem.mp (List.getElem_mem hk)
  omega
theorem next_at {m : Nat} (hm : m < 18446744073709551616) (k : Nat) (hk : k < (sel m.testBit 64).length) :
    leastB (aboveM m (sel m.testBit 64)[k]) = decide (k + 1 < (sel m.testBit 64).length) ∧ leastI (aboveM m (sel m.testBit 64)[k]) = (sel m.testBit 64).getD (k + 1) 0 := by
  have hw := wantF_next (sel_rising m.testBit 64) k hk
  by_cases ha : aboveM m (sel m.testBit 64)[k] = 0
  · rw [want_no _ hm ha] at hw
    have hn : ¬ k + 1 < (sel m.testBit 64).length := fun hn => by
      rw [dif_pos hn] at hw
      have := sel_nonneg (k + 1) hn
      omega
    rw [ha]
    refine ⟨by simp [leastB, hn], ?_⟩
    rw [List.getD_eq_getElem?_getD, List.getElem?_eq_none (by omega)]; rfl
  · rw [want_yes _ hm ha] at hw
    have hn : k + 1 < (sel m.testBit 64).length := Decidable.byContradiction fun hn => by
      rw [dif_neg hn] at hw; omega
    rw [dif_pos hn] at hw
    refine ⟨by simp [leastB, hn, ha], ?_⟩
    rw [leastI, if_neg ha, hw, List.getD_eq_getElem?_getD, List.getElem?_eq_getElem hn]; rfl
theorem least_at {m : Nat} (hm : m < 18446744073709551616) : leastB m = decide (0 < (sel m.testBit 64).length) ∧ leastI m = (sel m.testBit 64).getD 0 0 := by
  by_cases h0 : m = 0
  · rw [first_no h0]; simp [leastB, leastI, h0]
  · obtain ⟨bs, hb⟩ := first_yes hm h0
    rw [hb]; simp [leastB, leastI, h0]

attribute [local go_sem] Oper.semAt_some
def twOf : Value → Nat
  | .bool true => 1
  | _ => 0
theorem sel_bd {p : Nat → Bool} (k : Nat) (hk : k < (sel p 64).length) : 0 ≤ (sel p 64)[k] ∧ (sel p 64)[k] ≤ 63 := by
  obtain ⟨j, hj, _, e⟩ := sel_mem.mp (List.getElem_mem hk)
  omega
theorem sel_less {p : Nat → Bool} (k : Nat) (hj : k < (sel p 64).length) (hk : k + 1 < (sel p 64).length) : (sel p 64)[k] < (sel p 64)[k + 1] :=
  List.pairwise_iff_getElem.mp (sel_rising p 64) k (k + 1) (by omega) hk (by omega)

end Go.Proofs.YtgiecadlliblpaaGreat

/-
  The numbers of a set of seven words, word by word and as one rising list.
-/
import Derived.Test.YtchceegpbfecaaaDoorWideSets
import Derived.Test.YtchceegpbfecaaaDoorMaskIter
namespace Go.Proofs.YtchceegpbfecaaaDoor
open Go.RowKit
set_option linter.unusedVariables false

theorem sel_add (p : Nat → Bool) (a : Nat) : ∀ b, sel p (a + b) = sel p a ++ (sel (fun k => p (a + k)) b).map (fun x => (a : Int) + x)
  | 0 => by simp [sel_zero]
  | b + 1 => by
    rw [← Nat.add_assoc]
    by_cases h : p (a + b) = true
    · rw [sel_yes h, sel_yes (p := fun k => p (a + k)) h, sel_add p a b, List.map_append, List.append_assoc]; simp
    · have h' : p (a + b) = false := by simpa using h
      rw [sel_no h', sel_no (p := fun k => p (a + k)) h', sel_add p a b]
theorem sel_congr {p q : Nat → Bool} {n : Nat} (h : ∀ i, i < n → p i = q i) : sel p n = sel q n := by
  induction n with
  | zero => rfl
  | succ n ih =>
    have e := ih (fun i hi => h i (by omega))
    cases hp : p n
    · rw [sel_no hp, sel_no (by rw [← h n (by omega)]; exact hp), e]
    · rw [sel_yes hp, sel_yes (by rw [← h n (by omega)]; exact hp), e]

/-- the numbers of word i -/
def wpart (t : Nat → Nat) (i : Nat) : List Int := (sel (t i).testBit 64).map (fun x => ((64 * i : Nat) : Int) + x)
/-- the numbers of the first n words -/
def wupto (t : Nat → Nat) : Nat → List Int
  | 0 => []
  | n + 1 => wupto t n ++ wpart t n
theorem wupto_sel (t : Nat → Nat) : ∀ n, wupto t n = sel (bitW t) (64 * n)
  | 0 => rfl
  | n + 1 => by
    rw [wupto, wupto_sel t n, show 64 * (n + 1) = 64 * n + 64 by omega, sel_add, wpart]
    congr 1
    congr 1
    refine sel_congr (fun i hi => ?_)
    rw [bitW, show (64 * n + i) / 64 = n by omega, show (64 * n + i) % 64 = i by omega]
/-- the numbers of a set -/
def wsel (s : Nat → Nat) : List Int := sel (bitW s) 400
theorem bitW_in (s : Nat → Nat) (k : Nat) : bitW (inW s) k = (bitW s k && decide (k < 400)) := by
  rw [bitW, bitW, inW, Nat.testBit_and, fullW_test]
  congr 1
  rw [Bool.eq_iff_iff]
  simp only [Bool.and_eq_true, decide_eq_true_eq]
  omega
theorem wsel_in (s : Nat → Nat) : wupto (inW s) 7 = wsel s := by
  rw [wupto_sel, show 64 * 7 = 400 + 48 from rfl, sel_add, sel_none (n := 48) (fun i hi => by rw [bitW_in]; simp), wsel, List.map_nil, List.append_nil]
  exact sel_congr (fun i hi => by rw [bitW_in]; simp [hi])
theorem wupto_len (t : Nat → Nat) : ∀ n, (wupto t n).length = lenW t n
  | 0 => rfl
  | n + 1 => by rw [wupto, List.length_append, wupto_len t n, wpart, List.length_map, sel_pop, lenW]
theorem lenOf_eq (s : Nat → Nat) : lenOf s = (wsel s).length := by rw [lenOf, ← wupto_len, wsel_in]
theorem wsel_rising (s : Nat → Nat) : (wsel s).Pairwise (· < ·) := sel_rising _ _
theorem wsel_bd (s : Nat → Nat) {x : Int} (hx : x ∈ wsel s) : 0 ≤ x ∧ x < 400 := by
  obtain ⟨k, hk, _, rfl⟩ := sel_mem.mp hx; omega
/-- the n-th number of the words, by word and place -/
theorem wupto_at (t : Nat → Nat) : ∀ n i k, i < n → (hk : k < (sel (t i).testBit 64).length) → (wupto t n)[(wupto t i).length + k]? = some (((64 * i : Nat) : Int) + (sel (t i).testBit 64)[k])
  | 0, i, k, hi, hk => by omega
  | n + 1, i, k, hi, hk => by
    have hl : (wpart t i).length = (sel (t i).testBit 64).length := by simp [wpart]
    rcases Nat.lt_or_ge i n with h | h
    · have hmono : ∀ m, (wupto t i).length + (wpart t i).length ≤ (wupto t (i + 1 + m)).length := fun m => by
        induction m with
        | zero => rw [Nat.add_zero, wupto, List.length_append]; exact Nat.le_refl _
        | succ m ih => rw [← Nat.add_assoc, wupto, List.length_append]; omega
      have h2 := hmono (n - i - 1)
      rw [show i + 1 + (n - i - 1) = n by omega] at h2
      rw [wupto, List.getElem?_append_left (by omega)]
      exact wupto_at t n i k h hk
    · obtain rfl : i = n := by omega
      rw [wupto, List.getElem?_append_right (by omega), Nat.add_sub_cancel_left, wpart, List.getElem?_map, List.getElem?_eq_getElem hk]; rfl
end Go.Proofs.YtchceegpbfecaaaDoor

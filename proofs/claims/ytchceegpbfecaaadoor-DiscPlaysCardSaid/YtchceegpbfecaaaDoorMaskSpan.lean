/-
  What mask.Span and feriaref02.Span compute: the mask of the numbers of a span that are a step apart.
-/
import Derived.Test.YtchceegpbfecaaaDoorMaskWalk
namespace Go.Proofs.YtchceegpbfecaaaDoor
open Go.RowKit
set_option linter.unusedVariables false

/-- k is one of a span's numbers -/
def spanB (f t s : Int) (k : Nat) : Bool := decide (1 ≤ s ∧ f ≤ (k : Int) ∧ (k : Int) ≤ t ∧ ((k : Int) - f) % s = 0)
def spanM (f t s : Int) : Nat := mk (spanB f t s)
/-- those below n -/
def spanTo (f t s : Int) (n : Nat) : Nat := mk (fun k => spanB f t s k && decide (k < n))
theorem spanTo_lt (f t s : Int) (n : Nat) : spanTo f t s n < 18446744073709551616 := mk_lt _

theorem mod_between {a b s : Int} (hs : 1 ≤ s) (ha : a % s = 0) (hb : b % s = 0) (h1 : a < b) (h2 : b < a + s) : False := by
  have h := Int.emod_emod_of_dvd (b - a) (Int.dvd_refl s)
  have h3 : (b - a) % s = 0 := by rw [Int.sub_emod, ha, hb]; simp
  have h4 : (b - a) % s = b - a := Int.emod_eq_of_lt (by omega) (by omega)
  omega

theorem spanTo_step (f t s : Int) (n : Nat) (hs : 1 ≤ s) (h64 : n < 64) (hf : f ≤ (n : Int)) (ht : (n : Int) ≤ t) (hm : ((n : Int) - f) % s = 0) (q : Nat) (hq : (q : Int) = n + s ∨ 64 ≤ q ∧ (q : Int) ≤ n + s) :
    spanTo f t s n ||| 2 ^ n = spanTo f t s q := by
  refine eq_mk (or_lt (mk_lt _) (pow_lt h64)) (fun k hk => ?_)
  rw [Nat.testBit_or, spanTo, mk_test, Nat.testBit_two_pow]
  by_cases hkn : n = k
  · subst hkn
    have : spanB f t s n = true := by simp only [spanB, decide_eq_true_eq]; exact ⟨hs, hf, ht, hm⟩
    simp [this]
    omega
  · rcases Nat.lt_or_gt_of_ne hkn with h | h
    · by_cases hb : spanB f t s k = true
      · simp only [spanB, decide_eq_true_eq] at hb
        have hbq : ¬ (k : Int) < n + s := fun h2 => mod_between hs hm hb.2.2.2 (by omega) (by omega)
        have e1 : ¬ k < n := by omega
        have e2 : ¬ k < q := by omega
        simp [hkn, e1, e2]
      · simp [hb, hkn]
    · have e1 : k < n := h
      have e2 : k < q := by omega
      simp [hkn, e1, e2, hk]

theorem spanTo_all (f t s : Int) (n : Nat) (h : 64 ≤ n ∨ t < (n : Int)) : spanTo f t s n = spanM f t s :=
  mk_congr fun k hk => by
    rcases h with h | h
    · simp [show k < n by omega]
    · by_cases hb : spanB f t s k = true
      · simp only [spanB, decide_eq_true_eq] at hb
        simp [show k < n by omega]
      · simp [hb]

/-- at the beginning: no number of the span lies below n -/
theorem spanTo_start (f t s : Int) (n : Nat) (hs : 1 ≤ s) (hm : ((n : Int) - f) % s = 0) (h : (n : Int) = f ∨ (n : Int) < s) : spanTo f t s n = 0 := by
  rw [← mk_false]
  refine mk_congr fun k hk => ?_
  by_cases hb : spanB f t s k = true
  · simp only [spanB, decide_eq_true_eq] at hb
    have : ¬ k < n := by
      intro hkn
      rcases h with h | h
      · omega
      · exact mod_between hs hb.2.2.2 hm (by omega) (by omega)
    simp [this]
  · simp [hb]

theorem span_none (f t s : Int) (h : s < 1) : spanM f t s = 0 := by
  rw [spanM, ← mk_false]
  exact mk_congr fun k _ => by simp [spanB]; omega

end Go.Proofs.YtchceegpbfecaaaDoor

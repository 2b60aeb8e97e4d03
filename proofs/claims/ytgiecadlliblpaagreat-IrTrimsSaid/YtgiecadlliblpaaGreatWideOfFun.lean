/-
  What wide.Of and feriaref04.Of compute: the set of a list.
-/
import Derived.Test.YtgiecadlliblpaaGreatWideSets
import Derived.BigRegion
namespace Go.Proofs.YtgiecadlliblpaaGreat
open Go.RowKit
set_option linter.unusedVariables false

/-- is the k-th number of word i in l? -/
def inWB (l : List Int) (i k : Nat) : Bool := decide (((64 * i + k : Nat) : Int) ∈ l) && decide (64 * i + k < 400)
def wof (l : List Int) (i : Nat) : Nat := mk (inWB l i)
theorem wof_lt (l : List Int) (i : Nat) : wof l i < 18446744073709551616 := mk_lt _
theorem wof_nil (i : Nat) : wof [] i = 0 := by rw [wof, ← mk_false]; exact mk_congr fun k _ => by simp [inWB]
theorem wof_out (l : List Int) (x : Int) (h : mayB x = false) (i : Nat) : wof (l ++ [x]) i = wof l i :=
  mk_congr fun k hk => by
    simp only [mayB, Bool.and_eq_false_iff, decide_eq_false_iff_not] at h
    rw [inWB, inWB, Bool.eq_iff_iff]
    simp only [Bool.and_eq_true, decide_eq_true_eq, List.mem_append, List.mem_singleton]
    constructor
    · rintro ⟨h1 | h1, h2⟩
      · exact ⟨h1, h2⟩
      · omega
    · rintro ⟨h1, h2⟩; exact ⟨.inl h1, h2⟩
theorem wof_in (l : List Int) (n : Nat) (h : n < 400) : wof l (n / 64) ||| 2 ^ (n % 64) = wof (l ++ [(n : Int)]) (n / 64) := by
  refine eq_mk (or_lt (mk_lt _) (pow_lt (by omega))) (fun i hi => ?_)
  rw [Nat.testBit_or, wof, mk_test, Nat.testBit_two_pow, inWB, inWB, Bool.eq_iff_iff]
  simp only [Bool.or_eq_true, Bool.and_eq_true, decide_eq_true_eq, List.mem_append, List.mem_singleton]
  constructor
  · rintro (⟨_, h1, h2⟩ | h1)
    · exact ⟨.inl h1, h2⟩
    · exact ⟨.inr (by omega), by omega⟩
  · rintro ⟨h1 | h1, h2⟩
    · exact .inl ⟨hi, h1, h2⟩
    · exact .inr (by omega)
theorem wof_other (l : List Int) (n i : Nat) (h : i ≠ n / 64) : wof (l ++ [(n : Int)]) i = wof l i :=
  mk_congr fun k hk => by
    rw [inWB, inWB, Bool.eq_iff_iff]
    simp only [Bool.and_eq_true, decide_eq_true_eq, List.mem_append, List.mem_singleton]
    constructor
    · rintro ⟨h1 | h1, h2⟩
      · exact ⟨h1, h2⟩
      · omega
    · rintro ⟨h1, h2⟩; exact ⟨.inl h1, h2⟩

end Go.Proofs.YtgiecadlliblpaaGreat

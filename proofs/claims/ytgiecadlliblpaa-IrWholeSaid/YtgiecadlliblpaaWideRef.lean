/-
  What feriaref04.Of computes: the set of a list.
-/
import Derived.Test.YtgiecadlliblpaaWideOfFun
namespace Go.Proofs.Ytgiecadlliblpaa
open Go.RowKit
set_option linter.unusedVariables false

def inL (l : List Int) (j : Nat) : Bool := decide ((j : Int) ∈ l) && decide (j < 400)
theorem inL_in (l : List Int) (n j : Nat) (h : n < 400) : inL (l ++ [(n : Int)]) j = if j = n then true else inL l j := by
  rw [inL, inL, Bool.eq_iff_iff]
  split
  · simp; omega
  · rename_i h
    simp only [Bool.and_eq_true, decide_eq_true_eq, List.mem_append, List.mem_singleton]
    constructor
    · rintro ⟨h1 | h1, h2⟩
      · exact ⟨h1, h2⟩
      · omega
    · rintro ⟨h1, h2⟩; exact ⟨.inl h1, h2⟩
theorem inL_out (l : List Int) (x : Int) (h : mayB x = false) (j : Nat) : inL (l ++ [x]) j = inL l j := by
  simp only [mayB, Bool.and_eq_false_iff, decide_eq_false_iff_not] at h
  rw [inL, inL, Bool.eq_iff_iff]
  simp only [Bool.and_eq_true, decide_eq_true_eq, List.mem_append, List.mem_singleton]
  constructor
  · rintro ⟨h1 | h1, h2⟩
    · exact ⟨h1, h2⟩
    · omega
  · rintro ⟨h1, h2⟩; exact ⟨.inl h1, h2⟩
/-- the bools of a list, in a block -/
def InC (W : World) (b : Nat) (l : List Int) : Prop := ∀ j, j < 448 → W.cell? ⟨b, j, none⟩ = some (.bool (inL l j))

theorem InC.below {W W' : World} {b B : Nat} {l : List Int} (h : InC W b l) (hb : Below B W W') (hB : b < B) : InC W' b l := fun j hj => (hb.cell (p := ⟨b, j, none⟩) hB).trans (h j hj)
/-- the words of the set, word i begun -/
def wpre (l : List Int) (i n : Nat) (j : Nat) : Nat := if j = i then upM (inWB l i) n else if j < i then wof l j else 0

end Go.Proofs.Ytgiecadlliblpaa

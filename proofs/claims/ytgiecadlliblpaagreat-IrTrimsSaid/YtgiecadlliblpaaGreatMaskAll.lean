/-
  mask.All makes a function that has captured the box of what is in all of the masks.
-/
import Derived.Test.YtgiecadlliblpaaGreatMaskNextLaw
import Derived.Test.YtgiecadlliblpaaGreatOpen
namespace Go.Proofs.YtgiecadlliblpaaGreat
open Go.RowKit
set_option linter.unusedVariables false

theorem u64s_length (l : List Nat) : (u64s l).length = l.length := by simp [u64s]
theorem Sl.atU64 {w : World} {a : Option Addr} {l : List Nat} (h : Sl w a (u64s l)) {k : Nat} (hk : k < l.length) :
    ∃ b off, a = some ⟨b, off, none⟩ ∧ b < w.heap.size ∧ ∀ j (h : j < l.length), w.cell? ⟨b, off + j, none⟩ = some (.int .u64 l[j]) := by
  obtain ⟨b, off, rfl, hlt, hc⟩ := Sl.at h (k := k) (by rw [u64s_length]; exact hk)
  refine ⟨b, off, rfl, hlt, fun j hj => ?_⟩
  rw [hc j (by rw [u64s_length]; exact hj)]
  simp [u64s]

/-- the numbers that are in all of l, of those of m -/
def foldM (m : Nat) (l : List Nat) : Nat := l.foldl (fun x y => x &&& y) m
def andM (l : List Nat) : Nat := if l.length = 0 then 0 else foldM 18446744073709551615 l
theorem foldM_lt {m : Nat} (hm : m < 18446744073709551616) : ∀ l : List Nat, foldM m l < 18446744073709551616 := by
  intro l
  induction l generalizing m with
  | nil => exact hm
  | cons x xs ih => exact ih (and_lt (b := x) hm)
theorem foldM_snoc (m : Nat) (l : List Nat) (k : Nat) (hk : k < l.length) : foldM m (l.take k) &&& l[k] = foldM m (l.take (k + 1)) := by
  rw [List.take_add_one, List.getElem?_eq_getElem hk, foldM, foldM, List.foldl_append]; rfl
theorem foldM_test (l : List Nat) (i : Nat) : ∀ m, (foldM m l).testBit i = (m.testBit i && l.all (fun x => x.testBit i)) := by
  induction l with
  | nil => intro m; simp [foldM]
  | cons x xs ih =>
    intro m
    show (foldM (m &&& x) xs).testBit i = _
    rw [ih, Nat.testBit_and, List.all_cons, Bool.and_assoc]
theorem ones_test (i : Nat) : (18446744073709551615 : Nat).testBit i = decide (i < 64) := by
  rw [show (18446744073709551615 : Nat) = 2 ^ 64 - 1 from rfl, Nat.testBit_two_pow_sub_one]

end Go.Proofs.YtgiecadlliblpaaGreat

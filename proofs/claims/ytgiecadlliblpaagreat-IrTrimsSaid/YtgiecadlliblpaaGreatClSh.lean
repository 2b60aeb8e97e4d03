/-
  A day's shape, number by number; what an Ord says of it.
-/
import Derived.Test.YtgiecadlliblpaaGreatClMayFn
import Derived.Test.YtgiecadlliblpaaGreatCivShape
namespace Go.Proofs.YtgiecadlliblpaaGreat
open Go.RowKit
set_option linter.unusedVariables false

def shq (s : Nat → Int) : Value := .agg #[.int .i64 (s 0), .int .i64 (s 1), .int .i64 (s 2), .int .i64 (s 3), .int .i64 (s 4), .int .i64 (s 5), .int .i64 (s 6), .int .i64 (s 7), .int .i64 (s 8), .int .i64 (s 9)]
def nthN (oin : Int) (oback : Bool) (s : Nat → Int) : Int := if oin = 1 then (if oback then s 7 else s 6) else (if oback then s 9 else s 8)
def nthB (oin : Int) (oback : Bool) (od : Nat → Nat) (s : Nat → Int) : Bool := if oin = 0 then true else hasB (od (s 5).toNat) (nthN oin oback s)

abbrev ShS (W : World) (b : Nat) (s : Nat → Int) : Prop := ShC W b (s 0) (s 1) (s 2) (s 3) (s 4) (s 5) (s 6) (s 7) (s 8) (s 9)
abbrev shList (s : Nat → Int) : List Value := [.int .i64 (s 0), .int .i64 (s 1), .int .i64 (s 2), .int .i64 (s 3), .int .i64 (s 4), .int .i64 (s 5), .int .i64 (s 6), .int .i64 (s 7), .int .i64 (s 8), .int .i64 (s 9)]
/-- the shape of a day, number by number -/
def shF (n : Int) (i : Nat) : Int := match i with
  | 0 => n | 1 => fY n | 2 => fMo n | 3 => fD n | 4 => lenI (fY n) (fMo n) - fD n + 1 | 5 => (n % 7 + 3) % 7 + 1 | 6 => (fD n - 1) / 7 + 1 | 7 => (lenI (fY n) (fMo n) - fD n) / 7 + 1 | 8 => (fOr n - 1) / 7 + 1 | _ => (365 + leapI (fY n) - fOr n) / 7 + 1
theorem shq_shF (n : Int) : shq (shF n) = shN n := rfl
theorem shF_wk (n : Int) : 1 ≤ shF n 5 ∧ shF n 5 ≤ 7 := by show 1 ≤ (n % 7 + 3) % 7 + 1 ∧ (n % 7 + 3) % 7 + 1 ≤ 7; omega
theorem shF_yr {n : Int} (h0 : 0 ≤ n) (h1 : n < 146097) : 0 ≤ shF n 1 ∧ shF n 1 < 100000 := by
  have := fDate_year h0 h1
  show 0 ≤ fY n ∧ fY n < 100000
  omega
end Go.Proofs.YtgiecadlliblpaaGreat

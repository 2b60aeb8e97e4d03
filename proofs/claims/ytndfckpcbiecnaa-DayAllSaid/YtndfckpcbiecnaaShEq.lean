/-
  Shapes that are the same; the bounds of a day's shape.
-/
import Derived.Test.YtndfckpcbiecnaaClSh
import Derived.Test.YtndfckpcbiecnaaClMays
namespace Go.Proofs.Ytndfckpcbiecnaa
open Go.RowKit
set_option linter.unusedVariables false

/-! ### shapes that are the same -/
theorem cellsSh : Try.prog.cellsOf 60 = 10 := by kernel_rfl
theorem keySh : Try.prog.keyTypeAt 3 60 = true := by kernel_rfl
theorem formSh (s : Nat → Int) : (shq s).formed Try.prog 60 = true := by
  unfold Value.formed; simp only [Try.underlying60, cellsSh]; rfl
theorem lits_sh (d : Nat) (s : Nat → Int) (h : ∀ i, i64B (s i)) : Try.prog.keyLits (d + 2) 60 (shList s) = some [.int .i64 (s 0), .int .i64 (s 1), .int .i64 (s 2), .int .i64 (s 3), .int .i64 (s 4), .int .i64 (s 5), .int .i64 (s 6), .int .i64 (s 7), .int .i64 (s 8), .int .i64 (s 9)] := by
  unfold Program.keyLits
  simp only [Try.underlying60]
  simp [cellsI, cellsSh, lits_i, h]
def eqlShS (a b : Value) : Sem Value := binOp .eql 60 a b
theorem eql_shS (a b : Value) : binOp .eql 60 a b = eqlShS a b := rfl
def neqShS (a b : Value) : Sem Value := binOp .neq 60 a b
theorem neq_shS (a b : Value) : binOp .neq 60 a b = neqShS a b := rfl
theorem eqIn_sh (s : Nat → Int) (w : World) (h : ∀ i, i64B (s i)) : (Op.equalIn 10000 60 (shq s) (shq s)).run Try.prog w = .ok true w := by
  obtain ⟨r, hr, hi⟩ := run_equalIn_deep 9997 3 60 keySh w 3 3 _ _ _ _ (formSh s) (formSh s) (lits_sh 1 s h) (lits_sh 1 s h)
  have e : r = true := hi.2 rfl
  rw [e] at hr
  exact hr
theorem eqlSh_run (s : Nat → Int) (w : World) (h : ∀ i, i64B (s i)) : (eqlShS (shq s) (shq s)).run Try.prog w = .ok (.bool true) w := by
  rw [eqlShS, shq, run_eql_struct]
  have := eqIn_sh s w h
  rw [shq] at this
  rw [this]; rfl
theorem neqSh_run (s : Nat → Int) (w : World) (h : ∀ i, i64B (s i)) : (neqShS (shq s) (shq s)).run Try.prog w = .ok (.bool false) w := by
  rw [neqShS, shq, run_neq_struct]
  have := eqIn_sh s w h
  rw [shq] at this
  rw [this]; rfl
theorem shF_bnd {n : Int} (h0 : 0 ≤ n) (h1 : n < 146097) (i : Nat) : i64B (shF n i) := by
  obtain ⟨y0, y1, m0, m1, d0, d1⟩ := fDate_year h0 h1
  obtain ⟨-, g2, g3⟩ := fOr_ms h0 h1
  obtain ⟨l0, l1⟩ := lenI_bd (fY n) (fMo n)
  have lp := leapI_bd (fY n)
  unfold i64B
  match i with
  | 0 => show _ ≤ n ∧ n ≤ _; omega
  | 1 => show _ ≤ fY n ∧ fY n ≤ _; omega
  | 2 => show _ ≤ fMo n ∧ fMo n ≤ _; omega
  | 3 => show _ ≤ fD n ∧ fD n ≤ _; omega
  | 4 => show _ ≤ lenI (fY n) (fMo n) - fD n + 1 ∧ lenI (fY n) (fMo n) - fD n + 1 ≤ _; omega
  | 5 => show _ ≤ (n % 7 + 3) % 7 + 1 ∧ (n % 7 + 3) % 7 + 1 ≤ _; omega
  | 6 => show _ ≤ (fD n - 1) / 7 + 1 ∧ (fD n - 1) / 7 + 1 ≤ _; omega
  | 7 => show _ ≤ (lenI (fY n) (fMo n) - fD n) / 7 + 1 ∧ (lenI (fY n) (fMo n) - fD n) / 7 + 1 ≤ _; omega
  | 8 => show _ ≤ (fOr n - 1) / 7 + 1 ∧ (fOr n - 1) / 7 + 1 ≤ _; omega
  | _ + 9 => show _ ≤ (365 + leapI (fY n) - fOr n) / 7 + 1 ∧ (365 + leapI (fY n) - fOr n) / 7 + 1 ≤ _; omega

end Go.Proofs.Ytndfckpcbiecnaa

/-
  Lists of sets of seven words that came in, as a row hands them over.
-/
import Derived.Test.YtdggflkkojmabaaDoorLaidW
import Derived.Test.YtdggflkkojmabaaDoorWideBothFun
namespace Go.Proofs.YtdggflkkojmabaaDoor
open Go.ChangeShapes Go.WideShapes Go.ChangeAt Go.RowKit
set_option linter.unusedVariables false

theorem leafW : leaves Tryd.prog 4 70 = some [.int .u64, .int .u64, .int .u64, .int .u64, .int .u64, .int .u64, .int .u64] := by kernel_rfl
theorem cellsW : Tryd.prog.cellsOf 70 = 7 := by kernel_rfl
theorem oks_sets : ∀ {n : Nat} {cells : List Value}, cells.length = n * 7 → (∀ i, i < n → oks [.int .u64, .int .u64, .int .u64, .int .u64, .int .u64, .int .u64, .int .u64] ((cells.drop (i * 7)).take 7)) →
    ∃ L : List (Nat → Nat), cells = sets L ∧ L.length = n ∧ ∀ s ∈ L, ∀ i, i < 7 → s i < 18446744073709551616
  | 0, cells, h, _ => ⟨[], List.eq_nil_of_length_eq_zero (by simpa using h), rfl, by simp⟩
  | n + 1, cells, h, hk => by
    obtain ⟨L, e, hl, hb⟩ := oks_sets (n := n) (cells := cells.drop 7) (by simp; omega) (fun i hi => by
      have := hk (i + 1) (by omega)
      rw [List.drop_drop, show 7 + i * 7 = (i + 1) * 7 by omega]
      exact this)
    have h0 := hk 0 (by omega)
    rw [Nat.zero_mul, List.drop_zero] at h0
    obtain ⟨s, e0, hs⟩ := oks_wv h0
    refine ⟨s :: L, ?_, by simp [hl], fun t ht => ?_⟩
    · rw [show sets (s :: L) = set7 s ++ sets L by simp [sets], ← e]
      rw [show set7 s = cells.take 7 from e0.symm, List.take_append_drop]
    · rcases List.mem_cons.1 ht with rfl | ht
      · exact hs
      · exact hb t ht

theorem open_arr7s' {H : Type} {enc : TypeId × Value → H} {W : World} {a : Option Addr} {len cap : Nat} {d : DataW H} {p : List MemPlace} (h : DataW.Trod enc Tryd.prog W 0 (fun _ => true) true 88 (.slice a len cap) d p) :
    ∃ l : List (Nat → Nat), len = l.length ∧ l.length ≤ cap ∧ cap ≤ maxLen ∧ Sl W a (sets l) ∧ (a = none → cap = 0) ∧ ∀ s ∈ l, ∀ i, i < 7 → s i < 18446744073709551616 := by
  obtain ⟨fuel, hf⟩ := h
  obtain ⟨a', n, cap', cells, e, h1, h2, h3, h4, h6, h5⟩ := open_flat Tryd.underlying88 leafW cellsW.symm (by decide) (v := .slice a len cap) (by simpa [Value.cells] using hf)
  cases e
  obtain ⟨l, rfl, hll, hw⟩ := oks_sets h3 h5
  subst hll
  exact ⟨l, rfl, h1, h2, h4, h6, hw⟩
end Go.Proofs.YtdggflkkojmabaaDoor

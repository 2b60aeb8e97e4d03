/-
  Lists of uint64 that came in, as a row hands them over.
-/
import Derived.Test.YtdggflkkojmabaaDoorLaid
import Derived.Test.YtdggflkkojmabaaDoorMaskAll
namespace Go.Proofs.YtdggflkkojmabaaDoor
open Go.ChangeShapes Go.WideShapes Go.ChangeAt Go.RowKit
set_option linter.unusedVariables false

theorem oks_u64l : ∀ {cells : List Value} {n : Nat}, cells.length = n * 1 → (∀ i, i < n → oks [.int .u64] ((cells.drop (i * 1)).take 1)) → ∃ l : List Nat, cells = u64s l ∧ l.length = n ∧ ∀ x ∈ l, x < 18446744073709551616
  | [], n, h, _ => ⟨[], rfl, by simp at h; simp [h], by simp⟩
  | v :: cells, 0, h, _ => by simp at h
  | v :: cells, n + 1, h, hk => by
    obtain ⟨l, e, hl, hb⟩ := oks_u64l (cells := cells) (n := n) (by simp at h ⊢; omega) (fun i hi => by have := hk (i + 1) (by omega); simpa using this)
    have h0 := hk 0 (by omega)
    simp at h0
    obtain ⟨⟨y, rfl, hw⟩, _⟩ := h0
    obtain ⟨x, rfl, hx⟩ := wf_u64 hw
    exact ⟨x :: l, by rw [e]; rfl, by simp [hl], fun y hy => by
      rcases List.mem_cons.1 hy with rfl | hy
      · exact hx
      · exact hb y hy⟩

theorem open_u64s' {H : Type} {enc : TypeId × Value → H} {W : World} {a : Option Addr} {len cap : Nat} {d : DataW H} {p : List MemPlace} (h : DataW.Trod enc Tryd.prog W 0 (fun _ => true) true 31 (.slice a len cap) d p) :
    ∃ l : List Nat, len = l.length ∧ l.length ≤ cap ∧ cap ≤ maxLen ∧ Sl W a (u64s l) ∧ (a = none → cap = 0) ∧ ∀ x ∈ l, x < 18446744073709551616 := by
  obtain ⟨fuel, hf⟩ := h
  obtain ⟨a', n, cap', cells, e, h1, h2, h3, h4, h6, h5⟩ := open_flat Tryd.underlying31 leafU64 cellsU64.symm (by decide) (v := .slice a len cap) (by simpa [Value.cells] using hf)
  cases e
  obtain ⟨l, rfl, hll, hw⟩ := oks_u64l h3 h5
  subst hll
  exact ⟨l, rfl, h1, h2, h4, h6, hw⟩
end Go.Proofs.YtdggflkkojmabaaDoor

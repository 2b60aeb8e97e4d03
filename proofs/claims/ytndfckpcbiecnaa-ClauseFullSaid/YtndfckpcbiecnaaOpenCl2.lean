/-
  Two numbers, and a list of clauses, that are handed in.
-/
import Derived.Test.YtndfckpcbiecnaaOpenCl
namespace Go.Proofs.Ytndfckpcbiecnaa
open Go.ChangeShapes Go.WideShapes Go.ChangeAt Go.RowKit
set_option linter.unusedVariables false

theorem oks_two {k k' : IntKind} {cs : List Value} (h : oks [.int k, .int k'] cs) : ∃ x y : Int, cs = [.int k x, .int k' y] ∧ (Lit.int k x).wf = true ∧ (Lit.int k' y).wf = true := by
  obtain ⟨_, _, rfl, ⟨x, rfl, g1⟩, h1⟩ := oks_cons h
  obtain ⟨_, _, rfl, ⟨y, rfl, g2⟩, h2⟩ := oks_cons h1
  obtain rfl := oks_nil h2
  exact ⟨x, y, rfl, g1, g2⟩
/-- the cells of clauses -/
def cls (l : List Cl) : List Value := l.flatMap clList
theorem cls_length (l : List Cl) : (cls l).length = l.length * 30 := by
  induction l with
  | nil => rfl
  | cons c l ih =>
    rw [show cls (c :: l) = clList c ++ cls l by simp [cls], List.length_append, ih]
    simp only [List.length_cons, List.length_nil]
    omega
theorem oks_cls : ∀ {cells : List Value} {n : Nat}, cells.length = n * 30 → (∀ i, i < n → oks kindsCl ((cells.drop (i * 30)).take 30)) → ∃ l : List Cl, cells = cls l ∧ l.length = n ∧ ∀ c ∈ l, c.Ok
  | cells, 0, h, _ => ⟨[], by cases cells; rfl; simp at h, rfl, by simp⟩
  | cells, n + 1, h, hk => by
    obtain ⟨l, e, hl, hb⟩ := oks_cls (cells := cells.drop 30) (n := n) (by simp; omega) (fun i hi => by
      have := hk (i + 1) (by omega)
      rw [List.drop_drop]
      rwa [show 30 + i * 30 = (i + 1) * 30 by omega])
    have h0 := hk 0 (by omega)
    rw [Nat.zero_mul, List.drop_zero] at h0
    obtain ⟨c, ec, hc⟩ := oks_cl h0
    refine ⟨c :: l, ?_, by simp [hl], fun y hy => ?_⟩
    · rw [show cls (c :: l) = clList c ++ cls l by simp [cls], ← e, ← ec, List.take_append_drop]
    · rcases List.mem_cons.1 hy with rfl | hy
      · exact hc
      · exact hb y hy
theorem cellsCl30 : Try.prog.cellsOf 28 = 30 := by kernel_rfl
theorem open_cls {H : Type} {enc : TypeId × Value → H} {W : World} {a : Option Addr} {len cap : Nat} {d : DataW H} {p : List MemPlace} (h : DataW.Trod enc Try.prog W 0 (fun _ => true) true 73 (.slice a len cap) d p) :
    ∃ l : List Cl, len = l.length ∧ l.length ≤ cap ∧ cap ≤ maxLen ∧ Sl W a (cls l) ∧ (a = none → cap = 0) ∧ ∀ c ∈ l, c.Ok := by
  obtain ⟨fuel, hf⟩ := h
  obtain ⟨a', n, cap', cells, e, h1, h2, h3, h4, h6, h5⟩ := open_flat Try.underlying73 leafCl cellsCl30.symm (by decide) (v := .slice a len cap) (by simpa [Value.cells] using hf)
  cases e
  obtain ⟨l, rfl, hll, hw⟩ := oks_cls h3 h5
  subst hll
  exact ⟨l, rfl, h1, h2, h4, h6, hw⟩
end Go.Proofs.Ytndfckpcbiecnaa

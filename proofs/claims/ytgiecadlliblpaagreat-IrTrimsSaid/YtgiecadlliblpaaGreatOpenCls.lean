/-
  A clause that is handed in: its thirty cells.
  Two numbers, and a list of clauses, that are handed in.
-/
import Derived.Test.YtgiecadlliblpaaGreatOpen
import Derived.Test.YtgiecadlliblpaaGreatClMays
namespace Go.Proofs.YtgiecadlliblpaaGreat
open Go.ChangeShapes Go.WideShapes Go.ChangeAt Go.RowKit
set_option linter.unusedVariables false

def of7c (x0 x1 x2 x3 x4 x5 x6 : Nat) (i : Nat) : Nat := match i with | 0 => x0 | 1 => x1 | 2 => x2 | 3 => x3 | 4 => x4 | 5 => x5 | _ => x6
def of8c (x0 x1 x2 x3 x4 x5 x6 x7 : Nat) (i : Nat) : Nat := match i with | 0 => x0 | 1 => x1 | 2 => x2 | 3 => x3 | 4 => x4 | 5 => x5 | 6 => x6 | _ => x7
theorem oks_split : ∀ (a b : List Leaf) {cs : List Value}, oks (a ++ b) cs → ∃ ca cb, cs = ca ++ cb ∧ oks a ca ∧ oks b cb
  | [], b, cs, h => ⟨[], cs, rfl, trivial, h⟩
  | k :: a, b, [], h => h.elim
  | k :: a, b, v :: cs, h => by
    obtain ⟨ca, cb, e, h1, h2⟩ := oks_split a b h.2
    exact ⟨v :: ca, cb, by rw [e]; rfl, ⟨h.1, h1⟩, h2⟩
theorem oks_u7 : ∀ {cs : List Value}, oks [.int .u64, .int .u64, .int .u64, .int .u64, .int .u64, .int .u64, .int .u64] cs → ∃ s : Nat → Nat, cs = [.int .u64 (s 0 : Nat), .int .u64 (s 1 : Nat), .int .u64 (s 2 : Nat), .int .u64 (s 3 : Nat), .int .u64 (s 4 : Nat), .int .u64 (s 5 : Nat), .int .u64 (s 6 : Nat)] ∧ ∀ i, i < 7 → s i < 18446744073709551616
  | [_, _, _, _, _, _, _], ⟨⟨y0, rfl, h0⟩, ⟨y1, rfl, h1⟩, ⟨y2, rfl, h2⟩, ⟨y3, rfl, h3⟩, ⟨y4, rfl, h4⟩, ⟨y5, rfl, h5⟩, ⟨y6, rfl, h6⟩, _⟩ => by
    obtain ⟨x0, rfl, g0⟩ := wf_u64 h0
    obtain ⟨x1, rfl, g1⟩ := wf_u64 h1
    obtain ⟨x2, rfl, g2⟩ := wf_u64 h2
    obtain ⟨x3, rfl, g3⟩ := wf_u64 h3
    obtain ⟨x4, rfl, g4⟩ := wf_u64 h4
    obtain ⟨x5, rfl, g5⟩ := wf_u64 h5
    obtain ⟨x6, rfl, g6⟩ := wf_u64 h6
    refine ⟨of7c x0 x1 x2 x3 x4 x5 x6, rfl, fun i hi => ?_⟩
    rcases seven hi with rfl | rfl | rfl | rfl | rfl | rfl | rfl
    · exact g0
    · exact g1
    · exact g2
    · exact g3
    · exact g4
    · exact g5
    · exact g6
theorem oks_u8 : ∀ {cs : List Value}, oks [.int .u64, .int .u64, .int .u64, .int .u64, .int .u64, .int .u64, .int .u64, .int .u64] cs → ∃ s : Nat → Nat, cs = [.int .u64 (s 0 : Nat), .int .u64 (s 1 : Nat), .int .u64 (s 2 : Nat), .int .u64 (s 3 : Nat), .int .u64 (s 4 : Nat), .int .u64 (s 5 : Nat), .int .u64 (s 6 : Nat), .int .u64 (s 7 : Nat)] ∧ ∀ i, i < 8 → s i < 18446744073709551616
  | [_, _, _, _, _, _, _, _], ⟨⟨y0, rfl, h0⟩, ⟨y1, rfl, h1⟩, ⟨y2, rfl, h2⟩, ⟨y3, rfl, h3⟩, ⟨y4, rfl, h4⟩, ⟨y5, rfl, h5⟩, ⟨y6, rfl, h6⟩, ⟨y7, rfl, h7⟩, _⟩ => by
    obtain ⟨x0, rfl, g0⟩ := wf_u64 h0
    obtain ⟨x1, rfl, g1⟩ := wf_u64 h1
    obtain ⟨x2, rfl, g2⟩ := wf_u64 h2
    obtain ⟨x3, rfl, g3⟩ := wf_u64 h3
    obtain ⟨x4, rfl, g4⟩ := wf_u64 h4
    obtain ⟨x5, rfl, g5⟩ := wf_u64 h5
    obtain ⟨x6, rfl, g6⟩ := wf_u64 h6
    obtain ⟨x7, rfl, g7⟩ := wf_u64 h7
    refine ⟨of8c x0 x1 x2 x3 x4 x5 x6 x7, rfl, fun i hi => ?_⟩
    rcases eight hi with rfl | rfl | rfl | rfl | rfl | rfl | rfl | rfl
    · exact g0
    · exact g1
    · exact g2
    · exact g3
    · exact g4
    · exact g5
    · exact g6
    · exact g7
theorem oks_cons {k : Leaf} {ks : List Leaf} : ∀ {cs : List Value}, oks (k :: ks) cs → ∃ v vs, cs = v :: vs ∧ k.ok v ∧ oks ks vs
  | [], h => h.elim
  | v :: vs, h => ⟨v, vs, rfl, h.1, h.2⟩
theorem oks_nil : ∀ {cs : List Value}, oks [] cs → cs = []
  | [], _ => rfl
  | _ :: _, h => h.elim
theorem ok_i {v : Value} (h : Leaf.ok (.int .i64) v) : ∃ n, v = .int .i64 n ∧ i64B n := by
  obtain ⟨n, e, h⟩ := h
  exact ⟨n, e, wf_i64 h⟩
theorem oks_i5 {cs : List Value} (h : oks [.int .i64, .int .i64, .int .i64, .int .i64, .int .i64] cs) : ∃ a b c d e : Int, cs = [.int .i64 a, .int .i64 b, .int .i64 c, .int .i64 d, .int .i64 e] ∧ i64B a ∧ i64B b ∧ i64B c ∧ i64B d ∧ i64B e := by
  obtain ⟨_, _, rfl, k0, h⟩ := oks_cons h
  obtain ⟨_, _, rfl, k1, h⟩ := oks_cons h
  obtain ⟨_, _, rfl, k2, h⟩ := oks_cons h
  obtain ⟨_, _, rfl, k3, h⟩ := oks_cons h
  obtain ⟨_, _, rfl, k4, h⟩ := oks_cons h
  obtain rfl := oks_nil h
  obtain ⟨a, rfl, g0⟩ := ok_i k0
  obtain ⟨b, rfl, g1⟩ := ok_i k1
  obtain ⟨c, rfl, g2⟩ := ok_i k2
  obtain ⟨d, rfl, g3⟩ := ok_i k3
  obtain ⟨e, rfl, g4⟩ := ok_i k4
  exact ⟨a, b, c, d, e, rfl, g0, g1, g2, g3, g4⟩
theorem oks_bib {cs : List Value} (h : oks [.bool, .int .i64, .bool] cs) : ∃ (a : Bool) (n : Int) (b : Bool), cs = [.bool a, .int .i64 n, .bool b] ∧ i64B n := by
  obtain ⟨_, _, rfl, ⟨a, rfl⟩, h1⟩ := oks_cons h
  obtain ⟨_, _, rfl, k1, h2⟩ := oks_cons h1
  obtain ⟨_, _, rfl, ⟨b, rfl⟩, h3⟩ := oks_cons h2
  obtain rfl := oks_nil h3
  obtain ⟨n, rfl, g⟩ := ok_i k1
  exact ⟨a, n, b, rfl, g⟩
abbrev kindsCl : List Leaf := [.int .u64, .int .u64, .int .u64, .int .u64, .int .u64, .int .u64, .int .u64] ++ ([.bool, .int .i64, .bool] ++ ([.int .u64, .int .u64, .int .u64, .int .u64, .int .u64, .int .u64, .int .u64, .int .u64] ++ ([.int .u64, .int .u64, .int .u64, .int .u64, .int .u64, .int .u64, .int .u64] ++ [.int .i64, .int .i64, .int .i64, .int .i64, .int .i64])))
theorem leafCl : leaves Tryz.prog 6 40 = some kindsCl := by kernel_rfl
theorem oks_cl {cs : List Value} (h : oks kindsCl cs) : ∃ c : Cl, cs = clList c ∧ c.Ok := by
  obtain ⟨c1, r1, rfl, h1, h⟩ := oks_split _ _ h
  obtain ⟨c2, r2, rfl, h2, h⟩ := oks_split _ _ h
  obtain ⟨c3, r3, rfl, h3, h⟩ := oks_split _ _ h
  obtain ⟨c4, r4, rfl, h4, h5⟩ := oks_split _ _ h
  obtain ⟨m, rfl, g1⟩ := oks_u7 h1
  obtain ⟨o, n, b, rfl, g2⟩ := oks_bib h2
  obtain ⟨d, rfl, g3⟩ := oks_u8 h3
  obtain ⟨y, rfl, g4⟩ := oks_u7 h4
  obtain ⟨u, s, a, f, t, rfl, g5, g6, g7, g8, g9⟩ := oks_i5 h5
  exact ⟨{ m := m, or := o, oin := n, oback := b, od := d, ys := y, unit := u, step := s, anchor := a, fr := f, un := t }, rfl, ⟨g1, g3, g4, g2, g5, g6, g7, g8, g9⟩⟩
end Go.Proofs.YtgiecadlliblpaaGreat
namespace Go.Proofs.YtgiecadlliblpaaGreat
open Go.ChangeShapes Go.WideShapes Go.ChangeAt Go.RowKit
set_option linter.unusedVariables false

theorem oks_two {k k' : IntKind} {cs : List Value} (h : oks [.int k, .int k'] cs) : ∃ x y : Int, cs = [.int k x, .int k' y] ∧ (Lit.int k x).wf = true ∧ (Lit.int k' y).wf = true := by
  obtain ⟨_, _, rfl, ⟨x, rfl, g1⟩, h1⟩ := oks_cons h
  obtain ⟨_, _, rfl, ⟨y, rfl, g2⟩, h2⟩ := oks_cons h1
  obtain rfl := oks_nil h2
  exact ⟨x, y, rfl, g1, g2⟩
/-- the cells of clauses -/
def cls (l : List Cl) : List Value := l.flatMap clList
theorem cls_length (l : List Cl) : (cls l).length = l.length * 30 := by
  induction l with
  | nil => rfl
  | cons c l ih =>
    rw [show cls (c :: l) = clList c ++ cls l by simp [cls], List.length_append, ih]
    simp only [List.length_cons, List.length_nil]
    omega
theorem oks_cls : ∀ {cells : List Value} {n : Nat}, cells.length = n * 30 → (∀ i, i < n → oks kindsCl ((cells.drop (i * 30)).take 30)) → ∃ l : List Cl, cells = cls l ∧ l.length = n ∧ ∀ c ∈ l, c.Ok
  | cells, 0, h, _ => ⟨[], by cases cells; rfl; simp at h, rfl, by simp⟩
  | cells, n + 1, h, hk => by
    obtain ⟨l, e, hl, hb⟩ := oks_cls (cells := cells.drop 30) (n := n) (by simp; omega) (fun i hi => by
      have := hk (i + 1) (by omega)
      rw [List.drop_drop]
      rwa [show 30 + i * 30 = (i + 1) * 30 by omega])
    have h0 := hk 0 (by omega)
    rw [Nat.zero_mul, List.drop_zero] at h0
    obtain ⟨c, ec, hc⟩ := oks_cl h0
    refine ⟨c :: l, ?_, by simp [hl], fun y hy => ?_⟩
    · rw [show cls (c :: l) = clList c ++ cls l by simp [cls], ← e, ← ec, List.take_append_drop]
    · rcases List.mem_cons.1 hy with rfl | hy
      · exact hc
      · exact hb y hy
theorem cellsCl30 : Tryz.prog.cellsOf 40 = 30 := by kernel_rfl
theorem open_cls {H : Type} {enc : TypeId × Value → H} {W : World} {a : Option Addr} {len cap : Nat} {d : DataW H} {p : List MemPlace} (h : DataW.Trod enc Tryz.prog W 0 (fun _ => true) true 22 (.slice a len cap) d p) :
    ∃ l : List Cl, len = l.length ∧ l.length ≤ cap ∧ cap ≤ maxLen ∧ Sl W a (cls l) ∧ (a = none → cap = 0) ∧ ∀ c ∈ l, c.Ok := by
  obtain ⟨fuel, hf⟩ := h
  obtain ⟨a', n, cap', cells, e, h1, h2, h3, h4, h6, h5⟩ := open_flat Tryz.underlying22 leafCl cellsCl30.symm (by decide) (v := .slice a len cap) (by simpa [Value.cells] using hf)
  cases e
  obtain ⟨l, rfl, hll, hw⟩ := oks_cls h3 h5
  subst hll
  exact ⟨l, rfl, h1, h2, h4, h6, hw⟩
end Go.Proofs.YtgiecadlliblpaaGreat

/-
  A clause that is handed in: its thirty cells.
  Two numbers, and a list of clauses, that are handed in.
  The function of clause.Days, as long as its blocks stand.
  A clause in a list of clauses.
  math/bits.Mul64, num.size, num.Times, num.Mod, num.Gcd.
  moment.Join, span.Day; unit.Phase.
  What lap.Laps' texts use: a state, four cells of a block, boxes.
  lap.plain: the disc of all seconds of a state, whatever their phase.
-/
import Derived.Test.YtcbanlgnanihhaaGreatDoorQ36c6cd
import Derived.Test.YtcbanlgnanihhaaGreatDoorQfe223e
import Derived.Test.YtcbanlgnanihhaaGreatDoorQd180c5
import Derived.Deep.Heap
import Derived.Lib.Mul64
import Derived.BigQuiet
import Derived.Test.YtcbanlgnanihhaaGreatDoorQfc9a4f
import Derived.Test.YtcbanlgnanihhaaGreatDoorQ9fb666
import Derived.Deep.RegionHeld3
import Derived.Test.YtcbanlgnanihhaaGreatDoorQ80a1db
namespace Go.Proofs.YtcbanlgnanihhaaGreatDoor
open Go.ChangeShapes Go.WideShapes Go.ChangeAt Go.RowKit
set_option linter.unusedVariables false

def of7c (x0 x1 x2 x3 x4 x5 x6 : Nat) (i : Nat) : Nat := match i with | 0 => x0 | 1 => x1 | 2 => x2 | 3 => x3 | 4 => x4 | 5 => x5 | _ => x6
def of8c (x0 x1 x2 x3 x4 x5 x6 x7 : Nat) (i : Nat) : Nat := match i with | 0 => x0 | 1 => x1 | 2 => x2 | 3 => x3 | 4 => x4 | 5 => x5 | 6 => x6 | _ => x7
theorem oks_split : ∀ (a b : List Leaf) {cs : List Value}, oks (a ++ b) cs → ∃ ca cb, cs = ca ++ cb ∧ oks a ca ∧ oks b cb
  | [], b, cs, h => ⟨[], cs, rfl, trivial, h⟩
  | k :: a, b, [], h => h.elim
  | k :: a, b, v :: cs, h => by
    obtain ⟨ca, cb, e, h1, h2⟩ := oks_split a b h.2
    exact ⟨v :: ca, cb, by rw [e]; rfl, ⟨h.1, h1⟩, h2⟩
theorem oks_u7 : ∀ {cs : List Value}, oks [.int .u64, .int .u64, .int .u64, .int .u64, .int .u64, .int .u64, .int .u64] cs → ∃ s : Nat → Nat, cs = [.int .u64 (s 0 : Nat), .int .u64 (s 1 : Nat), .int .u64 (s 2 : Nat), .int .u64 (s 3 : Nat), .int .u64 (s 4 : Nat), .int .u64 (s 5 : Nat), .int .u64 (s 6 : Nat)] ∧ ∀ i, i < 7 → s i < 18446744073709551616
  | [_, _, _, _, _, _, _], ⟨⟨y0, rfl, h0⟩, ⟨y1, rfl, h1⟩, ⟨y2, rfl, h2⟩, ⟨y3, rfl, h3⟩, ⟨y4, rfl, h4⟩, ⟨y5, rfl, h5⟩, ⟨y6, rfl, h6⟩, _⟩ => by
    obtain ⟨x0, rfl, g0⟩ := wf_u64 h0
    obtain ⟨x1, rfl, g1⟩ := wf_u64 h1
    obtain ⟨x2, rfl, g2⟩ := wf_u64 h2
    obtain ⟨x3, rfl, g3⟩ := wf_u64 h3
    obtain ⟨x4, rfl, g4⟩ := wf_u64 h4
    obtain ⟨x5, rfl, g5⟩ := wf_u64 h5
    obtain ⟨x6, rfl, g6⟩ := wf_u64 h6
    refine ⟨of7c x0 x1 x2 x3 x4 x5 x6, rfl, fun i hi => ?_⟩
    rcases seven hi with rfl | rfl | rfl | rfl | rfl | rfl | rfl
    · exact g0
    · exact g1
    · exact g2
    · exact g3
    · exact g4
    · exact g5
    · exact g6
theorem oks_u8 : ∀ {cs : List Value}, oks [.int .u64, .int .u64, .int .u64, .int .u64, .int .u64, .int .u64, .int .u64, .int .u64] cs → ∃ s : Nat → Nat, cs = [.int .u64 (s 0 : Nat), .int .u64 (s 1 : Nat), .int .u64 (s 2 : Nat), .int .u64 (s 3 : Nat), .int .u64 (s 4 : Nat), .int .u64 (s 5 : Nat), .int .u64 (s 6 : Nat), .int .u64 (s 7 : Nat)] ∧ ∀ i, i < 8 → s i < 18446744073709551616
  | [_, _, _, _, _, _, _, _], ⟨⟨y0, rfl, h0⟩, ⟨y1, rfl, h1⟩, ⟨y2, rfl, h2⟩, ⟨y3, rfl, h3⟩, ⟨y4, rfl, h4⟩, ⟨y5, rfl, h5⟩, ⟨y6, rfl, h6⟩, ⟨y7, rfl, h7⟩, _⟩ => by
    obtain ⟨x0, rfl, g0⟩ := wf_u64 h0
    obtain ⟨x1, rfl, g1⟩ := wf_u64 h1
    obtain ⟨x2, rfl, g2⟩ := wf_u64 h2
    obtain ⟨x3, rfl, g3⟩ := wf_u64 h3
    obtain ⟨x4, rfl, g4⟩ := wf_u64 h4
    obtain ⟨x5, rfl, g5⟩ := wf_u64 h5
    obtain ⟨x6, rfl, g6⟩ := wf_u64 h6
    obtain ⟨x7, rfl, g7⟩ := wf_u64 h7
    refine ⟨of8c x0 x1 x2 x3 x4 x5 x6 x7, rfl, fun i hi => ?_⟩
    rcases eight hi with rfl | rfl | rfl | rfl | rfl | rfl | rfl | rfl
    · exact g0
    · exact g1
    · exact g2
    · exact g3
    · exact g4
    · exact g5
    · exact g6
    · exact g7
theorem oks_cons {k : Leaf} {ks : List Leaf} : ∀ {cs : List Value}, oks (k :: ks) cs → ∃ v vs, cs = v :: vs ∧ k.ok v ∧ oks ks vs
  | [], h => h.elim
  | v :: vs, h => ⟨v, vs, rfl, h.1, h.2⟩
theorem oks_nil : ∀ {cs : List Value}, oks [] cs → cs = []
  | [], _ => rfl
  | _ :: _, h => h.elim
theorem ok_i {v : Value} (h : Leaf.ok (.int .i64) v) : ∃ n, v = .int .i64 n ∧ i64B n := by
  obtain ⟨n, e, h⟩ := h
  exact ⟨n, e, wf_i64 h⟩
theorem oks_i5 {cs : List Value} (h : oks [.int .i64, .int .i64, .int .i64, .int .i64, .int .i64] cs) : ∃ a b c d e : Int, cs = [.int .i64 a, .int .i64 b, .int .i64 c, .int .i64 d, .int .i64 e] ∧ i64B a ∧ i64B b ∧ i64B c ∧ i64B d ∧ i64B e := by
  obtain ⟨_, _, rfl, k0, h⟩ := oks_cons h
  obtain ⟨_, _, rfl, k1, h⟩ := oks_cons h
  obtain ⟨_, _, rfl, k2, h⟩ := oks_cons h
  obtain ⟨_, _, rfl, k3, h⟩ := oks_cons h
  obtain ⟨_, _, rfl, k4, h⟩ := oks_cons h
  obtain rfl := oks_nil h
  obtain ⟨a, rfl, g0⟩ := ok_i k0
  obtain ⟨b, rfl, g1⟩ := ok_i k1
  obtain ⟨c, rfl, g2⟩ := ok_i k2
  obtain ⟨d, rfl, g3⟩ := ok_i k3
  obtain ⟨e, rfl, g4⟩ := ok_i k4
  exact ⟨a, b, c, d, e, rfl, g0, g1, g2, g3, g4⟩
theorem oks_bib {cs : List Value} (h : oks [.bool, .int .i64, .bool] cs) : ∃ (a : Bool) (n : Int) (b : Bool), cs = [.bool a, .int .i64 n, .bool b] ∧ i64B n := by
  obtain ⟨_, _, rfl, ⟨a, rfl⟩, h1⟩ := oks_cons h
  obtain ⟨_, _, rfl, k1, h2⟩ := oks_cons h1
  obtain ⟨_, _, rfl, ⟨b, rfl⟩, h3⟩ := oks_cons h2
  obtain rfl := oks_nil h3
  obtain ⟨n, rfl, g⟩ := ok_i k1
  exact ⟨a, n, b, rfl, g⟩
abbrev kindsCl : List Leaf := [.int .u64, .int .u64, .int .u64, .int .u64, .int .u64, .int .u64, .int .u64] ++ ([.bool, .int .i64, .bool] ++ ([.int .u64, .int .u64, .int .u64, .int .u64, .int .u64, .int .u64, .int .u64, .int .u64] ++ ([.int .u64, .int .u64, .int .u64, .int .u64, .int .u64, .int .u64, .int .u64] ++ [.int .i64, .int .i64, .int .i64, .int .i64, .int .i64])))
theorem leafCl : leaves Tryz.prog 6 32 = some kindsCl := by kernel_rfl
theorem oks_cl {cs : List Value} (h : oks kindsCl cs) : ∃ c : Cl, cs = clList c ∧ c.Ok := by
  obtain ⟨c1, r1, rfl, h1, h⟩ := oks_split _ _ h
  obtain ⟨c2, r2, rfl, h2, h⟩ := oks_split _ _ h
  obtain ⟨c3, r3, rfl, h3, h⟩ := oks_split _ _ h
  obtain ⟨c4, r4, rfl, h4, h5⟩ := oks_split _ _ h
  obtain ⟨m, rfl, g1⟩ := oks_u7 h1
  obtain ⟨o, n, b, rfl, g2⟩ := oks_bib h2
  obtain ⟨d, rfl, g3⟩ := oks_u8 h3
  obtain ⟨y, rfl, g4⟩ := oks_u7 h4
  obtain ⟨u, s, a, f, t, rfl, g5, g6, g7, g8, g9⟩ := oks_i5 h5
  exact ⟨{ m := m, or := o, oin := n, oback := b, od := d, ys := y, unit := u, step := s, anchor := a, fr := f, un := t }, rfl, ⟨g1, g3, g4, g2, g5, g6, g7, g8, g9⟩⟩
end Go.Proofs.YtcbanlgnanihhaaGreatDoor
namespace Go.Proofs.YtcbanlgnanihhaaGreatDoor
open Go.ChangeShapes Go.WideShapes Go.ChangeAt Go.RowKit
set_option linter.unusedVariables false

theorem oks_two {k k' : IntKind} {cs : List Value} (h : oks [.int k, .int k'] cs) : ∃ x y : Int, cs = [.int k x, .int k' y] ∧ (Lit.int k x).wf = true ∧ (Lit.int k' y).wf = true := by
  obtain ⟨_, _, rfl, ⟨x, rfl, g1⟩, h1⟩ := oks_cons h
  obtain ⟨_, _, rfl, ⟨y, rfl, g2⟩, h2⟩ := oks_cons h1
  obtain rfl := oks_nil h2
  exact ⟨x, y, rfl, g1, g2⟩
/-- the cells of clauses -/
def cls (l : List Cl) : List Value := l.flatMap clList
theorem cls_length (l : List Cl) : (cls l).length = l.length * 30 := by
  induction l with
  | nil => rfl
  | cons c l ih =>
    rw [show cls (c :: l) = clList c ++ cls l by simp [cls], List.length_append, ih]
    simp only [List.length_cons, List.length_nil]
    omega
theorem oks_cls : ∀ {cells : List Value} {n : Nat}, cells.length = n * 30 → (∀ i, i < n → oks kindsCl ((cells.drop (i * 30)).take 30)) → ∃ l : List Cl, cells = cls l ∧ l.length = n ∧ ∀ c ∈ l, c.Ok
  | cells, 0, h, _ => ⟨[], by cases cells; rfl; simp at h, rfl, by simp⟩
  | cells, n + 1, h, hk => by
    obtain ⟨l, e, hl, hb⟩ := oks_cls (cells := cells.drop 30) (n := n) (by simp; omega) (fun i hi => by
      have := hk (i + 1) (by omega)
      rw [List.drop_drop]
      rwa [show 30 + i * 30 = (i + 1) * 30 by omega])
    have h0 := hk 0 (by omega)
    rw [Nat.zero_mul, List.drop_zero] at h0
    obtain ⟨c, ec, hc⟩ := oks_cl h0
    refine ⟨c :: l, ?_, by simp [hl], fun y hy => ?_⟩
    · rw [show cls (c :: l) = clList c ++ cls l by simp [cls], ← e, ← ec, List.take_append_drop]
    · rcases List.mem_cons.1 hy with rfl | hy
      · exact hc
      · exact hb y hy
theorem cellsCl30 : Tryz.prog.cellsOf 32 = 30 := by kernel_rfl
theorem open_cls {H : Type} {enc : TypeId × Value → H} {W : World} {a : Option Addr} {len cap : Nat} {d : DataW H} {p : List MemPlace} (h : DataW.Trod enc Tryz.prog W 0 (fun _ => true) true 22 (.slice a len cap) d p) :
    ∃ l : List Cl, len = l.length ∧ l.length ≤ cap ∧ cap ≤ maxLen ∧ Sl W a (cls l) ∧ (a = none → cap = 0) ∧ ∀ c ∈ l, c.Ok := by
  obtain ⟨fuel, hf⟩ := h
  obtain ⟨a', n, cap', cells, e, h1, h2, h3, h4, h6, h5⟩ := open_flat Tryz.underlying22 leafCl cellsCl30.symm (by decide) (v := .slice a len cap) (by simpa [Value.cells] using hf)
  cases e
  obtain ⟨l, rfl, hll, hw⟩ := oks_cls h3 h5
  subst hll
  exact ⟨l, rfl, h1, h2, h4, h6, hw⟩
end Go.Proofs.YtcbanlgnanihhaaGreatDoor
namespace Go.Proofs.YtcbanlgnanihhaaGreatDoor
open Go.RowKit
set_option linter.unusedVariables false

/-- the function of clause.Days, as long as the blocks from lo to hi stand as they stood in W -/
def DCS (W : World) (lo hi : Nat) (c : Cl) (x1 x2 : Nat) : Prop :=
  ∀ (n : Int) (W' : World), 0 ≤ n → n < 146097 → hi ≤ W'.heap.size → (∀ b, lo ≤ b → b < hi → W'.heap[b]? = W.heap[b]?) →
    Calls Tryz.prog 126 #[shN n, .pointer (some ⟨x1, 0, none⟩), .pointer (some ⟨x2, 0, none⟩)] W' fun e w' => e = .returned (.bool (dayC c n)) ∧ Below W'.heap.size W' w'
theorem UDV.blocks {W W' : World} {lo : Nat} {u s a : Int} {fv : Value} (h : UDV W lo u s a fv) (hs : W.heap.size ≤ W'.heap.size) (hb : ∀ b, lo ≤ b → b < W.heap.size → W'.heap[b]? = W.heap[b]?) : UDV W' lo u s a fv := by
  rcases h with h | h | ⟨h1, h2, h3, b3, b7, b4, h4, h5, h6, h7, h8⟩
  · exact .inl h
  · exact .inr (.inl h)
  · refine .inr (.inr ⟨h1, h2, h3, b3, b7, b4, h4, h5.keep hs (fun b hb' => ?_), h6, h7, h8⟩)
    rcases hb' with rfl | rfl | rfl
    · exact hb _ h6 h5.l3
    · exact hb _ h7 h5.l7
    · exact hb _ h8 h5.l4
theorem CDV.dcs {W : World} {lo : Nat} {c : Cl} {fv : Value} (h : CDV W lo c fv) (hm : mayC c = true) (hc : c.Ok) :
    ∃ x1 x2 : Nat, fv = .func (.func 126) #[] #[.pointer (some ⟨x1, 0, none⟩), .pointer (some ⟨x2, 0, none⟩)] ∧ DCS W lo W.heap.size c x1 x2 := by
  rcases h with ⟨h, -⟩ | ⟨-, b1, b2, v, rfl, hcl, l1, hv, l2, o1, o2, hu⟩
  · rw [hm] at h; cases h
  · refine ⟨b1, b2, rfl, fun n W' h0 h1 hs hb => ?_⟩
    rw [dayC, hm, Bool.true_and]
    have e1 : ClB W' b1 c := fun j x hx => (World.cell?_of_block (w := W) (a := ⟨b1, 0 + j, none⟩) (hb b1 o1 l1)).trans (hcl j x hx)
    have e2 : W'.cell? ⟨b2, 0, none⟩ = some v := (World.cell?_of_block (w := W) (a := ⟨b2, 0, none⟩) (hb b2 o2 l2)).trans hv
    exact CD2_any c n b1 b2 lo v W' hc (may_ord hm).1 h0 h1 e1 (by omega) e2 (by omega) (hu.blocks hs hb)
theorem DCS.call {W W' : World} {lo hi : Nat} {c : Cl} {x1 x2 : Nat} (h : DCS W lo hi c x1 x2) (hs : hi ≤ W'.heap.size) (hb : ∀ b, lo ≤ b → b < hi → W'.heap[b]? = W.heap[b]?) : DCS W' lo hi c x1 x2 :=
  fun n X h0 h1 hX hbX => h n X h0 h1 hX (fun b h2 h3 => (hbX b h2 h3).trans (hb b h2 h3))
theorem DCS.below {W W' : World} {lo hi : Nat} {c : Cl} {x1 x2 : Nat} (h : DCS W lo hi c x1 x2) (hs : hi ≤ W.heap.size) (hb : Below W.heap.size W W') : DCS W' lo hi c x1 x2 :=
  h.call (Nat.le_trans hs hb.size) (fun b _ h2 => hb.block b (by omega))
theorem DCS.set {W : World} {lo hi b o : Nat} {v : Value} {c : Cl} {x1 x2 : Nat} (h : DCS W lo hi c x1 x2) (hs : hi ≤ W.heap.size) (hb : b < lo ∨ hi ≤ b) : DCS (W.setCell ⟨b, o, none⟩ v) lo hi c x1 x2 :=
  h.call (by rw [World.size_setCell]; exact hs) (fun k h1 h2 => by
    exact Go.Deep.blk_setCell_other W ⟨b, o, none⟩ v k (by show ¬ k = b; omega))
end Go.Proofs.YtcbanlgnanihhaaGreatDoor
namespace Go.Proofs.YtcbanlgnanihhaaGreatDoor
open Go.RowKit
set_option linter.unusedVariables false

theorem cls_get (l : List Cl) : ∀ (k : Nat) (hk : k < l.length) (i : Nat) (hi : i < 30), (cls l)[k * 30 + i]? = (clList l[k])[i]? := by
  induction l with
  | nil => intro k hk; simp at hk
  | cons c l ih =>
    intro k hk i hi
    rw [show cls (c :: l) = clList c ++ cls l by simp [cls]]
    cases k with
    | zero =>
      rw [Nat.zero_mul, Nat.zero_add, List.getElem?_append_left (by exact hi)]
      rfl
    | succ k =>
      rw [List.getElem?_append_right (by show 30 ≤ _; omega), show (k + 1) * 30 + i - (clList c).length = k * 30 + i by show (k + 1) * 30 + i - 30 = _; omega, ih k (by simp at hk; omega) i hi]
      rfl
theorem Sl.atCl {w : World} {a : Option Addr} {l : List Cl} (h : Sl w a (cls l)) {k : Nat} (hk : k < l.length) :
    ∃ b off, a = some ⟨b, off, none⟩ ∧ b < w.heap.size ∧ w.rangeAt b (off + k * 30) (clList l[k]) := by
  obtain ⟨b, off, rfl, hlt, hc⟩ := Sl.at h (k := k * 30) (by rw [cls_length]; omega)
  refine ⟨b, off, rfl, hlt, fun j v hv => ?_⟩
  have hj : j < 30 := (List.getElem?_eq_some_iff.1 hv).1
  rw [← cls_get l k hk j hj] at hv
  obtain ⟨h1, h2⟩ := List.getElem?_eq_some_iff.1 hv
  rw [Nat.add_assoc, hc _ h1, h2]
theorem ld_at {W : World} {b o : Nat} {c : Cl} (h : W.rangeAt b o (clList c)) : (loadClS (.pointer (some ⟨b, o, none⟩))).run Tryz.prog W = .ok (clv c) W :=
  run_loadAt_mid W b o 32 (clList c) _ h Tryz.underlying32 rfl infoCl
theorem range_below {W W' : World} {b o B : Nat} {cs : List Value} (h : W.rangeAt b o cs) (hb : Below B W W') (hB : b < B) : W'.rangeAt b o cs := fun j v hv => (hb.cell (p := ⟨b, o + j, none⟩) hB).trans (h j v hv)
theorem size_setCells (b : Nat) : ∀ (vs : List Value) (o : Nat) (W : World), (W.setCells b o vs).heap.size = W.heap.size
  | [], _, _ => rfl
  | v :: vs, o, W => by rw [World.setCells, size_setCells b vs (o + 1), World.size_setCell]
theorem putCl_eq (W : World) (b : Nat) (cs : List Value) : putCl W b cs = W.setCells b 0 cs := rfl
end Go.Proofs.YtcbanlgnanihhaaGreatDoor
namespace Go.Proofs.YtcbanlgnanihhaaGreatDoor
open Go.RowKit
set_option linter.unusedVariables false

theorem and32 (x : Nat) (hx : x < 18446744073709551616) : bits .and .u64 (x : Int) 4294967295 = ((x % 4294967296 : Nat) : Int) := by
  have h := bits_and (a := x) (b := 4294967295) hx (by decide)
  rw [show (4294967295 : Nat) = 2 ^ 32 - 1 from rfl, Nat.and_two_pow_sub_one_eq_mod] at h
  exact h
theorem u64w (n : Nat) (h : n < 18446744073709551616) : IntKind.u64.wrap (n : Int) = n := by
  rw [IntKind.wrap_u64]; omega
/-- Mod, as the document has it -/
theorem NMod_any (a b : Int) (w : World) (ha : i64B a) (hb : 1 ≤ b) (hb2 : i64B b) : Calls Tryz.prog 136 #[.int .i64 a, .int .i64 b] w fun e w' => e = .returned (.int .i64 (a % b)) ∧ w = w' := by
  obtain ⟨h0, h1⟩ := ha
  obtain ⟨h2, h3⟩ := hb2
  have hbn : ¬ b = 0 := by omega
  have hm : a % b = if a.tmod b < 0 then a.tmod b + b else a.tmod b := by
    rw [Int.tmod_eq_emod]
    have h4 := Int.emod_nonneg a (show b ≠ 0 by omega)
    have h5 := Int.emod_lt_of_pos a (show 0 < b by omega)
    split <;> split <;> omega
  have h4 := Int.emod_nonneg a (show b ≠ 0 by omega)
  have h5 := Int.emod_lt_of_pos a (show 0 < b by omega)
  rw [hm] at h4 h5 ⊢
  clear hm
  obtain ⟨r, hr⟩ : ∃ r, a.tmod b = r := ⟨_, rfl⟩
  have Hr := hid hr
  by_cases hr0 : r < 0
  · rw [hr, if_pos hr0] at h4 h5 ⊢
    have hw := hid (w64 (r + b) (by omega))
    clear h4 h5
    go_enter Tryz.func136, Tryz.ntmps136
    go_wp2
    go_ret
    exact ⟨by rw [hw.out]; rfl, rfl⟩
  · rw [hr, if_neg hr0] at h4 h5 ⊢
    clear h4 h5
    go_enter Tryz.func136, Tryz.ntmps136
    go_wp2
    go_ret
    exact ⟨rfl, rfl⟩
def gcdL (l : List Int) : Nat := l.foldl (fun g n => Nat.gcd g n.natAbs) 0
theorem gcdL_snoc (l : List Int) (n : Int) : gcdL (l ++ [n]) = Nat.gcd (gcdL l) n.natAbs := by simp [gcdL]
theorem gcd_le {g a : Nat} (hg : g ≤ 9223372036854775808) (ha : a ≤ 9223372036854775808) : Nat.gcd g a ≤ 9223372036854775808 := by
  by_cases h : g = 0
  · rw [h, Nat.gcd_zero_left]; exact ha
  · exact Nat.le_trans (Nat.gcd_le_left a (by omega)) hg
theorem gcdL_le (l : List Int) (h : ∀ n ∈ l, i64B n) : ∀ k, k ≤ l.length → gcdL (l.take k) ≤ 9223372036854775808
  | 0, _ => by show 0 ≤ _; omega
  | k + 1, hk => by
    rw [take_snoc l k (by omega), gcdL_snoc]
    have := h _ (List.getElem_mem (show k < l.length by omega))
    exact gcd_le (gcdL_le l h k (by omega)) (by unfold i64B at this; omega)
theorem gcd_step (g a : Nat) : Nat.gcd a (g % a) = Nat.gcd g a := by
  rw [Nat.gcd_comm g a, Nat.gcd_rec a g, Nat.gcd_comm]
end Go.Proofs.YtcbanlgnanihhaaGreatDoor
namespace Go.Proofs.YtcbanlgnanihhaaGreatDoor
open Go.RowKit
set_option linter.unusedVariables false

theorem Join_any (n s : Int) (w : World) (h0 : 0 ≤ n) (h1 : n < 146097) (h2 : 0 ≤ s) (h3 : s < 86400) : Calls Tryz.prog 135 #[.int .i64 n, .int .i64 s] w fun e w' => e = .returned (.tuple #[.int .i64 (n * 86400 + s), .bool true]) ∧ w = w' := by
  have hm := IntWalk.i64_in (n * 86400) (by omega)
  have ha := IntWalk.i64_in (n * 86400 + s) (by omega)
  go_enter Tryz.func135, Tryz.ntmps135
  go_wp2
  go_ret2
  exact ⟨rfl, rfl⟩
theorem SDay_any (n : Int) (w : World) (h0 : 0 ≤ n) (h1 : n < 146097) : Calls Tryz.prog 133 #[.int .i64 n] w fun e w' => e = .returned (spv (86400 * n) (86400 * n + 86399)) ∧ Below w.heap.size w w' := by
  have c1 := hid (fun W => Join_any n 0 W h0 h1 (by omega) (by omega))
  rw [show n * 86400 + 0 = 86400 * n by omega] at c1
  obtain ⟨d, hd⟩ : ∃ d, 86400 * n = d := ⟨_, rfl⟩
  rw [hd] at c1 ⊢
  have hd0 : 0 ≤ d := by omega
  have hd1 : d < 12622780800 := by omega
  clear hd h0 h1
  go_enter Tryz.func133, Tryz.ntmps133
  go_wp2_with fail
  refine (c1.out _).mono ?_
  rintro e w' ⟨rfl, rfl⟩
  go_wp2
  exact bodyPost_ret (results_cell_mid rfl _ _ w.heap.size 0 _ _ rfl (range_new w _ _) Tryz.underlying132 rfl infoSp) rfl ⟨ret_sp rfl (by omega), below_new (Below.refl _ _) (Nat.le_refl _)⟩
theorem which_yes' {u t : Int} (hu : unB u = true) (ht : winB t = true) : whichB u t = true := by rw [whichB, hu, ht]; rfl
theorem Phase_any (u s a n : Int) (w : World) (hu : unB u = true) (ha : winB a = true) (hs : 1 ≤ s) (hs2 : i64B s) (h0 : 0 ≤ n) (h1 : n < 146097) (hz : 0 < sizeU u) :
    Calls Tryz.prog 83 #[.int .i64 u, .int .i64 s, .int .i64 a, .int .i64 n] w fun e w' => e = .returned (.int .i64 ((whichI u a - 86400 * n / sizeU u) % s)) ∧ Below w.heap.size w w' := by
  have c1 := hid (fun W => UWhich_any u a W)
  rw [(which_yes' hu ha)] at c1
  have c2 := hid (fun W => Join_any n 0 W h0 h1 (by omega) (by omega))
  rw [show n * 86400 + 0 = 86400 * n by omega] at c2
  have c3 := hid (fun W => Size_any u W)
  obtain ⟨d, hd⟩ : ∃ d, 86400 * n = d := ⟨_, rfl⟩
  rw [hd] at c2 ⊢
  have hb := whichI_bd u a
  obtain ⟨x, hx⟩ : ∃ x, whichI u a = x := ⟨_, rfl⟩
  rw [hx] at c1 hb ⊢
  have hd0 : 0 ≤ d := by omega
  have hd1 : d < 12622780800 := by omega
  have hz3 : sizeU u = 1 ∨ sizeU u = 60 ∨ sizeU u = 3600 := by
    unfold sizeU at hz ⊢
    split
    · exact .inl rfl
    · split
      · exact .inr (.inl rfl)
      · split
        · exact .inr (.inr rfl)
        · rename_i a1 a2 a3; rw [if_neg a1, if_neg a2, if_neg a3] at hz; omega
  clear hx hd hu ha h0 h1 hz
  rcases hz3 with hz | hz | hz
  all_goals
    rw [hz] at c3 ⊢
    clear hz
  · have c4 := hid (fun W => NMod_any (x - d) s W ⟨by omega, by omega⟩ hs hs2)
    rw [show d / 1 = d by omega]
    have hw := IntWalk.i64_in (x - d) (by omega)
    go_enter Tryz.func83, Tryz.ntmps83
    go_wp2_with fail
    refine (c1.out _).mono ?_
    rintro e w1 ⟨rfl, hB1⟩
    have HB1 := hid hB1
    clear hB1
    go_wp2_with fail
    refine (c2.out _).mono ?_
    rintro e w' ⟨rfl, rfl⟩
    go_wp2_with fail
    refine (c3.out _).mono ?_
    rintro e w2 ⟨rfl, hB2⟩
    have HB2 : Hid (Below w.heap.size w w2) := HB1.out.trans (hB2.mono HB1.out.size)
    clear hB2
    go_wp2_with fail
    with_reducible refine (c4.out _).mono ?_
    rintro e w' ⟨rfl, rfl⟩
    go_wp2
    go_ret
    exact ⟨rfl, HB2.out⟩
  · have c4 := hid (fun W => NMod_any (x - d / 60) s W ⟨by omega, by omega⟩ hs hs2)
    have hw := IntWalk.i64_in (x - d / 60) (by omega)
    go_enter Tryz.func83, Tryz.ntmps83
    go_wp2_with fail
    refine (c1.out _).mono ?_
    rintro e w1 ⟨rfl, hB1⟩
    have HB1 := hid hB1
    clear hB1
    go_wp2_with fail
    refine (c2.out _).mono ?_
    rintro e w' ⟨rfl, rfl⟩
    go_wp2_with fail
    refine (c3.out _).mono ?_
    rintro e w2 ⟨rfl, hB2⟩
    have HB2 : Hid (Below w.heap.size w w2) := HB1.out.trans (hB2.mono HB1.out.size)
    clear hB2
    go_wp2_with fail
    with_reducible refine (c4.out _).mono ?_
    rintro e w' ⟨rfl, rfl⟩
    go_wp2
    go_ret
    exact ⟨rfl, HB2.out⟩
  · have c4 := hid (fun W => NMod_any (x - d / 3600) s W ⟨by omega, by omega⟩ hs hs2)
    have hw := IntWalk.i64_in (x - d / 3600) (by omega)
    go_enter Tryz.func83, Tryz.ntmps83
    go_wp2_with fail
    refine (c1.out _).mono ?_
    rintro e w1 ⟨rfl, hB1⟩
    have HB1 := hid hB1
    clear hB1
    go_wp2_with fail
    refine (c2.out _).mono ?_
    rintro e w' ⟨rfl, rfl⟩
    go_wp2_with fail
    refine (c3.out _).mono ?_
    rintro e w2 ⟨rfl, hB2⟩
    have HB2 : Hid (Below w.heap.size w w2) := HB1.out.trans (hB2.mono HB1.out.size)
    clear hB2
    go_wp2_with fail
    with_reducible refine (c4.out _).mono ?_
    rintro e w' ⟨rfl, rfl⟩
    go_wp2
    go_ret
    exact ⟨rfl, HB2.out⟩
theorem frozen_set {W : World} {p q : Addr} {v : Value} : (W.setCell p v).frozen? q = W.frozen? q := by
  have := World.frozen?_setCells p.block [v] p.off W
  simp [go_sem]
end Go.Proofs.YtcbanlgnanihhaaGreatDoor
namespace Go.Proofs.YtcbanlgnanihhaaGreatDoor
open Go.RowKit
set_option linter.unusedVariables false

abbrev CtS (w : World) (W : World) : Prop := Below w.heap.size w W ∧ w.heap.size < W.heap.size
theorem CtS.keep {w W W' : World} (h : CtS w W) (hb : Below W.heap.size W W') : CtS w W' := ⟨h.1.trans (hb.mono (Nat.le_of_lt h.2)), Nat.lt_of_lt_of_le h.2 hb.size⟩
end Go.Proofs.YtcbanlgnanihhaaGreatDoor
namespace Go.Proofs.YtcbanlgnanihhaaGreatDoor
open Go.RowKit
set_option linter.unusedVariables false

attribute [local go_sem ↓] loadAt_cl
/-- a state -/
abbrev stv (b : Bool) (f u p : Int) : Value := .agg #[.bool b, .int .i64 f, .int .i64 u, .int .i64 p]
def phaseC (c : Cl) (n : Int) : Int := if 1 < c.step ∧ 0 < sizeU c.unit then (whichI c.unit c.anchor - 86400 * n / sizeU c.unit) % c.step else 0
def stateV (c : Cl) (n : Int) : Value := if dayC c n then stv true 0 86399 (phaseC c n) else stv false 0 0 0
theorem infoSt : (Tryz.prog.info? 103).map (·.size) = some 4 := by kernel_rfl
/-- four cells of a block -/
abbrev Four (W : World) (b : Nat) (v0 v1 v2 v3 : Value) : Prop :=
  (W.cell? ⟨b, 0, none⟩ = some v0 ∧ W.cell? ⟨b, 1, none⟩ = some v1 ∧ W.cell? ⟨b, 2, none⟩ = some v2 ∧ W.cell? ⟨b, 3, none⟩ = some v3) ∧ (W.frozen? ⟨b, 0, none⟩ = false ∧ W.frozen? ⟨b, 1, none⟩ = false ∧ W.frozen? ⟨b, 2, none⟩ = false ∧ W.frozen? ⟨b, 3, none⟩ = false)
theorem Four.below {W W' : World} {b B : Nat} {v0 v1 v2 v3 : Value} (h : Four W b v0 v1 v2 v3) (hb : Below B W W') (hB : b < B) : Four W' b v0 v1 v2 v3 := by
  obtain ⟨⟨a0, a1, a2, a3⟩, f0, f1, f2, f3⟩ := h
  exact ⟨⟨(hb.cell (p := ⟨b, 0, none⟩) hB).trans a0, (hb.cell (p := ⟨b, 1, none⟩) hB).trans a1, (hb.cell (p := ⟨b, 2, none⟩) hB).trans a2, (hb.cell (p := ⟨b, 3, none⟩) hB).trans a3⟩,
    (hb.frozen (p := ⟨b, 0, none⟩) hB).trans f0, (hb.frozen (p := ⟨b, 1, none⟩) hB).trans f1, (hb.frozen (p := ⟨b, 2, none⟩) hB).trans f2, (hb.frozen (p := ⟨b, 3, none⟩) hB).trans f3⟩
theorem four_new (w : World) (v0 v1 v2 v3 : Value) (t : TypeId) : Four (w.alloc (.cells #[v0, v1, v2, v3] t)) w.heap.size v0 v1 v2 v3 := by
  refine ⟨⟨?_, ?_, ?_, ?_⟩, ?_, ?_, ?_, ?_⟩ <;> simp [go_sem]
theorem Four.set1 {W : World} {b : Nat} {v0 v1 v2 v3 : Value} (h : Four W b v0 v1 v2 v3) (x y : Value) : Four ((W.setCell ⟨b, 1, none⟩ x).setCell ⟨b, 2, none⟩ y) b v0 x y v3 := by
  obtain ⟨⟨a0, a1, a2, a3⟩, f0, f1, f2, f3⟩ := h
  have ne : ∀ i j : Nat, i ≠ j → (⟨b, i, none⟩ : Addr) ≠ ⟨b, j, none⟩ := fun i j hij e => by injection e with _ e _; exact hij e
  refine ⟨⟨?_, ?_, ?_, ?_⟩, by rw [frozen_set, frozen_set]; exact f0, by rw [frozen_set, frozen_set]; exact f1, by rw [frozen_set, frozen_set]; exact f2, by rw [frozen_set, frozen_set]; exact f3⟩
  · rw [World.cell?_setCell_other _ _ _ _ (ne 2 0 (by omega)), World.cell?_setCell_other _ _ _ _ (ne 1 0 (by omega))]; exact a0
  · rw [World.cell?_setCell_other _ _ _ _ (ne 2 1 (by omega))]; exact World.cell?_setCell_same _ _ _ a1
  · exact World.cell?_setCell_same _ _ _ (by rw [World.cell?_setCell_other _ _ _ _ (ne 1 2 (by omega))]; exact a2)
  · rw [World.cell?_setCell_other _ _ _ _ (ne 2 3 (by omega)), World.cell?_setCell_other _ _ _ _ (ne 1 3 (by omega))]; exact a3
theorem Four.put {W : World} {b : Nat} {v0 v1 v2 v3 : Value} (h : Four W b v0 v1 v2 v3) (x0 x1 x2 x3 : Value) : ((((W.setCell ⟨b, 0, none⟩ x0).setCell ⟨b, 1, none⟩ x1).setCell ⟨b, 2, none⟩ x2).setCell ⟨b, 3, none⟩ x3).rangeAt b 0 [x0, x1, x2, x3] := by
  obtain ⟨⟨a0, a1, a2, a3⟩, f0, f1, f2, f3⟩ := h
  exact World.rangeAt_setCells_same W b 0 [x0, x1, x2, x3] (fun j hj => by
    have hj4 : j = 0 ∨ j = 1 ∨ j = 2 ∨ j = 3 := by have : j < 4 := hj; omega
    rcases hj4 with rfl | rfl | rfl | rfl
    · exact ⟨by show (W.cell? ⟨b, 0, none⟩).isSome = true; rw [a0]; rfl, f0⟩
    · exact ⟨by show (W.cell? ⟨b, 1, none⟩).isSome = true; rw [a1]; rfl, f1⟩
    · exact ⟨by show (W.cell? ⟨b, 2, none⟩).isSome = true; rw [a2]; rfl, f2⟩
    · exact ⟨by show (W.cell? ⟨b, 3, none⟩).isSome = true; rw [a3]; rfl, f3⟩)
end Go.Proofs.YtcbanlgnanihhaaGreatDoor
namespace Go.Proofs.YtcbanlgnanihhaaGreatDoor
open Go.RowKit
set_option linter.unusedVariables false

attribute [local go_sem ↓] loadAt_cl
attribute [local go_sem] run_storeFn
abbrev LaS (w : World) (c : Cl) (W : World) : Prop :=
  (loadClS (.pointer (some ⟨w.heap.size, 0, none⟩))).run Tryz.prog W = .ok (clv c) W ∧ ClB W w.heap.size c ∧ Below w.heap.size w W ∧ w.heap.size < W.heap.size
theorem LaS.of {w W : World} {c : Cl} (h : ClB W w.heap.size c) (hb : Below w.heap.size w W) (hs : w.heap.size < W.heap.size) : LaS w c W := ⟨h.ld, h, hb, hs⟩
theorem LaS.keep {w W W' : World} {c : Cl} (h : LaS w c W) (hb : Below W.heap.size W W') : LaS w c W' :=
  LaS.of (h.2.1.below hb h.2.2.2) (h.2.2.1.trans (hb.mono (Nat.le_of_lt h.2.2.2))) (Nat.lt_of_lt_of_le h.2.2.2 hb.size)
theorem LaS.set {w W : World} {c : Cl} {b o : Nat} {v : Value} (h : LaS w c W) (hb : w.heap.size < b) : LaS w c (W.setCell ⟨b, o, none⟩ v) :=
  LaS.of (fun j x hx => by
    rw [World.cell?_setCell_other _ _ _ _ (by intro e; injection e with e _ _; omega)]
    exact h.2.1 j x hx) (below_set h.2.2.1 (Nat.le_of_lt hb)) (by rw [World.size_setCell]; exact h.2.2.2)
/-- a block of one cell -/
structure B1 (w W : World) (b : Nat) (v : Value) : Prop where
  c : W.cell? ⟨b, 0, none⟩ = some v
  f : W.frozen? ⟨b, 0, none⟩ = false
  l : b < W.heap.size
  g : w.heap.size < b
structure B2 (w W : World) (b : Nat) (v u : Value) : Prop where
  c : W.cell? ⟨b, 0, none⟩ = some v ∧ W.cell? ⟨b, 1, none⟩ = some u
  f : W.frozen? ⟨b, 0, none⟩ = false ∧ W.frozen? ⟨b, 1, none⟩ = false
  l : b < W.heap.size
  g : w.heap.size < b
theorem B1.below {w W W' : World} {b : Nat} {v : Value} (h : B1 w W b v) (hb : Below W.heap.size W W') : B1 w W' b v :=
  ⟨(hb.cell (p := ⟨b, 0, none⟩) h.l).trans h.c, (hb.frozen (p := ⟨b, 0, none⟩) h.l).trans h.f, Nat.lt_of_lt_of_le h.l hb.size, h.g⟩
theorem B2.below {w W W' : World} {b : Nat} {v u : Value} (h : B2 w W b v u) (hb : Below W.heap.size W W') : B2 w W' b v u :=
  ⟨⟨(hb.cell (p := ⟨b, 0, none⟩) h.l).trans h.c.1, (hb.cell (p := ⟨b, 1, none⟩) h.l).trans h.c.2⟩, ⟨(hb.frozen (p := ⟨b, 0, none⟩) h.l).trans h.f.1, (hb.frozen (p := ⟨b, 1, none⟩) h.l).trans h.f.2⟩, Nat.lt_of_lt_of_le h.l hb.size, h.g⟩
theorem b1_new {w W : World} (v : Value) (t : TypeId) (h : w.heap.size < W.heap.size) : B1 w (W.alloc (.cells #[v] t)) W.heap.size v := ⟨by simp [go_sem], by simp [go_sem], by simp, h⟩
theorem b2_new {w W : World} (v u : Value) (t : TypeId) (h : w.heap.size < W.heap.size) : B2 w (W.alloc (.cells #[v, u] t)) W.heap.size v u := ⟨⟨by simp [go_sem], by simp [go_sem]⟩, ⟨by simp [go_sem], by simp [go_sem]⟩, by simp, h⟩
end Go.Proofs.YtcbanlgnanihhaaGreatDoor
namespace Go.Proofs.YtcbanlgnanihhaaGreatDoor
open Go.RowKit
set_option linter.unusedVariables false
attribute [local go_sem] Oper.semAt_some

/-- a disc in a block of its own, on the way of a telling of l -/
def LpI (bd : Nat) (p : Int → Bool) (l : List Int) : OwnP := fun k O W => (∀ b, O b ↔ b = bd) ∧ DiscAt W bd (memD ((l.take k).filter p))
theorem lpI_stab (bd : Nat) (p : Int → Bool) (l : List Int) : StabO (LpI bd p l) := fun k O W W' h hs hO => ⟨h.1, h.2.block hs (hO bd ((h.1 bd).mpr rfl))⟩
theorem lpI_lt (bd : Nat) (p : Int → Bool) (l : List Int) : LtO (LpI bd p l) := fun k O W h b hb => by rw [(h.1 b).mp hb]; exact h.2.lt
theorem DiscAt.more {W W' : World} {bd : Nat} {p : Int → Bool} {l : List Int} {k : Nat} {x : Int} (hx : l[k]? = some x) (hp : p x = true) (h : DiscAt W' bd (fun j => memD ((l.take k).filter p) j || decide ((j : Int) = x))) :
    DiscAt W' bd (memD ((l.take (k + 1)).filter p)) := by
  obtain ⟨hk, rfl⟩ := List.getElem?_eq_some_iff.1 hx
  refine h.congr fun j hj => ?_
  rw [take_snoc l k hk, List.filter_append, memD, memD, Bool.eq_iff_iff, Bool.or_eq_true, decide_eq_true_eq, decide_eq_true_eq, decide_eq_true_eq, List.mem_append]
  simp [hp]
theorem DiscAt.same {W : World} {bd : Nat} {p : Int → Bool} {l : List Int} {k : Nat} {x : Int} (hx : l[k]? = some x) (hp : p x = false) (h : DiscAt W bd (memD ((l.take k).filter p))) :
    DiscAt W bd (memD ((l.take (k + 1)).filter p)) := by
  obtain ⟨hk, rfl⟩ := List.getElem?_eq_some_iff.1 hx
  have e : (l.take (k + 1)).filter p = (l.take k).filter p := by rw [take_snoc l k hk, List.filter_append]; simp [hp]
  rw [e]; exact h
/-- of a rising list none is between, behind one that is above -/
theorem filter_cut {l : List Int} {f u : Int} {k : Nat} {x : Int} (hr : l.Pairwise (· < ·)) (hx : l[k]? = some x) (hu : u < x) : (l.take k).filter (betB f u) = l.filter (betB f u) := by
  obtain ⟨hk, rfl⟩ := List.getElem?_eq_some_iff.1 hx
  have e : l.filter (betB f u) = (l.take k).filter (betB f u) ++ (l.drop k).filter (betB f u) := by rw [← List.filter_append, List.take_append_drop]
  have e2 : (l.drop k).filter (betB f u) = [] := by
    rw [List.filter_eq_nil_iff]
    intro y hy
    rw [List.drop_eq_getElem_cons hk] at hy
    have hge : l[k] ≤ y := by
      rcases List.mem_cons.1 hy with h | h
      · omega
      · have hp : (l[k] :: l.drop (k + 1)).Pairwise (· < ·) := by rw [← List.drop_eq_getElem_cons hk]; exact hr.sublist (List.drop_sublist _ _)
        have := (List.pairwise_cons.1 hp).1 y h
        omega
    rw [betB]; simp; omega
  rw [e, e2, List.append_nil]
/-- what plain makes -/
def plainQ (c : Cl) (f u : Int) (k : Nat) : Bool := todIn k (c.m 2) (c.m 1) (c.m 0) && betB f u k
theorem plain_mem (c : Cl) (f u : Int) (hc : c.Ok) (k : Nat) (hk : k < 86400) : memD ((secsOf (c.m 2) (c.m 1) (c.m 0)).filter (betB f u)) k = plainQ c f u k := by
  rw [memD, plainQ, Bool.eq_iff_iff, decide_eq_true_eq, List.mem_filter, Bool.and_eq_true, secsOf_mem (hc.m 2 (by omega)) (hc.m 1 (by omega)) (hc.m 0 (by omega)) (by omega) (by omega)]
set_option maxRecDepth 100000 in
set_option maxHeartbeats 3200000 in
theorem LPlain_any (c : Cl) (a : Bool) (f u p : Int) (w : World) (hc : c.Ok) (hT : Tab w) :
    Calls Tryz.prog 167 #[clv c, stv a f u p] w fun e w' => ∃ b, e = .returned (.pointer (some ⟨b, 0, none⟩)) ∧ w.heap.size ≤ b ∧ DiscAt w' b (plainQ c f u) ∧ Below w.heap.size w w' := by
  have c1 := hid (fun W => DOf_any none 0 [] W (by simp) (Sl.nil _ _))
  have c2 := hid (fun W => TAll_any (c.m 2) (c.m 1) (c.m 0) W (hc.m 2 (by omega)) (hc.m 1 (by omega)) (hc.m 0 (by omega)))
  have cP := hid (fun b q s W h => DPut1_any b q s W h)
  have tells := hid (fun bh bm bs Ow w => tod_tells2 (c.m 2) (c.m 1) (c.m 0) bh bm bs Ow w (hc.m 2 (by omega)) (hc.m 1 (by omega)) (hc.m 0 (by omega)))
  have hfin := hid (plain_mem c f u hc)
  have hris := hid (secsOf_rising (c.m 2) (c.m 1) (c.m 0))
  obtain ⟨L, hL⟩ : ∃ L, secsOf (c.m 2) (c.m 1) (c.m 0) = L := ⟨_, rfl⟩
  rw [hL] at tells hfin hris
  have HT := hid hT
  obtain ⟨W1, hW1⟩ : ∃ W1, (w.alloc (.cells (clList c).toArray 32)).alloc (.cells #[.bool a, .int .i64 f, .int .i64 u, .int .i64 p] 103) = W1 := ⟨_, rfl⟩
  have q1 : W1.heap.size = w.heap.size + 2 := by rw [← hW1]; simp
  have q2 : Below w.heap.size w W1 := by rw [← hW1]; exact below_new (below_new (Below.refl _ _) (Nat.le_refl _)) (by simp)
  have q3 : ClB W1 w.heap.size c := by rw [← hW1]; exact clB_new2 w c _ _
  have q4 : Four W1 (w.heap.size + 1) (.bool a) (.int .i64 f) (.int .i64 u) (.int .i64 p) := by
    rw [← hW1]
    have h := four_new (w.alloc (.cells (clList c).toArray 32)) (.bool a) (.int .i64 f) (.int .i64 u) (.int .i64 p) 103
    rw [World.size_alloc] at h
    exact h
  have HW1 := hid hW1
  have Q2 := hid q2
  have Q3 := hid q3
  have Q4 := hid q4
  clear hW1 q2 q3 q4 hL hT hc
  refine (wf_calls (r := none) (n := 1)).mp ?_
  refine callsIn_of_wp_marks Tryz.func167 rfl trivial ?_ rfl
  simp only [Tryz.ntmps167, List.size_toArray, List.length_cons, List.length_nil, Nat.reduceAdd, Nat.reduceSub, Array.replicate_succ, Array.replicate_zero, List.push_toArray, List.append_toArray, List.nil_append, List.cons_append]
  gi_wp2_with fail
  refine wpIn_scope ?_
  rw [HW1.out]
  gi_wp2_with fail
  refine (wf_calls.mpr (c1.out W1)).mono ?_
  rintro e w2 ⟨rfl, hD, hB2⟩
  rw [q1]
  obtain ⟨W3, hW3⟩ : ∃ W, w2.alloc (.cells #[.pointer (some ⟨w.heap.size + 2, 0, none⟩)] 38) = W := ⟨_, rfl⟩
  have s2 : w.heap.size + 2 < w2.heap.size := by rw [q1] at hD; exact hD.lt
  have b3 : Below w2.heap.size w2 W3 := by rw [← hW3]; exact below_new (Below.refl _ _) (Nat.le_refl _)
  have s3 : W3.heap.size = w2.heap.size + 1 := by rw [← hW3]; simp
  have B13 : Below W1.heap.size W1 W3 := hB2.trans (b3.mono hB2.size)
  have HB3 : Hid (Below w.heap.size w W3) := Q2.out.trans (B13.mono Q2.out.size)
  have HD3 : Hid (DiscAt W3 (w.heap.size + 2) (memD [])) := by rw [q1] at hD; exact hD.below b3 s2
  have C3 := hid (Q3.out.below B13 (by omega))
  have F3 := hid (Q4.out.below B13 (by omega))
  have e5 := hid (show W3.cell? ⟨w2.heap.size, 0, none⟩ = some (.pointer (some ⟨w.heap.size + 2, 0, none⟩)) by rw [← hW3]; simp [go_sem])
  have m := C3.out.masks
  rw [← hW3] at m
  obtain ⟨m0, m1, m2, -⟩ := m
  have HW3 := hid hW3
  clear hW3 hD hB2 b3 B13
  gi_wp2_with fail
  refine wpIn_label ?_
  gi_wp2_with fail
  rw [HW3.out]
  clear m0 m1 m2
  refine (wf_calls.mpr (c2.out W3)).mono ?_
  rintro e w4 ⟨rfl, k1, k2, k3, hB4, s4⟩
  have HB4 : Hid (Below w.heap.size w w4) := HB3.out.trans (hB4.mono HB3.out.size)
  have I4 : Hid (LpI (w.heap.size + 2) (betB f u) L 0 (fun b => b = w.heap.size + 2) w4) := ⟨fun b => Iff.rfl, HD3.out.below hB4 (by omega)⟩
  have F4 := hid (F3.out.below hB4 (by omega))
  have e54 := hid ((hB4.cell (p := ⟨w2.heap.size, 0, none⟩) (by simp only []; omega)).trans e5.out)
  rw [s3] at k1 k2 k3
  have tl := hid (tells.out (w2.heap.size + 1) (w2.heap.size + 1 + 1) (w2.heap.size + 1 + 2) (fun b => b = w.heap.size + 2) w4 (by omega) (by omega) (by omega) (by omega) (by omega) (by omega) k1 k2 k3 (HT.out.later HB4.out) (by have := HT.out.1; show ¬ 0 = _; omega))
  clear k1 k2 k3 hB4
  gi_wp2_with fail
  have lw4 : w2.heap.size < w4.heap.size := by omega
  have lw5 : w.heap.size + 1 < w4.heap.size := by omega
  refine range_outer2 (gf := 173) (lb := #[.pointer (some ⟨w2.heap.size + 1, 0, none⟩), .pointer (some ⟨w2.heap.size + 1 + 1, 0, none⟩), .pointer (some ⟨w2.heap.size + 1 + 2, 0, none⟩)]) rfl tod_enters L _ rfl tl.out
    (LpI (w.heap.size + 2) (betB f u) L) (fun c k O W => c = .exit 0 ∧ (∀ b, O b ↔ b = w.heap.size + 2) ∧ DiscAt W (w.heap.size + 2) (memD (L.filter (betB f u)))) (lpI_stab _ _ _)
    (fun c k O W W' h hs hO => ⟨h.1, h.2.1, h.2.2.block hs (hO _ ((h.2.1 _).mpr rfl))⟩) (lpI_lt _ _ _) (fun c k O W h b hb => by rw [(h.2.1 b).mp hb]; exact h.2.2.lt) I4.out
    (fun k O a' W => LpI (w.heap.size + 2) (betB f u) L k O W ∧ ∃ x, L[k]? = some x ∧ ∃ (u7 u8 u9 u10 u11 u12 u13 u14 u15 u16 u17 u18 u19 u20 u21 u22 u23 u24 u25 u26 u27 u28 u29 u30 : Value), a' = { tmps := #[clv c, stv a f u p, .pointer (some ⟨w.heap.size, 0, none⟩), .pointer (some ⟨w.heap.size + 1, 0, none⟩), .pointer none, .pointer (some ⟨w2.heap.size, 0, none⟩), .int .i64 x, u7, u8, u9, u10, u11, u12, u13, u14, u15, u16, u17, u18, u19, u20, u21, u22, u23, u24, u25, u26, u27, u28, u29, u30], defers := [] })
    (fun l o k O a' W' hr hn h => ⟨stab_put (lpI_stab _ _ _) h.1 hn o, h.2⟩) ?assign ?body ?done ?stop
  case assign =>
    intro l k O6 W6 K hk hI hG6 hK
    gi_wp2
    exact hK _ O6 _ (Grow.refl _ _) ⟨hI, _, List.getElem?_eq_getElem hk, _, _, _, _, _, _, _, _, _, _, _, _, _, _, _, _, _, _, _, _, _, _, _, _, rfl⟩
  case stop =>
    rintro c' k O9 w9 hk1 hk2 hG9 ⟨rfl, hO9, hd9⟩ hD hnD
    have HG9 := hid hG9
    have Hd9 := hid hd9
    have e59 := (hG9.cell lw4 (by omega) 0).trans e54.out
    have HD := hid hD
    clear hG9 hd9 hD
    gi_wp2
    rw [Exit.noGoto_ret]
    refine ⟨by simp, .inl ⟨_, _, rfl, run_takeDeferred HD.out, ?_⟩⟩
    exact ⟨_, results_tmp rfl _ _ _, _, rfl, by omega, (Hd9.out.congr hfin.out).block (by rw [World.putObj_size]; exact Nat.le_refl _) (World.putObj_heap_other (by omega)), below_putObj (HB4.out.trans (HG9.out.eff.below (by rintro b rfl; omega) HB4.out.size)) HB4.out.size _⟩
  case done =>
    rintro O9 w9 hG9 ⟨hO9, hd9⟩ hD hnD
    rw [List.take_length] at hd9
    have HG9 := hid hG9
    have Hd9 := hid hd9
    have e59 := (hG9.cell lw4 (by omega) 0).trans e54.out
    have HD := hid hD
    clear hG9 hd9 hD
    gi_wp2
    rw [Exit.noGoto_ret]
    refine ⟨by simp, .inl ⟨_, _, rfl, run_takeDeferred HD.out, ?_⟩⟩
    exact ⟨_, results_tmp rfl _ _ _, _, rfl, by omega, (Hd9.out.congr hfin.out).block (by rw [World.putObj_size]; exact Nat.le_refl _) (World.putObj_heap_other (by omega)), below_putObj (HB4.out.trans (HG9.out.eff.below (by rintro b rfl; omega) HB4.out.size)) HB4.out.size _⟩
  case body =>
    rintro l k O6 a' W6 hk hG6 hl6 hrec6 hnl6 ⟨⟨hO6, hd6⟩, x, ex, u7, u8, u9, u10, u11, u12, u13, u14, u15, u16, u17, u18, u19, u20, u21, u22, u23, u24, u25, u26, u27, u28, u29, u30, rfl⟩
    have e56 := (hG6.cell lw4 (by omega) 0).trans e54.out
    obtain ⟨⟨-, f1, f2, -⟩, -⟩ := F4.out
    have g1 := (hG6.cell lw5 (by omega) 1).trans f1
    have g2 := (hG6.cell lw5 (by omega) 2).trans f2
    have Hd6 := hid hd6
    have HO6 := hid hO6
    have Hex := hid ex
    clear f1 f2 hd6 hO6 ex hG6
    by_cases h1 : x < f
    · have hp : Hid (betB f u x = false) := by show _ = _; rw [betB, decide_eq_false (by omega)]; rfl
      gi_wp2
      exact ⟨O6, Grow.refl _ _, HO6.out, Hd6.out.same Hex.out hp.out⟩
    · by_cases h2 : u < x
      · have hcut : Hid ((L.take k).filter (betB f u) = L.filter (betB f u)) := filter_cut hris.out Hex.out h2
        gi_wp2
        exact ⟨O6, Grow.refl _ _, rfl, HO6.out, by rw [← hcut.out]; exact Hd6.out⟩
      · have hp : Hid (betB f u x = true) := by show _ = _; rw [betB, decide_eq_true (by omega), decide_eq_true (by omega)]; rfl
        gi_wp2_with fail
        refine (wf_calls.mpr (cP.out _ _ x _ Hd6.out)).mono ?_
        rintro e w7 ⟨⟨v, rfl⟩, hd7, hE7⟩
        have Hd7 := hid hd7
        have HE7 := hid hE7
        clear hd7 hE7
        gi_wp2
        exact ⟨O6, ⟨fun _ h => h, fun _ h => .inl h, HE7.out.wide fun b hb => (HO6.out b).mpr hb⟩, HO6.out, DiscAt.more (W := W6) Hex.out hp.out Hd7.out⟩
end Go.Proofs.YtcbanlgnanihhaaGreatDoor

/-
  feriaref13.May: the document's word whether a clause may be.
-/
import Derived.Test.YtgiecadlliblpaaClMayFn
import Derived.Test.YtgiecadlliblpaaWideFun
import Derived.Test.YtgiecadlliblpaaWideRef
namespace Go.Proofs.Ytgiecadlliblpaa
open Go.RowKit
set_option linter.unusedVariables false

theorem wof_wsel2 (s : Nat → Nat) (i : Nat) (hi : i < 7) (hs : s i < 18446744073709551616) : wof (wsel s) i = inW s i := by
  refine (eq_mk (inW_lt i hs) (fun k hk => ?_)).symm
  rw [inW, Nat.testBit_and, fullW_test, inWB, Bool.eq_iff_iff]
  simp only [Bool.and_eq_true, decide_eq_true_eq, wsel, sel_mem]
  constructor
  · rintro ⟨h1, _, h2⟩
    exact ⟨⟨64 * i + k, h2, by rw [bitW, show (64 * i + k) / 64 = i by omega, show (64 * i + k) % 64 = k by omega]; exact h1, rfl⟩, h2⟩
  · rintro ⟨⟨j, h1, h2, h3⟩, h4⟩
    have : j = 64 * i + k := by omega
    subst this
    rw [bitW, show (64 * i + k) / 64 = i by omega, show (64 * i + k) % 64 = k by omega] at h2
    exact ⟨h2, hk, h4⟩
theorem eqW_wof (s : Nat → Nat) (hs : ∀ i, i < 7 → s i < 18446744073709551616) : eqW (wof (wsel s)) s = eqW (inW s) s := by
  rw [Bool.eq_iff_iff, eqW_iff, eqW_iff]
  refine forall_congr' fun i => forall_congr' fun hi => ?_
  rw [wof_wsel2 s i hi (hs i hi)]

/-- what the document's May reads of its clause -/
abbrev RMS (w : World) (c : Cl) (W : World) : Prop :=
  (W.cell? ⟨w.heap.size, 8, none⟩ = some (.int .i64 c.oin) ∧ W.cell? ⟨w.heap.size, 9, none⟩ = some (.bool c.oback) ∧ W.cell? ⟨w.heap.size, 10, none⟩ = some (.int .u64 (c.od 0 : Nat)) ∧ W.cell? ⟨w.heap.size, 11, none⟩ = some (.int .u64 (c.od 1 : Nat)) ∧
    W.cell? ⟨w.heap.size, 12, none⟩ = some (.int .u64 (c.od 2 : Nat)) ∧ W.cell? ⟨w.heap.size, 13, none⟩ = some (.int .u64 (c.od 3 : Nat)) ∧ W.cell? ⟨w.heap.size, 14, none⟩ = some (.int .u64 (c.od 4 : Nat)) ∧ W.cell? ⟨w.heap.size, 15, none⟩ = some (.int .u64 (c.od 5 : Nat)) ∧
    W.cell? ⟨w.heap.size, 16, none⟩ = some (.int .u64 (c.od 6 : Nat)) ∧ W.cell? ⟨w.heap.size, 17, none⟩ = some (.int .u64 (c.od 7 : Nat))) ∧
  (W.cell? ⟨w.heap.size, 18, none⟩ = some (.int .u64 (c.ys 0 : Nat)) ∧ W.cell? ⟨w.heap.size, 19, none⟩ = some (.int .u64 (c.ys 1 : Nat)) ∧ W.cell? ⟨w.heap.size, 20, none⟩ = some (.int .u64 (c.ys 2 : Nat)) ∧ W.cell? ⟨w.heap.size, 21, none⟩ = some (.int .u64 (c.ys 3 : Nat)) ∧
    W.cell? ⟨w.heap.size, 22, none⟩ = some (.int .u64 (c.ys 4 : Nat)) ∧ W.cell? ⟨w.heap.size, 23, none⟩ = some (.int .u64 (c.ys 5 : Nat)) ∧ W.cell? ⟨w.heap.size, 24, none⟩ = some (.int .u64 (c.ys 6 : Nat))) ∧
  (W.cell? ⟨w.heap.size, 25, none⟩ = some (.int .i64 c.unit) ∧ W.cell? ⟨w.heap.size, 26, none⟩ = some (.int .i64 c.step) ∧ W.cell? ⟨w.heap.size, 27, none⟩ = some (.int .i64 c.anchor)) ∧
  ClB W w.heap.size c ∧ Below w.heap.size w W ∧ w.heap.size < W.heap.size
theorem RMS.of {w W : World} {c : Cl} (h : ClB W w.heap.size c) (hb : Below w.heap.size w W) (hs : w.heap.size < W.heap.size) : RMS w c W :=
  ⟨h.ord, h.years, ⟨h.tail.1, h.tail.2.1, h.tail.2.2.1⟩, h, hb, hs⟩
theorem RMS.keep {w W W' : World} {c : Cl} (h : RMS w c W) (hb : Below W.heap.size W W') : RMS w c W' :=
  RMS.of (h.2.2.2.1.below hb h.2.2.2.2.2) (h.2.2.2.2.1.trans (hb.mono (by have := h.2.2.2.2.2; omega))) (Nat.lt_of_lt_of_le h.2.2.2.2.2 hb.size)
end Go.Proofs.Ytgiecadlliblpaa

/-
  A callback that collects what it is told: it appends to a list in a box, and stops at a number.
-/
import Derived.Test.YtdggflkkojmabaaDoorMaskIter
namespace Go.Proofs.YtdggflkkojmabaaDoor
open Go.RowKit
set_option linter.unusedVariables false

theorem owns_agree {w w' : World} {base : Nat} {e : TypeId} {s : Nat} {v : Value} {n : Nat} {xs : List Value} (h : w.ownsRow base e s v n xs) (hb : ∀ b, v.ownBlock = some b → w'.heap[b]? = w.heap[b]?) : w'.ownsRow base e s v n xs := by
  refine ⟨h.1, ?_⟩
  rcases h.2 with h | ⟨g, cap, cur, rfl, hg, hc, r⟩
  · exact .inl h
  · exact .inr ⟨g, cap, cur, rfl, hg, (hb g rfl).trans hc, r⟩
theorem owns_lt {w : World} {base : Nat} {e : TypeId} {s : Nat} {v : Value} {n : Nat} {xs : List Value} (h : w.ownsRow base e s v n xs) {b : Nat} (hv : v.ownBlock = some b) : base ≤ b ∧ b < w.heap.size := by
  rcases h.2 with ⟨rfl, _⟩ | ⟨g, cap, cur, rfl, hg, hc, r⟩
  · cases hv
  · obtain rfl : g = b := by simpa [Value.ownBlock] using hv
    exact ⟨hg, (Array.getElem?_eq_some_iff.1 hc).1⟩

/-- the collector's state: k of xs have come -/
def CollJ (bg bm base : Nat) (mv : Value) (xs : List Int) (k : Nat) (O : Nat → Prop) (W : World) : Prop :=
  ∃ v, W.cell? ⟨bg, 0, none⟩ = some v ∧ W.cell? ⟨bm, 0, none⟩ = some mv ∧ W.ownsRow base 3 1 v k (ints (xs.take k)) ∧ W.frozen? ⟨bg, 0, none⟩ = false ∧ bg < base ∧ bm < base ∧ bg ≠ bm ∧ base ≤ W.heap.size ∧
    O bg ∧ O bm ∧ (∀ b, v.ownBlock = some b → O b) ∧ (∀ b, O b → b < W.heap.size)
theorem CollJ.stab {bg bm base : Nat} {mv : Value} {xs : List Int} {k : Nat} {O : Nat → Prop} {W W' : World} (h : CollJ bg bm base mv xs k O W) (hs : W.heap.size ≤ W'.heap.size) (hO : ∀ b, O b → W'.heap[b]? = W.heap[b]?) : CollJ bg bm base mv xs k O W' := by
  obtain ⟨v, h1, h2, h3, h4, h5, h6, h7, h8, g1, g2, g3, g4⟩ := h
  exact ⟨v, (World.cell?_of_block (w := W) (a := ⟨bg, 0, none⟩) (hO bg g1)).trans h1, (World.cell?_of_block (w := W) (a := ⟨bm, 0, none⟩) (hO bm g2)).trans h2, owns_agree h3 (fun b hb => hO b (g3 b hb)),
    (World.frozen?_of_block (w := W) (a := ⟨bg, 0, none⟩) (hO bg g1)).trans h4, h5, h6, h7, by omega, g1, g2, g3, fun b hb => by have := g4 b hb; omega⟩
theorem CollJ.lt {bg bm base : Nat} {mv : Value} {xs : List Int} {k : Nat} {O : Nat → Prop} {W : World} (h : CollJ bg bm base mv xs k O W) : ∀ b, O b → b < W.heap.size := by
  obtain ⟨v, h1, h2, h3, h4, h5, h6, h7, h8, g1, g2, g3, g4⟩ := h
  exact g4

set_option maxHeartbeats 800000 in
theorem Coll26_any (bg bm base most k : Nat) (xs : List Int) (O : Nat → Prop) (W : World) (hk : k < xs.length) (hl : xs.length ≤ 100000) (hm : most < 256) (hJ : CollJ bg bm base (.int .u8 most) xs k O W) :
    Calls Tryd.prog 26 #[.int .i64 xs[k], .pointer (some ⟨bg, 0, none⟩), .pointer (some ⟨bm, 0, none⟩)] W fun e W' => ∃ O' : Nat → Prop, (∀ b, O b → O' b) ∧ (∀ b, O' b → O b ∨ W.heap.size ≤ b) ∧ Eff O W W' ∧
      CollJ bg bm base (.int .u8 most) xs (k + 1) O' W' ∧ e = .returned (.bool (decide (k + 1 ≠ most))) := by
  obtain ⟨v, h1, h2, h3, h4, h5, h6, h7, h8, g1, g2, g3, g4⟩ := hJ
  obtain ⟨x, hx⟩ : ∃ x, xs[k] = x := ⟨_, rfl⟩
  have ht := hid (take_snoc xs k hk)
  rw [hx] at ht ⊢
  clear hx
  obtain ⟨a, cap, rfl, hs, hcap⟩ := owns_form h3
  have H3 := hid h3
  have G := hid (And.intro g1 (And.intro g2 (And.intro g3 g4)))
  clear g1 g2 g3 g4
  go_enter Tryd.func26, Tryd.ntmps26
  clear hs h3
  go_wp2_with (at_builtin; refine app1 eInt (.tmp 5) (.tmp 7) rfl rfl rfl rfl rfl H3.out rfl (by omega) (by omega) h8 ?_)
  intro a' cap' w' hown hg hb hf
  have e1 := grown_cell hg h1 (fun e => by have := owns_lt H3.out e; omega)
  have e2 := grown_cell hg h2 (fun e => by have := owns_lt H3.out e; omega)
  have Hown := hid hown
  have Hf := hid hf
  have Hb := hid hb
  have Hg := hid hg
  have hfz : w'.frozen? ⟨bg, 0, none⟩ = false := (hb.frozen (p := ⟨bg, 0, none⟩) h5).trans h4
  clear hown hf hb hg h1 h2 h4
  go_wp2
  obtain ⟨g1, g2, g3, g4⟩ := G.out
  have hgr := Hg.out
  have hsz : W.heap.size ≤ w'.heap.size := hgr.size
  have hs2 : (w'.setCell ⟨bg, 0, none⟩ (.slice a' (k + 1) cap')).heap.size = w'.heap.size := by simp [go_sem]
  refine bodyPost_ret (v := .bool ((k : Int) + 1 != (most : Int))) (by simp [results, Tryd.results26, go_sem]) rfl ⟨fun b => O b ∨ (W.heap.size ≤ b ∧ b < w'.heap.size), fun b h => .inl h, fun b h => h.imp id (·.1), ?_, ?_, ?_⟩
  · refine ⟨hgr.os, hgr.tape, hgr.output, by omega, fun b hb hn => ?_⟩
    have hne : b ≠ bg := fun e => hn (e ▸ g1)
    rw [Below.heap_setCell _ _ _ _ hne]
    exact hgr.block b hb (fun e => hn (g3 b e.symm))
  · refine ⟨.slice a' (k + 1) cap', by simp [go_sem, e1], (World.cell?_of_block (w := w') (a := ⟨bm, 0, none⟩) (Below.heap_setCell _ _ _ _ (by simpa using h7.symm))).trans e2, ?_, by simp [go_sem, hfz], h5, h6, h7, by omega, .inl g1, .inl g2, fun b hb => ?_, fun b hb => ?_⟩
    · rw [ht.out, ints_append, ints_one]; exact ownsRow_setCell_below Hown.out (by simpa using h5) _
    · rcases Hf.out b hb with h | h
      · exact .inl (g3 b h)
      · exact .inr ⟨h, (owns_lt Hown.out hb).2⟩
    · rcases hb with h | h
      · have := g4 b h; omega
      · omega
  · congr 2
    rw [Bool.eq_iff_iff]; simp; omega
end Go.Proofs.YtdggflkkojmabaaDoor

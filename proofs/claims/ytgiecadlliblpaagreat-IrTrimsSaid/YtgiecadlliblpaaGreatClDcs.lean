/-
  The function of clause.Days, as long as its blocks stand.
  A clause in a list of clauses.
-/
import Derived.Test.YtgiecadlliblpaaGreatClLive
import Derived.Test.YtgiecadlliblpaaGreatOpenCls
import Derived.Deep.Heap
namespace Go.Proofs.YtgiecadlliblpaaGreat
open Go.RowKit
set_option linter.unusedVariables false

/-- the function of clause.Days, as long as the blocks from lo to hi stand as they stood in W -/
def DCS (W : World) (lo hi : Nat) (c : Cl) (x1 x2 : Nat) : Prop :=
  ∀ (n : Int) (W' : World), 0 ≤ n → n < 146097 → hi ≤ W'.heap.size → (∀ b, lo ≤ b → b < hi → W'.heap[b]? = W.heap[b]?) →
    Calls Tryz.prog 93 #[shN n, .pointer (some ⟨x1, 0, none⟩), .pointer (some ⟨x2, 0, none⟩)] W' fun e w' => e = .returned (.bool (dayC c n)) ∧ Below W'.heap.size W' w'
theorem UDV.blocks {W W' : World} {lo : Nat} {u s a : Int} {fv : Value} (h : UDV W lo u s a fv) (hs : W.heap.size ≤ W'.heap.size) (hb : ∀ b, lo ≤ b → b < W.heap.size → W'.heap[b]? = W.heap[b]?) : UDV W' lo u s a fv := by
  rcases h with h | h | ⟨h1, h2, h3, b3, b7, b4, h4, h5, h6, h7, h8⟩
  · exact .inl h
  · exact .inr (.inl h)
  · refine .inr (.inr ⟨h1, h2, h3, b3, b7, b4, h4, h5.keep hs (fun b hb' => ?_), h6, h7, h8⟩)
    rcases hb' with rfl | rfl | rfl
    · exact hb _ h6 h5.l3
    · exact hb _ h7 h5.l7
    · exact hb _ h8 h5.l4
theorem CDV.dcs {W : World} {lo : Nat} {c : Cl} {fv : Value} (h : CDV W lo c fv) (hm : mayC c = true) (hc : c.Ok) :
    ∃ x1 x2 : Nat, fv = .func (.func 93) #[] #[.pointer (some ⟨x1, 0, none⟩), .pointer (some ⟨x2, 0, none⟩)] ∧ DCS W lo W.heap.size c x1 x2 := by
  rcases h with ⟨h, -⟩ | ⟨-, b1, b2, v, rfl, hcl, l1, hv, l2, o1, o2, hu⟩
  · rw [hm] at h; cases h
  · refine ⟨b1, b2, rfl, fun n W' h0 h1 hs hb => ?_⟩
    rw [dayC, hm, Bool.true_and]
    have e1 : ClB W' b1 c := fun j x hx => (World.cell?_of_block (w := W) (a := ⟨b1, 0 + j, none⟩) (hb b1 o1 l1)).trans (hcl j x hx)
    have e2 : W'.cell? ⟨b2, 0, none⟩ = some v := (World.cell?_of_block (w := W) (a := ⟨b2, 0, none⟩) (hb b2 o2 l2)).trans hv
    exact CD2_any c n b1 b2 lo v W' hc (may_ord hm).1 h0 h1 e1 (by omega) e2 (by omega) (hu.blocks hs hb)
theorem DCS.call {W W' : World} {lo hi : Nat} {c : Cl} {x1 x2 : Nat} (h : DCS W lo hi c x1 x2) (hs : hi ≤ W'.heap.size) (hb : ∀ b, lo ≤ b → b < hi → W'.heap[b]? = W.heap[b]?) : DCS W' lo hi c x1 x2 :=
  fun n X h0 h1 hX hbX => h n X h0 h1 hX (fun b h2 h3 => (hbX b h2 h3).trans (hb b h2 h3))
theorem DCS.below {W W' : World} {lo hi : Nat} {c : Cl} {x1 x2 : Nat} (h : DCS W lo hi c x1 x2) (hs : hi ≤ W.heap.size) (hb : Below W.heap.size W W') : DCS W' lo hi c x1 x2 :=
  h.call (Nat.le_trans hs hb.size) (fun b _ h2 => hb.block b (by omega))
theorem DCS.set {W : World} {lo hi b o : Nat} {v : Value} {c : Cl} {x1 x2 : Nat} (h : DCS W lo hi c x1 x2) (hs : hi ≤ W.heap.size) (hb : b < lo ∨ hi ≤ b) : DCS (W.setCell ⟨b, o, none⟩ v) lo hi c x1 x2 :=
  h.call (by rw [World.size_setCell]; exact hs) (fun k h1 h2 => by
    exact Go.Deep.blk_setCell_other W ⟨b, o, none⟩ v k (by show ¬ k = b; omega))
end Go.Proofs.YtgiecadlliblpaaGreat
namespace Go.Proofs.YtgiecadlliblpaaGreat
open Go.RowKit
set_option linter.unusedVariables false

theorem cls_get (l : List Cl) : ∀ (k : Nat) (hk : k < l.length) (i : Nat) (hi : i < 30), (cls l)[k * 30 + i]? = (clList l[k])[i]? := by
  induction l with
  | nil => intro k hk; simp at hk
  | cons c l ih =>
    intro k hk i hi
    rw [show cls (c :: l) = clList c ++ cls l by simp [cls]]
    cases k with
    | zero =>
      rw [Nat.zero_mul, Nat.zero_add, List.getElem?_append_left (by exact hi)]
      rfl
    | succ k =>
      rw [List.getElem?_append_right (by show 30 ≤ _; omega), show (k + 1) * 30 + i - (clList c).length = k * 30 + i by show (k + 1) * 30 + i - 30 = _; omega, ih k (by simp at hk; omega) i hi]
      rfl
theorem Sl.atCl {w : World} {a : Option Addr} {l : List Cl} (h : Sl w a (cls l)) {k : Nat} (hk : k < l.length) :
    ∃ b off, a = some ⟨b, off, none⟩ ∧ b < w.heap.size ∧ w.rangeAt b (off + k * 30) (clList l[k]) := by
  obtain ⟨b, off, rfl, hlt, hc⟩ := Sl.at h (k := k * 30) (by rw [cls_length]; omega)
  refine ⟨b, off, rfl, hlt, fun j v hv => ?_⟩
  have hj : j < 30 := (List.getElem?_eq_some_iff.1 hv).1
  rw [← cls_get l k hk j hj] at hv
  obtain ⟨h1, h2⟩ := List.getElem?_eq_some_iff.1 hv
  rw [Nat.add_assoc, hc _ h1, h2]
theorem ld_at {W : World} {b o : Nat} {c : Cl} (h : W.rangeAt b o (clList c)) : (loadClS (.pointer (some ⟨b, o, none⟩))).run Tryz.prog W = .ok (clv c) W :=
  run_loadAt_mid W b o 40 (clList c) _ h Tryz.underlying40 rfl infoCl
theorem range_below {W W' : World} {b o B : Nat} {cs : List Value} (h : W.rangeAt b o cs) (hb : Below B W W') (hB : b < B) : W'.rangeAt b o cs := fun j v hv => (hb.cell (p := ⟨b, o + j, none⟩) hB).trans (h j v hv)
theorem size_setCells (b : Nat) : ∀ (vs : List Value) (o : Nat) (W : World), (W.setCells b o vs).heap.size = W.heap.size
  | [], _, _ => rfl
  | v :: vs, o, W => by rw [World.setCells, size_setCells b vs (o + 1), World.size_setCell]
theorem putCl_eq (W : World) (b : Nat) (cs : List Value) : putCl W b cs = W.setCells b 0 cs := rfl
end Go.Proofs.YtgiecadlliblpaaGreat

/-
  A callback that collects what it is told: it appends to a list in a box, and stops at a number.
  A callback that collects what it is told in a list in a box, and stops at a number that no list reaches.
  ferialaw02.MaskBack answers true for every mask.
  What tod.greatest computes: the last number of a mask; a range over a function.
-/
import Derived.Test.YtchceegpbfecaaaDoorMaskIter
import Derived.Test.YtchceegpbfecaaaDoorMaskSpansWalk
import Derived.Shelf.Abstract
import Derived.Test.YtchceegpbfecaaaDoorMaskList
import Derived.Test.YtchceegpbfecaaaDoorPops
import Derived.Deep.RegionHeld3
import Derived.Test.YtchceegpbfecaaaDoorRangeAll
import Derived.RangeFuncNested
import Derived.RangeFuncLeaves
namespace Go.Proofs.YtchceegpbfecaaaDoor
open Go.RowKit
set_option linter.unusedVariables false

theorem owns_agree {w w' : World} {base : Nat} {e : TypeId} {s : Nat} {v : Value} {n : Nat} {xs : List Value} (h : w.ownsRow base e s v n xs) (hb : ∀ b, v.ownBlock = some b → w'.heap[b]? = w.heap[b]?) : w'.ownsRow base e s v n xs := by
  refine ⟨h.1, ?_⟩
  rcases h.2 with h | ⟨g, cap, cur, rfl, hg, hc, r⟩
  · exact .inl h
  · exact .inr ⟨g, cap, cur, rfl, hg, (hb g rfl).trans hc, r⟩
theorem owns_lt {w : World} {base : Nat} {e : TypeId} {s : Nat} {v : Value} {n : Nat} {xs : List Value} (h : w.ownsRow base e s v n xs) {b : Nat} (hv : v.ownBlock = some b) : base ≤ b ∧ b < w.heap.size := by
  rcases h.2 with ⟨rfl, _⟩ | ⟨g, cap, cur, rfl, hg, hc, r⟩
  · cases hv
  · obtain rfl : g = b := by simpa [Value.ownBlock] using hv
    exact ⟨hg, (Array.getElem?_eq_some_iff.1 hc).1⟩

/-- the collector's state: k of xs have come -/
def CollJ (bg bm base : Nat) (mv : Value) (xs : List Int) (k : Nat) (O : Nat → Prop) (W : World) : Prop :=
  ∃ v, W.cell? ⟨bg, 0, none⟩ = some v ∧ W.cell? ⟨bm, 0, none⟩ = some mv ∧ W.ownsRow base 3 1 v k (ints (xs.take k)) ∧ W.frozen? ⟨bg, 0, none⟩ = false ∧ bg < base ∧ bm < base ∧ bg ≠ bm ∧ base ≤ W.heap.size ∧
    O bg ∧ O bm ∧ (∀ b, v.ownBlock = some b → O b) ∧ (∀ b, O b → b < W.heap.size)
theorem CollJ.stab {bg bm base : Nat} {mv : Value} {xs : List Int} {k : Nat} {O : Nat → Prop} {W W' : World} (h : CollJ bg bm base mv xs k O W) (hs : W.heap.size ≤ W'.heap.size) (hO : ∀ b, O b → W'.heap[b]? = W.heap[b]?) : CollJ bg bm base mv xs k O W' := by
  obtain ⟨v, h1, h2, h3, h4, h5, h6, h7, h8, g1, g2, g3, g4⟩ := h
  exact ⟨v, (World.cell?_of_block (w := W) (a := ⟨bg, 0, none⟩) (hO bg g1)).trans h1, (World.cell?_of_block (w := W) (a := ⟨bm, 0, none⟩) (hO bm g2)).trans h2, owns_agree h3 (fun b hb => hO b (g3 b hb)),
    (World.frozen?_of_block (w := W) (a := ⟨bg, 0, none⟩) (hO bg g1)).trans h4, h5, h6, h7, by omega, g1, g2, g3, fun b hb => by have := g4 b hb; omega⟩
theorem CollJ.lt {bg bm base : Nat} {mv : Value} {xs : List Int} {k : Nat} {O : Nat → Prop} {W : World} (h : CollJ bg bm base mv xs k O W) : ∀ b, O b → b < W.heap.size := by
  obtain ⟨v, h1, h2, h3, h4, h5, h6, h7, h8, g1, g2, g3, g4⟩ := h
  exact g4

end Go.Proofs.YtchceegpbfecaaaDoor
namespace Go.Proofs.YtchceegpbfecaaaDoor
open Go.RowKit
set_option linter.unusedVariables false

theorem run_equalIn_func_nil {P : Program} {d : Nat} {t : TypeId} {f : Fn} {a c : Array Value} {w : World} {x y : Array TypeId} {z : Bool} (h : P.underlying t = some (.func x y z)) : (Op.equalIn (d + 1) t (.func f a c) .nilFunc).run P w = .ok false w := by
  simp [Op.equalIn, run_underlying h]
theorem run_eq_nilFunc {P : Program} {t : TypeId} {f : Fn} {a c : Array Value} {w : World} (h : ∃ x y z, P.underlying t = some (.func x y z)) : (binOp .eql t (.func f a c) .nilFunc).run P w = .ok (.bool false) w := by
  obtain ⟨x, y, z, h⟩ := h
  have : binOp .eql t (.func f a c) .nilFunc = (do pure (.bool (← Op.equal t (.func f a c) .nilFunc))) := by cases f <;> rfl
  have h2 : (Op.equalIn (9999 + 1) t (.func f a c) .nilFunc).run P w = .ok false w := run_equalIn_func_nil h
  rw [this]
  simp only [Op.equal, Op.maxDepth, Sem.run_bind, h2, Result.andThen_ok, Sem.run_pure]

/-- the collector's state: k of xs have come -/
def CollK (bg base : Nat) (xs : List Int) (k : Nat) (O : Nat → Prop) (W : World) : Prop :=
  ∃ v, W.cell? ⟨bg, 0, none⟩ = some v ∧ W.ownsRow base 3 1 v k (ints (xs.take k)) ∧ W.frozen? ⟨bg, 0, none⟩ = false ∧ bg < base ∧ base ≤ W.heap.size ∧
    O bg ∧ (∀ b, v.ownBlock = some b → O b) ∧ (∀ b, O b → b < W.heap.size)
theorem CollK.stab {bg base : Nat} {xs : List Int} {k : Nat} {O : Nat → Prop} {W W' : World} (h : CollK bg base xs k O W) (hs : W.heap.size ≤ W'.heap.size) (hO : ∀ b, O b → W'.heap[b]? = W.heap[b]?) : CollK bg base xs k O W' := by
  obtain ⟨v, h1, h3, h4, h5, h8, g1, g3, g4⟩ := h
  exact ⟨v, (World.cell?_of_block (w := W) (a := ⟨bg, 0, none⟩) (hO bg g1)).trans h1, owns_agree h3 (fun b hb => hO b (g3 b hb)),
    (World.frozen?_of_block (w := W) (a := ⟨bg, 0, none⟩) (hO bg g1)).trans h4, h5, by omega, g1, g3, fun b hb => by have := g4 b hb; omega⟩
theorem CollK.lt {bg base : Nat} {xs : List Int} {k : Nat} {O : Nat → Prop} {W : World} (h : CollK bg base xs k O W) : ∀ b, O b → b < W.heap.size := by
  obtain ⟨v, h1, h3, h4, h5, h8, g1, g3, g4⟩ := h
  exact g4

/-- what a call of such a callback does; most: the number at which it stops -/
def CollCall (f : Nat) (most : Nat) : Prop := ∀ (bg base k : Nat) (xs : List Int) (O : Nat → Prop) (W : World) (hk : k < xs.length), xs.length ≤ 100000 → CollK bg base xs k O W →
    Calls Tryd.prog f #[.int .i64 xs[k], .pointer (some ⟨bg, 0, none⟩)] W fun e W' => ∃ O' : Nat → Prop, (∀ b, O b → O' b) ∧ (∀ b, O' b → O b ∨ W.heap.size ≤ b) ∧ Eff O W W' ∧
      CollK bg base xs (k + 1) O' W' ∧ e = .returned (.bool (decide (k + 1 < most)))

theorem collk_client {f most : Nat} (hf : CollCall f most) (he : ∀ args w, (callFunc f args).run Tryd.prog w = .ok (.enter f args) w) (bg base : Nat) (xs : List Int) (hl : xs.length ≤ 100000) (hm : xs.length < most) :
    Client Tryd.prog (.func (.func f) #[] #[.pointer (some ⟨bg, 0, none⟩)]) xs (CollK bg base xs) (fun _ _ _ => False) where
  stab := fun k O W W' h hs hO => h.stab hs hO
  stabx := fun k O W W' h hs hO => h.elim
  lt := fun k O W h => h.lt
  ltx := fun k O W h => h.elim
  call := fun k O W hk h => .inl ⟨_, _, rfl, he, (hf bg base k xs O W hk hl h).mono fun e W' ⟨O', h1, h2, h3, h4, h5⟩ => ⟨O', h1, h2, h3, .inl ⟨by rw [h5]; simp; omega, h4⟩⟩⟩

end Go.Proofs.YtchceegpbfecaaaDoor
namespace Go.Proofs.YtchceegpbfecaaaDoor
open Go.RowKit
set_option linter.unusedVariables false

theorem andM_one {m : Nat} (hm : m < 18446744073709551616) : andM [m] = m := by
  show 18446744073709551615 &&& m = m
  rw [Nat.and_comm]
  exact Nat.and_two_pow_sub_one_of_lt_two_pow (n := 64) hm
/-- the number ahead of the j-th one -/
def lastI (xs : List Int) (j : Nat) : Int := if j = 0 then -1 else xs.getD (j - 1) 0
theorem lastI_zero (xs : List Int) : lastI xs 0 = -1 := rfl
theorem lastI_succ (xs : List Int) (j : Nat) (hj : j < xs.length) : lastI xs (j + 1) = xs[j] := by
  simp only [lastI, Nat.add_one_ne_zero, if_false, Nat.add_sub_cancel]
  rw [List.getD_eq_getElem?_getD, List.getElem?_eq_getElem hj]; rfl
theorem above_neg {m : Nat} : aboveM m (-1) = m := by simp [aboveM]
theorem back_at {m : Nat} (hm : m < 18446744073709551616) (j : Nat) (hj : j < (sel m.testBit 64).length) :
    hasB m (sel m.testBit 64)[j] = true ∧ leastB (aboveM m (lastI (sel m.testBit 64) j)) = true ∧ leastI (aboveM m (lastI (sel m.testBit 64) j)) = (sel m.testBit 64)[j] ∧ lastI (sel m.testBit 64) j < (sel m.testBit 64)[j] := by
  have h1 : hasB m (sel m.testBit 64)[j] = true := by
    obtain ⟨k, hk, hb, e⟩ := sel_mem.mp (List.getElem_mem hj)
    rw [e, hasB_nat]; exact hb
  cases j with
  | zero =>
    have := least_at hm
    rw [lastI_zero, above_neg, this.1, this.2]
    refine ⟨h1, by simpa using hj, ?_, by have := sel_nonneg 0 hj; omega⟩
    rw [List.getD_eq_getElem?_getD, List.getElem?_eq_getElem hj]; rfl
  | succ j =>
    have hn := next_at hm j (by omega)
    rw [lastI_succ _ _ (by omega), hn.1, hn.2]
    refine ⟨h1, by simpa using hj, ?_, sel_less j (by omega) hj⟩
    rw [List.getD_eq_getElem?_getD, List.getElem?_eq_getElem hj]; rfl
theorem back_end {m : Nat} (hm : m < 18446744073709551616) : leastB (aboveM m (lastI (sel m.testBit 64) (sel m.testBit 64).length)) = false := by
  rcases Nat.eq_zero_or_pos (sel m.testBit 64).length with h | h
  · rw [h, lastI_zero, above_neg, (least_at hm).1, h]; rfl
  · obtain ⟨j, hj⟩ : ∃ j, (sel m.testBit 64).length = j + 1 := ⟨(sel m.testBit 64).length - 1, by omega⟩
    have hn := next_at hm j (by omega)
    rw [hj, lastI_succ _ _ (by omega), hn.1]
    simp [hj]
theorem ofM_back {m : Nat} (hm : m < 18446744073709551616) : ofM (sel m.testBit 64) = m := by rw [ofM_sel, mk_self hm]

/-- the box of the list, in whatever world of the end -/
abbrev BkS (w : World) (bg : Nat) (a : Option Addr) (cap : Nat) (xs : List Int) (W : World) : Prop :=
  W.cell? ⟨bg, 0, none⟩ = some (.slice a xs.length cap) ∧ Sl W a (ints xs) ∧ Below w.heap.size w W ∧ bg < W.heap.size
theorem BkS.keep {w W W' : World} {bg : Nat} {a : Option Addr} {cap : Nat} {xs : List Int} (h : BkS w bg a cap xs W) (hb : Below W.heap.size W W') : BkS w bg a cap xs W' := by
  obtain ⟨h1, h2, h3, h4⟩ := h
  exact ⟨(hb.cell (p := ⟨bg, 0, none⟩) h4).trans h1, h2.below hb, h3.trans (hb.mono h3.size), Nat.lt_of_lt_of_le h4 hb.size⟩

end Go.Proofs.YtchceegpbfecaaaDoor
namespace Go.Proofs.YtchceegpbfecaaaDoor
open Go.RowKit
set_option linter.unusedVariables false
attribute [local go_sem] Oper.semAt_some

/-- mask.All's function tells its mask's numbers -/
theorem mask_tells (m b : Nat) (Ow : Nat → Prop) (w : World) (hm : m < 18446744073709551616) (hb : b < w.heap.size) (hbO : ¬ Ow b) (hbox : w.cell? ⟨b, 0, none⟩ = some (.int .u64 m)) (hT : Tab w) (hTO : ¬ Ow 0) :
    Tells Tryd.prog 31 #[.pointer (some ⟨b, 0, none⟩)] (sel m.testBit 64) Ow w := by
  intro y J Jx O W hO hB hC hJ
  exact MaskIter_any m b y J Jx O W hm hC hJ (Nat.lt_of_lt_of_le hb hB.size) (fun h => by rcases hO b h with h1 | h1; exact hbO h1; omega) ((hB.cell (p := ⟨b, 0, none⟩) hb).trans hbox) (hT.later hB) (fun h => by rcases hO _ h with h1 | h1; exact hTO h1; have := hT.1; omega)
theorem mask_enters : ∀ args w, (callFunc 31 args).run Tryd.prog w = .ok (.enter 31 args) w := Go.Proofs.enters_of Tryd.func31 (by kernel_rfl) rfl

theorem below_putObj {B : Nat} {A W : World} (h : Below B A W) {l : Nat} (hl : B ≤ l) (o : Obj) : Below B A (W.putObj l o) :=
  ⟨h.os, h.tape, h.output, by rw [World.putObj_size]; exact h.size, fun k hk => (World.putObj_heap_other (by omega)).trans (h.block k hk)⟩
/-- a box holds f k when k have come -/
def BoxI (b : Nat) (f : Nat → Value) : OwnP := fun k O W => W.cell? ⟨b, 0, none⟩ = some (f k) ∧ W.frozen? ⟨b, 0, none⟩ = false ∧ O b ∧ ∀ x, O x → x < W.heap.size
theorem boxI_stab (b : Nat) (f : Nat → Value) : StabO (BoxI b f) := fun k O W W' h hs hO =>
  ⟨(World.cell?_of_block (w := W) (a := ⟨b, 0, none⟩) (hO b h.2.2.1)).trans h.1, (World.frozen?_of_block (w := W) (a := ⟨b, 0, none⟩) (hO b h.2.2.1)).trans h.2.1, h.2.2.1, fun x hx => Nat.lt_of_lt_of_le (h.2.2.2 x hx) hs⟩
theorem boxI_lt (b : Nat) (f : Nat → Value) : LtO (BoxI b f) := fun k O W h => h.2.2.2

/-- the last of the first k, or 0 -/
def lastZ (xs : List Int) (k : Nat) : Int := if k = 0 then 0 else xs.getD (k - 1) 0
theorem lastZ_succ (xs : List Int) (j : Nat) (hj : j < xs.length) : lastZ xs (j + 1) = xs[j] := by
  simp only [lastZ, Nat.add_one_ne_zero, if_false, Nat.add_sub_cancel]
  rw [List.getD_eq_getElem?_getD, List.getElem?_eq_getElem hj]; rfl
def topI (m : Nat) : Int := lastZ (sel m.testBit 64) (sel m.testBit 64).length

end Go.Proofs.YtchceegpbfecaaaDoor
